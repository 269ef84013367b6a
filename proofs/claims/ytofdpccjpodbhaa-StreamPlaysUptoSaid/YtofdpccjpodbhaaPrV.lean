/-
  A stream beside the document's: ranges. Conditions: both stand alike; the bytes lie elsewhere.
-/
import Derived.Test.YtofdpccjpodbhaaMg43
namespace Go.Proofs.Ytofdpccjpodbhaa
open Go.RowKit
set_option linter.unusedVariables false

/-- the temporaries of ranges at its loop -/
def tmX (K : PK) (kd nn mm : Int) (da : Option Addr) (dn dc : Nat) (ma : Option Addr) (mn mc often x gk g gS gC i : Nat) (xf : Nat → Value) : Array Value := #[.pointer (some ⟨K.pb, 0, none⟩), .agg #[.int .i64 kd, .int .i64 nn, .int .i64 mm, .slice da dn dc, .slice ma mn mc], .int .i64 often, .pointer (some ⟨x, 0, none⟩), .pointer (some ⟨x + 1, 0, none⟩), xf 5, .bool false, .slice (some ⟨g, 0, none⟩) dn (dn + 9), .func (.func 60) #[] #[.pointer (some ⟨gS, 0, none⟩), .pointer (some ⟨gC, 0, none⟩)], .bool true, .pointer (some ⟨gk, 0, none⟩), .int .i64 i, xf 12, xf 13, xf 14, xf 15, xf 16, xf 17, xf 18, xf 19, xf 20, xf 21, xf 22, xf 23, xf 24, xf 25, xf 26, xf 27, xf 28, xf 29, xf 30, xf 31, xf 32, xf 33, xf 34, xf 35, xf 36, xf 37, xf 38, xf 39, xf 40, xf 41, xf 42, xf 43, xf 44, xf 45, xf 46, xf 47, xf 48, xf 49, xf 50, xf 51, xf 52, xf 53, xf 54, xf 55, xf 56, xf 57, xf 58, xf 59, xf 60, xf 61, xf 62, xf 63, xf 64, xf 65, xf 66, xf 67, xf 68, xf 69, xf 70, xf 71, xf 72, xf 73, xf 74, xf 75, xf 76, xf 77, xf 78, xf 79, xf 80, xf 81, xf 82, xf 83, xf 84, xf 85, xf 86, xf 87, xf 88, xf 89, xf 90, xf 91, xf 92, xf 93, xf 94, xf 95, xf 96, xf 97, xf 98, xf 99, xf 100, xf 101, xf 102, xf 103, xf 104, xf 105, xf 106, xf 107, xf 108, xf 109, xf 110, xf 111, xf 112, xf 113, xf 114, xf 115, xf 116, xf 117, xf 118, xf 119, xf 120, xf 121, xf 122, xf 123, xf 124, xf 125, xf 126, xf 127, xf 128, xf 129, xf 130, xf 131, xf 132, xf 133, xf 134, xf 135, xf 136]

def RunW (w : World) (K : PK) (N : Nat) (O : Nat → Prop) (hv : Value) (kd nn mm : Int) (da : Option Addr) (dn dc : Nat) (ma : Option Addr) (mn mc often x gk g gS gC : Nat) (pv : Option Addr) (cv : Nat) (data : List UInt8) (a : Act) (W : World) : Prop :=
  ∃ (i : Nat) (xf : Nat → Value) (s : SM) (O' : Nat → Prop) (hv' : Value) (Ds : List Nat), a = { tmps := tmX K kd nn mm da dn dc ma mn mc often x gk g gS gC i xf, defers := Ds.map fun D => { target := .collected D, args := #[] } } ∧
    RunV w K (N + i * (dn * (1 + mn))) O hv x gk gS gC pv data.length cv data #[.int .i64 kd, .int .i64 nn, .int .i64 mm, .slice da dn dc, .slice ma mn mc] s O' hv' Ds W ∧ i ≤ often

theorem runW_of {w : World} {K : PK} {N : Nat} {O : Nat → Prop} {hv : Value} {kd nn mm : Int} {da : Option Addr} {dn dc : Nat} {ma : Option Addr} {mn mc often x gk g gS gC : Nat} {pv : Option Addr} {cv : Nat} {data : List UInt8} {a : Act} {W : World} {i : Nat} {s : SM} {O' : Nat → Prop} {hv' : Value} {Ds : List Nat}
    (h1 : a.tmps = tmX K kd nn mm da dn dc ma mn mc often x gk g gS gC i (fun k => a.tmps.getD k undef)) (h2 : a.defers = Ds.map fun D => { target := .collected D, args := #[] }) (h3 : RunV w K (N + i * (dn * (1 + mn))) O hv x gk gS gC pv data.length cv data #[.int .i64 kd, .int .i64 nn, .int .i64 mm, .slice da dn dc, .slice ma mn mc] s O' hv' Ds W) (h4 : i ≤ often) :
    RunW w K N O hv kd nn mm da dn dc ma mn mc often x gk g gS gC pv cv data a W := by
  refine ⟨i, fun k => a.tmps.getD k undef, s, O', hv', Ds, ?_, h3, h4⟩
  rw [← h1, ← h2]

set_option maxRecDepth 20000 in
set_option maxHeartbeats 4000000 in
theorem pranges_any (w : World) (K : PK) (N : Nat) (s : SM) (O : Nat → Prop) (hv : Value) (kd nn mm : Int) (da : Option Addr) (dn dc : Nat) (ma : Option Addr) (mn mc : Nat) (data more : List UInt8) (often : Nat) (h : Sync K N s O hv w) (ho : often ≤ 2) (hN : N + often * (dn * (1 + mn)) ≤ 549755813888)
    (hbd : BytesIn w da dn dc data) (hdz : dn ≤ 1048576) (hdl : LowA K.B da dc) (hbm : BytesIn w ma mn mc more) (hmz : mn ≤ 1048576) (hml : LowA K.B ma mc) :
    Calls Try.prog 54 #[.pointer (some ⟨K.pb, 0, none⟩), .agg #[.int .i64 kd, .int .i64 nn, .int .i64 mm, .slice da dn dc, .slice ma mn mc], .int .i64 often] w (EPost K (N + often * (dn * (1 + mn))) (.bool true) O hv w) := by
  obtain ⟨fr, rv, vc, vd, L, M, hp, hLM, hLN⟩ := h
  have hlt := hp.blt
  have hcl := hbd.len
  have HP := Lib.hid hp
  have HLM := Lib.hid (And.intro hLM hLN)
  have HBD := Lib.hid (And.intro hbd hdl)
  have HBM := Lib.hid (And.intro hbm hml)
  have HLT := Lib.hid hlt
  have HCL := Lib.hid hcl
  have HNN := Lib.hid hN
  have hfn := func_nil
  clear hp hLM hbd hdl hbm hml hlt hcl hN
  refine calls_of_wp_marksN Try.func54 rfl ?_
  simp only [Try.ntmps54, List.size_toArray, List.length_cons, List.length_nil, Nat.reduceAdd, Nat.reduceSub, Array.replicate_succ, Array.replicate_zero, List.push_toArray, List.append_toArray, List.nil_append, List.cons_append]
  go_upto_region 1 with fail
  have hb1 : Below w.heap.size w ((w.alloc (.cells #[.pointer (some ⟨K.pb, 0, none⟩)] 55)).alloc (.cells #[.int .i64 kd, .int .i64 nn, .int .i64 mm, .slice da dn dc, .slice ma mn mc] 64)) := ((Below.refl _ w).alloc (Nat.le_refl _) _).alloc (by simp) _
  have p1 : ((w.alloc (.cells #[.pointer (some ⟨K.pb, 0, none⟩)] 55)).alloc (.cells #[.int .i64 kd, .int .i64 nn, .int .i64 mm, .slice da dn dc, .slice ma mn mc] 64)).heap[w.heap.size]? = some (.cells #[.pointer (some ⟨K.pb, 0, none⟩)] 55 (0, 0)) := (heap_alloc_old _ _ (by simp)).trans (heap_alloc_new _ _)
  have o1 : ((w.alloc (.cells #[.pointer (some ⟨K.pb, 0, none⟩)] 55)).alloc (.cells #[.int .i64 kd, .int .i64 nn, .int .i64 mm, .slice da dn dc, .slice ma mn mc] 64)).heap[w.heap.size + 1]? = some (.cells #[.int .i64 kd, .int .i64 nn, .int .i64 mm, .slice da dn dc, .slice ma mn mc] 64 (0, 0)) := heap_alloc2_new _ _ _
  have z1 : ((w.alloc (.cells #[.pointer (some ⟨K.pb, 0, none⟩)] 55)).alloc (.cells #[.int .i64 kd, .int .i64 nn, .int .i64 mm, .slice da dn dc, .slice ma mn mc] 64)).heap.size = w.heap.size + 2 := by simp
  generalize ((w.alloc (.cells #[.pointer (some ⟨K.pb, 0, none⟩)] 55)).alloc (.cells #[.int .i64 kd, .int .i64 nn, .int .i64 mm, .slice da dn dc, .slice ma mn mc] 64)) = w1 at *
  obtain ⟨x, hx⟩ : ∃ x, w.heap.size = x := ⟨_, rfl⟩
  have HX := Lib.hid hx
  have hlowD := Low.of_below HP.out.bb.2.2 hb1
  have hcall := lentB_any w1 da dn dc data (HBD.out.1.low hlowD.1 hlowD.2 HBD.out.2) hdz
  unfold LbOut at hcall
  rw [HCL.out, z1] at hcall
  rw [hx] at p1 o1 z1 hcall ⊢
  have q3 : w1.cell? ⟨x + 1, 3, none⟩ = some (.slice da dn dc) := (cell_of_row _ _ 3 _ _ _ o1).trans rfl
  have HB1 := Lib.hid hb1
  have HR1 := Lib.hid (And.intro p1 (And.intro o1 z1))
  clear hb1 p1 o1 z1 hx hlowD
  go_wp2_with fail
  refine hcall.mono ?_
  clear hcall q3
  rintro e w2 ⟨rfl, hb2, hz2, hl2⟩
  have p2 := (hb2.block x (by omega)).trans HR1.out.1
  have o2 := (hb2.block (x + 1) (by omega)).trans HR1.out.2.1
  have hbw2 := HB1.out.trans (hb2.mono (by have := HX.out; omega))
  have hll : (data ++ markB).length = dn + 9 := by rw [List.length_append, HCL.out]; rfl
  have hbl := hl2.bytes 0 dn (dn + 9) (by omega) (by omega) (by unfold maxLen; omega)
  rw [List.drop_zero, List.take_left' HCL.out] at hbl
  have q0 : w2.cell? ⟨x, 0, none⟩ = some (.pointer (some ⟨K.pb, 0, none⟩)) := (cell_of_row _ _ 0 _ _ _ p2).trans rfl
  have c0 : w2.cell? ⟨K.pb, 0, none⟩ = some (.pointer (some ⟨K.b, 0, none⟩)) := (cell_of_row _ _ 0 _ _ _ (HP.out.below hbw2).cell).trans rfl
  have hcall := all_any w2 K.b (some ⟨x + 2, 0, none⟩) dn (dn + 9) data hbl (by omega)
  have HL2 := Lib.hid hl2
  have HB2 := Lib.hid hbw2
  have HR2 := Lib.hid (And.intro p2 (And.intro o2 (And.intro hz2 HR1.out.2.2)))
  clear hb2 hz2 hl2 p2 o2 hbw2 hll hbl HR1 HB1
  go_wp2_with fail
  refine hcall.mono ?_
  clear hcall q0 c0
  rintro e w3 ⟨gS, gC, v, rfl, hg3, hcS, hcC, hov, hzS, hzC, hvS, hvC⟩
  have hz2 : w2.heap.size = x + 3 := by have := HR2.out.2.2.1; have := HR2.out.2.2.2; omega
  have hb3 : Below w2.heap.size w2 w3 := ⟨hg3.os, hg3.tape, hg3.output, hg3.size, fun k hk => hg3.block k hk (by simp)⟩
  have p3 := (hb3.block x (by omega)).trans HR2.out.1
  have o3 := (hb3.block (x + 1) (by omega)).trans HR2.out.2.1
  have hl3 := HL2.out.below hb3
  have hbw3 := HB2.out.trans (hb3.mono HB2.out.size)
  have hlow3 := Low.of_below HP.out.bb.2.2 hbw3
  have hcall := asLentB_any w3 (x + 2) dn dc data da hl3 (HBD.out.1.low hlow3.1 hlow3.2 HBD.out.2) hdz
  have q3 : w3.cell? ⟨x + 1, 3, none⟩ = some (.slice da dn dc) := (cell_of_row _ _ 3 _ _ _ o3).trans rfl
  obtain ⟨pv, cv, rfl, hbv⟩ := hov.bytes
  have hlov : ∀ j, (Value.slice pv data.length cv).ownBlock = some j → w2.heap.size ≤ j ∧ j < w3.heap.size := fun j hj => hov.row.lt j hj
  have HALL := Lib.hid (And.intro hcS (And.intro hcC (And.intro hbv (And.intro hlov (And.intro hzS (And.intro hzC (And.intro hz2 (And.intro hb3.size (And.intro hbw3 (And.intro p3 o3))))))))))
  clear hg3 hcS hcC hov hzS hzC hvS hvC hb3 p3 o3 hl3 hbw3 hlow3 hbv hlov HR2 HB2 HL2 hz2
  go_wp2_with fail
  refine hcall.mono ?_
  clear hcall q3
  rintro e w4 ⟨rfl, hg4, hz4⟩
  go_upto_region 7 with fail
  obtain ⟨hcS, hcC, hbv, hlov, hzS, hzC, hz2, hz3, hbw3, p3, o3⟩ := HALL.out
  have ba : Below w4.heap.size w4 (w4.alloc (.cells #[.bool true] 4)) := (Below.refl _ w4).alloc (Nat.le_refl _) _
  have k5 : (w4.alloc (.cells #[.bool true] 4)).heap[w4.heap.size]? = some (.cells #[.bool true] 4 (0, 0)) := heap_alloc_new w4 _
  have z5 : (w4.alloc (.cells #[.bool true] 4)).heap.size = w4.heap.size + 1 := by simp
  generalize (w4.alloc (.cells #[.bool true] 4)) = w5 at *
  rw [hz4] at k5 z5
  obtain ⟨gk, hgk⟩ : ∃ gk, w3.heap.size = gk := ⟨_, rfl⟩
  rw [hgk] at k5 z5 ⊢
  have hxs := HX.out
  have hbs3 := hbw3.size
  have st : ∀ j, j < w3.heap.size → j ≠ x + 2 → w5.heap[j]? = w3.heap[j]? := fun j h1 h2 => (ba.block j (by omega)).trans (hg4.block j h1 (fun e => h2 (Option.some.inj e)))
  have hbw5 : Below w.heap.size w w5 := ⟨ba.os.trans (hg4.os.trans hbw3.os), ba.tape.trans (hg4.tape.trans hbw3.tape), ba.output.trans (hg4.output.trans hbw3.output), by omega, fun j hj => (st j (by omega) (by omega)).trans (hbw3.block j hj)⟩
  have hgSlt := cell_lt hcS
  have hgClt := cell_lt hcC
  simp only at hgSlt hgClt
  have key : ∀ j, w.heap.size ≤ j → j < w5.heap.size → ¬ O j ∧ hv.ownBlock ≠ some j ∧ w.heap.size ≤ j ∧ j < w5.heap.size := fun j h1 h2 => ⟨fun e => by have := HLT.out j (.inl e); omega, fun e => by have := HLT.out j (.inr (.inr e)); omega, h1, h2⟩
  have hpvl : ∀ a, pv = some a → w2.heap.size ≤ a.block ∧ a.block < w3.heap.size := fun a ha => hlov a.block (by rw [ha]; rfl)
  have hrun : RunV w K (N + 0 * (dn * (1 + mn))) O hv x gk gS gC pv data.length cv data #[.int .i64 kd, .int .i64 nn, .int .i64 mm, .slice da dn dc, .slice ma mn mc] s O hv [] w5 := by
    refine ⟨⟨fr, rv, vc, vd, L, M, HP.out.below hbw5, HLM.out.1, by have := HLM.out.2; omega⟩, KeepO.of_below hbw5, (st x (by omega) (by omega)).trans p3, (st (x + 1) (by omega) (by omega)).trans o3, k5, (World.cell?_of_block (st gS hgSlt (by omega))).trans hcS, (World.cell?_of_block (st gC hgClt (by omega))).trans hcC,
      ⟨hbv.len, hbv.le, hbv.cap, fun hc => ?_⟩, fun j hj => ?_, fun j hj => ?_, by simp, by simp, HLT.out K.b (.inr (.inl rfl))⟩
    · obtain ⟨g, o, e1, hlt, hcell⟩ := hbv.at_ hc
      have := hpvl _ e1
      simp only at this
      exact ⟨g, o, e1, by omega, fun i hi => (World.cell?_of_block (st g hlt (by omega))).trans (hcell i hi)⟩
    · rcases hj with rfl | rfl | rfl | rfl | rfl | ⟨a, ha, rfl⟩
      · exact key _ (by omega) (by omega)
      · exact key _ (by omega) (by omega)
      · exact key _ (by omega) (by omega)
      · exact key _ (by omega) (by omega)
      · exact key _ (by omega) (by omega)
      · have := hpvl a ha
        exact key _ (by omega) (by omega)
    · rcases hj with rfl | rfl | ⟨a, ha, rfl⟩
      · exact ⟨by omega, by omega, by omega⟩
      · exact ⟨by omega, by omega, by omega⟩
      · have := hpvl a ha
        exact ⟨by omega, by omega, by omega⟩
  have HRUN := Lib.hid hrun
  have hKB : Hid (K.B ≤ w.heap.size ∧ K.B ≤ K.b ∧ ∀ j, O j → K.B ≤ j) := Lib.hid ⟨HP.out.bb.2.2, HP.out.bb.1, fun j hj => (HP.out.ow j hj).1⟩
  have HS0 : Hid (Sync K N s O hv w) := Lib.hid ⟨fr, rv, vc, vd, L, M, HP.out, HLM.out.1, HLM.out.2⟩
  clear hcS hcC hbv hlov hzS hzC hz2 hz3 hbw3 p3 o3 ba k5 z5 hgk hxs hbs3 st hbw5 hgSlt hgClt key hpvl hrun HALL hg4 hz4 HP HLM HLT
  go_wp2_with fail
  refine wp_loop (RunW w K N O hv kd nn mm da dn dc ma mn mc often x gk (x + 2) gS gC pv cv data) (fun a _ => often - (intOf (a.tmps.getD 11 undef)).toNat) ?_ ?_
  · exact runW_of (i := 0) (by kernel_rfl) (Ds := []) rfl HRUN.out (Nat.zero_le _)
  · rintro a W ⟨i, xf, s', O', hv', Ds, rfl, hR, hi⟩
    have HR := Lib.hid hR
    clear hR HRUN
    unfold tmX
    rcases Nat.lt_or_ge i often with h1 | h1
    rotate_left
    · have h2 : ¬ (i : Int) < often := by omega
      have e : i = often := by omega
      subst e
      have k9 : W.cell? ⟨gk, 0, none⟩ = some (.bool true) := (cell_of_row _ _ 0 _ _ _ HR.out.ck).trans rfl
      go_wp2_with fail
      exact endV HR.out _ rfl
    · have h2 : (i : Int) < often := by omega
      have q3 : W.cell? ⟨x + 1, 3, none⟩ = some (.slice da dn dc) := (cell_of_row _ _ 3 _ _ _ HR.out.co).trans rfl
      have H1 := Lib.hid h1
      have HI := Lib.hid hi
      go_upto_region 13 with fail
      have hb6 : Below W.heap.size W (((W.alloc (.cells #[.slice da dn dc] 22)).alloc (.cells #[.int .i64 0] 3)).alloc (.cells #[.bool true] 4)) := (((Below.refl _ W).alloc (Nat.le_refl _) _).alloc (by simp) _).alloc (by simp; omega) _
      have l6 : (((W.alloc (.cells #[.slice da dn dc] 22)).alloc (.cells #[.int .i64 0] 3)).alloc (.cells #[.bool true] 4)).heap[W.heap.size]? = some (.cells #[.slice da dn dc] 22 (0, 0)) := (heap_alloc_old _ _ (by simp; omega)).trans ((heap_alloc_old _ _ (by simp)).trans (heap_alloc_new _ _))
      have n6 : (((W.alloc (.cells #[.slice da dn dc] 22)).alloc (.cells #[.int .i64 0] 3)).alloc (.cells #[.bool true] 4)).heap[W.heap.size + 1]? = some (.cells #[.int .i64 0] 3 (0, 0)) := (heap_alloc_old _ _ (by simp)).trans (heap_alloc2_new _ _ _)
      have z6 : (((W.alloc (.cells #[.slice da dn dc] 22)).alloc (.cells #[.int .i64 0] 3)).alloc (.cells #[.bool true] 4)).heap.size = W.heap.size + 3 := by simp
      have v6 : (((W.alloc (.cells #[.slice da dn dc] 22)).alloc (.cells #[.int .i64 0] 3)).alloc (.cells #[.bool true] 4)).heap[W.heap.size + 2]? = some (.cells #[.bool true] 4 (0, 0)) := by
        have := heap_alloc_new ((W.alloc (.cells #[.slice da dn dc] 22)).alloc (.cells #[.int .i64 0] 3)) (.cells #[.bool true] 4)
        rwa [World.size_alloc, World.size_alloc] at this
      generalize (((W.alloc (.cells #[.slice da dn dc] 22)).alloc (.cells #[.int .i64 0] 3)).alloc (.cells #[.bool true] 4)) = W6 at *
      go_wp2_with fail
      refine wp_rangeFunc_any (gf := 60) (lb := #[.pointer (some ⟨gS, 0, none⟩), .pointer (some ⟨gC, 0, none⟩)]) rfl (enters_of Try.func60 (by kernel_rfl) rfl) ?_
      rw [z6]
      intro Kb W1 hg1 hz1 hrd hyield
      simp only [List.append_toArray, List.cons_append, List.nil_append]
      obtain ⟨fr', rv', vc', vd', L', M', hp', hm', hl'⟩ := HR.out.sync
      have hblt := hp'.blt
      have hKb := HR.out.hb
      have hwz := HR.out.keep.size
      have hxs := HX.out
      have fx := HR.out.off x (.inl rfl)
      have fo := HR.out.off (x + 1) (.inr (.inl rfl))
      have fk := HR.out.off gk (.inr (.inr (.inl rfl)))
      have hkb := hKB.out
      have hcl := HCL.out
      have hbd1 : Below W.heap.size W W1 := ⟨hg1.os.trans hb6.os, hg1.tape.trans hb6.tape, hg1.output.trans hb6.output, by have := hg1.size; omega, fun j hj => (hg1.block j (by omega) (by simp)).trans (hb6.block j hj)⟩
      have hlw := (HS0.out.low HR.out.keep).trans (Low.of_below hp'.bb.2.2 hbd1)
      have hmul : (i + 1) * (dn * (1 + mn)) ≤ often * (dn * (1 + mn)) := Nat.mul_le_mul_right _ (by have := H1.out; omega)
      rw [Nat.add_mul, Nat.one_mul] at hmul
      have hNN := HNN.out
      have hR := rides_V (K := K) (N0 := N + i * (dn * (1 + mn))) (gp := x) (gk := gk) (gl := W.heap.size) (go := x + 1) (gn := W.heap.size + 1) (gv := W.heap.size + 2) (n := data.length) (pa := pv) (c := cv) (ch := data) (kd := kd) (nn := nn) (mm := mm) (da := da) (dn := dn) (dc := dc) (ma := ma) (mn := mn) (mc := mc) (more := more) (hv0 := hv') (O0 := OV O' x gk W.heap.size (W.heap.size + 4)) (W1 := W1) Kb _ _ _ _ _ _ _ _ _ _ _ _ _ _ _ _ _ _ _ _ _ _ _ _ _ _ _ _ _ _ _ _ _ _ _ _ _ _ _ _ _ _ _ _ _ _ _ _ _ _ _ _ _ _ _ _ _ _ _ _ _ _ _ _ _ _ _ _ _ _ _ _ _ _ _ _ _ _ _ _ _ _ _ _ _ _ _ _ _ _ _ _ _ _ _ _ _ _ _ _ _ _ _ _ _ _ _ _ _ _ _ _ _ _ _ _ _ _ _ _ _ _ _ _ _ _ _ _ _ _ _ _ _ (by kernel_rfl) (by omega)
        ⟨by rintro (ho | ho | ho | ho | ho | ho | ho | ho) <;> first | exact absurd (hblt _ (.inl ho)) (by omega) | omega, fun e => by omega, fun e => by have := hblt _ (.inr (.inr e)); omega⟩ ⟨by omega, by omega, by omega, by omega, by omega, by omega, by omega, by omega⟩ (by omega)
        (by rintro j (ho | ho | ho | ho | ho | ho | ho | ho) <;> first | exact (hp'.ow j ho).1 | omega) (by rw [hcl]; omega) (HR.out.by_.below hbd1) (by
          intro a ha
          have h9 := HR.out.off a.block (.inr (.inr (.inr (.inr (.inr ⟨a, ha, rfl⟩)))))
          have h8 := HR.out.lt a.block (.inr (.inr ⟨a, ha, rfl⟩))
          exact ⟨by rintro (ho | ho | ho | ho | ho | ho | ho | ho) <;> first | exact h9.1 ho | omega, fun e => by omega, h9.2.1⟩)
        (HBM.out.1.low hlw.1 hlw.2 HBM.out.2) hmz HBM.out.2 ⟨hkb.2.1, hp'.bb.2.1⟩ hyield
      have at1 : ∀ {j : Nat} {o : Obj}, W6.heap[j]? = some o → W1.heap[j]? = some o := fun hj => (hg1.block _ (Array.getElem?_eq_some_iff.1 hj).1 (by simp)).trans hj
      have at0 : ∀ {j : Nat} {o : Obj}, W.heap[j]? = some o → W1.heap[j]? = some o := fun hj => (hbd1.block _ (Array.getElem?_eq_some_iff.1 hj).1).trans hj
      have hJ0 : JV Kb K (N + i * (dn * (1 + mn))) data.length mn x gk W.heap.size (x + 1) (W.heap.size + 1) (W.heap.size + 2) #[.int .i64 kd, .int .i64 nn, .int .i64 mm, .slice da dn dc, .slice ma mn mc] hv' (OV O' x gk W.heap.size (W.heap.size + 4)) W1 data 0 s' hv' (OV O' x gk W.heap.size (W.heap.size + 4)) W1 := by
        refine ⟨hrd, KeepO.refl _ _ _ _ _, ⟨s', 0, fr', rv', vc', vd', L', M', O', da, dn, dc, hp'.below hbd1, hm', by omega, Nat.le_refl _, Nat.zero_le _, TakeAt.start _ _, at1 l6, by omega, by rw [List.drop_zero]; exact HBD.out.1.low hlw.1 hlw.2 HBD.out.2, HBD.out.2, fun j hj => ?_⟩, at0 HR.out.ck, at0 HR.out.cp, at0 HR.out.co, ⟨0, at1 n6⟩, at1 v6, fun j hj => ?_,
          ⟨.inr (.inr (.inr (.inr (.inr (.inr (.inr rfl)))))), .inr (.inl rfl), .inr (.inr (.inr (.inl rfl))), .inr (.inr (.inr (.inr (.inl rfl)))), .inr (.inr (.inl rfl)), .inr (.inr (.inr (.inr (.inr (.inl rfl))))), .inr (.inr (.inr (.inr (.inr (.inr (.inl rfl))))))⟩⟩
        · have h1 := hblt j (.inl hj)
          exact ⟨.inl hj, fun e => fx.1 (e ▸ hj), fun e => fk.1 (e ▸ hj), by omega, fun e => fo.1 (e ▸ hj), by omega, by omega, by omega, by omega⟩
        · rcases hj with ho | ho | ho | ho | ho | ho | ho | ho
          · have h1 := hp'.ow j ho
            exact ⟨by omega, h1.2.2.1, h1.2.2.2⟩
          · subst ho; exact ⟨by omega, by omega, fx.2.1⟩
          · subst ho; exact ⟨by omega, by omega, fo.2.1⟩
          · subst ho; exact ⟨by omega, by omega, fk.2.1⟩
          all_goals exact ⟨by omega, by omega, fun e => by have := hblt _ (.inr (.inr e)); omega⟩
      refine (all1_inB W1 (W.heap.size + 3 + 1) K.b K.Bs gS gC pv data.length cv data _ _ hR s' hv' _ hJ0 (hp'.below hbd1).st ((World.cell?_of_block (hbd1.block gS (HR.out.off gS (.inr (.inr (.inr (.inl rfl))))).2.2.2)).trans HR.out.cS) ((World.cell?_of_block (hbd1.block gC (HR.out.off gC (.inr (.inr (.inr (.inr (.inl rfl)))))).2.2.2)).trans HR.out.cC)).mono ?_
      rintro e W2 ⟨⟨v', rfl⟩, h⟩
      refine ⟨⟨_, rfl⟩, ?_⟩
      have hz5 : W1.heap.size = W.heap.size + 5 := by omega
      rcases h with ⟨k2, s2, hv2, O2, hk2, hor, hJ, hs2⟩ | ⟨s2, hv2, O2, hXX, hs2⟩
      · refine .inl ⟨hJ.rdy, fun W3 ht hDf => ?_⟩
        obtain ⟨q, m, fr2, rv2, vc2, vd2, L2, M2, Op, pt, nt, ct, e1, e2, e3, e4, e5, e6, e7, e8, e9, e10, e11⟩ := hJ.st
        have hdone := e6.done (by rw [List.length_drop]; rcases hor with h | h; exact .inl (by omega); exact .inr ⟨by omega, h⟩)
        obtain ⟨hnD2, hnl2⟩ := Kb.rdyN W2 hJ.rdy
        have hA := HR.out.after hb6 z6 hg1 hz5 hJ.keep hJ.cp hJ.co hJ.ck e11 ht
        have hlp : ¬ Op (W.heap.size + 3 + 1) := fun ho => (e11 _ ho).2.2.2.2.2.2.2.1 rfl
        have hlpo := hJ.own _ hJ.inO.1
        have hp3 := e1.grown ht.1 hlp hlpo.2.1 hlpo.2.2
        have at3 : ∀ {j : Nat} {cs : Array Value} {T : Nat} {f : Nat × Nat}, W2.heap[j]? = some (.cells cs T f) → W3.heap[j]? = some (.cells cs T f) := fun hj => (ht.1.block _ (Array.getElem?_eq_some_iff.1 hj).1 (fun e => cells_not hj hnl2 (Option.some.inj e))).trans hj
        have hl3 := at3 e7
        have hv3 := at3 hJ.cv
        have hpx3 := at3 hJ.cp
        have hk3 := at3 hJ.ck
        have hlow3 : Low K w W3 := HS0.out.low hA.1
        have hby3 : BytesIn W3 pt nt ct (data.drop m) := e9.low (B := K.B) (fun j hj => ht.1.block j (by have := e1.bb.2.2; omega) (fun e => by have := Option.some.inj e; omega)) ht.1.size e10
        have hD3 : W3.heap[W.heap.size + 3]? = some (.deferred (some [])) ∧ ¬ Op (W.heap.size + 3) := ⟨hDf, fun ho => (e11 _ ho).2.2.2.2.2.2.2.2 rfl⟩
        have hgkO : ¬ Op gk := fun ho => (e11 _ ho).2.2.1 rfl
        have HC : Hid (∀ V0, Below W3.heap.size W3 V0 → Calls Try.prog 67 #[.pointer (some ⟨K.r, 0, none⟩), .slice pt nt ct] V0 (TookE K w O hv 0 s2 hv2 vc2 vd2 L2 M2 Op (data.drop m).length W3 V0)) := Lib.hid (fun V0 hV => by
          have hp := hp3.below hV
          have hl := Low.of_below (K := K) hp3.bb.2.2 hV
          have h := rtake_any V0 K.r K.Br fr2 q rv2 pt nt ct (data.drop m) hp.re hp.okq hp.rel (hby3.low hl.1 hl.2 e10) (fun hc0 a ha => by
            have h1 := e10 hc0 a ha
            have h2 := (hp.ow _ hp.oo.2.1).1
            exact ⟨by omega, fun e => by have := (hp.ow _ (hp.oo.2.2 _ e)).1; omega⟩)
          unfold RTPost at h
          rw [hdone] at h
          simp only at h
          refine h.mono ?_
          rintro e V ⟨fr', rv', we, wb, rfl, hin, hrel, hok, hm, hit, ha1, ha2⟩
          obtain ⟨_, rfl, rfl⟩ := hit.nil rfl
          have hKV := (hA.1.trans (KeepO.of_below (N := w.heap.size) hV) (Nat.le_refl _) (Nat.le_refl _)).trans (hp.keepR (N := w.heap.size) hm (Nat.le_trans hA.1.size hV.size)) (Nat.le_refl _) (Nat.le_refl _)
          exact ⟨fr', rv', rfl, hp.moveR hm hin hrel hok, hKV, fun j h1 h2 => hm.block j h1 (fun e => h2 (e ▸ hp.oo.2.1)) (fun e => h2 (hp.oo.2.2 j e)), fun j hj => (by
            rcases hm.hv with h3 | h3 | ⟨g, h3, h4⟩
            · rw [h3] at hj; simp at hj
            · exact .inl (hp.oo.2.2 j (h3 ▸ hj))
            · rw [h3] at hj; exact .inr (by cases hj; exact h4)), hm.size⟩)
        have hmm : m * (1 + mn) ≤ dn * (1 + mn) := Nat.mul_le_mul_right _ (by omega)
        have HL2 : Hid (L2.map Prod.fst = M2.map Prod.fst ∧ L2.length ≤ N + (i + 1) * (dn * (1 + mn))) := Lib.hid ⟨e2, by rw [Nat.add_mul, Nat.one_mul]; omega⟩
        have v0 : W3.cell? ⟨W.heap.size + 1 + 1, 0, none⟩ = some (.bool true) := (cell_of_row _ _ 0 _ _ _ hv3).trans rfl
        have r1 : W3.cell? ⟨K.pb, 1, none⟩ = some (.pointer (some ⟨K.r, 0, none⟩)) := (cell_of_row _ _ 1 _ _ _ hp3.cell).trans rfl
        have p0 : W3.cell? ⟨x, 0, none⟩ = some (.pointer (some ⟨K.pb, 0, none⟩)) := (cell_of_row _ _ 0 _ _ _ hpx3).trans rfl
        have l0 : W3.cell? ⟨W.heap.size, 0, none⟩ = some (.slice pt nt ct) := (cell_of_row _ _ 0 _ _ _ hl3).trans rfl
        have HP3 := Lib.hid hp3
        have HK3 := Lib.hid (And.intro hk3 hgkO)
        have HAA := Lib.hid hA
        have HD3 := Lib.hid hD3
        have HI1 : Hid (i < often) := Lib.hid H1.out
        clear e1 e2 e3 e4 e5 e6 e7 e8 e9 e10 e11 hJ hJ0 hR hbd1 hyield hrd hz1 hg1 hblt hKb hwz hxs fx fo fk hkb hcl hlw hmul hNN at1 at0 hz5 hs2 hor hk2 hdone hnD2 hnl2 hA hlp hlpo hp3 at3 hl3 hv3 hpx3 hk3 hlow3 hby3 hD3 hgkO hmm ht hDf hp' hm' hl' hb6 l6 n6 v6 z6 hfn
        simp only [Exit.inBlock, Exit.then]
        go_at_K
        have HB0 : Hid (Below W3.heap.size W3 W3.drew) := Lib.hid ⟨rfl, rfl, rfl, Nat.le_refl _, fun _ _ => rfl⟩
        have HBe : Hid (Below W3.heap.size W3 (W3.alloc (.cells #[.int .i64 0, .int .i64 0, .int .i64 0, .int .i64 0, .slice none 0 0, .slice none 0 0] 71)).drew) := by
          have h := (Below.refl W3.heap.size W3).alloc (Nat.le_refl _) (.cells #[.int .i64 0, .int .i64 0, .int .i64 0, .int .i64 0, .slice none 0 0, .slice none 0 0] 71)
          exact Lib.hid ⟨h.os, h.tape, h.output, h.size, h.block⟩
        have hltp := cell_lt p0
        have hltl := cell_lt l0
        have hltr := cell_lt r1
        have p0e := (HBe.out.cell (p := ⟨x, 0, none⟩) hltp).trans p0
        have l0e := (HBe.out.cell (p := ⟨W.heap.size, 0, none⟩) hltl).trans l0
        have r1e := (HBe.out.cell (p := ⟨K.pb, 1, none⟩) hltr).trans r1
        clear hltp hltl hltr
        have HC0 := Lib.hid (HC.out _ HB0.out)
        have HCe := Lib.hid (HC.out _ HBe.out)
        have HZe : Hid ((W3.alloc (.cells #[.int .i64 0, .int .i64 0, .int .i64 0, .int .i64 0, .slice none 0 0, .slice none 0 0] 71)).drew.heap[W3.heap.size]? = some (.cells #[.int .i64 0, .int .i64 0, .int .i64 0, .int .i64 0, .slice none 0 0, .slice none 0 0] 71 (0, 0))) := Lib.hid (heap_alloc_new W3 _)
        have HZl : Hid (W3.heap.size < (W3.alloc (.cells #[.int .i64 0, .int .i64 0, .int .i64 0, .int .i64 0, .slice none 0 0, .slice none 0 0] 71)).drew.heap.size) := Lib.hid (by show W3.heap.size < (W3.alloc _).heap.size; simp)
        have HZo : Hid (¬ Op W3.heap.size) := Lib.hid (fun ho => by have := HP3.out.blt _ (.inl ho); omega)
        clear HC
        go_upto_region 29 with fail
        go_cut [21, 22] from 121 to 129 (fun s21 s22 wx => s22 = .int .i64 ((data.drop m).length : Nat) ∧ ∃ a21, s21 = .pointer (some ⟨a21, 0, none⟩) ∧ TookV K w O hv s2 hv2 vc2 vd2 L2 M2 Op W3 a21 wx)
        case first =>
          go_region_law (first
            | (go_simp; go_at_call 67; (with_reducible refine HC0.out.mono ?_); rintro e w4 ⟨fr', rv', rfl, hp4, hk4, hf4, hr4, hz4⟩; have HY := Lib.hid HB0.out)
            | (go_simp; go_at_call 67; (with_reducible refine HCe.out.mono ?_); rintro e w4 ⟨fr', rv', rfl, hp4, hk4, hf4, hr4, hz4⟩; have HY := Lib.hid HBe.out; have hh4 := (hf4 _ HZl.out HZo.out).trans HZe.out; have HH4 := Lib.hid hh4; have e0 : w4.cell? ⟨W3.heap.size, 0, none⟩ = some (.int .i64 0) := (by simp [World.cell?, hh4]); have e1 : w4.cell? ⟨W3.heap.size, 1, none⟩ = some (.int .i64 0) := (by simp [World.cell?, hh4]); have e2 : w4.cell? ⟨W3.heap.size, 2, none⟩ = some (.int .i64 0) := (by simp [World.cell?, hh4]); have e3 : w4.cell? ⟨W3.heap.size, 3, none⟩ = some (.int .i64 0) := (by simp [World.cell?, hh4]); have e4 : w4.cell? ⟨W3.heap.size, 4, none⟩ = some (.slice none 0 0) := (by simp [World.cell?, hh4]); have e5 : w4.cell? ⟨W3.heap.size, 5, none⟩ = some (.slice none 0 0) := (by simp [World.cell?, hh4]); have ef : ∀ k, w4.frozen? ⟨W3.heap.size, k, none⟩ = false := (by intro k; simp [World.frozen?, hh4]); clear hh4))
          all_goals
            have HO4 := Lib.hid (And.intro hp4 (And.intro hk4 (And.intro hf4 (And.intro hr4 hz4))))
            clear hp4 hk4 hf4 hr4 hz4
            go_wp2_with fail
            go_meet
            case rel =>
              obtain ⟨y1, y2, y3, y4, y5⟩ := HO4.out
              first
                | (have hz := zeros_row HH4.out
                   have hT := tookV HP3.out HAA.out.1.size y1 y2 y3 y4 y5 HY.out hz.2 (.inl ⟨Nat.le_refl _, HZl.out⟩) hz.1
                   refine ⟨by rw [List.length_drop], W3.heap.size, rfl, ?_⟩
                   with_reducible exact hT)
                | (have hT := tookV HP3.out HAA.out.1.size y1 y2 y3 y4 y5 HY.out (grown_alloc w4 (.cells #[.int .i64 0, .int .i64 0, .int .i64 0, .int .i64 0, .slice none 0 0, .slice none 0 0] 71) (some w4.heap.size)) (.inr (Nat.le_refl _)) (heap_alloc_new w4 _)
                   refine ⟨by rw [List.length_drop], w4.heap.size, rfl, ?_⟩
                   with_reducible exact hT)
        case rest =>
          obtain ⟨rfl, a21, rfl, fr', rv', Oq, c21, hp4, hk4, key4, own4, hz4⟩ := hcut
          have hrn := HR.out.next HAA.out HD3.out ⟨fr', rv', vc2, vd2, L2, M2, hp4, HL2.out.1, HL2.out.2⟩ hk4 key4 own4 hz4
          obtain ⟨w5, hw5⟩ : ∃ w5, w5 = wc := ⟨_, rfl⟩
          subst hw5
          have k5 : w5.cell? ⟨gk, 0, none⟩ = some (.bool true) := (cell_of_row _ _ 0 _ _ _ hrn.ck).trans rfl
          have kf5 : w5.frozen? ⟨gk, 0, none⟩ = false := by simp [World.frozen?, hrn.ck]
          have HN5 := Lib.hid hrn
          clear hp4 hk4 key4 own4 hz4 hrn
          go_wp2_with fail
          have ei : ((i : Int) + 1) = ((i + 1 : Nat) : Int) := by omega
          rw [ei]
          refine ⟨runW_of (i := i + 1) (by kernel_rfl) (Ds := (W.heap.size + 3) :: Ds) rfl HN5.out.setK HI1.out, ?_⟩
          have h9 := HI1.out
          simp only [intOf, Array.getD_eq_getD_getElem?, List.getElem?_toArray, List.getElem?_cons_succ, List.getElem?_cons_zero, Option.getD_some]
          omega
      · refine .inr ⟨.exit 2, hXX.fin2, fun W3 ht hDf => ?_⟩
        obtain ⟨fr2, rv2, vc2, vd2, L2, M2, Op, e1, e2, e3, e4⟩ := hXX.st
        obtain ⟨hnD2, hnl2⟩ := Kb.finN _ W2 hXX.fin2
        have hA := HR.out.after hb6 z6 hg1 hz5 hXX.keep hXX.cp hXX.co hXX.ck e4 ht
        have hp3 := e1.grown ht.1 (fun ho => (e4 _ ho).2.2.2.2.2.2.2.1 rfl) (by omega) (fun e => by
          rcases hXX.keep.held _ e with h9 | h9
          · have := hblt _ (.inr (.inr h9)); omega
          · omega)
        have hv3 := (ht.1.block (W.heap.size + 2) (Array.getElem?_eq_some_iff.1 hXX.cv).1 (fun e => cells_not hXX.cv hnl2 (Option.some.inj e))).trans hXX.cv
        have hD3 : W3.heap[W.heap.size + 3]? = some (.deferred (some [])) ∧ ¬ Op (W.heap.size + 3) := ⟨hDf, fun ho => (e4 _ ho).2.2.2.2.2.2.2.2 rfl⟩
        have hs3 : Sync K (N + (i + 1) * (dn * (1 + mn))) s2 Op hv2 W3 := ⟨fr2, rv2, vc2, vd2, L2, M2, hp3, e2, by rw [Nat.add_mul, Nat.one_mul]; rw [hcl] at e3; omega⟩
        have hrn := HR.out.next hA hD3 hs3 hA.1 (fun _ _ _ => rfl) (fun _ h => .inl h) (Nat.le_refl _)
        have v0 : W3.cell? ⟨W.heap.size + 1 + 1, 0, none⟩ = some (.bool false) := (cell_of_row _ _ 0 _ _ _ hv3).trans rfl
        have HN5 := Lib.hid hrn
        have HI1 : Hid (i < often) := Lib.hid H1.out
        clear e1 e2 e3 e4 hXX hJ0 hR hbd1 hyield hrd hz1 hg1 hblt hKb hwz hxs fx fo fk hkb hcl hlw hmul hNN at1 at0 hz5 hs2 hnD2 hnl2 hA hp3 hv3 hD3 hs3 hrn ht hDf hp' hm' hl' hb6 l6 n6 v6 z6 hfn
        refine (wpIn_wide (n := 5)).1 (wpIn_exit ?_)
        simp only [Exit.inBlock, Exit.then, ↓reduceIte]
        go_at_K
        go_wp2_with fail
        have ei : ((i : Int) + 1) = ((i + 1 : Nat) : Int) := by omega
        rw [ei]
        refine ⟨runW_of (i := i + 1) (by kernel_rfl) (Ds := (W.heap.size + 3) :: Ds) rfl HN5.out HI1.out, ?_⟩
        have h9 := HI1.out
        simp only [intOf, Array.getD_eq_getD_getElem?, List.getElem?_toArray, List.getElem?_cons_succ, List.getElem?_cons_zero, Option.getD_some]
        omega
end Go.Proofs.Ytofdpccjpodbhaa
