/-
  A stream beside the document's: play, one step of a script. Conditions: both stand alike; the bytes lie elsewhere.
  Contracts of longshoreref03's marked and (*ByteBook).Take. Conditions: the list lies in memory and carries its marks; the book lies in memory.
  What (*ByteBook).Owned keeps, loop by loop. It speaks of no code. No conditions.
-/
import Derived.Test.YtofdpccjpodbhaaPrV
import Derived.Test.YtofdpccjpodbhaaMg02
import Derived.Deep.AppendLies
import Derived.Handy
namespace Go.Proofs.Ytofdpccjpodbhaa
open Go.RowKit
set_option linter.unusedVariables false

theorem EPost.up {K : PK} {N N' : Nat} {v : Value} {O : Nat → Prop} {hv : Value} {w w1 : World} {e : Ending} {W' : World} (h : EPost K N v O hv w1 e W') (hb : Below w.heap.size w w1) (hN : N ≤ N') : EPost K N' v O hv w e W' := by
  obtain ⟨s, h1, O', hv', hs, hk⟩ := h
  exact ⟨s, h1, O', hv', hs.le hN, (KeepO.of_below (N := w.heap.size) hb).trans hk (Nat.le_refl _) hb.size⟩

set_option maxRecDepth 20000 in
set_option maxHeartbeats 4000000 in
theorem pplay_any (w : World) (K : PK) (N : Nat) (s : SM) (O : Nat → Prop) (hv : Value) (kd nn mm : Int) (da : Option Addr) (dn dc : Nat) (ma : Option Addr) (mn mc : Nat) (data more : List UInt8) (h : Sync K N s O hv w) (hN : N + (2 * (dn * (1 + mn)) + dn + 1) ≤ 549755813888)
    (hbd : BytesIn w da dn dc data) (hdz : dn ≤ 1048576) (hdl : LowA K.B da dc) (hbm : BytesIn w ma mn mc more) (hmz : mn ≤ 1048576) (hml : LowA K.B ma mc) :
    Calls Try.prog 30 #[.pointer (some ⟨K.pb, 0, none⟩), .agg #[.int .i64 kd, .int .i64 nn, .int .i64 mm, .slice da dn dc, .slice ma mn mc]] w (EPost K (N + (2 * (dn * (1 + mn)) + dn + 1)) (.bool true) O hv w) := by
  have HS := Lib.hid h
  obtain ⟨fr, rv, vc, vd, L, M, hp, hLM, hLN⟩ := h
  have HP := Lib.hid hp
  have HLM := Lib.hid (And.intro hLM hLN)
  have HBD := Lib.hid hbd
  have HBM := Lib.hid hbm
  have HNN := Lib.hid hN
  have HDL := Lib.hid (And.intro hdl hml)
  clear hp hLM hbd hbm hN hdl hml hLN
  go_enter Try.func30, Try.ntmps30
  go_upto_region 1 with fail
  have hb1 : Below w.heap.size w (w.alloc (.cells #[.int .i64 kd, .int .i64 nn, .int .i64 mm, .slice da dn dc, .slice ma mn mc] 64)) := (Below.refl _ w).alloc (Nat.le_refl _) _
  have o1 : (w.alloc (.cells #[.int .i64 kd, .int .i64 nn, .int .i64 mm, .slice da dn dc, .slice ma mn mc] 64)).heap[w.heap.size]? = some (.cells #[.int .i64 kd, .int .i64 nn, .int .i64 mm, .slice da dn dc, .slice ma mn mc] 64 (0, 0)) := heap_alloc_new _ _
  generalize (w.alloc (.cells #[.int .i64 kd, .int .i64 nn, .int .i64 mm, .slice da dn dc, .slice ma mn mc] 64)) = w1 at *
  obtain ⟨x, hx⟩ : ∃ x, w.heap.size = x := ⟨_, rfl⟩
  have hlow := Low.of_below HP.out.bb.2.2 hb1
  have hbd1 := HBD.out.low hlow.1 hlow.2 HDL.out.1
  have hbm1 := HBM.out.low hlow.1 hlow.2 HDL.out.2
  have hs1 := HS.out.keep hb1.size (fun j hj => hb1.block j (HP.out.blt j hj))
  have hxb : K.b ≠ x ∧ K.r ≠ x := ⟨fun e => by have := HP.out.blt _ (.inr (.inl rfl)); omega, fun e => by have := HP.out.blt _ (.inl HP.out.oo.2.1); omega⟩
  rw [hx] at o1 ⊢
  have HX := Lib.hid hx
  have HB1 := Lib.hid hb1
  have HXB := Lib.hid hxb
  have HBB := Lib.hid (And.intro hbd1 hbm1)
  have HS1 := Lib.hid hs1
  have HO1 := Lib.hid o1
  have o0 : w1.cell? ⟨x, 0, none⟩ = some (.int .i64 kd) := (cell_of_row _ _ 0 _ _ _ o1).trans rfl
  have q1 : w1.cell? ⟨x, 1, none⟩ = some (.int .i64 nn) := (cell_of_row _ _ 1 _ _ _ o1).trans rfl
  have q2 : w1.cell? ⟨x, 2, none⟩ = some (.int .i64 mm) := (cell_of_row _ _ 2 _ _ _ o1).trans rfl
  have q3 : w1.cell? ⟨x, 3, none⟩ = some (.slice da dn dc) := (cell_of_row _ _ 3 _ _ _ o1).trans rfl
  have q4 : w1.cell? ⟨x, 4, none⟩ = some (.slice ma mn mc) := (cell_of_row _ _ 4 _ _ _ o1).trans rfl
  have c0 : w1.cell? ⟨K.pb, 0, none⟩ = some (.pointer (some ⟨K.b, 0, none⟩)) := (cell_of_row _ _ 0 _ _ _ (HP.out.below hb1).cell).trans rfl
  clear hb1 o1 hx hlow hbd1 hbm1 hs1 hxb
  by_cases h1 : kd = 1
  · subst h1
    have hcall := ptake_any w1 K N s O hv da dn dc data HS1.out (by have := HNN.out; omega) HBB.out.1 hdz HDL.out.1
    go_wp2_with fail
    refine hcall.mono ?_
    clear hcall
    rintro e w2 ⟨rfl, hE2⟩
    have HE : Hid (EPost K (N + (2 * (dn * (1 + mn)) + dn + 1)) (.bool true) O hv w (.returned (.bool true)) w2) := Lib.hid (EPost.up (N := N + 1) ⟨_, rfl, hE2⟩ HB1.out (by omega))
    clear hE2
    go_wp2_with fail
    go_ret
    exact HE.out
  have k1 : (kd == 1) = false := by simpa using h1
  by_cases h2 : kd = 2
  · subst h2
    have hcall := pfeed_any w1 K N s O hv da dn dc data HS1.out (by have := HNN.out; omega) HBB.out.1 hdz HDL.out.1
    go_wp2_with fail
    refine hcall.mono ?_
    clear hcall
    rintro e w2 hE
    obtain ⟨s2, rfl, hE2⟩ := hE
    have HE : Hid (EPost K (N + (2 * (dn * (1 + mn)) + dn + 1)) (.bool true) O hv w (.returned (.bool true)) w2) := Lib.hid (EPost.up (N := N + dn) ⟨s2, rfl, hE2⟩ HB1.out (by omega))
    clear hE2
    go_wp2_with fail
    go_ret
    exact HE.out
  have k2 : (kd == 2) = false := by simpa using h2
  by_cases h3 : kd = 3
  · subst h3
    have hcall : Calls Try.prog 54 #[.pointer (some ⟨K.pb, 0, none⟩), .agg #[.int .i64 3, .int .i64 nn, .int .i64 mm, .slice da dn dc, .slice ma mn mc], .int .i64 1] w1 (EPost K (N + 1 * (dn * (1 + mn))) (.bool true) O hv w1) := pranges_any w1 K N s O hv 3 nn mm da dn dc ma mn mc data more 1 HS1.out (by omega) (by have := HNN.out; omega) HBB.out.1 hdz HDL.out.1 HBB.out.2 hmz HDL.out.2
    go_wp2_with fail
    refine hcall.mono ?_
    clear hcall
    rintro e w2 hE
    obtain ⟨s2, rfl, hE2⟩ := hE
    have HE : Hid (EPost K (N + (2 * (dn * (1 + mn)) + dn + 1)) (.bool true) O hv w (.returned (.bool true)) w2) := Lib.hid (EPost.up (N := N + 1 * (dn * (1 + mn))) ⟨s2, rfl, hE2⟩ HB1.out (by omega))
    clear hE2
    go_wp2_with fail
    go_ret
    exact HE.out
  have k3 : (kd == 3) = false := by simpa using h3
  by_cases h5 : kd = 5
  · subst h5
    have hcall : Calls Try.prog 54 #[.pointer (some ⟨K.pb, 0, none⟩), .agg #[.int .i64 5, .int .i64 nn, .int .i64 mm, .slice da dn dc, .slice ma mn mc], .int .i64 1] w1 (EPost K (N + 1 * (dn * (1 + mn))) (.bool true) O hv w1) := pranges_any w1 K N s O hv 5 nn mm da dn dc ma mn mc data more 1 HS1.out (by omega) (by have := HNN.out; omega) HBB.out.1 hdz HDL.out.1 HBB.out.2 hmz HDL.out.2
    go_wp2_with fail
    refine hcall.mono ?_
    clear hcall
    rintro e w2 hE
    obtain ⟨s2, rfl, hE2⟩ := hE
    have HE : Hid (EPost K (N + (2 * (dn * (1 + mn)) + dn + 1)) (.bool true) O hv w (.returned (.bool true)) w2) := Lib.hid (EPost.up (N := N + 1 * (dn * (1 + mn))) ⟨s2, rfl, hE2⟩ HB1.out (by omega))
    clear hE2
    go_wp2_with fail
    go_ret
    exact HE.out
  have k5 : (kd == 5) = false := by simpa using h5
  by_cases h4 : kd = 4
  · subst h4
    have hcall : Calls Try.prog 54 #[.pointer (some ⟨K.pb, 0, none⟩), .agg #[.int .i64 4, .int .i64 nn, .int .i64 mm, .slice da dn dc, .slice ma mn mc], .int .i64 2] w1 (EPost K (N + 2 * (dn * (1 + mn))) (.bool true) O hv w1) := pranges_any w1 K N s O hv 4 nn mm da dn dc ma mn mc data more 2 HS1.out (by omega) (by have := HNN.out; omega) HBB.out.1 hdz HDL.out.1 HBB.out.2 hmz HDL.out.2
    go_wp2_with fail
    refine hcall.mono ?_
    clear hcall
    rintro e w2 hE
    obtain ⟨s2, rfl, hE2⟩ := hE
    have HE : Hid (EPost K (N + (2 * (dn * (1 + mn)) + dn + 1)) (.bool true) O hv w (.returned (.bool true)) w2) := Lib.hid (EPost.up (N := N + 2 * (dn * (1 + mn))) ⟨s2, rfl, hE2⟩ HB1.out (by omega))
    clear hE2
    go_wp2_with fail
    go_ret
    exact HE.out
  have k4 : (kd == 4) = false := by simpa using h4
  by_cases h6 : kd = 6
  · subst h6
    have hp1 := HP.out.below HB1.out
    have hcall := expect_any w1 K.b K.Bs s hv hp1.st
    have HP1 := Lib.hid hp1
    clear hp1 q1 q2 q3 q4
    go_wp2_with fail
    refine hcall.mono ?_
    clear hcall
    rintro e w2 ⟨rfl, hst2, hg2⟩
    have hp2 := HP1.out.toS hg2 hst2
    have c1 : w2.cell? ⟨K.pb, 1, none⟩ = some (.pointer (some ⟨K.r, 0, none⟩)) := (cell_of_row _ _ 1 _ _ _ hp2.cell).trans rfl
    have hcall := rexpect_any w2 K.r K.Br fr s rv hp2.re
    have HP2 := Lib.hid hp2
    have HK2 := Lib.hid ((KeepO.of_below (N := w.heap.size) (O := O) (b := K.b) (hv := hv) HB1.out).trans (KeepO.grown (N := w.heap.size) hg2 (.inr (.inr (.inl rfl)))) (Nat.le_refl _) (Nat.le_refl _))
    clear hst2 hg2 hp2 o0 c0
    go_wp2_with fail
    refine hcall.mono ?_
    clear hcall
    rintro e w3 ⟨rfl, hin3, hg3, hz3⟩
    have hok3 : Ok (expectR s).1 := by have := HP2.out.st.ok; exact this
    have hp3 := HP2.out.moveR (Mv.of_grown hg3) hin3 HP2.out.rel.expect hok3
    have HP3 := Lib.hid hp3
    have HK3 := Lib.hid (HK2.out.trans (HP2.out.keepR (N := w.heap.size) (Mv.of_grown hg3) HK2.out.size) (Nat.le_refl _) (Nat.le_refl _))
    clear hin3 hg3 hz3 hp3 c1 hok3
    go_wp2_with fail
    go_ret
    exact ⟨_, by simp, _, hv, ⟨fr, rv, vc, vd, L, M, HP3.out, HLM.out.1, by have := HLM.out.2; omega⟩, HK3.out⟩
  have k6 : (kd == 6) = false := by simpa using h6
  by_cases h7 : kd = 7
  · subst h7
    have hp1 := HP.out.below HB1.out
    have hbD : Below w1.heap.size w1 w1.drew := ⟨rfl, rfl, rfl, Nat.le_refl _, fun _ _ => rfl⟩
    have hpD := hp1.below hbD
    have hcall := most_any w1.drew K.b K.Bs s hv nn hpD.st
    have HPD := Lib.hid hpD
    have HBD0 := Lib.hid (HB1.out.trans (hbD.mono HB1.out.size))
    have HM := Lib.hid hcall
    clear hp1 hbD hpD hcall q2 q3 q4
    go_upto_region 16 with fail
    go_region_law (first
      | (go_simp
         go_at_call 37
         (with_reducible refine HM.out.mono ?_)
         rintro e w2 ⟨rfl, hst2, hg2⟩
         have hp2 := HPD.out.toS hg2 hst2
         have q12 : w2.cell? ⟨x, 1, none⟩ = some (.int .i64 nn) := (by
           rw [World.cell?_of_block (hg2.block x (cell_lt q1) (fun e => HXB.out.1 (Option.some.inj e).symm))]
           exact q1)
         have HQ2 := Lib.hid q12
         have HP2 := Lib.hid hp2
         have HK2 := Lib.hid ((KeepO.of_below (N := w.heap.size) (O := O) (b := K.b) (hv := hv) HBD0.out).trans (KeepO.grown (N := w.heap.size) hg2 (.inr (.inr (.inl rfl)))) (Nat.le_refl _) (Nat.le_refl _))
         clear hst2 hg2 hp2 q12)
      | fail)
    all_goals
      clear q1 c0 o0
      have q1 := HQ2.out
      have c1 : w2.cell? ⟨K.pb, 1, none⟩ = some (.pointer (some ⟨K.r, 0, none⟩)) := (cell_of_row _ _ 1 _ _ _ HP2.out.cell).trans rfl
      go_upto_region 17 with fail
      have hb3 : Below w2.heap.size w2 w2.drew := ⟨rfl, rfl, rfl, Nat.le_refl _, fun _ _ => rfl⟩
      have HP3 := Lib.hid (HP2.out.below hb3)
      have HK3 := Lib.hid (HK2.out.trans (KeepO.of_below (N := w.heap.size) hb3) (Nat.le_refl _) (Nat.le_refl _))
      have hcall := rmost_any w2.drew K.r K.Br fr s rv nn HP3.out.re
      have HC := Lib.hid hcall
      clear hb3 hcall
      go_region_law (first
        | (go_simp
           go_at_call 56
           (with_reducible refine HC.out.mono ?_)
           rintro e w4 ⟨rfl, hin4, hg4, hz4⟩
           have hok4 : Ok (mostR s nn).1 := (by have := HP3.out.st.ok; exact this)
           have hp4 := HP3.out.moveR (Mv.of_grown hg4) hin4 (HP3.out.rel.setMost nn) hok4
           have HP4 := Lib.hid hp4
           have HK4 := Lib.hid (HK3.out.trans (HP3.out.keepR (N := w.heap.size) (Mv.of_grown hg4) HK3.out.size) (Nat.le_refl _) (Nat.le_refl _))
           clear hin4 hg4 hz4 hp4 hok4)
        | fail)
      all_goals
        go_wp2_with fail
        go_ret
        exact ⟨_, by simp [Act.put], _, hv, ⟨fr, rv, vc, vd, L, M, HP4.out, HLM.out.1, by have := HLM.out.2; omega⟩, HK4.out⟩
  have k7 : (kd == 7) = false := by simpa using h7
  go_wp2_with fail
  go_ret
  exact EPost.up (N := N) ⟨s, rfl, O, hv, HS1.out, KeepO.refl _ _ _ _ _⟩ HB1.out (by omega)
end Go.Proofs.Ytofdpccjpodbhaa

namespace Go.Proofs.Ytofdpccjpodbhaa
open Go.RowKit
set_option linter.unusedVariables false

theorem marked_any (w : World) (a : Option Addr) (n c i : Nat) (hi : i ≤ 1152921504606846976) (h : BytesIn w a n c (markL i n)) :
    Calls Try.prog 69 #[.slice a n c, .int .i64 i] w fun e w' => e = .returned (.bool true) ∧ ∃ m, w' = w.drewN m := by
  have hn := h.le
  have hc := h.cap
  unfold maxLen at hc
  go_enter Try.func69, Try.ntmps69
  go_wp2_with fail
  go_loopw [5] (fun s5 wr => ∃ k m : Nat, k ≤ n ∧ s5 = .int .i64 k ∧ wr = w.drewN m) (fun s5 _ => n - (intOf s5).toNat)
  case atStart => exact ⟨0, 0, by omega, rfl, by rw [World.drewN_zero]⟩
  case round =>
    obtain ⟨k, m, hk, rfl, rfl⟩ := hrel
    by_cases hlt : k < n
    · obtain ⟨b, o, rfl, hb, hcell⟩ := h.at_ (by omega)
      have hcl := hcell k hlt
      rw [markL_getD i n k hlt] at hcl
      have hcl' : (w.drewN m).cell? ⟨b, o + k, none⟩ = some (.int .u8 (((i + k / 251) % 256 : Nat) : Int)) := by
        have e : (UInt8.ofNat (i + k / 251)).toNat = (i + k / 251) % 256 := by simp
        rw [← e]; exact hcl
      clear hcl hcell
      go_wp2_with fail
      go_roundw
      case rel => exact ⟨k + 1, m, by omega, by go_num, rfl⟩
      case measure => simp [intOf]; omega
    · obtain rfl : k = n := by omega
      go_wp2_with fail
      go_ret
      exact ⟨rfl, _, rfl⟩

theorem grownBy_setCell (w : World) (b j : Nat) (v : Value) : w.grownBy (w.setCell ⟨b, j, none⟩ v) (some b) :=
  ⟨rfl, rfl, rfl, by simp [World.setCell], fun k hk hne => by
    have : b ≠ k := fun h => hne (by rw [h])
    simp [World.setCell, Array.getElem?_modify, this]⟩

/-- a book: its block, the row of its lists -/
structure BookIs (w : World) (B bp : Nat) (vl : Value) (vs : List Value) : Prop where
  at_ : w.heap[bp]? = some (.cells #[vl] 100 (0, 0))
  row : w.ownsRow B 22 1 vl vs.length vs

theorem BookIs.cell {w : World} {B bp : Nat} {vl : Value} {vs : List Value} (h : BookIs w B bp vl vs) : w.cell? ⟨bp, 0, none⟩ = some vl := by
  simp only [World.cell?, h.at_]; rfl
theorem BookIs.lt {w : World} {B bp : Nat} {vl : Value} {vs : List Value} (h : BookIs w B bp vl vs) : bp < w.heap.size := (Array.getElem?_eq_some_iff.1 h.at_).1
theorem BookIs.apart {w : World} {B bp : Nat} {vl : Value} {vs : List Value} (h : BookIs w B bp vl vs) : vl.ownBlock ≠ some bp := by
  rcases h.row.2 with ⟨rfl, _⟩ | ⟨g, cap, cur, rfl, _, hh, _⟩
  · simp [Value.ownBlock]
  · intro he
    simp only [Value.ownBlock, Option.some.injEq] at he
    subst he
    have := h.at_
    rw [hh] at this
    simp at this
theorem info_row : (Try.prog.info? 22).map (fun i => (i.zero, i.size, i.bytes)) = some (some (.slice none 0 0), 1, 24) := by kernel_rfl

theorem btake_any (w : World) (B bp : Nat) (vl : Value) (vs : List Value) (p : Option Addr) (n c : Nat) (hbk : BookIs w B bp vl vs) (hB : B ≤ w.heap.size) (hsz : vs.length ≤ 1099511627776) :
    Calls Try.prog 58 #[.pointer (some ⟨bp, 0, none⟩), .slice p n c] w fun e w' => e = .returned (.tuple #[]) ∧ ∃ vl', BookIs w' B bp vl' (vs ++ [.slice p n c]) ∧ w.heap.size ≤ w'.heap.size ∧ (∀ k, k < w.heap.size → k ≠ bp → some k ≠ vl.ownBlock → w'.heap[k]? = w.heap[k]?) ∧ w'.os = w.os ∧ w'.tape = w.tape ∧ w'.output = w.output := by
  have hc := hbk.cell
  go_enter Try.func58, Try.ntmps58
  go_wp2_with (at_builtin; refine wpList_append_val rfl (.tmp 8) (.tmp 10) 29 rfl B 22 (.slice none 0 0) 24 Try.underlying29 info_row rfl vl vs.length vs (.slice p n c) rfl rfl rfl hbk.row ?h63 ?hbytes hB ?_)
  case h63 => unfold maxLen; omega
  case hbytes => omega
  intro vl' w1 r1 g1 b1 n1
  obtain ⟨g0, cap0, rfl, _, _⟩ := r1.form (by omega)
  have hne : vl.ownBlock ≠ some bp := hbk.apart
  have hat : w1.heap[bp]? = some (.cells #[vl] 100 (0, 0)) := by
    rw [g1.block bp hbk.lt (fun h => hne h.symm)]; exact hbk.at_
  have hc1 : w1.cell? ⟨bp, 0, none⟩ = some vl := by simp only [World.cell?, hat]; rfl
  have hf1 : w1.frozen? ⟨bp, 0, none⟩ = false := by simp [World.frozen?, hat]
  have hbk1 : BookIs w1 B bp vl vs → True := fun _ => trivial
  have ha1 : (Value.slice (some ⟨g0, 0, none⟩) (vs.length + 1) cap0).ownBlock ≠ some bp := by
    rcases r1.2 with ⟨hq, _⟩ | ⟨g, cap, cur, hq, _, hh, _⟩
    · cases hq
    · intro he
      simp only [Value.slice.injEq, Option.some.injEq, Addr.mk.injEq] at hq
      obtain ⟨⟨rfl, _⟩, _⟩ := hq
      simp only [Value.ownBlock, Option.some.injEq] at he
      subst he
      rw [hh] at hat
      simp at hat
  have R1 := Lib.hid r1
  clear r1
  go_wp2_with fail
  refine bodyPost_end (results_none rfl _ _ _) rfl ?_
  refine ⟨rfl, .slice (some ⟨g0, 0, none⟩) (vs.length + 1) cap0, ⟨?_, ?_⟩, ?_, ?_, ?_⟩
  · simp [World.setCell, Array.getElem?_modify, hat]
  · rw [List.length_append, List.length_singleton]
    exact R1.out.kept (grownBy_setCell w1 bp 0 _) (.inr ha1)
  · have := g1.size
    simpa [World.setCell] using this
  · intro k hk hkb hkv
    rw [(grownBy_setCell w1 bp 0 _).block k (by have := g1.size; omega) (by simpa using hkb)]
    exact g1.block k hk hkv
  · exact ⟨g1.os, g1.tape, g1.output⟩
end Go.Proofs.Ytofdpccjpodbhaa

namespace Go.Proofs.Ytofdpccjpodbhaa
open Go.RowKit
set_option linter.unusedVariables false

/-- nothing but these rows has changed, and new blocks -/
structure OnlyRows (vs : List Value) (w w' : World) : Prop where
  os : w'.os = w.os
  tape : w'.tape = w.tape
  output : w'.output = w.output
  size : w.heap.size ≤ w'.heap.size
  block : ∀ k, k < w.heap.size → (∀ v ∈ vs, v.ownBlock ≠ some k) → w'.heap[k]? = w.heap[k]?

theorem OnlyRows.refl (vs : List Value) (w : World) : OnlyRows vs w w := ⟨rfl, rfl, rfl, Nat.le_refl _, fun _ _ _ => rfl⟩
theorem OnlyRows.drewN {vs : List Value} {w w' : World} (h : OnlyRows vs w w') (m : Nat) : OnlyRows vs w (w'.drewN m) := ⟨h.os, h.tape, h.output, h.size, h.block⟩
theorem OnlyRows.grown {vs : List Value} {w wr w' : World} {row : Option Nat} (h : OnlyRows vs w wr) (hg : wr.grownBy w' row) (hr : ∀ k, row = some k → w.heap.size ≤ k ∨ ∃ v ∈ vs, v.ownBlock = some k) : OnlyRows vs w w' := by
  refine ⟨hg.os.trans h.os, hg.tape.trans h.tape, hg.output.trans h.output, Nat.le_trans h.size hg.size, fun k hk hn => ?_⟩
  have hs := h.size
  rw [hg.block k (by omega) (fun he => ?_)]
  · exact h.block k hk hn
  · rcases hr k he.symm with h1 | ⟨v, hv, h1⟩
    · omega
    · exact hn v hv h1
theorem OnlyRows.below {vs : List Value} {B : Nat} {w w' : World} (h : OnlyRows vs w w') (hB : B ≤ w.heap.size) (hv : ∀ v ∈ vs, ∀ k, v.ownBlock = some k → B ≤ k) : Below B w w' := by
  refine ⟨h.os, h.tape, h.output, h.size, fun k hk => h.block k (by omega) (fun v hv' he => ?_)⟩
  have := hv v hv' k he
  omega

theorem BookIs.only {w w' : World} {B bp : Nat} {vl : Value} {vs : List Value} (h : BookIs w B bp vl vs) (hv : ∀ v ∈ vs, ∃ l, OwnBytes w B 5 v l) (ho : OnlyRows vs w w') : BookIs w' B bp vl vs := by
  refine ⟨?_, ?_⟩
  · rw [ho.block bp h.lt (fun v hv' => by obtain ⟨l, hl⟩ := hv v hv'; exact apart_of_cells hl h.at_ (by decide))]
    exact h.at_
  · obtain ⟨h1, h2⟩ := h.row
    refine ⟨h1, ?_⟩
    rcases h2 with h2 | ⟨g, cap, cur, e, hg, hh, r⟩
    · exact .inl h2
    · refine .inr ⟨g, cap, cur, e, hg, ?_, r⟩
      rw [ho.block g (Array.getElem?_eq_some_iff.1 hh).1 (fun v hv' => by obtain ⟨l, hl⟩ := hv v hv'; exact apart_of_cells hl hh (by decide))]
      exact hh

/-- no two rows lie in one block -/
def Distinct (vs : List Value) : Prop := ∀ i j, i < vs.length → j < vs.length → i ≠ j → (vs.getD i default).ownBlock = none ∨ (vs.getD i default).ownBlock ≠ (vs.getD j default).ownBlock

/-- the rows are written as far as the k-th byte of the i-th -/
def FilledTo (w : World) (B : Nat) (vs : List Value) (nn : Nat → Nat) (i k : Nat) : Prop :=
  ∀ j, j < vs.length → ∃ l : List UInt8, l.length = nn j ∧ OwnBytes w B 5 (vs.getD j default) l ∧ ∀ m, m < nn j → (j < i ∨ (j = i ∧ m < k)) → l.getD m 0 = UInt8.ofNat (j + m / 251)

theorem FilledTo.next {w : World} {B : Nat} {vs : List Value} {nn : Nat → Nat} {i : Nat} (h : FilledTo w B vs nn i (nn i)) : FilledTo w B vs nn (i + 1) 0 := fun j hj => by
  obtain ⟨l, h1, h2, h3⟩ := h j hj
  refine ⟨l, h1, h2, fun m hm hc => h3 m hm ?_⟩
  rcases hc with hc | ⟨_, hc⟩
  · by_cases e : j = i
    · exact .inr ⟨e, by rw [← e]; exact hm⟩
    · exact .inl (by omega)
  · omega
theorem FilledTo.done {w : World} {B : Nat} {vs : List Value} {nn : Nat → Nat} (h : FilledTo w B vs nn vs.length 0) (j : Nat) (hj : j < vs.length) : OwnBytes w B 5 (vs.getD j default) (markL j (nn j)) := by
  obtain ⟨l, h1, h2, h3⟩ := h j hj
  have : l = markL j (nn j) := by
    apply List.ext_getElem
    · rw [h1, markL_length]
    · intro m h4 h5
      have := h3 m (by omega) (.inl hj)
      rw [List.getD_eq_getElem?_getD, List.getElem?_eq_getElem h4] at this
      simp only [Option.getD_some] at this
      rw [this]
      simp [markL]
  rw [← this]; exact h2
theorem FilledTo.set {w : World} {B : Nat} {vs : List Value} {nn : Nat → Nat} {i k g cap : Nat} (h : FilledTo w B vs nn i k) (hd : Distinct vs) (hi : i < vs.length) (hk : k < nn i) (hv : vs.getD i default = .slice (some ⟨g, 0, none⟩) (nn i) cap) :
    FilledTo (w.setCell ⟨g, k, none⟩ (.int .u8 (((i + k / 251) % 256 : Nat) : Int))) B vs nn i (k + 1) := fun j hj => by
  have hy : (((i + k / 251) % 256 : Nat) : Int) = ((UInt8.ofNat (i + k / 251)).toNat : Int) := by simp
  obtain ⟨l, h1, h2, h3⟩ := h j hj
  by_cases e : j = i
  · subst e
    rw [hv] at h2
    refine ⟨l.set k (UInt8.ofNat (j + k / 251)), by rw [List.length_set, h1], ?_, fun m hm hc => ?_⟩
    · rw [hy, hv]
      exact h2.set h1 k _
    · by_cases hmk : m = k
      · subst hmk
        simp [List.getD_eq_getElem?_getD, h1, hm]
      · rw [List.getD_eq_getElem?_getD, List.getElem?_set_ne (by omega), ← List.getD_eq_getElem?_getD]
        exact h3 m hm (by omega)
  · refine ⟨l, h1, h2.kept (grownBy_setCell w g k _) ?_, fun m hm hc => h3 m hm (by omega)⟩
    have := hd j i hj hi e
    rw [hv] at this
    exact this

/-- the rows as a list of kept ones -/
def rowsT (vs : List Value) (nn : Nat → Nat) : List (Value × Nat × Nat) := (List.range vs.length).map fun j => (vs.getD j default, j, nn j)
theorem mem_rowsT {vs : List Value} {nn : Nat → Nat} {u : Value × Nat × Nat} (h : u ∈ rowsT vs nn) : ∃ j, j < vs.length ∧ u = (vs.getD j default, j, nn j) := by
  simp only [rowsT, List.mem_map, List.mem_range] at h
  obtain ⟨j, hj, rfl⟩ := h
  exact ⟨j, hj, rfl⟩

/-- where a grown row may lie -/
def FromRow (vs : List Value) (S : Nat) (v : Value) (i : Nat) : Prop := v.ownBlock = (vs.getD i default).ownBlock ∨ ∃ g, v.ownBlock = some g ∧ S ≤ g

/-- the lists that have been grown so far -/
structure GS (w wr : World) (B : Nat) (vs : List Value) (nn : Nat → Nat) (gv : Value) (G : List (Value × Nat × Nat)) (i : Nat) : Prop where
  only : OnlyRows vs w wr
  kept : Kept wr B 5 (rowsT vs nn ++ G)
  row : wr.ownsRow w.heap.size 22 1 gv G.length (G.map (·.1))
  idx : ∀ t, t < G.length → (G.getD t default).2.1 = t / 5
  from_ : ∀ u ∈ G, u.2.1 ≤ i ∧ FromRow vs w.heap.size u.1 u.2.1

/-- .. and the one that is being grown -/
structure GK (w wr : World) (B : Nat) (vs : List Value) (nn : Nat → Nat) (gv : Value) (G : List (Value × Nat × Nat)) (i n : Nat) (v : Value) : Prop extends GS w wr B vs nn gv G i where
  own : OwnBytes wr B 5 v (markL i n)
  apt : AptTo (rowsT vs nn ++ G) v i n
  vfrom : FromRow vs w.heap.size v i

theorem GS.start {w wr : World} {B : Nat} {vs : List Value} {nn : Nat → Nat} (ho : OnlyRows vs w wr) (hf : FilledTo wr B vs nn vs.length 0) : GS w wr B vs nn (.slice none 0 0) [] 0 :=
  ⟨ho, fun u hu => by
    rw [List.append_nil] at hu
    obtain ⟨j, hj, rfl⟩ := mem_rowsT hu
    exact hf.done j hj, World.ownsRow_nil _ _ _ _, fun t ht => absurd ht (Nat.not_lt_zero _), fun u hu => by simp at hu⟩

/-- a round begins: the i-th list, as it was taken; the grown ones are of lists ahead of it -/
theorem GS.begin {w wr : World} {B : Nat} {vs : List Value} {nn : Nat → Nat} {gv : Value} {G : List (Value × Nat × Nat)} {i : Nat} (h : GS w wr B vs nn gv G i) (hG : ∀ u ∈ G, u.2.1 < i) (hi : i < vs.length) (hd : Distinct vs)
    (hlt : ∀ j, j < vs.length → ∀ g, (vs.getD j default).ownBlock = some g → g < w.heap.size) : GK w wr B vs nn gv G i (nn i) (vs.getD i default) := by
  refine { h with own := ?_, apt := fun u hu => ?_, vfrom := .inl rfl }
  · exact h.kept (vs.getD i default, i, nn i) (List.mem_append_left _ (by simp only [rowsT, List.mem_map, List.mem_range]; exact ⟨i, hi, rfl⟩))
  · rcases List.mem_append.1 hu with hu | hu
    · obtain ⟨j, hj, rfl⟩ := mem_rowsT hu
      by_cases e : j = i
      · exact .inr (.inr ⟨e, by subst e; exact Nat.le_refl _⟩)
      · rcases hd j i hj hi e with h1 | h1
        · exact .inl h1
        · exact .inr (.inl h1)
    · have hj := hG u hu
      rcases (h.from_ u hu).2 with h1 | ⟨g, h1, h2⟩
      · rcases hd u.2.1 i (by omega) hi (by omega) with h3 | h3
        · exact .inl (h1.trans h3)
        · exact .inr (.inl (by rw [h1]; exact h3))
      · refine .inr (.inl (fun he => ?_))
        have := hlt i hi g (by rw [← he, h1])
        omega

/-- a byte is put behind it -/
theorem GK.put {w wr w' : World} {B : Nat} {vs : List Value} {nn : Nat → Nat} {gv v v' : Value} {G : List (Value × Nat × Nat)} {i n : Nat} (h : GK w wr B vs nn gv G i n v) (hi : i < vs.length)
    (ho' : OwnBytes w' B 5 v' (markL i n ++ [UInt8.ofNat (i + n / 251)])) (hg : wr.grownBy w' v.ownBlock) (hf : Grew wr w' v v') : GK w w' B vs nn gv G i (n + 1) v' := by
  obtain ⟨hk, ha⟩ := h.kept.step h.apt h.own ho' hg hf
  have hvm : vs.getD i default ∈ vs := by
    rw [List.getD_eq_getElem?_getD, List.getElem?_eq_getElem hi]; exact List.getElem_mem hi
  refine { only := h.only.grown hg ?_, kept := hk, row := h.row.kept hg ?_, idx := h.idx, from_ := h.from_, own := by rw [markL_snoc]; exact ho', apt := ha, vfrom := ?_ }
  · intro k hk
    rcases h.vfrom with h1 | ⟨g, h1, h2⟩
    · exact .inr ⟨_, hvm, by rw [← h1, hk]⟩
    · rw [h1] at hk
      simp only [Option.some.injEq] at hk
      exact .inl (by omega)
  · rcases apart_of_type h.own h.row (by decide) with h1 | h1
    · rw [h1]
      cases hb : gv.ownBlock with
      | none => exact .inl rfl
      | some b => exact .inr (fun h => by cases h)
    · exact .inr (fun h => h1 h.symm)
  · rcases hf with ⟨g, m, cap, e1, e2⟩ | ⟨g, e1, e2, _⟩
    · rcases h.vfrom with h1 | ⟨g', h1, h2⟩
      · refine .inl ?_
        rw [← h1, e1, e2]; rfl
      · refine .inr ⟨g', ?_, h2⟩
        rw [← h1, e1, e2]; rfl
    · exact .inr ⟨g, e1, Nat.le_trans h.only.size e2⟩

/-- .. and the list of the grown ones takes it -/
theorem GK.note {w wr w' : World} {B : Nat} {vs : List Value} {nn : Nat → Nat} {gv gv' v : Value} {G : List (Value × Nat × Nat)} {i n : Nat} (h : GK w wr B vs nn gv G i n v) (hi : G.length / 5 = i)
    (hr : w'.ownsRow w.heap.size 22 1 gv' (G.length + 1) (G.map (·.1) ++ [v])) (hg : wr.grownBy w' gv.ownBlock) : GK w w' B vs nn gv' (G ++ [(v, i, n)]) i n v := by
  have hty : ∀ {u : Value} {l : List UInt8}, OwnBytes wr B 5 u l → u.ownBlock = none ∨ u.ownBlock ≠ gv.ownBlock := fun hu => apart_of_type hu h.row (by decide)
  have hk : ∀ u ∈ rowsT vs nn ++ (G ++ [(v, i, n)]), u ∈ rowsT vs nn ++ G ∨ u = (v, i, n) := fun u hu => by
    rw [← List.append_assoc] at hu
    rcases List.mem_append.1 hu with hu | hu
    · exact .inl hu
    · exact .inr (by simpa using hu)
  refine { only := h.only.grown hg ?_, kept := fun u hu => ?_, row := ?_, idx := fun t ht => ?_, from_ := fun u hu => ?_, own := h.own.kept hg (hty h.own), apt := fun u hu => ?_, vfrom := h.vfrom }
  · intro k hk
    exact .inl (h.row.lt k hk).1
  · rcases hk u hu with hu | rfl
    · exact (h.kept u hu).kept hg (hty (h.kept u hu))
    · exact h.own.kept hg (hty h.own)
  · rw [List.length_append, List.length_singleton, List.map_append]; exact hr
  · rw [List.length_append, List.length_singleton] at ht
    by_cases e : t < G.length
    · rw [List.getD_eq_getElem?_getD, List.getElem?_append_left e, ← List.getD_eq_getElem?_getD]; exact h.idx t e
    · have : t = G.length := by omega
      subst this
      simp [hi]
  · rcases List.mem_append.1 hu with hu | hu
    · exact h.from_ u hu
    · have : u = (v, i, n) := by simpa using hu
      subst this
      exact ⟨Nat.le_refl _, h.vfrom⟩
  · rcases hk u hu with hu | rfl
    · exact h.apt u hu
    · exact .inr (.inr ⟨rfl, Nat.le_refl _⟩)
theorem GK.next {w wr : World} {B : Nat} {vs : List Value} {nn : Nat → Nat} {gv v : Value} {G : List (Value × Nat × Nat)} {i n : Nat} (h : GK w wr B vs nn gv G i n v) : GS w wr B vs nn gv G (i + 1) :=
  { h.toGS with from_ := fun u hu => ⟨Nat.le_succ_of_le (h.from_ u hu).1, (h.from_ u hu).2⟩ }
theorem GS.bytes {w wr : World} {B : Nat} {vs : List Value} {nn : Nat → Nat} {gv : Value} {G : List (Value × Nat × Nat)} {i j : Nat} (h : GS w wr B vs nn gv G i) (hj : j < vs.length) (m : Nat) :
    ∃ p c, vs.getD j default = .slice p (nn j) c ∧ BytesIn (wr.drewN m) p (nn j) c (markL j (nn j)) := by
  have := h.kept (vs.getD j default, j, nn j) (List.mem_append_left _ (by simp only [rowsT, List.mem_map, List.mem_range]; exact ⟨j, hj, rfl⟩))
  obtain ⟨p, c, h1, h2⟩ := this.bytes
  rw [markL_length] at h1 h2
  exact ⟨p, c, h1, h2.below ⟨rfl, rfl, rfl, Nat.le_refl _, fun _ _ => rfl⟩⟩
theorem GS.item {w wr : World} {B : Nat} {vs : List Value} {nn : Nat → Nat} {gv : Value} {G : List (Value × Nat × Nat)} {i t : Nat} (h : GS w wr B vs nn gv G i) (ht : t < G.length) (m : Nat) :
    ∃ g c p n cc, gv = .slice (some ⟨g, 0, none⟩) G.length c ∧ (wr.drewN m).cell? ⟨g, t, none⟩ = some (.slice p n cc) ∧ BytesIn (wr.drewN m) p n cc (markL (t / 5) n) := by
  obtain ⟨g, c, rfl, _, _⟩ := h.row.form (by omega)
  have hm : G.getD t default ∈ G := by
    rw [List.getD_eq_getElem?_getD, List.getElem?_eq_getElem ht]; exact List.getElem_mem ht
  obtain ⟨p, cc, h1, h2⟩ := (h.kept _ (List.mem_append_right _ hm)).bytes
  rw [markL_length] at h1 h2
  rw [h.idx t ht] at h2
  refine ⟨g, c, p, _, cc, rfl, ?_, h2.below ⟨rfl, rfl, rfl, Nat.le_refl _, fun _ _ => rfl⟩⟩
  show wr.cell? ⟨g, t, none⟩ = _
  rw [h.row.cellAt t (by omega), List.getElem?_map, ← h1, List.getD_eq_getElem?_getD, List.getElem?_eq_getElem ht]
  rfl
theorem GS.form {w wr : World} {B : Nat} {vs : List Value} {nn : Nat → Nat} {gv : Value} {G : List (Value × Nat × Nat)} {i : Nat} (h : GS w wr B vs nn gv G i) : ∃ a c, gv = .slice a G.length c ∧ G.length ≤ c ∧ c ≤ 9223372036854775807 := by
  rcases h.row.2 with ⟨e1, e2⟩ | ⟨g, cap, cur, e1, _, _, e3, e4, _⟩
  · exact ⟨none, 0, by rw [e1, e2], by omega, by omega⟩
  · exact ⟨_, cap, e1, e3, by unfold maxLen at e4; omega⟩
end Go.Proofs.Ytofdpccjpodbhaa
