/-
  Lemmas on the codec. Conditions: as each says.
-/
import Derived.Test.YtnnnfhobbnjmfaaGreatDoorEn05
import Derived.Test.YtnnnfhobbnjmfaaGreatDoorEn03
import Derived.Sort.Grow
import Derived.Shelf.SlSortCmp.WholeK
import Derived.Test.YtnnnfhobbnjmfaaGreatDoorProg
import Derived.OwnWalk
namespace Go.Proofs.YtnnnfhobbnjmfaaGreatDoor
open Go.RowKit
set_option linter.all false

attribute [local go_sem] Oper.semAt_some

structure AsI (v : V) (wr : World) (B b k : Nat) (c : Nat → List Value) (ss : Nat → Value) (Fs : Nat → Nat → Prop) : Prop where
  hc : ∀ i, (c i).length = 5
  hrow : RowF wr B b (v.list.length + 3) c
  h1 : ∀ i (h : i < v.list.length), k ≤ i → c i = vcells v.list[i] (ss i)
  h2 : ∀ i, v.list.length ≤ i → k ≤ i → i < v.list.length + 3 → c i = vcells (mkV i) nilS
  hin : ∀ i (h : i < v.list.length), k ≤ i → VL wr B v.list[i] (ss i) (Fs i)
theorem AsI.next {v : V} {wr w2 : World} {B b k : Nat} {c : Nat → List Value} {ss : Nat → Value} {Fs : Nat → Nat → Prop} {G : Nat → Prop} {m : List Value} (h : AsI v wr B b k c ss Fs) (hk : k < v.list.length + 3)
    (hd : ∀ i, i < v.list.length → k < i → ∀ g, Fs i g → ¬ G g) (hs : ∀ i, i < v.list.length → ¬ Fs i b) (hG : ¬ G b) (hkf : KeepF G wr w2) (hm : m.length = 5) :
    AsI v (w2.setCells b (k * 5) m) B b (k + 1) (updF c k m) ss Fs := by
  have g := setCells_grown w2 b (k * 5) m
  have hrow2 : RowF w2 B b (v.list.length + 3) c := h.hrow.keep (hkf.block b h.hrow.lt.2 hG)
  refine ⟨updF_len h.hc hm, hrow2.set h.hc hk hm, fun i hi hik => by rw [updF_other (by omega)]; exact h.h1 i hi (by omega), fun i q1 q2 q3 => by rw [updF_other (by omega)]; exact h.h2 i q1 (by omega) q3, fun i hi hik => ?_⟩
  have hv := (h.hin i hi (by omega)).keepF hkf (hd i hi (by omega))
  exact hv.keep (fun q hq => g.block q (hv.lt q hq).2 (fun e => hs i hi (by rw [← Option.some.inj e]; exact hq)))

def aslOn (v : V) : Prop := ∀ (w wv : World) (B : Nat) (s u : Value) (F : Nat → Prop), VL w B v s F → VIn wv v u → (∀ W, KeepF F w W → Rd wv W) → v.wt ≤ 2000000 →
    Calls Tryz.prog 16 #[.agg #[.int .i64 v.kind, .int .u64 v.num, .string v.text, s, .int .i64 v.elem], .agg #[.int .i64 v.kind, .int .u64 v.num, .string v.text, u, .int .i64 v.elem]] w fun e w' => e = .returned (.bool true) ∧ KeepF F w w'

set_option maxRecDepth 20000 in
set_option maxHeartbeats 4000000 in
theorem asls_any (v : V) (ih : ∀ x ∈ v.list, aslOn x) (w wv : World) (B : Nat) (s u : Value) (F : Nat → Prop) (h : VL w B v s F) (hv : VIn wv v u) (hrd : ∀ W, KeepF F w W → Rd wv W) (hwl : wts v.list ≤ 2000000) :
    Calls Tryz.prog 36 #[s, u] w fun e w' => e = .returned (.bool true) ∧ KeepF F w w' := by
  obtain ⟨q, d, hu, k1, k2, k3⟩ := hv.slice
  obtain ⟨_, b, _, c0, ss, Fs, wf, hc0, hrow0, h10, h20, hin0, hd, hs, hF⟩ := h
  obtain ⟨N, hN⟩ : ∃ N, v.list.length = N := ⟨_, rfl⟩
  have hNw := len_le_wts v.list
  have hI0 : AsI v w B b 0 c0 ss Fs := ⟨hc0, hrow0, fun i hi _ => h10 i hi, fun i q1 _ q3 => h20 i q1 q3, fun i hi _ => hin0 i hi⟩
  have HSZ := Lib.hid (show (Tryz.prog.info? 25).map (·.size) = some 5 by obtain ⟨i0, hi, hz0, hz1, hz2⟩ := info_partsV info_val; rw [hi]; simp [hz1])
  rw [hN] at hu k1 k3 hNw
  subst hu
  unfold maxLen at k2
  have hNb : N ≤ 2000000 := by omega
  have HI := Lib.hid ih
  have HN := Lib.hid (And.intro hN hwl)
  have HV := Lib.hid hv
  have HD := Lib.hid (And.intro hd (And.intro hs hF))
  have HRD := Lib.hid hrd
  have H0 := Lib.hid hI0
  rw [hN]
  clear ih hv hrd hwl hNw hd hs hF hI0 hin0 h10 h20 hc0 hrow0 wf hN
  go_enter Tryz.func36, Tryz.ntmps36
  go_wp2_with fail
  go_loopw [7, 8] (fun v7 v8 wr => ∃ (k : Nat) (c : Nat → List Value), k ≤ N + 3 ∧ v8 = .int .i64 k ∧ v7 = .bool true ∧ AsI v wr B b k c ss Fs ∧ KeepF F w wr) (fun _ v8 _ => N + 3 - (intOf v8).toNat)
  case atStart => exact ⟨0, _, Nat.zero_le _, rfl, rfl, H0.out, KeepF.refl _ _⟩
  case round =>
    obtain ⟨k, c, hk', rfl, rfl, has, hkf⟩ := hrel
    have HR := Lib.hid (And.intro has hkf)
    by_cases hkN : (k : Int) < N + 3
    · have hk3 : k < v.list.length + 3 := by rw [HN.out.1]; omega
      by_cases hkl : (k : Int) < N
      · have ka : k < v.list.length := by rw [HN.out.1]; omega
        obtain ⟨b2, o2, rfl⟩ := k3 (by omega)
        obtain ⟨tk, htk, hik⟩ := HV.out.part rfl ka
        obtain ⟨pk, ck, hsk, hj0⟩ := hik.slice
        clear hj0
        subst hsk
        have hvk := has.hin k ka (Nat.le_refl _)
        have hck := has.h1 k ka (Nat.le_refl _)
        obtain ⟨gk, hgk, hj1, hj2⟩ := hvk.slice
        clear hj1 hj2
        have hcell : ∀ (W : World), KeepF (fun _ => False) wr W → ∀ j u, (vcells v.list[k] (ss k))[j]? = some u → W.cell? ⟨b, k * 5 + j, none⟩ = some u := fun W hW j u hu => (has.hrow.keep (hW.block b has.hrow.lt.2 (fun h => h))).cell has.hc (by omega) (by rw [hck]; exact hu)
        rw [hgk] at hcell hvk
        obtain ⟨xa, hxa⟩ : ∃ xa, v.list[k] = xa := ⟨_, rfl⟩
        have hxw : xa.wt ≤ 2000000 := by have := wts_mem (List.getElem_mem ka); rw [hxa] at this; have := HN.out.2; omega
        have HIK := Lib.hid (HI.out _ (List.getElem_mem ka))
        rw [hxa] at hcell hvk htk hik HIK
        obtain ⟨m, hm⟩ : ∃ m, xa.list.length = m := ⟨_, rfl⟩
        rw [hm] at hcell hvk htk hik
        have HCL := Lib.hid hcell
        have HTK := Lib.hid (And.intro htk (And.intro ka hk3))
        have hwd : KeepF (fun _ => False) wr wr.drew := (KeepF.refl _ _).drew
        have hc := HIK.out wr.drew wv B _ _ (Fs k) (hvk.keepF hwd (fun _ _ h => h)) hik (fun W hW => HRD.out W (HR.out.2.drew.trans (hW.wide (fun j hj => (HD.out.2.2 j).2 (.inr ⟨k, ka, hj⟩))))) hxw
        have HC := Lib.hid hc
        have e0 : wr.cell? ⟨b, k * 5, none⟩ = some (.int .i64 xa.kind) := hcell wr (KeepF.refl _ _) 0 _ rfl
        have e1 : wr.cell? ⟨b, k * 5 + 1, none⟩ = some (.int .u64 xa.num) := hcell wr (KeepF.refl _ _) 1 _ rfl
        have HWD : Hid (KeepF (Fs k) wr wr.drew) := Lib.hid (KeepF.refl _ _).drew
        clear hvk hck hcell hc hxa hxw htk hik hgk HIK hwd has hkf ka hk3 hm
        go_upto_region 9 with fail
        go_cut [9] (fun s9 wx => wr = wx ∧ ∃ q : Bool, s9 = .bool q)
        case first =>
          by_cases h7 : xa.kind = -7
          · have h7b : (xa.kind == -7) = true := by simp [h7]
            clear h7
            go_wp2_with fail
            go_meet
            exact ⟨rfl, _, rfl⟩
          · have h7b : (xa.kind == -7) = false := by simp [h7]
            clear h7
            go_wp2_with fail
            go_meet
            exact ⟨rfl, _, rfl⟩
        case rest =>
        obtain ⟨rfl, q9, rfl⟩ := hcut
        have e2 : wr.cell? ⟨b, k * 5 + 2, none⟩ = some (.string xa.text) := HCL.out wr (KeepF.refl _ _) 2 _ rfl
        have e3 : wr.cell? ⟨b, k * 5 + 3, none⟩ = some (.slice (some ⟨gk, 0, none⟩) m (m + 3)) := HCL.out wr (KeepF.refl _ _) 3 _ rfl
        have e4 : wr.cell? ⟨b, k * 5 + 4, none⟩ = some (.int .i64 xa.elem) := HCL.out wr (KeepF.refl _ _) 4 _ rfl
        obtain ⟨d0, d1, d2, d3, d4⟩ := part_cells (rangeAt_rd HTK.out.1 (HRD.out wr HR.out.2))
        go_upto_region 11 with fail
        go_still_tail 8, (by kernel_rfl)
        change wpList _ _ _ _ _ wr.drew
        generalize wr.drew = wd at *
        clear e0 e1 e2 e3 e4 d0 d1 d2 d3 d4
        go_wp2_with fail
        refine HC.out.mono ?_
        rintro e w1 ⟨rfl, hk1⟩
        have hkr : KeepF (Fs k) wr w1 := HWD.out.trans hk1
        have hnx := AsI.next (G := Fs k) (m := [.int .i64 (-8), .int .u64 0, .string ⟨#[]⟩, .slice none 0 0, .int .i64 0]) HR.out.1 HTK.out.2.2 (fun i hi hik => HD.out.1 i k hi HTK.out.2.1 (by omega)) HD.out.2.1 (HD.out.2.1 k HTK.out.2.1) hkr rfl
        have hth := (HR.out.1.hrow.keep (hkr.block b HR.out.1.hrow.lt.2 (HD.out.2.1 k HTK.out.2.1))).there HTK.out.2.2
        have HTH := Lib.hid hth
        have HNX := Lib.hid (And.intro hnx ((HR.out.2.trans (hkr.wide (fun j hj => (HD.out.2.2 j).2 (.inr ⟨k, HTK.out.2.1, hj⟩)))).setCells ((HD.out.2.2 b).2 (.inl rfl)) (k * 5) [.int .i64 (-8), .int .u64 0, .string ⟨#[]⟩, .slice none 0 0, .int .i64 0]))
        clear hk1 hkr hnx hth
        go_wp2_with (refine wpList_store_mid rfl 25 (.tmp 62) (.tmp 61) rfl b (k * 5) #[.int .i64 (-8), .int .u64 0, .string ⟨#[]⟩, .slice none 0 0, .int .i64 0] rfl rfl HTH.out HSZ.out (by simp [Value.oneCell']) ?_; change wpList _ _ _ _ _ (w1.setCells b (k * 5) [.int .i64 (-8), .int .u64 0, .string ⟨#[]⟩, .slice none 0 0, .int .i64 0]); generalize w1.setCells b (k * 5) [.int .i64 (-8), .int .u64 0, .string ⟨#[]⟩, .slice none 0 0, .int .i64 0] = w4 at *)
        go_roundw
        case rel => exact ⟨k + 1, _, by omega, by go_num, rfl, HNX.out.1, HNX.out.2⟩
        case measure => simp [intOf]; omega
      · have hkl2 : N ≤ k := by omega
        have hck := has.h2 k (by rw [HN.out.1]; omega) (Nat.le_refl _) (by rw [HN.out.1]; omega)
        have hcell : ∀ j u, (vcells (mkV k) nilS)[j]? = some u → wr.cell? ⟨b, k * 5 + j, none⟩ = some u := fun j u hu => has.hrow.cell has.hc (by omega) (by rw [hck]; exact hu)
        have e0 : wr.cell? ⟨b, k * 5, none⟩ = some (.int .i64 (-7)) := hcell 0 _ rfl
        have e1 : wr.cell? ⟨b, k * 5 + 1, none⟩ = some (.int .u64 k) := hcell 1 _ rfl
        have hnx := AsI.next (G := fun _ => False) (m := [.int .i64 (-8), .int .u64 0, .string ⟨#[]⟩, .slice none 0 0, .int .i64 0]) has hk3 (fun _ _ _ _ _ h => h) HD.out.2.1 (fun h => h) (KeepF.refl _ _) rfl
        have HTH := Lib.hid (has.hrow.there hk3)
        have HNX := Lib.hid (And.intro hnx (hkf.setCells ((HD.out.2.2 b).2 (.inl rfl)) (k * 5) [.int .i64 (-8), .int .u64 0, .string ⟨#[]⟩, .slice none 0 0, .int .i64 0]))
        clear hck hcell hnx has hkf hk3
        go_wp2_with (refine wpList_store_mid rfl 25 (.tmp 62) (.tmp 61) rfl b (k * 5) #[.int .i64 (-8), .int .u64 0, .string ⟨#[]⟩, .slice none 0 0, .int .i64 0] rfl rfl HTH.out HSZ.out (by simp [Value.oneCell']) ?_; change wpList _ _ _ _ _ (wr.setCells b (k * 5) [.int .i64 (-8), .int .u64 0, .string ⟨#[]⟩, .slice none 0 0, .int .i64 0]); generalize wr.setCells b (k * 5) [.int .i64 (-8), .int .u64 0, .string ⟨#[]⟩, .slice none 0 0, .int .i64 0] = w4 at *)
        go_roundw
        case rel => exact ⟨k + 1, _, by omega, by go_num, rfl, HNX.out.1, HNX.out.2⟩
        case measure => simp [intOf]; omega
    · have hkN2 : k = N + 3 := by omega
      clear has hkf
      go_wp2_with fail
      go_ret
      exact ⟨rfl, HR.out.2⟩

set_option maxRecDepth 20000 in
set_option maxHeartbeats 4000000 in
theorem asl_on : ∀ v : V, aslOn v := by
  refine V.ind (fun v ih w wv B s u F h hv hrd hwt => ?_)
  have has := fun w0 (hb : Below w.heap.size w w0) => asls_any v ih w0 wv B s u F (h.blw hb) hv (fun W hW => hrd W ((KeepF.of_below hb).trans hW)) (by have := v.wt_eq; omega)
  obtain ⟨q, d, hu, _⟩ := hv.slice
  obtain ⟨g, hs, hj1, hj2⟩ := h.slice
  clear hj1 hj2
  obtain ⟨N, hN⟩ : ∃ N, v.list.length = N := ⟨_, rfl⟩
  rw [hN] at hu hs
  subst hu hs
  have HA := Lib.hid has
  clear ih has h hv hrd hwt hN
  go_enter Tryz.func16, Tryz.ntmps16
  go_upto_region 1 with fail
  have hb0 : Below w.heap.size w ((w.alloc (.cells #[.int .i64 v.kind, .int .u64 v.num, .string v.text, (.slice (some ⟨g, 0, none⟩) N (N + 3)), .int .i64 v.elem] 25)).alloc (.cells #[.int .i64 v.kind, .int .u64 v.num, .string v.text, (.slice q N d), .int .i64 v.elem] 25)) := ((Below.refl _ _).alloc (Nat.le_refl _) _).alloc (by simp) _
  have ox : ((w.alloc (.cells #[.int .i64 v.kind, .int .u64 v.num, .string v.text, (.slice (some ⟨g, 0, none⟩) N (N + 3)), .int .i64 v.elem] 25)).alloc (.cells #[.int .i64 v.kind, .int .u64 v.num, .string v.text, (.slice q N d), .int .i64 v.elem] 25)).heap[w.heap.size]? = some (.cells #[.int .i64 v.kind, .int .u64 v.num, .string v.text, (.slice (some ⟨g, 0, none⟩) N (N + 3)), .int .i64 v.elem] 25 (0, 0)) := (_root_.Go.heap_alloc_old _ _ (by simp)).trans (_root_.Go.heap_alloc_new _ _)
  have oy : ((w.alloc (.cells #[.int .i64 v.kind, .int .u64 v.num, .string v.text, (.slice (some ⟨g, 0, none⟩) N (N + 3)), .int .i64 v.elem] 25)).alloc (.cells #[.int .i64 v.kind, .int .u64 v.num, .string v.text, (.slice q N d), .int .i64 v.elem] 25)).heap[w.heap.size + 1]? = some (.cells #[.int .i64 v.kind, .int .u64 v.num, .string v.text, (.slice q N d), .int .i64 v.elem] 25 (0, 0)) := by have := _root_.Go.heap_alloc_new (w.alloc (.cells #[.int .i64 v.kind, .int .u64 v.num, .string v.text, (.slice (some ⟨g, 0, none⟩) N (N + 3)), .int .i64 v.elem] 25)) (.cells #[.int .i64 v.kind, .int .u64 v.num, .string v.text, (.slice q N d), .int .i64 v.elem] 25); rwa [World.size_alloc] at this
  generalize ((w.alloc (.cells #[.int .i64 v.kind, .int .u64 v.num, .string v.text, (.slice (some ⟨g, 0, none⟩) N (N + 3)), .int .i64 v.elem] 25)).alloc (.cells #[.int .i64 v.kind, .int .u64 v.num, .string v.text, (.slice q N d), .int .i64 v.elem] 25)) = w0 at *
  obtain ⟨x, hx⟩ : ∃ x, w.heap.size = x := ⟨_, rfl⟩
  rw [hx] at ox oy ⊢
  obtain ⟨y, hy⟩ : ∃ y, x + 1 = y := ⟨_, rfl⟩
  rw [hy] at oy ⊢
  have HC := Lib.hid (HA.out w0 hb0)
  have HB := Lib.hid hb0
  have hse : ((v.text.toList == v.text.toList) : Bool) = true := by simp
  have hk0 : (v.kind == v.kind) = true := by simp
  have hn0 : (v.num == v.num) = true := by simp
  have he0 : (v.elem == v.elem) = true := by simp
  have x0 : w0.cell? ⟨x, 0, none⟩ = some (.int .i64 v.kind) := (cell_of_row _ _ 0 _ _ _ ox).trans rfl
  have x1 : w0.cell? ⟨x, 1, none⟩ = some (.int .u64 v.num) := (cell_of_row _ _ 1 _ _ _ ox).trans rfl
  have x2 : w0.cell? ⟨x, 2, none⟩ = some (.string v.text) := (cell_of_row _ _ 2 _ _ _ ox).trans rfl
  have x3 : w0.cell? ⟨x, 3, none⟩ = some (.slice (some ⟨g, 0, none⟩) N (N + 3)) := (cell_of_row _ _ 3 _ _ _ ox).trans rfl
  have x4 : w0.cell? ⟨x, 4, none⟩ = some (.int .i64 v.elem) := (cell_of_row _ _ 4 _ _ _ ox).trans rfl
  have y0 : w0.cell? ⟨y, 0, none⟩ = some (.int .i64 v.kind) := (cell_of_row _ _ 0 _ _ _ oy).trans rfl
  have y1 : w0.cell? ⟨y, 1, none⟩ = some (.int .u64 v.num) := (cell_of_row _ _ 1 _ _ _ oy).trans rfl
  have y2 : w0.cell? ⟨y, 2, none⟩ = some (.string v.text) := (cell_of_row _ _ 2 _ _ _ oy).trans rfl
  have y3 : w0.cell? ⟨y, 3, none⟩ = some (.slice q N d) := (cell_of_row _ _ 3 _ _ _ oy).trans rfl
  have y4 : w0.cell? ⟨y, 4, none⟩ = some (.int .i64 v.elem) := (cell_of_row _ _ 4 _ _ _ oy).trans rfl
  clear hb0 ox oy hx hy
  go_wp2_with fail
  refine HC.out.mono ?_
  clear x0 x1 x2 x3 x4 y0 y1 y2 y3 y4
  rintro e w1 ⟨rfl, hk1⟩
  have HK := Lib.hid ((KeepF.of_below HB.out).trans hk1)
  clear hk1
  go_wp2_with fail
  go_ret
  exact ⟨rfl, HK.out⟩



structure KeepR (lp : Nat) (O : Nat → Prop) (W : World) (O2 : Nat → Prop) (W2 : World) : Prop where
  os : W2.os = W.os
  tape : W2.tape = W.tape
  output : W2.output = W.output
  size : W.heap.size ≤ W2.heap.size
  block : ∀ j, j < W.heap.size → ¬ O j → j ≠ lp → W2.heap[j]? = W.heap[j]?
  own : ∀ j, O2 j → O j ∨ W.heap.size ≤ j
theorem KeepR.turn {lp : Nat} {O O2 : Nat → Prop} {W W2 W3 : World} (h : KeepR lp O W O2 W2) (ht : Turn lp W2 W3) : KeepW (fun j => O j ∨ j = lp) W (fun j => O2 j ∨ j = lp) W3 := by
  obtain ⟨g, hz⟩ := ht
  refine ⟨g.os.trans h.os, g.tape.trans h.tape, g.output.trans h.output, Nat.le_trans h.size g.size, fun j hj ho => ?_, fun j hj => ?_⟩
  · rw [g.block j (Nat.lt_of_lt_of_le hj h.size) (fun e => ho (.inr (Option.some.inj e))), h.block j hj (fun q => ho (.inl q)) (fun q => ho (.inr q))]
  · rcases hj with hj | hj
    · rcases h.own j hj with q | q
      · exact .inl (.inl q)
      · exact .inr q
    · exact .inl (.inr hj)
theorem grown_below {W W' : World} (h : Below W.heap.size W W') (d : Nat) : W.grownBy W' (some d) := ⟨h.os, h.tape, h.output, h.size, fun k hk _ => h.block k hk⟩

set_option maxRecDepth 20000 in
set_option maxHeartbeats 4000000 in
theorem each1_in {l : Nat} {w : World} {J : Nat → (Nat → Prop) → World → Prop} {Jx : (Nat → Prop) → World → Prop} {v : V} {s : Value} {O : Nat → Prop} {W : World} {y : Nat} (hR : RidesW l w (v.pre 1) J Jx) (hv : VIn w v s) (hJ : J 0 O W) (hwt : v.wt ≤ 4611686018427387000)
    (hy : W.heap[y]? = some (.cells #[.int .i64 v.kind, .int .u64 v.num, .string v.text, s, .int .i64 v.elem] 25 (0, 0))) :
    Calls Tryz.prog 68 #[.func (.yield l) #[] #[], .pointer (some ⟨y, 0, none⟩)] W fun e W' => (∃ u, e = .returned u) ∧ ((∃ O2, J (v.pre 1).length O2 W') ∨ ∃ O2, Jx O2 W') := by
  have hc := walk_in hR v 1 s 0 O W hv hJ (fun i _ => by rw [Nat.zero_add]) (by omega) (by omega)
  obtain ⟨p, c, hs, h1, h2, h3⟩ := hv.slice
  obtain ⟨N, hN⟩ : ∃ N, v.list.length = N := ⟨_, rfl⟩
  rw [hN] at hs
  subst hs
  rw [Nat.zero_add] at hc
  have y0 : W.cell? ⟨y, 0, none⟩ = some (.int .i64 v.kind) := (cell_of_row _ _ 0 _ _ _ hy).trans rfl
  have y1 : W.cell? ⟨y, 1, none⟩ = some (.int .u64 v.num) := (cell_of_row _ _ 1 _ _ _ hy).trans rfl
  have y2 : W.cell? ⟨y, 2, none⟩ = some (.string v.text) := (cell_of_row _ _ 2 _ _ _ hy).trans rfl
  have y3 : W.cell? ⟨y, 3, none⟩ = some (.slice p N c) := (cell_of_row _ _ 3 _ _ _ hy).trans rfl
  have y4 : W.cell? ⟨y, 4, none⟩ = some (.int .i64 v.elem) := (cell_of_row _ _ 4 _ _ _ hy).trans rfl
  have HC := Lib.hid hc
  clear hc h1 h2 h3 hN hy hv hJ hR hwt
  go_enter Tryz.func68, Tryz.ntmps68
  go_wp2_with fail
  refine HC.out.mono ?_
  rintro e w1 (⟨rfl, O2, hj, _⟩ | ⟨rfl, O2, hj, _⟩)
  · have H := Lib.hid hj
    clear hj y0 y1 y2 y3 y4
    go_wp2_with fail
    go_end0
    exact ⟨⟨_, rfl⟩, .inl ⟨O2, H.out⟩⟩
  · have H := Lib.hid hj
    clear hj y0 y1 y2 y3 y4
    go_wp2_with fail
    go_end0
    exact ⟨⟨_, rfl⟩, .inr ⟨O2, H.out⟩⟩

theorem wp_range_each {a : Act} {w wv : World} {g : Operand} {ps : Array Tmp} {assign body : Code} {Q : Exit → Act → World → Prop} {y : Nat} {v : V} {s : Value}
    (hg : a.eval g = .func (.func 68) #[] #[.pointer (some ⟨y, 0, none⟩)]) (hps : ps.size = 2)
    (hy : w.heap[y]? = some (.cells #[.int .i64 v.kind, .int .u64 v.num, .string v.text, s, .int .i64 v.elem] 25 (0, 0))) (hv : VIn wv v s) (hwt : v.wt ≤ 4611686018427387000)
    (I : Nat → (Nat → Prop) → World → Prop) (Ix : Code → (Nat → Prop) → World → Prop) (O : Nat → Prop)
    (hrd : ∀ k O W, I k O W → Rd wv W) (hfr : ∀ k O W, I k O W → ∀ j, O j → j < W.heap.size)
    (hturn : ∀ k O W W' d, I k O W → W.grownBy W' (some d) → w.heap.size ≤ d → ¬ O d → I k O W')
    (hturnX : ∀ c O W W' d, Ix c O W → W.grownBy W' (some d) → w.heap.size ≤ d → ¬ O d → Ix c O W')
    (hI0 : I 0 O w)
    (hround : ∀ (K : LoopBook w.heap.size (w.heap.size + 1)) k O d x t W, K.rdy W → I k O W → ¬ O w.heap.size → ¬ O (w.heap.size + 1) → w.heap.size + 2 ≤ W.heap.size → (v.pre 1)[k]? = some (d, x) → VIn W x t →
      RoundOf Tryz.prog K a.tmps ps assign body #[.int .i64 d, .agg #[.int .i64 x.kind, .int .u64 x.num, .string x.text, t, .int .i64 x.elem]] W (fun W3 => ∃ O2, I (k + 1) O2 W3 ∧ KeepR (w.heap.size + 1) O W O2 W3) (fun c W3 => ∃ O2, Ix c O2 W3 ∧ KeepR (w.heap.size + 1) O W O2 W3))
    (hdone : ∀ O W, I (v.pre 1).length O W → W.heap[w.heap.size]? = some (.deferred (some [])) → ¬ O w.heap.size → Q .normal { a with defers := { target := .collected w.heap.size, args := #[] } :: a.defers } W)
    (hexit : ∀ c O W, Ix c O W → W.heap[w.heap.size]? = some (.deferred (some [])) → ¬ O w.heap.size → c.wp Tryz.prog Q { a with defers := { target := .collected w.heap.size, args := #[] } :: a.defers } W) :
    (Code.rangeFunc g ps assign body).wp Tryz.prog Q a w := by
  refine wp_rangeFunc_any (gf := 68) (lb := #[.pointer (some ⟨y, 0, none⟩)]) hg (enters_of Tryz.func68 (by kernel_rfl) rfl) ?_
  intro K W1 hg1 hz1 hrd1 hyield
  have hylt := (Array.getElem?_eq_some_iff.1 hy).1
  have hy1 := (hg1.block y hylt (by simp)).trans hy
  have hfr0 := hfr 0 O w hI0
  have hOD : ¬ O w.heap.size := fun q => by have := hfr0 _ q; omega
  have hOl : ¬ O (w.heap.size + 1) := fun q => by have := hfr0 _ q; omega
  let J : Nat → (Nat → Prop) → World → Prop := fun k O' W => ∃ O, (O' = fun j => O j ∨ j = w.heap.size + 1) ∧ K.rdy W ∧ I k O W ∧ ¬ O w.heap.size ∧ ¬ O (w.heap.size + 1) ∧ w.heap.size + 2 ≤ W.heap.size
  let Jx : (Nat → Prop) → World → Prop := fun O' W => ∃ O c, (O' = fun j => O j ∨ j = w.heap.size + 1) ∧ K.fin c W ∧ Ix c O W ∧ ¬ O w.heap.size ∧ ¬ O (w.heap.size + 1)
  have hR : RidesW (w.heap.size + 1) wv (v.pre 1) J Jx := by
    refine ⟨?_, ?_, ?_, ?_⟩
    · rintro k O' W ⟨O, rfl, _, hI, _⟩
      exact hrd k O W hI
    · rintro k O' W ⟨O, rfl, _, hI, _, _, hz⟩ j (hj | hj)
      · exact hfr k O W hI j hj
      · omega
    · rintro k O' W W' ⟨O, rfl, hr, hI, h1, h2, hz⟩ hb
      exact ⟨O, rfl, K.keepR W W' hr (hb.block _ (by omega)) (hb.block _ (by omega)), hturn k O W W' _ hI (grown_below hb w.heap.size) (Nat.le_refl _) h1, h1, h2, Nat.le_trans hz hb.size⟩
    · rintro k O' W d x t ⟨O, rfl, hr, hI, h1, h2, hz⟩ hL hx
      have hyl := hyield #[.int .i64 d, .agg #[.int .i64 x.kind, .int .u64 x.num, .string x.text, t, .int .i64 x.elem]] W _ _ (by rw [hps]; rfl) hr (hround K k O d x t W hr hI h1 h2 hz hL (hx.rd (hrd k O W hI)))
      obtain ⟨fn, tmps, asg, bd, hyy, hRd⟩ := hyl
      refine ⟨fn, tmps, asg, bd, hyy, hRd.mono ?_⟩
      rintro e W' (⟨rfl, hr', W3, ⟨O2, hI2, hk2⟩, ht⟩ | ⟨rfl, c, hf', W3, ⟨O2, hI2, hk2⟩, ht⟩)
      · have n1 : ¬ O2 w.heap.size := fun q => by rcases hk2.own _ q with r | r; exact h1 r; omega
        have n2 : ¬ O2 (w.heap.size + 1) := fun q => by rcases hk2.own _ q with r | r; exact h2 r; omega
        exact .inl ⟨rfl, _, ⟨O2, rfl, hr', hturn _ _ _ _ _ hI2 ht.1 (by omega) n2, n1, n2, Nat.le_trans hz (Nat.le_trans hk2.size ht.1.size)⟩, hk2.turn ht⟩
      · have n1 : ¬ O2 w.heap.size := fun q => by rcases hk2.own _ q with r | r; exact h1 r; omega
        have n2 : ¬ O2 (w.heap.size + 1) := fun q => by rcases hk2.own _ q with r | r; exact h2 r; omega
        exact .inr ⟨rfl, _, ⟨O2, c, rfl, hf', hturnX _ _ _ _ _ hI2 ht.1 (by omega) n2, n1, n2⟩, hk2.turn ht⟩
  have hJ1 : J 0 (fun j => O j ∨ j = w.heap.size + 1) W1 := ⟨O, rfl, hrd1, hturn 0 O w W1 w.heap.size hI0 ⟨hg1.os, hg1.tape, hg1.output, hg1.size, fun k hk _ => hg1.block k hk (by simp)⟩ (Nat.le_refl _) hOD, hOD, hOl, by omega⟩
  refine (each1_in hR hv hJ1 hwt hy1).mono ?_
  rintro e W2 ⟨⟨u, rfl⟩, (⟨O2, O3, rfl, hr, hI, h1, h2, hz⟩ | ⟨O2, O3, c, rfl, hf, hI, h1, h2⟩)⟩
  · exact ⟨⟨_, rfl⟩, .inl ⟨hr, fun W3 ht hD => hdone O3 W3 (hturn _ _ _ _ _ hI ht.1 (by omega) h2) hD h1⟩⟩
  · exact ⟨⟨_, rfl⟩, .inr ⟨c, hf, fun W3 ht hD => hexit c O3 W3 (hturnX _ _ _ _ _ hI ht.1 (by omega) h2) hD h1⟩⟩

structure BelowD (B : Nat) (w w' : World) : Prop extends Below B w w' where
  drawn : w.drawn ≤ w'.drawn
theorem BelowD.refl (B : Nat) (w : World) : BelowD B w w := ⟨Below.refl B w, Nat.le_refl _⟩
theorem BelowD.trans {B : Nat} {a b c : World} (h : BelowD B a b) (k : BelowD B b c) : BelowD B a c := ⟨h.toBelow.trans k.toBelow, Nat.le_trans h.drawn k.drawn⟩
theorem BelowD.mono {B B' : Nat} {a b : World} (h : BelowD B a b) (hB : B' ≤ B) : BelowD B' a b := ⟨h.toBelow.mono hB, h.drawn⟩
theorem BelowD.alloc {B : Nat} {a b : World} (h : BelowD B a b) (hB : B ≤ b.heap.size) (o : Obj) : BelowD B a (b.alloc o) := ⟨h.toBelow.alloc hB o, h.drawn⟩
theorem below_setRowD {B : Nat} {w w' : World} {g : Nat} (h : BelowD B w w') (hg : B ≤ g) (cs : Array Value) : BelowD B w (w'.setRow g cs) := ⟨below_setRow h.toBelow hg cs, h.drawn⟩
theorem bs_cellD {w w' : World} {a : Addr} {u : Value} (hb : BelowD w.heap.size w w') (h : w.cell? a = some u) : w'.cell? a = some u := bs_cellV hb.toBelow h
theorem VIn.blwD {w w' : World} {v : V} {s : Value} (h : VIn w v s) (hb : BelowD w.heap.size w w') : VIn w' v s := h.blw hb.toBelow

def OrdOnD (a : V) : Prop := ∀ (w : World) (s : Value) (b : V) (t : Value), VIn w a s → VIn w b t →
    Calls Tryz.prog 103 #[.agg #[.int .i64 a.kind, .int .u64 a.num, .string a.text, s, .int .i64 a.elem], .agg #[.int .i64 b.kind, .int .u64 b.num, .string b.text, t, .int .i64 b.elem]] w fun e w' => e = .returned (.int .i64 (ordV a b)) ∧ BelowD w.heap.size w w'

set_option maxRecDepth 20000 in
set_option maxHeartbeats 4000000 in
theorem cmpfuncD_any (a : V) (ih : ∀ x ∈ a.list, OrdOnD x) (w : World) (s : Value) (b : V) (t : Value) (h : VIn w a s) (hb : VIn w b t) :
    Calls Tryz.prog 126 #[s, t, .func (.func 103) #[] #[]] w fun e w' => e = .returned (.int .i64 (ordL a.list b.list)) ∧ BelowD w.heap.size w w' := by
  obtain ⟨p, c, hs, h1, h2, h3⟩ := h.slice
  obtain ⟨q, d, ht, k1, k2, k3⟩ := hb.slice
  obtain ⟨N, hN⟩ : ∃ N, a.list.length = N := ⟨_, rfl⟩
  obtain ⟨M, hM⟩ : ∃ M, b.list.length = M := ⟨_, rfl⟩
  rw [hN] at hs h1 h3
  rw [hM] at ht k1 k3
  subst hs ht
  unfold maxLen at h2 k2
  obtain ⟨D, hD⟩ : ∃ D, ordL a.list b.list = D := ⟨_, rfl⟩
  rw [hD]
  have HD := Lib.hid hD
  clear hD
  have HI := Lib.hid ih
  have HN := Lib.hid (And.intro hN hM)
  have HV := Lib.hid (And.intro h hb)
  clear ih h hb hN hM
  go_enter Tryz.func126, Tryz.ntmps126
  go_wp2_with fail
  go_loopw [13] (fun v5 wr => ∃ k : Nat, k ≤ N ∧ v5 = .int .i64 k ∧ a.list.take k = b.list.take k ∧ BelowD w.heap.size w wr) (fun v5 _ => N - (intOf v5).toNat)
  case atStart => exact ⟨0, Nat.zero_le _, rfl, by rw [List.take_zero, List.take_zero], BelowD.refl _ _⟩
  case round =>
    obtain ⟨k, hk', rfl, hsame, hbw⟩ := hrel
    have HR := Lib.hid (And.intro hsame hbw)
    clear hsame hbw
    by_cases hkN : (k : Int) < N
    · have ka : k < a.list.length := by rw [HN.out.1]; omega
      obtain ⟨b1, o1, rfl⟩ := h3 (by omega)
      obtain ⟨ta, hta, hia⟩ := (HV.out.1.blwD HR.out.2).part rfl ka
      obtain ⟨pa, ca, hsa, _⟩ := hia.slice
      subst hsa
      obtain ⟨c0, c1, c2, c3, c4⟩ := part_cells hta
      obtain ⟨ya, hya⟩ : ∃ ya, a.list[k] = ya := ⟨_, rfl⟩
      have HYA := Lib.hid hya
      have HIK := Lib.hid (HI.out _ (List.getElem_mem ka))
      rw [hya] at c0 c1 c2 c3 c4 hia HIK
      obtain ⟨na, hna⟩ : ∃ na, ya.list.length = na := ⟨_, rfl⟩
      rw [hna] at c3 hia
      have HP := Lib.hid hia
      clear hta hia hya hna
      go_upto_region 4 with (refine wpList_store_rowTo rfl 25 (.tmp 8) (.tmp 17) rfl rfl wr.heap.size #[.int .i64 ya.kind, .int .u64 ya.num, .string ya.text, (.slice pa na ca), .int .i64 ya.elem] rfl rfl 25 zR (_root_.Go.heap_alloc_new wr _) (by as_aux_lemma => kernel_rfl) (by as_aux_lemma => kernel_rfl) (by simp [Value.oneCell']) ?_)
      have hb_w1 : BelowD wr.heap.size wr ((wr.alloc (.cells zR 25)).setRow wr.heap.size #[.int .i64 ya.kind, .int .u64 ya.num, .string ya.text, (.slice pa na ca), .int .i64 ya.elem]) := below_setRowD ((BelowD.refl _ _).alloc (Nat.le_refl _) _) (Nat.le_refl _) _
      have ox := setRow_heap (wr.alloc (.cells zR 25)) wr.heap.size _ #[.int .i64 ya.kind, .int .u64 ya.num, .string ya.text, (.slice pa na ca), .int .i64 ya.elem] _ _ (_root_.Go.heap_alloc_new wr _)
      change Code.wp _ _ _ _ ((wr.alloc (.cells zR 25)).setRow wr.heap.size #[.int .i64 ya.kind, .int .u64 ya.num, .string ya.text, (.slice pa na ca), .int .i64 ya.elem])
      generalize ((wr.alloc (.cells zR 25)).setRow wr.heap.size #[.int .i64 ya.kind, .int .u64 ya.num, .string ya.text, (.slice pa na ca), .int .i64 ya.elem]) = w1 at *
      obtain ⟨x, hx_x⟩ : ∃ x, wr.heap.size = x := ⟨_, rfl⟩
      rw [hx_x] at ox ⊢
      clear hx_x
      have HB1 := Lib.hid (HR.out.2.trans (hb_w1.mono HR.out.2.size))
      have HP1 := Lib.hid (HP.out.blwD hb_w1)
      have HOX := Lib.hid ox
      clear hb_w1 ox c0 c1 c2 c3 c4
      by_cases hkM : (k : Int) < M
      · have kb : k < b.list.length := by rw [HN.out.2]; omega
        obtain ⟨b2, o2, rfl⟩ := k3 (by omega)
        obtain ⟨tb, htb, hib⟩ := (HV.out.2.blwD HB1.out).part rfl kb
        obtain ⟨pb, cb, hsb, _⟩ := hib.slice
        subst hsb
        obtain ⟨d0, d1, d2, d3, d4⟩ := part_cells htb
        obtain ⟨yb, hyb⟩ : ∃ yb, b.list[k] = yb := ⟨_, rfl⟩
        have HYB := Lib.hid hyb
        rw [hyb] at d0 d1 d2 d3 d4 hib
        obtain ⟨nb, hnb⟩ : ∃ nb, yb.list.length = nb := ⟨_, rfl⟩
        rw [hnb] at d3 hib
        have HPB := Lib.hid hib
        clear htb hib hyb hnb
        go_upto_region 7 with (refine wpList_store_rowTo rfl 25 (.tmp 9) (.tmp 25) rfl rfl w1.heap.size #[.int .i64 yb.kind, .int .u64 yb.num, .string yb.text, (.slice pb nb cb), .int .i64 yb.elem] rfl rfl 25 zR (_root_.Go.heap_alloc_new w1 _) (by as_aux_lemma => kernel_rfl) (by as_aux_lemma => kernel_rfl) (by simp [Value.oneCell']) ?_)
        have hb_w2 : BelowD w1.heap.size w1 ((w1.alloc (.cells zR 25)).setRow w1.heap.size #[.int .i64 yb.kind, .int .u64 yb.num, .string yb.text, (.slice pb nb cb), .int .i64 yb.elem]) := below_setRowD ((BelowD.refl _ _).alloc (Nat.le_refl _) _) (Nat.le_refl _) _
        have oy := setRow_heap (w1.alloc (.cells zR 25)) w1.heap.size _ #[.int .i64 yb.kind, .int .u64 yb.num, .string yb.text, (.slice pb nb cb), .int .i64 yb.elem] _ _ (_root_.Go.heap_alloc_new w1 _)
        change Code.wp _ _ _ _ ((w1.alloc (.cells zR 25)).setRow w1.heap.size #[.int .i64 yb.kind, .int .u64 yb.num, .string yb.text, (.slice pb nb cb), .int .i64 yb.elem])
        generalize ((w1.alloc (.cells zR 25)).setRow w1.heap.size #[.int .i64 yb.kind, .int .u64 yb.num, .string yb.text, (.slice pb nb cb), .int .i64 yb.elem]) = w2 at *
        obtain ⟨y, hx_y⟩ : ∃ x, w1.heap.size = x := ⟨_, rfl⟩
        rw [hx_y] at oy ⊢
        clear hx_y
        have hox := (hb_w2.block x (Array.getElem?_eq_some_iff.1 HOX.out).1).trans HOX.out
        have x0 : w2.cell? ⟨x, 0, none⟩ = some (.int .i64 ya.kind) := (cell_of_row _ _ 0 _ _ _ hox).trans rfl
        have x1 : w2.cell? ⟨x, 1, none⟩ = some (.int .u64 ya.num) := (cell_of_row _ _ 1 _ _ _ hox).trans rfl
        have x2 : w2.cell? ⟨x, 2, none⟩ = some (.string ya.text) := (cell_of_row _ _ 2 _ _ _ hox).trans rfl
        have x3 : w2.cell? ⟨x, 3, none⟩ = some (.slice pa na ca) := (cell_of_row _ _ 3 _ _ _ hox).trans rfl
        have x4 : w2.cell? ⟨x, 4, none⟩ = some (.int .i64 ya.elem) := (cell_of_row _ _ 4 _ _ _ hox).trans rfl
        have y0 : w2.cell? ⟨y, 0, none⟩ = some (.int .i64 yb.kind) := (cell_of_row _ _ 0 _ _ _ oy).trans rfl
        have y1 : w2.cell? ⟨y, 1, none⟩ = some (.int .u64 yb.num) := (cell_of_row _ _ 1 _ _ _ oy).trans rfl
        have y2 : w2.cell? ⟨y, 2, none⟩ = some (.string yb.text) := (cell_of_row _ _ 2 _ _ _ oy).trans rfl
        have y3 : w2.cell? ⟨y, 3, none⟩ = some (.slice pb nb cb) := (cell_of_row _ _ 3 _ _ _ oy).trans rfl
        have y4 : w2.cell? ⟨y, 4, none⟩ = some (.int .i64 yb.elem) := (cell_of_row _ _ 4 _ _ _ oy).trans rfl
        have HB2 := Lib.hid (HB1.out.trans (hb_w2.mono HB1.out.size))
        have hc := HIK.out w2 _ yb _ (HP1.out.blwD hb_w2) (HPB.out.blwD hb_w2)
        have hat := ordL_at HR.out.1 ka kb
        rw [HD.out, HYA.out, HYB.out] at hat
        have hz : ordV ya yb = 0 → a.list.take (k + 1) = b.list.take (k + 1) := fun q => take_next HR.out.1 ka kb (by rw [HYA.out, HYB.out]; exact ordV_zero.1 q)
        obtain ⟨z, hzz⟩ : ∃ z, ordV ya yb = z := ⟨_, rfl⟩
        rw [hzz] at hc hat hz
        have HZ := Lib.hid (And.intro hat hz)
        clear hb_w2 hox oy d0 d1 d2 d3 d4 hat hz hzz
        have HC := Lib.hid hc
        clear hc
        go_wp2_with fail
        refine HC.out.mono ?_
        rintro e w3 ⟨rfl, hb3⟩
        have HB3 := Lib.hid (HB2.out.trans (hb3.mono HB2.out.size))
        clear hb3 x0 x1 x2 x3 x4 y0 y1 y2 y3 y4
        by_cases hz0 : z = 0
        · have hzt : (z == 0) = true := by simpa using hz0
          have HZ2 := Lib.hid (HZ.out.2 hz0)
          subst hz0
          go_wp2_with fail
          go_roundw
          case rel => exact ⟨k + 1, by omega, by go_num, HZ2.out, HB3.out⟩
          case measure => simp [intOf]; omega
        · have hzt : (z == 0) = false := by simpa using hz0
          have HDZ := Lib.hid (show D = z by rw [HZ.out.1]; simp [thenZ, hz0])
          go_wp2_with fail
          go_ret
          exact ⟨by rw [HDZ.out]; rfl, HB3.out⟩
      · have HD1 := Lib.hid (show D = 1 by rw [← HD.out]; exact ordL_longer HR.out.1 ka (by rw [HN.out.2]; omega))
        go_wp2_with fail
        go_ret
        exact ⟨by rw [HD1.out]; rfl, HB1.out⟩
    · have hkN2 : k = N := by omega
      have hend := ordL_end HR.out.1 (by rw [HN.out.1]; omega) (by rw [HN.out.1]; omega)
      rw [HD.out, HN.out.1, HN.out.2] at hend
      have hMN : ¬ M < N := by
        intro q
        have := congrArg List.length HR.out.1
        rw [List.length_take, List.length_take, HN.out.1, HN.out.2] at this
        omega
      by_cases hlt : (N : Int) < M
      · have HE := Lib.hid (show D = -1 by rw [hend, if_pos (by omega)])
        clear hend hkN2 hMN
        go_wp2_with fail
        go_ret
        exact ⟨by rw [HE.out]; rfl, HR.out.2⟩
      · have HE := Lib.hid (show D = 0 by rw [hend, if_neg (by omega), if_neg hMN])
        clear hend hkN2 hMN
        go_wp2_with fail
        go_ret
        exact ⟨by rw [HE.out]; rfl, HR.out.2⟩

set_option maxRecDepth 20000 in
set_option maxHeartbeats 4000000 in
theorem orderD_on : ∀ a : V, OrdOnD a := by
  refine V.ind (fun a ih w s b t h hb => ?_)
  have hef := cmpfuncD_any a ih
  obtain ⟨p, c, hs, h1, h2, h3⟩ := h.slice
  obtain ⟨q, d, ht, k1, k2, k3⟩ := hb.slice
  obtain ⟨N, hN⟩ : ∃ N, a.list.length = N := ⟨_, rfl⟩
  obtain ⟨M, hM⟩ : ∃ M, b.list.length = M := ⟨_, rfl⟩
  rw [hN] at hs h1 h3
  rw [hM] at ht k1 k3
  subst hs ht
  unfold maxLen at h2 k2
  obtain ⟨D, hD⟩ : ∃ D, ordV a b = D := ⟨_, rfl⟩
  rw [hD]
  have HD := Lib.hid (show thenZ (sgnZ a.kind b.kind) (thenZ (sgnZ a.num b.num) (thenZ (cmpT a.text b.text) (thenZ (ordL a.list b.list) (sgnZ a.elem b.elem)))) = D by rw [← ordV_eq]; exact hD)
  have HEF := Lib.hid hef
  clear hD hef
  have HI := Lib.hid ih
  have HN := Lib.hid (And.intro hN hM)
  have HV := Lib.hid (And.intro h hb)
  clear ih h hb hN hM
  go_enter Tryz.func103, Tryz.ntmps103
  go_upto_region 1 with fail
  have hb0 : BelowD w.heap.size w ((w.alloc (.cells #[.int .i64 a.kind, .int .u64 a.num, .string a.text, (.slice p N c), .int .i64 a.elem] 25)).alloc (.cells #[.int .i64 b.kind, .int .u64 b.num, .string b.text, (.slice q M d), .int .i64 b.elem] 25)) := (((BelowD.refl _ _).alloc (Nat.le_refl _) _).alloc (by simp) _)
  have ox : ((w.alloc (.cells #[.int .i64 a.kind, .int .u64 a.num, .string a.text, (.slice p N c), .int .i64 a.elem] 25)).alloc (.cells #[.int .i64 b.kind, .int .u64 b.num, .string b.text, (.slice q M d), .int .i64 b.elem] 25)).heap[w.heap.size]? = some (.cells #[.int .i64 a.kind, .int .u64 a.num, .string a.text, (.slice p N c), .int .i64 a.elem] 25 (0, 0)) := (_root_.Go.heap_alloc_old _ _ (by simp)).trans (_root_.Go.heap_alloc_new _ _)
  have oy : ((w.alloc (.cells #[.int .i64 a.kind, .int .u64 a.num, .string a.text, (.slice p N c), .int .i64 a.elem] 25)).alloc (.cells #[.int .i64 b.kind, .int .u64 b.num, .string b.text, (.slice q M d), .int .i64 b.elem] 25)).heap[w.heap.size + 1]? = some (.cells #[.int .i64 b.kind, .int .u64 b.num, .string b.text, (.slice q M d), .int .i64 b.elem] 25 (0, 0)) := by have := _root_.Go.heap_alloc_new (w.alloc (.cells #[.int .i64 a.kind, .int .u64 a.num, .string a.text, (.slice p N c), .int .i64 a.elem] 25)) (.cells #[.int .i64 b.kind, .int .u64 b.num, .string b.text, (.slice q M d), .int .i64 b.elem] 25); rwa [World.size_alloc] at this
  generalize ((w.alloc (.cells #[.int .i64 a.kind, .int .u64 a.num, .string a.text, (.slice p N c), .int .i64 a.elem] 25)).alloc (.cells #[.int .i64 b.kind, .int .u64 b.num, .string b.text, (.slice q M d), .int .i64 b.elem] 25)) = w0 at *
  obtain ⟨x, hx⟩ : ∃ x, w.heap.size = x := ⟨_, rfl⟩
  rw [hx] at ox oy ⊢
  obtain ⟨y, hy⟩ : ∃ y, x + 1 = y := ⟨_, rfl⟩
  rw [hy] at oy ⊢
  have HB0 := Lib.hid hb0
  have HOx := Lib.hid ox
  have HOy := Lib.hid oy
  clear hb0 ox oy hx hy
  have x0 : w0.cell? ⟨x, 0, none⟩ = some (.int .i64 a.kind) := (cell_of_row _ _ 0 _ _ _ HOx.out).trans rfl
  have x1 : w0.cell? ⟨x, 1, none⟩ = some (.int .u64 a.num) := (cell_of_row _ _ 1 _ _ _ HOx.out).trans rfl
  have x2 : w0.cell? ⟨x, 2, none⟩ = some (.string a.text) := (cell_of_row _ _ 2 _ _ _ HOx.out).trans rfl
  have x3 : w0.cell? ⟨x, 3, none⟩ = some (.slice p N c) := (cell_of_row _ _ 3 _ _ _ HOx.out).trans rfl
  have x4 : w0.cell? ⟨x, 4, none⟩ = some (.int .i64 a.elem) := (cell_of_row _ _ 4 _ _ _ HOx.out).trans rfl
  have y0 : w0.cell? ⟨y, 0, none⟩ = some (.int .i64 b.kind) := (cell_of_row _ _ 0 _ _ _ HOy.out).trans rfl
  have y1 : w0.cell? ⟨y, 1, none⟩ = some (.int .u64 b.num) := (cell_of_row _ _ 1 _ _ _ HOy.out).trans rfl
  have y2 : w0.cell? ⟨y, 2, none⟩ = some (.string b.text) := (cell_of_row _ _ 2 _ _ _ HOy.out).trans rfl
  have y3 : w0.cell? ⟨y, 3, none⟩ = some (.slice q M d) := (cell_of_row _ _ 3 _ _ _ HOy.out).trans rfl
  have y4 : w0.cell? ⟨y, 4, none⟩ = some (.int .i64 b.elem) := (cell_of_row _ _ 4 _ _ _ HOy.out).trans rfl
  obtain ⟨z1, hz1⟩ : ∃ z, sgnZ a.kind b.kind = z := ⟨_, rfl⟩
  obtain ⟨z2, hz2⟩ : ∃ z, sgnZ a.num b.num = z := ⟨_, rfl⟩
  obtain ⟨z3, hz3⟩ : ∃ z, cmpT a.text b.text = z := ⟨_, rfl⟩
  obtain ⟨z4, hz4⟩ : ∃ z, ordL a.list b.list = z := ⟨_, rfl⟩
  obtain ⟨z5, hz5⟩ : ∃ z, sgnZ a.elem b.elem = z := ⟨_, rfl⟩
  have hk1 := fun W => compare_int a.kind b.kind W
  have hk2 := fun W => compare_uint64 a.num b.num W
  have hk3 := fun W => strcmp_any a.text b.text W
  have hk5 := fun W => compare_int a.elem b.elem W
  rw [hz1] at hk1
  rw [hz2] at hk2
  rw [hz3] at hk3
  rw [hz5] at hk5
  have HK := Lib.hid (And.intro hk1 (And.intro hk2 (And.intro hk3 hk5)))
  have HD2 : Hid (thenZ z1 (thenZ z2 (thenZ z3 (thenZ z4 z5))) = D) := Lib.hid (by rw [← hz1, ← hz2, ← hz3, ← hz4, ← hz5]; exact HD.out)
  have HZ4 := Lib.hid hz4
  have HX : Hid (∀ W', BelowD w0.heap.size w0 W' → W'.cell? ⟨x, 0, none⟩ = some (.int .i64 a.kind) ∧ W'.cell? ⟨x, 1, none⟩ = some (.int .u64 a.num) ∧ W'.cell? ⟨x, 2, none⟩ = some (.string a.text) ∧ W'.cell? ⟨y, 0, none⟩ = some (.int .i64 b.kind) ∧ W'.cell? ⟨y, 1, none⟩ = some (.int .u64 b.num) ∧ W'.cell? ⟨y, 2, none⟩ = some (.string b.text)) := Lib.hid (fun W' hB => ⟨bs_cellD hB x0, bs_cellD hB x1, bs_cellD hB x2, bs_cellD hB y0, bs_cellD hB y1, bs_cellD hB y2⟩)
  have HX4 : Hid (∀ W', BelowD w0.heap.size w0 W' → W'.cell? ⟨x, 3, none⟩ = some (.slice p N c) ∧ W'.cell? ⟨x, 4, none⟩ = some (.int .i64 a.elem) ∧ W'.cell? ⟨y, 3, none⟩ = some (.slice q M d) ∧ W'.cell? ⟨y, 4, none⟩ = some (.int .i64 b.elem)) := Lib.hid (fun W' hB => ⟨bs_cellD hB x3, bs_cellD hB x4, bs_cellD hB y3, bs_cellD hB y4⟩)
  clear hz1 hz2 hz3 hz4 hz5 hk1 hk2 hk3 hk5 x3 x4 y3 y4
  obtain ⟨u, hu⟩ : ∃ u, orL [z1, z2, z3] = u := ⟨_, rfl⟩
  have HU := Lib.hid hu
  clear hu
  have hdr : BelowD w0.heap.size w0 w0.drew := ⟨⟨rfl, rfl, rfl, Nat.le_refl _, fun _ _ => rfl⟩, Nat.le_succ _⟩
  go_region_held3 (fun w' => w'.cell? ⟨x, 0, none⟩ = some (.int .i64 a.kind) ∧ w'.cell? ⟨x, 1, none⟩ = some (.int .u64 a.num) ∧ w'.cell? ⟨x, 2, none⟩ = some (.string a.text) ∧ w'.cell? ⟨y, 0, none⟩ = some (.int .i64 b.kind) ∧ w'.cell? ⟨y, 1, none⟩ = some (.int .u64 b.num) ∧ w'.cell? ⟨y, 2, none⟩ = some (.string b.text)) (first | exact HX.out _ hdr | exact HX.out _ (hdr.alloc (Nat.le_refl _) _) | exact HX.out _ (by assumption))
    (first
      | (go_at_call 123; refine (HK.out.1 _).mono ?_; rintro e w' ⟨rfl, rfl⟩)
      | (go_at_call 124; refine (HK.out.2.1 _).mono ?_; rintro e w' ⟨rfl, rfl⟩)
      | (go_at_call 125; refine (HK.out.2.2.1 _).mono ?_; rintro e w' ⟨rfl, rfl⟩)
      | (go_at_call 122; refine (or_any _ _ 3 3 [z1, z2, z3] rfl (by omega) (by omega) (or_cells [z1, z2, z3])).mono ?_; rintro e w' ⟨rfl, rfl⟩; rw [HU.out]))
  have hd1 : BelowD w0.heap.size w0 ((w0.alloc (.cells #[.int .i64 z1, .int .i64 z2, .int .i64 z3] 3)).drew) := (hdr.alloc (Nat.le_refl _) _)
  generalize ((w0.alloc (.cells #[.int .i64 z1, .int .i64 z2, .int .i64 z3] 3)).drew) = w1 at *
  have HB1 := Lib.hid hd1
  clear hd1 hdr x0 x1 x2 y0 y1 y2
  by_cases hu0 : u = 0
  · have hut : (u == 0) = true := by simpa using hu0
    have hDu : thenZ z4 z5 = D := by rw [← HD2.out]; exact (orL_zero (by rw [HU.out]; exact hu0)).symm
    obtain ⟨v, hv⟩ : ∃ v, orL [z4, z5] = v := ⟨_, rfl⟩
    have HV2 := Lib.hid hv
    have hvD : v = D := by rw [← hDu, ← hv]; simp only [orL, thenZ]; by_cases h : z5 = 0 <;> simp [h]
    subst hvD
    subst hu0
    obtain ⟨e3, e4, g3, g4⟩ := HX4.out w1 HB1.out
    clear hDu hv
    go_upto_region 4 with fail
    have hdr : BelowD w0.heap.size w0 w1.drew := ⟨⟨HB1.out.os, HB1.out.tape, HB1.out.output, HB1.out.size, HB1.out.block⟩, Nat.le_succ_of_le HB1.out.drawn⟩
    have hc := HEF.out w1.drew _ b _ (HV.out.1.blwD (HB0.out.trans (hdr.mono HB0.out.size))) (HV.out.2.blwD (HB0.out.trans (hdr.mono HB0.out.size)))
    rw [HZ4.out] at hc
    have HC := Lib.hid hc
    clear hc
    go_region_held3 (fun w' => w'.cell? ⟨x, 3, none⟩ = some (.slice p N c) ∧ w'.cell? ⟨x, 4, none⟩ = some (.int .i64 a.elem) ∧ w'.cell? ⟨y, 3, none⟩ = some (.slice q M d) ∧ w'.cell? ⟨y, 4, none⟩ = some (.int .i64 b.elem)) (first | exact HX4.out _ hdr | exact HX4.out _ (by assumption) | exact HX4.out _ (hw2.alloc hw2.size _))
      (first
        | (go_at_call 126; refine HC.out.mono ?_; rintro e w2 ⟨rfl, hb2⟩; have hw2 : BelowD w0.heap.size w0 w2 := hdr.trans (hb2.mono hdr.size); clear hb2)
        | (go_at_call 123; refine (HK.out.2.2.2 _).mono ?_; rintro e w' ⟨rfl, rfl⟩)
        | (go_at_call 122; refine (or_any _ _ 2 2 [z4, z5] rfl (by omega) (by omega) (or_cells' [z4, z5])).mono ?_; rintro e w' ⟨rfl, rfl⟩; rw [HV2.out]))
    go_wp2_with fail
    go_ret
    exact ⟨rfl, HB0.out.trans ((hw2.alloc hw2.size _).mono HB0.out.size)⟩
  · have hut : (u == 0) = false := by simpa using hu0
    have HDu := Lib.hid (show D = u by rw [← HD2.out, ← HU.out]; exact orL_pos (by rw [HU.out]; exact hu0))
    go_wp2_with fail
    go_ret
    exact ⟨by rw [HDu.out]; rfl, HB0.out.trans (HB1.out.mono HB0.out.size)⟩

theorem grow_of_below {W w' : World} (h : BelowD W.heap.size W w') : ∃ q os', w' = Go.Sort.grow (W.drewN q) os' := by
  refine ⟨w'.drawn - W.drawn, w'.heap.extract W.heap.size w'.heap.size, ?_⟩
  obtain ⟨⟨h1, h2, h3, h4, h5⟩, h6⟩ := h
  obtain ⟨hp, tp, dr, o, out⟩ := w'
  simp only at h1 h2 h3 h4 h5 h6 ⊢
  subst h1 h2 h3
  simp only [Go.Sort.grow, World.drewN, World.mk.injEq, and_true, true_and]
  refine ⟨?_, by omega⟩
  apply Array.ext_getElem?
  intro i
  by_cases hi : i < W.heap.size
  · rw [h5 i hi, Array.getElem?_append_left hi]
  · rw [Array.getElem?_append_right (by omega), Array.getElem?_extract]
    by_cases hi2 : i < hp.size
    · rw [if_pos (by omega)]; congr 1; omega
    · rw [if_neg (by omega), Array.getElem?_eq_none (by omega)]

end Go.Proofs.YtnnnfhobbnjmfaaGreatDoor

namespace Go.Proofs
open Go.Shelf
def Tryz.sort_ren : Go.Shelf.Ren := ⟨fun | 6 => 102 | 15 => 121 | 14 => 120 | 28 => 144 | 29 => 145 | 20 => 136 | 21 => 137 | 22 => 138 | 23 => 139 | 24 => 140 | 25 => 141 | 26 => 142 | 27 => 143 | 46 => 150 | 47 => 151 | 48 => 152 | 49 => 153 | 50 => 154 | 57 => 158 | n => n, fun | 22 => 23 | 24 => 25 | 25 => 117 | 3 => 3 | 39 => 119 | 0 => 0 | 53 => 150 | 55 => 22 | 4 => 4 | 46 => 143 | 45 => 142 | 50 => 147 | 5 => 5 | 9 => 9 | 66 => 157 | 70 => 161 | 76 => 165 | 77 => 166 | n => n, fun | n => n⟩
theorem Tryz.sort : Go.Proofs.SlLaysF0.n6 Tryz.prog Tryz.sort_ren := {
  mixed := by kernel_rfl
  f6 := ⟨Tryz.f102.name, by decide, Tryz.func102.trans (congrArg some (by kernel_rfl))⟩
  f14 := ⟨Tryz.f120.name, by decide, Tryz.func120.trans (congrArg some (by kernel_rfl))⟩
  f15 := Tryz.func121.trans (congrArg some (by kernel_rfl))
  f20 := ⟨Tryz.f136.name, by decide, Tryz.func136.trans (congrArg some (by kernel_rfl))⟩
  f21 := ⟨Tryz.f137.name, by decide, Tryz.func137.trans (congrArg some (by kernel_rfl))⟩
  f22 := ⟨Tryz.f138.name, by decide, Tryz.func138.trans (congrArg some (by kernel_rfl))⟩
  f23 := ⟨Tryz.f139.name, by decide, Tryz.func139.trans (congrArg some (by kernel_rfl))⟩
  f24 := ⟨Tryz.f140.name, by decide, Tryz.func140.trans (congrArg some (by kernel_rfl))⟩
  f25 := ⟨Tryz.f141.name, by decide, Tryz.func141.trans (congrArg some (by kernel_rfl))⟩
  f26 := ⟨Tryz.f142.name, by decide, Tryz.func142.trans (congrArg some (by kernel_rfl))⟩
  f27 := ⟨Tryz.f143.name, by decide, Tryz.func143.trans (congrArg some (by kernel_rfl))⟩
  f28 := Tryz.func144.trans (congrArg some (by kernel_rfl))
  f29 := Tryz.func145.trans (congrArg some (by kernel_rfl))
  f46 := ⟨Tryz.f150.name, by decide, Tryz.func150.trans (congrArg some (by kernel_rfl))⟩
  f47 := Tryz.func151.trans (congrArg some (by kernel_rfl))
  f48 := Tryz.func152.trans (congrArg some (by kernel_rfl))
  f49 := ⟨Tryz.f153.name, by decide, Tryz.func153.trans (congrArg some (by kernel_rfl))⟩
  f50 := ⟨Tryz.f154.name, by decide, Tryz.func154.trans (congrArg some (by kernel_rfl))⟩
  f57 := ⟨Tryz.f158.name, by decide, Tryz.func158.trans (congrArg some (by kernel_rfl))⟩
  t0 := Tryz.underlying0
  a0 := Tryz.isAgg0
  z0 := Tryz.sizeOf0
  v0 := Tryz.zeroValue0
  t3 := Tryz.underlying3
  a3 := Tryz.isAgg3
  z3 := Tryz.sizeOf3
  v3 := Tryz.zeroValue3
  t4 := Tryz.underlying4
  a4 := Tryz.isAgg4
  z4 := Tryz.sizeOf4
  v4 := Tryz.zeroValue4
  t5 := Tryz.underlying5
  a5 := Tryz.isAgg5
  z5 := Tryz.sizeOf5
  v5 := Tryz.zeroValue5
  t9 := Tryz.underlying9
  a9 := Tryz.isAgg9
  z9 := Tryz.sizeOf9
  v9 := Tryz.zeroValue9
  t22 := Tryz.underlying23
  a22 := Tryz.isAgg23
  z22 := Tryz.sizeOf23
  v22 := Tryz.zeroValue23
  t25 := Tryz.underlying117
  a25 := Tryz.isAgg117
  z25 := Tryz.sizeOf117
  v25 := Tryz.zeroValue117
  t39 := Tryz.underlying119
  a39 := Tryz.isAgg119
  z39 := Tryz.sizeOf119
  v39 := Tryz.zeroValue119
  t45 := Tryz.underlying142
  a45 := Tryz.isAgg142
  z45 := Tryz.sizeOf142
  v45 := Tryz.zeroValue142
  t46 := Tryz.underlying143
  a46 := Tryz.isAgg143
  z46 := Tryz.sizeOf143
  v46 := Tryz.zeroValue143
  t50 := Tryz.underlying147
  a50 := Tryz.isAgg147
  z50 := Tryz.sizeOf147
  v50 := Tryz.zeroValue147
  t53 := Tryz.underlying150
  a53 := Tryz.isAgg150
  z53 := Tryz.sizeOf150
  v53 := Tryz.zeroValue150
  t55 := Tryz.underlying22
  a55 := Tryz.isAgg22
  z55 := Tryz.sizeOf22
  v55 := Tryz.zeroValue22
  t66 := Tryz.underlying157
  a66 := Tryz.isAgg157
  z66 := Tryz.sizeOf157
  v66 := Tryz.zeroValue157
  t70 := Tryz.underlying161
  a70 := Tryz.isAgg161
  z70 := Tryz.sizeOf161
  v70 := Tryz.zeroValue161
  t76 := Tryz.underlying165
  a76 := Tryz.isAgg165
  z76 := Tryz.sizeOf165
  v76 := Tryz.zeroValue165
  t77 := Tryz.underlying166
  a77 := Tryz.isAgg166
  z77 := Tryz.sizeOf166
  v77 := Tryz.zeroValue166 }
end Go.Proofs

namespace Go.Proofs.YtnnnfhobbnjmfaaGreatDoor
open Go.RowKit
set_option linter.all false

open Go.Sort
def evens : List V → List V
  | [] => []
  | [a] => [a]
  | a :: _ :: r => a :: evens r
theorem evens_len : ∀ l : List V, (evens l).length = (l.length + 1) / 2
  | [] => rfl
  | [_] => by simp [evens]
  | a :: b :: r => by rw [evens, List.length_cons, evens_len r, List.length_cons, List.length_cons]; omega
theorem evens_get : ∀ (l : List V) (i : Nat) (h : 2 * i < l.length) (h2 : i < (evens l).length), (evens l)[i] = l[2 * i]
  | [], i, h, _ => by simp at h
  | [_], i, h, _ => by
    have : i = 0 := by simp at h; omega
    subst this
    rfl
  | a :: b :: r, 0, h, _ => rfl
  | a :: b :: r, i + 1, h, h2 => by
    have h3 : 2 * i < r.length := by simp only [List.length_cons] at h; omega
    have h4 : i < (evens r).length := by rw [evens_len]; omega
    have := evens_get r i h3 h4
    simp only [evens, List.getElem_cons_succ, this, show 2 * (i + 1) = 2 * i + 1 + 1 by omega]
theorem evens_take (l : List V) (i : Nat) (h : 2 * i < l.length) : (evens l).take (i + 1) = (evens l).take i ++ [l[2 * i]] := by
  have h2 : i < (evens l).length := by rw [evens_len]; omega
  rw [List.take_add_one, List.getElem?_eq_getElem h2, evens_get l i h h2, Option.toList_some]
noncomputable def mapOk (l : List V) : Bool := decide (l.length % 2 = 0 ∧ l.length ≤ 2048 ∧ (evens l).Nodup)

theorem VIn.parts {w : World} {v : V} {p : Option Addr} {n c : Nat} (h : VIn w v (.slice p n c)) : ∃ ss : Nat → Value, ∀ i (hi : i < v.list.length), VIn w v.list[i] (ss i) ∧ ∀ b o, p = some ⟨b, o, none⟩ → w.rangeAt b (o + i * 5) (vcells v.list[i] (ss i)) := by
  cases h with
  | mk _ _ _ ss wf hc hm ha hcell hin => exact ⟨ss, fun i hi => ⟨hin i hi, fun b o e => hcell b o e i hi⟩⟩

abbrev VP (w : World) := { p : V × Value // VIn w p.1 p.2 }
theorem vin_nil (w : World) : VIn w default (.slice none 0 0) := (VO.nil w 0 (v := default) ⟨⟨by decide, by decide⟩, ⟨by decide, by decide⟩, Nat.zero_le _, ⟨by decide, by decide⟩⟩ rfl).vin
instance (w : World) : Inhabited (VP w) := ⟨⟨(default, .slice none 0 0), vin_nil w⟩⟩
def encP {w : World} (x : VP w) : List Value := vcells x.1.1 x.1.2
def cfP {w : World} (x y : VP w) : Int := ordV x.1.1 y.1.1
theorem swoP (w : World) : SWO (ltOf (cfP (w := w))) := by
  refine ⟨fun x => ?_, fun x y z h1 h2 => ?_, fun x y z h1 h2 => ?_⟩
  · simp [ltOf, cfP, ordV_self]
  · have h1 : ordV x.1.1 y.1.1 < 0 := of_decide_eq_true h1
    have h2 : ordV y.1.1 z.1.1 < 0 := of_decide_eq_true h2
    refine decide_eq_true (show ordV x.1.1 z.1.1 < 0 from ?_)
    obtain ⟨q1, q2⟩ := ordV_tri x.1.1 y.1.1 z.1.1 (by omega) (by omega)
    have : ordV x.1.1 z.1.1 ≠ 0 := fun q => by have := q2.1 q; omega
    omega
  · have h1 : ¬ ordV x.1.1 y.1.1 < 0 := of_decide_eq_false h1
    have h2 : ¬ ordV y.1.1 z.1.1 < 0 := of_decide_eq_false h2
    refine decide_eq_false (show ¬ ordV x.1.1 z.1.1 < 0 from ?_)
    have n1 := ordV_neg x.1.1 y.1.1
    have n2 := ordV_neg y.1.1 z.1.1
    have n3 := ordV_neg x.1.1 z.1.1
    obtain ⟨q1, q2⟩ := ordV_tri z.1.1 y.1.1 x.1.1 (by omega) (by omega)
    omega
theorem below_sort {w w1 : World} {blk m : Nat} {dk : Array (VP w)} {os : Array Obj} (hb : Below w.heap.size w w1) (hg : w.heap.size ≤ blk) : Below w.heap.size w (sortWorldK encP 5 w1 blk 0 m dk os) := by
  have hz := hb.size
  refine ⟨hb.os, hb.tape, hb.output, Nat.le_trans hz (size_sortWorldK_c _ _ _ _ _ _ _ _), fun j hj => ?_⟩
  have h1 := hb.block j hj
  rw [← h1]
  show ((w1.heap.modify blk _) ++ os)[j]? = _
  rw [Array.getElem?_append_left (by simp; omega), Array.getElem?_modify, if_neg (by omega)]
theorem cmpP {w w1 : World} {blk size : Nat} (hb : Below w.heap.size w w1) (hg : w.heap.size ≤ blk) : CmpLays Tryz.prog 103 #[] (encP (w := w)) 5 cfP blk 0 size w1 := by
  intro m os dk hs x y
  have hB := below_sort (m := m) (dk := dk) (os := os) hb hg
  refine (orderD_on x.1.1 (sortWorldK encP 5 w1 blk 0 m dk os) x.1.2 y.1.1 y.1.2 (x.2.blw hB) (y.2.blw hB)).mono ?_
  rintro e w' ⟨rfl, hbd⟩
  exact ⟨rfl, grow_of_below hbd⟩

def rowP (w : World) (l : List V) (ss : Nat → Value) (h : ∀ i (hi : i < l.length), VIn w l[i] (ss i)) : Array (VP w) := Array.ofFn (n := l.length) fun i => ⟨(l[i.1], ss i.1), h i.1 i.2⟩
theorem rowP_size (w : World) (l : List V) (ss : Nat → Value) (h) : (rowP w l ss h).size = l.length := by simp [rowP]
theorem rowP_get (w : World) (l : List V) (ss : Nat → Value) (h) (i : Nat) (hi : i < l.length) : ((rowP w l ss h)[i]!).1 = (l[i], ss i) := by
  rw [getElem!_pos _ i (by rw [rowP_size]; exact hi)]
  simp [rowP]
theorem holds_rowP {w w1 : World} {l : List V} {ss : Nat → Value} {h} {g cap : Nat} {B : Nat} (hr : w1.ownsRow B 25 5 (.slice (some ⟨g, 0, none⟩) l.length cap) l.length (vrow l ss)) : HoldsK encP 5 w1 g 0 (rowP w l ss h) := by
  have hcell := hr
  rcases hr.2 with hn | ⟨g', cap', cur, hv, hbg, hh, _⟩
  · simp at hn
  simp only [Value.slice.injEq, Option.some.injEq, Addr.mk.injEq] at hv
  obtain ⟨⟨rfl, _⟩, _, rfl⟩ := hv
  intro j hj
  rw [size_flatK, rowP_size] at hj
  have hj5 : j / 5 < l.length := by omega
  refine ⟨?_, by simp [World.frozen?, hh]⟩
  rw [Nat.zero_add, get_flatK _ _ _ _ (by rw [rowP_size]; exact hj)]
  have h1 := vrow_get l ss (j / 5) (j % 5) hj5 (Nat.mod_lt _ (by omega))
  have h2 := rowP_get w l ss h (j / 5) hj5
  have h3 : encP (rowP w l ss h)[j / 5]! = vcells l[j / 5] (ss (j / 5)) := by
    unfold encP
    rw [h2]
  rw [h3]
  have h4 : (vcells l[j / 5] (ss (j / 5)))[j % 5]? = some (vcells l[j / 5] (ss (j / 5)))[j % 5]! := by
    have : j % 5 < (vcells l[j / 5] (ss (j / 5))).length := by rw [vcells_len]; exact Nat.mod_lt _ (by omega)
    rw [List.getElem?_eq_getElem this, getElem!_pos (vcells l[j / 5] (ss (j / 5))) (j % 5) this]
  rw [h4] at h1
  have h5 := ownsRow_cell hcell (i := j / 5 * 5 + j % 5) h1
  rw [show j / 5 * 5 + j % 5 = j by omega] at h5
  exact h5

theorem sorted_keys {w : World} {l : List V} {ss : Nat → Value} {h} {d' : Array (VP w)} (hp : PermIn 0 l.length (rowP w l ss h) d') : d'.size = l.length ∧ (d'.toList.map fun x => x.1.1).Perm l := by
  obtain ⟨h1, _, h3⟩ := hp
  rw [rowP_size] at h1
  refine ⟨h1, ?_⟩
  have e1 : d'.extract 0 l.length = d' := by rw [← h1]; exact Array.extract_size
  have e2 : (rowP w l ss h).extract 0 l.length = rowP w l ss h := by
    have := Array.extract_size (xs := rowP w l ss h)
    rwa [rowP_size] at this
  rw [e1, e2] at h3
  have h4 := h3.map (fun x => x.1.1)
  have e3 : (rowP w l ss h).toList.map (fun x => x.1.1) = l := by
    apply List.ext_getElem?
    intro i
    by_cases hi : i < l.length
    · simp [rowP, hi]
    · rw [List.getElem?_eq_none (by simp [rowP]; omega), List.getElem?_eq_none (by omega)]
  rw [e3] at h4
  exact h4
theorem nodup_sorted {ks : List V} (hs : ∀ i j (hi : i < ks.length) (hj : j < ks.length), i < j → ¬ ordV ks[j] ks[i] < 0) (hn : ∀ i (hi : i + 1 < ks.length), ordV ks[i] ks[i + 1] ≠ 0) : ks.Nodup := by
  have key : ∀ k i (hi : i < ks.length) (hj : i + k + 1 < ks.length), ordV ks[i] ks[i + k + 1] < 0 := by
    intro k
    induction k with
    | zero =>
      intro i hi hj
      have h1 := hs i (i + 1) hi hj (by omega)
      have h2 := hn i hj
      have h3 := ordV_neg ks[i] ks[i + 1]
      simp only [Nat.add_zero]
      omega
    | succ k ih =>
      intro i hi hj
      have h1 := ih i hi (by omega)
      have h2 := ih 0 (by omega) (by omega)
      have h4 := hs (i + k + 1) (i + k + 1 + 1) (by omega) (by omega) (by omega)
      have h5 := hn (i + k + 1) (by omega)
      have h6 := ordV_neg ks[i + k + 1] ks[i + k + 1 + 1]
      obtain ⟨q1, q2⟩ := ordV_tri ks[i] ks[i + k + 1] ks[i + k + 1 + 1] (by omega) (by omega)
      have : ordV ks[i] ks[i + k + 1 + 1] ≠ 0 := fun q => by have := q2.1 q; omega
      simp only [show i + (k + 1) + 1 = i + k + 1 + 1 by omega]
      omega
  rw [List.nodup_iff_pairwise_ne, List.pairwise_iff_getElem]
  intro i j hi hj hij e
  have h1 := key (j - i - 1) i hi (by omega)
  simp only [show i + (j - i - 1) + 1 = j by omega] at h1
  rw [e, ordV_self] at h1
  omega

end Go.Proofs.YtnnnfhobbnjmfaaGreatDoor
