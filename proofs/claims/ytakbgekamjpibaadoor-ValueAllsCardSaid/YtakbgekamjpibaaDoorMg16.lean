/-
  What was lent is as it was, and is written over. Conditions: the lent one is one's own; the other one lies apart and is no greater than a million.
  A range over what stands in a value (each): its law. Conditions: the value lies in memory.
-/
import Derived.Test.YtakbgekamjpibaaDoorNa
import Derived.Test.YtakbgekamjpibaaDoorMg13
namespace Go.Proofs.YtakbgekamjpibaaDoor
open Go.RowKit
set_option linter.unusedVariables false

attribute [local go_sem] Oper.semAt_some

/-- the elements' cells while they are looked at and written over -/
structure AsI (v : V) (wr : World) (B b k : Nat) (c : Nat → List Value) (ss : Nat → Value) (Fs : Nat → Nat → Prop) : Prop where
  hc : ∀ i, (c i).length = 5
  hrow : RowF wr B b (v.list.length + 3) c
  h1 : ∀ i (h : i < v.list.length), k ≤ i → c i = vcells v.list[i] (ss i)
  h2 : ∀ i, v.list.length ≤ i → k ≤ i → i < v.list.length + 3 → c i = vcells (mkV i) nilS
  hin : ∀ i (h : i < v.list.length), k ≤ i → VL wr B v.list[i] (ss i) (Fs i)
theorem AsI.next {v : V} {wr w2 : World} {B b k : Nat} {c : Nat → List Value} {ss : Nat → Value} {Fs : Nat → Nat → Prop} {G : Nat → Prop} {m : List Value} (h : AsI v wr B b k c ss Fs) (hk : k < v.list.length + 3)
    (hd : ∀ i, i < v.list.length → k < i → ∀ g, Fs i g → ¬ G g) (hs : ∀ i, i < v.list.length → ¬ Fs i b) (hG : ¬ G b) (hkf : KeepF G wr w2) (hm : m.length = 5) :
    AsI v (w2.setCells b (k * 5) m) B b (k + 1) (updF c k m) ss Fs := by
  have g := setCells_grown w2 b (k * 5) m
  have hrow2 : RowF w2 B b (v.list.length + 3) c := h.hrow.keep (hkf.block b h.hrow.lt.2 hG)
  refine ⟨updF_len h.hc hm, hrow2.set h.hc hk hm, fun i hi hik => by rw [updF_other (by omega)]; exact h.h1 i hi (by omega), fun i q1 q2 q3 => by rw [updF_other (by omega)]; exact h.h2 i q1 (by omega) q3, fun i hi hik => ?_⟩
  have hv := (h.hin i hi (by omega)).keepF hkf (hd i hi (by omega))
  exact hv.keep (fun q hq => g.block q (hv.lt q hq).2 (fun e => hs i hi (by rw [← Option.some.inj e]; exact hq)))

def aslOn (v : V) : Prop := ∀ (w wv : World) (B : Nat) (s u : Value) (F : Nat → Prop), VL w B v s F → VIn wv v u → (∀ W, KeepF F w W → Rd wv W) → v.wt ≤ 1000000 →
    Calls Tryd.prog 19 #[.agg #[.int .i64 v.kind, .int .u64 v.num, .string v.text, s, .int .i64 v.elem], .agg #[.int .i64 v.kind, .int .u64 v.num, .string v.text, u, .int .i64 v.elem]] w fun e w' => e = .returned (.bool true) ∧ KeepF F w w'

set_option maxRecDepth 20000 in
set_option maxHeartbeats 4000000 in
theorem asls_any (v : V) (ih : ∀ x ∈ v.list, aslOn x) (w wv : World) (B : Nat) (s u : Value) (F : Nat → Prop) (h : VL w B v s F) (hv : VIn wv v u) (hrd : ∀ W, KeepF F w W → Rd wv W) (hwl : wts v.list ≤ 1000000) :
    Calls Tryd.prog 35 #[s, u] w fun e w' => e = .returned (.bool true) ∧ KeepF F w w' := by
  obtain ⟨q, d, hu, k1, k2, k3⟩ := hv.slice
  obtain ⟨_, b, _, c0, ss, Fs, wf, hc0, hrow0, h10, h20, hin0, hd, hs, hF⟩ := h
  obtain ⟨N, hN⟩ : ∃ N, v.list.length = N := ⟨_, rfl⟩
  have hNw := len_le_wts v.list
  have hI0 : AsI v w B b 0 c0 ss Fs := ⟨hc0, hrow0, fun i hi _ => h10 i hi, fun i q1 _ q3 => h20 i q1 q3, fun i hi _ => hin0 i hi⟩
  have HSZ := Lib.hid (show (Tryd.prog.info? 25).map (·.size) = some 5 by obtain ⟨i0, hi, hz0, hz1, hz2⟩ := info_partsV info_val; rw [hi]; simp [hz1])
  rw [hN] at hu k1 k3 hNw
  subst hu
  unfold maxLen at k2
  have hNb : N ≤ 1000000 := by omega
  have HI := Lib.hid ih
  have HN := Lib.hid (And.intro hN hwl)
  have HV := Lib.hid hv
  have HD := Lib.hid (And.intro hd (And.intro hs hF))
  have HRD := Lib.hid hrd
  have H0 := Lib.hid hI0
  rw [hN]
  clear ih hv hrd hwl hNw hd hs hF hI0 hin0 h10 h20 hc0 hrow0 wf hN
  go_enter Tryd.func35, Tryd.ntmps35
  go_wp2_with fail
  go_loopw [7, 8] (fun v7 v8 wr => ∃ (k : Nat) (c : Nat → List Value), k ≤ N + 3 ∧ v8 = .int .i64 k ∧ v7 = .bool true ∧ AsI v wr B b k c ss Fs ∧ KeepF F w wr) (fun _ v8 _ => N + 3 - (intOf v8).toNat)
  case atStart => exact ⟨0, _, Nat.zero_le _, rfl, rfl, H0.out, KeepF.refl _ _⟩
  case round =>
    obtain ⟨k, c, hk', rfl, rfl, has, hkf⟩ := hrel
    have HR := Lib.hid (And.intro has hkf)
    by_cases hkN : (k : Int) < N + 3
    · have hk3 : k < v.list.length + 3 := by rw [HN.out.1]; omega
      by_cases hkl : (k : Int) < N
      · have ka : k < v.list.length := by rw [HN.out.1]; omega
        obtain ⟨b2, o2, rfl⟩ := k3 (by omega)
        obtain ⟨tk, htk, hik⟩ := HV.out.part rfl ka
        obtain ⟨pk, ck, hsk, hj0⟩ := hik.slice
        clear hj0
        subst hsk
        have hvk := has.hin k ka (Nat.le_refl _)
        have hck := has.h1 k ka (Nat.le_refl _)
        obtain ⟨gk, hgk, hj1, hj2⟩ := hvk.slice
        clear hj1 hj2
        have hcell : ∀ (W : World), KeepF (fun _ => False) wr W → ∀ j u, (vcells v.list[k] (ss k))[j]? = some u → W.cell? ⟨b, k * 5 + j, none⟩ = some u := fun W hW j u hu => (has.hrow.keep (hW.block b has.hrow.lt.2 (fun h => h))).cell has.hc (by omega) (by rw [hck]; exact hu)
        rw [hgk] at hcell hvk
        obtain ⟨xa, hxa⟩ : ∃ xa, v.list[k] = xa := ⟨_, rfl⟩
        have hxw : xa.wt ≤ 1000000 := by have := wts_mem (List.getElem_mem ka); rw [hxa] at this; have := HN.out.2; omega
        have HIK := Lib.hid (HI.out _ (List.getElem_mem ka))
        rw [hxa] at hcell hvk htk hik HIK
        obtain ⟨m, hm⟩ : ∃ m, xa.list.length = m := ⟨_, rfl⟩
        rw [hm] at hcell hvk htk hik
        have HCL := Lib.hid hcell
        have HTK := Lib.hid (And.intro htk (And.intro ka hk3))
        have hwd : KeepF (fun _ => False) wr wr.drew := (KeepF.refl _ _).drew
        have hc := HIK.out wr.drew wv B _ _ (Fs k) (hvk.keepF hwd (fun _ _ h => h)) hik (fun W hW => HRD.out W (HR.out.2.drew.trans (hW.wide (fun j hj => (HD.out.2.2 j).2 (.inr ⟨k, ka, hj⟩))))) hxw
        have HC := Lib.hid hc
        have e0 : wr.cell? ⟨b, k * 5, none⟩ = some (.int .i64 xa.kind) := hcell wr (KeepF.refl _ _) 0 _ rfl
        have e1 : wr.cell? ⟨b, k * 5 + 1, none⟩ = some (.int .u64 xa.num) := hcell wr (KeepF.refl _ _) 1 _ rfl
        have HWD : Hid (KeepF (Fs k) wr wr.drew) := Lib.hid (KeepF.refl _ _).drew
        clear hvk hck hcell hc hxa hxw htk hik hgk HIK hwd has hkf ka hk3 hm
        go_upto_region 9 with fail
        go_cut [9] (fun s9 wx => wr = wx ∧ ∃ q : Bool, s9 = .bool q)
        case first =>
          by_cases h7 : xa.kind = -7
          · have h7b : (xa.kind == -7) = true := by simp [h7]
            clear h7
            go_wp2_with fail
            go_meet
            exact ⟨rfl, _, rfl⟩
          · have h7b : (xa.kind == -7) = false := by simp [h7]
            clear h7
            go_wp2_with fail
            go_meet
            exact ⟨rfl, _, rfl⟩
        case rest =>
        obtain ⟨rfl, q9, rfl⟩ := hcut
        have e2 : wr.cell? ⟨b, k * 5 + 2, none⟩ = some (.string xa.text) := HCL.out wr (KeepF.refl _ _) 2 _ rfl
        have e3 : wr.cell? ⟨b, k * 5 + 3, none⟩ = some (.slice (some ⟨gk, 0, none⟩) m (m + 3)) := HCL.out wr (KeepF.refl _ _) 3 _ rfl
        have e4 : wr.cell? ⟨b, k * 5 + 4, none⟩ = some (.int .i64 xa.elem) := HCL.out wr (KeepF.refl _ _) 4 _ rfl
        obtain ⟨d0, d1, d2, d3, d4⟩ := part_cells (rangeAt_rd HTK.out.1 (HRD.out wr HR.out.2))
        go_upto_region 11 with fail
        go_still_tail 8, (by kernel_rfl)
        change wpList _ _ _ _ _ wr.drew
        generalize wr.drew = wd at *
        clear e0 e1 e2 e3 e4 d0 d1 d2 d3 d4
        go_wp2_with fail
        refine HC.out.mono ?_
        rintro e w1 ⟨rfl, hk1⟩
        have hkr : KeepF (Fs k) wr w1 := HWD.out.trans hk1
        have hnx := AsI.next (G := Fs k) (m := [.int .i64 (-8), .int .u64 0, .string ⟨#[]⟩, .slice none 0 0, .int .i64 0]) HR.out.1 HTK.out.2.2 (fun i hi hik => HD.out.1 i k hi HTK.out.2.1 (by omega)) HD.out.2.1 (HD.out.2.1 k HTK.out.2.1) hkr rfl
        have hth := (HR.out.1.hrow.keep (hkr.block b HR.out.1.hrow.lt.2 (HD.out.2.1 k HTK.out.2.1))).there HTK.out.2.2
        have HTH := Lib.hid hth
        have HNX := Lib.hid (And.intro hnx ((HR.out.2.trans (hkr.wide (fun j hj => (HD.out.2.2 j).2 (.inr ⟨k, HTK.out.2.1, hj⟩)))).setCells ((HD.out.2.2 b).2 (.inl rfl)) (k * 5) [.int .i64 (-8), .int .u64 0, .string ⟨#[]⟩, .slice none 0 0, .int .i64 0]))
        clear hk1 hkr hnx hth
        go_wp2_with (refine wpList_store_mid rfl 25 (.tmp 62) (.tmp 61) rfl b (k * 5) #[.int .i64 (-8), .int .u64 0, .string ⟨#[]⟩, .slice none 0 0, .int .i64 0] rfl rfl HTH.out HSZ.out (by simp [Value.oneCell']) ?_; change wpList _ _ _ _ _ (w1.setCells b (k * 5) [.int .i64 (-8), .int .u64 0, .string ⟨#[]⟩, .slice none 0 0, .int .i64 0]); generalize w1.setCells b (k * 5) [.int .i64 (-8), .int .u64 0, .string ⟨#[]⟩, .slice none 0 0, .int .i64 0] = w4 at *)
        go_roundw
        case rel => exact ⟨k + 1, _, by omega, by go_num, rfl, HNX.out.1, HNX.out.2⟩
        case measure => simp [intOf]; omega
      · have hkl2 : N ≤ k := by omega
        have hck := has.h2 k (by rw [HN.out.1]; omega) (Nat.le_refl _) (by rw [HN.out.1]; omega)
        have hcell : ∀ j u, (vcells (mkV k) nilS)[j]? = some u → wr.cell? ⟨b, k * 5 + j, none⟩ = some u := fun j u hu => has.hrow.cell has.hc (by omega) (by rw [hck]; exact hu)
        have e0 : wr.cell? ⟨b, k * 5, none⟩ = some (.int .i64 (-7)) := hcell 0 _ rfl
        have e1 : wr.cell? ⟨b, k * 5 + 1, none⟩ = some (.int .u64 k) := hcell 1 _ rfl
        have hnx := AsI.next (G := fun _ => False) (m := [.int .i64 (-8), .int .u64 0, .string ⟨#[]⟩, .slice none 0 0, .int .i64 0]) has hk3 (fun _ _ _ _ _ h => h) HD.out.2.1 (fun h => h) (KeepF.refl _ _) rfl
        have HTH := Lib.hid (has.hrow.there hk3)
        have HNX := Lib.hid (And.intro hnx (hkf.setCells ((HD.out.2.2 b).2 (.inl rfl)) (k * 5) [.int .i64 (-8), .int .u64 0, .string ⟨#[]⟩, .slice none 0 0, .int .i64 0]))
        clear hck hcell hnx has hkf hk3
        go_wp2_with (refine wpList_store_mid rfl 25 (.tmp 62) (.tmp 61) rfl b (k * 5) #[.int .i64 (-8), .int .u64 0, .string ⟨#[]⟩, .slice none 0 0, .int .i64 0] rfl rfl HTH.out HSZ.out (by simp [Value.oneCell']) ?_; change wpList _ _ _ _ _ (wr.setCells b (k * 5) [.int .i64 (-8), .int .u64 0, .string ⟨#[]⟩, .slice none 0 0, .int .i64 0]); generalize wr.setCells b (k * 5) [.int .i64 (-8), .int .u64 0, .string ⟨#[]⟩, .slice none 0 0, .int .i64 0] = w4 at *)
        go_roundw
        case rel => exact ⟨k + 1, _, by omega, by go_num, rfl, HNX.out.1, HNX.out.2⟩
        case measure => simp [intOf]; omega
    · have hkN2 : k = N + 3 := by omega
      clear has hkf
      go_wp2_with fail
      go_ret
      exact ⟨rfl, HR.out.2⟩

set_option maxRecDepth 20000 in
set_option maxHeartbeats 4000000 in
theorem asl_on : ∀ v : V, aslOn v := by
  refine V.ind (fun v ih w wv B s u F h hv hrd hwt => ?_)
  have has := fun w0 (hb : Below w.heap.size w w0) => asls_any v ih w0 wv B s u F (h.blw hb) hv (fun W hW => hrd W ((KeepF.of_below hb).trans hW)) (by have := v.wt_eq; omega)
  obtain ⟨q, d, hu, _⟩ := hv.slice
  obtain ⟨g, hs, hj1, hj2⟩ := h.slice
  clear hj1 hj2
  obtain ⟨N, hN⟩ : ∃ N, v.list.length = N := ⟨_, rfl⟩
  rw [hN] at hu hs
  subst hu hs
  have HA := Lib.hid has
  clear ih has h hv hrd hwt hN
  go_enter Tryd.func19, Tryd.ntmps19
  go_upto_region 1 with fail
  have hb0 : Below w.heap.size w ((w.alloc (.cells #[.int .i64 v.kind, .int .u64 v.num, .string v.text, (.slice (some ⟨g, 0, none⟩) N (N + 3)), .int .i64 v.elem] 25)).alloc (.cells #[.int .i64 v.kind, .int .u64 v.num, .string v.text, (.slice q N d), .int .i64 v.elem] 25)) := ((Below.refl _ _).alloc (Nat.le_refl _) _).alloc (by simp) _
  have ox : ((w.alloc (.cells #[.int .i64 v.kind, .int .u64 v.num, .string v.text, (.slice (some ⟨g, 0, none⟩) N (N + 3)), .int .i64 v.elem] 25)).alloc (.cells #[.int .i64 v.kind, .int .u64 v.num, .string v.text, (.slice q N d), .int .i64 v.elem] 25)).heap[w.heap.size]? = some (.cells #[.int .i64 v.kind, .int .u64 v.num, .string v.text, (.slice (some ⟨g, 0, none⟩) N (N + 3)), .int .i64 v.elem] 25 (0, 0)) := (_root_.Go.heap_alloc_old _ _ (by simp)).trans (_root_.Go.heap_alloc_new _ _)
  have oy : ((w.alloc (.cells #[.int .i64 v.kind, .int .u64 v.num, .string v.text, (.slice (some ⟨g, 0, none⟩) N (N + 3)), .int .i64 v.elem] 25)).alloc (.cells #[.int .i64 v.kind, .int .u64 v.num, .string v.text, (.slice q N d), .int .i64 v.elem] 25)).heap[w.heap.size + 1]? = some (.cells #[.int .i64 v.kind, .int .u64 v.num, .string v.text, (.slice q N d), .int .i64 v.elem] 25 (0, 0)) := by have := _root_.Go.heap_alloc_new (w.alloc (.cells #[.int .i64 v.kind, .int .u64 v.num, .string v.text, (.slice (some ⟨g, 0, none⟩) N (N + 3)), .int .i64 v.elem] 25)) (.cells #[.int .i64 v.kind, .int .u64 v.num, .string v.text, (.slice q N d), .int .i64 v.elem] 25); rwa [World.size_alloc] at this
  generalize ((w.alloc (.cells #[.int .i64 v.kind, .int .u64 v.num, .string v.text, (.slice (some ⟨g, 0, none⟩) N (N + 3)), .int .i64 v.elem] 25)).alloc (.cells #[.int .i64 v.kind, .int .u64 v.num, .string v.text, (.slice q N d), .int .i64 v.elem] 25)) = w0 at *
  obtain ⟨x, hx⟩ : ∃ x, w.heap.size = x := ⟨_, rfl⟩
  rw [hx] at ox oy ⊢
  obtain ⟨y, hy⟩ : ∃ y, x + 1 = y := ⟨_, rfl⟩
  rw [hy] at oy ⊢
  have HC := Lib.hid (HA.out w0 hb0)
  have HB := Lib.hid hb0
  have hse : ((v.text.toList == v.text.toList) : Bool) = true := by simp
  have hk0 : (v.kind == v.kind) = true := by simp
  have hn0 : (v.num == v.num) = true := by simp
  have he0 : (v.elem == v.elem) = true := by simp
  have x0 : w0.cell? ⟨x, 0, none⟩ = some (.int .i64 v.kind) := (cell_of_row _ _ 0 _ _ _ ox).trans rfl
  have x1 : w0.cell? ⟨x, 1, none⟩ = some (.int .u64 v.num) := (cell_of_row _ _ 1 _ _ _ ox).trans rfl
  have x2 : w0.cell? ⟨x, 2, none⟩ = some (.string v.text) := (cell_of_row _ _ 2 _ _ _ ox).trans rfl
  have x3 : w0.cell? ⟨x, 3, none⟩ = some (.slice (some ⟨g, 0, none⟩) N (N + 3)) := (cell_of_row _ _ 3 _ _ _ ox).trans rfl
  have x4 : w0.cell? ⟨x, 4, none⟩ = some (.int .i64 v.elem) := (cell_of_row _ _ 4 _ _ _ ox).trans rfl
  have y0 : w0.cell? ⟨y, 0, none⟩ = some (.int .i64 v.kind) := (cell_of_row _ _ 0 _ _ _ oy).trans rfl
  have y1 : w0.cell? ⟨y, 1, none⟩ = some (.int .u64 v.num) := (cell_of_row _ _ 1 _ _ _ oy).trans rfl
  have y2 : w0.cell? ⟨y, 2, none⟩ = some (.string v.text) := (cell_of_row _ _ 2 _ _ _ oy).trans rfl
  have y3 : w0.cell? ⟨y, 3, none⟩ = some (.slice q N d) := (cell_of_row _ _ 3 _ _ _ oy).trans rfl
  have y4 : w0.cell? ⟨y, 4, none⟩ = some (.int .i64 v.elem) := (cell_of_row _ _ 4 _ _ _ oy).trans rfl
  clear hb0 ox oy hx hy
  go_wp2_with fail
  refine HC.out.mono ?_
  clear x0 x1 x2 x3 x4 y0 y1 y2 y3 y4
  rintro e w1 ⟨rfl, hk1⟩
  have HK := Lib.hid ((KeepF.of_below HB.out).trans hk1)
  clear hk1
  go_wp2_with fail
  go_ret
  exact ⟨rfl, HK.out⟩

end Go.Proofs.YtakbgekamjpibaaDoor

namespace Go.Proofs.YtakbgekamjpibaaDoor
open Go.RowKit
set_option linter.unusedVariables false

/-- all is kept but what one may write (O), and the loop's own record -/
structure KeepR (lp : Nat) (O : Nat → Prop) (W : World) (O2 : Nat → Prop) (W2 : World) : Prop where
  os : W2.os = W.os
  tape : W2.tape = W.tape
  output : W2.output = W.output
  size : W.heap.size ≤ W2.heap.size
  block : ∀ j, j < W.heap.size → ¬ O j → j ≠ lp → W2.heap[j]? = W.heap[j]?
  own : ∀ j, O2 j → O j ∨ W.heap.size ≤ j
theorem KeepR.turn {lp : Nat} {O O2 : Nat → Prop} {W W2 W3 : World} (h : KeepR lp O W O2 W2) (ht : Turn lp W2 W3) : KeepW (fun j => O j ∨ j = lp) W (fun j => O2 j ∨ j = lp) W3 := by
  obtain ⟨g, hz⟩ := ht
  refine ⟨g.os.trans h.os, g.tape.trans h.tape, g.output.trans h.output, Nat.le_trans h.size g.size, fun j hj ho => ?_, fun j hj => ?_⟩
  · rw [g.block j (Nat.lt_of_lt_of_le hj h.size) (fun e => ho (.inr (Option.some.inj e))), h.block j hj (fun q => ho (.inl q)) (fun q => ho (.inr q))]
  · rcases hj with hj | hj
    · rcases h.own j hj with q | q
      · exact .inl (.inl q)
      · exact .inr q
    · exact .inl (.inr hj)
theorem grown_below {W W' : World} (h : Below W.heap.size W W') (d : Nat) : W.grownBy W' (some d) := ⟨h.os, h.tape, h.output, h.size, fun k hk _ => h.block k hk⟩

set_option maxRecDepth 20000 in
set_option maxHeartbeats 4000000 in
/-- each's function -/
theorem each1_in {l : Nat} {w : World} {J : Nat → (Nat → Prop) → World → Prop} {Jx : (Nat → Prop) → World → Prop} {v : V} {s : Value} {O : Nat → Prop} {W : World} {y : Nat} (hR : RidesW l w (v.pre 1) J Jx) (hv : VIn w v s) (hJ : J 0 O W) (hwt : v.wt ≤ 4611686018427387000)
    (hy : W.heap[y]? = some (.cells #[.int .i64 v.kind, .int .u64 v.num, .string v.text, s, .int .i64 v.elem] 25 (0, 0))) :
    Calls Tryd.prog 61 #[.func (.yield l) #[] #[], .pointer (some ⟨y, 0, none⟩)] W fun e W' => (∃ u, e = .returned u) ∧ ((∃ O2, J (v.pre 1).length O2 W') ∨ ∃ O2, Jx O2 W') := by
  have hc := walk_in hR v 1 s 0 O W hv hJ (fun i _ => by rw [Nat.zero_add]) (by omega) (by omega)
  obtain ⟨p, c, hs, h1, h2, h3⟩ := hv.slice
  obtain ⟨N, hN⟩ : ∃ N, v.list.length = N := ⟨_, rfl⟩
  rw [hN] at hs
  subst hs
  rw [Nat.zero_add] at hc
  have y0 : W.cell? ⟨y, 0, none⟩ = some (.int .i64 v.kind) := (cell_of_row _ _ 0 _ _ _ hy).trans rfl
  have y1 : W.cell? ⟨y, 1, none⟩ = some (.int .u64 v.num) := (cell_of_row _ _ 1 _ _ _ hy).trans rfl
  have y2 : W.cell? ⟨y, 2, none⟩ = some (.string v.text) := (cell_of_row _ _ 2 _ _ _ hy).trans rfl
  have y3 : W.cell? ⟨y, 3, none⟩ = some (.slice p N c) := (cell_of_row _ _ 3 _ _ _ hy).trans rfl
  have y4 : W.cell? ⟨y, 4, none⟩ = some (.int .i64 v.elem) := (cell_of_row _ _ 4 _ _ _ hy).trans rfl
  have HC := Lib.hid hc
  clear hc h1 h2 h3 hN hy hv hJ hR hwt
  go_enter Tryd.func61, Tryd.ntmps61
  go_wp2_with fail
  refine HC.out.mono ?_
  rintro e w1 (⟨rfl, O2, hj, _⟩ | ⟨rfl, O2, hj, _⟩)
  · have H := Lib.hid hj
    clear hj y0 y1 y2 y3 y4
    go_wp2_with fail
    go_end0
    exact ⟨⟨_, rfl⟩, .inl ⟨O2, H.out⟩⟩
  · have H := Lib.hid hj
    clear hj y0 y1 y2 y3 y4
    go_wp2_with fail
    go_end0
    exact ⟨⟨_, rfl⟩, .inr ⟨O2, H.out⟩⟩

/-- A RANGE OVER each(v): I: what stands behind k of them, O: what the body may write -/
theorem wp_range_each {a : Act} {w wv : World} {g : Operand} {ps : Array Tmp} {assign body : Code} {Q : Exit → Act → World → Prop} {y : Nat} {v : V} {s : Value}
    (hg : a.eval g = .func (.func 61) #[] #[.pointer (some ⟨y, 0, none⟩)]) (hps : ps.size = 2)
    (hy : w.heap[y]? = some (.cells #[.int .i64 v.kind, .int .u64 v.num, .string v.text, s, .int .i64 v.elem] 25 (0, 0))) (hv : VIn wv v s) (hwt : v.wt ≤ 4611686018427387000)
    (I : Nat → (Nat → Prop) → World → Prop) (Ix : Code → (Nat → Prop) → World → Prop) (O : Nat → Prop)
    (hrd : ∀ k O W, I k O W → Rd wv W) (hfr : ∀ k O W, I k O W → ∀ j, O j → j < W.heap.size)
    (hturn : ∀ k O W W' d, I k O W → W.grownBy W' (some d) → w.heap.size ≤ d → ¬ O d → I k O W')
    (hturnX : ∀ c O W W' d, Ix c O W → W.grownBy W' (some d) → w.heap.size ≤ d → ¬ O d → Ix c O W')
    (hI0 : I 0 O w)
    (hround : ∀ (K : LoopBook w.heap.size (w.heap.size + 1)) k O d x t W, K.rdy W → I k O W → ¬ O w.heap.size → ¬ O (w.heap.size + 1) → w.heap.size + 2 ≤ W.heap.size → (v.pre 1)[k]? = some (d, x) → VIn W x t →
      RoundOf Tryd.prog K a.tmps ps assign body #[.int .i64 d, .agg #[.int .i64 x.kind, .int .u64 x.num, .string x.text, t, .int .i64 x.elem]] W (fun W3 => ∃ O2, I (k + 1) O2 W3 ∧ KeepR (w.heap.size + 1) O W O2 W3) (fun c W3 => ∃ O2, Ix c O2 W3 ∧ KeepR (w.heap.size + 1) O W O2 W3))
    (hdone : ∀ O W, I (v.pre 1).length O W → W.heap[w.heap.size]? = some (.deferred (some [])) → ¬ O w.heap.size → Q .normal { a with defers := { target := .collected w.heap.size, args := #[] } :: a.defers } W)
    (hexit : ∀ c O W, Ix c O W → W.heap[w.heap.size]? = some (.deferred (some [])) → ¬ O w.heap.size → c.wp Tryd.prog Q { a with defers := { target := .collected w.heap.size, args := #[] } :: a.defers } W) :
    (Code.rangeFunc g ps assign body).wp Tryd.prog Q a w := by
  refine wp_rangeFunc_any (gf := 61) (lb := #[.pointer (some ⟨y, 0, none⟩)]) hg (enters_of Tryd.func61 (by kernel_rfl) rfl) ?_
  intro K W1 hg1 hz1 hrd1 hyield
  have hylt := (Array.getElem?_eq_some_iff.1 hy).1
  have hy1 := (hg1.block y hylt (by simp)).trans hy
  have hfr0 := hfr 0 O w hI0
  have hOD : ¬ O w.heap.size := fun q => by have := hfr0 _ q; omega
  have hOl : ¬ O (w.heap.size + 1) := fun q => by have := hfr0 _ q; omega
  let J : Nat → (Nat → Prop) → World → Prop := fun k O' W => ∃ O, (O' = fun j => O j ∨ j = w.heap.size + 1) ∧ K.rdy W ∧ I k O W ∧ ¬ O w.heap.size ∧ ¬ O (w.heap.size + 1) ∧ w.heap.size + 2 ≤ W.heap.size
  let Jx : (Nat → Prop) → World → Prop := fun O' W => ∃ O c, (O' = fun j => O j ∨ j = w.heap.size + 1) ∧ K.fin c W ∧ Ix c O W ∧ ¬ O w.heap.size ∧ ¬ O (w.heap.size + 1)
  have hR : RidesW (w.heap.size + 1) wv (v.pre 1) J Jx := by
    refine ⟨?_, ?_, ?_, ?_⟩
    · rintro k O' W ⟨O, rfl, _, hI, _⟩
      exact hrd k O W hI
    · rintro k O' W ⟨O, rfl, _, hI, _, _, hz⟩ j (hj | hj)
      · exact hfr k O W hI j hj
      · omega
    · rintro k O' W W' ⟨O, rfl, hr, hI, h1, h2, hz⟩ hb
      exact ⟨O, rfl, K.keepR W W' hr (hb.block _ (by omega)) (hb.block _ (by omega)), hturn k O W W' _ hI (grown_below hb w.heap.size) (Nat.le_refl _) h1, h1, h2, Nat.le_trans hz hb.size⟩
    · rintro k O' W d x t ⟨O, rfl, hr, hI, h1, h2, hz⟩ hL hx
      have hyl := hyield #[.int .i64 d, .agg #[.int .i64 x.kind, .int .u64 x.num, .string x.text, t, .int .i64 x.elem]] W _ _ (by rw [hps]; rfl) hr (hround K k O d x t W hr hI h1 h2 hz hL (hx.rd (hrd k O W hI)))
      obtain ⟨fn, tmps, asg, bd, hyy, hRd⟩ := hyl
      refine ⟨fn, tmps, asg, bd, hyy, hRd.mono ?_⟩
      rintro e W' (⟨rfl, hr', W3, ⟨O2, hI2, hk2⟩, ht⟩ | ⟨rfl, c, hf', W3, ⟨O2, hI2, hk2⟩, ht⟩)
      · have n1 : ¬ O2 w.heap.size := fun q => by rcases hk2.own _ q with r | r; exact h1 r; omega
        have n2 : ¬ O2 (w.heap.size + 1) := fun q => by rcases hk2.own _ q with r | r; exact h2 r; omega
        exact .inl ⟨rfl, _, ⟨O2, rfl, hr', hturn _ _ _ _ _ hI2 ht.1 (by omega) n2, n1, n2, Nat.le_trans hz (Nat.le_trans hk2.size ht.1.size)⟩, hk2.turn ht⟩
      · have n1 : ¬ O2 w.heap.size := fun q => by rcases hk2.own _ q with r | r; exact h1 r; omega
        have n2 : ¬ O2 (w.heap.size + 1) := fun q => by rcases hk2.own _ q with r | r; exact h2 r; omega
        exact .inr ⟨rfl, _, ⟨O2, c, rfl, hf', hturnX _ _ _ _ _ hI2 ht.1 (by omega) n2, n1, n2⟩, hk2.turn ht⟩
  have hJ1 : J 0 (fun j => O j ∨ j = w.heap.size + 1) W1 := ⟨O, rfl, hrd1, hturn 0 O w W1 w.heap.size hI0 ⟨hg1.os, hg1.tape, hg1.output, hg1.size, fun k hk _ => hg1.block k hk (by simp)⟩ (Nat.le_refl _) hOD, hOD, hOl, by omega⟩
  refine (each1_in hR hv hJ1 hwt hy1).mono ?_
  rintro e W2 ⟨⟨u, rfl⟩, (⟨O2, O3, rfl, hr, hI, h1, h2, hz⟩ | ⟨O2, O3, c, rfl, hf, hI, h1, h2⟩)⟩
  · exact ⟨⟨_, rfl⟩, .inl ⟨hr, fun W3 ht hD => hdone O3 W3 (hturn _ _ _ _ _ hI ht.1 (by omega) h2) hD h1⟩⟩
  · exact ⟨⟨_, rfl⟩, .inr ⟨c, hf, fun W3 ht hD => hexit c O3 W3 (hturnX _ _ _ _ _ hI ht.1 (by omega) h2) hD h1⟩⟩
end Go.Proofs.YtakbgekamjpibaaDoor
