/-
  A range over what stands in a value (each): its law. Conditions: the value lies in memory.
-/
import Derived.Test.YtakbgekamjpibaaDoorVw
namespace Go.Proofs.YtakbgekamjpibaaDoor
open Go.RowKit
set_option linter.unusedVariables false

/-- all is kept but what one may write (O), and the loop's own record -/
structure KeepR (lp : Nat) (O : Nat → Prop) (W : World) (O2 : Nat → Prop) (W2 : World) : Prop where
  os : W2.os = W.os
  tape : W2.tape = W.tape
  output : W2.output = W.output
  size : W.heap.size ≤ W2.heap.size
  block : ∀ j, j < W.heap.size → ¬ O j → j ≠ lp → W2.heap[j]? = W.heap[j]?
  own : ∀ j, O2 j → O j ∨ W.heap.size ≤ j
theorem KeepR.turn {lp : Nat} {O O2 : Nat → Prop} {W W2 W3 : World} (h : KeepR lp O W O2 W2) (ht : Turn lp W2 W3) : KeepW (fun j => O j ∨ j = lp) W (fun j => O2 j ∨ j = lp) W3 := by
  obtain ⟨g, hz⟩ := ht
  refine ⟨g.os.trans h.os, g.tape.trans h.tape, g.output.trans h.output, Nat.le_trans h.size g.size, fun j hj ho => ?_, fun j hj => ?_⟩
  · rw [g.block j (Nat.lt_of_lt_of_le hj h.size) (fun e => ho (.inr (Option.some.inj e))), h.block j hj (fun q => ho (.inl q)) (fun q => ho (.inr q))]
  · rcases hj with hj | hj
    · rcases h.own j hj with q | q
      · exact .inl (.inl q)
      · exact .inr q
    · exact .inl (.inr hj)
theorem grown_below {W W' : World} (h : Below W.heap.size W W') (d : Nat) : W.grownBy W' (some d) := ⟨h.os, h.tape, h.output, h.size, fun k hk _ => h.block k hk⟩

set_option maxRecDepth 20000 in
set_option maxHeartbeats 4000000 in
/-- each's function -/
theorem each1_in {l : Nat} {w : World} {J : Nat → (Nat → Prop) → World → Prop} {Jx : (Nat → Prop) → World → Prop} {v : V} {s : Value} {O : Nat → Prop} {W : World} {y : Nat} (hR : RidesW l w (v.pre 1) J Jx) (hv : VIn w v s) (hJ : J 0 O W) (hwt : v.wt ≤ 4611686018427387000)
    (hy : W.heap[y]? = some (.cells #[.int .i64 v.kind, .int .u64 v.num, .string v.text, s, .int .i64 v.elem] 25 (0, 0))) :
    Calls Tryd.prog 61 #[.func (.yield l) #[] #[], .pointer (some ⟨y, 0, none⟩)] W fun e W' => (∃ u, e = .returned u) ∧ ((∃ O2, J (v.pre 1).length O2 W') ∨ ∃ O2, Jx O2 W') := by
  have hc := walk_in hR v 1 s 0 O W hv hJ (fun i _ => by rw [Nat.zero_add]) (by omega) (by omega)
  obtain ⟨p, c, hs, h1, h2, h3⟩ := hv.slice
  obtain ⟨N, hN⟩ : ∃ N, v.list.length = N := ⟨_, rfl⟩
  rw [hN] at hs
  subst hs
  rw [Nat.zero_add] at hc
  have y0 : W.cell? ⟨y, 0, none⟩ = some (.int .i64 v.kind) := (cell_of_row _ _ 0 _ _ _ hy).trans rfl
  have y1 : W.cell? ⟨y, 1, none⟩ = some (.int .u64 v.num) := (cell_of_row _ _ 1 _ _ _ hy).trans rfl
  have y2 : W.cell? ⟨y, 2, none⟩ = some (.string v.text) := (cell_of_row _ _ 2 _ _ _ hy).trans rfl
  have y3 : W.cell? ⟨y, 3, none⟩ = some (.slice p N c) := (cell_of_row _ _ 3 _ _ _ hy).trans rfl
  have y4 : W.cell? ⟨y, 4, none⟩ = some (.int .i64 v.elem) := (cell_of_row _ _ 4 _ _ _ hy).trans rfl
  have HC := Lib.hid hc
  clear hc h1 h2 h3 hN hy hv hJ hR hwt
  go_enter Tryd.func61, Tryd.ntmps61
  go_wp2_with fail
  refine HC.out.mono ?_
  rintro e w1 (⟨rfl, O2, hj, _⟩ | ⟨rfl, O2, hj, _⟩)
  · have H := Lib.hid hj
    clear hj y0 y1 y2 y3 y4
    go_wp2_with fail
    go_end0
    exact ⟨⟨_, rfl⟩, .inl ⟨O2, H.out⟩⟩
  · have H := Lib.hid hj
    clear hj y0 y1 y2 y3 y4
    go_wp2_with fail
    go_end0
    exact ⟨⟨_, rfl⟩, .inr ⟨O2, H.out⟩⟩

/-- A RANGE OVER each(v): I: what stands behind k of them, O: what the body may write -/
theorem wp_range_each {a : Act} {w wv : World} {g : Operand} {ps : Array Tmp} {assign body : Code} {Q : Exit → Act → World → Prop} {y : Nat} {v : V} {s : Value}
    (hg : a.eval g = .func (.func 61) #[] #[.pointer (some ⟨y, 0, none⟩)]) (hps : ps.size = 2)
    (hy : w.heap[y]? = some (.cells #[.int .i64 v.kind, .int .u64 v.num, .string v.text, s, .int .i64 v.elem] 25 (0, 0))) (hv : VIn wv v s) (hwt : v.wt ≤ 4611686018427387000)
    (I : Nat → (Nat → Prop) → World → Prop) (Ix : Code → (Nat → Prop) → World → Prop) (O : Nat → Prop)
    (hrd : ∀ k O W, I k O W → Rd wv W) (hfr : ∀ k O W, I k O W → ∀ j, O j → j < W.heap.size)
    (hturn : ∀ k O W W' d, I k O W → W.grownBy W' (some d) → w.heap.size ≤ d → ¬ O d → I k O W')
    (hturnX : ∀ c O W W' d, Ix c O W → W.grownBy W' (some d) → w.heap.size ≤ d → ¬ O d → Ix c O W')
    (hI0 : I 0 O w)
    (hround : ∀ (K : LoopBook w.heap.size (w.heap.size + 1)) k O d x t W, K.rdy W → I k O W → ¬ O w.heap.size → ¬ O (w.heap.size + 1) → w.heap.size + 2 ≤ W.heap.size → (v.pre 1)[k]? = some (d, x) → VIn W x t →
      RoundOf Tryd.prog K a.tmps ps assign body #[.int .i64 d, .agg #[.int .i64 x.kind, .int .u64 x.num, .string x.text, t, .int .i64 x.elem]] W (fun W3 => ∃ O2, I (k + 1) O2 W3 ∧ KeepR (w.heap.size + 1) O W O2 W3) (fun c W3 => ∃ O2, Ix c O2 W3 ∧ KeepR (w.heap.size + 1) O W O2 W3))
    (hdone : ∀ O W, I (v.pre 1).length O W → W.heap[w.heap.size]? = some (.deferred (some [])) → ¬ O w.heap.size → Q .normal { a with defers := { target := .collected w.heap.size, args := #[] } :: a.defers } W)
    (hexit : ∀ c O W, Ix c O W → W.heap[w.heap.size]? = some (.deferred (some [])) → ¬ O w.heap.size → c.wp Tryd.prog Q { a with defers := { target := .collected w.heap.size, args := #[] } :: a.defers } W) :
    (Code.rangeFunc g ps assign body).wp Tryd.prog Q a w := by
  refine wp_rangeFunc_any (gf := 61) (lb := #[.pointer (some ⟨y, 0, none⟩)]) hg (enters_of Tryd.func61 (by kernel_rfl) rfl) ?_
  intro K W1 hg1 hz1 hrd1 hyield
  have hylt := (Array.getElem?_eq_some_iff.1 hy).1
  have hy1 := (hg1.block y hylt (by simp)).trans hy
  have hfr0 := hfr 0 O w hI0
  have hOD : ¬ O w.heap.size := fun q => by have := hfr0 _ q; omega
  have hOl : ¬ O (w.heap.size + 1) := fun q => by have := hfr0 _ q; omega
  let J : Nat → (Nat → Prop) → World → Prop := fun k O' W => ∃ O, (O' = fun j => O j ∨ j = w.heap.size + 1) ∧ K.rdy W ∧ I k O W ∧ ¬ O w.heap.size ∧ ¬ O (w.heap.size + 1) ∧ w.heap.size + 2 ≤ W.heap.size
  let Jx : (Nat → Prop) → World → Prop := fun O' W => ∃ O c, (O' = fun j => O j ∨ j = w.heap.size + 1) ∧ K.fin c W ∧ Ix c O W ∧ ¬ O w.heap.size ∧ ¬ O (w.heap.size + 1)
  have hR : RidesW (w.heap.size + 1) wv (v.pre 1) J Jx := by
    refine ⟨?_, ?_, ?_, ?_⟩
    · rintro k O' W ⟨O, rfl, _, hI, _⟩
      exact hrd k O W hI
    · rintro k O' W ⟨O, rfl, _, hI, _, _, hz⟩ j (hj | hj)
      · exact hfr k O W hI j hj
      · omega
    · rintro k O' W W' ⟨O, rfl, hr, hI, h1, h2, hz⟩ hb
      exact ⟨O, rfl, K.keepR W W' hr (hb.block _ (by omega)) (hb.block _ (by omega)), hturn k O W W' _ hI (grown_below hb w.heap.size) (Nat.le_refl _) h1, h1, h2, Nat.le_trans hz hb.size⟩
    · rintro k O' W d x t ⟨O, rfl, hr, hI, h1, h2, hz⟩ hL hx
      have hyl := hyield #[.int .i64 d, .agg #[.int .i64 x.kind, .int .u64 x.num, .string x.text, t, .int .i64 x.elem]] W _ _ (by rw [hps]; rfl) hr (hround K k O d x t W hr hI h1 h2 hz hL (hx.rd (hrd k O W hI)))
      obtain ⟨fn, tmps, asg, bd, hyy, hRd⟩ := hyl
      refine ⟨fn, tmps, asg, bd, hyy, hRd.mono ?_⟩
      rintro e W' (⟨rfl, hr', W3, ⟨O2, hI2, hk2⟩, ht⟩ | ⟨rfl, c, hf', W3, ⟨O2, hI2, hk2⟩, ht⟩)
      · have n1 : ¬ O2 w.heap.size := fun q => by rcases hk2.own _ q with r | r; exact h1 r; omega
        have n2 : ¬ O2 (w.heap.size + 1) := fun q => by rcases hk2.own _ q with r | r; exact h2 r; omega
        exact .inl ⟨rfl, _, ⟨O2, rfl, hr', hturn _ _ _ _ _ hI2 ht.1 (by omega) n2, n1, n2, Nat.le_trans hz (Nat.le_trans hk2.size ht.1.size)⟩, hk2.turn ht⟩
      · have n1 : ¬ O2 w.heap.size := fun q => by rcases hk2.own _ q with r | r; exact h1 r; omega
        have n2 : ¬ O2 (w.heap.size + 1) := fun q => by rcases hk2.own _ q with r | r; exact h2 r; omega
        exact .inr ⟨rfl, _, ⟨O2, c, rfl, hf', hturnX _ _ _ _ _ hI2 ht.1 (by omega) n2, n1, n2⟩, hk2.turn ht⟩
  have hJ1 : J 0 (fun j => O j ∨ j = w.heap.size + 1) W1 := ⟨O, rfl, hrd1, hturn 0 O w W1 w.heap.size hI0 ⟨hg1.os, hg1.tape, hg1.output, hg1.size, fun k hk _ => hg1.block k hk (by simp)⟩ (Nat.le_refl _) hOD, hOD, hOl, by omega⟩
  refine (each1_in hR hv hJ1 hwt hy1).mono ?_
  rintro e W2 ⟨⟨u, rfl⟩, (⟨O2, O3, rfl, hr, hI, h1, h2, hz⟩ | ⟨O2, O3, c, rfl, hf, hI, h1, h2⟩)⟩
  · exact ⟨⟨_, rfl⟩, .inl ⟨hr, fun W3 ht hD => hdone O3 W3 (hturn _ _ _ _ _ hI ht.1 (by omega) h2) hD h1⟩⟩
  · exact ⟨⟨_, rfl⟩, .inr ⟨c, hf, fun W3 ht hD => hexit c O3 W3 (hturnX _ _ _ _ _ hI ht.1 (by omega) h2) hD h1⟩⟩
end Go.Proofs.YtakbgekamjpibaaDoor
