/-
  Depth. Conditions: the value lies in memory and is no greater than a million.
-/
import Derived.Test.YtakbgekamjpibaaDoorVz
namespace Go.Proofs.YtakbgekamjpibaaDoor
open Go.RowKit
set_option linter.unusedVariables false

attribute [local go_sem] Oper.semAt_some

/-- what a loop reckons of the depths -/
def foldD (g : Int → Int → Int) : Int → List (Int × V) → Int
  | m, [] => m
  | m, (d, _) :: r => foldD g (g m d) r
/-- a loop that reckons in a cell -/
def CellI (wE : World) (r : Nat) (g : Int → Int → Int) (P : Int → Prop) (L : List (Int × V)) (k : Nat) (O : Nat → Prop) (W : World) : Prop :=
  (O = fun j => j = r) ∧ Below wE.heap.size wE W ∧ wE.heap.size ≤ r ∧ ∃ m : Int, P m ∧ W.heap[r]? = some (.cells #[.int .i64 m] 3 (0, 0)) ∧ foldD g m (L.drop k) = foldD g 0 L
theorem CellI.turn {wE W W' : World} {r d : Nat} {g : Int → Int → Int} {P : Int → Prop} {L : List (Int × V)} {k : Nat} {O : Nat → Prop} (h : CellI wE r g P L k O W) (hg : W.grownBy W' (some d)) (hd : wE.heap.size ≤ d) (hO : ¬ O d) : CellI wE r g P L k O W' := by
  obtain ⟨rfl, hB, h1, m, hm, hc, hf⟩ := h
  exact ⟨rfl, ⟨hg.os.trans hB.os, hg.tape.trans hB.tape, hg.output.trans hB.output, Nat.le_trans hB.size hg.size, fun j hj => (hg.block j (Nat.lt_of_lt_of_le hj hB.size) (fun e => by have := Option.some.inj e; omega)).trans (hB.block j hj)⟩, h1, m, hm,
      (hg.block r (Array.getElem?_eq_some_iff.1 hc).1 (fun e => hO (Option.some.inj e).symm)).trans hc, hf⟩
theorem CellI.fresh {wE W : World} {r : Nat} {g : Int → Int → Int} {P : Int → Prop} {L : List (Int × V)} {k : Nat} {O : Nat → Prop} (h : CellI wE r g P L k O W) : ∀ j, O j → j < W.heap.size := by
  obtain ⟨rfl, hB, h1, m, hm, hc, hf⟩ := h
  intro j hj
  have : j = r := hj
  rw [this]
  exact (Array.getElem?_eq_some_iff.1 hc).1
/-- the next one -/
theorem CellI.next {wE Wb : World} {r k : Nat} {g : Int → Int → Int} {P : Int → Prop} {L : List (Int × V)} {d m : Int} {x : V} (hB : Below wE.heap.size wE Wb) (h1 : wE.heap.size ≤ r) (hc : Wb.heap[r]? = some (.cells #[.int .i64 m] 3 (0, 0))) (hf : foldD g m (L.drop k) = foldD g 0 L) (hL : L[k]? = some (d, x)) (hP : P (g m d)) :
    CellI wE r g P L (k + 1) (fun j => j = r) (Wb.setCell ⟨r, 0, none⟩ (.int .i64 (g m d))) := by
  refine ⟨rfl, hB.setCell (p := ⟨r, 0, none⟩) h1 _, h1, g m d, hP, heap_setCell_same Wb r 0 _ _ _ hc, ?_⟩
  rw [← hf, List.drop_eq_getElem_cons (List.getElem?_eq_some_iff.1 hL).1, (List.getElem?_eq_some_iff.1 hL).2, foldD]

set_option maxRecDepth 20000 in
set_option maxHeartbeats 4000000 in
theorem round_depth {D lp : Nat} (K : LoopBook D lp) (wE W : World) (r : Nat) (L : List (Int × V)) (k : Nat) (d : Int) (x : V) (v0 v1 v2 v5 v6 y : Value) (asg bdy : Code) (hrf : (Tryd.f24.body.bind rfOf) = some (asg, bdy))
    (hrd : K.rdy W) (hI : CellI wE r max (fun _ => True) L k (fun j => j = r) W) (hL : L[k]? = some (d, x)) (hDz : D + 2 ≤ W.heap.size) (hlp : lp = D + 1) (hrD : r < D) :
    RoundOf Tryd.prog K #[v0, v1, v2, .pointer (some ⟨r, 0, none⟩), undef, v5, v6, undef, undef, undef, undef, undef, undef] #[7, 8] asg bdy #[.int .i64 d, y] W
      (fun W3 => ∃ O2, CellI wE r max (fun _ => True) L (k + 1) O2 W3 ∧ KeepR lp (fun j => j = r) W O2 W3) (fun c W3 => ∃ O2, False ∧ KeepR lp (fun j => j = r) W O2 W3) := by
  simp only [Tryd.f24, Option.bind_some, rfOf, Option.some.injEq, Prod.mk.injEq] at hrf
  obtain ⟨rfl, rfl⟩ := hrf
  unfold RoundOf
  obtain ⟨_, hB, hrE, m, _, hc, hf⟩ := hI
  refine wpIn_mono (Q := fun e a Wa => e = .normal ∧ a = { tmps := #[v0, v1, v2, .pointer (some ⟨r, 0, none⟩), .int .i64 d, v5, v6, .int .i64 d, y, undef, undef, undef, undef], defers := [] } ∧ Wa = W) ?_ ?_
  · gi_wp2
  · rintro e a' Wa ⟨rfl, rfl, rfl⟩
    refine ⟨hrd, ?_⟩
    intro Wb ht hb
    have hib := inBody_of (Below.refl _ _) ht
    have hcb := (hib.rest r (Array.getElem?_eq_some_iff.1 hc).1 (by omega)).trans hc
    have hBb := hib.below hB (by omega)
    have c0 : Wb.cell? ⟨r, 0, none⟩ = some (.int .i64 m) := (cell_of_row _ _ 0 _ _ _ hcb).trans rfl
    have f0 : Wb.frozen? ⟨r, 0, none⟩ = false := by simp [World.frozen?, hcb]
    have H := Lib.hid (And.intro hib (And.intro hcb (And.intro hBb (And.intro hb (And.intro hf hrE)))))
    have HN := Lib.hid (And.intro hlp (And.intro hrD hL))
    clear hib hcb hBb hb hf hrE hlp hrD hL hDz ht hB hc hrd
    gi_wp2
    all_goals
      obtain ⟨hib, hcb, hBb, hb, hf, hrE⟩ := H.out
      obtain ⟨hlp, hrD, hL⟩ := HN.out
      have hfar : ∀ j, j ≠ r → (Wb.setCell ⟨r, 0, none⟩ (.int .i64 (max m d))).heap[j]? = Wb.heap[j]? := fun j hj => set_farV hj
      have hsz : (Wb.setCell ⟨r, 0, none⟩ (.int .i64 (max m d))).heap.size = Wb.heap.size := by simp
      have hk := hib.keepR (Below.refl _ _) (fun j => j = r)
      exact ⟨K.keepB _ _ hb (hfar D (by omega)) (hfar lp (by omega)), _, CellI.next hBb hrE hcb hf hL trivial, hk.os, hk.tape, hk.output, by rw [hsz]; exact hk.size, fun j h1 h2 h3 => (hfar j h2).trans (hk.block j h1 h2 h3), hk.own⟩

set_option maxRecDepth 20000 in
set_option maxHeartbeats 4000000 in
theorem depth_any (v : V) (w : World) (s : Value) (h : VIn w v s) (hwt : v.wt ≤ 1000000) :
    Calls Tryd.prog 24 #[.agg #[.int .i64 v.kind, .int .u64 v.num, .string v.text, s, .int .i64 v.elem]] w fun e w' => e = .returned (.int .i64 (foldD max 0 (v.pre 1))) ∧ Below w.heap.size w w' := by
  obtain ⟨p, c, hs, h1, h2, h3⟩ := h.slice
  obtain ⟨N, hN⟩ : ∃ N, v.list.length = N := ⟨_, rfl⟩
  rw [hN] at hs h1 h3
  subst hs
  unfold maxLen at h2
  have HV := Lib.hid h
  have HN := Lib.hid hN
  have HW := Lib.hid hwt
  clear h hN hwt
  refine calls_of_wp_marks Tryd.func24 rfl ?_
  simp only [Tryd.ntmps24, List.size_toArray, List.length_cons, List.length_nil, Nat.reduceAdd, Nat.reduceSub, Array.replicate_succ, Array.replicate_zero, List.push_toArray, List.append_toArray, List.nil_append, List.cons_append]
  go_upto_region 2 with fail
  have hb0 : Below w.heap.size w ((w.alloc (.cells #[.int .i64 v.kind, .int .u64 v.num, .string v.text, (.slice p N c), .int .i64 v.elem] 25)).alloc (.cells #[.int .i64 0] 3)) := ((Below.refl _ _).alloc (Nat.le_refl _) _).alloc (by simp) _
  have ox : ((w.alloc (.cells #[.int .i64 v.kind, .int .u64 v.num, .string v.text, (.slice p N c), .int .i64 v.elem] 25)).alloc (.cells #[.int .i64 0] 3)).heap[w.heap.size]? = some (.cells #[.int .i64 v.kind, .int .u64 v.num, .string v.text, (.slice p N c), .int .i64 v.elem] 25 (0, 0)) := (_root_.Go.heap_alloc_old _ _ (by simp)).trans (_root_.Go.heap_alloc_new _ _)
  have oy : ((w.alloc (.cells #[.int .i64 v.kind, .int .u64 v.num, .string v.text, (.slice p N c), .int .i64 v.elem] 25)).alloc (.cells #[.int .i64 0] 3)).heap[w.heap.size + 1]? = some (.cells #[.int .i64 0] 3 (0, 0)) := by have := _root_.Go.heap_alloc_new (w.alloc (.cells #[.int .i64 v.kind, .int .u64 v.num, .string v.text, (.slice p N c), .int .i64 v.elem] 25)) (.cells #[.int .i64 0] 3); rwa [World.size_alloc] at this
  generalize ((w.alloc (.cells #[.int .i64 v.kind, .int .u64 v.num, .string v.text, (.slice p N c), .int .i64 v.elem] 25)).alloc (.cells #[.int .i64 0] 3)) = w0 at *
  obtain ⟨x, hx⟩ : ∃ x, w.heap.size = x := ⟨_, rfl⟩
  rw [hx] at ox oy ⊢
  obtain ⟨r, hr⟩ : ∃ r, x + 1 = r := ⟨_, rfl⟩
  rw [hr] at oy ⊢
  have x0 : w0.cell? ⟨x, 0, none⟩ = some (.int .i64 v.kind) := (cell_of_row _ _ 0 _ _ _ ox).trans rfl
  have x1 : w0.cell? ⟨x, 1, none⟩ = some (.int .u64 v.num) := (cell_of_row _ _ 1 _ _ _ ox).trans rfl
  have x2 : w0.cell? ⟨x, 2, none⟩ = some (.string v.text) := (cell_of_row _ _ 2 _ _ _ ox).trans rfl
  have x3 : w0.cell? ⟨x, 3, none⟩ = some (.slice p N c) := (cell_of_row _ _ 3 _ _ _ ox).trans rfl
  have x4 : w0.cell? ⟨x, 4, none⟩ = some (.int .i64 v.elem) := (cell_of_row _ _ 4 _ _ _ ox).trans rfl
  have HB0 := Lib.hid hb0
  have HX := Lib.hid (show w.heap.size ≤ r by omega)
  have HOY := Lib.hid oy
  clear hb0 ox oy hx hr
  have hc := each_any v _ w0 p N c rfl
  go_wp2_with fail
  refine hc.mono ?_
  clear hc x0 x1 x2 x3 x4
  rintro e w1 ⟨rfl, rfl⟩
  have hb1 : Below w.heap.size w (w0.alloc (.cells #[.int .i64 v.kind, .int .u64 v.num, .string v.text, (.slice p N c), .int .i64 v.elem] 25)) := HB0.out.alloc HB0.out.size _
  have oy1 : (w0.alloc (.cells #[.int .i64 v.kind, .int .u64 v.num, .string v.text, (.slice p N c), .int .i64 v.elem] 25)).heap[r]? = _ := (_root_.Go.heap_alloc_old w0 (.cells #[.int .i64 v.kind, .int .u64 v.num, .string v.text, (.slice p N c), .int .i64 v.elem] 25) (Array.getElem?_eq_some_iff.1 HOY.out).1).trans HOY.out
  have oy2 : (w0.alloc (.cells #[.int .i64 v.kind, .int .u64 v.num, .string v.text, (.slice p N c), .int .i64 v.elem] 25)).heap[w0.heap.size]? = some (.cells #[.int .i64 v.kind, .int .u64 v.num, .string v.text, (.slice p N c), .int .i64 v.elem] 25 (0, 0)) := _root_.Go.heap_alloc_new _ _
  have hrl := (Array.getElem?_eq_some_iff.1 oy1).1
  generalize w0.alloc (.cells #[.int .i64 v.kind, .int .u64 v.num, .string v.text, (.slice p N c), .int .i64 v.elem] 25) = w1 at *
  obtain ⟨y, hy⟩ : ∃ y, w0.heap.size = y := ⟨_, rfl⟩
  rw [hy] at oy2 ⊢
  have HB1 := Lib.hid hb1
  have HO1 := Lib.hid (And.intro oy1 (And.intro oy2 hrl))
  clear hb1 oy1 oy2 hrl hy
  go_wp2_with fail
  refine wp_range_each (wv := w) (v := v) (s := .slice p N c) (y := y) rfl rfl HO1.out.2.1 HV.out (by have := HW.out; omega) (CellI w r max (fun _ => True) (v.pre 1)) (fun _ _ _ => False) (fun j => j = r) ?_ ?_ ?_ ?_ ?_ ?_ ?_ ?_
  · rintro k O W ⟨_, hB, _⟩
    exact rd_below hB
  · rintro k O W hI
    exact hI.fresh
  · rintro k O W W' d hI hg hd hO
    exact hI.turn hg (Nat.le_trans HB1.out.size hd) hO
  · rintro cc O W W' d h
    exact h.elim
  · exact ⟨rfl, HB1.out, HX.out, 0, trivial, HO1.out.1, by rw [List.drop_zero]⟩
  · intro K k O d z t W hrd hI n1 n2 hz hL hzin
    obtain ⟨rfl, hI2⟩ := hI
    exact round_depth K w W r (v.pre 1) k d z _ _ _ _ _ _ _ _ (by kernel_rfl) hrd ⟨rfl, hI2⟩ hL hz rfl HO1.out.2.2
  · rintro O W ⟨rfl, hB, hw1, m, _, hc, hf⟩ hD hO
    have c0 : W.cell? ⟨r, 0, none⟩ = some (.int .i64 m) := (cell_of_row _ _ 0 _ _ _ hc).trans rfl
    have H := Lib.hid (And.intro hB (And.intro hf hD))
    clear hB hc hw1 hf hD hO
    simp only [Exit.inBlock, Exit.then]
    go_at_K
    go_wp2_with fail
    obtain ⟨hB, hf, hD⟩ := H.out
    rw [List.drop_length, foldD] at hf
    refine leaves_one (u := .int .i64 m) hD (by simp [results, Tryd.f24, go_sem]) ⟨by rw [hf], below_putObj hB HB1.out.size _⟩
  · rintro cc O W h
    exact h.elim
end Go.Proofs.YtakbgekamjpibaaDoor
