/-
  Depth. Conditions: the value lies in memory and is no greater than a million.
  awake: the chapter's first examples. Conditions: the tables stand.
-/
import Derived.Test.YtakbgekamjpibaaDoorMg22
namespace Go.Proofs.YtakbgekamjpibaaDoor
open Go.RowKit
set_option linter.unusedVariables false

attribute [local go_sem] Oper.semAt_some

/-- what a loop reckons of the depths -/
def foldD (g : Int → Int → Int) : Int → List (Int × V) → Int
  | m, [] => m
  | m, (d, _) :: r => foldD g (g m d) r
/-- a loop that reckons in a cell -/
def CellI (wE : World) (r : Nat) (g : Int → Int → Int) (P : Int → Prop) (L : List (Int × V)) (k : Nat) (O : Nat → Prop) (W : World) : Prop :=
  (O = fun j => j = r) ∧ Below wE.heap.size wE W ∧ wE.heap.size ≤ r ∧ ∃ m : Int, P m ∧ W.heap[r]? = some (.cells #[.int .i64 m] 3 (0, 0)) ∧ foldD g m (L.drop k) = foldD g 0 L
theorem CellI.turn {wE W W' : World} {r d : Nat} {g : Int → Int → Int} {P : Int → Prop} {L : List (Int × V)} {k : Nat} {O : Nat → Prop} (h : CellI wE r g P L k O W) (hg : W.grownBy W' (some d)) (hd : wE.heap.size ≤ d) (hO : ¬ O d) : CellI wE r g P L k O W' := by
  obtain ⟨rfl, hB, h1, m, hm, hc, hf⟩ := h
  exact ⟨rfl, ⟨hg.os.trans hB.os, hg.tape.trans hB.tape, hg.output.trans hB.output, Nat.le_trans hB.size hg.size, fun j hj => (hg.block j (Nat.lt_of_lt_of_le hj hB.size) (fun e => by have := Option.some.inj e; omega)).trans (hB.block j hj)⟩, h1, m, hm,
      (hg.block r (Array.getElem?_eq_some_iff.1 hc).1 (fun e => hO (Option.some.inj e).symm)).trans hc, hf⟩
theorem CellI.fresh {wE W : World} {r : Nat} {g : Int → Int → Int} {P : Int → Prop} {L : List (Int × V)} {k : Nat} {O : Nat → Prop} (h : CellI wE r g P L k O W) : ∀ j, O j → j < W.heap.size := by
  obtain ⟨rfl, hB, h1, m, hm, hc, hf⟩ := h
  intro j hj
  have : j = r := hj
  rw [this]
  exact (Array.getElem?_eq_some_iff.1 hc).1
/-- the next one -/
theorem CellI.next {wE Wb : World} {r k : Nat} {g : Int → Int → Int} {P : Int → Prop} {L : List (Int × V)} {d m : Int} {x : V} (hB : Below wE.heap.size wE Wb) (h1 : wE.heap.size ≤ r) (hc : Wb.heap[r]? = some (.cells #[.int .i64 m] 3 (0, 0))) (hf : foldD g m (L.drop k) = foldD g 0 L) (hL : L[k]? = some (d, x)) (hP : P (g m d)) :
    CellI wE r g P L (k + 1) (fun j => j = r) (Wb.setCell ⟨r, 0, none⟩ (.int .i64 (g m d))) := by
  refine ⟨rfl, hB.setCell (p := ⟨r, 0, none⟩) h1 _, h1, g m d, hP, heap_setCell_same Wb r 0 _ _ _ hc, ?_⟩
  rw [← hf, List.drop_eq_getElem_cons (List.getElem?_eq_some_iff.1 hL).1, (List.getElem?_eq_some_iff.1 hL).2, foldD]

set_option maxRecDepth 20000 in
set_option maxHeartbeats 4000000 in
theorem round_depth {D lp : Nat} (K : LoopBook D lp) (wE W : World) (r : Nat) (L : List (Int × V)) (k : Nat) (d : Int) (x : V) (v0 v1 v2 v5 v6 y : Value) (asg bdy : Code) (hrf : (Tryd.f24.body.bind rfOf) = some (asg, bdy))
    (hrd : K.rdy W) (hI : CellI wE r max (fun _ => True) L k (fun j => j = r) W) (hL : L[k]? = some (d, x)) (hDz : D + 2 ≤ W.heap.size) (hlp : lp = D + 1) (hrD : r < D) :
    RoundOf Tryd.prog K #[v0, v1, v2, .pointer (some ⟨r, 0, none⟩), undef, v5, v6, undef, undef, undef, undef, undef, undef] #[7, 8] asg bdy #[.int .i64 d, y] W
      (fun W3 => ∃ O2, CellI wE r max (fun _ => True) L (k + 1) O2 W3 ∧ KeepR lp (fun j => j = r) W O2 W3) (fun c W3 => ∃ O2, False ∧ KeepR lp (fun j => j = r) W O2 W3) := by
  simp only [Tryd.f24, Option.bind_some, rfOf, Option.some.injEq, Prod.mk.injEq] at hrf
  obtain ⟨rfl, rfl⟩ := hrf
  unfold RoundOf
  obtain ⟨_, hB, hrE, m, _, hc, hf⟩ := hI
  refine wpIn_mono (Q := fun e a Wa => e = .normal ∧ a = { tmps := #[v0, v1, v2, .pointer (some ⟨r, 0, none⟩), .int .i64 d, v5, v6, .int .i64 d, y, undef, undef, undef, undef], defers := [] } ∧ Wa = W) ?_ ?_
  · gi_wp2
  · rintro e a' Wa ⟨rfl, rfl, rfl⟩
    refine ⟨hrd, ?_⟩
    intro Wb ht hb
    have hib := inBody_of (Below.refl _ _) ht
    have hcb := (hib.rest r (Array.getElem?_eq_some_iff.1 hc).1 (by omega)).trans hc
    have hBb := hib.below hB (by omega)
    have c0 : Wb.cell? ⟨r, 0, none⟩ = some (.int .i64 m) := (cell_of_row _ _ 0 _ _ _ hcb).trans rfl
    have f0 : Wb.frozen? ⟨r, 0, none⟩ = false := by simp [World.frozen?, hcb]
    have H := Lib.hid (And.intro hib (And.intro hcb (And.intro hBb (And.intro hb (And.intro hf hrE)))))
    have HN := Lib.hid (And.intro hlp (And.intro hrD hL))
    clear hib hcb hBb hb hf hrE hlp hrD hL hDz ht hB hc hrd
    gi_wp2
    all_goals
      obtain ⟨hib, hcb, hBb, hb, hf, hrE⟩ := H.out
      obtain ⟨hlp, hrD, hL⟩ := HN.out
      have hfar : ∀ j, j ≠ r → (Wb.setCell ⟨r, 0, none⟩ (.int .i64 (max m d))).heap[j]? = Wb.heap[j]? := fun j hj => set_farV hj
      have hsz : (Wb.setCell ⟨r, 0, none⟩ (.int .i64 (max m d))).heap.size = Wb.heap.size := by simp
      have hk := hib.keepR (Below.refl _ _) (fun j => j = r)
      exact ⟨K.keepB _ _ hb (hfar D (by omega)) (hfar lp (by omega)), _, CellI.next hBb hrE hcb hf hL trivial, hk.os, hk.tape, hk.output, by rw [hsz]; exact hk.size, fun j h1 h2 h3 => (hfar j h2).trans (hk.block j h1 h2 h3), hk.own⟩

set_option maxRecDepth 20000 in
set_option maxHeartbeats 4000000 in
theorem depth_any (v : V) (w : World) (s : Value) (h : VIn w v s) (hwt : v.wt ≤ 1000000) :
    Calls Tryd.prog 24 #[.agg #[.int .i64 v.kind, .int .u64 v.num, .string v.text, s, .int .i64 v.elem]] w fun e w' => e = .returned (.int .i64 (foldD max 0 (v.pre 1))) ∧ Below w.heap.size w w' := by
  obtain ⟨p, c, hs, h1, h2, h3⟩ := h.slice
  obtain ⟨N, hN⟩ : ∃ N, v.list.length = N := ⟨_, rfl⟩
  rw [hN] at hs h1 h3
  subst hs
  unfold maxLen at h2
  have HV := Lib.hid h
  have HN := Lib.hid hN
  have HW := Lib.hid hwt
  clear h hN hwt
  refine calls_of_wp_marks Tryd.func24 rfl ?_
  simp only [Tryd.ntmps24, List.size_toArray, List.length_cons, List.length_nil, Nat.reduceAdd, Nat.reduceSub, Array.replicate_succ, Array.replicate_zero, List.push_toArray, List.append_toArray, List.nil_append, List.cons_append]
  go_upto_region 2 with fail
  have hb0 : Below w.heap.size w ((w.alloc (.cells #[.int .i64 v.kind, .int .u64 v.num, .string v.text, (.slice p N c), .int .i64 v.elem] 25)).alloc (.cells #[.int .i64 0] 3)) := ((Below.refl _ _).alloc (Nat.le_refl _) _).alloc (by simp) _
  have ox : ((w.alloc (.cells #[.int .i64 v.kind, .int .u64 v.num, .string v.text, (.slice p N c), .int .i64 v.elem] 25)).alloc (.cells #[.int .i64 0] 3)).heap[w.heap.size]? = some (.cells #[.int .i64 v.kind, .int .u64 v.num, .string v.text, (.slice p N c), .int .i64 v.elem] 25 (0, 0)) := (_root_.Go.heap_alloc_old _ _ (by simp)).trans (_root_.Go.heap_alloc_new _ _)
  have oy : ((w.alloc (.cells #[.int .i64 v.kind, .int .u64 v.num, .string v.text, (.slice p N c), .int .i64 v.elem] 25)).alloc (.cells #[.int .i64 0] 3)).heap[w.heap.size + 1]? = some (.cells #[.int .i64 0] 3 (0, 0)) := by have := _root_.Go.heap_alloc_new (w.alloc (.cells #[.int .i64 v.kind, .int .u64 v.num, .string v.text, (.slice p N c), .int .i64 v.elem] 25)) (.cells #[.int .i64 0] 3); rwa [World.size_alloc] at this
  generalize ((w.alloc (.cells #[.int .i64 v.kind, .int .u64 v.num, .string v.text, (.slice p N c), .int .i64 v.elem] 25)).alloc (.cells #[.int .i64 0] 3)) = w0 at *
  obtain ⟨x, hx⟩ : ∃ x, w.heap.size = x := ⟨_, rfl⟩
  rw [hx] at ox oy ⊢
  obtain ⟨r, hr⟩ : ∃ r, x + 1 = r := ⟨_, rfl⟩
  rw [hr] at oy ⊢
  have x0 : w0.cell? ⟨x, 0, none⟩ = some (.int .i64 v.kind) := (cell_of_row _ _ 0 _ _ _ ox).trans rfl
  have x1 : w0.cell? ⟨x, 1, none⟩ = some (.int .u64 v.num) := (cell_of_row _ _ 1 _ _ _ ox).trans rfl
  have x2 : w0.cell? ⟨x, 2, none⟩ = some (.string v.text) := (cell_of_row _ _ 2 _ _ _ ox).trans rfl
  have x3 : w0.cell? ⟨x, 3, none⟩ = some (.slice p N c) := (cell_of_row _ _ 3 _ _ _ ox).trans rfl
  have x4 : w0.cell? ⟨x, 4, none⟩ = some (.int .i64 v.elem) := (cell_of_row _ _ 4 _ _ _ ox).trans rfl
  have HB0 := Lib.hid hb0
  have HX := Lib.hid (show w.heap.size ≤ r by omega)
  have HOY := Lib.hid oy
  clear hb0 ox oy hx hr
  have hc := each_any v _ w0 p N c rfl
  go_wp2_with fail
  refine hc.mono ?_
  clear hc x0 x1 x2 x3 x4
  rintro e w1 ⟨rfl, rfl⟩
  have hb1 : Below w.heap.size w (w0.alloc (.cells #[.int .i64 v.kind, .int .u64 v.num, .string v.text, (.slice p N c), .int .i64 v.elem] 25)) := HB0.out.alloc HB0.out.size _
  have oy1 : (w0.alloc (.cells #[.int .i64 v.kind, .int .u64 v.num, .string v.text, (.slice p N c), .int .i64 v.elem] 25)).heap[r]? = _ := (_root_.Go.heap_alloc_old w0 (.cells #[.int .i64 v.kind, .int .u64 v.num, .string v.text, (.slice p N c), .int .i64 v.elem] 25) (Array.getElem?_eq_some_iff.1 HOY.out).1).trans HOY.out
  have oy2 : (w0.alloc (.cells #[.int .i64 v.kind, .int .u64 v.num, .string v.text, (.slice p N c), .int .i64 v.elem] 25)).heap[w0.heap.size]? = some (.cells #[.int .i64 v.kind, .int .u64 v.num, .string v.text, (.slice p N c), .int .i64 v.elem] 25 (0, 0)) := _root_.Go.heap_alloc_new _ _
  have hrl := (Array.getElem?_eq_some_iff.1 oy1).1
  generalize w0.alloc (.cells #[.int .i64 v.kind, .int .u64 v.num, .string v.text, (.slice p N c), .int .i64 v.elem] 25) = w1 at *
  obtain ⟨y, hy⟩ : ∃ y, w0.heap.size = y := ⟨_, rfl⟩
  rw [hy] at oy2 ⊢
  have HB1 := Lib.hid hb1
  have HO1 := Lib.hid (And.intro oy1 (And.intro oy2 hrl))
  clear hb1 oy1 oy2 hrl hy
  go_wp2_with fail
  refine wp_range_each (wv := w) (v := v) (s := .slice p N c) (y := y) rfl rfl HO1.out.2.1 HV.out (by have := HW.out; omega) (CellI w r max (fun _ => True) (v.pre 1)) (fun _ _ _ => False) (fun j => j = r) ?_ ?_ ?_ ?_ ?_ ?_ ?_ ?_
  · rintro k O W ⟨_, hB, _⟩
    exact rd_below hB
  · rintro k O W hI
    exact hI.fresh
  · rintro k O W W' d hI hg hd hO
    exact hI.turn hg (Nat.le_trans HB1.out.size hd) hO
  · rintro cc O W W' d h
    exact h.elim
  · exact ⟨rfl, HB1.out, HX.out, 0, trivial, HO1.out.1, by rw [List.drop_zero]⟩
  · intro K k O d z t W hrd hI n1 n2 hz hL hzin
    obtain ⟨rfl, hI2⟩ := hI
    exact round_depth K w W r (v.pre 1) k d z _ _ _ _ _ _ _ _ (by kernel_rfl) hrd ⟨rfl, hI2⟩ hL hz rfl HO1.out.2.2
  · rintro O W ⟨rfl, hB, hw1, m, _, hc, hf⟩ hD hO
    have c0 : W.cell? ⟨r, 0, none⟩ = some (.int .i64 m) := (cell_of_row _ _ 0 _ _ _ hc).trans rfl
    have H := Lib.hid (And.intro hB (And.intro hf hD))
    clear hB hc hw1 hf hD hO
    simp only [Exit.inBlock, Exit.then]
    go_at_K
    go_wp2_with fail
    obtain ⟨hB, hf, hD⟩ := H.out
    rw [List.drop_length, foldD] at hf
    refine leaves_one (u := .int .i64 m) hD (by simp [results, Tryd.f24, go_sem]) ⟨by rw [hf], below_putObj hB HB1.out.size _⟩
  · rintro cc O W h
    exact h.elim
end Go.Proofs.YtakbgekamjpibaaDoor

namespace Go.Proofs.YtakbgekamjpibaaDoor
open Go.RowKit
set_option linter.unusedVariables false

attribute [local go_sem] Oper.semAt_some

theorem func_nil0 {P : Program} (d t : Nat) (f : Fn) (x y : Array Value) (w : World) (ps : Array TypeId) (rs : Array TypeId) (v : Bool) (hu : P.underlying t = some (.func ps rs v)) : (Op.equalIn (d + 1) t (.func f x y) .nilFunc).run P w = .ok false w := by
  simp [Op.equalIn, run_underlying hu]
theorem func_nil (f : Fn) (x y : Array Value) (w : World) : (binOp .eql 45 (.func f x y) .nilFunc).run Tryd.prog w = .ok (.bool false) w := by
  have h : (Op.equal 45 (.func f x y) .nilFunc).run Tryd.prog w = .ok false w := func_nil0 9999 45 f x y w _ _ _ Tryd.underlying45
  simp only [binOp]
  simp [h]

set_option maxRecDepth 20000 in
set_option maxHeartbeats 4000000 in
theorem round_count {D lp : Nat} (K : LoopBook D lp) (wE W : World) (r : Nat) (L : List (Int × V)) (k : Nat) (d : Int) (x : V) (F : Nat → Prop) (v0 v1 v2 v4 v5 v6 v7 v8 v9 v10 v11 v12 v13 v14 v15 y : Value) (asg bdy : Code) (hrf : (Tryd.f12.body.bind rfOf) = some (asg, bdy))
    (hrd : K.rdy W) (hI : CellI wE r (fun m _ => m + 1) (fun m => 0 ≤ m ∧ m ≤ k) L k (fun j => j = r) W) (hL : L[k]? = some (d, x)) (hk : k ≤ 1000000) (hDz : D + 2 ≤ W.heap.size) (hlp : lp = D + 1) (hrD : r < D) :
    RoundOf Tryd.prog K #[v0, v1, v2, .pointer (some ⟨r, 0, none⟩), v4, v5, v6, v7, v8, v9, v10, v11, v12, v13, v14, v15, undef, undef, undef, undef, undef, undef, undef, undef, undef, undef, undef, undef, undef, undef, undef, undef, undef, undef, undef, undef, undef, undef, undef, undef, undef, undef, undef, undef, undef, undef, undef] #[16, 17] asg bdy #[.int .i64 d, y] W
      (fun W3 => ∃ O2, CellI wE r (fun m _ => m + 1) (fun m => 0 ≤ m ∧ m ≤ (k + 1 : Nat)) L (k + 1) O2 W3 ∧ KeepR lp (fun j => j = r ∨ F j) W O2 W3) (fun c W3 => ∃ O2, False ∧ KeepR lp (fun j => j = r ∨ F j) W O2 W3) := by
  simp only [Tryd.f12, Option.bind_some, rfOf, Option.some.injEq, Prod.mk.injEq] at hrf
  obtain ⟨rfl, rfl⟩ := hrf
  unfold RoundOf
  obtain ⟨_, hB, hrE, m, ⟨hm0, hm1⟩, hc, hf⟩ := hI
  refine wpIn_mono (Q := fun e a Wa => e = .normal ∧ a = { tmps := #[v0, v1, v2, .pointer (some ⟨r, 0, none⟩), v4, v5, v6, v7, v8, v9, v10, v11, v12, v13, v14, v15, .int .i64 d, y, undef, undef, undef, undef, undef, undef, undef, undef, undef, undef, undef, undef, undef, undef, undef, undef, undef, undef, undef, undef, undef, undef, undef, undef, undef, undef, undef, undef, undef], defers := [] } ∧ Wa = W) ?_ ?_
  · gi_wp2
  · rintro e a' Wa ⟨rfl, rfl, rfl⟩
    refine ⟨hrd, ?_⟩
    intro Wb ht hb
    have hib := inBody_of (Below.refl _ _) ht
    have hcb := (hib.rest r (Array.getElem?_eq_some_iff.1 hc).1 (by omega)).trans hc
    have hBb := hib.below hB (by omega)
    have c0 : Wb.cell? ⟨r, 0, none⟩ = some (.int .i64 m) := (cell_of_row _ _ 0 _ _ _ hcb).trans rfl
    have f0 : Wb.frozen? ⟨r, 0, none⟩ = false := by simp [World.frozen?, hcb]
    have H := Lib.hid (And.intro hib (And.intro hcb (And.intro hBb (And.intro hb (And.intro hf hrE)))))
    have HN := Lib.hid (And.intro hlp (And.intro hrD hL))
    have hm2 : m ≤ 1000000 := by omega
    have HM := Lib.hid (And.intro hm0 hm1)
    clear hib hcb hBb hb hf hrE hlp hrD hL hDz ht hB hc hrd hm1
    gi_wp2
    all_goals
      obtain ⟨hib, hcb, hBb, hb, hf, hrE⟩ := H.out
      obtain ⟨hlp, hrD, hL⟩ := HN.out
      have hfar : ∀ j, j ≠ r → (Wb.setCell ⟨r, 0, none⟩ (.int .i64 (m + 1))).heap[j]? = Wb.heap[j]? := fun j hj => set_farV hj
      have hsz : (Wb.setCell ⟨r, 0, none⟩ (.int .i64 (m + 1))).heap.size = Wb.heap.size := by simp
      have hk := hib.keepR (Below.refl _ _) (fun j => j = r)
      exact ⟨K.keepB _ _ hb (hfar D (by omega)) (hfar lp (by omega)), _, CellI.next (P := fun m => 0 ≤ m ∧ m ≤ (k + 1 : Nat)) hBb hrE hcb hf hL (show 0 ≤ m + 1 ∧ m + 1 ≤ ((k + 1 : Nat) : Int) by have := HM.out; omega), hk.os, hk.tape, hk.output, by rw [hsz]; exact hk.size, fun j h1 h2 h3 => (hfar j (fun e => h2 (.inl e))).trans (hk.block j h1 (fun e => h2 (.inl e)) h3), fun j hj => .inl (.inl hj)⟩

def lv1 : V := .mk 4 7 ⟨#[]⟩ [] 0
theorem listed_pre : (V.listed [lv1]).pre 1 = [(1, V.listed [lv1]), (2, lv1)] := by simp [V.listed, lv1, V.pre, pres]
theorem aw_check1 : firstBad ((V.listed [lv1]).pre 1) = 0 := by
  rw [listed_pre]
  simp [firstBad, aloneC, V.listed, lv1, V.kind, V.num, V.text, V.list, V.elem, extraV, hasN, hasT, hasP, numOk, textOk]
theorem aw_check2 : firstBad ((V.mk 1 2 ⟨#[]⟩ [] 0).pre 1) = 21 := by
  simp [V.pre, pres, firstBad, aloneC, V.kind, V.num, V.text, V.list, V.elem, extraV, hasN, hasT, hasP, numOk]
theorem aw_order : ordV (V.mk 8 5 ⟨#[]⟩ [] 0) (V.mk 4 9 ⟨#[]⟩ [] 0) = 1 := by
  rw [ordV_eq]
  simp [V.kind, sgnZ, thenZ]
theorem aw_depth : foldD max 0 ((V.listed [lv1]).pre 1) = 2 := by
  rw [listed_pre]
  simp [foldD] <;> rfl
theorem aw_count : foldD (fun m _ => m + 1) 0 ((V.listed [lv1]).pre 1) = 2 := by
  rw [listed_pre]
  simp [foldD]
theorem vin_atom (w : World) (k n : Int) (hk : IsI64 k) (hn : IsU64 n) : VIn w (.mk k n ⟨#[]⟩ [] 0) (.slice none 0 0) :=
  (VO.nil w 0 (v := .mk k n ⟨#[]⟩ [] 0) ⟨hk, hn, Nat.zero_le _, ⟨by show (-9223372036854775808 : Int) ≤ 0; omega, by show (0 : Int) ≤ 9223372036854775807; omega⟩⟩ rfl).vin

set_option maxRecDepth 20000 in
set_option maxHeartbeats 4000000 in
theorem awake_any (w : World) (hT : Tabs w) : Calls Tryd.prog 12 #[] w fun e w' => e = .returned (.bool true) ∧ Below w.heap.size w w' := by
  have HT := Lib.hid hT
  have hfn := func_nil
  clear hT
  refine calls_of_wp_marks Tryd.func12 rfl ?_
  simp only [Tryd.ntmps12, List.size_toArray, List.length_nil, Nat.reduceSub, Array.replicate_succ, Array.replicate_zero, List.push_toArray, List.append_toArray, List.nil_append, List.cons_append]
  go_wp2_with fail
  have hb0 : Below w.heap.size w (w.alloc (.cells #[.int .i64 4, .int .u64 7, .string ⟨#[]⟩, .slice none 0 0, .int .i64 0] 25)) := (Below.refl _ _).alloc (Nat.le_refl _) _
  have ox : (w.alloc (.cells #[.int .i64 4, .int .u64 7, .string ⟨#[]⟩, .slice none 0 0, .int .i64 0] 25)).heap[w.heap.size]? = some (.cells #[.int .i64 4, .int .u64 7, .string ⟨#[]⟩, .slice none 0 0, .int .i64 0] 25 (0, 0)) := _root_.Go.heap_alloc_new _ _
  generalize (w.alloc (.cells #[.int .i64 4, .int .u64 7, .string ⟨#[]⟩, .slice none 0 0, .int .i64 0] 25)) = w0 at *
  obtain ⟨x, hx⟩ : ∃ x, w.heap.size = x := ⟨_, rfl⟩
  rw [hx] at ox ⊢
  have hvin : VIn w0 (V.mk 0 0 ⟨#[]⟩ [lv1] 0) (.slice (some ⟨x, 0, none⟩) 1 1) := by
    refine .mk (V.mk 0 0 ⟨#[]⟩ [lv1] 0) (some ⟨x, 0, none⟩) 1 (fun _ => .slice none 0 0) ⟨⟨by show (-9223372036854775808 : Int) ≤ 0; omega, by show (0 : Int) ≤ 9223372036854775807; omega⟩, ⟨by show (0 : Int) ≤ 0; omega, by show (0 : Int) ≤ 18446744073709551615; omega⟩, Nat.zero_le _, ⟨by show (-9223372036854775808 : Int) ≤ 0; omega, by show (0 : Int) ≤ 9223372036854775807; omega⟩⟩ (Nat.le_refl _) (by unfold maxLen; omega) (fun _ => ⟨x, 0, rfl⟩) ?_ ?_
    · intro b o e i hi u v hu
      have hi0 : i = 0 := by simpa [V.list] using hi
      subst hi0
      simp only [Option.some.injEq, Addr.mk.injEq] at e
      obtain ⟨rfl, rfl, _⟩ := e
      rw [cell_of_row _ _ _ _ _ _ ox]
      have hu5 : u < 5 := (List.getElem?_eq_some_iff.1 hu).1
      rw [← hu]
      rw [show 0 + 0 * 5 + u = u by omega]
      match u, hu5 with
      | 0, _ => rfl
      | 1, _ => rfl
      | 2, _ => rfl
      | 3, _ => rfl
      | 4, _ => rfl
    · intro i hi
      have hi0 : i = 0 := by simpa [V.list] using hi
      subst hi0
      exact vin_atom w0 4 7 ⟨by omega, by omega⟩ ⟨by omega, by omega⟩
  have hc := listed_any _ w0 _ hvin (show wts [lv1] ≤ 1000000 by simp only [wts, lv1, V.wt]; decide)
  have HB0 := Lib.hid hb0
  have HC := Lib.hid hc
  clear hb0 ox hx hvin hc
  refine HC.out.mono ?_
  rintro e w1 ⟨t, F, rfl, hvo, hb1⟩
  obtain ⟨pt, ct, hst, _, _⟩ := hvo.slice
  have hst : t = .slice pt 1 ct := hst
  subst hst
  have HVO := Lib.hid (And.intro hvo (HB0.out.trans (hb1.mono HB0.out.size)))
  clear hvo hb1
  go_upto_region 2 with (refine wpList_store_rowTo rfl 25 (.tmp 1) (.tmp 10) rfl rfl w1.heap.size #[.int .i64 21, .int .u64 0, .string ⟨#[]⟩, .slice pt 1 ct, .int .i64 0] rfl rfl 25 #[.int .i64 0, .int .u64 0, .string ⟨#[]⟩, .slice none 0 0, .int .i64 0] (_root_.Go.heap_alloc_new w1 _) (by as_aux_lemma => kernel_rfl) (by as_aux_lemma => kernel_rfl) (by simp [Value.oneCell']) ?_)
  have hb_w2 : Below w1.heap.size w1 ((w1.alloc (.cells #[.int .i64 0, .int .u64 0, .string ⟨#[]⟩, .slice none 0 0, .int .i64 0] 25)).setRow w1.heap.size #[.int .i64 21, .int .u64 0, .string ⟨#[]⟩, .slice pt 1 ct, .int .i64 0]) := below_setRow ((Below.refl _ _).alloc (Nat.le_refl _) _) (Nat.le_refl _) _
  have oa := setRow_heap (w1.alloc (.cells #[.int .i64 0, .int .u64 0, .string ⟨#[]⟩, .slice none 0 0, .int .i64 0] 25)) w1.heap.size _ #[.int .i64 21, .int .u64 0, .string ⟨#[]⟩, .slice pt 1 ct, .int .i64 0] _ _ (_root_.Go.heap_alloc_new w1 _)
  generalize ((w1.alloc (.cells #[.int .i64 0, .int .u64 0, .string ⟨#[]⟩, .slice none 0 0, .int .i64 0] 25)).setRow w1.heap.size #[.int .i64 21, .int .u64 0, .string ⟨#[]⟩, .slice pt 1 ct, .int .i64 0]) = w2 at *
  obtain ⟨a1, ha1⟩ : ∃ x, w1.heap.size = x := ⟨_, rfl⟩
  rw [ha1] at oa ⊢
  have hwt : (V.listed [lv1]).wt ≤ 1000000 := by simp only [V.listed, wts, lv1, V.wt]; decide
  have hvin2 : VIn w2 (V.listed [lv1]) (.slice pt 1 ct) := (HVO.out.1.blw hb_w2).vin
  have ha : Calls Tryd.prog 29 #[.agg #[.int .i64 21, .int .u64 0, .string ⟨#[]⟩, .slice pt 1 ct, .int .i64 0]] w2 (AllPost w2 (V.listed [lv1])) := all_any _ w2 _ hvin2 hwt
  have HA := Lib.hid ha
  have HB2 := Lib.hid (And.intro (HVO.out.2.trans (hb_w2.mono HVO.out.2.size)) (And.intro oa hvin2))
  have a0 : w2.cell? ⟨a1, 0, none⟩ = some (.int .i64 21) := (cell_of_row _ _ 0 _ _ _ oa).trans rfl
  have a1' : w2.cell? ⟨a1, 1, none⟩ = some (.int .u64 0) := (cell_of_row _ _ 1 _ _ _ oa).trans rfl
  have a2 : w2.cell? ⟨a1, 2, none⟩ = some (.string ⟨#[]⟩) := (cell_of_row _ _ 2 _ _ _ oa).trans rfl
  have a3 : w2.cell? ⟨a1, 3, none⟩ = some (.slice pt 1 ct) := (cell_of_row _ _ 3 _ _ _ oa).trans rfl
  have a4 : w2.cell? ⟨a1, 4, none⟩ = some (.int .i64 0) := (cell_of_row _ _ 4 _ _ _ oa).trans rfl
  clear hb_w2 oa ha1 hvin2 ha
  go_wp2_with fail
  refine HA.out.mono ?_
  clear a0 a1' a2 a3 a4
  rintro e w3 ⟨xa, u, FA, rfl, hxa, hvoa, hFx, hza, hb3⟩
  have HO3 := Lib.hid (And.intro hxa (And.intro hvoa (And.intro hFx (And.intro hza hb3))))
  clear hxa hvoa hFx hza hb3
  go_wp2_with fail
  have hb4 : Below w3.heap.size w3 (w3.alloc (.cells #[.int .i64 0] 3)) := (Below.refl _ _).alloc (Nat.le_refl _) _
  have or4 : (w3.alloc (.cells #[.int .i64 0] 3)).heap[w3.heap.size]? = some (.cells #[.int .i64 0] 3 (0, 0)) := _root_.Go.heap_alloc_new _ _
  generalize (w3.alloc (.cells #[.int .i64 0] 3)) = w4 at *
  obtain ⟨r, hr⟩ : ∃ r, w3.heap.size = r := ⟨_, rfl⟩
  rw [hr] at or4 ⊢
  have hrl := (Array.getElem?_eq_some_iff.1 or4).1
  obtain ⟨hxa, hvoa, hFx, hza, hb3⟩ := HO3.out
  have hxa4 := (hb4.block xa (Array.getElem?_eq_some_iff.1 hxa).1).trans hxa
  refine wp_range_all (x := xa) (v := V.listed [lv1]) (s := u) (F0 := FA) rfl rfl hxa4 (hvoa.blw hb4) hwt (fun k O W => CellI w3 r (fun m _ => m + 1) (fun m => 0 ≤ m ∧ m ≤ k) ((V.listed [lv1]).pre 1) k O W) (fun _ _ _ => False) (fun j => j = r) ?_ ?_ ?_ ?_ ?_ ?_ ?_ ?_
  · rintro k O W ⟨_, hB, _⟩ j hj
    have := (hvoa.lt j hj).2
    rw [hB.block j this, hb4.block j this]
  · rintro k O W hI
    exact hI.fresh
  · rintro k O W W' d hI hg hd hO
    exact hI.turn hg (by have := hb4.size; omega) hO
  · rintro cc O W W' d h
    exact h.elim
  · exact ⟨rfl, hb4, by omega, 0, ⟨by omega, by omega⟩, or4, by rw [List.drop_zero]⟩
  · intro K k O d z t F W W' hrd hI n1 n2 hz hL hbw hzo
    have hI2 := hI.turn (d := w4.heap.size) (grown_below hbw _) (by have := hb4.size; omega) n1
    obtain ⟨rfl, hI3⟩ := hI2
    have hk2 : k < 2 := by have := (List.getElem?_eq_some_iff.1 hL).1; rw [listed_pre] at this; simpa using this
    exact round_count K w3 W' r _ k d z F _ _ _ _ _ _ _ _ _ _ _ _ _ _ _ _ _ _ (by kernel_rfl) hrd ⟨rfl, hI3⟩ hL (by omega) (Nat.le_trans hz hbw.size) rfl hrl
  · rintro O W ⟨rfl, hB, hw1, m, _, hc, hf⟩ hD hO
    rw [List.drop_length, foldD, aw_count] at hf
    subst hf
    have hBW : Below w.heap.size w W := by
      have h1 := HB2.out.1
      exact (h1.trans (hb3.mono h1.size)).trans (hB.mono (h1.trans (hb3.mono h1.size)).size)
    have hB2W : Below w2.heap.size w2 W := hb3.trans (hB.mono hb3.size)
    have H := Lib.hid (And.intro hBW (And.intro hB2W (And.intro hc hD)))
    have oaW := (hB2W.block a1 (Array.getElem?_eq_some_iff.1 HB2.out.2.1).1).trans HB2.out.2.1
    have a0 : W.cell? ⟨a1, 0, none⟩ = some (.int .i64 21) := (cell_of_row _ _ 0 _ _ _ oaW).trans rfl
    have a1' : W.cell? ⟨a1, 1, none⟩ = some (.int .u64 0) := (cell_of_row _ _ 1 _ _ _ oaW).trans rfl
    have a2 : W.cell? ⟨a1, 2, none⟩ = some (.string ⟨#[]⟩) := (cell_of_row _ _ 2 _ _ _ oaW).trans rfl
    have a3 : W.cell? ⟨a1, 3, none⟩ = some (.slice pt 1 ct) := (cell_of_row _ _ 3 _ _ _ oaW).trans rfl
    have a4 : W.cell? ⟨a1, 4, none⟩ = some (.int .i64 0) := (cell_of_row _ _ 4 _ _ _ oaW).trans rfl
    have hck : Calls Tryd.prog 15 #[.agg #[.int .i64 21, .int .u64 0, .string ⟨#[]⟩, .slice pt 1 ct, .int .i64 0]] W _ := check_any (V.listed [lv1]) W _ (HB2.out.2.2.blw hB2W) (HT.out.below hBW) hwt
    rw [aw_check1] at hck
    have HCK := Lib.hid hck
    clear hck hBW hB2W hB hw1 hc hD hO oaW
    simp only [Exit.inBlock, Exit.then]
    go_at_K
    go_wp2_with fail
    refine HCK.out.mono ?_
    rintro e w5 ⟨rfl, hb5⟩
    have H5 := Lib.hid (H.out.1.trans (hb5.mono H.out.1.size))
    have H25 := Lib.hid hb5
    have hck2 : Calls Tryd.prog 15 #[.agg #[.int .i64 1, .int .u64 2, .string ⟨#[]⟩, .slice none 0 0, .int .i64 0]] w5 _ := check_any (V.mk 1 2 ⟨#[]⟩ [] 0) w5 _ (vin_atom w5 1 2 ⟨by omega, by omega⟩ ⟨by omega, by omega⟩) (HT.out.below H5.out) (by simp only [wts, V.wt]; decide)
    rw [aw_check2] at hck2
    have HCK2 := Lib.hid hck2
    clear hb5 hck2 a0 a1' a2 a3 a4
    go_wp2_with fail
    refine HCK2.out.mono ?_
    rintro e w6 ⟨rfl, hb6⟩
    have H6 := Lib.hid (H25.out.trans (hb6.mono H25.out.size))
    have hor : Calls Tryd.prog 22 #[.agg #[.int .i64 8, .int .u64 5, .string ⟨#[]⟩, .slice none 0 0, .int .i64 0], .agg #[.int .i64 4, .int .u64 9, .string ⟨#[]⟩, .slice none 0 0, .int .i64 0]] w6 _ := order_on (V.mk 8 5 ⟨#[]⟩ [] 0) w6 _ (V.mk 4 9 ⟨#[]⟩ [] 0) _ (vin_atom w6 8 5 ⟨by omega, by omega⟩ ⟨by omega, by omega⟩) (vin_atom w6 4 9 ⟨by omega, by omega⟩ ⟨by omega, by omega⟩)
    rw [aw_order] at hor
    have HOR := Lib.hid hor
    clear hb6 hor
    go_wp2_with fail
    refine HOR.out.mono ?_
    rintro e w7 ⟨rfl, hb7⟩
    have hW7 := H6.out.trans (hb7.mono H6.out.size)
    have hB27 := H.out.2.1.trans (hW7.mono H.out.2.1.size)
    have oa7 := (hB27.block a1 (Array.getElem?_eq_some_iff.1 HB2.out.2.1).1).trans HB2.out.2.1
    have a0 : w7.cell? ⟨a1, 0, none⟩ = some (.int .i64 21) := (cell_of_row _ _ 0 _ _ _ oa7).trans rfl
    have a1' : w7.cell? ⟨a1, 1, none⟩ = some (.int .u64 0) := (cell_of_row _ _ 1 _ _ _ oa7).trans rfl
    have a2 : w7.cell? ⟨a1, 2, none⟩ = some (.string ⟨#[]⟩) := (cell_of_row _ _ 2 _ _ _ oa7).trans rfl
    have a3 : w7.cell? ⟨a1, 3, none⟩ = some (.slice pt 1 ct) := (cell_of_row _ _ 3 _ _ _ oa7).trans rfl
    have a4 : w7.cell? ⟨a1, 4, none⟩ = some (.int .i64 0) := (cell_of_row _ _ 4 _ _ _ oa7).trans rfl
    have hdp : Calls Tryd.prog 24 #[.agg #[.int .i64 21, .int .u64 0, .string ⟨#[]⟩, .slice pt 1 ct, .int .i64 0]] w7 _ := depth_any (V.listed [lv1]) w7 _ (HB2.out.2.2.blw hB27) hwt
    rw [aw_depth] at hdp
    have HDP := Lib.hid hdp
    have H7 := Lib.hid hW7
    clear hb7 hW7 hB27 oa7 hdp
    go_wp2_with fail
    refine HDP.out.mono ?_
    clear a0 a1' a2 a3 a4
    rintro e w8 ⟨rfl, hb8⟩
    have hW8 := H7.out.trans (hb8.mono H7.out.size)
    have hc8 := (hW8.block r (Array.getElem?_eq_some_iff.1 H.out.2.2.1).1).trans H.out.2.2.1
    have c8 : w8.cell? ⟨r, 0, none⟩ = some (.int .i64 2) := (cell_of_row _ _ 0 _ _ _ hc8).trans rfl
    have hD8 := (hW8.block w4.heap.size (Array.getElem?_eq_some_iff.1 H.out.2.2.2).1).trans H.out.2.2.2
    have H8 := Lib.hid (And.intro hD8 (H.out.1.trans (hW8.mono H.out.1.size)))
    clear hb8 hW8 hc8 hD8
    go_wp2_with fail
    exact leaves_one (u := .bool true) H8.out.1 (by simp [results, Tryd.f12, go_sem]) ⟨rfl, below_putObj H8.out.2 (by have := HB2.out.1.size; have := hb3.size; have := hb4.size; omega) _⟩
  · rintro cc O W h
    exact h.elim
end Go.Proofs.YtakbgekamjpibaaDoor
