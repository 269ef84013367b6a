/-
  Steps of windows. Conditions: the sessions and the book lie in memory. (Printed by a program.)
-/
import Derived.Test.YtbkimebmoafbnaaMg22
import Derived.Test.YtbkimebmoafbnaaMg24
import Derived.Deep.RegionHeld3
namespace Go.Proofs.Ytbkimebmoafbnaa
open Go.RowKit Go.Maps
set_option linter.unusedVariables false

/-- the Flow of a step -/
def flowC (a b c d e : Int) : Array Value := perfC (if e = 0 then 19 else e) 0 a b c d 0 e 7 8 0 true

set_option maxRecDepth 20000 in
set_option maxHeartbeats 8000000 in
theorem flow13_any (w : World) (k a b c d e : Int) (tag : ByteArray) (flag : Bool) :
    Calls Try.prog 76 #[.agg #[.int .i64 k, .int .i64 a, .int .i64 b, .int .i64 c, .int .i64 d, .int .i64 e, .string tag, .bool flag]] w fun en w' => en = .returned (.agg (flowC a b c d e)) ∧ Below w.heap.size w w' := by
  go_enter Try.func76, Try.ntmps76
  go_upto_region 1 with fail
  change Code.wp _ _ _ _ ((w.alloc (.cells #[.int .i64 k, .int .i64 a, .int .i64 b, .int .i64 c, .int .i64 d, .int .i64 e, .string tag, .bool flag] 24)).alloc (.cells perfZ 39))
  have hb0 : Below w.heap.size w ((w.alloc (.cells #[.int .i64 k, .int .i64 a, .int .i64 b, .int .i64 c, .int .i64 d, .int .i64 e, .string tag, .bool flag] 24)).alloc (.cells perfZ 39)) := ((Below.refl _ _).alloc (Nat.le_refl _) _).alloc (by simp) _
  have o0 : ((w.alloc (.cells #[.int .i64 k, .int .i64 a, .int .i64 b, .int .i64 c, .int .i64 d, .int .i64 e, .string tag, .bool flag] 24)).alloc (.cells perfZ 39)).heap[w.heap.size]? = some (.cells #[.int .i64 k, .int .i64 a, .int .i64 b, .int .i64 c, .int .i64 d, .int .i64 e, .string tag, .bool flag] 24 (0, 0)) := heap_alloc2_old _ _ _
  have z0 : ((w.alloc (.cells #[.int .i64 k, .int .i64 a, .int .i64 b, .int .i64 c, .int .i64 d, .int .i64 e, .string tag, .bool flag] 24)).alloc (.cells perfZ 39)).heap[w.heap.size + 1]? = some (.cells perfZ 39 (0, 0)) := heap_alloc2_new _ _ _
  generalize ((w.alloc (.cells #[.int .i64 k, .int .i64 a, .int .i64 b, .int .i64 c, .int .i64 d, .int .i64 e, .string tag, .bool flag] 24)).alloc (.cells perfZ 39)) = w1 at *
  obtain ⟨x, hx⟩ : ∃ x, w.heap.size = x := ⟨_, rfl⟩
  have HX := Lib.hid hx
  rw [hx] at o0 z0 ⊢
  have q1 : w1.cell? ⟨x, 1, none⟩ = some (.int .i64 a) := (cell_of_row _ _ 1 _ _ _ o0).trans rfl
  have q2 : w1.cell? ⟨x, 2, none⟩ = some (.int .i64 b) := (cell_of_row _ _ 2 _ _ _ o0).trans rfl
  have q3 : w1.cell? ⟨x, 3, none⟩ = some (.int .i64 c) := (cell_of_row _ _ 3 _ _ _ o0).trans rfl
  have q4 : w1.cell? ⟨x, 4, none⟩ = some (.int .i64 d) := (cell_of_row _ _ 4 _ _ _ o0).trans rfl
  have q5 : w1.cell? ⟨x, 5, none⟩ = some (.int .i64 e) := (cell_of_row _ _ 5 _ _ _ o0).trans rfl
  have HB0 := Lib.hid hb0
  have HZ0 := Lib.hid (And.intro z0 o0)
  clear hb0 hx z0 o0
  go_upto_region 2 with (first
    | (refine wpList_buildTo rfl 39 _ rfl (some 14) rfl (perfC 19 0 a b c d 0 e 7 8 0 true) (by as_aux_lemma => kernel_rfl) ?_)
    | (refine wpList_store_rowTo rfl 39 (.tmp 3) (.tmp 14) rfl rfl w1.heap.size (perfC 19 0 a b c d 0 e 7 8 0 true) rfl rfl 39 perfZ (_root_.Go.heap_alloc_new w1 _) (by as_aux_lemma => kernel_rfl) (by as_aux_lemma => kernel_rfl) (by as_aux_lemma => kernel_rfl) ?_))
  have hb2 : Below w1.heap.size w1 ((w1.alloc (.cells perfZ 39)).setRow w1.heap.size (perfC 19 0 a b c d 0 e 7 8 0 true)) := below_setRow ((Below.refl _ _).alloc (Nat.le_refl _) _) (Nat.le_refl _) _
  have h2 := setRow_heap (w1.alloc (.cells perfZ 39)) w1.heap.size _ (perfC 19 0 a b c d 0 e 7 8 0 true) _ _ (_root_.Go.heap_alloc_new w1 _)
  change Code.wp _ _ _ _ ((w1.alloc (.cells perfZ 39)).setRow w1.heap.size (perfC 19 0 a b c d 0 e 7 8 0 true))
  generalize ((w1.alloc (.cells perfZ 39)).setRow w1.heap.size (perfC 19 0 a b c d 0 e 7 8 0 true)) = w2 at *
  have hx1 := (Array.getElem?_eq_some_iff.1 HZ0.out.2).1
  have hz1 := (Array.getElem?_eq_some_iff.1 HZ0.out.1).1
  have z2 := (hb2.block (x + 1) hz1).trans HZ0.out.1
  have q5 := (hb2.cell (p := ⟨x, 5, none⟩) hx1).trans q5
  have hwy := HB0.out.size
  have HB2 := Lib.hid (HB0.out.trans (hb2.mono HB0.out.size))
  obtain ⟨y, hy⟩ : ∃ y, w1.heap.size = y := ⟨_, rfl⟩
  rw [hy] at h2 hz1 hx1 hwy ⊢
  have hxy : x + 1 ≠ y := by omega
  have HY := Lib.hid (And.intro hxy hwy)
  clear q1 q2 q3 q4 hb2 hy hxy hwy hz1 hx1
  by_cases he : e = 0
  · have hf : perfC 19 0 a b c d 0 e 7 8 0 true = flowC a b c d e := by rw [flowC, if_pos he]
    rw [hf] at h2 ⊢
    have he' : (e != 0) = false := by simpa using he
    have HBB := Lib.hid HB2.out
    clear hf
    go_wp2_with (first
      | (refine wpList_load_row rfl 39 (.tmp 3) rfl y rfl 39 (flowC a b c d e) (0, 0) _ h2 Try.underlying39 rfl (by as_aux_lemma => kernel_rfl) ?_)
      | (refine wpList_store_rowTo rfl 39 (.tmp 2) (.tmp 21) rfl rfl (x + 1) (flowC a b c d e) rfl rfl 39 perfZ z2 (by as_aux_lemma => kernel_rfl) (by as_aux_lemma => kernel_rfl) (by as_aux_lemma => kernel_rfl) ?_))
    have hh := setRow_heap _ (x + 1) _ (flowC a b c d e) _ _ z2
    have hB := below_setRow HBB.out (show w.heap.size ≤ x + 1 by rw [HX.out]; omega) (flowC a b c d e)
    refine bodyPost_ret (results_cell_row (p := 2) (ty := 39) (by kernel_rfl) _ _ (x + 1) 39 (flowC a b c d e) (0, 0) _ rfl hh Try.underlying39 rfl (by as_aux_lemma => kernel_rfl)) rfl ?_
    exact ⟨rfl, hB⟩
  · have hf : (perfC 19 0 a b c d 0 e 7 8 0 true).setIfInBounds 0 (.int .i64 e) = flowC a b c d e := by
      rw [flowC, if_neg he]
      rfl
    have he' : (e != 0) = true := by simpa using he
    have y0 : w2.cell? ⟨y, 0, none⟩ = some (.int .i64 19) := (cell_of_row _ _ 0 _ _ _ h2).trans rfl
    have fz : w2.frozen? ⟨y, 0, none⟩ = false := by simp [World.frozen?, h2]
    have h4 := heap_setCell_same w2 y 0 _ _ (.int .i64 e) h2
    rw [hf] at h4
    have z4 : (w2.setCell ⟨y, 0, none⟩ (.int .i64 e)).heap[x + 1]? = some (.cells perfZ 39 (0, 0)) := (set_far HY.out.1).trans z2
    have HBB := Lib.hid (HB2.out.setCell (p := ⟨y, 0, none⟩) HY.out.2 (.int .i64 e))
    obtain ⟨P0, hP0⟩ : ∃ P0, perfC 19 0 a b c d 0 e 7 8 0 true = P0 := ⟨_, rfl⟩
    rw [hP0] at *
    clear hf h2 z2 hP0
    go_wp2_with (first
      | (refine wpList_load_row rfl 39 (.tmp 3) rfl y rfl 39 (flowC a b c d e) (0, 0) _ h4 Try.underlying39 rfl (by as_aux_lemma => kernel_rfl) ?_)
      | (refine wpList_store_rowTo rfl 39 (.tmp 2) (.tmp 21) rfl rfl (x + 1) (flowC a b c d e) rfl rfl 39 perfZ z4 (by as_aux_lemma => kernel_rfl) (by as_aux_lemma => kernel_rfl) (by as_aux_lemma => kernel_rfl) ?_))
    have hh := setRow_heap _ (x + 1) _ (flowC a b c d e) _ _ z4
    have hB := below_setRow HBB.out (show w.heap.size ≤ x + 1 by rw [HX.out]; omega) (flowC a b c d e)
    refine bodyPost_ret (results_cell_row (p := 2) (ty := 39) (by kernel_rfl) _ _ (x + 1) 39 (flowC a b c d e) (0, 0) _ rfl hh Try.underlying39 rfl (by as_aux_lemma => kernel_rfl)) rfl ?_
    exact ⟨rfl, hB⟩

set_option maxRecDepth 20000 in
set_option maxHeartbeats 8000000 in
theorem win_step_widen (W : World) (own : Nat → Nat) (a b c i : Nat) (S : Sd) (X : Bk) (h : PW W own a b c i S X) (hab : a ≠ b) (hac : c ≠ a) (hbc : c ≠ b) (hi : i ≤ 2000000) (A A2 A3 A4 A5 : Int) (tag : ByteArray) (flag : Bool) (hA : IsI64 A) (hA2 : IsI64 A2) (hA3 : IsI64 A3) (hA4 : IsI64 A4) (hA5 : IsI64 A5) :
    Calls Try.prog 53 #[.pointer (some ⟨S.K.b, 0, none⟩), .pointer (some ⟨S.r, 0, none⟩), .agg #[.int .i64 6, .int .i64 A, .int .i64 A2, .int .i64 A3, .int .i64 A4, .int .i64 A5, .string tag, .bool flag]] W fun e w' => e = .returned (.bool true) ∧ StepTo W w' own a b c i S X := by
  go_enter Try.func53, Try.ntmps53
  go_upto_region 1 with fail
  have hb0 : Below W.heap.size W (W.alloc (.cells #[.int .i64 6, .int .i64 A, .int .i64 A2, .int .i64 A3, .int .i64 A4, .int .i64 A5, .string tag, .bool flag] 24)) := (Below.refl _ _).alloc (Nat.le_refl _) _
  have o0 : (W.alloc (.cells #[.int .i64 6, .int .i64 A, .int .i64 A2, .int .i64 A3, .int .i64 A4, .int .i64 A5, .string tag, .bool flag] 24)).heap[W.heap.size]? = some (.cells #[.int .i64 6, .int .i64 A, .int .i64 A2, .int .i64 A3, .int .i64 A4, .int .i64 A5, .string tag, .bool flag] 24 (0, 0)) := _root_.Go.heap_alloc_new _ _
  generalize (W.alloc (.cells #[.int .i64 6, .int .i64 A, .int .i64 A2, .int .i64 A3, .int .i64 A4, .int .i64 A5, .string tag, .bool flag] 24)) = w0 at *
  obtain ⟨x, hx⟩ : ∃ x, W.heap.size = x := ⟨_, rfl⟩
  have hxf : (∀ j, S.K.has j → j ≠ x) ∧ (∀ j, RBlk S.r S.vh S.vr S.vs S.va j → j ≠ x) := ⟨fun j hj e => by have := h.sd.ses.lt j hj; omega, fun j hj e => by have := h.sd.ref.inn.blt j hj; omega⟩
  rw [hx] at o0 ⊢
  have H := Lib.hid (h.below hb0)
  have HB := Lib.hid hb0
  have q0 : w0.cell? ⟨x, 0, none⟩ = some (.int .i64 6) := (cell_of_row _ _ 0 _ _ _ o0).trans rfl
  have HO := Lib.hid (And.intro (Array.getElem?_eq_some_iff.1 o0).1 hxf)
  have HQ : Hid (∀ W' : World, W'.heap[x]? = w0.heap[x]? → W'.cell? ⟨x, 0, none⟩ = some (.int .i64 6) ∧ W'.cell? ⟨x, 1, none⟩ = some (.int .i64 A) ∧ W'.cell? ⟨x, 2, none⟩ = some (.int .i64 A2) ∧ W'.cell? ⟨x, 3, none⟩ = some (.int .i64 A3) ∧ W'.cell? ⟨x, 4, none⟩ = some (.int .i64 A4) ∧ W'.cell? ⟨x, 5, none⟩ = some (.int .i64 A5) ∧ W'.cell? ⟨x, 6, none⟩ = some (.string tag) ∧ W'.cell? ⟨x, 7, none⟩ = some (.bool flag)) := Lib.hid (fun W' e => by
    have o := e.trans o0
    exact ⟨(cell_of_row _ _ 0 _ _ _ o).trans rfl, (cell_of_row _ _ 1 _ _ _ o).trans rfl, (cell_of_row _ _ 2 _ _ _ o).trans rfl, (cell_of_row _ _ 3 _ _ _ o).trans rfl, (cell_of_row _ _ 4 _ _ _ o).trans rfl, (cell_of_row _ _ 5 _ _ _ o).trans rfl, (cell_of_row _ _ 6 _ _ _ o).trans rfl, (cell_of_row _ _ 7 _ _ _ o).trans rfl⟩)
  have HI := Lib.hid (And.intro hi (And.intro hA (And.intro hA2 (And.intro hA3 (And.intro hA4 hA5)))))
  clear h hb0 o0 hx hxf hi hA hA2 hA3 hA4 hA5
  obtain ⟨n, s', rs', hp⟩ := pair_widen (W := w0.drew) (i := i) (H.out.sd.below below_of_drew) A
  have HP := Lib.hid hp
  have HK : Hid (∀ W' : World, W'.heap[x]? = w0.heap[x]? → W'.cell? ⟨x, 1, none⟩ = some (.int .i64 A)) := Lib.hid (fun W' e => by
    have K := HQ.out W' e
    exact K.2.1)
  clear hp
  go_upto_region 15 with fail
  obtain ⟨p0, q1, q2, q3, q4, q5, q6, q7⟩ := HQ.out w0 rfl
  clear p0
  clear q0 q2 q3 q4 q5 q6 q7
  go_region_held3 (fun w' => w'.cell? ⟨x, 1, none⟩ = some (.int .i64 A)) (first | exact HK.out _ rfl | exact HK.out _ (by assumption))
    (first
      | (go_at_call 79; refine HP.out.p.mono ?_; rintro e w1 ⟨rfl, h1, h2⟩; have hx1 : w1.heap[x]? = w0.heap[x]? := h2.block x HO.out.1 (fun q => HO.out.2.1 x q rfl); have H1 := Lib.hid (And.intro h1 h2); clear h1 h2)
      | (go_at_call 80; refine (HP.out.r _ (H.out.sd.ref1 hab (SMv.trans (SMv.of_below below_of_drew) H1.out.2))).mono ?_; rintro e w2 ⟨rfl, h3⟩; have hx2 : w2.heap[x]? = w0.heap[x]? := (by obtain ⟨_, _, _, _, _, _, m3⟩ := h3; exact (m3.block x (Nat.lt_of_lt_of_le HO.out.1 H1.out.2.size) (fun q => HO.out.2.2 x q rfl)).trans hx1); have H3 := Lib.hid h3; clear h3))
  clear hx1 hx2
  go_wp2_with fail
  go_ret
  exact ⟨rfl, StepTo.behind HB.out (PW.both H.out hab hac hbc H1.out.1 (SMv.trans (SMv.of_below below_of_drew) H1.out.2) H3.out HP.out.good)⟩

set_option maxRecDepth 20000 in
set_option maxHeartbeats 8000000 in
theorem win_step_sent (W : World) (own : Nat → Nat) (a b c i : Nat) (S : Sd) (X : Bk) (h : PW W own a b c i S X) (hab : a ≠ b) (hac : c ≠ a) (hbc : c ≠ b) (hi : i ≤ 2000000) (A A2 A3 A4 A5 : Int) (tag : ByteArray) (flag : Bool) (hA : IsI64 A) (hA2 : IsI64 A2) (hA3 : IsI64 A3) (hA4 : IsI64 A4) (hA5 : IsI64 A5) :
    Calls Try.prog 53 #[.pointer (some ⟨S.K.b, 0, none⟩), .pointer (some ⟨S.r, 0, none⟩), .agg #[.int .i64 3, .int .i64 A, .int .i64 A2, .int .i64 A3, .int .i64 A4, .int .i64 A5, .string tag, .bool flag]] W fun e w' => e = .returned (.bool true) ∧ StepTo W w' own a b c i S X := by
  go_enter Try.func53, Try.ntmps53
  go_upto_region 1 with fail
  have hb0 : Below W.heap.size W (W.alloc (.cells #[.int .i64 3, .int .i64 A, .int .i64 A2, .int .i64 A3, .int .i64 A4, .int .i64 A5, .string tag, .bool flag] 24)) := (Below.refl _ _).alloc (Nat.le_refl _) _
  have o0 : (W.alloc (.cells #[.int .i64 3, .int .i64 A, .int .i64 A2, .int .i64 A3, .int .i64 A4, .int .i64 A5, .string tag, .bool flag] 24)).heap[W.heap.size]? = some (.cells #[.int .i64 3, .int .i64 A, .int .i64 A2, .int .i64 A3, .int .i64 A4, .int .i64 A5, .string tag, .bool flag] 24 (0, 0)) := _root_.Go.heap_alloc_new _ _
  generalize (W.alloc (.cells #[.int .i64 3, .int .i64 A, .int .i64 A2, .int .i64 A3, .int .i64 A4, .int .i64 A5, .string tag, .bool flag] 24)) = w0 at *
  obtain ⟨x, hx⟩ : ∃ x, W.heap.size = x := ⟨_, rfl⟩
  have hxf : (∀ j, S.K.has j → j ≠ x) ∧ (∀ j, RBlk S.r S.vh S.vr S.vs S.va j → j ≠ x) := ⟨fun j hj e => by have := h.sd.ses.lt j hj; omega, fun j hj e => by have := h.sd.ref.inn.blt j hj; omega⟩
  rw [hx] at o0 ⊢
  have H := Lib.hid (h.below hb0)
  have HB := Lib.hid hb0
  have q0 : w0.cell? ⟨x, 0, none⟩ = some (.int .i64 3) := (cell_of_row _ _ 0 _ _ _ o0).trans rfl
  have HO := Lib.hid (And.intro (Array.getElem?_eq_some_iff.1 o0).1 hxf)
  have HQ : Hid (∀ W' : World, W'.heap[x]? = w0.heap[x]? → W'.cell? ⟨x, 0, none⟩ = some (.int .i64 3) ∧ W'.cell? ⟨x, 1, none⟩ = some (.int .i64 A) ∧ W'.cell? ⟨x, 2, none⟩ = some (.int .i64 A2) ∧ W'.cell? ⟨x, 3, none⟩ = some (.int .i64 A3) ∧ W'.cell? ⟨x, 4, none⟩ = some (.int .i64 A4) ∧ W'.cell? ⟨x, 5, none⟩ = some (.int .i64 A5) ∧ W'.cell? ⟨x, 6, none⟩ = some (.string tag) ∧ W'.cell? ⟨x, 7, none⟩ = some (.bool flag)) := Lib.hid (fun W' e => by
    have o := e.trans o0
    exact ⟨(cell_of_row _ _ 0 _ _ _ o).trans rfl, (cell_of_row _ _ 1 _ _ _ o).trans rfl, (cell_of_row _ _ 2 _ _ _ o).trans rfl, (cell_of_row _ _ 3 _ _ _ o).trans rfl, (cell_of_row _ _ 4 _ _ _ o).trans rfl, (cell_of_row _ _ 5 _ _ _ o).trans rfl, (cell_of_row _ _ 6 _ _ _ o).trans rfl, (cell_of_row _ _ 7 _ _ _ o).trans rfl⟩)
  have HI := Lib.hid (And.intro hi (And.intro hA (And.intro hA2 (And.intro hA3 (And.intro hA4 hA5)))))
  clear h hb0 o0 hx hxf hi hA hA2 hA3 hA4 hA5
  obtain ⟨n, s', rs', hp⟩ := pair_sent (i := i) H.out.sd
  have HP := Lib.hid hp
  clear hp
  go_wp2_with fail
  refine HP.out.p.mono ?_
  rintro e w1 ⟨rfl, h1, h2⟩
  have H1 := Lib.hid (And.intro h1 h2)
  clear h1 h2
  go_wp2_with fail
  refine (HP.out.r _ (H.out.sd.ref1 hab H1.out.2)).mono ?_
  rintro e w2 ⟨rfl, h3⟩
  have H3 := Lib.hid h3
  clear h3
  go_wp2_with fail
  go_ret
  exact ⟨rfl, StepTo.behind HB.out (PW.both H.out hab hac hbc H1.out.1 H1.out.2 H3.out HP.out.good)⟩

set_option maxRecDepth 20000 in
set_option maxHeartbeats 8000000 in
theorem win_step_got (W : World) (own : Nat → Nat) (a b c i : Nat) (S : Sd) (X : Bk) (h : PW W own a b c i S X) (hab : a ≠ b) (hac : c ≠ a) (hbc : c ≠ b) (hi : i ≤ 2000000) (A A2 A3 A4 A5 : Int) (tag : ByteArray) (flag : Bool) (hA : IsI64 A) (hA2 : IsI64 A2) (hA3 : IsI64 A3) (hA4 : IsI64 A4) (hA5 : IsI64 A5) :
    Calls Try.prog 53 #[.pointer (some ⟨S.K.b, 0, none⟩), .pointer (some ⟨S.r, 0, none⟩), .agg #[.int .i64 4, .int .i64 A, .int .i64 A2, .int .i64 A3, .int .i64 A4, .int .i64 A5, .string tag, .bool flag]] W fun e w' => e = .returned (.bool true) ∧ StepTo W w' own a b c i S X := by
  go_enter Try.func53, Try.ntmps53
  go_upto_region 1 with fail
  have hb0 : Below W.heap.size W (W.alloc (.cells #[.int .i64 4, .int .i64 A, .int .i64 A2, .int .i64 A3, .int .i64 A4, .int .i64 A5, .string tag, .bool flag] 24)) := (Below.refl _ _).alloc (Nat.le_refl _) _
  have o0 : (W.alloc (.cells #[.int .i64 4, .int .i64 A, .int .i64 A2, .int .i64 A3, .int .i64 A4, .int .i64 A5, .string tag, .bool flag] 24)).heap[W.heap.size]? = some (.cells #[.int .i64 4, .int .i64 A, .int .i64 A2, .int .i64 A3, .int .i64 A4, .int .i64 A5, .string tag, .bool flag] 24 (0, 0)) := _root_.Go.heap_alloc_new _ _
  generalize (W.alloc (.cells #[.int .i64 4, .int .i64 A, .int .i64 A2, .int .i64 A3, .int .i64 A4, .int .i64 A5, .string tag, .bool flag] 24)) = w0 at *
  obtain ⟨x, hx⟩ : ∃ x, W.heap.size = x := ⟨_, rfl⟩
  have hxf : (∀ j, S.K.has j → j ≠ x) ∧ (∀ j, RBlk S.r S.vh S.vr S.vs S.va j → j ≠ x) := ⟨fun j hj e => by have := h.sd.ses.lt j hj; omega, fun j hj e => by have := h.sd.ref.inn.blt j hj; omega⟩
  rw [hx] at o0 ⊢
  have H := Lib.hid (h.below hb0)
  have HB := Lib.hid hb0
  have q0 : w0.cell? ⟨x, 0, none⟩ = some (.int .i64 4) := (cell_of_row _ _ 0 _ _ _ o0).trans rfl
  have HO := Lib.hid (And.intro (Array.getElem?_eq_some_iff.1 o0).1 hxf)
  have HQ : Hid (∀ W' : World, W'.heap[x]? = w0.heap[x]? → W'.cell? ⟨x, 0, none⟩ = some (.int .i64 4) ∧ W'.cell? ⟨x, 1, none⟩ = some (.int .i64 A) ∧ W'.cell? ⟨x, 2, none⟩ = some (.int .i64 A2) ∧ W'.cell? ⟨x, 3, none⟩ = some (.int .i64 A3) ∧ W'.cell? ⟨x, 4, none⟩ = some (.int .i64 A4) ∧ W'.cell? ⟨x, 5, none⟩ = some (.int .i64 A5) ∧ W'.cell? ⟨x, 6, none⟩ = some (.string tag) ∧ W'.cell? ⟨x, 7, none⟩ = some (.bool flag)) := Lib.hid (fun W' e => by
    have o := e.trans o0
    exact ⟨(cell_of_row _ _ 0 _ _ _ o).trans rfl, (cell_of_row _ _ 1 _ _ _ o).trans rfl, (cell_of_row _ _ 2 _ _ _ o).trans rfl, (cell_of_row _ _ 3 _ _ _ o).trans rfl, (cell_of_row _ _ 4 _ _ _ o).trans rfl, (cell_of_row _ _ 5 _ _ _ o).trans rfl, (cell_of_row _ _ 6 _ _ _ o).trans rfl, (cell_of_row _ _ 7 _ _ _ o).trans rfl⟩)
  have HI := Lib.hid (And.intro hi (And.intro hA (And.intro hA2 (And.intro hA3 (And.intro hA4 hA5)))))
  clear h hb0 o0 hx hxf hi hA hA2 hA3 hA4 hA5
  obtain ⟨n, s', rs', hp⟩ := pair_got (i := i) H.out.sd
  have HP := Lib.hid hp
  clear hp
  go_wp2_with fail
  refine HP.out.p.mono ?_
  rintro e w1 ⟨rfl, h1, h2⟩
  have H1 := Lib.hid (And.intro h1 h2)
  clear h1 h2
  go_wp2_with fail
  refine (HP.out.r _ (H.out.sd.ref1 hab H1.out.2)).mono ?_
  rintro e w2 ⟨rfl, h3⟩
  have H3 := Lib.hid h3
  clear h3
  go_wp2_with fail
  go_ret
  exact ⟨rfl, StepTo.behind HB.out (PW.both H.out hab hac hbc H1.out.1 H1.out.2 H3.out HP.out.good)⟩

set_option maxRecDepth 20000 in
set_option maxHeartbeats 8000000 in
theorem win_step_room (W : World) (own : Nat → Nat) (a b c i : Nat) (S : Sd) (X : Bk) (h : PW W own a b c i S X) (hab : a ≠ b) (hac : c ≠ a) (hbc : c ≠ b) (hi : i ≤ 2000000) (A A2 A3 A4 A5 : Int) (tag : ByteArray) (flag : Bool) (hA : IsI64 A) (hA2 : IsI64 A2) (hA3 : IsI64 A3) (hA4 : IsI64 A4) (hA5 : IsI64 A5) :
    Calls Try.prog 53 #[.pointer (some ⟨S.K.b, 0, none⟩), .pointer (some ⟨S.r, 0, none⟩), .agg #[.int .i64 2, .int .i64 A, .int .i64 A2, .int .i64 A3, .int .i64 A4, .int .i64 A5, .string tag, .bool flag]] W fun e w' => e = .returned (.bool true) ∧ StepTo W w' own a b c i S X := by
  go_enter Try.func53, Try.ntmps53
  go_upto_region 1 with fail
  have hb0 : Below W.heap.size W (W.alloc (.cells #[.int .i64 2, .int .i64 A, .int .i64 A2, .int .i64 A3, .int .i64 A4, .int .i64 A5, .string tag, .bool flag] 24)) := (Below.refl _ _).alloc (Nat.le_refl _) _
  have o0 : (W.alloc (.cells #[.int .i64 2, .int .i64 A, .int .i64 A2, .int .i64 A3, .int .i64 A4, .int .i64 A5, .string tag, .bool flag] 24)).heap[W.heap.size]? = some (.cells #[.int .i64 2, .int .i64 A, .int .i64 A2, .int .i64 A3, .int .i64 A4, .int .i64 A5, .string tag, .bool flag] 24 (0, 0)) := _root_.Go.heap_alloc_new _ _
  generalize (W.alloc (.cells #[.int .i64 2, .int .i64 A, .int .i64 A2, .int .i64 A3, .int .i64 A4, .int .i64 A5, .string tag, .bool flag] 24)) = w0 at *
  obtain ⟨x, hx⟩ : ∃ x, W.heap.size = x := ⟨_, rfl⟩
  have hxf : (∀ j, S.K.has j → j ≠ x) ∧ (∀ j, RBlk S.r S.vh S.vr S.vs S.va j → j ≠ x) := ⟨fun j hj e => by have := h.sd.ses.lt j hj; omega, fun j hj e => by have := h.sd.ref.inn.blt j hj; omega⟩
  rw [hx] at o0 ⊢
  have H := Lib.hid (h.below hb0)
  have HB := Lib.hid hb0
  have q0 : w0.cell? ⟨x, 0, none⟩ = some (.int .i64 2) := (cell_of_row _ _ 0 _ _ _ o0).trans rfl
  have HO := Lib.hid (And.intro (Array.getElem?_eq_some_iff.1 o0).1 hxf)
  have HQ : Hid (∀ W' : World, W'.heap[x]? = w0.heap[x]? → W'.cell? ⟨x, 0, none⟩ = some (.int .i64 2) ∧ W'.cell? ⟨x, 1, none⟩ = some (.int .i64 A) ∧ W'.cell? ⟨x, 2, none⟩ = some (.int .i64 A2) ∧ W'.cell? ⟨x, 3, none⟩ = some (.int .i64 A3) ∧ W'.cell? ⟨x, 4, none⟩ = some (.int .i64 A4) ∧ W'.cell? ⟨x, 5, none⟩ = some (.int .i64 A5) ∧ W'.cell? ⟨x, 6, none⟩ = some (.string tag) ∧ W'.cell? ⟨x, 7, none⟩ = some (.bool flag)) := Lib.hid (fun W' e => by
    have o := e.trans o0
    exact ⟨(cell_of_row _ _ 0 _ _ _ o).trans rfl, (cell_of_row _ _ 1 _ _ _ o).trans rfl, (cell_of_row _ _ 2 _ _ _ o).trans rfl, (cell_of_row _ _ 3 _ _ _ o).trans rfl, (cell_of_row _ _ 4 _ _ _ o).trans rfl, (cell_of_row _ _ 5 _ _ _ o).trans rfl, (cell_of_row _ _ 6 _ _ _ o).trans rfl, (cell_of_row _ _ 7 _ _ _ o).trans rfl⟩)
  have HI := Lib.hid (And.intro hi (And.intro hA (And.intro hA2 (And.intro hA3 (And.intro hA4 hA5)))))
  clear h hb0 o0 hx hxf hi hA hA2 hA3 hA4 hA5
  have h1 := room_any w0 S.K S.s H.out.sd.ses
  go_wp2_with fail
  refine h1.mono ?_
  clear h1
  rintro e w1 ⟨rfl, hb1⟩
  have H1 := Lib.hid hb1
  have h2 := rroom_any w1 S.r S.B S.s _ S.rs S.vh S.vr S.vs S.va (H.out.below hb1).sd.ref.inn
  clear hb1
  go_wp2_with fail
  refine h2.mono ?_
  clear h2
  rintro e w2 ⟨rfl, hb2⟩
  have H2 := Lib.hid (H1.out.trans (hb2.mono H1.out.size))
  clear hb2
  go_wp2_with fail
  go_ret
  exact ⟨rfl, StepTo.behind HB.out (StepTo.same H.out H2.out)⟩

set_option maxRecDepth 20000 in
set_option maxHeartbeats 8000000 in
theorem win_step_state (W : World) (own : Nat → Nat) (a b c i : Nat) (S : Sd) (X : Bk) (h : PW W own a b c i S X) (hab : a ≠ b) (hac : c ≠ a) (hbc : c ≠ b) (hi : i ≤ 2000000) (A A2 A3 A4 A5 : Int) (tag : ByteArray) (flag : Bool) (hA : IsI64 A) (hA2 : IsI64 A2) (hA3 : IsI64 A3) (hA4 : IsI64 A4) (hA5 : IsI64 A5) :
    Calls Try.prog 53 #[.pointer (some ⟨S.K.b, 0, none⟩), .pointer (some ⟨S.r, 0, none⟩), .agg #[.int .i64 16, .int .i64 A, .int .i64 A2, .int .i64 A3, .int .i64 A4, .int .i64 A5, .string tag, .bool flag]] W fun e w' => e = .returned (.bool true) ∧ StepTo W w' own a b c i S X := by
  go_enter Try.func53, Try.ntmps53
  go_upto_region 1 with fail
  have hb0 : Below W.heap.size W (W.alloc (.cells #[.int .i64 16, .int .i64 A, .int .i64 A2, .int .i64 A3, .int .i64 A4, .int .i64 A5, .string tag, .bool flag] 24)) := (Below.refl _ _).alloc (Nat.le_refl _) _
  have o0 : (W.alloc (.cells #[.int .i64 16, .int .i64 A, .int .i64 A2, .int .i64 A3, .int .i64 A4, .int .i64 A5, .string tag, .bool flag] 24)).heap[W.heap.size]? = some (.cells #[.int .i64 16, .int .i64 A, .int .i64 A2, .int .i64 A3, .int .i64 A4, .int .i64 A5, .string tag, .bool flag] 24 (0, 0)) := _root_.Go.heap_alloc_new _ _
  generalize (W.alloc (.cells #[.int .i64 16, .int .i64 A, .int .i64 A2, .int .i64 A3, .int .i64 A4, .int .i64 A5, .string tag, .bool flag] 24)) = w0 at *
  obtain ⟨x, hx⟩ : ∃ x, W.heap.size = x := ⟨_, rfl⟩
  have hxf : (∀ j, S.K.has j → j ≠ x) ∧ (∀ j, RBlk S.r S.vh S.vr S.vs S.va j → j ≠ x) := ⟨fun j hj e => by have := h.sd.ses.lt j hj; omega, fun j hj e => by have := h.sd.ref.inn.blt j hj; omega⟩
  rw [hx] at o0 ⊢
  have H := Lib.hid (h.below hb0)
  have HB := Lib.hid hb0
  have q0 : w0.cell? ⟨x, 0, none⟩ = some (.int .i64 16) := (cell_of_row _ _ 0 _ _ _ o0).trans rfl
  have HO := Lib.hid (And.intro (Array.getElem?_eq_some_iff.1 o0).1 hxf)
  have HQ : Hid (∀ W' : World, W'.heap[x]? = w0.heap[x]? → W'.cell? ⟨x, 0, none⟩ = some (.int .i64 16) ∧ W'.cell? ⟨x, 1, none⟩ = some (.int .i64 A) ∧ W'.cell? ⟨x, 2, none⟩ = some (.int .i64 A2) ∧ W'.cell? ⟨x, 3, none⟩ = some (.int .i64 A3) ∧ W'.cell? ⟨x, 4, none⟩ = some (.int .i64 A4) ∧ W'.cell? ⟨x, 5, none⟩ = some (.int .i64 A5) ∧ W'.cell? ⟨x, 6, none⟩ = some (.string tag) ∧ W'.cell? ⟨x, 7, none⟩ = some (.bool flag)) := Lib.hid (fun W' e => by
    have o := e.trans o0
    exact ⟨(cell_of_row _ _ 0 _ _ _ o).trans rfl, (cell_of_row _ _ 1 _ _ _ o).trans rfl, (cell_of_row _ _ 2 _ _ _ o).trans rfl, (cell_of_row _ _ 3 _ _ _ o).trans rfl, (cell_of_row _ _ 4 _ _ _ o).trans rfl, (cell_of_row _ _ 5 _ _ _ o).trans rfl, (cell_of_row _ _ 6 _ _ _ o).trans rfl, (cell_of_row _ _ 7 _ _ _ o).trans rfl⟩)
  have HI := Lib.hid (And.intro hi (And.intro hA (And.intro hA2 (And.intro hA3 (And.intro hA4 hA5)))))
  clear h hb0 o0 hx hxf hi hA hA2 hA3 hA4 hA5
  have h1 := sameState_any w0 S.K S.s S.r S.B _ S.rs S.vh S.vr S.vs S.va H.out.sd.ses H.out.sd.ref.inn
  go_wp2_with fail
  refine h1.mono ?_
  clear h1
  rintro e w1 ⟨rfl, hb1⟩
  have H1 := Lib.hid hb1
  clear hb1
  go_wp2_with fail
  go_ret
  exact ⟨rfl, StepTo.behind HB.out (StepTo.same H.out H1.out)⟩

set_option maxRecDepth 20000 in
set_option maxHeartbeats 8000000 in
theorem win_step_peer (W : World) (own : Nat → Nat) (a b c i : Nat) (S : Sd) (X : Bk) (h : PW W own a b c i S X) (hab : a ≠ b) (hac : c ≠ a) (hbc : c ≠ b) (hi : i ≤ 2000000) (A A2 A3 A4 A5 : Int) (tag : ByteArray) (flag : Bool) (hA : IsI64 A) (hA2 : IsI64 A2) (hA3 : IsI64 A3) (hA4 : IsI64 A4) (hA5 : IsI64 A5) :
    Calls Try.prog 53 #[.pointer (some ⟨S.K.b, 0, none⟩), .pointer (some ⟨S.r, 0, none⟩), .agg #[.int .i64 1, .int .i64 A, .int .i64 A2, .int .i64 A3, .int .i64 A4, .int .i64 A5, .string tag, .bool flag]] W fun e w' => e = .returned (.bool true) ∧ StepTo W w' own a b c i S X := by
  go_enter Try.func53, Try.ntmps53
  go_upto_region 1 with fail
  have hb0 : Below W.heap.size W (W.alloc (.cells #[.int .i64 1, .int .i64 A, .int .i64 A2, .int .i64 A3, .int .i64 A4, .int .i64 A5, .string tag, .bool flag] 24)) := (Below.refl _ _).alloc (Nat.le_refl _) _
  have o0 : (W.alloc (.cells #[.int .i64 1, .int .i64 A, .int .i64 A2, .int .i64 A3, .int .i64 A4, .int .i64 A5, .string tag, .bool flag] 24)).heap[W.heap.size]? = some (.cells #[.int .i64 1, .int .i64 A, .int .i64 A2, .int .i64 A3, .int .i64 A4, .int .i64 A5, .string tag, .bool flag] 24 (0, 0)) := _root_.Go.heap_alloc_new _ _
  generalize (W.alloc (.cells #[.int .i64 1, .int .i64 A, .int .i64 A2, .int .i64 A3, .int .i64 A4, .int .i64 A5, .string tag, .bool flag] 24)) = w0 at *
  obtain ⟨x, hx⟩ : ∃ x, W.heap.size = x := ⟨_, rfl⟩
  have hxf : (∀ j, S.K.has j → j ≠ x) ∧ (∀ j, RBlk S.r S.vh S.vr S.vs S.va j → j ≠ x) := ⟨fun j hj e => by have := h.sd.ses.lt j hj; omega, fun j hj e => by have := h.sd.ref.inn.blt j hj; omega⟩
  rw [hx] at o0 ⊢
  have H := Lib.hid (h.below hb0)
  have HB := Lib.hid hb0
  have q0 : w0.cell? ⟨x, 0, none⟩ = some (.int .i64 1) := (cell_of_row _ _ 0 _ _ _ o0).trans rfl
  have HO := Lib.hid (And.intro (Array.getElem?_eq_some_iff.1 o0).1 hxf)
  have HQ : Hid (∀ W' : World, W'.heap[x]? = w0.heap[x]? → W'.cell? ⟨x, 0, none⟩ = some (.int .i64 1) ∧ W'.cell? ⟨x, 1, none⟩ = some (.int .i64 A) ∧ W'.cell? ⟨x, 2, none⟩ = some (.int .i64 A2) ∧ W'.cell? ⟨x, 3, none⟩ = some (.int .i64 A3) ∧ W'.cell? ⟨x, 4, none⟩ = some (.int .i64 A4) ∧ W'.cell? ⟨x, 5, none⟩ = some (.int .i64 A5) ∧ W'.cell? ⟨x, 6, none⟩ = some (.string tag) ∧ W'.cell? ⟨x, 7, none⟩ = some (.bool flag)) := Lib.hid (fun W' e => by
    have o := e.trans o0
    exact ⟨(cell_of_row _ _ 0 _ _ _ o).trans rfl, (cell_of_row _ _ 1 _ _ _ o).trans rfl, (cell_of_row _ _ 2 _ _ _ o).trans rfl, (cell_of_row _ _ 3 _ _ _ o).trans rfl, (cell_of_row _ _ 4 _ _ _ o).trans rfl, (cell_of_row _ _ 5 _ _ _ o).trans rfl, (cell_of_row _ _ 6 _ _ _ o).trans rfl, (cell_of_row _ _ 7 _ _ _ o).trans rfl⟩)
  have HI := Lib.hid (And.intro hi (And.intro hA (And.intro hA2 (And.intro hA3 (And.intro hA4 hA5)))))
  clear h hb0 o0 hx hxf hi hA hA2 hA3 hA4 hA5
  obtain ⟨p0, q1, q2, q3, q4, q5, q6, q7⟩ := HQ.out w0 rfl
  clear p0
  have hbg := begin_any w0 1 A A2 A3 A4 A5 tag flag
  obtain ⟨C, hC⟩ : ∃ C, beginC A A2 A3 A4 A5 = C := ⟨_, rfl⟩
  have hz : C.size = 128 := by rw [← hC]; exact perf_size ..
  have HC := Lib.hid (And.intro hC hz)
  rw [hC] at hbg
  clear hC hz
  go_wp2_with fail
  refine hbg.mono ?_
  clear hbg q0 q1 q2 q3 q4 q5 q6 q7
  rintro en w3 ⟨rfl, hb3⟩
  have H3 := Lib.hid hb3
  have hsz := HC.out.2
  have HSZ : Hid (some 128 = some C.size) := Lib.hid (by rw [hsz])
  clear hb3 hsz
  go_upto_region 4 with (refine wpList_store_rowTo rfl 39 (.tmp 7) (.tmp 16) rfl rfl w3.heap.size C rfl rfl 39 perfZ (_root_.Go.heap_alloc_new w3 _) (by rw [HC.out.2]; as_aux_lemma => kernel_rfl) (by rw [HC.out.2]; as_aux_lemma => kernel_rfl) (by rw [← HC.out.1]; as_aux_lemma => kernel_rfl) ?_)
  have hb4 : Below w3.heap.size w3 ((w3.alloc (.cells perfZ 39)).setRow w3.heap.size C) := below_setRow ((Below.refl _ _).alloc (Nat.le_refl _) _) (Nat.le_refl _) _
  have h4 := setRow_heap (w3.alloc (.cells perfZ 39)) w3.heap.size _ C _ _ (_root_.Go.heap_alloc_new w3 _)
  change Code.wp _ _ _ _ ((w3.alloc (.cells perfZ 39)).setRow w3.heap.size C)
  generalize ((w3.alloc (.cells perfZ 39)).setRow w3.heap.size C) = w4 at *
  have H4 := Lib.hid (H.out.below (H3.out.trans (hb4.mono H3.out.size)))
  have HB4 := Lib.hid (HB.out.trans ((H3.out.trans (hb4.mono H3.out.size)).mono HB.out.size))
  have hy4 : (∀ j, S.K.has j → j ≠ w3.heap.size) ∧ (∀ j, RBlk S.r S.vh S.vr S.vs S.va j → j ≠ w3.heap.size) := ⟨fun j hj e => by have := (H.out.below H3.out).sd.ses.lt j hj; omega, fun j hj e => by have := (H.out.below H3.out).sd.ref.inn.blt j hj; omega⟩
  obtain ⟨y, hy⟩ : ∃ y, w3.heap.size = y := ⟨_, rfl⟩
  rw [hy] at h4 hy4 ⊢
  obtain ⟨n, s', rs', hp⟩ := pair_peer (W := w4.drew) (i := i) (H4.out.sd.below below_of_drew) (if A5 = 0 then 17 else A5) A5 0 A2 A A3 A4 0 0 0 0 false
  have hp : Pair S i w4.drew 18 70 #[.pointer (some ⟨S.K.b, 0, none⟩), .agg C] #[.pointer (some ⟨S.r, 0, none⟩), .agg C] (.int .i64 n) s' rs' := by rw [← HC.out.1]; exact hp
  have HP := Lib.hid hp
  have HY := Lib.hid (And.intro hy4 (And.intro (Array.getElem?_eq_some_iff.1 h4).1 h4))
  clear hb4 hy hy4 hp
  refine wp_region_heldN (fun w' => w'.heap[y]? = some (.cells C 39 (0, 0))) 8 rfl (by kernel_rfl) ?_
  have hS : w4.drew.heap[y]? = some (.cells C 39 (0, 0)) := h4
  refine takeD (i := 0) (v := .pointer (some ⟨S.K.b, 0, none⟩)) (some 17) rfl rfl (by kernel_rfl) (by kernel_rfl) (by kernel_rfl) (fun _ _ _ h => h) (Or.inl ⟨by rfl, by intro V hV; clear hV; go_simp⟩) hS ?_
  simp only [Act.put, List.setIfInBounds_toArray, List.set_cons_zero, List.set_cons_succ]
  refine takeD (i := 1) (v := .agg C) (some 18) rfl rfl (by kernel_rfl) (by kernel_rfl) (by kernel_rfl) (fun _ _ _ h => h) (yieldsIf_load_row 39 (.tmp 7) rfl (by rfl) y rfl 39 C (0, 0) _ (fun V hV => hV) Try.underlying39 rfl (by rw [HC.out.2]; as_aux_lemma => kernel_rfl)) hS ?_
  simp only [Act.put, List.setIfInBounds_toArray, List.set_cons_zero, List.set_cons_succ]
  refine takeD (i := 3) (v := .pointer (some ⟨S.r, 0, none⟩)) (some 20) rfl rfl (by kernel_rfl) (by kernel_rfl) (by kernel_rfl) (fun _ _ _ h => h) (Or.inl ⟨by rfl, by intro V hV; clear hV; go_simp⟩) hS ?_
  simp only [Act.put, List.setIfInBounds_toArray, List.set_cons_zero, List.set_cons_succ]
  refine takeD (i := 4) (v := .agg C) (some 21) rfl rfl (by kernel_rfl) (by kernel_rfl) (by kernel_rfl) (fun _ _ _ h => h) (yieldsIf_load_row 39 (.tmp 7) rfl (by rfl) y rfl 39 C (0, 0) _ (fun V hV => hV) Try.underlying39 rfl (by rw [HC.out.2]; as_aux_lemma => kernel_rfl)) hS ?_
  simp only [Act.put, List.setIfInBounds_toArray, List.set_cons_zero, List.set_cons_succ]
  refine wpAnyH_all (rs := [2]) (by kernel_rfl) (by simp) ?_
  intro ii hii
  obtain rfl := List.mem_singleton.1 hii
  refine stepD (i := 2) rfl (by rfl) (fun K5 h5 => ?_)
  clear hS h4
  go_simp
  refine HP.out.p.mono ?_
  rintro e w1 ⟨rfl, h1, h2⟩
  have hS : w1.heap[y]? = some (.cells C 39 (0, 0)) := (h2.block y HY.out.2.1 (fun q => HY.out.1.1 y q rfl)).trans HY.out.2.2
  have H1 := Lib.hid (And.intro h1 h2)
  clear h1 h2
  refine h5.out _ _ hS ?_
  clear h5
  try simp only [Act.put, List.setIfInBounds_toArray, List.set_cons_zero, List.set_cons_succ]
  refine wpAnyH_all (rs := [5]) (by kernel_rfl) (by simp) ?_
  intro ii hii
  obtain rfl := List.mem_singleton.1 hii
  refine stepD (i := 5) rfl (by rfl) (fun K5 h5 => ?_)
  have HS := Lib.hid hS
  clear hS
  go_simp
  refine (HP.out.r _ (H4.out.sd.ref1 hab (SMv.trans (SMv.of_below below_of_drew) H1.out.2))).mono ?_
  rintro e w2 ⟨rfl, h3⟩
  have hS : w2.heap[y]? = some (.cells C 39 (0, 0)) := by
    obtain ⟨_, _, _, _, _, _, m3⟩ := id h3
    exact (m3.block y (Nat.lt_of_lt_of_le HY.out.2.1 H1.out.2.size) (fun q => HY.out.1.2 y q rfl)).trans HS.out
  have H5 := Lib.hid h3
  clear h3
  refine h5.out _ _ hS ?_
  clear h5
  try simp only [Act.put, List.setIfInBounds_toArray, List.set_cons_zero, List.set_cons_succ]
  refine takeD (i := 6) (v := .bool true) (some 23) rfl rfl (by kernel_rfl) (by kernel_rfl) (by kernel_rfl) (fun _ _ _ h => h) (Or.inl ⟨by rfl, by intro V hV; clear hV; go_simp⟩) hS ?_
  simp only [Act.put, List.setIfInBounds_toArray, List.set_cons_zero, List.set_cons_succ]
  refine wpAnyH_all (rs := [7]) (by kernel_rfl) (by simp) ?_
  intro ii hii
  obtain rfl := List.mem_singleton.1 hii
  refine stepD (i := 7) rfl (by rfl) (fun K5 h5 => ?_)
  have HS := Lib.hid hS
  clear hS
  go_simp
  refine h5.out _ _ HS.out ?_
  clear h5
  refine wpAnyH_done (by kernel_rfl) ?_ _
  go_wp2_with fail
  go_ret
  exact ⟨rfl, StepTo.behind HB4.out (PW.both H4.out hab hac hbc H1.out.1 (SMv.trans (SMv.of_below below_of_drew) H1.out.2) H5.out HP.out.good)⟩

set_option maxRecDepth 20000 in
set_option maxHeartbeats 8000000 in
theorem win_step_flow (W : World) (own : Nat → Nat) (a b c i : Nat) (S : Sd) (X : Bk) (h : PW W own a b c i S X) (hab : a ≠ b) (hac : c ≠ a) (hbc : c ≠ b) (hi : i ≤ 2000000) (A A2 A3 A4 A5 : Int) (tag : ByteArray) (flag : Bool) (hA : IsI64 A) (hA2 : IsI64 A2) (hA3 : IsI64 A3) (hA4 : IsI64 A4) (hA5 : IsI64 A5) :
    Calls Try.prog 53 #[.pointer (some ⟨S.K.b, 0, none⟩), .pointer (some ⟨S.r, 0, none⟩), .agg #[.int .i64 5, .int .i64 A, .int .i64 A2, .int .i64 A3, .int .i64 A4, .int .i64 A5, .string tag, .bool flag]] W fun e w' => e = .returned (.bool true) ∧ StepTo W w' own a b c i S X := by
  go_enter Try.func53, Try.ntmps53
  go_upto_region 1 with fail
  have hb0 : Below W.heap.size W (W.alloc (.cells #[.int .i64 5, .int .i64 A, .int .i64 A2, .int .i64 A3, .int .i64 A4, .int .i64 A5, .string tag, .bool flag] 24)) := (Below.refl _ _).alloc (Nat.le_refl _) _
  have o0 : (W.alloc (.cells #[.int .i64 5, .int .i64 A, .int .i64 A2, .int .i64 A3, .int .i64 A4, .int .i64 A5, .string tag, .bool flag] 24)).heap[W.heap.size]? = some (.cells #[.int .i64 5, .int .i64 A, .int .i64 A2, .int .i64 A3, .int .i64 A4, .int .i64 A5, .string tag, .bool flag] 24 (0, 0)) := _root_.Go.heap_alloc_new _ _
  generalize (W.alloc (.cells #[.int .i64 5, .int .i64 A, .int .i64 A2, .int .i64 A3, .int .i64 A4, .int .i64 A5, .string tag, .bool flag] 24)) = w0 at *
  obtain ⟨x, hx⟩ : ∃ x, W.heap.size = x := ⟨_, rfl⟩
  have hxf : (∀ j, S.K.has j → j ≠ x) ∧ (∀ j, RBlk S.r S.vh S.vr S.vs S.va j → j ≠ x) := ⟨fun j hj e => by have := h.sd.ses.lt j hj; omega, fun j hj e => by have := h.sd.ref.inn.blt j hj; omega⟩
  rw [hx] at o0 ⊢
  have H := Lib.hid (h.below hb0)
  have HB := Lib.hid hb0
  have q0 : w0.cell? ⟨x, 0, none⟩ = some (.int .i64 5) := (cell_of_row _ _ 0 _ _ _ o0).trans rfl
  have HO := Lib.hid (And.intro (Array.getElem?_eq_some_iff.1 o0).1 hxf)
  have HQ : Hid (∀ W' : World, W'.heap[x]? = w0.heap[x]? → W'.cell? ⟨x, 0, none⟩ = some (.int .i64 5) ∧ W'.cell? ⟨x, 1, none⟩ = some (.int .i64 A) ∧ W'.cell? ⟨x, 2, none⟩ = some (.int .i64 A2) ∧ W'.cell? ⟨x, 3, none⟩ = some (.int .i64 A3) ∧ W'.cell? ⟨x, 4, none⟩ = some (.int .i64 A4) ∧ W'.cell? ⟨x, 5, none⟩ = some (.int .i64 A5) ∧ W'.cell? ⟨x, 6, none⟩ = some (.string tag) ∧ W'.cell? ⟨x, 7, none⟩ = some (.bool flag)) := Lib.hid (fun W' e => by
    have o := e.trans o0
    exact ⟨(cell_of_row _ _ 0 _ _ _ o).trans rfl, (cell_of_row _ _ 1 _ _ _ o).trans rfl, (cell_of_row _ _ 2 _ _ _ o).trans rfl, (cell_of_row _ _ 3 _ _ _ o).trans rfl, (cell_of_row _ _ 4 _ _ _ o).trans rfl, (cell_of_row _ _ 5 _ _ _ o).trans rfl, (cell_of_row _ _ 6 _ _ _ o).trans rfl, (cell_of_row _ _ 7 _ _ _ o).trans rfl⟩)
  have HI := Lib.hid (And.intro hi (And.intro hA (And.intro hA2 (And.intro hA3 (And.intro hA4 hA5)))))
  clear h hb0 o0 hx hxf hi hA hA2 hA3 hA4 hA5
  obtain ⟨p0, q1, q2, q3, q4, q5, q6, q7⟩ := HQ.out w0 rfl
  clear p0
  have hbg := flow13_any w0 5 A A2 A3 A4 A5 tag flag
  obtain ⟨C, hC⟩ : ∃ C, flowC A A2 A3 A4 A5 = C := ⟨_, rfl⟩
  have hz : C.size = 128 := by rw [← hC]; exact perf_size ..
  have HC := Lib.hid (And.intro hC hz)
  rw [hC] at hbg
  clear hC hz
  go_wp2_with fail
  refine hbg.mono ?_
  clear hbg q0 q1 q2 q3 q4 q5 q6 q7
  rintro en w3 ⟨rfl, hb3⟩
  have H3 := Lib.hid hb3
  have hsz := HC.out.2
  have HSZ : Hid (some 128 = some C.size) := Lib.hid (by rw [hsz])
  clear hb3 hsz
  go_upto_region 13 with (refine wpList_store_rowTo rfl 39 (.tmp 8) (.tmp 48) rfl rfl w3.heap.size C rfl rfl 39 perfZ (_root_.Go.heap_alloc_new w3 _) (by rw [HC.out.2]; as_aux_lemma => kernel_rfl) (by rw [HC.out.2]; as_aux_lemma => kernel_rfl) (by rw [← HC.out.1]; as_aux_lemma => kernel_rfl) ?_)
  have hb4 : Below w3.heap.size w3 ((w3.alloc (.cells perfZ 39)).setRow w3.heap.size C) := below_setRow ((Below.refl _ _).alloc (Nat.le_refl _) _) (Nat.le_refl _) _
  have h4 := setRow_heap (w3.alloc (.cells perfZ 39)) w3.heap.size _ C _ _ (_root_.Go.heap_alloc_new w3 _)
  change Code.wp _ _ _ _ ((w3.alloc (.cells perfZ 39)).setRow w3.heap.size C)
  generalize ((w3.alloc (.cells perfZ 39)).setRow w3.heap.size C) = w4 at *
  have H4 := Lib.hid (H.out.below (H3.out.trans (hb4.mono H3.out.size)))
  have HB4 := Lib.hid (HB.out.trans ((H3.out.trans (hb4.mono H3.out.size)).mono HB.out.size))
  have hy4 : (∀ j, S.K.has j → j ≠ w3.heap.size) ∧ (∀ j, RBlk S.r S.vh S.vr S.vs S.va j → j ≠ w3.heap.size) := ⟨fun j hj e => by have := (H.out.below H3.out).sd.ses.lt j hj; omega, fun j hj e => by have := (H.out.below H3.out).sd.ref.inn.blt j hj; omega⟩
  obtain ⟨y, hy⟩ : ∃ y, w3.heap.size = y := ⟨_, rfl⟩
  rw [hy] at h4 hy4 ⊢
  obtain ⟨n, s', rs', hp⟩ := pair_flow (W := w4.drew) (i := i) (H4.out.sd.below below_of_drew) (if A5 = 0 then 19 else A5) 0 A A2 A3 A4 0 A5 7 8 0 true
  have hp : Pair S i w4.drew 77 78 #[.pointer (some ⟨S.K.b, 0, none⟩), .agg C] #[.pointer (some ⟨S.r, 0, none⟩), .agg C] (.int .i64 n) s' rs' := by rw [← HC.out.1]; exact hp
  have HP := Lib.hid hp
  have HY := Lib.hid (And.intro hy4 (And.intro (Array.getElem?_eq_some_iff.1 h4).1 h4))
  clear hb4 hy hy4 hp
  refine wp_region_heldN (fun w' => w'.heap[y]? = some (.cells C 39 (0, 0))) 8 rfl (by kernel_rfl) ?_
  have hS : w4.drew.heap[y]? = some (.cells C 39 (0, 0)) := h4
  refine takeD (i := 0) (v := .pointer (some ⟨S.K.b, 0, none⟩)) (some 49) rfl rfl (by kernel_rfl) (by kernel_rfl) (by kernel_rfl) (fun _ _ _ h => h) (Or.inl ⟨by rfl, by intro V hV; clear hV; go_simp⟩) hS ?_
  simp only [Act.put, List.setIfInBounds_toArray, List.set_cons_zero, List.set_cons_succ]
  refine takeD (i := 1) (v := .agg C) (some 50) rfl rfl (by kernel_rfl) (by kernel_rfl) (by kernel_rfl) (fun _ _ _ h => h) (yieldsIf_load_row 39 (.tmp 8) rfl (by rfl) y rfl 39 C (0, 0) _ (fun V hV => hV) Try.underlying39 rfl (by rw [HC.out.2]; as_aux_lemma => kernel_rfl)) hS ?_
  simp only [Act.put, List.setIfInBounds_toArray, List.set_cons_zero, List.set_cons_succ]
  refine takeD (i := 3) (v := .pointer (some ⟨S.r, 0, none⟩)) (some 52) rfl rfl (by kernel_rfl) (by kernel_rfl) (by kernel_rfl) (fun _ _ _ h => h) (Or.inl ⟨by rfl, by intro V hV; clear hV; go_simp⟩) hS ?_
  simp only [Act.put, List.setIfInBounds_toArray, List.set_cons_zero, List.set_cons_succ]
  refine takeD (i := 4) (v := .agg C) (some 53) rfl rfl (by kernel_rfl) (by kernel_rfl) (by kernel_rfl) (fun _ _ _ h => h) (yieldsIf_load_row 39 (.tmp 8) rfl (by rfl) y rfl 39 C (0, 0) _ (fun V hV => hV) Try.underlying39 rfl (by rw [HC.out.2]; as_aux_lemma => kernel_rfl)) hS ?_
  simp only [Act.put, List.setIfInBounds_toArray, List.set_cons_zero, List.set_cons_succ]
  refine wpAnyH_all (rs := [2]) (by kernel_rfl) (by simp) ?_
  intro ii hii
  obtain rfl := List.mem_singleton.1 hii
  refine stepD (i := 2) rfl (by rfl) (fun K5 h5 => ?_)
  clear hS h4
  go_simp
  refine HP.out.p.mono ?_
  rintro e w1 ⟨rfl, h1, h2⟩
  have hS : w1.heap[y]? = some (.cells C 39 (0, 0)) := (h2.block y HY.out.2.1 (fun q => HY.out.1.1 y q rfl)).trans HY.out.2.2
  have H1 := Lib.hid (And.intro h1 h2)
  clear h1 h2
  refine h5.out _ _ hS ?_
  clear h5
  try simp only [Act.put, List.setIfInBounds_toArray, List.set_cons_zero, List.set_cons_succ]
  refine wpAnyH_all (rs := [5]) (by kernel_rfl) (by simp) ?_
  intro ii hii
  obtain rfl := List.mem_singleton.1 hii
  refine stepD (i := 5) rfl (by rfl) (fun K5 h5 => ?_)
  have HS := Lib.hid hS
  clear hS
  go_simp
  refine (HP.out.r _ (H4.out.sd.ref1 hab (SMv.trans (SMv.of_below below_of_drew) H1.out.2))).mono ?_
  rintro e w2 ⟨rfl, h3⟩
  have hS : w2.heap[y]? = some (.cells C 39 (0, 0)) := by
    obtain ⟨_, _, _, _, _, _, m3⟩ := id h3
    exact (m3.block y (Nat.lt_of_lt_of_le HY.out.2.1 H1.out.2.size) (fun q => HY.out.1.2 y q rfl)).trans HS.out
  have H5 := Lib.hid h3
  clear h3
  refine h5.out _ _ hS ?_
  clear h5
  try simp only [Act.put, List.setIfInBounds_toArray, List.set_cons_zero, List.set_cons_succ]
  refine takeD (i := 6) (v := .bool true) (some 55) rfl rfl (by kernel_rfl) (by kernel_rfl) (by kernel_rfl) (fun _ _ _ h => h) (Or.inl ⟨by rfl, by intro V hV; clear hV; go_simp⟩) hS ?_
  simp only [Act.put, List.setIfInBounds_toArray, List.set_cons_zero, List.set_cons_succ]
  refine wpAnyH_all (rs := [7]) (by kernel_rfl) (by simp) ?_
  intro ii hii
  obtain rfl := List.mem_singleton.1 hii
  refine stepD (i := 7) rfl (by rfl) (fun K5 h5 => ?_)
  have HS := Lib.hid hS
  clear hS
  go_simp
  refine h5.out _ _ HS.out ?_
  clear h5
  refine wpAnyH_done (by kernel_rfl) ?_ _
  go_wp2_with fail
  go_ret
  exact ⟨rfl, StepTo.behind HB4.out (PW.both H4.out hab hac hbc H1.out.1 (SMv.trans (SMv.of_below below_of_drew) H1.out.2) H5.out HP.out.good)⟩

end Go.Proofs.Ytbkimebmoafbnaa
