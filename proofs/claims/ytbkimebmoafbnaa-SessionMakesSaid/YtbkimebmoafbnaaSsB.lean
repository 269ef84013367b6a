/-
  A Begin of a step; SessionMakes' walk. No conditions.
-/
import Derived.Test.YtbkimebmoafbnaaSsX
import Derived.Test.YtbkimebmoafbnaaSsY
import Derived.Test.YtbkimebmoafbnaaSsL
namespace Go.Proofs.Ytbkimebmoafbnaa
open Go.RowKit Go.Maps
set_option linter.unusedVariables false

/-- the Begin of a step -/
def beginC (a b c d e : Int) : Array Value := perfC (if e = 0 then 17 else e) e 0 b a c d 0 0 0 0 false

set_option maxRecDepth 20000 in
set_option maxHeartbeats 8000000 in
theorem begin_any (w : World) (k a b c d e : Int) (tag : ByteArray) (flag : Bool) :
    Calls Try.prog 9 #[.agg #[.int .i64 k, .int .i64 a, .int .i64 b, .int .i64 c, .int .i64 d, .int .i64 e, .string tag, .bool flag]] w fun en w' => en = .returned (.agg (beginC a b c d e)) ∧ Below w.heap.size w w' := by
  go_enter Try.func9, Try.ntmps9
  go_upto_region 1 with fail
  change Code.wp _ _ _ _ ((w.alloc (.cells #[.int .i64 k, .int .i64 a, .int .i64 b, .int .i64 c, .int .i64 d, .int .i64 e, .string tag, .bool flag] 24)).alloc (.cells perfZ 39))
  have hb0 : Below w.heap.size w ((w.alloc (.cells #[.int .i64 k, .int .i64 a, .int .i64 b, .int .i64 c, .int .i64 d, .int .i64 e, .string tag, .bool flag] 24)).alloc (.cells perfZ 39)) := ((Below.refl _ _).alloc (Nat.le_refl _) _).alloc (by simp) _
  have o0 : ((w.alloc (.cells #[.int .i64 k, .int .i64 a, .int .i64 b, .int .i64 c, .int .i64 d, .int .i64 e, .string tag, .bool flag] 24)).alloc (.cells perfZ 39)).heap[w.heap.size]? = some (.cells #[.int .i64 k, .int .i64 a, .int .i64 b, .int .i64 c, .int .i64 d, .int .i64 e, .string tag, .bool flag] 24 (0, 0)) := heap_alloc2_old _ _ _
  have z0 : ((w.alloc (.cells #[.int .i64 k, .int .i64 a, .int .i64 b, .int .i64 c, .int .i64 d, .int .i64 e, .string tag, .bool flag] 24)).alloc (.cells perfZ 39)).heap[w.heap.size + 1]? = some (.cells perfZ 39 (0, 0)) := heap_alloc2_new _ _ _
  generalize ((w.alloc (.cells #[.int .i64 k, .int .i64 a, .int .i64 b, .int .i64 c, .int .i64 d, .int .i64 e, .string tag, .bool flag] 24)).alloc (.cells perfZ 39)) = w1 at *
  obtain ⟨x, hx⟩ : ∃ x, w.heap.size = x := ⟨_, rfl⟩
  have HX := Lib.hid hx
  rw [hx] at o0 z0 ⊢
  have q1 : w1.cell? ⟨x, 1, none⟩ = some (.int .i64 a) := (cell_of_row _ _ 1 _ _ _ o0).trans rfl
  have q2 : w1.cell? ⟨x, 2, none⟩ = some (.int .i64 b) := (cell_of_row _ _ 2 _ _ _ o0).trans rfl
  have q3 : w1.cell? ⟨x, 3, none⟩ = some (.int .i64 c) := (cell_of_row _ _ 3 _ _ _ o0).trans rfl
  have q4 : w1.cell? ⟨x, 4, none⟩ = some (.int .i64 d) := (cell_of_row _ _ 4 _ _ _ o0).trans rfl
  have q5 : w1.cell? ⟨x, 5, none⟩ = some (.int .i64 e) := (cell_of_row _ _ 5 _ _ _ o0).trans rfl
  have HB0 := Lib.hid hb0
  have HZ0 := Lib.hid (And.intro z0 o0)
  clear hb0 hx z0 o0
  go_upto_region 2 with (first
    | (refine wpList_buildTo rfl 39 _ rfl (some 14) rfl (perfC 17 e 0 b a c d 0 0 0 0 false) (by as_aux_lemma => kernel_rfl) ?_)
    | (refine wpList_store_rowTo rfl 39 (.tmp 3) (.tmp 14) rfl rfl w1.heap.size (perfC 17 e 0 b a c d 0 0 0 0 false) rfl rfl 39 perfZ (_root_.Go.heap_alloc_new w1 _) (by as_aux_lemma => kernel_rfl) (by as_aux_lemma => kernel_rfl) (by as_aux_lemma => kernel_rfl) ?_))
  have hb2 : Below w1.heap.size w1 ((w1.alloc (.cells perfZ 39)).setRow w1.heap.size (perfC 17 e 0 b a c d 0 0 0 0 false)) := below_setRow ((Below.refl _ _).alloc (Nat.le_refl _) _) (Nat.le_refl _) _
  have h2 := setRow_heap (w1.alloc (.cells perfZ 39)) w1.heap.size _ (perfC 17 e 0 b a c d 0 0 0 0 false) _ _ (_root_.Go.heap_alloc_new w1 _)
  change Code.wp _ _ _ _ ((w1.alloc (.cells perfZ 39)).setRow w1.heap.size (perfC 17 e 0 b a c d 0 0 0 0 false))
  generalize ((w1.alloc (.cells perfZ 39)).setRow w1.heap.size (perfC 17 e 0 b a c d 0 0 0 0 false)) = w2 at *
  have hx1 := (Array.getElem?_eq_some_iff.1 HZ0.out.2).1
  have hz1 := (Array.getElem?_eq_some_iff.1 HZ0.out.1).1
  have z2 := (hb2.block (x + 1) hz1).trans HZ0.out.1
  have q5 := (hb2.cell (p := ⟨x, 5, none⟩) hx1).trans q5
  have hwy := HB0.out.size
  have HB2 := Lib.hid (HB0.out.trans (hb2.mono HB0.out.size))
  obtain ⟨y, hy⟩ : ∃ y, w1.heap.size = y := ⟨_, rfl⟩
  rw [hy] at h2 hz1 hx1 hwy ⊢
  have hxy : x + 1 ≠ y := by omega
  have HY := Lib.hid (And.intro hxy hwy)
  clear q1 q2 q3 q4 hb2 hy hxy hwy hz1 hx1
  by_cases he : e = 0
  · have hf : perfC 17 e 0 b a c d 0 0 0 0 false = beginC a b c d e := by rw [beginC, if_pos he]
    rw [hf] at h2 ⊢
    have he' : (e != 0) = false := by simpa using he
    have HBB := Lib.hid HB2.out
    clear hf
    go_wp2_with (first
      | (refine wpList_load_row rfl 39 (.tmp 3) rfl y rfl 39 (beginC a b c d e) (0, 0) _ h2 Try.underlying39 rfl (by as_aux_lemma => kernel_rfl) ?_)
      | (refine wpList_store_rowTo rfl 39 (.tmp 2) (.tmp 21) rfl rfl (x + 1) (beginC a b c d e) rfl rfl 39 perfZ z2 (by as_aux_lemma => kernel_rfl) (by as_aux_lemma => kernel_rfl) (by as_aux_lemma => kernel_rfl) ?_))
    have hh := setRow_heap _ (x + 1) _ (beginC a b c d e) _ _ z2
    have hB := below_setRow HBB.out (show w.heap.size ≤ x + 1 by rw [HX.out]; omega) (beginC a b c d e)
    refine bodyPost_ret (results_cell_row (p := 2) (ty := 39) (by kernel_rfl) _ _ (x + 1) 39 (beginC a b c d e) (0, 0) _ rfl hh Try.underlying39 rfl (by as_aux_lemma => kernel_rfl)) rfl ?_
    exact ⟨rfl, hB⟩
  · have hf : (perfC 17 e 0 b a c d 0 0 0 0 false).setIfInBounds 0 (.int .i64 e) = beginC a b c d e := by
      rw [beginC, if_neg he]
      rfl
    have he' : (e != 0) = true := by simpa using he
    have y0 : w2.cell? ⟨y, 0, none⟩ = some (.int .i64 17) := (cell_of_row _ _ 0 _ _ _ h2).trans rfl
    have fz : w2.frozen? ⟨y, 0, none⟩ = false := by simp [World.frozen?, h2]
    have h4 := heap_setCell_same w2 y 0 _ _ (.int .i64 e) h2
    rw [hf] at h4
    have z4 : (w2.setCell ⟨y, 0, none⟩ (.int .i64 e)).heap[x + 1]? = some (.cells perfZ 39 (0, 0)) := (set_far HY.out.1).trans z2
    have HBB := Lib.hid (HB2.out.setCell (p := ⟨y, 0, none⟩) HY.out.2 (.int .i64 e))
    obtain ⟨P0, hP0⟩ : ∃ P0, perfC 17 e 0 b a c d 0 0 0 0 false = P0 := ⟨_, rfl⟩
    rw [hP0] at *
    clear hf h2 z2 hP0
    go_wp2_with (first
      | (refine wpList_load_row rfl 39 (.tmp 3) rfl y rfl 39 (beginC a b c d e) (0, 0) _ h4 Try.underlying39 rfl (by as_aux_lemma => kernel_rfl) ?_)
      | (refine wpList_store_rowTo rfl 39 (.tmp 2) (.tmp 21) rfl rfl (x + 1) (beginC a b c d e) rfl rfl 39 perfZ z4 (by as_aux_lemma => kernel_rfl) (by as_aux_lemma => kernel_rfl) (by as_aux_lemma => kernel_rfl) ?_))
    have hh := setRow_heap _ (x + 1) _ (beginC a b c d e) _ _ z4
    have hB := below_setRow HBB.out (show w.heap.size ≤ x + 1 by rw [HX.out]; omega) (beginC a b c d e)
    refine bodyPost_ret (results_cell_row (p := 2) (ty := 39) (by kernel_rfl) _ _ (x + 1) 39 (beginC a b c d e) (0, 0) _ rfl hh Try.underlying39 rfl (by as_aux_lemma => kernel_rfl)) rfl ?_
    exact ⟨rfl, hB⟩
end Go.Proofs.Ytbkimebmoafbnaa
