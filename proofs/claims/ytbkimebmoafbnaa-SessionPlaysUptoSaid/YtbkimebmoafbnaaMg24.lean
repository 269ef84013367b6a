/-
  sameFlow of one Flow and itself. No conditions.
  A Begin of a step; SessionMakes' walk. No conditions.
  A region that draws its order, walked by hand: reads that are taken first, steps. It speaks of no program. No conditions.
-/
import Derived.Test.YtbkimebmoafbnaaMg23
import Derived.Test.YtbkimebmoafbnaaMg05
import Derived.Test.YtbkimebmoafbnaaMg01
import Derived.Orders
import Derived.OrdersHeld
import Derived.Deep.RegionHeld
import Derived.Laws.Rows
import Derived.Laws.Tables
namespace Go.Proofs.Ytbkimebmoafbnaa
open Go.RowKit Go.Maps
set_option linter.unusedVariables false

set_option maxRecDepth 20000 in
set_option maxHeartbeats 8000000 in
theorem sameFlow_any (w : World) (q iw no ow : Int) :
    Calls Try.prog 15 #[.agg (perfC 19 0 q iw no ow 0 (-1) (-1) (-1) (-1) false), .agg (perfC 19 0 q iw no ow 0 (-1) (-1) (-1) (-1) false)] w fun e w' => e = .returned (.bool true) ∧ Below w.heap.size w w' := by
  obtain ⟨P, hP⟩ : ∃ P, perfC 19 0 q iw no ow 0 (-1) (-1) (-1) (-1) false = P := ⟨_, rfl⟩
  rw [hP]
  go_enter Try.func15, Try.ntmps15
  go_upto_region 1 with fail
  have hb2 : Below w.heap.size w ((w.alloc (.cells P 39)).alloc (.cells P 39)) := ((Below.refl _ w).alloc (Nat.le_refl _) _).alloc (by simp) _
  have h2x : ((w.alloc (.cells P 39)).alloc (.cells P 39)).heap[w.heap.size]? = some (.cells P 39 (0, 0)) := heap_alloc2_old _ _ _
  have h2y : ((w.alloc (.cells P 39)).alloc (.cells P 39)).heap[w.heap.size + 1]? = some (.cells P 39 (0, 0)) := heap_alloc2_new _ _ _
  generalize ((w.alloc (.cells P 39)).alloc (.cells P 39)) = w2 at *
  obtain ⟨x, hx⟩ : ∃ x, w.heap.size = x := ⟨_, rfl⟩
  rw [hx] at h2x h2y ⊢
  rw [← hP] at h2x h2y
  have HB2 := Lib.hid hb2
  clear hb2 hx hP
  have x0 : w2.cell? ⟨x, 0, none⟩ = some (.int .i64 19) := (cell_of_row _ _ 0 _ _ _ h2x).trans rfl
  have x1 : w2.cell? ⟨x, 1, none⟩ = some (.string ⟨#[]⟩) := (cell_of_row _ _ 1 _ _ _ h2x).trans rfl
  have x2 : w2.cell? ⟨x, 2, none⟩ = some (.string ⟨#[]⟩) := (cell_of_row _ _ 2 _ _ _ h2x).trans rfl
  have x3 : w2.cell? ⟨x, 3, none⟩ = some (.int .i64 0) := (cell_of_row _ _ 3 _ _ _ h2x).trans rfl
  have x4 : w2.cell? ⟨x, 4, none⟩ = some (.int .i64 0) := (cell_of_row _ _ 4 _ _ _ h2x).trans rfl
  have x5 : w2.cell? ⟨x, 5, none⟩ = some (.int .i64 0) := (cell_of_row _ _ 5 _ _ _ h2x).trans rfl
  have x6 : w2.cell? ⟨x, 6, none⟩ = some (.int .i64 0) := (cell_of_row _ _ 6 _ _ _ h2x).trans rfl
  have x9 : w2.cell? ⟨x, 9, none⟩ = some (.slice none 0 0) := (cell_of_row _ _ 9 _ _ _ h2x).trans rfl
  have x11 : w2.cell? ⟨x, 11, none⟩ = some (.int .i64 0) := (cell_of_row _ _ 11 _ _ _ h2x).trans rfl
  have x12 : w2.cell? ⟨x, 12, none⟩ = some (.int .i64 q) := (cell_of_row _ _ 12 _ _ _ h2x).trans rfl
  have x13 : w2.cell? ⟨x, 13, none⟩ = some (.int .i64 iw) := (cell_of_row _ _ 13 _ _ _ h2x).trans rfl
  have x14 : w2.cell? ⟨x, 14, none⟩ = some (.int .i64 no) := (cell_of_row _ _ 14 _ _ _ h2x).trans rfl
  have x15 : w2.cell? ⟨x, 15, none⟩ = some (.int .i64 ow) := (cell_of_row _ _ 15 _ _ _ h2x).trans rfl
  have x16 : w2.cell? ⟨x, 16, none⟩ = some (.int .i64 0) := (cell_of_row _ _ 16 _ _ _ h2x).trans rfl
  have x17 : w2.cell? ⟨x, 17, none⟩ = some (.string ⟨#[]⟩) := (cell_of_row _ _ 17 _ _ _ h2x).trans rfl
  have x18 : w2.cell? ⟨x, 18, none⟩ = some (.int .i64 (-1)) := (cell_of_row _ _ 18 _ _ _ h2x).trans rfl
  have x19 : w2.cell? ⟨x, 19, none⟩ = some (.bool false) := (cell_of_row _ _ 19 _ _ _ h2x).trans rfl
  have x20 : w2.cell? ⟨x, 20, none⟩ = some (.int .i64 0) := (cell_of_row _ _ 20 _ _ _ h2x).trans rfl
  have x21 : w2.cell? ⟨x, 21, none⟩ = some (.int .i64 0) := (cell_of_row _ _ 21 _ _ _ h2x).trans rfl
  have x22 : w2.cell? ⟨x, 22, none⟩ = some (.int .i64 0) := (cell_of_row _ _ 22 _ _ _ h2x).trans rfl
  have x51 : w2.cell? ⟨x, 51, none⟩ = some (.int .i64 0) := (cell_of_row _ _ 51 _ _ _ h2x).trans rfl
  have x80 : w2.cell? ⟨x, 80, none⟩ = some (.slice none 0 0) := (cell_of_row _ _ 80 _ _ _ h2x).trans rfl
  have x81 : w2.cell? ⟨x, 81, none⟩ = some (.bool false) := (cell_of_row _ _ 81 _ _ _ h2x).trans rfl
  have x82 : w2.cell? ⟨x, 82, none⟩ = some (.int .i64 0) := (cell_of_row _ _ 82 _ _ _ h2x).trans rfl
  have x83 : w2.cell? ⟨x, 83, none⟩ = some (.int .i64 0) := (cell_of_row _ _ 83 _ _ _ h2x).trans rfl
  have x84 : w2.cell? ⟨x, 84, none⟩ = some (.int .i64 (-1)) := (cell_of_row _ _ 84 _ _ _ h2x).trans rfl
  have x85 : w2.cell? ⟨x, 85, none⟩ = some (.int .i64 (-1)) := (cell_of_row _ _ 85 _ _ _ h2x).trans rfl
  have x86 : w2.cell? ⟨x, 86, none⟩ = some (.int .i64 (-1)) := (cell_of_row _ _ 86 _ _ _ h2x).trans rfl
  have x87 : w2.cell? ⟨x, 87, none⟩ = some (.bool false) := (cell_of_row _ _ 87 _ _ _ h2x).trans rfl
  have x88 : w2.cell? ⟨x, 88, none⟩ = some (.bool false) := (cell_of_row _ _ 88 _ _ _ h2x).trans rfl
  have x89 : w2.cell? ⟨x, 89, none⟩ = some (.int .i64 0) := (cell_of_row _ _ 89 _ _ _ h2x).trans rfl
  have x90 : w2.cell? ⟨x, 90, none⟩ = some (.bool false) := (cell_of_row _ _ 90 _ _ _ h2x).trans rfl
  have x91 : w2.cell? ⟨x, 91, none⟩ = some (.string ⟨#[]⟩) := (cell_of_row _ _ 91 _ _ _ h2x).trans rfl
  have x92 : w2.cell? ⟨x, 92, none⟩ = some (.int .i64 0) := (cell_of_row _ _ 92 _ _ _ h2x).trans rfl
  have x93 : w2.cell? ⟨x, 93, none⟩ = some (.bool false) := (cell_of_row _ _ 93 _ _ _ h2x).trans rfl
  have x94 : w2.cell? ⟨x, 94, none⟩ = some (.bool false) := (cell_of_row _ _ 94 _ _ _ h2x).trans rfl
  have x95 : w2.cell? ⟨x, 95, none⟩ = some (.bool false) := (cell_of_row _ _ 95 _ _ _ h2x).trans rfl
  have x96 : w2.cell? ⟨x, 96, none⟩ = some (.bool false) := (cell_of_row _ _ 96 _ _ _ h2x).trans rfl
  have x97 : w2.cell? ⟨x, 97, none⟩ = some (.bool false) := (cell_of_row _ _ 97 _ _ _ h2x).trans rfl
  have x98 : w2.cell? ⟨x, 98, none⟩ = some (.bool false) := (cell_of_row _ _ 98 _ _ _ h2x).trans rfl
  have x99 : w2.cell? ⟨x, 99, none⟩ = some (.int .i64 0) := (cell_of_row _ _ 99 _ _ _ h2x).trans rfl
  have x118 : w2.cell? ⟨x, 118, none⟩ = some (.int .i64 0) := (cell_of_row _ _ 118 _ _ _ h2x).trans rfl
  have x119 : w2.cell? ⟨x, 119, none⟩ = some (.int .i64 0) := (cell_of_row _ _ 119 _ _ _ h2x).trans rfl
  have x120 : w2.cell? ⟨x, 120, none⟩ = some (.bool false) := (cell_of_row _ _ 120 _ _ _ h2x).trans rfl
  have x121 : w2.cell? ⟨x, 121, none⟩ = some (.string ⟨#[]⟩) := (cell_of_row _ _ 121 _ _ _ h2x).trans rfl
  have y0 : w2.cell? ⟨x + 1, 0, none⟩ = some (.int .i64 19) := (cell_of_row _ _ 0 _ _ _ h2y).trans rfl
  have y12 : w2.cell? ⟨x + 1, 12, none⟩ = some (.int .i64 q) := (cell_of_row _ _ 12 _ _ _ h2y).trans rfl
  have y13 : w2.cell? ⟨x + 1, 13, none⟩ = some (.int .i64 iw) := (cell_of_row _ _ 13 _ _ _ h2y).trans rfl
  have y14 : w2.cell? ⟨x + 1, 14, none⟩ = some (.int .i64 no) := (cell_of_row _ _ 14 _ _ _ h2y).trans rfl
  have y15 : w2.cell? ⟨x + 1, 15, none⟩ = some (.int .i64 ow) := (cell_of_row _ _ 15 _ _ _ h2y).trans rfl
  have y18 : w2.cell? ⟨x + 1, 18, none⟩ = some (.int .i64 (-1)) := (cell_of_row _ _ 18 _ _ _ h2y).trans rfl
  have y84 : w2.cell? ⟨x + 1, 84, none⟩ = some (.int .i64 (-1)) := (cell_of_row _ _ 84 _ _ _ h2y).trans rfl
  have y85 : w2.cell? ⟨x + 1, 85, none⟩ = some (.int .i64 (-1)) := (cell_of_row _ _ 85 _ _ _ h2y).trans rfl
  have y86 : w2.cell? ⟨x + 1, 86, none⟩ = some (.int .i64 (-1)) := (cell_of_row _ _ 86 _ _ _ h2y).trans rfl
  have y87 : w2.cell? ⟨x + 1, 87, none⟩ = some (.bool false) := (cell_of_row _ _ 87 _ _ _ h2y).trans rfl
  have y88 : w2.cell? ⟨x + 1, 88, none⟩ = some (.bool false) := (cell_of_row _ _ 88 _ _ _ h2y).trans rfl
  clear h2x h2y
  go_wp2_with fail
  go_ret
  exact ⟨by simp, HB2.out⟩
end Go.Proofs.Ytbkimebmoafbnaa

namespace Go.Proofs.Ytbkimebmoafbnaa
open Go.RowKit Go.Maps
set_option linter.unusedVariables false

/-- the Begin of a step -/
def beginC (a b c d e : Int) : Array Value := perfC (if e = 0 then 17 else e) e 0 b a c d 0 0 0 0 false

set_option maxRecDepth 20000 in
set_option maxHeartbeats 8000000 in
theorem begin_any (w : World) (k a b c d e : Int) (tag : ByteArray) (flag : Bool) :
    Calls Try.prog 9 #[.agg #[.int .i64 k, .int .i64 a, .int .i64 b, .int .i64 c, .int .i64 d, .int .i64 e, .string tag, .bool flag]] w fun en w' => en = .returned (.agg (beginC a b c d e)) ∧ Below w.heap.size w w' := by
  go_enter Try.func9, Try.ntmps9
  go_upto_region 1 with fail
  change Code.wp _ _ _ _ ((w.alloc (.cells #[.int .i64 k, .int .i64 a, .int .i64 b, .int .i64 c, .int .i64 d, .int .i64 e, .string tag, .bool flag] 24)).alloc (.cells perfZ 39))
  have hb0 : Below w.heap.size w ((w.alloc (.cells #[.int .i64 k, .int .i64 a, .int .i64 b, .int .i64 c, .int .i64 d, .int .i64 e, .string tag, .bool flag] 24)).alloc (.cells perfZ 39)) := ((Below.refl _ _).alloc (Nat.le_refl _) _).alloc (by simp) _
  have o0 : ((w.alloc (.cells #[.int .i64 k, .int .i64 a, .int .i64 b, .int .i64 c, .int .i64 d, .int .i64 e, .string tag, .bool flag] 24)).alloc (.cells perfZ 39)).heap[w.heap.size]? = some (.cells #[.int .i64 k, .int .i64 a, .int .i64 b, .int .i64 c, .int .i64 d, .int .i64 e, .string tag, .bool flag] 24 (0, 0)) := heap_alloc2_old _ _ _
  have z0 : ((w.alloc (.cells #[.int .i64 k, .int .i64 a, .int .i64 b, .int .i64 c, .int .i64 d, .int .i64 e, .string tag, .bool flag] 24)).alloc (.cells perfZ 39)).heap[w.heap.size + 1]? = some (.cells perfZ 39 (0, 0)) := heap_alloc2_new _ _ _
  generalize ((w.alloc (.cells #[.int .i64 k, .int .i64 a, .int .i64 b, .int .i64 c, .int .i64 d, .int .i64 e, .string tag, .bool flag] 24)).alloc (.cells perfZ 39)) = w1 at *
  obtain ⟨x, hx⟩ : ∃ x, w.heap.size = x := ⟨_, rfl⟩
  have HX := Lib.hid hx
  rw [hx] at o0 z0 ⊢
  have q1 : w1.cell? ⟨x, 1, none⟩ = some (.int .i64 a) := (cell_of_row _ _ 1 _ _ _ o0).trans rfl
  have q2 : w1.cell? ⟨x, 2, none⟩ = some (.int .i64 b) := (cell_of_row _ _ 2 _ _ _ o0).trans rfl
  have q3 : w1.cell? ⟨x, 3, none⟩ = some (.int .i64 c) := (cell_of_row _ _ 3 _ _ _ o0).trans rfl
  have q4 : w1.cell? ⟨x, 4, none⟩ = some (.int .i64 d) := (cell_of_row _ _ 4 _ _ _ o0).trans rfl
  have q5 : w1.cell? ⟨x, 5, none⟩ = some (.int .i64 e) := (cell_of_row _ _ 5 _ _ _ o0).trans rfl
  have HB0 := Lib.hid hb0
  have HZ0 := Lib.hid (And.intro z0 o0)
  clear hb0 hx z0 o0
  go_upto_region 2 with (first
    | (refine wpList_buildTo rfl 39 _ rfl (some 14) rfl (perfC 17 e 0 b a c d 0 0 0 0 false) (by as_aux_lemma => kernel_rfl) ?_)
    | (refine wpList_store_rowTo rfl 39 (.tmp 3) (.tmp 14) rfl rfl w1.heap.size (perfC 17 e 0 b a c d 0 0 0 0 false) rfl rfl 39 perfZ (_root_.Go.heap_alloc_new w1 _) (by as_aux_lemma => kernel_rfl) (by as_aux_lemma => kernel_rfl) (by as_aux_lemma => kernel_rfl) ?_))
  have hb2 : Below w1.heap.size w1 ((w1.alloc (.cells perfZ 39)).setRow w1.heap.size (perfC 17 e 0 b a c d 0 0 0 0 false)) := below_setRow ((Below.refl _ _).alloc (Nat.le_refl _) _) (Nat.le_refl _) _
  have h2 := setRow_heap (w1.alloc (.cells perfZ 39)) w1.heap.size _ (perfC 17 e 0 b a c d 0 0 0 0 false) _ _ (_root_.Go.heap_alloc_new w1 _)
  change Code.wp _ _ _ _ ((w1.alloc (.cells perfZ 39)).setRow w1.heap.size (perfC 17 e 0 b a c d 0 0 0 0 false))
  generalize ((w1.alloc (.cells perfZ 39)).setRow w1.heap.size (perfC 17 e 0 b a c d 0 0 0 0 false)) = w2 at *
  have hx1 := (Array.getElem?_eq_some_iff.1 HZ0.out.2).1
  have hz1 := (Array.getElem?_eq_some_iff.1 HZ0.out.1).1
  have z2 := (hb2.block (x + 1) hz1).trans HZ0.out.1
  have q5 := (hb2.cell (p := ⟨x, 5, none⟩) hx1).trans q5
  have hwy := HB0.out.size
  have HB2 := Lib.hid (HB0.out.trans (hb2.mono HB0.out.size))
  obtain ⟨y, hy⟩ : ∃ y, w1.heap.size = y := ⟨_, rfl⟩
  rw [hy] at h2 hz1 hx1 hwy ⊢
  have hxy : x + 1 ≠ y := by omega
  have HY := Lib.hid (And.intro hxy hwy)
  clear q1 q2 q3 q4 hb2 hy hxy hwy hz1 hx1
  by_cases he : e = 0
  · have hf : perfC 17 e 0 b a c d 0 0 0 0 false = beginC a b c d e := by rw [beginC, if_pos he]
    rw [hf] at h2 ⊢
    have he' : (e != 0) = false := by simpa using he
    have HBB := Lib.hid HB2.out
    clear hf
    go_wp2_with (first
      | (refine wpList_load_row rfl 39 (.tmp 3) rfl y rfl 39 (beginC a b c d e) (0, 0) _ h2 Try.underlying39 rfl (by as_aux_lemma => kernel_rfl) ?_)
      | (refine wpList_store_rowTo rfl 39 (.tmp 2) (.tmp 21) rfl rfl (x + 1) (beginC a b c d e) rfl rfl 39 perfZ z2 (by as_aux_lemma => kernel_rfl) (by as_aux_lemma => kernel_rfl) (by as_aux_lemma => kernel_rfl) ?_))
    have hh := setRow_heap _ (x + 1) _ (beginC a b c d e) _ _ z2
    have hB := below_setRow HBB.out (show w.heap.size ≤ x + 1 by rw [HX.out]; omega) (beginC a b c d e)
    refine bodyPost_ret (results_cell_row (p := 2) (ty := 39) (by kernel_rfl) _ _ (x + 1) 39 (beginC a b c d e) (0, 0) _ rfl hh Try.underlying39 rfl (by as_aux_lemma => kernel_rfl)) rfl ?_
    exact ⟨rfl, hB⟩
  · have hf : (perfC 17 e 0 b a c d 0 0 0 0 false).setIfInBounds 0 (.int .i64 e) = beginC a b c d e := by
      rw [beginC, if_neg he]
      rfl
    have he' : (e != 0) = true := by simpa using he
    have y0 : w2.cell? ⟨y, 0, none⟩ = some (.int .i64 17) := (cell_of_row _ _ 0 _ _ _ h2).trans rfl
    have fz : w2.frozen? ⟨y, 0, none⟩ = false := by simp [World.frozen?, h2]
    have h4 := heap_setCell_same w2 y 0 _ _ (.int .i64 e) h2
    rw [hf] at h4
    have z4 : (w2.setCell ⟨y, 0, none⟩ (.int .i64 e)).heap[x + 1]? = some (.cells perfZ 39 (0, 0)) := (set_far HY.out.1).trans z2
    have HBB := Lib.hid (HB2.out.setCell (p := ⟨y, 0, none⟩) HY.out.2 (.int .i64 e))
    obtain ⟨P0, hP0⟩ : ∃ P0, perfC 17 e 0 b a c d 0 0 0 0 false = P0 := ⟨_, rfl⟩
    rw [hP0] at *
    clear hf h2 z2 hP0
    go_wp2_with (first
      | (refine wpList_load_row rfl 39 (.tmp 3) rfl y rfl 39 (beginC a b c d e) (0, 0) _ h4 Try.underlying39 rfl (by as_aux_lemma => kernel_rfl) ?_)
      | (refine wpList_store_rowTo rfl 39 (.tmp 2) (.tmp 21) rfl rfl (x + 1) (beginC a b c d e) rfl rfl 39 perfZ z4 (by as_aux_lemma => kernel_rfl) (by as_aux_lemma => kernel_rfl) (by as_aux_lemma => kernel_rfl) ?_))
    have hh := setRow_heap _ (x + 1) _ (beginC a b c d e) _ _ z4
    have hB := below_setRow HBB.out (show w.heap.size ≤ x + 1 by rw [HX.out]; omega) (beginC a b c d e)
    refine bodyPost_ret (results_cell_row (p := 2) (ty := 39) (by kernel_rfl) _ _ (x + 1) 39 (beginC a b c d e) (0, 0) _ rfl hh Try.underlying39 rfl (by as_aux_lemma => kernel_rfl)) rfl ?_
    exact ⟨rfl, hB⟩
end Go.Proofs.Ytbkimebmoafbnaa

namespace Go.Proofs.Ytbkimebmoafbnaa
open Go.RowKit
set_option linter.unusedVariables false

theorem takeD {P : Program} {ops : Array Oper} {Q : Exit → Act → World → Prop} {md : Region.Mode} {S : World → Prop} {i : Nat} {oi : Oper} {v : Value} {fuel : Nat} {listed : Array Bool} {a : Act} {w : World} (d : Option Tmp) (hi : ops[i]? = some oi) (hd : oi.dst = d)
    (hs : Region.noSelect ops = true) (hf : Region.free md ops listed i = true) (hr : (Region.ready md ops listed).contains i = true)
    (hQ : ∀ c a w, Q (.panic c) (a.put oi.dst v) w → Q (.panic c) a w) (hy : YieldsIf P ops S oi v a) (hS : S w)
    (h : wpAnyH P md ops Q S fuel (listed.setIfInBounds i true) (a.put d v) w) : wpAnyH P md ops Q S (fuel + 1) listed a w := by
  subst hd
  exact wpAnyH_take hi hs hf hr hQ hy hS h

theorem yieldsIf_load_row {P : Program} {ops : Array Oper} {S : World → Prop} {o : Oper} {a : Act} (ty : TypeId) (x : Operand) (ho : o.op = .load ty x) (hw : Region.wanted o (yielded ops a.tmps) = true) (g : Nat) (hx : a.eval x = .pointer (some ⟨g, 0, none⟩)) (t : TypeId) (cs : Array Value) (fr : Nat × Nat) (d : TypeDesc) (hg : ∀ V, S V → V.heap[g]? = some (.cells cs t fr))
    (hu : P.underlying ty = some d) (hd : (match d with | .struct _ | .array _ _ => true | _ => false) = true) (hi : (P.info? ty).map (·.size) = some cs.size) : YieldsIf P ops S o (.agg cs) a := by
  refine .inl ⟨hw, fun V hV => ?_⟩
  unfold execOp
  simp only [ho, hx, Instr.loadAt, Instr.sureAddr, Sem.run_bind, Sem.run_pure, Result.andThen_ok, run_loadVar_row V g t ty cs fr d (hg V hV) hu hd hi]

/-- one operation comes up; what holds throughout is shown behind it -/
theorem stepD {P : Program} {ops : Array Oper} {Q : Exit → Act → World → Prop} {md : Region.Mode} {S : World → Prop} {fuel : Nat} {listed : Array Bool} {a : Act} {w : World} {i : Nat} {o : Oper} (ho : ops[i]? = some o) (hw : Region.wanted o (yielded ops a.tmps) = true)
    (h : ∀ K' : Act → World → Prop, Shut (∀ a w, S w → wpAnyH P md ops Q S fuel (listed.setIfInBounds i true) a w → K' a w) → Oper.wp P o a w K' Q) : wpOp P ops Q i (fun a' w' => S w' ∧ wpAnyH P md ops Q S fuel (listed.setIfInBounds i true) a' w') a w := by
  unfold wpOp
  simp only [ho]
  rw [if_pos hw]
  exact .inl (h _ (fun a w h1 h2 => ⟨h1, h2⟩))

/-- the beginning -/
theorem wp_region_heldN {P : Program} {ops : Array Oper} {Q : Exit → Act → World → Prop} {id : Nat} {a : Act} {w : World} (S : World → Prop) (f : Nat) (hf : ops.size = f) (hm : P.follows .mixedOrders = true)
    (h : wpAnyH P .any ops Q S f (Array.replicate f false) a w.drew) : (Code.region id ops true).wp P Q a w := by
  subst hf
  exact wp_region_held hm h
end Go.Proofs.Ytbkimebmoafbnaa
