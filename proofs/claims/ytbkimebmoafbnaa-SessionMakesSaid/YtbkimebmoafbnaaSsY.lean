/-
  sameFlow of one Flow and itself. No conditions.
-/
import Derived.Test.YtbkimebmoafbnaaSsE
namespace Go.Proofs.Ytbkimebmoafbnaa
open Go.RowKit Go.Maps
set_option linter.unusedVariables false

set_option maxRecDepth 20000 in
set_option maxHeartbeats 8000000 in
theorem sameFlow_any (w : World) (q iw no ow : Int) :
    Calls Try.prog 15 #[.agg (perfC 19 0 q iw no ow 0 (-1) (-1) (-1) (-1) false), .agg (perfC 19 0 q iw no ow 0 (-1) (-1) (-1) (-1) false)] w fun e w' => e = .returned (.bool true) ∧ Below w.heap.size w w' := by
  obtain ⟨P, hP⟩ : ∃ P, perfC 19 0 q iw no ow 0 (-1) (-1) (-1) (-1) false = P := ⟨_, rfl⟩
  rw [hP]
  go_enter Try.func15, Try.ntmps15
  go_upto_region 1 with fail
  have hb2 : Below w.heap.size w ((w.alloc (.cells P 39)).alloc (.cells P 39)) := ((Below.refl _ w).alloc (Nat.le_refl _) _).alloc (by simp) _
  have h2x : ((w.alloc (.cells P 39)).alloc (.cells P 39)).heap[w.heap.size]? = some (.cells P 39 (0, 0)) := heap_alloc2_old _ _ _
  have h2y : ((w.alloc (.cells P 39)).alloc (.cells P 39)).heap[w.heap.size + 1]? = some (.cells P 39 (0, 0)) := heap_alloc2_new _ _ _
  generalize ((w.alloc (.cells P 39)).alloc (.cells P 39)) = w2 at *
  obtain ⟨x, hx⟩ : ∃ x, w.heap.size = x := ⟨_, rfl⟩
  rw [hx] at h2x h2y ⊢
  rw [← hP] at h2x h2y
  have HB2 := Lib.hid hb2
  clear hb2 hx hP
  have x0 : w2.cell? ⟨x, 0, none⟩ = some (.int .i64 19) := (cell_of_row _ _ 0 _ _ _ h2x).trans rfl
  have x1 : w2.cell? ⟨x, 1, none⟩ = some (.string ⟨#[]⟩) := (cell_of_row _ _ 1 _ _ _ h2x).trans rfl
  have x2 : w2.cell? ⟨x, 2, none⟩ = some (.string ⟨#[]⟩) := (cell_of_row _ _ 2 _ _ _ h2x).trans rfl
  have x3 : w2.cell? ⟨x, 3, none⟩ = some (.int .i64 0) := (cell_of_row _ _ 3 _ _ _ h2x).trans rfl
  have x4 : w2.cell? ⟨x, 4, none⟩ = some (.int .i64 0) := (cell_of_row _ _ 4 _ _ _ h2x).trans rfl
  have x5 : w2.cell? ⟨x, 5, none⟩ = some (.int .i64 0) := (cell_of_row _ _ 5 _ _ _ h2x).trans rfl
  have x6 : w2.cell? ⟨x, 6, none⟩ = some (.int .i64 0) := (cell_of_row _ _ 6 _ _ _ h2x).trans rfl
  have x9 : w2.cell? ⟨x, 9, none⟩ = some (.slice none 0 0) := (cell_of_row _ _ 9 _ _ _ h2x).trans rfl
  have x11 : w2.cell? ⟨x, 11, none⟩ = some (.int .i64 0) := (cell_of_row _ _ 11 _ _ _ h2x).trans rfl
  have x12 : w2.cell? ⟨x, 12, none⟩ = some (.int .i64 q) := (cell_of_row _ _ 12 _ _ _ h2x).trans rfl
  have x13 : w2.cell? ⟨x, 13, none⟩ = some (.int .i64 iw) := (cell_of_row _ _ 13 _ _ _ h2x).trans rfl
  have x14 : w2.cell? ⟨x, 14, none⟩ = some (.int .i64 no) := (cell_of_row _ _ 14 _ _ _ h2x).trans rfl
  have x15 : w2.cell? ⟨x, 15, none⟩ = some (.int .i64 ow) := (cell_of_row _ _ 15 _ _ _ h2x).trans rfl
  have x16 : w2.cell? ⟨x, 16, none⟩ = some (.int .i64 0) := (cell_of_row _ _ 16 _ _ _ h2x).trans rfl
  have x17 : w2.cell? ⟨x, 17, none⟩ = some (.string ⟨#[]⟩) := (cell_of_row _ _ 17 _ _ _ h2x).trans rfl
  have x18 : w2.cell? ⟨x, 18, none⟩ = some (.int .i64 (-1)) := (cell_of_row _ _ 18 _ _ _ h2x).trans rfl
  have x19 : w2.cell? ⟨x, 19, none⟩ = some (.bool false) := (cell_of_row _ _ 19 _ _ _ h2x).trans rfl
  have x20 : w2.cell? ⟨x, 20, none⟩ = some (.int .i64 0) := (cell_of_row _ _ 20 _ _ _ h2x).trans rfl
  have x21 : w2.cell? ⟨x, 21, none⟩ = some (.int .i64 0) := (cell_of_row _ _ 21 _ _ _ h2x).trans rfl
  have x22 : w2.cell? ⟨x, 22, none⟩ = some (.int .i64 0) := (cell_of_row _ _ 22 _ _ _ h2x).trans rfl
  have x51 : w2.cell? ⟨x, 51, none⟩ = some (.int .i64 0) := (cell_of_row _ _ 51 _ _ _ h2x).trans rfl
  have x80 : w2.cell? ⟨x, 80, none⟩ = some (.slice none 0 0) := (cell_of_row _ _ 80 _ _ _ h2x).trans rfl
  have x81 : w2.cell? ⟨x, 81, none⟩ = some (.bool false) := (cell_of_row _ _ 81 _ _ _ h2x).trans rfl
  have x82 : w2.cell? ⟨x, 82, none⟩ = some (.int .i64 0) := (cell_of_row _ _ 82 _ _ _ h2x).trans rfl
  have x83 : w2.cell? ⟨x, 83, none⟩ = some (.int .i64 0) := (cell_of_row _ _ 83 _ _ _ h2x).trans rfl
  have x84 : w2.cell? ⟨x, 84, none⟩ = some (.int .i64 (-1)) := (cell_of_row _ _ 84 _ _ _ h2x).trans rfl
  have x85 : w2.cell? ⟨x, 85, none⟩ = some (.int .i64 (-1)) := (cell_of_row _ _ 85 _ _ _ h2x).trans rfl
  have x86 : w2.cell? ⟨x, 86, none⟩ = some (.int .i64 (-1)) := (cell_of_row _ _ 86 _ _ _ h2x).trans rfl
  have x87 : w2.cell? ⟨x, 87, none⟩ = some (.bool false) := (cell_of_row _ _ 87 _ _ _ h2x).trans rfl
  have x88 : w2.cell? ⟨x, 88, none⟩ = some (.bool false) := (cell_of_row _ _ 88 _ _ _ h2x).trans rfl
  have x89 : w2.cell? ⟨x, 89, none⟩ = some (.int .i64 0) := (cell_of_row _ _ 89 _ _ _ h2x).trans rfl
  have x90 : w2.cell? ⟨x, 90, none⟩ = some (.bool false) := (cell_of_row _ _ 90 _ _ _ h2x).trans rfl
  have x91 : w2.cell? ⟨x, 91, none⟩ = some (.string ⟨#[]⟩) := (cell_of_row _ _ 91 _ _ _ h2x).trans rfl
  have x92 : w2.cell? ⟨x, 92, none⟩ = some (.int .i64 0) := (cell_of_row _ _ 92 _ _ _ h2x).trans rfl
  have x93 : w2.cell? ⟨x, 93, none⟩ = some (.bool false) := (cell_of_row _ _ 93 _ _ _ h2x).trans rfl
  have x94 : w2.cell? ⟨x, 94, none⟩ = some (.bool false) := (cell_of_row _ _ 94 _ _ _ h2x).trans rfl
  have x95 : w2.cell? ⟨x, 95, none⟩ = some (.bool false) := (cell_of_row _ _ 95 _ _ _ h2x).trans rfl
  have x96 : w2.cell? ⟨x, 96, none⟩ = some (.bool false) := (cell_of_row _ _ 96 _ _ _ h2x).trans rfl
  have x97 : w2.cell? ⟨x, 97, none⟩ = some (.bool false) := (cell_of_row _ _ 97 _ _ _ h2x).trans rfl
  have x98 : w2.cell? ⟨x, 98, none⟩ = some (.bool false) := (cell_of_row _ _ 98 _ _ _ h2x).trans rfl
  have x99 : w2.cell? ⟨x, 99, none⟩ = some (.int .i64 0) := (cell_of_row _ _ 99 _ _ _ h2x).trans rfl
  have x118 : w2.cell? ⟨x, 118, none⟩ = some (.int .i64 0) := (cell_of_row _ _ 118 _ _ _ h2x).trans rfl
  have x119 : w2.cell? ⟨x, 119, none⟩ = some (.int .i64 0) := (cell_of_row _ _ 119 _ _ _ h2x).trans rfl
  have x120 : w2.cell? ⟨x, 120, none⟩ = some (.bool false) := (cell_of_row _ _ 120 _ _ _ h2x).trans rfl
  have x121 : w2.cell? ⟨x, 121, none⟩ = some (.string ⟨#[]⟩) := (cell_of_row _ _ 121 _ _ _ h2x).trans rfl
  have y0 : w2.cell? ⟨x + 1, 0, none⟩ = some (.int .i64 19) := (cell_of_row _ _ 0 _ _ _ h2y).trans rfl
  have y12 : w2.cell? ⟨x + 1, 12, none⟩ = some (.int .i64 q) := (cell_of_row _ _ 12 _ _ _ h2y).trans rfl
  have y13 : w2.cell? ⟨x + 1, 13, none⟩ = some (.int .i64 iw) := (cell_of_row _ _ 13 _ _ _ h2y).trans rfl
  have y14 : w2.cell? ⟨x + 1, 14, none⟩ = some (.int .i64 no) := (cell_of_row _ _ 14 _ _ _ h2y).trans rfl
  have y15 : w2.cell? ⟨x + 1, 15, none⟩ = some (.int .i64 ow) := (cell_of_row _ _ 15 _ _ _ h2y).trans rfl
  have y18 : w2.cell? ⟨x + 1, 18, none⟩ = some (.int .i64 (-1)) := (cell_of_row _ _ 18 _ _ _ h2y).trans rfl
  have y84 : w2.cell? ⟨x + 1, 84, none⟩ = some (.int .i64 (-1)) := (cell_of_row _ _ 84 _ _ _ h2y).trans rfl
  have y85 : w2.cell? ⟨x + 1, 85, none⟩ = some (.int .i64 (-1)) := (cell_of_row _ _ 85 _ _ _ h2y).trans rfl
  have y86 : w2.cell? ⟨x + 1, 86, none⟩ = some (.int .i64 (-1)) := (cell_of_row _ _ 86 _ _ _ h2y).trans rfl
  have y87 : w2.cell? ⟨x + 1, 87, none⟩ = some (.bool false) := (cell_of_row _ _ 87 _ _ _ h2y).trans rfl
  have y88 : w2.cell? ⟨x + 1, 88, none⟩ = some (.bool false) := (cell_of_row _ _ 88 _ _ _ h2y).trans rfl
  clear h2x h2y
  go_wp2_with fail
  go_ret
  exact ⟨by simp, HB2.out⟩
end Go.Proofs.Ytbkimebmoafbnaa
