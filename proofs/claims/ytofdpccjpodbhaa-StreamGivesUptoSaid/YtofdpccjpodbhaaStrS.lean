/-
  The stream's State. Conditions: the stream lies in a block of its own.
-/
import Derived.Test.YtofdpccjpodbhaaStr8
import Derived.Test.YtofdpccjpodbhaaApp
import Derived.Handy
import Derived.StillTailTactics
namespace Go.Proofs.Ytofdpccjpodbhaa
open Go.RowKit
set_option linter.unusedVariables false

/-- State -/
def SM.state (s : SM) : Value := .agg #[.int .i64 s.taken, .int .i64 s.held.length, .bool s.hdr, .int .i64 s.err, .int .i64 s.at_]

set_option maxRecDepth 20000 in
set_option maxHeartbeats 1000000 in
theorem state_any (w : World) (b B : Nat) (s : SM) (hv : Value) (hS : StS w b B s hv) :
    Calls Try.prog 34 #[.pointer (some ⟨b, 0, none⟩)] w fun e w' => e = .returned s.state ∧ Below w.heap.size w w' := by
  have ho := hS.ins.held
  have hrow := hS.ins.row
  obtain ⟨p, d, rfl, hb⟩ := ho.bytes
  have c1 : w.cell? ⟨b, 1, none⟩ = some (.slice p s.held.length d) := (cell_of_row _ _ 1 _ _ _ hrow).trans rfl
  have c2 : w.cell? ⟨b, 2, none⟩ = some (.int .i64 s.taken) := (cell_of_row _ _ 2 _ _ _ hrow).trans rfl
  have c3 : w.cell? ⟨b, 3, none⟩ = some (.int .i64 s.at_) := (cell_of_row _ _ 3 _ _ _ hrow).trans rfl
  have c6 : w.cell? ⟨b, 6, none⟩ = some (.bool s.hdr) := (cell_of_row _ _ 6 _ _ _ hrow).trans rfl
  have c8 : w.cell? ⟨b, 8, none⟩ = some (.int .i64 s.err) := (cell_of_row _ _ 8 _ _ _ hrow).trans rfl
  clear hS ho hrow hb
  unfold SM.state
  go_enter Try.func34, Try.ntmps34
  go_upto_region 1 with fail
  have k1 : (w.alloc (.cells #[.int .i64 0, .int .i64 0, .bool false, .int .i64 0, .int .i64 0] 49)).cell? ⟨b, 1, none⟩ = some (.slice p s.held.length d) := (World.cell?_of_block (heap_alloc_old w _ (cell_lt c1))).trans c1
  have k2 : (w.alloc (.cells #[.int .i64 0, .int .i64 0, .bool false, .int .i64 0, .int .i64 0] 49)).cell? ⟨b, 2, none⟩ = some (.int .i64 s.taken) := (World.cell?_of_block (heap_alloc_old w _ (cell_lt c2))).trans c2
  have k3 : (w.alloc (.cells #[.int .i64 0, .int .i64 0, .bool false, .int .i64 0, .int .i64 0] 49)).cell? ⟨b, 3, none⟩ = some (.int .i64 s.at_) := (World.cell?_of_block (heap_alloc_old w _ (cell_lt c3))).trans c3
  have k6 : (w.alloc (.cells #[.int .i64 0, .int .i64 0, .bool false, .int .i64 0, .int .i64 0] 49)).cell? ⟨b, 6, none⟩ = some (.bool s.hdr) := (World.cell?_of_block (heap_alloc_old w _ (cell_lt c6))).trans c6
  have k8 : (w.alloc (.cells #[.int .i64 0, .int .i64 0, .bool false, .int .i64 0, .int .i64 0] 49)).cell? ⟨b, 8, none⟩ = some (.int .i64 s.err) := (World.cell?_of_block (heap_alloc_old w _ (cell_lt c8))).trans c8
  have a1 : (w.alloc (.cells #[.int .i64 0, .int .i64 0, .bool false, .int .i64 0, .int .i64 0] 49)).heap[w.heap.size]? = some (.cells #[.int .i64 0, .int .i64 0, .bool false, .int .i64 0, .int .i64 0] 49 (0, 0)) := heap_alloc_new _ _
  have hb1 : Below w.heap.size w (w.alloc (.cells #[.int .i64 0, .int .i64 0, .bool false, .int .i64 0, .int .i64 0] 49)) := (Below.refl _ w).alloc (Nat.le_refl _) _
  generalize (w.alloc (.cells #[.int .i64 0, .int .i64 0, .bool false, .int .i64 0, .int .i64 0] 49)) = w1 at *
  clear c1 c2 c3 c6 c8
  have A1 := Lib.hid a1
  have HB1 := Lib.hid hb1
  clear a1 hb1
  have q0 : w1.cell? ⟨w.heap.size, 0, none⟩ = some (.int .i64 0) := (cell_of_row _ _ 0 _ _ _ A1.out).trans rfl
  have q1 : w1.cell? ⟨w.heap.size, 1, none⟩ = some (.int .i64 0) := (cell_of_row _ _ 1 _ _ _ A1.out).trans rfl
  have q2 : w1.cell? ⟨w.heap.size, 2, none⟩ = some (.bool false) := (cell_of_row _ _ 2 _ _ _ A1.out).trans rfl
  have q3 : w1.cell? ⟨w.heap.size, 3, none⟩ = some (.int .i64 0) := (cell_of_row _ _ 3 _ _ _ A1.out).trans rfl
  have q4 : w1.cell? ⟨w.heap.size, 4, none⟩ = some (.int .i64 0) := (cell_of_row _ _ 4 _ _ _ A1.out).trans rfl
  have fz : ∀ k, w1.frozen? ⟨w.heap.size, k, none⟩ = false := fun k => by have := A1.out; simp [World.frozen?, this]
  go_still_tail 22, (by kernel_rfl)
  change wpList _ _ _ _ _ w1.drew
  have A2 : w1.drew.heap[w.heap.size]? = some (.cells #[.int .i64 0, .int .i64 0, .bool false, .int .i64 0, .int .i64 0] 49 (0, 0)) := A1.out
  have hbd : Below w.heap.size w w1.drew := HB1.out.trans ⟨rfl, rfl, rfl, Nat.le_refl _, fun _ _ => rfl⟩
  generalize w1.drew = wd at *
  clear q0 q1 q2 q3 q4 fz A1 HB1
  have q0 : wd.cell? ⟨w.heap.size, 0, none⟩ = some (.int .i64 0) := (cell_of_row _ _ 0 _ _ _ A2).trans rfl
  have q1 : wd.cell? ⟨w.heap.size, 1, none⟩ = some (.int .i64 0) := (cell_of_row _ _ 1 _ _ _ A2).trans rfl
  have q2 : wd.cell? ⟨w.heap.size, 2, none⟩ = some (.bool false) := (cell_of_row _ _ 2 _ _ _ A2).trans rfl
  have q3 : wd.cell? ⟨w.heap.size, 3, none⟩ = some (.int .i64 0) := (cell_of_row _ _ 3 _ _ _ A2).trans rfl
  have q4 : wd.cell? ⟨w.heap.size, 4, none⟩ = some (.int .i64 0) := (cell_of_row _ _ 4 _ _ _ A2).trans rfl
  have fz : ∀ k, wd.frozen? ⟨w.heap.size, k, none⟩ = false := fun k => by simp [World.frozen?, A2]
  have HA2 := Lib.hid A2
  have HBD := Lib.hid hbd
  clear A2 hbd
  go_wp2_with fail
  have s0 := heap_setCell_same wd w.heap.size 0 _ _ (.int .i64 s.taken) HA2.out
  have s1 := heap_setCell_same _ w.heap.size 1 _ _ (.int .i64 s.held.length) s0
  have s2 := heap_setCell_same _ w.heap.size 2 _ _ (.bool s.hdr) s1
  have s3 := heap_setCell_same _ w.heap.size 3 _ _ (.int .i64 s.err) s2
  have s4 := heap_setCell_same _ w.heap.size 4 _ _ (.int .i64 s.at_) s3
  have b4 := ((((HBD.out.setCell (p := ⟨w.heap.size, 0, none⟩) (Nat.le_refl _) (.int .i64 s.taken)).setCell (p := ⟨w.heap.size, 1, none⟩) (Nat.le_refl _) (.int .i64 s.held.length)).setCell (p := ⟨w.heap.size, 2, none⟩) (Nat.le_refl _) (.bool s.hdr)).setCell (p := ⟨w.heap.size, 3, none⟩) (Nat.le_refl _) (.int .i64 s.err)).setCell (p := ⟨w.heap.size, 4, none⟩) (Nat.le_refl _) (.int .i64 s.at_)
  refine bodyPost_ret (results_cell_row rfl _ _ w.heap.size _ _ _ _ rfl s4 Try.underlying49 rfl (by kernel_rfl)) rfl ?_
  exact ⟨rfl, b4⟩
end Go.Proofs.Ytofdpccjpodbhaa
