/-
  A perform's cells; the first Begin, a Begin of a step. No conditions.
-/
import Derived.Test.YtbkimebmoafbnaaLib
import Derived.Test.YtbkimebmoafbnaaRows
import Derived.Deep.DeepCutAuto
import Derived.StillTailTactics
import Derived.Deep.QuietTactic
import Derived.BigQuiet
import Derived.Laws.CopyOwn
import Derived.Laws.Tables
import Derived.Laws.Rows
import Derived.Great.BuildSlice
namespace Go.Proofs.Ytbkimebmoafbnaa
open Go.RowKit
set_option linter.unusedVariables false

def valL : List Value := [.int .i64 0, .int .u64 0, .string ⟨#[]⟩, .slice none 0 0, .int .i64 0]
def faultL : List Value := [.string ⟨#[]⟩, .string ⟨#[]⟩] ++ valL
def stateL : List Value := [.int .i64 0, .int .i64 0, .int .i64 0] ++ faultL ++ [.bool false, .bool false] ++ valL ++ [.string ⟨#[]⟩, .slice none 0 0]
def termL : List Value := [.int .i64 0, .string ⟨#[]⟩, .int .i64 0, .int .i64 0, .int .i64 0, .bool false, .int .i64 0, .string ⟨#[]⟩] ++ stateL ++ [.slice none 0 0, .slice none 0 0]
/-- a perform that tells a session's fields; all else is nought -/
def perfL (k re ni iw no ow hm hd ct cr av : Int) (dr : Bool) : List Value :=
  [.int .i64 k, .string ⟨#[]⟩, .string ⟨#[]⟩, .int .i64 0, .int .i64 0, .int .i64 0] ++ valL ++ [.int .i64 re, .int .i64 ni, .int .i64 iw, .int .i64 no, .int .i64 ow, .int .i64 hm, .string ⟨#[]⟩, .int .i64 hd, .bool false, .int .i64 0, .int .i64 0] ++ termL ++ termL ++
    [.slice none 0 0, .bool false, .int .i64 0, .int .i64 0, .int .i64 ct, .int .i64 cr, .int .i64 av, .bool dr, .bool false, .int .i64 0, .bool false, .string ⟨#[]⟩, .int .i64 0, .bool false, .bool false, .bool false, .bool false, .bool false, .bool false] ++ stateL ++
    [.int .i64 0, .int .i64 0, .bool false] ++ faultL
def perfC (k re ni iw no ow hm hd ct cr av : Int) (dr : Bool) : Array Value := (perfL k re ni iw no ow hm hd ct cr av dr).toArray
def perfZ : Array Value := perfC 0 0 0 0 0 0 0 0 0 0 0 false
theorem perf_size (k re ni iw no ow hm hd ct cr av : Int) (dr : Bool) : (perfC k re ni iw no ow hm hd ct cr av dr).size = 128 := by
  simp [perfC, perfL, valL, faultL, stateL, termL]

/-- the first Begin -/
def firstC : Array Value := perfC 17 0 0 2 5 10 1 0 0 0 0 false

set_option maxRecDepth 20000 in
set_option maxHeartbeats 4000000 in
theorem first_any (w : World) :
    Calls Try.prog 17 #[] w fun e w' => e = .returned (.agg firstC) ∧ Below w.heap.size w w' := by
  go_enter Try.func17, Try.ntmps17
  go_upto_region 1 with fail
  change Code.wp _ _ _ _ (w.alloc (.cells perfZ 39))
  have h0 : (w.alloc (.cells perfZ 39)).heap[w.heap.size]? = some (.cells perfZ 39 (0, 0)) := heap_alloc_new _ _
  have hb : Below w.heap.size w (w.alloc (.cells perfZ 39)) := (Below.refl _ _).alloc (Nat.le_refl _) _
  generalize (w.alloc (.cells perfZ 39)) = w0 at *
  obtain ⟨x, hx⟩ : ∃ x, w.heap.size = x := ⟨_, rfl⟩
  have HX := Lib.hid hx
  rw [hx] at h0 ⊢
  clear hx
  go_wp2_with (first
    | (refine wpList_buildTo rfl 39 _ rfl (some 1) rfl firstC (by as_aux_lemma => kernel_rfl) ?_)
    | (refine wpList_store_rowTo rfl 39 (.tmp 0) (.tmp 1) rfl rfl x firstC rfl rfl 39 perfZ h0 (by as_aux_lemma => kernel_rfl) (by as_aux_lemma => kernel_rfl) (by as_aux_lemma => kernel_rfl) ?_))
  have hh := setRow_heap w0 x _ firstC _ _ h0
  have hB := below_setRow hb (show w.heap.size ≤ x by rw [HX.out]; exact Nat.le_refl _) firstC
  refine bodyPost_ret (results_cell_row (p := 0) (ty := 39) (by kernel_rfl) _ _ x 39 firstC (0, 0) _ rfl hh Try.underlying39 rfl (by as_aux_lemma => kernel_rfl)) rfl ?_
  exact ⟨rfl, hB⟩
end Go.Proofs.Ytbkimebmoafbnaa
