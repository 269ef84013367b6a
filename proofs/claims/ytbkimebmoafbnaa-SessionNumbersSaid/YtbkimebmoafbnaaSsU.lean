/-
  SessionNumbers' walk. No conditions.
-/
import Derived.Test.YtbkimebmoafbnaaSsL
namespace Go.Proofs.Ytbkimebmoafbnaa
open Go.RowKit Go.Maps
set_option linter.unusedVariables false

theorem numbers_walk (w : World) :
    Calls Try.prog 3 #[] w fun e w' => e = .returned (.bool true) ∧ Below w.heap.size w w' := by
  have hl := live_any w
  go_enter Try.func3, Try.ntmps3
  go_wp2_with fail
  refine hl.mono ?_
  clear hl
  rintro e w1 ⟨rfl, hb⟩
  have HB := Lib.hid hb
  clear hb
  go_wp2_with fail
  go_ret
  exact ⟨rfl, HB.out⟩
end Go.Proofs.Ytbkimebmoafbnaa
