/-
  cmp.Compare, cmp.Or; the program's Order. Conditions: the values lie in memory.
-/
import Derived.Test.YtcbjfakkikjbkaaVc
namespace Go.Proofs.Ytcbjfakkikjbkaa
open Go.RowKit
set_option linter.all false

/-- the first that is not 0 -/
def orL : List Int → Int
  | [] => 0
  | x :: r => thenZ x (orL r)
theorem orL_drop {l : List Int} {k : Nat} (h : k < l.length) : orL (l.drop k) = thenZ l[k] (orL (l.drop (k + 1))) := by rw [List.drop_eq_getElem_cons h, orL]

end Go.Proofs.Ytcbjfakkikjbkaa
