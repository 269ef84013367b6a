/-
  The walk of MessageNames: it returns true. No conditions.
-/
import Derived.Test.YtfjbjcaccfcakaaNamesB
namespace Go.Proofs.Ytfjbjcaccfcakaa
open Go.RowKit

theorem names_walk (w : World) :
    Calls Try.prog 3 #[] w fun e w' => e = .returned (.bool true) ∧ Below w.heap.size w w' :=
  (namesA w).2 (Lib.hid (namesB w))
end Go.Proofs.Ytfjbjcaccfcakaa
