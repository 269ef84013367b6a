/-
  The walk of OctetPoints: it returns true. Conditions: the ints lie in memory, are no more than 2^44; the decoder's tables stand.
-/
import Derived.Test.YtfjbjcaccfcakaaDoorPtsC
namespace Go.Proofs.YtfjbjcaccfcakaaDoor
open Go.RowKit

theorem points_walk (w : World) (hT : Tabs w) (a : Option Addr) (n c : Nat) (l : List Int) (cut last : Int) (h : IntsIn .i64 w a n c l) (hz : n ≤ 17592186044416) (hcc : IsI64 cut) (hcl : IsI64 last) :
    Calls Tryd.prog 3 #[.slice a n c, .int .i64 cut, .int .i64 last] w fun e w' => e = .returned (.bool true) ∧ Below w.heap.size w w' :=
  (ptsA w a n c l cut last hz hcc hcl).2 (Lib.hid ((ptsB w a n c l cut last hz hcc hcl).2 (Lib.hid (ptsC w a n c l cut last hz hcc hcl)))) hT h
end Go.Proofs.YtfjbjcaccfcakaaDoor
