/-
  The walk of FrameOpens: it returns true. Conditions: the bytes lie in memory and are not past 2^20 bytes, the numbers are ones.
-/
import Derived.Test.YtofdpccjpodbhaaOpensD
import Derived.Test.YtofdpccjpodbhaaOpensE
namespace Go.Proofs.Ytofdpccjpodbhaa
open Go.RowKit

theorem opens_walk (w : World) (a : Option Addr) (n c : Nat) (l : List UInt8) (at_ most other : Int) (h : BytesIn w a n c l) (hz : n ≤ 1048576) :
    Calls Try.prog 4 #[.slice a n c, .int .i64 at_, .int .i64 most, .int .i64 other] w fun e w' => e = .returned (.bool true) ∧ Below w.heap.size w w' :=
  (opensA w a n c l at_ most other hz).2.2 (Lib.hid (opensB w a n c l at_ most other hz)) (Lib.hid ((opensC w a n c l at_ most other hz).2.2 (Lib.hid (opensD w a n c l at_ most other hz)) (Lib.hid (opensE w a n c l at_ most other hz)))) h
end Go.Proofs.Ytofdpccjpodbhaa
