/-
  The walk of FrameBack: it returns true. Conditions: the slices lie in memory and are not past 2^20 elements, the numbers are ones.
-/
import Derived.Test.YtofdpccjpodbhaaFbackB
import Derived.Test.YtofdpccjpodbhaaFbackE
namespace Go.Proofs.Ytofdpccjpodbhaa
open Go.RowKit

theorem fback_walk (w : World) (a0 a1 a2 a3 : Option Addr) (n0 n1 n2 n3 c0 c1 c2 c3 : Nat) (L : List FrIn) (pr : List Int) (l2 l3 : List UInt8) (cut : Int)
    (hL : FramesIn w a0 n0 c0 L) (hp : IntsIn .i64 w a1 n1 c1 pr) (h2 : BytesIn w a2 n2 c2 l2) (h3 : BytesIn w a3 n3 c3 l3) (hc1 : -9223372036854775808 ≤ cut) (hc2 : cut ≤ 9223372036854775807) (z0 : n0 ≤ 1048576) (z1 : n1 ≤ 1048576) (z2 : n2 ≤ 1048576) (z3 : n3 ≤ 1048576) :
    Calls Try.prog 6 #[.slice a0 n0 c0, .slice a1 n1 c1, .slice a2 n2 c2, .slice a3 n3 c3, .int .i64 cut] w fun e w' => e = .returned (.bool true) ∧ Below w.heap.size w w' :=
  (fbackA w a0 a1 a2 a3 n0 n1 n2 n3 c0 c1 c2 c3 L pr l2 l3 cut hc1 hc2 z0 z1 z2 z3).2.2 (Lib.hid (fbackB w a0 a1 a2 a3 n0 n1 n2 n3 c0 c1 c2 c3 L pr l2 l3 cut hc1 hc2 z0 z1 z2 z3)) (Lib.hid ((fbackC w a0 a1 a2 a3 n0 n1 n2 n3 c0 c1 c2 c3 L pr l2 l3 cut hc1 hc2 z0 z1 z2 z3).2 (Lib.hid ((fbackD w a0 a1 a2 a3 n0 n1 n2 n3 c0 c1 c2 c3 L pr l2 l3 cut hc1 hc2 z0 z1 z2 z3).2 (Lib.hid (fbackE w a0 a1 a2 a3 n0 n1 n2 n3 c0 c1 c2 c3 L pr l2 l3 cut hc1 hc2 z0 z1 z2 z3)))))) hL hp h2 h3
end Go.Proofs.Ytofdpccjpodbhaa
