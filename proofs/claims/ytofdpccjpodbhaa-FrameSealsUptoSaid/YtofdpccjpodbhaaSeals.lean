/-
  The walk of FrameSeals: it returns true. Conditions: the rows lie in memory and are not past 2^20 bytes.
-/
import Derived.Test.YtofdpccjpodbhaaSealsD
import Derived.Test.YtofdpccjpodbhaaSealsG
namespace Go.Proofs.Ytofdpccjpodbhaa
open Go.RowKit

theorem seals_walk (w : World) (T C : Int) (ea : Option Addr) (ne ce : Nat) (ext : List UInt8) (ba : Option Addr) (nb cb : Nat) (body : List UInt8) (T' C' : Int) (ea' : Option Addr) (ne' ce' : Nat) (ext' : List UInt8) (ba' : Option Addr) (nb' cb' : Nat) (body' : List UInt8) (z1 : ne ≤ 1048576) (z2 : nb ≤ 1048576) (y1 : ne' ≤ 1048576) (y2 : nb' ≤ 1048576)
    (h1 : BytesIn w ea ne ce ext) (h2 : BytesIn w ba nb cb body) (h3 : BytesIn w ea' ne' ce' ext') (h4 : BytesIn w ba' nb' cb' body') :
    Calls Try.prog 3 #[.agg #[.int .i64 T, .int .i64 C, .slice ea ne ce, .slice ba nb cb], .agg #[.int .i64 T', .int .i64 C', .slice ea' ne' ce', .slice ba' nb' cb']] w fun e w' => e = .returned (.bool true) ∧ Below w.heap.size w w' :=
  (sealsA w T C ea ne ce ext ba nb cb body T' C' ea' ne' ce' ext' ba' nb' cb' body' z1 z2 y1 y2).2 (Lib.hid ((sealsB w T C ea ne ce ext ba nb cb body T' C' ea' ne' ce' ext' ba' nb' cb' body' z1 z2 y1 y2).2 (Lib.hid ((sealsC w T C ea ne ce ext ba nb cb body T' C' ea' ne' ce' ext' ba' nb' cb' body' z1 z2 y1 y2).2.2 (Lib.hid (sealsD w T C ea ne ce ext ba nb cb body T' C' ea' ne' ce' ext' ba' nb' cb' body' z1 z2 y1 y2)) (Lib.hid ((sealsE w T C ea ne ce ext ba nb cb body T' C' ea' ne' ce' ext' ba' nb' cb' body' z1 z2 y1 y2).2 (Lib.hid ((sealsF w T C ea ne ce ext ba nb cb body T' C' ea' ne' ce' ext' ba' nb' cb' body' z1 z2 y1 y2).2 (Lib.hid (sealsG w T C ea ne ce ext ba nb cb body T' C' ea' ne' ce' ext' ba' nb' cb' body' z1 z2 y1 y2))))))))))  h1 h2 h3 h4
end Go.Proofs.Ytofdpccjpodbhaa
