/-
  Lemmas on the codec. Conditions: as each says.
-/
import Derived.Test.YtnnnfhobbnjmfaaGreatDoorEn04
import Derived.Lib.LaidU8
import Derived.PinnedBridge
import Derived.Test.YtnnnfhobbnjmfaaGreatDoorRows
namespace Go.Proofs.YtnnnfhobbnjmfaaGreatDoor
open Go.RowKit
set_option maxRecDepth 100000

theorem accept_eq : (Rows.laid_unicode_utf8_acceptRanges : DataW Unit) = Lib.acceptData := by kernel_rfl
theorem tabs_of {W : World} (hL : laidMetH Tryz.prog [("unicode/utf8.acceptRanges", Rows.laid_unicode_utf8_acceptRanges), ("unicode/utf8.first", Rows.laid_unicode_utf8_first)] W) : Tabs W := by
  have h3 := Lib.laidMet.reads hL (.tail _ (.head _))
  have h4 := Lib.laidMet.reads hL (.head _)
  have e3 : Rows.laid_unicode_utf8_first = Lib.firstData := Pinned.utf8First_eq
  rw [e3] at h3
  rw [accept_eq] at h4
  exact utf8Tabs_of_reads Tryz.lays260 ⟨by kernel_rfl, by kernel_rfl, by kernel_rfl, by kernel_rfl, by kernel_rfl, by kernel_rfl, by kernel_rfl⟩ h3 h4

def putTab (vals : Array Value) : Obj → Obj
  | .cells _ t frozen => .cells vals t frozen
  | o => o
noncomputable def laidWorld (os : Os) : World :=
  { World.holding Tryz.prog os ⟨#[], #[], []⟩ with
    heap := ((World.holding Tryz.prog os ⟨#[], #[], []⟩).heap.modify 0 (putTab ((List.range 256).map fun c => (Value.int .u8 (Lib.firstT c : Int))).toArray)).modify 1 (putTab ((List.range 32).map fun c => (Value.int .u8 ((if c % 2 = 0 then Lib.accLo (c / 2) else Lib.accHi (c / 2) : Nat) : Int))).toArray) }
end Go.Proofs.YtnnnfhobbnjmfaaGreatDoor

namespace Go.Proofs.YtnnnfhobbnjmfaaGreatDoor
end Go.Proofs.YtnnnfhobbnjmfaaGreatDoor
