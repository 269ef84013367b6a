/-
  Contracts of octet.Add, Gap, Before: the numbers of the chapter, for every two ints. No conditions but that an int is one.
-/
import Derived.Test.YtcbjfakkikjbkaaVm
import Derived.Test.YtcbjfakkikjbkaaRows
namespace Go.Proofs.Ytcbjfakkikjbkaa
open Go.RowKit
set_option linter.all false

def addS (a n : Int) : Int := (a % 4294967296 + n % 4294967296) % 4294967296
def gapS (a b : Int) : Int := ((b % 4294967296 - a % 4294967296) % 4294967296 + 2147483648) % 4294967296 - 2147483648
theorem addS_bd (a n : Int) : 0 ≤ addS a n ∧ addS a n < 4294967296 := by unfold addS; omega
theorem gapS_bd (a b : Int) : -2147483648 ≤ gapS a b ∧ gapS a b < 2147483648 := by unfold gapS; omega

theorem ret_i64 {a b : Int} (h : a = b) : Ending.returned (.int .i64 a) = .returned (.int .i64 b) := by rw [h]
theorem ret_bool {a b : Bool} (h : a = b) : Ending.returned (.bool a) = .returned (.bool b) := by rw [h]

theorem add_any (a n : Int) (w : World) (ha : IsI64 a) (hn : IsI64 n) :
    Calls Try.prog 33 #[.int .i64 a, .int .i64 n] w fun e w' => e = .returned (.int .i64 (addS a n)) ∧ w = w' := by
  obtain ⟨ha1, ha2⟩ := ha
  obtain ⟨hn1, hn2⟩ := hn
  go_enter Try.func33, Try.ntmps33
  go_wp2
  go_ret
  refine ⟨ret_i64 ?_, rfl⟩
  unfold addS
  omega

theorem gap_any (a b : Int) (w : World) (ha : IsI64 a) (hb : IsI64 b) :
    Calls Try.prog 37 #[.int .i64 a, .int .i64 b] w fun e w' => e = .returned (.int .i64 (gapS a b)) ∧ w = w' := by
  obtain ⟨ha1, ha2⟩ := ha
  obtain ⟨hb1, hb2⟩ := hb
  go_enter Try.func37, Try.ntmps37
  go_wp2
  go_ret
  refine ⟨ret_i64 ?_, rfl⟩
  unfold gapS wrap64 wrap32
  omega

end Go.Proofs.Ytcbjfakkikjbkaa
