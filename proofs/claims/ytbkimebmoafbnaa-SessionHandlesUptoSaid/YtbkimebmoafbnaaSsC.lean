/-
  The closures that a session hands to the library; cmp.Compare. No conditions.
-/
import Derived.Test.YtbkimebmoafbnaaSsD
import Derived.Test.YtbkimebmoafbnaaShf
namespace Go.Proofs.Ytbkimebmoafbnaa
open Go.RowKit Go.Maps Go.Sort Go.Shelf
set_option linter.unusedVariables false

theorem gap_all (a b : Int) (w : World) :
    Calls Try.prog 39 #[.int .i64 a, .int .i64 b] w fun e w' => e = .returned (.int .i64 (gapS a b)) ∧ w = w' := by
  go_enter Try.func39, Try.ntmps39
  go_wp2
  go_ret
  refine ⟨ret_i64 ?_, rfl⟩
  unfold gapS wrap64 wrap32
  omega

theorem isNaN_any (a : Int) (w : World) : Calls Try.prog 86 #[.int .i64 a] w fun e w' => e = .returned (.bool false) ∧ w' = w := by
  go_enter Try.func86, Try.ntmps86
  go_wp2
  go_ret
  exact ⟨by simp, rfl⟩

def cmpZ (a b : Int) : Int := if a < b then -1 else if b < a then 1 else 0

theorem compare_any (a b : Int) (w : World) : Calls Try.prog 62 #[.int .i64 a, .int .i64 b] w fun e w' => e = .returned (.int .i64 (cmpZ a b)) ∧ w' = w := by
  obtain ⟨r, hr⟩ : ∃ r, cmpZ a b = r := ⟨_, rfl⟩
  rw [hr]
  have HR := Lib.hid hr
  clear hr
  go_enter Try.func62, Try.ntmps62
  go_wp2_with fail
  refine (isNaN_any a w).mono ?_
  rintro e w1 ⟨rfl, rfl⟩
  go_wp2_with fail
  refine (isNaN_any b w1).mono ?_
  rintro e w2 ⟨rfl, rfl⟩
  by_cases h1 : a < b
  · have HC := Lib.hid (show cmpZ a b = -1 by rw [cmpZ, if_pos h1])
    go_wp2_with fail
    go_ret
    exact ⟨by rw [← HR.out, HC.out]; simp, rfl⟩
  · by_cases h2 : b < a
    · have HC := Lib.hid (show cmpZ a b = 1 by rw [cmpZ, if_neg h1, if_pos h2])
      go_wp2_with fail
      go_ret
      exact ⟨by rw [← HR.out, HC.out]; simp, rfl⟩
    · have HC := Lib.hid (show cmpZ a b = 0 by rw [cmpZ, if_neg h1, if_neg h2])
      go_wp2_with fail
      go_ret
      exact ⟨by rw [← HR.out, HC.out]; simp, rfl⟩

/-- what is not told -/
def outR (first many x : Int) : Bool := decide (gapS first x < 0 ∨ many < gapS first x)

theorem from1_any (first many x : Int) (b4 b5 : Nat) (w : World) (h4 : w.cell? ⟨b4, 0, none⟩ = some (.int .i64 first)) (h5 : w.cell? ⟨b5, 0, none⟩ = some (.int .i64 many)) :
    FnGives Try.prog 59 #[.pointer (some ⟨b4, 0, none⟩), .pointer (some ⟨b5, 0, none⟩)] #[.int .i64 x] (.bool (outR first many x)) w := by
  show Calls Try.prog 59 #[.int .i64 x, .pointer (some ⟨b4, 0, none⟩), .pointer (some ⟨b5, 0, none⟩)] w _
  obtain ⟨r, hr⟩ : ∃ r, outR first many x = r := ⟨_, rfl⟩
  rw [hr]
  have HR := Lib.hid hr
  clear hr
  have hg := gap_all first x w
  go_enter Try.func59, Try.ntmps59
  go_wp2_with fail
  refine hg.mono ?_
  clear hg
  rintro e w1 ⟨rfl, rfl⟩
  unfold outR at HR
  generalize gapS first x = g at *
  by_cases h1 : g < 0
  · go_wp2_with fail
    go_ret
    exact ⟨by rw [← HR.out]; simp [h1], 0, rfl⟩
  · go_wp2_with fail
    go_ret
    exact ⟨by rw [← HR.out]; simp, 0, rfl⟩

set_option maxHeartbeats 2000000 in
set_option maxRecDepth 20000 in
theorem from2_any (first x y : Int) (b4 : Nat) (w : World) (h4 : w.cell? ⟨b4, 0, none⟩ = some (.int .i64 first)) :
    Calls Try.prog 61 #[.int .i64 x, .int .i64 y, .pointer (some ⟨b4, 0, none⟩)] w fun e w' => e = .returned (.int .i64 (cmpZ (gapS first x) (gapS first y))) ∧ ∃ q, w' = w.drewN q := by
  go_enter Try.func61, Try.ntmps61
  go_upto_region 1 with fail
  go_quiet (first
    | (go_at_call 62; exact Calls.quiet_of_same (compare_any _ _ _))
    | (go_at_call 39; exact Calls.quiet_of_same ((gap_all first _ _).mono fun e w' ⟨h1, h2⟩ => ⟨h1, h2.symm⟩)))
  go_wp2_with fail
  go_ret
  exact ⟨rfl, _, rfl⟩
end Go.Proofs.Ytbkimebmoafbnaa
