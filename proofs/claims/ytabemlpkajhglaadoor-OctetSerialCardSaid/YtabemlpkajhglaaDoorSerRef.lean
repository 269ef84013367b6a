/-
  Contracts of the reference's cut, Add, Gap, Before: the same numbers as octet's. No conditions but that an int is one.
-/
import Derived.Test.YtabemlpkajhglaaDoorSer
namespace Go.Proofs.YtabemlpkajhglaaDoor
open Go.RowKit
set_option linter.unusedVariables false

theorem cut_any (a : Int) (w : World) (ha : IsI64 a) :
    Calls Tryd.prog 41 #[.int .i64 a] w fun e w' => e = .returned (.int .i64 (a % 4294967296)) ∧ w = w' := by
  obtain ⟨ha1, ha2⟩ := ha
  by_cases h : a.tmod 4294967296 < 0
  · go_enter Tryd.func41, Tryd.ntmps41
    go_wp2
    go_ret
    refine ⟨ret_i64 ?_, rfl⟩
    have h2 := Int.tmod_eq_emod (a := a) (b := 4294967296)
    unfold wrap64
    split at h2 <;> omega
  · go_enter Tryd.func41, Tryd.ntmps41
    go_wp2
    go_ret
    refine ⟨ret_i64 ?_, rfl⟩
    have h2 := Int.tmod_eq_emod (a := a) (b := 4294967296)
    split at h2 <;> omega

theorem refAdd_any (a n : Int) (w : World) (ha : IsI64 a) (hn : IsI64 n) :
    Calls Tryd.prog 33 #[.int .i64 a, .int .i64 n] w fun e w' => e = .returned (.int .i64 (addS a n)) ∧ w = w' := by
  go_enter Tryd.func33, Tryd.ntmps33
  go_wp2_with fail
  obtain ⟨x, hx, h11, h12⟩ : ∃ x, a % 4294967296 = x ∧ 0 ≤ x ∧ x < 4294967296 := ⟨_, rfl, by omega, by omega⟩
  obtain ⟨y, hy, h21, h22⟩ : ∃ y, n % 4294967296 = y ∧ 0 ≤ y ∧ y < 4294967296 := ⟨_, rfl, by omega, by omega⟩
  have HX := Lib.hid hx
  have HY := Lib.hid hy
  clear hx hy
  refine (cut_any a w ha).mono ?_
  rintro e w' ⟨rfl, rfl⟩
  rw [HX.out]
  go_wp2_with fail
  refine (cut_any n w hn).mono ?_
  rintro e w' ⟨rfl, rfl⟩
  rw [HY.out]
  go_wp2_with fail
  go_ret
  exact ⟨ret_i64 (by unfold addS; rw [HX.out, HY.out]), rfl⟩

theorem refGap_any (a b : Int) (w : World) (ha : IsI64 a) (hb : IsI64 b) :
    Calls Tryd.prog 34 #[.int .i64 a, .int .i64 b] w fun e w' => e = .returned (.int .i64 (gapS a b)) ∧ w = w' := by
  go_enter Tryd.func34, Tryd.ntmps34
  go_wp2_with fail
  obtain ⟨x, hx, h11, h12⟩ : ∃ x, a % 4294967296 = x ∧ 0 ≤ x ∧ x < 4294967296 := ⟨_, rfl, by omega, by omega⟩
  obtain ⟨y, hy, h21, h22⟩ : ∃ y, b % 4294967296 = y ∧ 0 ≤ y ∧ y < 4294967296 := ⟨_, rfl, by omega, by omega⟩
  have HX := Lib.hid hx
  have HY := Lib.hid hy
  clear hx hy
  refine (cut_any a w ha).mono ?_
  rintro e w' ⟨rfl, rfl⟩
  rw [HX.out]
  go_wp2_with fail
  refine (cut_any b w hb).mono ?_
  rintro e w' ⟨rfl, rfl⟩
  rw [HY.out]
  by_cases c1 : 2147483648 ≤ y - x
  · go_wp2_with fail
    go_ret
    exact ⟨ret_i64 (by unfold gapS; rw [HX.out, HY.out]; omega), rfl⟩
  · by_cases c2 : y - x < -2147483648
    · go_wp2_with fail
      go_ret
      exact ⟨ret_i64 (by unfold gapS; rw [HX.out, HY.out]; omega), rfl⟩
    · go_wp2_with fail
      go_ret
      exact ⟨ret_i64 (by unfold gapS; rw [HX.out, HY.out]; omega), rfl⟩

theorem refBefore_any (a b : Int) (w : World) (ha : IsI64 a) (hb : IsI64 b) :
    Calls Tryd.prog 35 #[.int .i64 a, .int .i64 b] w fun e w' => e = .returned (.bool (decide (0 < gapS a b))) ∧ w = w' := by
  go_enter Tryd.func35, Tryd.ntmps35
  go_wp2_with fail
  refine (refGap_any a b w ha hb).mono ?_
  rintro e w' ⟨rfl, rfl⟩
  go_wp2_with fail
  go_ret
  exact ⟨rfl, rfl⟩
end Go.Proofs.YtabemlpkajhglaaDoor
