/-
  cmp.Compare, cmp.Or; the program's Order. Conditions: the values lie in memory.
-/
import Derived.Test.YtakbgekamjpibaaDoorVc
import Derived.Test.YtakbgekamjpibaaDoorShelf
namespace Go.Proofs.YtakbgekamjpibaaDoor
open Go.RowKit
set_option linter.unusedVariables false

theorem isNaN_int (a : Int) (w : World) : Calls Tryd.prog 69 #[.int .i64 a] w fun e w' => e = .returned (.bool false) ∧ w' = w := by
  go_enter Tryd.func69, Tryd.ntmps69
  go_wp2_with fail
  go_ret
  exact ⟨by simp, rfl⟩

theorem compare_int (a b : Int) (w : World) : Calls Tryd.prog 46 #[.int .i64 a, .int .i64 b] w fun e w' => e = .returned (.int .i64 (sgnZ a b)) ∧ w' = w := by
  by_cases h1 : a < b
  · rw [show sgnZ a b = -1 from by simp [sgnZ, h1]]
    have n1 := isNaN_int a w
    have n2 := isNaN_int b w
    go_enter Tryd.func46, Tryd.ntmps46
    go_wp2_with fail
    refine n1.mono ?_
    rintro e w' ⟨rfl, rfl⟩
    go_wp2_with fail
    refine n2.mono ?_
    rintro e w' ⟨rfl, rfl⟩
    go_wp2_with fail
    go_ret
    exact ⟨rfl, rfl⟩
  · by_cases h2 : b < a
    · rw [show sgnZ a b = 1 from by simp [sgnZ, h1, h2]]
      have n1 := isNaN_int a w
      have n2 := isNaN_int b w
      go_enter Tryd.func46, Tryd.ntmps46
      go_wp2_with fail
      refine n1.mono ?_
      rintro e w' ⟨rfl, rfl⟩
      go_wp2_with fail
      refine n2.mono ?_
      rintro e w' ⟨rfl, rfl⟩
      go_wp2_with fail
      go_ret
      exact ⟨rfl, rfl⟩
    · rw [show sgnZ a b = 0 from by simp [sgnZ, h1, h2]]
      have n1 := isNaN_int a w
      have n2 := isNaN_int b w
      go_enter Tryd.func46, Tryd.ntmps46
      go_wp2_with fail
      refine n1.mono ?_
      rintro e w' ⟨rfl, rfl⟩
      go_wp2_with fail
      refine n2.mono ?_
      rintro e w' ⟨rfl, rfl⟩
      go_wp2_with fail
      go_ret
      exact ⟨rfl, rfl⟩

theorem isNaN_uint64 (a : Int) (w : World) : Calls Tryd.prog 70 #[.int .u64 a] w fun e w' => e = .returned (.bool false) ∧ w' = w := by
  go_enter Tryd.func70, Tryd.ntmps70
  go_wp2_with fail
  go_ret
  exact ⟨by simp, rfl⟩

theorem compare_uint64 (a b : Int) (w : World) : Calls Tryd.prog 47 #[.int .u64 a, .int .u64 b] w fun e w' => e = .returned (.int .i64 (sgnZ a b)) ∧ w' = w := by
  by_cases h1 : a < b
  · rw [show sgnZ a b = -1 from by simp [sgnZ, h1]]
    have n1 := isNaN_uint64 a w
    have n2 := isNaN_uint64 b w
    go_enter Tryd.func47, Tryd.ntmps47
    go_wp2_with fail
    refine n1.mono ?_
    rintro e w' ⟨rfl, rfl⟩
    go_wp2_with fail
    refine n2.mono ?_
    rintro e w' ⟨rfl, rfl⟩
    go_wp2_with fail
    go_ret
    exact ⟨rfl, rfl⟩
  · by_cases h2 : b < a
    · rw [show sgnZ a b = 1 from by simp [sgnZ, h1, h2]]
      have n1 := isNaN_uint64 a w
      have n2 := isNaN_uint64 b w
      go_enter Tryd.func47, Tryd.ntmps47
      go_wp2_with fail
      refine n1.mono ?_
      rintro e w' ⟨rfl, rfl⟩
      go_wp2_with fail
      refine n2.mono ?_
      rintro e w' ⟨rfl, rfl⟩
      go_wp2_with fail
      go_ret
      exact ⟨rfl, rfl⟩
    · rw [show sgnZ a b = 0 from by simp [sgnZ, h1, h2]]
      have n1 := isNaN_uint64 a w
      have n2 := isNaN_uint64 b w
      go_enter Tryd.func47, Tryd.ntmps47
      go_wp2_with fail
      refine n1.mono ?_
      rintro e w' ⟨rfl, rfl⟩
      go_wp2_with fail
      refine n2.mono ?_
      rintro e w' ⟨rfl, rfl⟩
      go_wp2_with fail
      go_ret
      exact ⟨rfl, rfl⟩

theorem strcmp_any (a b : ByteArray) (w : World) : Calls Tryd.prog 48 #[.string a, .string b] w fun e w' => e = .returned (.int .i64 (cmpT a b)) ∧ w' = w := Tryd.strings_Compare a b w

/-- the first that is not 0 -/
def orL : List Int → Int
  | [] => 0
  | x :: r => thenZ x (orL r)
theorem orL_drop {l : List Int} {k : Nat} (h : k < l.length) : orL (l.drop k) = thenZ l[k] (orL (l.drop (k + 1))) := by rw [List.drop_eq_getElem_cons h, orL]

set_option maxRecDepth 20000 in
set_option maxHeartbeats 4000000 in
theorem or_any (w : World) (g c N : Nat) (l : List Int) (hN : l.length = N) (hc : N ≤ c) (hc2 : c ≤ 1000) (h : ∀ k (hk : k < l.length), w.cell? ⟨g, k, none⟩ = some (.int .i64 l[k])) :
    Calls Tryd.prog 45 #[.slice (some ⟨g, 0, none⟩) N c] w fun e w' => e = .returned (.int .i64 (orL l)) ∧ w' = w := by
  obtain ⟨D, hD⟩ : ∃ D, orL l = D := ⟨_, rfl⟩
  rw [hD]
  have HD := Lib.hid (show orL (l.drop 0) = D by rw [List.drop_zero, hD])
  have HN := Lib.hid hN
  have HC := Lib.hid h
  clear hN hD h
  go_enter Tryd.func45, Tryd.ntmps45
  go_wp2_with fail
  go_loopw [8] (fun v wr => ∃ k : Nat, k ≤ N ∧ v = .int .i64 k ∧ wr = w ∧ orL (l.drop k) = D) (fun v _ => N - (intOf v).toNat)
  case atStart => exact ⟨0, Nat.zero_le _, rfl, rfl, HD.out⟩
  case round =>
    obtain ⟨k, hk, rfl, rfl, hr⟩ := hrel
    have HR := Lib.hid hr
    clear hr
    by_cases hkN : (k : Int) < N
    · have hkl : k < l.length := by rw [HN.out]; omega
      have c0 := HC.out k hkl
      have hs := orL_drop hkl
      rw [HR.out] at hs
      generalize l[k] = y at c0 hs
      by_cases hy : y = 0
      · have HS := Lib.hid (show orL (l.drop (k + 1)) = D by rw [hs, hy]; simp [thenZ])
        have hyt : (y == 0) = true := by simpa using hy
        clear hs hy
        go_wp2_with fail
        go_roundw
        case rel => exact ⟨k + 1, by omega, by go_num, by first | rfl | trivial, HS.out⟩
        case measure => simp [intOf]; omega
      · have HS := Lib.hid (show D = y by rw [hs]; simp [thenZ, hy])
        have hyt : (y == 0) = false := by simpa using hy
        clear hs
        go_wp2_with fail
        go_ret
        exact ⟨by rw [HS.out]; rfl, by first | rfl | trivial⟩
    · have HS := Lib.hid (show D = 0 by rw [← HR.out, List.drop_eq_nil_of_le (by rw [HN.out]; omega)]; rfl)
      go_wp2_with fail
      go_ret
      exact ⟨by rw [HS.out]; rfl, by first | rfl | trivial⟩
end Go.Proofs.YtakbgekamjpibaaDoor
