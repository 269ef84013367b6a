/-
  The walk of OctetRound: it returns true. Condition: the decoder's tables stand, an int is one.
-/
import Derived.Test.YtabemlpkajhglabDoorLive
namespace Go.Proofs.YtabemlpkajhglabDoor
open Go.RowKit
set_option linter.unusedVariables false

theorem round_to (a b : Int) : addS a (gapS a b) = addS b 0 := by unfold addS gapS; omega
theorem round_in (a n : Int) (h1 : -2147483648 ≤ n) (h2 : n ≤ 2147483647) : gapS a (addS a n) = n := by unfold addS gapS; omega
theorem round_same (a b : Int) (h : addS a 0 = addS b 0) : gapS a b = 0 ∧ gapS b a = 0 := by unfold addS at h; unfold gapS; omega
theorem round_half (a b : Int) (h : gapS a b = -2147483648) : gapS b a = -2147483648 := by unfold gapS at *; omega
theorem round_one (a b : Int) (h : addS a 0 ≠ addS b 0) (hh : gapS a b ≠ -2147483648) : (0 < gapS a b ∧ ¬ 0 < gapS b a) ∨ (¬ 0 < gapS a b ∧ 0 < gapS b a) := by unfold addS at h; unfold gapS at *; omega
theorem i64_of_add (a n : Int) : IsI64 (addS a n) := by have := addS_bd a n; unfold IsI64; omega
theorem i64_of_gap (a n : Int) : IsI64 (gapS a n) := by have := gapS_bd a n; unfold IsI64; omega

set_option maxHeartbeats 2000000 in
theorem round_walk (w : World) (hT : Tabs w) (a b n : Int) (ha : IsI64 a) (hb : IsI64 b) (hn : IsI64 n) :
    Calls Tryd.prog 3 #[.int .i64 a, .int .i64 b, .int .i64 n] w fun e w' => e = .returned (.bool true) ∧ Below w.heap.size w w' := by
  go_enter Tryd.func3, Tryd.ntmps3
  go_wp2_with fail
  refine (live_any w hT).mono ?_
  rintro e w1 ⟨rfl, hbl⟩
  go_wp2_with fail
  refine (add_any a 0 _ ha (by unfold IsI64; omega)).mono ?_
  rintro e w2 ⟨rfl, rfl⟩
  go_wp2_with fail
  refine (add_any b 0 _ hb (by unfold IsI64; omega)).mono ?_
  rintro e w2 ⟨rfl, rfl⟩
  go_wp2_with fail
  refine (gap_any a b _ ha hb).mono ?_
  rintro e w2 ⟨rfl, rfl⟩
  go_wp2_with fail
  refine (add_any a (gapS a b) _ ha (i64_of_gap _ _)).mono ?_
  rintro e w2 ⟨rfl, rfl⟩
  rw [round_to]
  have hx := addS_bd a 0
  have hg := gapS_bd a b
  have HR := Lib.hid (round_one a b)
  have HS := Lib.hid (round_same a b)
  have HH := Lib.hid (round_half a b)
  have HI := Lib.hid (round_in a n)
  have hba := (before_any a b w1 ha hb)
  have hbb := (before_any b a w1 hb ha)
  have hga := gap_any a (addS a n) w1 ha (i64_of_add a n)
  have had := add_any a n w1 ha hn
  have hg2 := gapS_bd a (addS a n)
  have hz2 := addS_bd a n
  obtain ⟨x, hxx⟩ : ∃ x, addS a 0 = x := ⟨_, rfl⟩
  obtain ⟨y, hyy⟩ : ∃ y, addS b 0 = y := ⟨_, rfl⟩
  obtain ⟨g, hgg⟩ : ∃ g, gapS a b = g := ⟨_, rfl⟩
  obtain ⟨g', hgg'⟩ : ∃ g', gapS b a = g' := ⟨_, rfl⟩
  obtain ⟨z, hzz⟩ : ∃ z, addS a n = z := ⟨_, rfl⟩
  obtain ⟨d, hdd⟩ : ∃ d, gapS a z = d := ⟨_, rfl⟩
  rw [hzz] at had hga hg2 hz2 HI
  rw [hdd] at hga hg2 HI
  rw [hxx] at hx HR HS ⊢
  rw [hyy] at HR HS ⊢
  rw [hgg] at hg HR HS HH hba ⊢
  rw [hgg'] at HR HS HH hbb
  clear hxx hyy hgg hgg' hzz hdd
  have HA := Lib.hid hba
  have HB := Lib.hid hbb
  have HG := Lib.hid hga
  have HD := Lib.hid had
  clear hba hbb hga had
  have hx1 : ¬ x < 0 := by omega
  have hx2 : ¬ 4294967295 < x := by omega
  have hg1 : ¬ g < -2147483648 := by omega
  have hg3 : ¬ 2147483647 < g := by omega
  go_wp2_with fail
  refine HD.out.mono ?_
  rintro e w2 ⟨rfl, rfl⟩
  go_wp2_with fail
  refine HG.out.mono ?_
  rintro e w2 ⟨rfl, rfl⟩
  have hin : -2147483648 ≤ n → n ≤ 2147483647 → d = n := HI.out
  have hcase : (n < -2147483648) ∨ (¬ n < -2147483648 ∧ 2147483647 < n) ∨ (¬ n < -2147483648 ∧ ¬ 2147483647 < n ∧ d = n) := by
    by_cases h1 : n < -2147483648
    · exact .inl h1
    · by_cases h2 : 2147483647 < n
      · exact .inr (.inl ⟨h1, h2⟩)
      · exact .inr (.inr ⟨h1, h2, hin (by omega) (by omega)⟩)
  clear hin
  have hfin : (((x == y) = true ∧ decide (0 < g) = false ∧ decide (0 < g') = false) ∨ ((x == y) = false ∧ (g == -2147483648) = true ∧ decide (0 < g) = false ∧ decide (0 < g') = false)) ∨ ((x == y) = false ∧ (g == -2147483648) = false ∧ decide (0 < g) = !decide (0 < g')) := by
    by_cases h1 : x = y
    · obtain ⟨e1, e2⟩ := HS.out h1
      subst e1 e2
      exact .inl (.inl ⟨by simp [h1], by decide, by decide⟩)
    · by_cases h2 : g = -2147483648
      · have e2 := HH.out h2
        subst h2 e2
        exact .inl (.inr ⟨by simp [h1], by decide, by decide, by decide⟩)
      · refine .inr ⟨by simp [h1], by simp [h2], ?_⟩
        rcases HR.out h1 h2 with ⟨e1, e2⟩ | ⟨e1, e2⟩
        · simp [e1, e2]
        · simp [e1, e2]
  obtain ⟨p, hp⟩ : ∃ p, decide (0 < g) = p := ⟨_, rfl⟩
  obtain ⟨q, hq⟩ : ∃ q, decide (0 < g') = q := ⟨_, rfl⟩
  have HA' := HA.out
  have HB' := HB.out
  rw [hp] at HA' hfin
  rw [hq] at HB' hfin
  have HA := Lib.hid HA'
  have HB := Lib.hid HB'
  clear HA' HB' hp hq
  have HF := Lib.hid hfin
  clear hfin
  rcases hcase with hn1 | ⟨hn1, hn2⟩ | ⟨hn1, hn2, rfl⟩ <;>
  · go_wp2_with fail
    refine HA.out.mono ?_
    rintro e w2 ⟨rfl, rfl⟩
    go_wp2_with fail
    refine HB.out.mono ?_
    rintro e w2 ⟨rfl, rfl⟩
    rcases HF.out with (⟨h1, rfl, rfl⟩ | ⟨h1, h2, rfl, rfl⟩) | ⟨h1, h2, rfl⟩
    · go_wp2_with fail
      go_ret
      exact ⟨rfl, hbl⟩
    · go_wp2_with fail
      go_ret
      exact ⟨rfl, hbl⟩
    · cases q <;>
      · go_wp2_with fail
        go_ret
        exact ⟨rfl, hbl⟩
end Go.Proofs.YtabemlpkajhglabDoor
