/-
  The contract of frame.Seal: the frame's bytes, or its error. Conditions: Ext and Body lie in memory and are not past 2^47 bytes.
-/
import Derived.Test.YtofdpccjpodbhaaOct
import Derived.Test.YtofdpccjpodbhaaBookP
import Derived.StillTailTactics
import Derived.Deep.DeepCutAuto
import Derived.Deep.RegionLaw
namespace Go.Proofs.Ytofdpccjpodbhaa
open Go.RowKit
set_option linter.unusedVariables false

def sealE (T C : Int) (ne nb : Nat) : Int :=
  if T ≠ 0 ∧ T ≠ 1 then 53 else if C < 0 ∨ 65535 < C ∨ (T = 1 ∧ C ≠ 0) then 54 else if ne % 4 ≠ 0 ∨ 1012 < ne then 52 else if 1048576 < 8 + ne + nb then 2 else 0
def sealB (T C : Int) (ext body : List UInt8) : List UInt8 :=
  putL (8 + ext.length + body.length) 4 ++ [UInt8.ofNat ((8 + ext.length) / 4), UInt8.ofNat T.toNat] ++ putL C.toNat 2 ++ ext ++ body
def sealS (T C : Int) (ext body : List UInt8) : List UInt8 := if sealE T C ext.length body.length = 0 then sealB T C ext body else []

theorem isType_any (w : World) (T : Int) :
    Calls Try.prog 38 #[.int .i64 T] w fun e w' => e = .returned (.bool (decide (T = 0 ∨ T = 1))) ∧ w = w' := by
  go_enter Try.func38, Try.ntmps38
  by_cases h0 : T = 0
  · subst h0
    go_wp2
    go_ret
    exact ⟨rfl, rfl⟩
  · have e0 : (T == 0) = false := by simp [h0]
    go_wp2
    go_ret
    refine ⟨?_, rfl⟩
    have : (T == 1) = decide (T = 1) := by by_cases h : T = 1 <;> simp [h]
    simp [h0, this]

set_option maxHeartbeats 2000000 in
theorem seal_bad (w : World) (T C : Int) (ea ba : Option Addr) (ne ce nb cb : Nat) (hz : ne ≤ 140737488355328 ∧ nb ≤ 140737488355328) (h : sealE T C ne nb ≠ 0) :
    Calls Try.prog 14 #[.agg #[.int .i64 T, .int .i64 C, .slice ea ne ce, .slice ba nb cb]] w fun e w' => e = .returned (.tuple #[.slice none 0 0, .int .i64 (sealE T C ne nb)]) ∧ Below w.heap.size w w' := by
  obtain ⟨hz1, hz2⟩ := hz
  have hB : Below w.heap.size w (w.alloc (.cells #[.int .i64 T, .int .i64 C, .slice ea ne ce, .slice ba nb cb] 24)) := (Below.refl _ _).alloc (Nat.le_refl _) _
  by_cases hT : T ≠ 0 ∧ T ≠ 1
  · have hd : decide (T = 0 ∨ T = 1) = false := by simp; omega
    have he : sealE T C ne nb = 53 := by unfold sealE; rw [if_pos hT]
    rw [he]
    go_enter Try.func14, Try.ntmps14
    go_wp2_with fail
    refine (isType_any _ T).mono ?_
    rw [hd]
    rintro e w' ⟨rfl, rfl⟩
    go_wp2_with fail
    go_ret2
    exact ⟨rfl, hB⟩
  have hd : decide (T = 0 ∨ T = 1) = true := by simp; omega
  by_cases hC : C < 0 ∨ 65535 < C ∨ (T = 1 ∧ C ≠ 0)
  · have he : sealE T C ne nb = 54 := by unfold sealE; rw [if_neg hT, if_pos hC]
    rw [he]
    have hcase : C < 0 ∨ (¬ C < 0 ∧ 65535 < C) ∨ (¬ C < 0 ∧ ¬ 65535 < C ∧ (T == 1) = true ∧ (C != 0) = true) := by
      by_cases h1 : C < 0
      · exact .inl h1
      · by_cases h2 : 65535 < C
        · exact .inr (.inl ⟨h1, h2⟩)
        · rcases hC with h3 | h3 | ⟨h3, h4⟩
          · exact absurd h3 h1
          · exact absurd h3 h2
          · exact .inr (.inr ⟨h1, h2, by simp [h3], by simpa using h4⟩)
    clear hC hT h he
    go_enter Try.func14, Try.ntmps14
    go_wp2_with fail
    refine (isType_any _ T).mono ?_
    rw [hd]
    rintro e w' ⟨rfl, rfl⟩
    rcases hcase with h1 | ⟨h1, h2⟩ | ⟨h1, h2, h3, h4⟩ <;>
    · go_wp2_with fail
      go_ret2
      exact ⟨rfl, hB⟩
  have hok : ¬ C < 0 ∧ ¬ 65535 < C ∧ ((T == 1) = false ∨ (T == 1) = true ∧ (C != 0) = false) := by
    refine ⟨by omega, by omega, ?_⟩
    by_cases h1 : T = 1
    · refine .inr ⟨by simp [h1], ?_⟩
      have : C = 0 := by omega
      simp [this]
    · exact .inl (by simp [h1])
  obtain ⟨c1, c2, c3⟩ := hok
  by_cases hE : ne % 4 ≠ 0 ∨ 1012 < ne
  · have he : sealE T C ne nb = 52 := by unfold sealE; rw [if_neg hT, if_neg hC, if_pos hE]
    rw [he]
    clear hC hT h he
    have hcase : (((ne : Int) % 4) != 0) = true ∨ ((((ne : Int) % 4) != 0) = false ∧ 1012 < ne) := by
      by_cases h1 : ne % 4 = 0
      · exact .inr ⟨by have : (ne : Int) % 4 = 0 := by omega
                       simp [this], by omega⟩
      · exact .inl (by simp; omega)
    go_enter Try.func14, Try.ntmps14
    go_wp2_with fail
    refine (isType_any _ T).mono ?_
    rw [hd]
    rintro e w' ⟨rfl, rfl⟩
    rcases hcase with h1 | ⟨h1, h2⟩ <;> rcases c3 with h3 | ⟨h3, h4⟩ <;>
    · go_wp2_with fail
      go_ret2
      exact ⟨rfl, hB⟩
  have hE1 : (((ne : Int) % 4) != 0) = false := by
    have : (ne : Int) % 4 = 0 := by omega
    simp [this]
  have hE2 : ne ≤ 1012 := by omega
  have hL : 1048576 < 8 + ne + nb := by
    by_cases hL : 1048576 < 8 + ne + nb
    · exact hL
    · exfalso; apply h; unfold sealE; rw [if_neg hT, if_neg hC, if_neg hE, if_neg hL]
  have he : sealE T C ne nb = 2 := by unfold sealE; rw [if_neg hT, if_neg hC, if_neg hE, if_pos hL]
  rw [he]
  clear hC hT h he hE
  go_enter Try.func14, Try.ntmps14
  go_wp2_with fail
  refine (isType_any _ T).mono ?_
  rw [hd]
  rintro e w' ⟨rfl, rfl⟩
  rcases c3 with h3 | ⟨h3, h4⟩ <;>
  · go_wp2_with fail
    go_ret2
    exact ⟨rfl, hB⟩
end Go.Proofs.Ytofdpccjpodbhaa
