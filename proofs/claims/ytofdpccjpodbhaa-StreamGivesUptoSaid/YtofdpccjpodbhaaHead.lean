/-
  The contracts of frame.isProto, header, Header. No conditions.
-/
import Derived.Test.YtofdpccjpodbhaaOct
import Derived.Test.YtofdpccjpodbhaaBookP
import Derived.Handy
namespace Go.Proofs.Ytofdpccjpodbhaa
open Go.RowKit
set_option linter.unusedVariables false

theorem isProto_any (w : World) (T : Int) :
    Calls Try.prog 45 #[.int .i64 T] w fun e w' => e = .returned (.bool (decide (T = 0 ∨ T = 3))) ∧ w = w' := by
  go_enter Try.func45, Try.ntmps45
  by_cases h0 : T = 0
  · subst h0
    go_wp2
    go_ret
    exact ⟨rfl, rfl⟩
  · have e0 : (T == 0) = false := by simp [h0]
    go_wp2
    go_ret
    refine ⟨?_, rfl⟩
    have : (T == 3) = decide (T = 3) := by by_cases h : T = 3 <;> simp [h]
    simp [h0, this]

def headL (p : Nat) : List UInt8 := [76, 83, 72, 82, UInt8.ofNat p, 1, 0, 0]

theorem header_any (w : World) (p : Nat) (hp : p < 256) :
    Calls Try.prog 46 #[.int .i64 p] w fun e w' => e = .returned (.agg #[.int .u8 76, .int .u8 83, .int .u8 72, .int .u8 82, .int .u8 p, .int .u8 1, .int .u8 0, .int .u8 0]) ∧ Below w.heap.size w w' := by
  go_enter Try.func46, Try.ntmps46
  go_wp2_with fail
  go_returns
  exact ⟨rfl, (Below.refl _ _).alloc (Nat.le_refl _) _⟩

theorem Header_bad (w : World) (P : Int) (h : P ≠ 0 ∧ P ≠ 3) :
    Calls Try.prog 21 #[.int .i64 P] w fun e w' => e = .returned (.tuple #[.slice none 0 0, .int .i64 50]) ∧ w = w' := by
  have hd : decide (P = 0 ∨ P = 3) = false := by simp; omega
  go_enter Try.func21, Try.ntmps21
  go_wp2_with fail
  refine (isProto_any _ P).mono ?_
  rw [hd]
  rintro e w' ⟨rfl, rfl⟩
  go_wp2_with fail
  go_ret2
  exact ⟨rfl, rfl⟩

theorem Header_ok (w : World) (p : Nat) (h : p = 0 ∨ p = 3) :
    Calls Try.prog 21 #[.int .i64 p] w fun e w' => ∃ g, e = .returned (.tuple #[.slice (some ⟨g, 0, none⟩) 8 8, .int .i64 0]) ∧ w.heap.size ≤ g ∧ Below w.heap.size w w' ∧ Blk w' g 85 (headL p) := by
  have hd : decide ((p : Int) = 0 ∨ (p : Int) = 3) = true := by simp; omega
  have hp : p < 256 := by omega
  have H := Lib.hid h
  clear h
  go_enter Try.func21, Try.ntmps21
  go_wp2_with fail
  refine (isProto_any _ p).mono ?_
  rw [hd]
  rintro e w' ⟨rfl, rfl⟩
  go_wp2_with fail
  refine (header_any _ p hp).mono ?_
  rintro e w1 ⟨rfl, hb⟩
  go_wp2_with fail
  go_ret2
  have hp' : (UInt8.ofNat p).toNat = p := by simp; omega
  refine ⟨w1.heap.size, rfl, hb.size, hb.alloc hb.size _, ⟨?_⟩⟩
  rw [heap_alloc_new]
  simp [headL, byteV, hp']
end Go.Proofs.Ytofdpccjpodbhaa
