/-
  live() of the statements of layer 1 returns true. Condition: the decoder's tables stand.
-/
import Derived.Test.YtfjbjcaccfcakaaDoorOct
import Derived.Test.YtfjbjcaccfcakaaDoorTxt
import Derived.Test.YtfjbjcaccfcakaaDoorCrc
namespace Go.Proofs.YtfjbjcaccfcakaaDoor
open Go.RowKit
set_option linter.unusedVariables false

theorem live_utf8 : utf8S ⟨#[97, 128]⟩ = 1 := by decide +kernel
theorem live_ascii : asciiS ⟨#[97, 98, 255]⟩ = 2 := by decide +kernel
theorem live_sum : crcSum [97] = 3904355907 := by decide +kernel

set_option maxHeartbeats 1000000 in
theorem live_any (w : World) (hT : Tabs w) :
    Calls Tryd.prog 4 #[] w fun e w' => e = .returned (.bool true) ∧ Below w.heap.size w w' := by
  go_enter Tryd.func4, Tryd.ntmps4
  go_wp2_with fail
  refine (put_bytes 258 2 w (by decide) (by decide) (by decide)).mono ?_
  rintro e w1 ⟨rfl, hb1, hby⟩
  have hT1 := hT.below hb1
  clear hT
  go_wp2_with fail
  refine (get_ok w1 _ _ _ _ hby 0 2 (by decide) (by decide) (by decide)).mono ?_
  rintro e w2 ⟨rfl, rfl⟩
  rw [show beVal (((putL 258 2).drop 0).take 2) = 258 by decide]
  go_wp2_with fail
  refine (utf8_any ⟨#[97, 128]⟩ _ (by decide) hT1).mono ?_
  rintro e w2 ⟨rfl, hb2⟩
  rw [live_utf8]
  go_wp2_with fail
  refine (ascii_any ⟨#[97, 98, 255]⟩ _ (by decide)).mono ?_
  rintro e w3 ⟨rfl, rfl⟩
  rw [live_ascii]
  go_wp2_with fail
  refine (add_any 4294967295 3 _ (by unfold IsI64; omega) (by unfold IsI64; omega)).mono ?_
  rintro e w3 ⟨rfl, rfl⟩
  rw [show addS 4294967295 3 = 2 by decide]
  go_wp2_with fail
  refine (gap_any 4294967295 3 _ (by unfold IsI64; omega) (by unfold IsI64; omega)).mono ?_
  rintro e w3 ⟨rfl, rfl⟩
  rw [show gapS 4294967295 3 = 4 by decide]
  go_wp2_with fail
  have hp : PartsIn ((w2.alloc (.cells #[.int .u8 97] 5)).alloc (.cells #[.slice (some ⟨w2.heap.size, 0, none⟩) 1 1] 25)) (some ⟨w2.heap.size + 1, 0, none⟩) 1 1 [[97]] := by
    have h1 : BytesIn (w2.alloc (.cells #[.int .u8 97] 5)) (some ⟨w2.heap.size, 0, none⟩) 1 1 [97] := bytes_one w2 5 97
    have h2 := parts_one 25 h1
    simpa using h2
  refine (sum_any _ _ 1 1 [[97]] hp).mono ?_
  rintro e w3 ⟨rfl, hb3⟩
  rw [show crcSum ([[97]] : List (List UInt8)).flatten = 3904355907 from live_sum]
  have hB : Below w.heap.size w w3 := by
    refine (hb1.trans (hb2.mono hb1.size)).trans ?_
    have h2 : w.heap.size ≤ w2.heap.size := by have := hb1.size; have := hb2.size; omega
    exact (((Below.refl _ w2).alloc h2 _).alloc (by simp; omega) _).trans (hb3.mono (by simp; omega))
  clear hb3
  go_wp2_with fail
  go_ret
  exact ⟨rfl, hB⟩
end Go.Proofs.YtfjbjcaccfcakaaDoor
