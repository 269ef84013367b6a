/-
  The contracts of the law's point and written. No conditions but that an int is one.
-/
import Derived.Test.YtfjbjcaccfcakaaDoorPtsP
import Derived.Test.YtfjbjcaccfcakaaDoorLive
import Derived.Test.YtfjbjcaccfcakaaDoorLib2
namespace Go.Proofs.YtfjbjcaccfcakaaDoor
open Go.RowKit
set_option linter.unusedVariables false

theorem point_any (raw : Int) (w : World) (h : IsI64 raw) :
    Calls Tryd.prog 5 #[.int .i64 raw] w fun e w' => (∃ c : Nat, e = .returned (.int .i64 c) ∧ okC c) ∧ w = w' := by
  obtain ⟨h1, h2⟩ := h
  go_enter Tryd.func5, Tryd.ntmps5
  go_upto_region 2 with fail
  have hb : -1114112 < raw.tmod 1114112 ∧ raw.tmod 1114112 < 1114112 := by
    rcases Int.le_total 0 raw with h | h
    · rw [Int.tmod_eq_emod_of_nonneg h]; omega
    · have e : raw.tmod 1114112 = -((-raw).tmod 1114112) := by rw [← Int.neg_tmod, Int.neg_neg]
      rw [e, Int.tmod_eq_emod_of_nonneg (by omega)]; omega
  generalize raw.tmod 1114112 = r at *
  obtain ⟨r1, r2⟩ := hb
  by_cases hn : r < 0
  · obtain ⟨n, hrn⟩ := Int.eq_ofNat_of_zero_le (show 0 ≤ -r by omega)
    go_upto_region 4 with fail
    have hn1 : n < 1114112 := by omega
    by_cases s1 : 55296 ≤ n
    · by_cases s2 : n ≤ 57343
      · have s1' : (55296 : Int) ≤ (n : Int) := by omega
        have s2' : (n : Int) ≤ 57343 := by omega
        go_wp2_with fail
        go_ret
        exact ⟨⟨65, rfl, by unfold okC; omega⟩, rfl⟩
      · have s1' : (55296 : Int) ≤ (n : Int) := by omega
        have s2' : ¬ (n : Int) ≤ 57343 := by omega
        go_wp2_with fail
        go_ret
        exact ⟨⟨n, rfl, by unfold okC; omega⟩, rfl⟩
    · have s1' : ¬ (55296 : Int) ≤ (n : Int) := by omega
      go_wp2_with fail
      go_ret
      exact ⟨⟨n, rfl, by unfold okC; omega⟩, rfl⟩
  · obtain ⟨n, rfl⟩ := Int.eq_ofNat_of_zero_le (show 0 ≤ r by omega)
    have hn1 : n < 1114112 := by omega
    by_cases s1 : 55296 ≤ n
    · by_cases s2 : n ≤ 57343
      · have s1' : (55296 : Int) ≤ (n : Int) := by omega
        have s2' : (n : Int) ≤ 57343 := by omega
        go_wp2_with fail
        go_ret
        exact ⟨⟨65, rfl, by unfold okC; omega⟩, rfl⟩
      · have s1' : (55296 : Int) ≤ (n : Int) := by omega
        have s2' : ¬ (n : Int) ≤ 57343 := by omega
        go_wp2_with fail
        go_ret
        exact ⟨⟨n, rfl, by unfold okC; omega⟩, rfl⟩
    · have s1' : ¬ (55296 : Int) ≤ (n : Int) := by omega
      go_wp2_with fail
      go_ret
      exact ⟨⟨n, rfl, by unfold okC; omega⟩, rfl⟩

theorem bytesIn_alloc (w : World) (C : Array Value) (l : List UInt8) (hC : C = (l.map byteV).toArray) (hl : l.length ≤ 4) : BytesIn (w.alloc (.cells C 5)) (some ⟨w.heap.size, 0, none⟩) l.length l.length l :=
  (Blk.of_cells (T := 5) (heap_alloc_new w _) hC).all _ _ rfl (Nat.le_refl _) (by unfold maxLen; omega)

theorem byteV_of (n : Nat) (h : n < 256) : byteV (UInt8.ofNat n) = .int .u8 (n : Int) := by
  unfold byteV
  rw [ofNat_toNat n h]

theorem written_any (c : Nat) (w : World) (h : c ≤ 1114111) :
    Calls Tryd.prog 6 #[.int .i64 c] w fun e w' => ∃ g, e = .returned (.slice (some ⟨g, 0, none⟩) (wrC c).length (wrC c).length) ∧ Below w.heap.size w w' ∧ BytesIn w' (some ⟨g, 0, none⟩) (wrC c).length (wrC c).length (wrC c) := by
  have hb : ∀ C, Below w.heap.size w (w.alloc (.cells C 5)) := fun C => (Below.refl _ _).alloc (Nat.le_refl _) _
  go_enter Tryd.func6, Tryd.ntmps6
  by_cases c1 : c < 128
  · have hw : wrC c = [UInt8.ofNat c] := by unfold wrC; rw [if_pos c1]
    have HW := Lib.hid hw
    have c1' : (c : Int) < 128 := by omega
    clear hw
    go_wp2_with fail
    go_ret
    rw [HW.out]
    exact ⟨_, rfl, hb _, bytesIn_alloc w _ _ (by simp [byteV_of c (by omega)]) (by simp)⟩
  by_cases c2 : c < 2048
  · have hw : wrC c = [UInt8.ofNat (192 + c / 64), UInt8.ofNat (128 + c % 64)] := by unfold wrC; rw [if_neg c1, if_pos c2]
    have HW := Lib.hid hw
    have c1' : ¬ (c : Int) < 128 := by omega
    have c2' : (c : Int) < 2048 := by omega
    clear hw
    go_wp2_with fail
    go_ret
    rw [HW.out]
    exact ⟨_, rfl, hb _, bytesIn_alloc w _ _ (by
      show _ = #[byteV (UInt8.ofNat (192 + c / 64)), byteV (UInt8.ofNat (128 + c % 64))]
      rw [byteV_of (192 + c / 64) (by omega), byteV_of (128 + c % 64) (by omega)]
      rw [show ((192 + c / 64 : Nat) : Int) = 192 + (c : Int) / 64 by omega, show ((128 + c % 64 : Nat) : Int) = 128 + (c : Int) % 64 by omega]) (by simp)⟩
  by_cases c3 : c < 65536
  · have hw : wrC c = [UInt8.ofNat (224 + c / 4096), UInt8.ofNat (128 + c / 64 % 64), UInt8.ofNat (128 + c % 64)] := by unfold wrC; rw [if_neg c1, if_neg c2, if_pos c3]
    have HW := Lib.hid hw
    have c1' : ¬ (c : Int) < 128 := by omega
    have c2' : ¬ (c : Int) < 2048 := by omega
    have c3' : (c : Int) < 65536 := by omega
    clear hw
    go_wp2_with fail
    go_ret
    rw [HW.out]
    exact ⟨_, rfl, hb _, bytesIn_alloc w _ _ (by
      show _ = #[byteV (UInt8.ofNat (224 + c / 4096)), byteV (UInt8.ofNat (128 + c / 64 % 64)), byteV (UInt8.ofNat (128 + c % 64))]
      rw [byteV_of (224 + c / 4096) (by omega), byteV_of (128 + c / 64 % 64) (by omega), byteV_of (128 + c % 64) (by omega)]
      rw [show ((224 + c / 4096 : Nat) : Int) = 224 + (c : Int) / 4096 by omega, show ((128 + c / 64 % 64 : Nat) : Int) = 128 + (c : Int) / 64 % 64 by omega, show ((128 + c % 64 : Nat) : Int) = 128 + (c : Int) % 64 by omega]) (by simp)⟩
  · have hw : wrC c = [UInt8.ofNat (240 + c / 262144), UInt8.ofNat (128 + c / 4096 % 64), UInt8.ofNat (128 + c / 64 % 64), UInt8.ofNat (128 + c % 64)] := by unfold wrC; rw [if_neg c1, if_neg c2, if_neg c3]
    have HW := Lib.hid hw
    have c1' : ¬ (c : Int) < 128 := by omega
    have c2' : ¬ (c : Int) < 2048 := by omega
    have c3' : ¬ (c : Int) < 65536 := by omega
    clear hw
    go_wp2_with fail
    go_ret
    rw [HW.out]
    exact ⟨_, rfl, hb _, bytesIn_alloc w _ _ (by
      show _ = #[byteV (UInt8.ofNat (240 + c / 262144)), byteV (UInt8.ofNat (128 + c / 4096 % 64)), byteV (UInt8.ofNat (128 + c / 64 % 64)), byteV (UInt8.ofNat (128 + c % 64))]
      rw [byteV_of (240 + c / 262144) (by omega), byteV_of (128 + c / 4096 % 64) (by omega), byteV_of (128 + c / 64 % 64) (by omega), byteV_of (128 + c % 64) (by omega)]
      rw [show ((240 + c / 262144 : Nat) : Int) = 240 + (c : Int) / 262144 by omega, show ((128 + c / 4096 % 64 : Nat) : Int) = 128 + (c : Int) / 4096 % 64 by omega, show ((128 + c / 64 % 64 : Nat) : Int) = 128 + (c : Int) / 64 % 64 by omega, show ((128 + c % 64 : Nat) : Int) = 128 + (c : Int) % 64 by omega]) (by simp)⟩
end Go.Proofs.YtfjbjcaccfcakaaDoor
