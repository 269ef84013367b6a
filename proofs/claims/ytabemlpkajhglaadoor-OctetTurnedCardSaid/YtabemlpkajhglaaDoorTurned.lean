/-
  The walk of OctetTurned: it returns true. Conditions: the slice of bytes lies in memory and has at most 2^47 bytes, the numbers are ones, the decoder's tables stand.
-/
import Derived.Test.YtabemlpkajhglaaDoorLive
import Derived.Test.YtabemlpkajhglaaDoorTurnP
import Derived.Deep.DeepCutAuto
namespace Go.Proofs.YtabemlpkajhglaaDoor
open Go.RowKit
set_option linter.unusedVariables false

/-- the sum of one part: the slice that holds it has just been laid -/
theorem sum_one (w : World) (a : Option Addr) (n c : Nat) (l : List UInt8) (h : BytesIn w a n c l) :
    Calls Tryd.prog 28 #[.slice (some ⟨w.heap.size, 0, none⟩) 1 1] (w.alloc (.cells #[.slice a n c] 24)) fun e w' =>
      e = .returned (.int .u32 (crcSum l)) ∧ Below w.heap.size w w' := by
  refine (sum_any _ _ 1 1 [l] (parts_one 24 h)).mono fun e w' ⟨he, hb⟩ => ⟨?_, ?_⟩
  · rw [he]; simp
  · exact ((Below.refl _ w).alloc (Nat.le_refl _) _).trans (hb.mono (by simp))

set_option maxHeartbeats 2000000 in
theorem turned_walk (w : World) (hT : Tabs w) (a : Option Addr) (n c : Nat) (l : List UInt8) (h : BytesIn w a n c l) (hn : n ≤ 140737488351232) (place : Int) (hp : IsI64 place) (mask : Nat) (hmask : mask < 4294967296) :
    Calls Tryd.prog 10 #[.slice a n c, .int .i64 place, .int .u32 mask] w fun e w' => e = .returned (.bool true) ∧ Below w.heap.size w w' := by
  obtain ⟨hp1, hp2⟩ := hp
  go_enter Tryd.func10, Tryd.ntmps10
  go_wp2_with fail
  refine (live_any w hT).mono ?_
  rintro e w1 ⟨rfl, hb1⟩
  have h1 := h.below hb1
  go_wp2_with fail
  refine (sum_one w1 a n c l h1).mono ?_
  rintro e w2 ⟨rfl, hb2⟩
  have h2 := h1.below hb2
  have hb12 : Below w.heap.size w w2 := hb1.trans (hb2.mono hb1.size)
  clear h h1 hb1 hb2
  by_cases c1 : place < 0
  · go_wp2_with fail
    go_ret
    exact ⟨rfl, hb12⟩
  · obtain ⟨p, rfl⟩ := Int.eq_ofNat_of_zero_le (show 0 ≤ place by omega)
    by_cases c2 : n ≤ p / 8
    · have c2' : (n : Int) ≤ (p : Int) / 8 := by omega
      go_wp2_with fail
      go_ret
      exact ⟨rfl, hb12⟩
    · by_cases c3 : mask = 0
      · subst c3
        have c2' : ¬ (n : Int) ≤ (p : Int) / 8 := by omega
        go_wp2_with fail
        go_ret
        exact ⟨rfl, hb12⟩
      · have c2' : ¬ (n : Int) ≤ (p : Int) / 8 := by omega
        have c3' : ((mask : Int) == 0) = false := by simp; omega
        go_wp2_with fail
        go_loopw [9, 10] (fun v i wr => ∃ k : Nat, k ≤ n ∧ i = .int .i64 k ∧ OwnBytes wr w2.heap.size 5 v (l.take k) ∧ Below w2.heap.size w2 wr) (fun _ i _ => n - (intOf i).toNat)
        case atStart => exact ⟨0, by omega, rfl, OwnBytes.nil _ _ _, Below.refl _ _⟩
        case round =>
        obtain ⟨k, hk, rfl, hown, hB⟩ := hrel
        by_cases hlt : k < n
        · obtain ⟨b, o, rfl, _, _⟩ := h2.at_ (by have := h2.le; omega)
          have hc := (h2.below hB).cell rfl k hlt
          have hM := Lib.hid (take_succ_getD l k (by rw [h2.len]; exact hlt))
          obtain ⟨y, hy⟩ : ∃ y, l.getD k 0 = y := ⟨_, rfl⟩
          rw [hy] at hc hM
          clear hy
          go_wp2_with (at_builtin; refine wpList_append_byte rfl (.tmp 41) (.tmp 46) 24 rfl w2.heap.size 5 Tryd.underlying24 info_u8 _ _ _ rfl rfl hown ?hlen ?hbase ?_)
          case hlen => rw [List.length_take]; omega
          case hbase => exact hB.size
          intro v' w' hown' hg hbel'
          go_wp2
          go_roundw
          case measure => simp [intOf]; omega
          case rel => exact ⟨k + 1, by omega, by go_num, by rw [hM.out]; exact hown', hB.trans hbel'⟩
        · obtain rfl : n = k := by omega
          rw [List.take_of_length_le (by rw [h2.len]; exact Nat.le_refl _)] at hown
          obtain ⟨g, cap, hv, hg1, hg2, hg3, hg4⟩ := hown.some_ (by rw [h2.len]; omega)
          have hl := h2.len
          rw [hl] at hv hg3
          have HL := Lib.hid hl
          clear hl
          subst hv
          unfold maxLen at hg4
          go_wp2_with fail
          obtain ⟨s, hs, hs8⟩ : ∃ s, p % 8 = s ∧ s < 8 := ⟨_, rfl, by omega⟩
          obtain ⟨A, hA⟩ : ∃ A, p / 8 = A := ⟨_, rfl⟩
          have hA1 : A < n := by omega
          have hA2 : (p : Int) / 8 = (A : Int) := by omega
          have hpow : 2 ^ s ≤ 2 ^ 7 := Nat.pow_le_pow_right (by omega) (by omega)
          obtain ⟨W, hW⟩ : ∃ W, mask * 2 ^ s = W := ⟨_, rfl⟩
          have hWl : W < 1099511627776 := by
            rw [← hW]
            have : mask * 2 ^ s ≤ 4294967295 * 2 ^ 7 := Nat.mul_le_mul (by omega) hpow
            omega
          have hwr : IntKind.u64.wrap ((mask : Int) * 2 ^ (p % 8)) = (W : Int) := by
            have e : (mask : Int) * 2 ^ (p % 8) = (W : Int) := by rw [hs, ← hW]; simp
            rw [e, IntKind.wrap_u64]; omega
          have HW := Lib.hid hW
          rw [hwr, hA2]
          have HB := Lib.hid hB
          clear hwr hA2 hA hs hW hpow c2 c2' hB
          go_loopw [12, 13, 14] (fun v tb i wq => ∃ k : Nat, k ≤ 5 ∧ A + k ≤ n ∧ i = .int .i64 k ∧ v = .int .u64 (W / 256 ^ k : Nat) ∧ tb = .bool (decide (W % 256 ^ k ≠ 0)) ∧ OwnBytes wq w2.heap.size 5 (.slice (some ⟨g, 0, none⟩) n cap) (turnL l A W k) ∧ Below w2.heap.size w2 wq) (fun _ _ i _ => 5 - (intOf i).toNat)
          case atStart => exact ⟨0, by omega, by omega, rfl, by simp, by simp [Nat.mod_one], hown, HB.out⟩
          case round =>
          clear hown HB
          obtain ⟨k, hk, hAk, rfl, rfl, rfl, hown, hB⟩ := hrel
          have hlen := (turnL_length l A W k).trans HL.out
          have HM := Lib.hid (mod_succ_zero W k)
          have hml : W / 256 ^ k < 1099511627776 := Nat.lt_of_le_of_lt (Nat.div_le_self _ _) hWl
          have HD := Lib.hid (Nat.div_div_eq_div_mul W (256 ^ k) 256)
          obtain ⟨tb, htb⟩ : ∃ tb, decide (W % 256 ^ k ≠ 0) = tb := ⟨_, rfl⟩
          rw [htb]
          have HTB := Lib.hid htb
          clear htb
          by_cases hlt : k < 5 ∧ A + k < n
          · obtain ⟨hlt1, hlt2⟩ := hlt
            have HT1 := Lib.hid (show turnL l A W (k + 1) = (turnL l A W k).set (A + k) ((turnL l A W k).getD (A + k) 0 ^^^ UInt8.ofNat (W / 256 ^ k % 256)) from rfl)
            have hc := hown.cell hlen (A + k) hlt2
            have hf := hown.frozen hlen (A + k)
            have HS := Lib.hid (fun y => hown.set hlen (A + k) y)
            obtain ⟨m, hm⟩ : ∃ m, W / 256 ^ k = m := ⟨_, rfl⟩
            rw [hm] at hml ⊢
            have HMM := Lib.hid hm
            obtain ⟨y, hy⟩ : ∃ y, (turnL l A W k).getD (A + k) 0 = y := ⟨_, rfl⟩
            rw [hy] at hc
            have HY := Lib.hid hy
            have hx := xor_u8 y m
            obtain ⟨z, hz⟩ : ∃ z, y ^^^ UInt8.ofNat (m % 256) = z := ⟨_, rfl⟩
            rw [hz] at hx
            have HZ := Lib.hid hz
            clear hm hy hz hown hlen
            have hi1 : (k : Int) < 5 := by omega
            have hi2 : (A : Int) + (k : Int) < (n : Int) := by omega
            by_cases hx0 : m % 256 = 0
            · have hxb : ((m : Int) % 256 != 0) = false := by simp; omega
              cases tb
              all_goals
                go_wp2_with fail
                go_roundw
                case measure => simp [intOf]; omega
                case rel => exact ⟨k + 1, by omega, by omega, by go_num, by rw [Nat.pow_succ, ← HD.out, HMM.out]; rfl, by rw [← HTB.out]; congr 1; simp only [ne_eq, HM.out, HMM.out, hx0, and_true], by rw [HT1.out, HY.out, HMM.out, HZ.out]; exact HS.out z, hB.setCell hg1 _⟩
            · have hxb : ((m : Int) % 256 != 0) = true := by simp; omega
              cases tb
              all_goals
                go_wp2_with fail
                go_roundw
                case measure => simp [intOf]; omega
                case rel => exact ⟨k + 1, by omega, by omega, by go_num, by rw [Nat.pow_succ, ← HD.out, HMM.out]; rfl, by congr 1; simp only [ne_eq, HM.out, HMM.out, hx0, and_false, not_false_eq_true, decide_true], by rw [HT1.out, HY.out, HMM.out, HZ.out]; exact HS.out z, hB.setCell hg1 _⟩
          · have hts := turn_sum l A mask s k (by rw [HL.out]; exact hAk) hmask hs8
            rw [HW.out] at hts
            obtain ⟨a2, c2, hv, hby⟩ := hown.bytes
            rw [hlen] at hv hby
            simp only [Value.slice.injEq, true_and] at hv
            obtain ⟨rfl, rfl⟩ := hv
            obtain ⟨cs, hcs⟩ : ∃ cs, crcSum l = cs := ⟨_, rfl⟩
            obtain ⟨ct, hct⟩ : ∃ ct, crcSum (turnL l A W k) = ct := ⟨_, rfl⟩
            have hne : ((cs : Int) != (ct : Int)) = tb := by
              rw [← HTB.out, ← hcs, ← hct]
              by_cases h0 : W % 256 ^ k = 0
              · have := hts.2 h0
                simp [this, h0]
              · have h1 : crcSum (turnL l A W k) ≠ crcSum l := fun h => h0 (hts.1 h)
                have h2 : ((crcSum l : Nat) : Int) ≠ ((crcSum (turnL l A W k) : Nat) : Int) := by omega
                simp [h0, h2]
            rw [hcs]
            have hso := sum_one _ _ _ _ _ hby
            rw [hct] at hso
            have HSO := Lib.hid hso
            clear hso hct hcs hts hby hown
            obtain ⟨m, hm⟩ : ∃ m, W / 256 ^ k = m := ⟨_, rfl⟩
            rw [hm]
            clear hm
            have hlt' : ¬ ((k : Int) < 5 ∧ (A : Int) + (k : Int) < (n : Int)) := by omega
            by_cases hk5 : k < 5
            · have hi2 : ¬ ((A : Int) + (k : Int) < (n : Int)) := by omega
              cases tb
              all_goals
                go_wp2_with fail
                refine HSO.out.mono ?_
                rintro e w4 ⟨rfl, hb4⟩
                go_wp2_with fail
                go_ret
                exact ⟨rfl, (hb12.trans (hB.mono hb12.size)).trans (hb4.mono (by have := hB.size; have := hb12.size; omega))⟩
            · cases tb
              all_goals
                go_wp2_with fail
                refine HSO.out.mono ?_
                rintro e w4 ⟨rfl, hb4⟩
                go_wp2_with fail
                go_ret
                exact ⟨rfl, (hb12.trans (hB.mono hb12.size)).trans (hb4.mono (by have := hB.size; have := hb12.size; omega))⟩
end Go.Proofs.YtabemlpkajhglaaDoor
