/-
  The walk of the law OctetBack: it returns true for every argument whose two slices have together at most 2097152 bytes.
-/
import Derived.Test.YtabemlpkajhglaaOct
import Derived.Deep.DeepCutAuto
namespace Go.Proofs.Ytabemlpkajhglaa
open Go.RowKit
set_option linter.unusedVariables false

set_option maxHeartbeats 1000000 in
set_option maxRecDepth 100000 in
theorem back_walk (w : World) (a0 a3 : Option Addr) (n0 c0 n3 c3 : Nat) (l0 l3 : List UInt8) (h0 : BytesIn w a0 n0 c0 l0) (h3 : BytesIn w a3 n3 c3 l3) (n : Nat) (hn : n < 18446744073709551616)
    (wide : Int) (hw1 : -9223372036854775808 ≤ wide) (hw2 : wide ≤ 9223372036854775807) (hsum : n0 + n3 ≤ 2097152) :
    Calls Try.prog 9 #[.slice a0 n0 c0, .int .u64 n, .int .i64 wide, .slice a3 n3 c3] w fun e w' => e = .returned (.bool true) ∧ Below w.heap.size w w' := by
  go_enter Try.func9, Try.ntmps9
  go_upto_if 27 with fail
  go_cut [9] (fun s9 wx => w = wx ∧ ∃ W : Nat, s9 = .int .i64 W ∧ 1 ≤ W ∧ W ≤ 8)
  case first =>
    by_cases hneg : wide < 0
    · go_wp2_with fail
      go_meet
      case rel => exact ⟨rfl, 8, rfl, by omega, by omega⟩
    · have hr : 0 ≤ wide % 8 ∧ wide % 8 < 8 := by omega
      obtain ⟨hr1, hr2⟩ := hr
      go_wp2_with fail
      go_meet
      case rel => exact ⟨rfl, (1 + wide % 8).toNat, by rw [Int.tmod_eq_emod_of_nonneg (by omega), Int.toNat_of_nonneg (by omega), IntWalk.wrap64_in _ ⟨by omega, by omega⟩], by omega, by omega⟩
  case rest =>
    obtain ⟨rfl, wd, rfl, hwd1, hwd8⟩ := hcut
    go_wp2_with (go_at_call 13; refine (put_bytes n wd _ hwd1 hwd8 hn).mono ?_; rintro e w1 ⟨rfl, hb1, hr1⟩)
    go_loopw [11, 12] (fun v i wr => ∃ k : Nat, k ≤ n0 ∧ i = .int .i64 k ∧ OwnBytes wr w1.heap.size 5 v (l0.take k) ∧ Below w1.heap.size w1 wr) (fun _ i _ => n0 - (intOf i).toNat)
    case atStart => exact ⟨0, by omega, rfl, OwnBytes.nil _ _ _, Below.refl _ _⟩
    case round =>
    obtain ⟨k, hk, rfl, hown, hB⟩ := hrel
    have hn0 : n0 ≤ 2097152 := by omega
    by_cases hlt : k < n0
    · obtain ⟨b, o, rfl, _, _⟩ := h0.at_ (by have := h0.le; omega)
      have hc := ((h0.below hb1).below hB).cell rfl k hlt
      have hM := Lib.hid (take_succ_getD l0 k (by rw [h0.len]; exact hlt))
      obtain ⟨y, hy⟩ : ∃ y, l0.getD k 0 = y := ⟨_, rfl⟩
      rw [hy] at hc hM
      clear hy
      go_wp2_with (at_builtin; refine wpList_append_byte rfl (.tmp 41) (.tmp 46) 39 rfl w1.heap.size 5 Try.underlying39 info_u8 _ _ _ rfl rfl hown ?hlen ?hbase ?_)
      case hlen => rw [List.length_take]; omega
      case hbase => exact hB.size
      intro v' w' hown' hg hbel'
      go_wp2
      go_roundw
      case measure => simp [intOf]; omega
      case rel => exact ⟨k + 1, by omega, by go_num, by rw [hM.out]; exact hown', hB.trans hbel'⟩
    · obtain rfl : n0 = k := by omega
      go_wp2
      rw [List.take_of_length_le (by rw [h0.len]; exact Nat.le_refl _)] at hown
      rename_i u11 u38 u39 u40 u41 u42 u43 u44 u45 u46 u47
      go_loopw [11, 13] (fun v i wr => ∃ k : Nat, k ≤ wd ∧ i = .int .i64 k ∧ OwnBytes wr w1.heap.size 5 v (l0 ++ (putL n wd).take k) ∧ Below w1.heap.size w1 wr) (fun _ i _ => wd - (intOf i).toNat)
      case atStart => exact ⟨0, by omega, rfl, by rw [List.take_zero, List.append_nil]; exact hown, hB⟩
      case round =>
      clear hown hB
      obtain ⟨k, hk, rfl, hown, hB⟩ := hrel
      by_cases hlt : k < wd
      · have hc := (hr1.below hB).cell rfl k hlt
        rw [Nat.zero_add] at hc
        have hM := Lib.hid (take_succ_getD (putL n wd) k (by rw [putL_length]; exact hlt))
        obtain ⟨y, hy⟩ : ∃ y, (putL n wd).getD k 0 = y := ⟨_, rfl⟩
        rw [hy] at hc hM
        clear hy
        go_wp2_with (at_builtin; refine wpList_append_byte rfl (.tmp 54) (.tmp 59) 39 rfl w1.heap.size 5 Try.underlying39 info_u8 _ _ _ rfl rfl hown ?hlen ?hbase ?_)
        case hlen => rw [List.length_append, List.length_take, h0.len]; omega
        case hbase => exact hB.size
        intro v' w' hown' hg hbel'
        go_wp2
        go_roundw
        case measure => simp [intOf]; omega
        case rel => exact ⟨k + 1, by omega, by go_num, by rw [hM.out]; exact hown', hB.trans hbel'⟩
      · obtain rfl : wd = k := by omega
        rw [List.take_of_length_le (by rw [putL_length]; exact Nat.le_refl _)] at hown
        obtain ⟨bl, hbl⟩ : ∃ bl, l0 ++ putL n wd = bl := ⟨_, rfl⟩
        rw [hbl] at hown
        have hlb : bl.length = n0 + wd := by rw [← hbl, List.length_append, putL_length, h0.len]
        have hBL := Lib.hid hbl
        clear hbl
        obtain ⟨av, cv, hv, hby⟩ := hown.bytes
        rw [hlb] at hv hby
        have HLB := Lib.hid hlb
        have HOWN := Lib.hid hown
        clear hlb hown
        subst hv
        have hcv := hby.le
        have hcm := hby.cap
        unfold maxLen at hcm
        go_wp2_with fail
        refine (get_short _ _ _ _ _ _ (by unfold maxLen; omega) hwd1 hwd8 (by omega) (by omega)).mono ?_
        rintro e w2 ⟨rfl, rfl⟩
        go_wp2_with fail
        have hown := HOWN.out
        go_loopw [11, 17] (fun v i wq => ∃ k : Nat, k ≤ n3 ∧ i = .int .i64 k ∧ OwnBytes wq w1.heap.size 5 v (bl ++ l3.take k) ∧ Below w1.heap.size w1 wq) (fun _ i _ => n3 - (intOf i).toNat)
        case atStart => exact ⟨0, by omega, rfl, by rw [List.take_zero, List.append_nil]; exact hown, hB⟩
        case round =>
        clear hown hB HOWN
        obtain ⟨k, hk, rfl, hown, hB⟩ := hrel
        have hn3 : n3 ≤ 2097152 := by omega
        by_cases hlt : k < n3
        · obtain ⟨b, o, rfl, _, _⟩ := h3.at_ (by have := h3.le; omega)
          have hc := ((h3.below hb1).below hB).cell rfl k hlt
          have hM := Lib.hid (take_succ_getD l3 k (by rw [h3.len]; exact hlt))
          obtain ⟨y, hy⟩ : ∃ y, l3.getD k 0 = y := ⟨_, rfl⟩
          rw [hy] at hc hM
          clear hy
          go_wp2_with (at_builtin; refine wpList_append_byte rfl (.tmp 80) (.tmp 85) 39 rfl w1.heap.size 5 Try.underlying39 info_u8 _ _ _ rfl rfl hown ?hlen ?hbase ?_)
          case hlen => rw [List.length_append, List.length_take, HLB.out]; omega
          case hbase => exact hB.size
          intro v' w' hown' hg hbel'
          go_wp2
          go_roundw
          case measure => simp [intOf]; omega
          case rel => exact ⟨k + 1, by omega, by go_num, by rw [hM.out]; first | exact hown' | (rw [← List.append_assoc]; exact hown'), hB.trans hbel'⟩
        · obtain rfl : n3 = k := by omega
          rw [List.take_of_length_le (by rw [h3.len]; exact Nat.le_refl _)] at hown
          obtain ⟨bm, hbm⟩ : ∃ bm, bl ++ l3 = bm := ⟨_, rfl⟩
          rw [hbm] at hown
          have hlm : bm.length = n0 + wd + n3 := by rw [← hbm, List.length_append, h3.len, HLB.out]
          have hval : beVal ((bm.drop n0).take wd) = n % 256 ^ wd := by
            rw [← hbm, ← hBL.out, List.append_assoc, List.drop_left' h0.len, List.take_left' (putL_length n wd), beVal_put]
          obtain ⟨av', cv', hv', hby'⟩ := hown.bytes
          rw [hlm] at hv' hby'
          have HV := Lib.hid hval
          clear hlm hbm hval hown
          subst hv'
          have hcv' := hby'.le
          have hcm' := hby'.cap
          unfold maxLen at hcm'
          go_wp2_with fail
          refine (get_ok _ _ _ _ _ hby' _ _ hwd1 hwd8 (by omega)).mono ?_
          rintro e w2 ⟨rfl, rfl⟩
          rw [HV.out]
          have hBel : Below w.heap.size w wr := hb1.trans (hB.mono hb1.size)
          clear hB HV hby'
          obtain ⟨V, hV⟩ : ∃ V, n % 256 ^ wd = V := ⟨_, rfl⟩
          rw [hV]
          have HVV := Lib.hid hV
          clear hV
          by_cases h8 : wd < 8
          · go_wp2_with fail
            go_loop [21, 22] (fun m i => ∃ k : Nat, k ≤ wd ∧ i = .int .i64 k ∧ m = .int .u64 (256 ^ k : Nat)) (fun _ i => wd - (intOf i).toNat)
            case atStart => exact ⟨0, by omega, rfl, rfl⟩
            case round =>
            obtain ⟨k, hk, rfl, rfl⟩ := hrel
            have hle : 256 ^ k ≤ 256 ^ 7 := Nat.pow_le_pow_right (by omega) (by omega)
            have hpos : 0 < 256 ^ k := Nat.pow_pos (by omega)
            obtain ⟨L, hL⟩ : ∃ L, 256 ^ k = L := ⟨_, rfl⟩
            rw [hL] at hle hpos ⊢
            have HL := Lib.hid hL
            clear hL
            by_cases hlt : k < wd
            · have hle6 : L ≤ 256 ^ 6 := by rw [← HL.out]; exact Nat.pow_le_pow_right (by omega) (by omega)
              go_wp2
              go_round
              case rel => exact ⟨k + 1, by omega, by go_num, by rw [Nat.pow_succ, HL.out]; congr 1; omega⟩
              case measure => simp [intOf]; omega
            · obtain rfl : wd = k := by omega
              have hVL : (V : Int) = (n : Int) % (L : Int) := by rw [← HVV.out, HL.out]; rfl
              go_wp2
              go_ret
              exact ⟨rfl, hBel⟩
          · obtain rfl : wd = 8 := by omega
            obtain rfl : V = n := by rw [← HVV.out]; exact Nat.mod_eq_of_lt (by omega)
            clear HVV
            go_wp2
            go_ret
            exact ⟨rfl, hBel⟩
end Go.Proofs.Ytabemlpkajhglaa
