/-
  The reference's Get, and the walk of OctetGets: it returns true. Conditions: the slice of bytes lies in memory, an int is one, the decoder's tables stand.
-/
import Derived.Test.YtabemlpkajhglaaDoorMem
import Derived.Test.YtabemlpkajhglaaDoorLive
namespace Go.Proofs.YtabemlpkajhglaaDoor
open Go.RowKit
set_option linter.unusedVariables false

theorem rget_short (w : World) (a : Option Addr) (n c : Nat) (at_ wd : Nat) (hn : n ≤ maxLen) (h1 : 1 ≤ wd) (h8 : wd ≤ 8) (h : at_ ≤ n) (h' : n < at_ + wd) :
    Calls Tryd.prog 20 #[.slice a n c, .int .i64 at_, .int .i64 wd] w fun e w' =>
      e = .returned (.tuple #[.int .u64 0, .int .i64 10]) ∧ w = w' := by
  unfold maxLen at hn
  have h5 : (n : Int) - (at_ : Int) < (wd : Int) := by omega
  go_enter Tryd.func20, Tryd.ntmps20
  go_wp2
  go_ret2
  exact ⟨rfl, rfl⟩

theorem rget_arg (w : World) (a : Option Addr) (n c : Nat) (at_ wd : Int) (hn : n ≤ maxLen) (h : wd < 1 ∨ 8 < wd ∨ at_ < 0 ∨ n < at_) :
    Calls Tryd.prog 20 #[.slice a n c, .int .i64 at_, .int .i64 wd] w fun e w' =>
      e = .returned (.tuple #[.int .u64 0, .int .i64 1]) ∧ w = w' := by
  unfold maxLen at hn
  by_cases h1 : wd < 1
  · clear hn
    go_enter Tryd.func20, Tryd.ntmps20
    go_wp2
    go_ret2
    exact ⟨rfl, rfl⟩
  by_cases h2 : 8 < wd
  · go_enter Tryd.func20, Tryd.ntmps20
    go_wp2
    go_ret2
    exact ⟨rfl, rfl⟩
  by_cases h3 : at_ < 0
  · go_enter Tryd.func20, Tryd.ntmps20
    go_wp2
    go_ret2
    exact ⟨rfl, rfl⟩
  have h4 : (n : Int) < at_ := by omega
  clear h
  go_enter Tryd.func20, Tryd.ntmps20
  go_wp2
  go_ret2
  exact ⟨rfl, rfl⟩

set_option maxHeartbeats 1000000 in
theorem rget_ok (w : World) (a : Option Addr) (n c : Nat) (l : List UInt8) (h : BytesIn w a n c l) (at_ wd : Nat) (h1 : 1 ≤ wd) (h8 : wd ≤ 8) (hat : at_ + wd ≤ n) :
    Calls Tryd.prog 20 #[.slice a n c, .int .i64 at_, .int .i64 wd] w fun e w' =>
      e = .returned (.tuple #[.int .u64 (beVal ((l.drop at_).take wd)), .int .i64 0]) ∧ w = w' := by
  obtain ⟨hl, hnc, hcm, hat_⟩ := h
  obtain ⟨b, o, rfl, hb, hcell⟩ := hat_ (by omega)
  unfold maxLen at hcm
  have HL := Lib.hid hl
  clear hl
  go_enter Tryd.func20, Tryd.ntmps20
  go_wp2
  go_loop [8, 9] (fun m i => ∃ k : Nat, k ≤ wd ∧ i = .int .i64 ((at_ : Int) + (k : Int)) ∧ m = .int .u64 (beVal ((l.drop at_).take k))) (fun _ i => at_ + wd - (intOf i).toNat)
  case atStart => exact ⟨0, by omega, by simp, rfl⟩
  case round =>
    obtain ⟨k, hk, rfl, rfl⟩ := hrel
    by_cases hlt : k < wd
    · have hc := hcell (at_ + k) (by omega)
      rw [← Nat.add_assoc] at hc
      have hs := beVal_snoc ((l.drop at_).take k) (l.getD (at_ + k) 0)
      rw [← drop_take_succ l at_ k (by rw [HL.out]; omega)] at hs
      have hm : 256 * beVal ((l.drop at_).take k) + 255 < 18446744073709551616 := by
        have h0 := beVal_lt ((l.drop at_).take k)
        have h2 : 256 ^ ((l.drop at_).take k).length ≤ 256 ^ 7 := Nat.pow_le_pow_right (by omega) (by rw [List.length_take]; omega)
        omega
      have hx := (l.getD (at_ + k) 0).toNat_lt
      obtain ⟨y, hy⟩ : ∃ y, (l.getD (at_ + k) 0).toNat = y := ⟨_, rfl⟩
      obtain ⟨m, hm'⟩ : ∃ m, beVal ((l.drop at_).take k) = m := ⟨_, rfl⟩
      rw [hy] at hc hx hs
      rw [hm'] at hm hs ⊢
      have HS := Lib.hid hs
      clear hs hy hm' hcell
      rw [Nat.add_assoc] at hc
      go_wp2
      go_round
      case rel => exact ⟨k + 1, by omega, by go_num, by rw [HS.out]; go_num⟩
      case measure => simp [intOf]; omega
    · obtain rfl : wd = k := by omega
      go_wp2
      go_ret2
      exact ⟨rfl, rfl⟩

/-- what both answer -/
theorem get_both (n : Nat) (l : List UInt8) (hl : l.length = n) (hn : n ≤ 140737488355328) (at_ wd : Int) :
    ∃ V E : Int, (∀ (w : World) (a : Option Addr) (c : Nat), BytesIn w a n c l → Calls Tryd.prog 19 #[.slice a n c, .int .i64 at_, .int .i64 wd] w fun e w' => e = .returned (.tuple #[.int .u64 V, .int .i64 E]) ∧ w = w') ∧
      (∀ (w : World) (a : Option Addr) (c : Nat), BytesIn w a n c l → Calls Tryd.prog 20 #[.slice a n c, .int .i64 at_, .int .i64 wd] w fun e w' => e = .returned (.tuple #[.int .u64 V, .int .i64 E]) ∧ w = w') := by
  have hm : n ≤ maxLen := by unfold maxLen; omega
  by_cases h1 : wd < 1 ∨ 8 < wd ∨ at_ < 0 ∨ (n : Int) < at_
  · exact ⟨0, 1, fun w a c _ => get_arg w a n c at_ wd hm h1, fun w a c _ => rget_arg w a n c at_ wd hm h1⟩
  · obtain ⟨p, rfl⟩ := Int.eq_ofNat_of_zero_le (show 0 ≤ at_ by omega)
    obtain ⟨v, rfl⟩ := Int.eq_ofNat_of_zero_le (show 0 ≤ wd by omega)
    by_cases h2 : n < p + v
    · exact ⟨0, 10, fun w a c _ => get_short w a n c p v hm (by omega) (by omega) (by omega) h2, fun w a c _ => rget_short w a n c p v hm (by omega) (by omega) (by omega) h2⟩
    · exact ⟨_, 0, fun w a c hb => get_ok w a n c l hb p v (by omega) (by omega) (by omega), fun w a c hb => rget_ok w a n c l hb p v (by omega) (by omega) (by omega)⟩

theorem gets_walk (w : World) (hT : Tabs w) (a : Option Addr) (n c : Nat) (l : List UInt8) (h : BytesIn w a n c l) (hn : n ≤ 140737488355328) (at_ wd : Int) :
    Calls Tryd.prog 5 #[.slice a n c, .int .i64 at_, .int .i64 wd] w fun e w' => e = .returned (.bool true) ∧ Below w.heap.size w w' := by
  obtain ⟨V, E, hg, hr⟩ := get_both n l h.len hn at_ wd
  have HG := Lib.hid hg
  have HR := Lib.hid hr
  clear hg hr
  go_enter Tryd.func5, Tryd.ntmps5
  go_wp2_with fail
  refine (live_any w hT).mono ?_
  rintro e w1 ⟨rfl, hb1⟩
  go_wp2_with fail
  have h1 := h.below hb1
  refine (lent_any w1 a n c l h1 hn).mono ?_
  rintro e w2 ⟨rfl, hb2, hB⟩
  have hlb : l.length = n := h.len
  have hby := hB.bytes 0 n (n + 2) (by simp; omega) (by omega) (by unfold maxLen; omega)
  rw [List.drop_zero, List.take_left' hlb] at hby
  have h2 := h1.below hb2
  have HLB := Lib.hid hlb
  clear hlb
  go_wp2_with fail
  refine (HG.out w2 _ _ hby).mono ?_
  rintro e w3 ⟨rfl, rfl⟩
  go_wp2_with fail
  refine (HR.out w2 _ _ h2).mono ?_
  rintro e w3 ⟨rfl, rfl⟩
  go_wp2_with fail
  refine (back_any w2 _ a n c l h2 hn hB).mono ?_
  rintro e w3 ⟨rfl, hb3⟩
  go_wp2_with fail
  go_ret
  exact ⟨rfl, (hb1.trans (hb2.mono hb1.size)).trans (hb3.mono (by have := hb1.size; have := hb2.size; omega))⟩
end Go.Proofs.YtabemlpkajhglaaDoor
