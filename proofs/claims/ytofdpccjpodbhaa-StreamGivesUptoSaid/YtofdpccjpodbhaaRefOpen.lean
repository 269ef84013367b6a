/-
  The contracts of longshoreref05's number and Same. Conditions: the bytes lie in memory.
-/
import Derived.Test.YtofdpccjpodbhaaAwake
import Derived.Test.YtofdpccjpodbhaaApp
namespace Go.Proofs.Ytofdpccjpodbhaa
open Go.RowKit
set_option linter.unusedVariables false

set_option maxHeartbeats 1000000 in
theorem rnumber_ok (w : World) (a : Option Addr) (n c : Nat) (l : List UInt8) (h : BytesIn w a n c l) (hz : n ≤ 140737488355328) (at_ wd : Nat) (h1 : 1 ≤ wd) (h8 : wd ≤ 4) (hat : at_ + wd ≤ n) :
    Calls Try.prog 44 #[.slice a n c, .int .i64 at_, .int .i64 wd] w fun e w' => e = .returned (.int .i64 (beVal ((l.drop at_).take wd))) ∧ w = w' := by
  obtain ⟨hl, hnc, hcm, hat_⟩ := h
  obtain ⟨b, o, rfl, hb, hcell⟩ := hat_ (by omega)
  unfold maxLen at hcm
  have HL := Lib.hid hl
  clear hl
  go_enter Try.func44, Try.ntmps44
  go_wp2
  go_loop [7, 8] (fun m i => ∃ k : Nat, k ≤ wd ∧ i = .int .i64 k ∧ m = .int .i64 (beVal ((l.drop at_).take k))) (fun _ i => wd - (intOf i).toNat)
  case atStart => exact ⟨0, by omega, rfl, rfl⟩
  case round =>
    obtain ⟨k, hk, rfl, rfl⟩ := hrel
    by_cases hlt : k < wd
    · have hc := hcell (at_ + k) (by omega)
      rw [← Nat.add_assoc] at hc
      have hs := beVal_snoc ((l.drop at_).take k) (l.getD (at_ + k) 0)
      rw [← drop_take_succ l at_ k (by rw [HL.out]; omega)] at hs
      have hm : 256 * beVal ((l.drop at_).take k) + 255 < 4294967296 := by
        have h0 := beVal_lt ((l.drop at_).take k)
        have h2 : 256 ^ ((l.drop at_).take k).length ≤ 256 ^ 3 := Nat.pow_le_pow_right (by omega) (by rw [List.length_take]; omega)
        omega
      have hx := (l.getD (at_ + k) 0).toNat_lt
      obtain ⟨y, hy⟩ : ∃ y, (l.getD (at_ + k) 0).toNat = y := ⟨_, rfl⟩
      obtain ⟨m, hm'⟩ : ∃ m, beVal ((l.drop at_).take k) = m := ⟨_, rfl⟩
      rw [hy] at hc hx hs
      rw [hm'] at hm hs ⊢
      have HS := Lib.hid hs
      clear hs hy hm' hcell
      rw [Nat.add_assoc] at hc
      go_wp2
      go_round
      case rel => exact ⟨k + 1, by omega, by go_num, by rw [HS.out]; go_num⟩
      case measure => simp [intOf]; omega
    · obtain rfl : wd = k := by omega
      go_wp2
      go_ret
      exact ⟨rfl, rfl⟩

set_option maxHeartbeats 1000000 in
/-- two frames that read alike are the same -/
theorem same_frames (w : World) (T C : Int) (ea ba ea' ba' : Option Addr) (ne ce nb cb ne' ce' nb' cb' : Nat) (ext body : List UInt8)
    (h1 : BytesIn w ea ne ce ext) (h2 : BytesIn w ba nb cb body) (h3 : BytesIn w ea' ne' ce' ext) (h4 : BytesIn w ba' nb' cb' body) :
    Calls Try.prog 20 #[.agg #[.int .i64 T, .int .i64 C, .slice ea ne ce, .slice ba nb cb], .agg #[.int .i64 T, .int .i64 C, .slice ea' ne' ce', .slice ba' nb' cb']] w fun e w' => e = .returned (.bool true) ∧ Below w.heap.size w w' := by
  have b1 : Below w.heap.size w (w.alloc (.cells #[.int .i64 T, .int .i64 C, .slice ea ne ce, .slice ba nb cb] 24)) := (Below.refl _ _).alloc (Nat.le_refl _) _
  have b2 : Below w.heap.size w ((w.alloc (.cells #[.int .i64 T, .int .i64 C, .slice ea ne ce, .slice ba nb cb] 24)).alloc (.cells #[.int .i64 T, .int .i64 C, .slice ea' ne' ce', .slice ba' nb' cb'] 24)) := b1.alloc (by simp) _
  have v1 := run_string_bytes (P := Try.prog) _ 22 9 5 Try.underlying22 Try.underlying5 Try.underlying9 ea ne ce ext (h1.below b2)
  have v2 := run_string_bytes (P := Try.prog) _ 22 9 5 Try.underlying22 Try.underlying5 Try.underlying9 ba nb cb body (h2.below b2)
  have v3 := run_string_bytes (P := Try.prog) _ 22 9 5 Try.underlying22 Try.underlying5 Try.underlying9 ea' ne' ce' ext (h3.below b2)
  have v4 := run_string_bytes (P := Try.prog) _ 22 9 5 Try.underlying22 Try.underlying5 Try.underlying9 ba' nb' cb' body (h4.below b2)
  generalize (⟨ext.toArray⟩ : ByteArray) = E1 at v1 v3
  generalize (⟨body.toArray⟩ : ByteArray) = E2 at v2 v4
  clear h1 h2 h3 h4 b1
  go_enter Try.func20, Try.ntmps20
  go_wp2_with fail
  go_ret
  exact ⟨rfl, b2⟩
end Go.Proofs.Ytofdpccjpodbhaa
