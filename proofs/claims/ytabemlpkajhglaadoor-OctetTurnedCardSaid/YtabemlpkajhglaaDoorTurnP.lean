/-
  What is turned within 32 places changes the check sum: plain lemmas on numbers and lists. No program in sight.
-/
import Derived.Test.YtabemlpkajhglaaDoorCrcP
namespace Go.Proofs.YtabemlpkajhglaaDoor
open Go.RowKit
set_option linter.unusedVariables false

theorem bs_zero (r : Nat) (h : r < 4294967296) (h0 : bs r = 0) : r = 0 := by
  unfold bs at h0
  by_cases ho : r % 2 = 1
  · rw [if_pos ho] at h0
    have : r / 2 = 3988292384 := by
      have := congrArg (· ^^^ 3988292384) h0
      simpa [Nat.xor_assoc] using this
    omega
  · rw [if_neg ho, Nat.xor_zero] at h0; omega
theorem bsN_zero (n : Nat) : ∀ r, r < 4294967296 → bsN n r = 0 → r = 0 := by
  induction n with
  | zero => intro r _ h; exact h
  | succ n ih => intro r h h0; exact bs_zero r h (ih _ (bs_lt r h) h0)
theorem bsN_of_zero (n : Nat) : bsN n 0 = 0 := by
  induction n with
  | zero => rfl
  | succ n ih => rw [bsN]; exact ih

theorem crcL_diff (l : List UInt8) : ∀ a d, crcL (a ^^^ d) l = crcL a l ^^^ bsN (8 * l.length) d := by
  induction l with
  | nil => intro a d; rfl
  | cons x l ih =>
    intro a d
    show crcL (crcB (a ^^^ d) x) l = crcL (crcB a x) l ^^^ _
    have e : crcB (a ^^^ d) x = crcB a x ^^^ bsN 8 d := by
      rw [crcB_bs, crcB_bs, ← bsN_xor]
      congr 1
      rw [Nat.xor_assoc, Nat.xor_comm d, ← Nat.xor_assoc]
    rw [e, ih, ← bsN_add, List.length_cons]
    congr 2; omega
theorem crcL_set (l : List UInt8) : ∀ (r j : Nat) (e : UInt8), j < l.length → crcL r (l.set j (l.getD j 0 ^^^ e)) = crcL r l ^^^ bsN (8 * (l.length - j)) e.toNat := by
  induction l with
  | nil => intro r j e h; simp at h
  | cons x l ih =>
    intro r j e h
    cases j with
    | zero =>
      show crcL (crcB r (x ^^^ e)) l = crcL (crcB r x) l ^^^ _
      have e1 : crcB r (x ^^^ e) = crcB r x ^^^ bsN 8 e.toNat := by
        rw [crcB_bs, crcB_bs, ← bsN_xor, UInt8.toNat_xor, Nat.xor_assoc]
      rw [e1, crcL_diff, ← bsN_add, List.length_cons]
      congr 2; omega
    | succ j =>
      show crcL (crcB r x) (l.set j (l.getD j 0 ^^^ e)) = crcL (crcB r x) l ^^^ _
      rw [ih _ j e (by simpa using h), List.length_cons]
      congr 2; omega

/-- so many bytes of a number, the lowest first, turned into a list from a place on -/
def turnL (b : List UInt8) (at_ W : Nat) : Nat → List UInt8
  | 0 => b
  | k + 1 => (turnL b at_ W k).set (at_ + k) ((turnL b at_ W k).getD (at_ + k) 0 ^^^ UInt8.ofNat (W / 256 ^ k % 256))
theorem turnL_length (b : List UInt8) (at_ W : Nat) : ∀ k, (turnL b at_ W k).length = b.length
  | 0 => rfl
  | k + 1 => by rw [turnL, List.length_set, turnL_length b at_ W k]
theorem mod_step (W k : Nat) : W % 256 ^ (k + 1) = W % 256 ^ k ^^^ 256 ^ k * (W / 256 ^ k % 256) := by
  have h := xor_split (W % 256 ^ (k + 1)) (8 * k)
  have e : (2 : Nat) ^ (8 * k) = 256 ^ k := by rw [Nat.pow_mul]
  rw [e] at h
  have e1 : W % 256 ^ (k + 1) % 256 ^ k = W % 256 ^ k := Nat.mod_mod_of_dvd _ (by rw [Nat.pow_succ]; exact Nat.dvd_mul_right _ _)
  have e2 : W % 256 ^ (k + 1) / 256 ^ k = W / 256 ^ k % 256 := by rw [Nat.pow_succ]; exact Nat.mod_mul_right_div_self W (256 ^ k) 256
  rw [e1, e2] at h
  rw [h, Nat.xor_comm]
theorem crc_turn (b : List UInt8) (at_ W r : Nat) : ∀ m, at_ + m ≤ b.length → crcL r (turnL b at_ W m) = crcL r b ^^^ bsN (8 * (b.length - at_)) (W % 256 ^ m)
  | 0, _ => by rw [Nat.pow_zero, Nat.mod_one, bsN_of_zero, Nat.xor_zero]; rfl
  | m + 1, h => by
    have hx : (UInt8.ofNat (W / 256 ^ m % 256)).toNat = W / 256 ^ m % 256 := by
      rw [UInt8.toNat_ofNat']; exact Nat.mod_eq_of_lt (Nat.mod_lt _ (by decide))
    rw [turnL, crcL_set _ _ _ _ (by rw [turnL_length]; omega), turnL_length, crc_turn b at_ W r m (by omega), hx, mod_step, bsN_xor, ← Nat.xor_assoc]
    congr 1
    have e : 8 * (b.length - at_) = 8 * m + 8 * (b.length - (at_ + m)) := by omega
    have hsft : bsN (8 * m) (256 ^ m * (W / 256 ^ m % 256)) = W / 256 ^ m % 256 := by
      have := bsN_shift (8 * m) (W / 256 ^ m % 256)
      rwa [Nat.pow_mul] at this
    rw [e, bsN_add, hsft]

/-- THE LAW: the sums differ just where something was turned -/
theorem turn_sum (b : List UInt8) (at_ mask s m : Nat) (hm : at_ + m ≤ b.length) (hmask : mask < 4294967296) (hs : s < 8) :
    (crcSum (turnL b at_ (mask * 2 ^ s) m) = crcSum b) ↔ mask * 2 ^ s % 256 ^ m = 0 := by
  have hx : ∀ x y : Nat, (x ^^^ 4294967295 = y ^^^ 4294967295) ↔ x = y := fun x y =>
    ⟨fun h => by have := congrArg (· ^^^ 4294967295) h; simpa [Nat.xor_assoc] using this, fun h => by rw [h]⟩
  unfold crcSum
  rw [hx, crc_turn b at_ _ _ m hm]
  have hy : ∀ x y : Nat, (x ^^^ y = x) ↔ y = 0 := fun x y =>
    ⟨fun h => by have := congrArg (x ^^^ ·) h; simpa [← Nat.xor_assoc] using this, fun h => by rw [h, Nat.xor_zero]⟩
  rw [hy]
  constructor
  · intro h
    cases m with
    | zero => rw [Nat.pow_zero, Nat.mod_one]
    | succ m =>
      have e1 : (256 : Nat) ^ (m + 1) = 2 ^ s * 2 ^ (8 * (m + 1) - s) := by
        rw [← Nat.pow_add, show s + (8 * (m + 1) - s) = 8 * (m + 1) by omega, Nat.pow_mul]
      have e2 : mask * 2 ^ s % 256 ^ (m + 1) = 2 ^ s * (mask % 2 ^ (8 * (m + 1) - s)) := by
        rw [e1, Nat.mul_comm mask, Nat.mul_mod_mul_left]
      rw [e2] at h ⊢
      have e3 : 8 * (b.length - at_) = s + (8 * (b.length - at_) - s) := by omega
      rw [e3, bsN_add, bsN_shift] at h
      have h4 := bsN_zero _ _ (Nat.lt_of_le_of_lt (Nat.mod_le _ _) hmask) h
      rw [h4]; rfl
  · intro h; rw [h]; exact bsN_of_zero _

theorem mod_succ_zero (W k : Nat) : W % 256 ^ (k + 1) = 0 ↔ W % 256 ^ k = 0 ∧ W / 256 ^ k % 256 = 0 := by
  rw [Nat.pow_succ, Nat.mod_mul]
  have hp : 0 < 256 ^ k := Nat.pow_pos (by decide)
  constructor
  · intro h
    have h1 : W % 256 ^ k = 0 := by omega
    refine ⟨h1, ?_⟩
    rw [h1, Nat.zero_add] at h
    rcases Nat.mul_eq_zero.1 h with h2 | h2
    · omega
    · exact h2
  · rintro ⟨h1, h2⟩; rw [h1, h2, Nat.mul_zero]
theorem xor_u8 (y : UInt8) (m : Nat) : bits BinOp.xor IntKind.u8 (y.toNat : Int) ((m : Int) % 256) = (((y ^^^ UInt8.ofNat (m % 256)).toNat : Nat) : Int) := by
  have h := u8_xor_nat y.toNat (m % 256) (by have := y.toNat_lt; omega) (by omega)
  rw [UInt8.toNat_xor, UInt8.toNat_ofNat', Nat.mod_mod]
  exact h
end Go.Proofs.YtabemlpkajhglaaDoor
