/-
  The check sum bit by bit: plain lemmas on numbers. No program in sight.
-/
import Derived.Test.YtabemlpkajhglaaDoorCrc
namespace Go.Proofs.YtabemlpkajhglaaDoor
open Go.RowKit
set_option linter.unusedVariables false

/-- one bit's step of the register -/
def bs (r : Nat) : Nat := r / 2 ^^^ (if r % 2 = 1 then 3988292384 else 0)
theorem xor_half (a b : Nat) : (a ^^^ b) / 2 = a / 2 ^^^ b / 2 := by
  have := Nat.shiftRight_xor_distrib (a := a) (b := b) (i := 1)
  simpa [Nat.shiftRight_eq_div_pow] using this
theorem xor_par (a b : Nat) : (a ^^^ b) % 2 = (a % 2 + b % 2) % 2 := by
  have h := Nat.xor_mod_two_eq_one (a := a) (b := b)
  rcases Nat.mod_two_eq_zero_or_one a with ha | ha <;> rcases Nat.mod_two_eq_zero_or_one b with hb | hb <;> rcases Nat.mod_two_eq_zero_or_one (a ^^^ b) with hc | hc <;> simp_all
theorem bs_xor (a b : Nat) : bs (a ^^^ b) = bs a ^^^ bs b := by
  unfold bs
  rw [xor_half, xor_par]
  rcases Nat.mod_two_eq_zero_or_one a with ha | ha <;> rcases Nat.mod_two_eq_zero_or_one b with hb | hb <;> rw [ha, hb] <;> simp
  · rw [Nat.xor_assoc]
  · rw [Nat.xor_assoc, Nat.xor_assoc, Nat.xor_comm (b / 2)]
  · rw [Nat.xor_assoc, Nat.xor_comm 3988292384 _, Nat.xor_assoc, Nat.xor_self, Nat.xor_zero]
theorem bs_lt (r : Nat) (h : r < 4294967296) : bs r < 4294967296 := by
  unfold bs
  exact Nat.xor_lt_two_pow (n := 32) (by omega) (by split <;> omega)
theorem bs_even (r : Nat) : bs (2 * r) = r := by
  unfold bs
  rw [if_neg (by omega), show 2 * r / 2 = r by omega, Nat.xor_zero]
/-- n bits' steps -/
def bsN : Nat → Nat → Nat
  | 0, r => r
  | n + 1, r => bsN n (bs r)
theorem bsN_xor (n : Nat) : ∀ a b, bsN n (a ^^^ b) = bsN n a ^^^ bsN n b := by
  induction n with
  | zero => intro a b; rfl
  | succ n ih => intro a b; rw [bsN, bs_xor, ih]; rfl
theorem bsN_add (m n : Nat) : ∀ r, bsN (m + n) r = bsN n (bsN m r) := by
  induction m with
  | zero => intro r; rw [Nat.zero_add]; rfl
  | succ m ih => intro r; rw [show m + 1 + n = (m + n) + 1 by omega, bsN, ih]; rfl
theorem bsN_shift (n : Nat) : ∀ r, bsN n (2 ^ n * r) = r := by
  induction n with
  | zero => intro r; rw [Nat.pow_zero, Nat.one_mul]; rfl
  | succ n ih => intro r; rw [bsN, Nat.pow_succ, Nat.mul_comm (2 ^ n) 2, Nat.mul_assoc, bs_even, ih]
theorem bsN_lt (n : Nat) : ∀ r, r < 4294967296 → bsN n r < 4294967296 := by
  induction n with
  | zero => intro r h; exact h
  | succ n ih => intro r h; exact ih _ (bs_lt r h)
theorem xor_split (r n : Nat) : r = (2 ^ n * (r / 2 ^ n)) ^^^ (r % 2 ^ n) := by
  have h := Nat.two_pow_add_eq_or_of_lt (i := n) (b := r % 2 ^ n) (Nat.mod_lt _ (Nat.two_pow_pos n)) (r / 2 ^ n)
  have h2 := Nat.div_add_mod r (2 ^ n)
  apply Nat.eq_of_testBit_eq
  intro i
  rw [Nat.testBit_xor, Nat.testBit_two_pow_mul, Nat.testBit_mod_two_pow, Nat.testBit_div_two_pow]
  by_cases hi : i < n
  · have : ¬ n ≤ i := by omega
    simp [hi, this]
  · have : n ≤ i := by omega
    simp [hi, this]
theorem half_bs : ∀ k, k < 16 → halfL.getD k 0 = bsN 4 k := by decide
theorem nib_bs (r : Nat) : nib r = bsN 4 r := by
  have h := xor_split r 4
  conv => rhs; rw [h]
  rw [bsN_xor, bsN_shift, ← half_bs _ (Nat.mod_lt _ (by decide))]
  unfold nib halfT
  rw [Nat.xor_comm]
theorem crcB_bs (r : Nat) (x : UInt8) : crcB r x = bsN 8 (r ^^^ x.toNat) := by
  unfold crcB
  rw [nib_bs, nib_bs, ← bsN_add]
end Go.Proofs.YtabemlpkajhglaaDoor
