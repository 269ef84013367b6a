/-
  The codec's reader: fixed, whole. Conditions: the reader and its bytes lie in memory.
  string(b) of bytes that lie in memory. It speaks of no program. No conditions.
-/
import Derived.Test.YtjipennigjlklaaDoorEb
import Derived.Test.YtjipennigjlklaaDoorMg01
import Derived.Laws.BytesArg
namespace Go.Proofs.YtjipennigjlklaaDoor
open Go.RowKit
set_option linter.unusedVariables false
set_option maxHeartbeats 4000000

theorem sg_1 (n : Nat) (h : n < 256) (k : Int) (hk : k = 6 ∨ k = 7 ∨ k = 8 ∨ k = 9) : IntKind.u64.wrap (wrap64 (IntKind.u64.wrap (((n : Nat) : Int) * 72057594037927936)) / 72057594037927936) = sgnW k 1 n := by
  have hp : ((256 ^ 1 : Nat)) = 256 := by decide
  unfold sgnW
  rw [hp]
  unfold wrap64
  simp only [IntKind.wrap, IntKind.bits, IntKind.signed, Bool.false_and, Bool.false_eq_true, if_false]
  by_cases h2 : 128 ≤ n
  · rw [if_pos ⟨hk, by omega, by omega⟩]
    omega
  · rw [if_neg (by rintro ⟨_, _, h3⟩; omega)]
    omega
theorem sg_2 (n : Nat) (h : n < 65536) (k : Int) (hk : k = 6 ∨ k = 7 ∨ k = 8 ∨ k = 9) : IntKind.u64.wrap (wrap64 (IntKind.u64.wrap (((n : Nat) : Int) * 281474976710656)) / 281474976710656) = sgnW k 2 n := by
  have hp : ((256 ^ 2 : Nat)) = 65536 := by decide
  unfold sgnW
  rw [hp]
  unfold wrap64
  simp only [IntKind.wrap, IntKind.bits, IntKind.signed, Bool.false_and, Bool.false_eq_true, if_false]
  by_cases h2 : 32768 ≤ n
  · rw [if_pos ⟨hk, by omega, by omega⟩]
    omega
  · rw [if_neg (by rintro ⟨_, _, h3⟩; omega)]
    omega
theorem sg_4 (n : Nat) (h : n < 4294967296) (k : Int) (hk : k = 6 ∨ k = 7 ∨ k = 8 ∨ k = 9) : IntKind.u64.wrap (wrap64 (IntKind.u64.wrap (((n : Nat) : Int) * 4294967296)) / 4294967296) = sgnW k 4 n := by
  have hp : ((256 ^ 4 : Nat)) = 4294967296 := by decide
  unfold sgnW
  rw [hp]
  unfold wrap64
  simp only [IntKind.wrap, IntKind.bits, IntKind.signed, Bool.false_and, Bool.false_eq_true, if_false]
  by_cases h2 : 2147483648 ≤ n
  · rw [if_pos ⟨hk, by omega, by omega⟩]
    omega
  · rw [if_neg (by rintro ⟨_, _, h3⟩; omega)]
    omega
theorem sg_8 (n : Nat) (h : n < 18446744073709551616) (k : Int) : IntKind.u64.wrap (wrap64 (IntKind.u64.wrap ((n : Nat) : Int))) = sgnW k 8 n := by
  unfold sgnW
  rw [if_neg (by rintro ⟨_, h3, _⟩; omega)]
  unfold wrap64
  simp only [IntKind.wrap, IntKind.bits, IntKind.signed, Bool.false_and, Bool.false_eq_true, if_false]
  omega
theorem sgn_other {k : Int} (w n : Nat) (h : ¬ (k = 6 ∨ k = 7 ∨ k = 8 ∨ k = 9)) : sgnW k w n = n := by
  unfold sgnW
  rw [if_neg (fun q => h q.1)]
theorem num_u64 {B : List UInt8} {at_ wd : Nat} (h : wd ≤ 8) : IsU64 (nAt B at_ wd) := by
  have := nAt_lt (B := B) (at_ := at_) (wd := wd)
  have h2 : 256 ^ wd ≤ 256 ^ 8 := Nat.pow_le_pow_right (by omega) h
  have h3 : 256 ^ 8 = 18446744073709551616 := by decide
  exact ⟨by omega, by omega⟩
theorem sgn_u64 {k : Int} {wd n : Nat} (h : wd ≤ 8) (hn : n < 256 ^ wd) : IsU64 (sgnW k wd n) := by
  have h2 : 256 ^ wd ≤ 256 ^ 8 := Nat.pow_le_pow_right (by omega) h
  have h3 : 256 ^ 8 = 18446744073709551616 := by decide
  unfold sgnW
  split
  · exact ⟨by omega, by omega⟩
  · exact ⟨by omega, by omega⟩
set_option maxRecDepth 20000 in
theorem codes_fixed (c : Nat) (h5 : 5 ≤ c / 16) (h8 : c / 16 ≤ 8) (hk : 0 ≤ kindC c) : c = 80 ∨ c = 81 ∨ c = 82 ∨ c = 83 ∨ c = 84 ∨ c = 85 ∨ c = 86 ∨ c = 96 ∨ c = 97 ∨ c = 112 ∨ c = 113 ∨ c = 114 ∨ c = 115 ∨ c = 116 ∨ c = 128 ∨ c = 129 ∨ c = 130 ∨ c = 131 ∨ c = 132 := by
  have hc : c < 144 := by omega
  have hc2 : 80 ≤ c := by omega
  obtain ⟨d, hd, rfl⟩ : ∃ d, d < 64 ∧ c = 80 + d := ⟨c - 80, by omega, by omega⟩
  have key : ∀ d : Fin 64, 0 ≤ kindC (80 + d.1) → 80 + d.1 = 80 ∨ 80 + d.1 = 81 ∨ 80 + d.1 = 82 ∨ 80 + d.1 = 83 ∨ 80 + d.1 = 84 ∨ 80 + d.1 = 85 ∨ 80 + d.1 = 86 ∨ 80 + d.1 = 96 ∨ 80 + d.1 = 97 ∨ 80 + d.1 = 112 ∨ 80 + d.1 = 113 ∨ 80 + d.1 = 114 ∨ 80 + d.1 = 115 ∨ 80 + d.1 = 116 ∨ 80 + d.1 = 128 ∨ 80 + d.1 = 129 ∨ 80 + d.1 = 130 ∨ 80 + d.1 = 131 ∨ 80 + d.1 = 132 := by decide
  exact key ⟨d, hd⟩ hk
theorem RdTo.of_ok {w w' : World} {r : Nat} {p : Option Addr} {n cp at_ en : Nat} {sz own : Int} {K N : Int} {k : Nat} (hK : IsI64 K) (hN : IsU64 N) (h : RdMv w w' r #[.slice p n cp, .int .i64 (at_ + k : Nat), .int .i64 (en : Nat), .int .i64 sz]) :
    RdTo w r p n cp at_ en sz own (.ok (.mk K N ⟨#[]⟩ [] 0, k)) (.returned (.agg #[.int .i64 K, .int .u64 N, .string ⟨#[]⟩, .slice none 0 0, .int .i64 0])) w' :=
  ⟨_, _, rfl, VO.nil w' _ ⟨hK, hN, Nat.zero_le _, ⟨by show (-9223372036854775808 : Int) ≤ 0; omega, by show (0 : Int) ≤ 9223372036854775807; omega⟩⟩ rfl, h⟩
set_option maxRecDepth 20000 in
theorem fixed_any (c : Nat) (h5 : 5 ≤ c / 16) (h8 : c / 16 ≤ 8) (hk : 0 ≤ kindC c) (w : World) (r : Nat) (p : Option Addr) (n cp at_ en : Nat) (sz own : Int) (B : List UInt8) (h : RdIn w r p n cp at_ en sz B) :
    Calls Tryd.prog 51 #[.pointer (some ⟨r, 0, none⟩), .int .u8 (c : Nat)] w fun e w' => RdTo w r p n cp at_ en sz own (fixedR c (sOf B at_ en)) e w' := by
  have hl : (sOf B at_ en).length = en - at_ := sOf_len (by rw [h.len]; exact h.hen)
  have hae := h.ha
  have hclt : c < 256 := by omega
  by_cases hs : en < at_ + widC c
  · have e1 : fixedR c (sOf B at_ en) = .error .short := by unfold fixedR; rw [if_pos (by omega)]
    rw [e1]
    exact fixed_short c _ _ hclt rfl rfl w r p n cp at_ en sz own B h hs
  have htk : beVal ((sOf B at_ en).take (widC c)) = nAt B at_ (widC c) := by unfold nAt; rw [sOf_take (by omega)]
  have hnl : ¬ (sOf B at_ en).length < widC c := by omega
  unfold fixedR
  rw [htk, if_neg hnl]
  clear htk hnl
  have hs2 : at_ + widC c ≤ en := by omega
  clear hs hl hae
  rcases codes_fixed c h5 h8 hk with rfl | rfl | rfl | rfl | rfl | rfl | rfl | rfl | rfl | rfl | rfl | rfl | rfl | rfl | rfl | rfl | rfl | rfl | rfl
  · have hw0 : widC 80 = 1 := rfl
    have hk0 : kindC 80 = 2 := rfl
    rw [hw0, hk0]
    rw [hw0] at hs2
    have hlt := nAt_lt (B := B) (at_ := at_) (wd := 1)
    rw [show (256 : Nat) ^ 1 = 256 by decide] at hlt
    rw [if_neg (by omega), if_neg (by omega), sgn_other _ _ (by omega)]
    exact (fixed_plain 80 1 2 (by decide) rfl rfl (by omega) (by omega) w r p n cp at_ en sz own B h hs2 (Lib.hid ⟨rfl, rfl, rfl, rfl, rfl, rfl⟩)).mono (fun e w' q => by obtain ⟨rfl, q2⟩ := q; exact RdTo.of_ok ⟨by omega, by omega⟩ (num_u64 (by omega)) q2)
  · have hw0 : widC 81 = 1 := rfl
    have hk0 : kindC 81 = 6 := rfl
    rw [hw0, hk0]
    rw [hw0] at hs2
    have hlt := nAt_lt (B := B) (at_ := at_) (wd := 1)
    rw [show (256 : Nat) ^ 1 = 256 by decide] at hlt
    rw [if_neg (by omega), if_neg (by omega)]
    exact (fixed_6_1 81 _ (by decide) rfl rfl (by omega) (by omega) w r p n cp at_ en sz own B h hs2 (Lib.hid (sg_1 _ hlt 6 (by decide)))).mono (fun e w' q => by obtain ⟨rfl, q2⟩ := q; exact RdTo.of_ok ⟨by omega, by omega⟩ (sgn_u64 (by omega) nAt_lt) q2)
  · have hw0 : widC 82 = 1 := rfl
    have hk0 : kindC 82 = 4 := rfl
    rw [hw0, hk0]
    rw [hw0] at hs2
    have hlt := nAt_lt (B := B) (at_ := at_) (wd := 1)
    rw [show (256 : Nat) ^ 1 = 256 by decide] at hlt
    rw [if_neg (by omega), if_neg (by omega), sgn_other _ _ (by omega)]
    exact (fixed_plain 82 1 4 (by decide) rfl rfl (by omega) (by omega) w r p n cp at_ en sz own B h hs2 (Lib.hid ⟨rfl, rfl, rfl, rfl, rfl, rfl⟩)).mono (fun e w' q => by obtain ⟨rfl, q2⟩ := q; exact RdTo.of_ok ⟨by omega, by omega⟩ (num_u64 (by omega)) q2)
  · have hw0 : widC 83 = 1 := rfl
    have hk0 : kindC 83 = 5 := rfl
    rw [hw0, hk0]
    rw [hw0] at hs2
    have hlt := nAt_lt (B := B) (at_ := at_) (wd := 1)
    rw [show (256 : Nat) ^ 1 = 256 by decide] at hlt
    rw [if_neg (by omega), if_neg (by omega), sgn_other _ _ (by omega)]
    exact (fixed_plain 83 1 5 (by decide) rfl rfl (by omega) (by omega) w r p n cp at_ en sz own B h hs2 (Lib.hid ⟨rfl, rfl, rfl, rfl, rfl, rfl⟩)).mono (fun e w' q => by obtain ⟨rfl, q2⟩ := q; exact RdTo.of_ok ⟨by omega, by omega⟩ (num_u64 (by omega)) q2)
  · have hw0 : widC 84 = 1 := rfl
    have hk0 : kindC 84 = 8 := rfl
    rw [hw0, hk0]
    rw [hw0] at hs2
    have hlt := nAt_lt (B := B) (at_ := at_) (wd := 1)
    rw [show (256 : Nat) ^ 1 = 256 by decide] at hlt
    rw [if_neg (by omega), if_neg (by omega)]
    exact (fixed_8_1 84 _ (by decide) rfl rfl (by omega) (by omega) w r p n cp at_ en sz own B h hs2 (Lib.hid (sg_1 _ hlt 8 (by decide)))).mono (fun e w' q => by obtain ⟨rfl, q2⟩ := q; exact RdTo.of_ok ⟨by omega, by omega⟩ (sgn_u64 (by omega) nAt_lt) q2)
  · have hw0 : widC 85 = 1 := rfl
    have hk0 : kindC 85 = 9 := rfl
    rw [hw0, hk0]
    rw [hw0] at hs2
    have hlt := nAt_lt (B := B) (at_ := at_) (wd := 1)
    rw [show (256 : Nat) ^ 1 = 256 by decide] at hlt
    rw [if_neg (by omega), if_neg (by omega)]
    exact (fixed_9_1 85 _ (by decide) rfl rfl (by omega) (by omega) w r p n cp at_ en sz own B h hs2 (Lib.hid (sg_1 _ hlt 9 (by decide)))).mono (fun e w' q => by obtain ⟨rfl, q2⟩ := q; exact RdTo.of_ok ⟨by omega, by omega⟩ (sgn_u64 (by omega) nAt_lt) q2)
  · have hw0 : widC 86 = 1 := rfl
    have hk0 : kindC 86 = 1 := rfl
    rw [hw0, hk0]
    rw [hw0] at hs2
    have hlt := nAt_lt (B := B) (at_ := at_) (wd := 1)
    rw [show (256 : Nat) ^ 1 = 256 by decide] at hlt
    by_cases hb : 1 < nAt B at_ 1
    · rw [if_pos ⟨rfl, hb⟩]
      exact fixed_boolx 86 1 (by decide) rfl rfl (by omega) (by omega) w r p n cp at_ en sz own B h hs2 (Lib.hid (by simp; omega))
    · rw [if_neg (fun q => hb q.2), if_neg (by omega), sgn_other _ _ (by omega)]
      exact (fixed_bool 86 1 (by decide) rfl rfl (by omega) (by omega) w r p n cp at_ en sz own B h hs2 (Lib.hid (by simp; omega))).mono (fun e w' q => by obtain ⟨rfl, q2⟩ := q; exact RdTo.of_ok ⟨by omega, by omega⟩ (num_u64 (by omega)) q2)
  · have hw0 : widC 96 = 2 := rfl
    have hk0 : kindC 96 = 3 := rfl
    rw [hw0, hk0]
    rw [hw0] at hs2
    have hlt := nAt_lt (B := B) (at_ := at_) (wd := 2)
    rw [show (256 : Nat) ^ 2 = 65536 by decide] at hlt
    rw [if_neg (by omega), if_neg (by omega), sgn_other _ _ (by omega)]
    exact (fixed_plain 96 2 3 (by decide) rfl rfl (by omega) (by omega) w r p n cp at_ en sz own B h hs2 (Lib.hid ⟨rfl, rfl, rfl, rfl, rfl, rfl⟩)).mono (fun e w' q => by obtain ⟨rfl, q2⟩ := q; exact RdTo.of_ok ⟨by omega, by omega⟩ (num_u64 (by omega)) q2)
  · have hw0 : widC 97 = 2 := rfl
    have hk0 : kindC 97 = 7 := rfl
    rw [hw0, hk0]
    rw [hw0] at hs2
    have hlt := nAt_lt (B := B) (at_ := at_) (wd := 2)
    rw [show (256 : Nat) ^ 2 = 65536 by decide] at hlt
    rw [if_neg (by omega), if_neg (by omega)]
    exact (fixed_7_2 97 _ (by decide) rfl rfl (by omega) (by omega) w r p n cp at_ en sz own B h hs2 (Lib.hid (sg_2 _ hlt 7 (by decide)))).mono (fun e w' q => by obtain ⟨rfl, q2⟩ := q; exact RdTo.of_ok ⟨by omega, by omega⟩ (sgn_u64 (by omega) nAt_lt) q2)
  · have hw0 : widC 112 = 4 := rfl
    have hk0 : kindC 112 = 4 := rfl
    rw [hw0, hk0]
    rw [hw0] at hs2
    have hlt := nAt_lt (B := B) (at_ := at_) (wd := 4)
    rw [show (256 : Nat) ^ 4 = 4294967296 by decide] at hlt
    rw [if_neg (by omega), if_neg (by omega), sgn_other _ _ (by omega)]
    exact (fixed_plain 112 4 4 (by decide) rfl rfl (by omega) (by omega) w r p n cp at_ en sz own B h hs2 (Lib.hid ⟨rfl, rfl, rfl, rfl, rfl, rfl⟩)).mono (fun e w' q => by obtain ⟨rfl, q2⟩ := q; exact RdTo.of_ok ⟨by omega, by omega⟩ (num_u64 (by omega)) q2)
  · have hw0 : widC 113 = 4 := rfl
    have hk0 : kindC 113 = 8 := rfl
    rw [hw0, hk0]
    rw [hw0] at hs2
    have hlt := nAt_lt (B := B) (at_ := at_) (wd := 4)
    rw [show (256 : Nat) ^ 4 = 4294967296 by decide] at hlt
    rw [if_neg (by omega), if_neg (by omega)]
    exact (fixed_8_4 113 _ (by decide) rfl rfl (by omega) (by omega) w r p n cp at_ en sz own B h hs2 (Lib.hid (sg_4 _ hlt 8 (by decide)))).mono (fun e w' q => by obtain ⟨rfl, q2⟩ := q; exact RdTo.of_ok ⟨by omega, by omega⟩ (sgn_u64 (by omega) nAt_lt) q2)
  · have hw0 : widC 114 = 4 := rfl
    have hk0 : kindC 114 = 10 := rfl
    rw [hw0, hk0]
    rw [hw0] at hs2
    have hlt := nAt_lt (B := B) (at_ := at_) (wd := 4)
    rw [show (256 : Nat) ^ 4 = 4294967296 by decide] at hlt
    rw [if_neg (by omega), if_neg (by omega), sgn_other _ _ (by omega)]
    exact (fixed_plain 114 4 10 (by decide) rfl rfl (by omega) (by omega) w r p n cp at_ en sz own B h hs2 (Lib.hid ⟨rfl, rfl, rfl, rfl, rfl, rfl⟩)).mono (fun e w' q => by obtain ⟨rfl, q2⟩ := q; exact RdTo.of_ok ⟨by omega, by omega⟩ (num_u64 (by omega)) q2)
  · have hw0 : widC 115 = 4 := rfl
    have hk0 : kindC 115 = 15 := rfl
    rw [hw0, hk0]
    rw [hw0] at hs2
    have hlt := nAt_lt (B := B) (at_ := at_) (wd := 4)
    rw [show (256 : Nat) ^ 4 = 4294967296 by decide] at hlt
    rw [if_neg (by omega)]
    by_cases hb : isCh (nAt B at_ 4) = false
    · rw [if_pos ⟨rfl, hb⟩]
      have hb2 : ¬ (nAt B at_ 4 ≤ 1114111 ∧ (nAt B at_ 4 < 55296 ∨ 57343 < nAt B at_ 4)) := by simp [isCh] at hb; omega
      by_cases g : 1114111 < nAt B at_ 4
      · exact fixed_charX 115 4 (by decide) rfl rfl (by omega) (by omega) w r p n cp at_ en sz own B h hs2 (Lib.hid (by simp; omega))
      · exact fixed_charY 115 4 (by decide) rfl rfl (by omega) (by omega) w r p n cp at_ en sz own B h hs2 (Lib.hid ⟨by simp; omega, by simp; omega, by simp; omega⟩)
    · rw [if_neg (fun q => hb q.2), sgn_other _ _ (by omega)]
      have hb2 : nAt B at_ 4 ≤ 1114111 ∧ (nAt B at_ 4 < 55296 ∨ 57343 < nAt B at_ 4) := by simp [isCh] at hb; omega
      by_cases g : nAt B at_ 4 < 55296
      · exact (fixed_charA 115 4 (by decide) rfl rfl (by omega) (by omega) w r p n cp at_ en sz own B h hs2 (Lib.hid ⟨by simp; omega, by simp; omega⟩)).mono (fun e w' q => by obtain ⟨rfl, q2⟩ := q; exact RdTo.of_ok ⟨by omega, by omega⟩ (num_u64 (by omega)) q2)
      · exact (fixed_charB 115 4 (by decide) rfl rfl (by omega) (by omega) w r p n cp at_ en sz own B h hs2 (Lib.hid ⟨by simp; omega, by simp; omega, by simp; omega⟩)).mono (fun e w' q => by obtain ⟨rfl, q2⟩ := q; exact RdTo.of_ok ⟨by omega, by omega⟩ (num_u64 (by omega)) q2)
  · have hw0 : widC 116 = 4 := rfl
    have hk0 : kindC 116 = 12 := rfl
    rw [hw0, hk0]
    rw [hw0] at hs2
    have hlt := nAt_lt (B := B) (at_ := at_) (wd := 4)
    rw [show (256 : Nat) ^ 4 = 4294967296 by decide] at hlt
    rw [if_neg (by omega), if_neg (by omega), sgn_other _ _ (by omega)]
    exact (fixed_plain 116 4 12 (by decide) rfl rfl (by omega) (by omega) w r p n cp at_ en sz own B h hs2 (Lib.hid ⟨rfl, rfl, rfl, rfl, rfl, rfl⟩)).mono (fun e w' q => by obtain ⟨rfl, q2⟩ := q; exact RdTo.of_ok ⟨by omega, by omega⟩ (num_u64 (by omega)) q2)
  · have hw0 : widC 128 = 8 := rfl
    have hk0 : kindC 128 = 5 := rfl
    rw [hw0, hk0]
    rw [hw0] at hs2
    have hlt := nAt_lt (B := B) (at_ := at_) (wd := 8)
    rw [show (256 : Nat) ^ 8 = 18446744073709551616 by decide] at hlt
    rw [if_neg (by omega), if_neg (by omega), sgn_other _ _ (by omega)]
    exact (fixed_plain 128 8 5 (by decide) rfl rfl (by omega) (by omega) w r p n cp at_ en sz own B h hs2 (Lib.hid ⟨rfl, rfl, rfl, rfl, rfl, rfl⟩)).mono (fun e w' q => by obtain ⟨rfl, q2⟩ := q; exact RdTo.of_ok ⟨by omega, by omega⟩ (num_u64 (by omega)) q2)
  · have hw0 : widC 129 = 8 := rfl
    have hk0 : kindC 129 = 9 := rfl
    rw [hw0, hk0]
    rw [hw0] at hs2
    have hlt := nAt_lt (B := B) (at_ := at_) (wd := 8)
    rw [show (256 : Nat) ^ 8 = 18446744073709551616 by decide] at hlt
    rw [if_neg (by omega), if_neg (by omega)]
    exact (fixed_9_8 129 _ (by decide) rfl rfl (by omega) (by omega) w r p n cp at_ en sz own B h hs2 (Lib.hid (sg_8 _ hlt 9))).mono (fun e w' q => by obtain ⟨rfl, q2⟩ := q; exact RdTo.of_ok ⟨by omega, by omega⟩ (sgn_u64 (by omega) nAt_lt) q2)
  · have hw0 : widC 130 = 8 := rfl
    have hk0 : kindC 130 = 11 := rfl
    rw [hw0, hk0]
    rw [hw0] at hs2
    have hlt := nAt_lt (B := B) (at_ := at_) (wd := 8)
    rw [show (256 : Nat) ^ 8 = 18446744073709551616 by decide] at hlt
    rw [if_neg (by omega), if_neg (by omega), sgn_other _ _ (by omega)]
    exact (fixed_plain 130 8 11 (by decide) rfl rfl (by omega) (by omega) w r p n cp at_ en sz own B h hs2 (Lib.hid ⟨rfl, rfl, rfl, rfl, rfl, rfl⟩)).mono (fun e w' q => by obtain ⟨rfl, q2⟩ := q; exact RdTo.of_ok ⟨by omega, by omega⟩ (num_u64 (by omega)) q2)
  · have hw0 : widC 131 = 8 := rfl
    have hk0 : kindC 131 = 16 := rfl
    rw [hw0, hk0]
    rw [hw0] at hs2
    have hlt := nAt_lt (B := B) (at_ := at_) (wd := 8)
    rw [show (256 : Nat) ^ 8 = 18446744073709551616 by decide] at hlt
    rw [if_neg (by omega), if_neg (by omega), sgn_other _ _ (by omega)]
    exact (fixed_plain 131 8 16 (by decide) rfl rfl (by omega) (by omega) w r p n cp at_ en sz own B h hs2 (Lib.hid ⟨rfl, rfl, rfl, rfl, rfl, rfl⟩)).mono (fun e w' q => by obtain ⟨rfl, q2⟩ := q; exact RdTo.of_ok ⟨by omega, by omega⟩ (num_u64 (by omega)) q2)
  · have hw0 : widC 132 = 8 := rfl
    have hk0 : kindC 132 = 13 := rfl
    rw [hw0, hk0]
    rw [hw0] at hs2
    have hlt := nAt_lt (B := B) (at_ := at_) (wd := 8)
    rw [show (256 : Nat) ^ 8 = 18446744073709551616 by decide] at hlt
    rw [if_neg (by omega), if_neg (by omega), sgn_other _ _ (by omega)]
    exact (fixed_plain 132 8 13 (by decide) rfl rfl (by omega) (by omega) w r p n cp at_ en sz own B h hs2 (Lib.hid ⟨rfl, rfl, rfl, rfl, rfl, rfl⟩)).mono (fun e w' q => by obtain ⟨rfl, q2⟩ := q; exact RdTo.of_ok ⟨by omega, by omega⟩ (num_u64 (by omega)) q2)

theorem run_string_bytes {P : Program} (w : World) (src dst e : TypeId) (hs : P.underlying src = some (.slice e)) (he : P.underlying e = some (.int .u8)) (hd : P.underlying dst = some .string) (a : Option Addr) (n c : Nat) (l : List UInt8) (h : BytesIn w a n c l) :
    (convert src dst (.slice a n c)).run P w = .ok (.string ⟨l.toArray⟩) w := by
  by_cases h0 : n = 0
  · subst h0
    have hl : l = [] := List.eq_nil_of_length_eq_zero h.len
    subst hl
    cases a with
    | none => exact run_convert_bytes_nil w src e hs he 0 c dst hd
    | some a =>
      obtain ⟨b, o, e⟩ := a
      rw [run_convert_bytes_string w src dst _ _ 0 c hs he hd]
      simp [Conv.bytesToString, loadCells, loadCellsFrom]
      rfl
  · obtain ⟨b, o, rfl, _, hc⟩ := h.at_ (by have := h.le; omega)
    have := run_convert_bytes_arg (P := P) w src e hs he b o n c (l.map fun x => (x.toNat : Int)) (by rw [List.length_map, h.len]) (fun i hi => by
      rw [hc i hi]
      have hil : i < l.length := by rw [h.len]; exact hi
      simp [List.getD_eq_getElem?_getD, hil]) dst hd
    rw [this]
    have e2 : (l.map fun x => (x.toNat : Int)).map (fun n => UInt8.ofNat n.toNat) = l := by
      rw [List.map_map]
      conv => rhs; rw [← List.map_id l]
      exact List.map_congr_left fun x _ => by simp
    unfold strOfNums
    rw [e2]
end Go.Proofs.YtjipennigjlklaaDoor
