/-
  Lemmas on the codec. Conditions: as each says.
-/
import Derived.Test.YtnnnfhobbnjmfaaGreatDoorEn25
import Derived.Test.YtnnnfhobbnjmfaaGreatDoorEn01
import Derived.Laws.BytesArg
import Derived.Test.YtnnnfhobbnjmfaaGreatDoorEn04
import Derived.Great.BuildSlice
import Derived.Test.YtnnnfhobbnjmfaaGreatDoorEn02
import Derived.OrdersHeld
import Derived.Test.YtnnnfhobbnjmfaaGreatDoorEn10
import Derived.Maps.OwnSet
import Derived.Maps.OwnOps
namespace Go.Proofs.YtnnnfhobbnjmfaaGreatDoor
open Go.RowKit
set_option linter.all false
set_option maxHeartbeats 4000000

theorem sg_1 (n : Nat) (h : n < 256) (k : Int) (hk : k = 6 ∨ k = 7 ∨ k = 8 ∨ k = 9) : IntKind.u64.wrap (wrap64 (IntKind.u64.wrap (((n : Nat) : Int) * 72057594037927936)) / 72057594037927936) = sgnW k 1 n := by
  have hp : ((256 ^ 1 : Nat)) = 256 := by decide
  unfold sgnW
  rw [hp]
  unfold wrap64
  simp only [IntKind.wrap, IntKind.bits, IntKind.signed, Bool.false_and, Bool.false_eq_true, if_false]
  by_cases h2 : 128 ≤ n
  · rw [if_pos ⟨hk, by omega, by omega⟩]
    omega
  · rw [if_neg (by rintro ⟨_, _, h3⟩; omega)]
    omega
theorem sg_2 (n : Nat) (h : n < 65536) (k : Int) (hk : k = 6 ∨ k = 7 ∨ k = 8 ∨ k = 9) : IntKind.u64.wrap (wrap64 (IntKind.u64.wrap (((n : Nat) : Int) * 281474976710656)) / 281474976710656) = sgnW k 2 n := by
  have hp : ((256 ^ 2 : Nat)) = 65536 := by decide
  unfold sgnW
  rw [hp]
  unfold wrap64
  simp only [IntKind.wrap, IntKind.bits, IntKind.signed, Bool.false_and, Bool.false_eq_true, if_false]
  by_cases h2 : 32768 ≤ n
  · rw [if_pos ⟨hk, by omega, by omega⟩]
    omega
  · rw [if_neg (by rintro ⟨_, _, h3⟩; omega)]
    omega
theorem sg_4 (n : Nat) (h : n < 4294967296) (k : Int) (hk : k = 6 ∨ k = 7 ∨ k = 8 ∨ k = 9) : IntKind.u64.wrap (wrap64 (IntKind.u64.wrap (((n : Nat) : Int) * 4294967296)) / 4294967296) = sgnW k 4 n := by
  have hp : ((256 ^ 4 : Nat)) = 4294967296 := by decide
  unfold sgnW
  rw [hp]
  unfold wrap64
  simp only [IntKind.wrap, IntKind.bits, IntKind.signed, Bool.false_and, Bool.false_eq_true, if_false]
  by_cases h2 : 2147483648 ≤ n
  · rw [if_pos ⟨hk, by omega, by omega⟩]
    omega
  · rw [if_neg (by rintro ⟨_, _, h3⟩; omega)]
    omega
theorem sg_8 (n : Nat) (h : n < 18446744073709551616) (k : Int) : IntKind.u64.wrap (wrap64 (IntKind.u64.wrap ((n : Nat) : Int))) = sgnW k 8 n := by
  unfold sgnW
  rw [if_neg (by rintro ⟨_, h3, _⟩; omega)]
  unfold wrap64
  simp only [IntKind.wrap, IntKind.bits, IntKind.signed, Bool.false_and, Bool.false_eq_true, if_false]
  omega
theorem sgn_other {k : Int} (w n : Nat) (h : ¬ (k = 6 ∨ k = 7 ∨ k = 8 ∨ k = 9)) : sgnW k w n = n := by
  unfold sgnW
  rw [if_neg (fun q => h q.1)]
theorem num_u64 {B : List UInt8} {at_ wd : Nat} (h : wd ≤ 8) : IsU64 (nAt B at_ wd) := by
  have := nAt_lt (B := B) (at_ := at_) (wd := wd)
  have h2 : 256 ^ wd ≤ 256 ^ 8 := Nat.pow_le_pow_right (by omega) h
  have h3 : 256 ^ 8 = 18446744073709551616 := by decide
  exact ⟨by omega, by omega⟩
theorem sgn_u64 {k : Int} {wd n : Nat} (h : wd ≤ 8) (hn : n < 256 ^ wd) : IsU64 (sgnW k wd n) := by
  have h2 : 256 ^ wd ≤ 256 ^ 8 := Nat.pow_le_pow_right (by omega) h
  have h3 : 256 ^ 8 = 18446744073709551616 := by decide
  unfold sgnW
  split
  · exact ⟨by omega, by omega⟩
  · exact ⟨by omega, by omega⟩
set_option maxRecDepth 20000 in
theorem codes_fixed (c : Nat) (h5 : 5 ≤ c / 16) (h8 : c / 16 ≤ 8) (hk : 0 ≤ kindC c) : c = 80 ∨ c = 81 ∨ c = 82 ∨ c = 83 ∨ c = 84 ∨ c = 85 ∨ c = 86 ∨ c = 96 ∨ c = 97 ∨ c = 112 ∨ c = 113 ∨ c = 114 ∨ c = 115 ∨ c = 116 ∨ c = 128 ∨ c = 129 ∨ c = 130 ∨ c = 131 ∨ c = 132 := by
  have hc : c < 144 := by omega
  have hc2 : 80 ≤ c := by omega
  obtain ⟨d, hd, rfl⟩ : ∃ d, d < 64 ∧ c = 80 + d := ⟨c - 80, by omega, by omega⟩
  have key : ∀ d : Fin 64, 0 ≤ kindC (80 + d.1) → 80 + d.1 = 80 ∨ 80 + d.1 = 81 ∨ 80 + d.1 = 82 ∨ 80 + d.1 = 83 ∨ 80 + d.1 = 84 ∨ 80 + d.1 = 85 ∨ 80 + d.1 = 86 ∨ 80 + d.1 = 96 ∨ 80 + d.1 = 97 ∨ 80 + d.1 = 112 ∨ 80 + d.1 = 113 ∨ 80 + d.1 = 114 ∨ 80 + d.1 = 115 ∨ 80 + d.1 = 116 ∨ 80 + d.1 = 128 ∨ 80 + d.1 = 129 ∨ 80 + d.1 = 130 ∨ 80 + d.1 = 131 ∨ 80 + d.1 = 132 := by decide
  exact key ⟨d, hd⟩ hk
theorem RdTo.of_ok {w w' : World} {r : Nat} {p : Option Addr} {n cp at_ en : Nat} {sz own : Int} {K N : Int} {k : Nat} (hK : IsI64 K) (hN : IsU64 N) (h : RdMv w w' r #[.slice p n cp, .int .i64 (at_ + k : Nat), .int .i64 (en : Nat), .int .i64 sz]) :
    RdTo w r p n cp at_ en sz own (.ok (.mk K N ⟨#[]⟩ [] 0, k)) (.returned (.agg #[.int .i64 K, .int .u64 N, .string ⟨#[]⟩, .slice none 0 0, .int .i64 0])) w' :=
  ⟨_, _, rfl, VO.nil w' _ ⟨hK, hN, Nat.zero_le _, ⟨by show (-9223372036854775808 : Int) ≤ 0; omega, by show (0 : Int) ≤ 9223372036854775807; omega⟩⟩ rfl, h⟩
set_option maxRecDepth 20000 in
theorem fixed_any (c : Nat) (h5 : 5 ≤ c / 16) (h8 : c / 16 ≤ 8) (hk : 0 ≤ kindC c) (w : World) (r : Nat) (p : Option Addr) (n cp at_ en : Nat) (sz own : Int) (B : List UInt8) (h : RdIn w r p n cp at_ en sz B) :
    Calls Tryz.prog 84 #[.pointer (some ⟨r, 0, none⟩), .int .u8 (c : Nat)] w fun e w' => RdTo w r p n cp at_ en sz own (fixedR c (sOf B at_ en)) e w' := by
  have hl : (sOf B at_ en).length = en - at_ := sOf_len (by rw [h.len]; exact h.hen)
  have hae := h.ha
  have hclt : c < 256 := by omega
  by_cases hs : en < at_ + widC c
  · have e1 : fixedR c (sOf B at_ en) = .error .short := by unfold fixedR; rw [if_pos (by omega)]
    rw [e1]
    exact fixed_short c _ _ hclt rfl rfl w r p n cp at_ en sz own B h hs
  have htk : beVal ((sOf B at_ en).take (widC c)) = nAt B at_ (widC c) := by unfold nAt; rw [sOf_take (by omega)]
  have hnl : ¬ (sOf B at_ en).length < widC c := by omega
  unfold fixedR
  rw [htk, if_neg hnl]
  clear htk hnl
  have hs2 : at_ + widC c ≤ en := by omega
  clear hs hl hae
  rcases codes_fixed c h5 h8 hk with rfl | rfl | rfl | rfl | rfl | rfl | rfl | rfl | rfl | rfl | rfl | rfl | rfl | rfl | rfl | rfl | rfl | rfl | rfl
  · have hw0 : widC 80 = 1 := rfl
    have hk0 : kindC 80 = 2 := rfl
    rw [hw0, hk0]
    rw [hw0] at hs2
    have hlt := nAt_lt (B := B) (at_ := at_) (wd := 1)
    rw [show (256 : Nat) ^ 1 = 256 by decide] at hlt
    rw [if_neg (by omega), if_neg (by omega), sgn_other _ _ (by omega)]
    exact (fixed_plain 80 1 2 (by decide) rfl rfl (by omega) (by omega) w r p n cp at_ en sz own B h hs2 (Lib.hid ⟨rfl, rfl, rfl, rfl, rfl, rfl⟩)).mono (fun e w' q => by obtain ⟨rfl, q2⟩ := q; exact RdTo.of_ok ⟨by omega, by omega⟩ (num_u64 (by omega)) q2)
  · have hw0 : widC 81 = 1 := rfl
    have hk0 : kindC 81 = 6 := rfl
    rw [hw0, hk0]
    rw [hw0] at hs2
    have hlt := nAt_lt (B := B) (at_ := at_) (wd := 1)
    rw [show (256 : Nat) ^ 1 = 256 by decide] at hlt
    rw [if_neg (by omega), if_neg (by omega)]
    exact (fixed_6_1 81 _ (by decide) rfl rfl (by omega) (by omega) w r p n cp at_ en sz own B h hs2 (Lib.hid (sg_1 _ hlt 6 (by decide)))).mono (fun e w' q => by obtain ⟨rfl, q2⟩ := q; exact RdTo.of_ok ⟨by omega, by omega⟩ (sgn_u64 (by omega) nAt_lt) q2)
  · have hw0 : widC 82 = 1 := rfl
    have hk0 : kindC 82 = 4 := rfl
    rw [hw0, hk0]
    rw [hw0] at hs2
    have hlt := nAt_lt (B := B) (at_ := at_) (wd := 1)
    rw [show (256 : Nat) ^ 1 = 256 by decide] at hlt
    rw [if_neg (by omega), if_neg (by omega), sgn_other _ _ (by omega)]
    exact (fixed_plain 82 1 4 (by decide) rfl rfl (by omega) (by omega) w r p n cp at_ en sz own B h hs2 (Lib.hid ⟨rfl, rfl, rfl, rfl, rfl, rfl⟩)).mono (fun e w' q => by obtain ⟨rfl, q2⟩ := q; exact RdTo.of_ok ⟨by omega, by omega⟩ (num_u64 (by omega)) q2)
  · have hw0 : widC 83 = 1 := rfl
    have hk0 : kindC 83 = 5 := rfl
    rw [hw0, hk0]
    rw [hw0] at hs2
    have hlt := nAt_lt (B := B) (at_ := at_) (wd := 1)
    rw [show (256 : Nat) ^ 1 = 256 by decide] at hlt
    rw [if_neg (by omega), if_neg (by omega), sgn_other _ _ (by omega)]
    exact (fixed_plain 83 1 5 (by decide) rfl rfl (by omega) (by omega) w r p n cp at_ en sz own B h hs2 (Lib.hid ⟨rfl, rfl, rfl, rfl, rfl, rfl⟩)).mono (fun e w' q => by obtain ⟨rfl, q2⟩ := q; exact RdTo.of_ok ⟨by omega, by omega⟩ (num_u64 (by omega)) q2)
  · have hw0 : widC 84 = 1 := rfl
    have hk0 : kindC 84 = 8 := rfl
    rw [hw0, hk0]
    rw [hw0] at hs2
    have hlt := nAt_lt (B := B) (at_ := at_) (wd := 1)
    rw [show (256 : Nat) ^ 1 = 256 by decide] at hlt
    rw [if_neg (by omega), if_neg (by omega)]
    exact (fixed_8_1 84 _ (by decide) rfl rfl (by omega) (by omega) w r p n cp at_ en sz own B h hs2 (Lib.hid (sg_1 _ hlt 8 (by decide)))).mono (fun e w' q => by obtain ⟨rfl, q2⟩ := q; exact RdTo.of_ok ⟨by omega, by omega⟩ (sgn_u64 (by omega) nAt_lt) q2)
  · have hw0 : widC 85 = 1 := rfl
    have hk0 : kindC 85 = 9 := rfl
    rw [hw0, hk0]
    rw [hw0] at hs2
    have hlt := nAt_lt (B := B) (at_ := at_) (wd := 1)
    rw [show (256 : Nat) ^ 1 = 256 by decide] at hlt
    rw [if_neg (by omega), if_neg (by omega)]
    exact (fixed_9_1 85 _ (by decide) rfl rfl (by omega) (by omega) w r p n cp at_ en sz own B h hs2 (Lib.hid (sg_1 _ hlt 9 (by decide)))).mono (fun e w' q => by obtain ⟨rfl, q2⟩ := q; exact RdTo.of_ok ⟨by omega, by omega⟩ (sgn_u64 (by omega) nAt_lt) q2)
  · have hw0 : widC 86 = 1 := rfl
    have hk0 : kindC 86 = 1 := rfl
    rw [hw0, hk0]
    rw [hw0] at hs2
    have hlt := nAt_lt (B := B) (at_ := at_) (wd := 1)
    rw [show (256 : Nat) ^ 1 = 256 by decide] at hlt
    by_cases hb : 1 < nAt B at_ 1
    · rw [if_pos ⟨rfl, hb⟩]
      exact fixed_boolx 86 1 (by decide) rfl rfl (by omega) (by omega) w r p n cp at_ en sz own B h hs2 (Lib.hid (by simp; omega))
    · rw [if_neg (fun q => hb q.2), if_neg (by omega), sgn_other _ _ (by omega)]
      exact (fixed_bool 86 1 (by decide) rfl rfl (by omega) (by omega) w r p n cp at_ en sz own B h hs2 (Lib.hid (by simp; omega))).mono (fun e w' q => by obtain ⟨rfl, q2⟩ := q; exact RdTo.of_ok ⟨by omega, by omega⟩ (num_u64 (by omega)) q2)
  · have hw0 : widC 96 = 2 := rfl
    have hk0 : kindC 96 = 3 := rfl
    rw [hw0, hk0]
    rw [hw0] at hs2
    have hlt := nAt_lt (B := B) (at_ := at_) (wd := 2)
    rw [show (256 : Nat) ^ 2 = 65536 by decide] at hlt
    rw [if_neg (by omega), if_neg (by omega), sgn_other _ _ (by omega)]
    exact (fixed_plain 96 2 3 (by decide) rfl rfl (by omega) (by omega) w r p n cp at_ en sz own B h hs2 (Lib.hid ⟨rfl, rfl, rfl, rfl, rfl, rfl⟩)).mono (fun e w' q => by obtain ⟨rfl, q2⟩ := q; exact RdTo.of_ok ⟨by omega, by omega⟩ (num_u64 (by omega)) q2)
  · have hw0 : widC 97 = 2 := rfl
    have hk0 : kindC 97 = 7 := rfl
    rw [hw0, hk0]
    rw [hw0] at hs2
    have hlt := nAt_lt (B := B) (at_ := at_) (wd := 2)
    rw [show (256 : Nat) ^ 2 = 65536 by decide] at hlt
    rw [if_neg (by omega), if_neg (by omega)]
    exact (fixed_7_2 97 _ (by decide) rfl rfl (by omega) (by omega) w r p n cp at_ en sz own B h hs2 (Lib.hid (sg_2 _ hlt 7 (by decide)))).mono (fun e w' q => by obtain ⟨rfl, q2⟩ := q; exact RdTo.of_ok ⟨by omega, by omega⟩ (sgn_u64 (by omega) nAt_lt) q2)
  · have hw0 : widC 112 = 4 := rfl
    have hk0 : kindC 112 = 4 := rfl
    rw [hw0, hk0]
    rw [hw0] at hs2
    have hlt := nAt_lt (B := B) (at_ := at_) (wd := 4)
    rw [show (256 : Nat) ^ 4 = 4294967296 by decide] at hlt
    rw [if_neg (by omega), if_neg (by omega), sgn_other _ _ (by omega)]
    exact (fixed_plain 112 4 4 (by decide) rfl rfl (by omega) (by omega) w r p n cp at_ en sz own B h hs2 (Lib.hid ⟨rfl, rfl, rfl, rfl, rfl, rfl⟩)).mono (fun e w' q => by obtain ⟨rfl, q2⟩ := q; exact RdTo.of_ok ⟨by omega, by omega⟩ (num_u64 (by omega)) q2)
  · have hw0 : widC 113 = 4 := rfl
    have hk0 : kindC 113 = 8 := rfl
    rw [hw0, hk0]
    rw [hw0] at hs2
    have hlt := nAt_lt (B := B) (at_ := at_) (wd := 4)
    rw [show (256 : Nat) ^ 4 = 4294967296 by decide] at hlt
    rw [if_neg (by omega), if_neg (by omega)]
    exact (fixed_8_4 113 _ (by decide) rfl rfl (by omega) (by omega) w r p n cp at_ en sz own B h hs2 (Lib.hid (sg_4 _ hlt 8 (by decide)))).mono (fun e w' q => by obtain ⟨rfl, q2⟩ := q; exact RdTo.of_ok ⟨by omega, by omega⟩ (sgn_u64 (by omega) nAt_lt) q2)
  · have hw0 : widC 114 = 4 := rfl
    have hk0 : kindC 114 = 10 := rfl
    rw [hw0, hk0]
    rw [hw0] at hs2
    have hlt := nAt_lt (B := B) (at_ := at_) (wd := 4)
    rw [show (256 : Nat) ^ 4 = 4294967296 by decide] at hlt
    rw [if_neg (by omega), if_neg (by omega), sgn_other _ _ (by omega)]
    exact (fixed_plain 114 4 10 (by decide) rfl rfl (by omega) (by omega) w r p n cp at_ en sz own B h hs2 (Lib.hid ⟨rfl, rfl, rfl, rfl, rfl, rfl⟩)).mono (fun e w' q => by obtain ⟨rfl, q2⟩ := q; exact RdTo.of_ok ⟨by omega, by omega⟩ (num_u64 (by omega)) q2)
  · have hw0 : widC 115 = 4 := rfl
    have hk0 : kindC 115 = 15 := rfl
    rw [hw0, hk0]
    rw [hw0] at hs2
    have hlt := nAt_lt (B := B) (at_ := at_) (wd := 4)
    rw [show (256 : Nat) ^ 4 = 4294967296 by decide] at hlt
    rw [if_neg (by omega)]
    by_cases hb : isCh (nAt B at_ 4) = false
    · rw [if_pos ⟨rfl, hb⟩]
      have hb2 : ¬ (nAt B at_ 4 ≤ 1114111 ∧ (nAt B at_ 4 < 55296 ∨ 57343 < nAt B at_ 4)) := by simp [isCh] at hb; omega
      by_cases g : 1114111 < nAt B at_ 4
      · exact fixed_charX 115 4 (by decide) rfl rfl (by omega) (by omega) w r p n cp at_ en sz own B h hs2 (Lib.hid (by simp; omega))
      · exact fixed_charY 115 4 (by decide) rfl rfl (by omega) (by omega) w r p n cp at_ en sz own B h hs2 (Lib.hid ⟨by simp; omega, by simp; omega, by simp; omega⟩)
    · rw [if_neg (fun q => hb q.2), sgn_other _ _ (by omega)]
      have hb2 : nAt B at_ 4 ≤ 1114111 ∧ (nAt B at_ 4 < 55296 ∨ 57343 < nAt B at_ 4) := by simp [isCh] at hb; omega
      by_cases g : nAt B at_ 4 < 55296
      · exact (fixed_charA 115 4 (by decide) rfl rfl (by omega) (by omega) w r p n cp at_ en sz own B h hs2 (Lib.hid ⟨by simp; omega, by simp; omega⟩)).mono (fun e w' q => by obtain ⟨rfl, q2⟩ := q; exact RdTo.of_ok ⟨by omega, by omega⟩ (num_u64 (by omega)) q2)
      · exact (fixed_charB 115 4 (by decide) rfl rfl (by omega) (by omega) w r p n cp at_ en sz own B h hs2 (Lib.hid ⟨by simp; omega, by simp; omega, by simp; omega⟩)).mono (fun e w' q => by obtain ⟨rfl, q2⟩ := q; exact RdTo.of_ok ⟨by omega, by omega⟩ (num_u64 (by omega)) q2)
  · have hw0 : widC 116 = 4 := rfl
    have hk0 : kindC 116 = 12 := rfl
    rw [hw0, hk0]
    rw [hw0] at hs2
    have hlt := nAt_lt (B := B) (at_ := at_) (wd := 4)
    rw [show (256 : Nat) ^ 4 = 4294967296 by decide] at hlt
    rw [if_neg (by omega), if_neg (by omega), sgn_other _ _ (by omega)]
    exact (fixed_plain 116 4 12 (by decide) rfl rfl (by omega) (by omega) w r p n cp at_ en sz own B h hs2 (Lib.hid ⟨rfl, rfl, rfl, rfl, rfl, rfl⟩)).mono (fun e w' q => by obtain ⟨rfl, q2⟩ := q; exact RdTo.of_ok ⟨by omega, by omega⟩ (num_u64 (by omega)) q2)
  · have hw0 : widC 128 = 8 := rfl
    have hk0 : kindC 128 = 5 := rfl
    rw [hw0, hk0]
    rw [hw0] at hs2
    have hlt := nAt_lt (B := B) (at_ := at_) (wd := 8)
    rw [show (256 : Nat) ^ 8 = 18446744073709551616 by decide] at hlt
    rw [if_neg (by omega), if_neg (by omega), sgn_other _ _ (by omega)]
    exact (fixed_plain 128 8 5 (by decide) rfl rfl (by omega) (by omega) w r p n cp at_ en sz own B h hs2 (Lib.hid ⟨rfl, rfl, rfl, rfl, rfl, rfl⟩)).mono (fun e w' q => by obtain ⟨rfl, q2⟩ := q; exact RdTo.of_ok ⟨by omega, by omega⟩ (num_u64 (by omega)) q2)
  · have hw0 : widC 129 = 8 := rfl
    have hk0 : kindC 129 = 9 := rfl
    rw [hw0, hk0]
    rw [hw0] at hs2
    have hlt := nAt_lt (B := B) (at_ := at_) (wd := 8)
    rw [show (256 : Nat) ^ 8 = 18446744073709551616 by decide] at hlt
    rw [if_neg (by omega), if_neg (by omega)]
    exact (fixed_9_8 129 _ (by decide) rfl rfl (by omega) (by omega) w r p n cp at_ en sz own B h hs2 (Lib.hid (sg_8 _ hlt 9))).mono (fun e w' q => by obtain ⟨rfl, q2⟩ := q; exact RdTo.of_ok ⟨by omega, by omega⟩ (sgn_u64 (by omega) nAt_lt) q2)
  · have hw0 : widC 130 = 8 := rfl
    have hk0 : kindC 130 = 11 := rfl
    rw [hw0, hk0]
    rw [hw0] at hs2
    have hlt := nAt_lt (B := B) (at_ := at_) (wd := 8)
    rw [show (256 : Nat) ^ 8 = 18446744073709551616 by decide] at hlt
    rw [if_neg (by omega), if_neg (by omega), sgn_other _ _ (by omega)]
    exact (fixed_plain 130 8 11 (by decide) rfl rfl (by omega) (by omega) w r p n cp at_ en sz own B h hs2 (Lib.hid ⟨rfl, rfl, rfl, rfl, rfl, rfl⟩)).mono (fun e w' q => by obtain ⟨rfl, q2⟩ := q; exact RdTo.of_ok ⟨by omega, by omega⟩ (num_u64 (by omega)) q2)
  · have hw0 : widC 131 = 8 := rfl
    have hk0 : kindC 131 = 16 := rfl
    rw [hw0, hk0]
    rw [hw0] at hs2
    have hlt := nAt_lt (B := B) (at_ := at_) (wd := 8)
    rw [show (256 : Nat) ^ 8 = 18446744073709551616 by decide] at hlt
    rw [if_neg (by omega), if_neg (by omega), sgn_other _ _ (by omega)]
    exact (fixed_plain 131 8 16 (by decide) rfl rfl (by omega) (by omega) w r p n cp at_ en sz own B h hs2 (Lib.hid ⟨rfl, rfl, rfl, rfl, rfl, rfl⟩)).mono (fun e w' q => by obtain ⟨rfl, q2⟩ := q; exact RdTo.of_ok ⟨by omega, by omega⟩ (num_u64 (by omega)) q2)
  · have hw0 : widC 132 = 8 := rfl
    have hk0 : kindC 132 = 13 := rfl
    rw [hw0, hk0]
    rw [hw0] at hs2
    have hlt := nAt_lt (B := B) (at_ := at_) (wd := 8)
    rw [show (256 : Nat) ^ 8 = 18446744073709551616 by decide] at hlt
    rw [if_neg (by omega), if_neg (by omega), sgn_other _ _ (by omega)]
    exact (fixed_plain 132 8 13 (by decide) rfl rfl (by omega) (by omega) w r p n cp at_ en sz own B h hs2 (Lib.hid ⟨rfl, rfl, rfl, rfl, rfl, rfl⟩)).mono (fun e w' q => by obtain ⟨rfl, q2⟩ := q; exact RdTo.of_ok ⟨by omega, by omega⟩ (num_u64 (by omega)) q2)

theorem run_string_bytes {P : Program} (w : World) (src dst e : TypeId) (hs : P.underlying src = some (.slice e)) (he : P.underlying e = some (.int .u8)) (hd : P.underlying dst = some .string) (a : Option Addr) (n c : Nat) (l : List UInt8) (h : BytesIn w a n c l) :
    (convert src dst (.slice a n c)).run P w = .ok (.string ⟨l.toArray⟩) w := by
  by_cases h0 : n = 0
  · subst h0
    have hl : l = [] := List.eq_nil_of_length_eq_zero h.len
    subst hl
    cases a with
    | none => exact run_convert_bytes_nil w src e hs he 0 c dst hd
    | some a =>
      obtain ⟨b, o, e⟩ := a
      rw [run_convert_bytes_string w src dst _ _ 0 c hs he hd]
      simp [Conv.bytesToString, loadCells, loadCellsFrom]
      rfl
  · obtain ⟨b, o, rfl, _, hc⟩ := h.at_ (by have := h.le; omega)
    have := run_convert_bytes_arg (P := P) w src e hs he b o n c (l.map fun x => (x.toNat : Int)) (by rw [List.length_map, h.len]) (fun i hi => by
      rw [hc i hi]
      have hil : i < l.length := by rw [h.len]; exact hi
      simp [List.getD_eq_getElem?_getD, hil]) dst hd
    rw [this]
    have e2 : (l.map fun x => (x.toNat : Int)).map (fun n => UInt8.ofNat n.toNat) = l := by
      rw [List.map_map]
      conv => rhs; rw [← List.map_id l]
      exact List.map_congr_left fun x _ => by simp
    unfold strOfNums
    rw [e2]
set_option maxHeartbeats 4000000

attribute [local go_sem] Oper.semAt_some

theorem wp_store_rowN {P : Program} {o : Oper} {a : Act} {w : World} {K : Act → World → Prop} {Q : Exit → Act → World → Prop} (ty : TypeId) (x y : Operand) (ho : o.op = .store ty x y) (hd : o.dst = none)
    (g : Nat) (cells : Array Value) (hx : a.eval x = .pointer (some ⟨g, 0, none⟩)) (hy : a.eval y = .agg cells)
    (t : TypeId) (old : Array Value) (hg : w.heap[g]? = some (.cells old t (0, 0))) (hi : (P.info? ty).map (·.size) = some cells.size)
    (hold : old.size = cells.size) (h1 : cells.all (·.oneCell') = true)
    (h : K a (w.setRow g cells)) : o.wp P a w K Q := wp_store_row ty x y ho g cells hx hy t old hg hi hold h1 (by rw [hd]; exact h)
theorem BytesIn.part {w : World} {p : Option Addr} {n c : Nat} {l : List UInt8} (h : BytesIn w p n c l) (A k : Nat) (hk : A + k ≤ n) : BytesIn w (if c = A then p else p.map (fun x => x.add A)) k (c - A) ((l.drop A).take k) := by
  have h2 := h.le
  by_cases e : c = A
  · rw [if_pos e]
    obtain rfl : k = 0 := by omega
    rw [List.take_zero, e, Nat.sub_self]
    exact BytesIn.empty p
  · rw [if_neg e]
    obtain ⟨b, o, rfl, _, _⟩ := h.at_ (by omega)
    have := h.sub A k hk
    have e2 : (⟨b, o, none⟩ : Addr).add A = ⟨b, o + A, none⟩ := by unfold Addr.add; split <;> simp_all
    rw [Option.map_some, e2]
    exact this
set_option maxHeartbeats 4000000

set_option maxHeartbeats 4000000

attribute [local go_sem] Oper.semAt_some

set_option maxRecDepth 20000 in
theorem data_fixed (c : Nat) (o d : Int) (x : Res) (w : World) (r : Nat) (p : Option Addr) (n cp at_ en : Nat) (sz own : Int) (B : List UInt8) (h : RdIn w r p n cp at_ en sz B)
    (hx : ∀ W, RdIn W r p n cp at_ en sz B → Calls Tryz.prog 84 #[.pointer (some ⟨r, 0, none⟩), .int .u8 (c : Nat)] W fun e w' => RdTo W r p n cp at_ en sz own x e w') (hc : c < 144) :
    Calls Tryz.prog 58 #[.pointer (some ⟨r, 0, none⟩), .int .u8 ((c : Nat)), .int .i64 o, .int .i64 d] w fun e w' => RdTo w r p n cp at_ en sz own x e w' := by
  have HX := Lib.hid hx
  clear hx
  have n176 : (((c : Nat) : Int) == 176) = false := by simp; omega
  have n177 : (((c : Nat) : Int) == 177) = false := by simp; omega
  have n179 : (((c : Nat) : Int) == 179) = false := by simp; omega
  have n160 : (((c : Nat) : Int) == 160) = false := by simp; omega
  have n161 : (((c : Nat) : Int) == 161) = false := by simp; omega
  have n163 : (((c : Nat) : Int) == 163) = false := by simp; omega
  have n208 : (((c : Nat) : Int) == 208) = false := by simp; omega
  have n209 : (((c : Nat) : Int) == 209) = false := by simp; omega
  have n192 : (((c : Nat) : Int) == 192) = false := by simp; omega
  have n193 : (((c : Nat) : Int) == 193) = false := by simp; omega
  have n240 : (((c : Nat) : Int) == 240) = false := by simp; omega
  have n224 : (((c : Nat) : Int) == 224) = false := by simp; omega
  have n148 : (((c : Nat) : Int) == 148) = false := by simp; omega
  have n152 : (((c : Nat) : Int) == 152) = false := by simp; omega
  clear hc
  go_enter Tryz.func58, Tryz.ntmps58
  go_upto_region 1 with fail
  have hb0 : Below w.heap.size w (w.alloc (.cells zR 25)) := ((Below.refl _ _).alloc (Nat.le_refl _) _)
  have oy := _root_.Go.heap_alloc_new w (.cells zR 25)
  generalize (w.alloc (.cells zR 25)) = w0 at *
  obtain ⟨y, hy⟩ : ∃ y, w.heap.size = y := ⟨_, rfl⟩
  rw [hy] at oy ⊢
  have HR0 := Lib.hid (h.blw hb0)
  have HB0 := Lib.hid (And.intro hb0 (And.intro hy oy))
  have hlt := Lib.hid h.lt
  clear hb0 hy oy h
  go_wp2_with fail
  refine (HX.out _ HR0.out).mono ?_
  rintro e w3 hto
  rcases x with y1 | ⟨v, k⟩
  · obtain ⟨rfl, hk⟩ := hto
    exact ⟨rfl, rfl, (KeepF.of_below HB0.out.1).trans hk⟩
  · obtain ⟨s, F, rfl, hvo, hmv⟩ := hto
    obtain ⟨ps, cs, hss, _, _⟩ := hvo.slice
    subst hss
    have oy3 := (hmv.keep.block y (gl HB0.out.2.2) (fun e => by have := hlt.out; have := HB0.out.2.1; omega)).trans HB0.out.2.2
    have HV := Lib.hid (And.intro hvo (And.intro hmv oy3))
    clear hvo hmv
    go_wp2_with (refine wpList_store_rowTo rfl 25 (.tmp 8) (.tmp 77) rfl rfl y #[.int .i64 v.kind, .int .u64 v.num, .string v.text, .slice ps v.list.length cs, .int .i64 v.elem] rfl rfl 25 zR oy3 (by as_aux_lemma => kernel_rfl) (by as_aux_lemma => kernel_rfl) (by simp [Value.oneCell']) ?_)
    have hh := setRow_heap w3 y _ #[.int .i64 v.kind, .int .u64 v.num, .string v.text, .slice ps v.list.length cs, .int .i64 v.elem] _ _ HV.out.2.2
    refine bodyPost_ret (results_cell_row (p := 8) (ty := 25) (by kernel_rfl) _ _ y 25 #[.int .i64 v.kind, .int .u64 v.num, .string v.text, .slice ps v.list.length cs, .int .i64 v.elem] (0, 0) _ rfl hh Tryz.underlying25 rfl (by as_aux_lemma => kernel_rfl)) rfl ?_
    have hy0 := HB0.out.2.1
    have hy1 := (gl HB0.out.2.2)
    have hkk := (KeepF.of_below HB0.out.1).trans HV.out.2.1.keep
    have hyr : r ≠ y := fun e => by have := hlt.out; omega
    exact ⟨_, F, rfl, (HV.out.1.mono HB0.out.1.size).keep (fun b hb => setRow_other w3 y b _ (fun e => by have := (HV.out.1.lt b hb).1; omega)), ⟨⟨hkk.os, hkk.tape, hkk.output, Nat.le_trans hkk.size (by simp), fun j hj hne => (setRow_other w3 y j _ (fun e => by omega)).trans (hkk.block j hj hne)⟩, (setRow_other w3 y r _ hyr).trans HV.out.2.1.at_⟩⟩
set_option maxHeartbeats 4000000

attribute [local go_sem] Oper.semAt_some

set_option maxHeartbeats 4000000

attribute [local go_sem] Oper.semAt_some

def headR (x : Res) : Res := match x with
  | .error e => .error (headE e)
  | .ok (v, k) => .ok (v, 1 + k)
theorem RdTo.head_err {w w' : World} {r : Nat} {p : Option Addr} {n cp at_ en a1 : Nat} {sz own : Int} (ha1 : at_ + 1 = a1) (y : Er) (h : KeepF (fun g => g = r) w w') :
    RdTo w r p n cp at_ en sz own (headR (.error y)) (faultE (erP n sz (at_ : Nat) a1 y) (erC sz y)) w' := by
  refine ⟨?_, h⟩
  cases y with
  | short => rfl
  | own e => rfl
  | pl k e => subst ha1; show faultE _ _ = faultE _ _; congr 1; show ((at_ + 1 + k : Nat) : Int) = ((at_ + (k + 1) : Nat) : Int); omega
set_option maxRecDepth 20000 in
theorem value_data (c : Nat) (K d : Int) (hkd : kindC c = K) (w : World) (r : Nat) (p : Option Addr) (n cp at_ en : Nat) (sz own : Int) (B : List UInt8) (h : RdIn w r p n cp at_ en sz B) (hat : at_ < en) (hcd : (B.getD at_ 0).toNat = c) (hd1 : decide (K < 0) = false) (hd2 : decide (32 < d) = false) (hne : c ≠ 0 ∧ c / 16 ≠ 4) (x : Res)
    (hx : ∀ W, RdIn W r p n cp (at_ + 1) en sz B → Calls Tryz.prog 58 #[.pointer (some ⟨r, 0, none⟩), .int .u8 (c : Nat), .int .i64 (at_ : Nat), .int .i64 d] W fun e w' => RdTo W r p n cp (at_ + 1) en sz (at_ : Nat) x e w') :
    Calls Tryz.prog 38 #[.pointer (some ⟨r, 0, none⟩), .int .i64 d] w fun e w' => RdTo w r p n cp at_ en sz own (headR x) e w' := by
  have HX := Lib.hid hx
  clear hx
  have HNE := Lib.hid (show ∀ W, RdIn W r p n cp at_ en sz B → Calls Tryz.prog 56 #[.pointer (some ⟨r, 0, none⟩), .int .i64 1] W fun e w' => e = .returned (.tuple #[]) ∧ Below W.heap.size W w' from fun W hW => need_ok W r p n cp at_ en sz hW.row 1 hW.ha (by omega) (by have := hW.hen; have := hW.hn; omega))
  have HK := Lib.hid (show ∀ W, Calls Tryz.prog 57 #[.int .u8 (c : Nat)] W fun e w' => e = .returned (.int .i64 K) ∧ W = w' from fun W => by have := kind_any (c) W; rw [hkd] at this; exact this)
  obtain ⟨b, o, hp, _, _⟩ := h.src.bytes.at_ (by have := h.src.bytes.le; have := h.hen; omega)
  subst hp
  have HC := Lib.hid (show ∀ W, RdIn W r (some ⟨b, o, none⟩) n cp at_ en sz B → W.cell? ⟨b, o + at_, none⟩ = some (.int .u8 (c : Nat)) from fun W hW => by have := hW.src.bytes.cell rfl at_ (by have := hW.hen; omega); rw [this, hcd])
  have ib1 : (0 : Int) ≤ (at_ : Nat) := by omega
  have ib2 : ((at_ : Nat) : Int) < (n : Nat) := by have := h.hen; omega
  have ib3 : ((at_ : Nat) : Int) ≤ 140737488355328 := by have := h.hn; omega
  obtain ⟨a1, ha1⟩ : ∃ a1, at_ + 1 = a1 := ⟨_, rfl⟩
  have hadd : IntKind.i64.wrap ((at_ : Int) + 1) = (a1 : Nat) := by rw [IntWalk.i64_in _ (by omega)]; omega
  have HA1 := Lib.hid (And.intro ha1 (show a1 ≤ en by omega))
  have n0 : (((c : Nat) : Int) == 0) = false := by simp; omega
  have n65 : (((c : Nat) : Int) == 65) = false := by simp; omega
  have n64 : (((c : Nat) : Int) == 64) = false := by simp; omega
  have n66 : (((c : Nat) : Int) == 66) = false := by simp; omega
  have n67 : (((c : Nat) : Int) == 67) = false := by simp; omega
  have n68 : (((c : Nat) : Int) == 68) = false := by simp; omega
  have n69 : (((c : Nat) : Int) == 69) = false := by simp; omega
  rw [ha1] at HX
  clear hne
  clear hat hcd hkd ha1
  go_enter Tryz.func38, Tryz.ntmps38
  go_upto_region 1 with fail
  have hb0 : Below w.heap.size w (w.alloc (.cells zR 25)) := ((Below.refl _ _).alloc (Nat.le_refl _) _)
  have oy := _root_.Go.heap_alloc_new w (.cells zR 25)
  generalize (w.alloc (.cells zR 25)) = w0 at *
  obtain ⟨y, hy⟩ : ∃ y, w.heap.size = y := ⟨_, rfl⟩
  rw [hy] at oy ⊢
  have HR0 := Lib.hid (h.blw hb0)
  have HB0 := Lib.hid (And.intro hb0 (And.intro hy oy))
  have hlt := Lib.hid h.lt
  clear hb0 hy oy h
  go_wp2_with fail
  refine (HNE.out _ HR0.out).mono ?_
  rintro e w1 ⟨rfl, hb1⟩
  have HR1 := Lib.hid (HR0.out.blw hb1)
  have oy1 := (hb1.block y (gl HB0.out.2.2)).trans HB0.out.2.2
  have HB1 := Lib.hid (And.intro hb1 oy1)
  have r0 : w1.cell? ⟨r, 0, none⟩ = some (.slice (some ⟨b, o, none⟩) n cp) := (cell_of_row _ _ 0 _ _ _ HR1.out.row).trans rfl
  have r1 : w1.cell? ⟨r, 1, none⟩ = some (.int .i64 (at_ : Nat)) := (cell_of_row _ _ 1 _ _ _ HR1.out.row).trans rfl
  have fr : w1.frozen? ⟨r, 1, none⟩ = false := by simp [World.frozen?, HR1.out.row]
  have hcell := HC.out w1 HR1.out
  clear hb1 oy1
  go_wp2_with fail
  refine (HK.out _).mono ?_
  rintro e w2 ⟨rfl, rfl⟩
  go_upto_region 10 with fail
  have hyr0 : y ≠ r := fun e => by have := hlt.out; have := HB0.out.2.1; omega
  have or5 := heap_setCell_same w1 r 1 _ _ (.int .i64 (a1 : Nat)) HR1.out.row
  have oy5 : (w1.setCell ⟨r, 1, none⟩ (.int .i64 (a1 : Nat))).heap[y]? = some (.cells zR 25 (0, 0)) := (set_farV hyr0).trans HB1.out.2
  have hk5 : KeepF (fun g => g = r) w1 (w1.setCell ⟨r, 1, none⟩ (.int .i64 (a1 : Nat))) := ⟨rfl, rfl, rfl, by simp, fun j hj hne => set_farV hne⟩
  change Code.wp _ _ _ _ (w1.setCell ⟨r, 1, none⟩ (.int .i64 (a1 : Nat)))
  generalize w1.setCell ⟨r, 1, none⟩ (.int .i64 (a1 : Nat)) = w2 at *
  have HR2 := Lib.hid (HR1.out.mv ⟨hk5, or5⟩ HA1.out.2)
  have HM2 := Lib.hid (((KeepF.of_below HB0.out.1).trans (KeepF.of_below HB1.out.1)).trans hk5)
  have HO2 := Lib.hid oy5
  clear or5 oy5 hk5 hyr0 r0 r1 fr hadd hcell
  go_wp2_with fail
  refine (HX.out _ HR2.out).mono ?_
  rintro e w3 hto
  rcases x with y1 | ⟨v, k⟩
  · obtain ⟨rfl, hk⟩ := hto
    exact ⟨rfl, RdTo.head_err HA1.out.1 y1 (HM2.out.trans hk)⟩
  · obtain ⟨s, F, rfl, hvo, hmv⟩ := hto
    obtain ⟨ps, cs, hss, _, _⟩ := hvo.slice
    subst hss
    have oy3 := (hmv.keep.block y (gl HO2.out) (fun e => by have := hlt.out; have := HB0.out.2.1; omega)).trans HO2.out
    have HV := Lib.hid (And.intro hvo (And.intro hmv oy3))
    clear hvo hmv
    go_wp2_with (refine wpList_store_rowTo rfl 25 (.tmp 4) (.tmp 72) rfl rfl y #[.int .i64 v.kind, .int .u64 v.num, .string v.text, .slice ps v.list.length cs, .int .i64 v.elem] rfl rfl 25 zR oy3 (by as_aux_lemma => kernel_rfl) (by as_aux_lemma => kernel_rfl) (by simp [Value.oneCell']) ?_)
    have hh := setRow_heap w3 y _ #[.int .i64 v.kind, .int .u64 v.num, .string v.text, .slice ps v.list.length cs, .int .i64 v.elem] _ _ HV.out.2.2
    refine bodyPost_ret (results_cell_row (p := 4) (ty := 25) (by kernel_rfl) _ _ y 25 #[.int .i64 v.kind, .int .u64 v.num, .string v.text, .slice ps v.list.length cs, .int .i64 v.elem] (0, 0) _ rfl hh Tryz.underlying25 rfl (by as_aux_lemma => kernel_rfl)) rfl ?_
    have hy0 := HB0.out.2.1
    have hy1 := (gl HO2.out)
    have hsz := HM2.out.size
    have hkk := HM2.out.trans HV.out.2.1.keep
    have hyr : r ≠ y := fun e => by have := hlt.out; omega
    have hat : (w3.setRow y #[.int .i64 v.kind, .int .u64 v.num, .string v.text, .slice ps v.list.length cs, .int .i64 v.elem]).heap[r]? = some (.cells #[.slice (some ⟨b, o, none⟩) n cp, .int .i64 (at_ + (1 + k) : Nat), .int .i64 (en : Nat), .int .i64 sz] 66 (0, 0)) := by
      have := (setRow_other w3 y r #[.int .i64 v.kind, .int .u64 v.num, .string v.text, .slice ps v.list.length cs, .int .i64 v.elem] hyr).trans HV.out.2.1.at_
      rw [show at_ + (1 + k) = a1 + k by have := HA1.out.1; omega]
      exact this
    exact ⟨_, F, rfl, (HV.out.1.mono hsz).keep (fun b hb => setRow_other w3 y b _ (fun e => by have := (HV.out.1.lt b hb).1; omega)), ⟨⟨hkk.os, hkk.tape, hkk.output, Nat.le_trans hkk.size (by simp), fun j hj hne => (setRow_other w3 y j _ (fun e => by omega)).trans (hkk.block j hj hne)⟩, hat⟩⟩
set_option maxRecDepth 20000 in
theorem value_40 (c : Nat) (hc0 : c = 64) (d : Int) (w : World) (r : Nat) (p : Option Addr) (n cp at_ en : Nat) (sz own : Int) (B : List UInt8) (h : RdIn w r p n cp at_ en sz B) (hat : at_ < en) (hcd : (B.getD at_ 0).toNat = c) (hd2 : decide (32 < d) = false) :
    Calls Tryz.prog 38 #[.pointer (some ⟨r, 0, none⟩), .int .i64 d] w fun e w' => e = .returned (.agg zR) ∧ RdMv w w' r #[.slice p n cp, .int .i64 (at_ + 1 : Nat), .int .i64 (en : Nat), .int .i64 sz] := by
  subst hc0
  have hkd : kindC 64 = 0 := rfl
  have HNE := Lib.hid (show ∀ W, RdIn W r p n cp at_ en sz B → Calls Tryz.prog 56 #[.pointer (some ⟨r, 0, none⟩), .int .i64 1] W fun e w' => e = .returned (.tuple #[]) ∧ Below W.heap.size W w' from fun W hW => need_ok W r p n cp at_ en sz hW.row 1 hW.ha (by omega) (by have := hW.hen; have := hW.hn; omega))
  have HK := Lib.hid (show ∀ W, Calls Tryz.prog 57 #[.int .u8 (64 : Nat)] W fun e w' => e = .returned (.int .i64 0) ∧ W = w' from fun W => by have := kind_any (64) W; rw [hkd] at this; exact this)
  obtain ⟨b, o, hp, _, _⟩ := h.src.bytes.at_ (by have := h.src.bytes.le; have := h.hen; omega)
  subst hp
  have HC := Lib.hid (show ∀ W, RdIn W r (some ⟨b, o, none⟩) n cp at_ en sz B → W.cell? ⟨b, o + at_, none⟩ = some (.int .u8 (64 : Nat)) from fun W hW => by have := hW.src.bytes.cell rfl at_ (by have := hW.hen; omega); rw [this, hcd])
  have ib1 : (0 : Int) ≤ (at_ : Nat) := by omega
  have ib2 : ((at_ : Nat) : Int) < (n : Nat) := by have := h.hen; omega
  have ib3 : ((at_ : Nat) : Int) ≤ 140737488355328 := by have := h.hn; omega
  obtain ⟨a1, ha1⟩ : ∃ a1, at_ + 1 = a1 := ⟨_, rfl⟩
  have hadd : IntKind.i64.wrap ((at_ : Int) + 1) = (a1 : Nat) := by rw [IntWalk.i64_in _ (by omega)]; omega
  have HA1 := Lib.hid (And.intro ha1 (show a1 ≤ en by omega))
  clear hat hcd hkd ha1
  go_enter Tryz.func38, Tryz.ntmps38
  go_upto_region 1 with fail
  have hb0 : Below w.heap.size w (w.alloc (.cells zR 25)) := ((Below.refl _ _).alloc (Nat.le_refl _) _)
  have oy := _root_.Go.heap_alloc_new w (.cells zR 25)
  generalize (w.alloc (.cells zR 25)) = w0 at *
  obtain ⟨y, hy⟩ : ∃ y, w.heap.size = y := ⟨_, rfl⟩
  rw [hy] at oy ⊢
  have HR0 := Lib.hid (h.blw hb0)
  have HB0 := Lib.hid (And.intro hb0 (And.intro hy oy))
  have hlt := Lib.hid h.lt
  clear hb0 hy oy h
  go_wp2_with fail
  refine (HNE.out _ HR0.out).mono ?_
  rintro e w1 ⟨rfl, hb1⟩
  have HR1 := Lib.hid (HR0.out.blw hb1)
  have oy1 := (hb1.block y (gl HB0.out.2.2)).trans HB0.out.2.2
  have HB1 := Lib.hid (And.intro hb1 oy1)
  have r0 : w1.cell? ⟨r, 0, none⟩ = some (.slice (some ⟨b, o, none⟩) n cp) := (cell_of_row _ _ 0 _ _ _ HR1.out.row).trans rfl
  have r1 : w1.cell? ⟨r, 1, none⟩ = some (.int .i64 (at_ : Nat)) := (cell_of_row _ _ 1 _ _ _ HR1.out.row).trans rfl
  have fr : w1.frozen? ⟨r, 1, none⟩ = false := by simp [World.frozen?, HR1.out.row]
  have hcell := HC.out w1 HR1.out
  clear hb1 oy1
  go_wp2_with fail
  refine (HK.out _).mono ?_
  rintro e w2 ⟨rfl, rfl⟩
  go_upto_region 10 with fail
  have hyr0 : y ≠ r := fun e => by have := hlt.out; have := HB0.out.2.1; omega
  have or5 := heap_setCell_same w1 r 1 _ _ (.int .i64 (a1 : Nat)) HR1.out.row
  have oy5 : (w1.setCell ⟨r, 1, none⟩ (.int .i64 (a1 : Nat))).heap[y]? = some (.cells zR 25 (0, 0)) := (set_farV hyr0).trans HB1.out.2
  have hk5 : KeepF (fun g => g = r) w1 (w1.setCell ⟨r, 1, none⟩ (.int .i64 (a1 : Nat))) := ⟨rfl, rfl, rfl, by simp, fun j hj hne => set_farV hne⟩
  change Code.wp _ _ _ _ (w1.setCell ⟨r, 1, none⟩ (.int .i64 (a1 : Nat)))
  generalize w1.setCell ⟨r, 1, none⟩ (.int .i64 (a1 : Nat)) = w2 at *
  have HR2 := Lib.hid (HR1.out.mv ⟨hk5, or5⟩ HA1.out.2)
  have HM2 := Lib.hid (((KeepF.of_below HB0.out.1).trans (KeepF.of_below HB1.out.1)).trans hk5)
  have HO2 := Lib.hid oy5
  clear or5 oy5 hk5 hyr0 r0 r1 fr hadd hcell
  go_wp2_with (refine wpList_store_rowTo rfl 25 (.tmp 4) (.tmp 67) rfl rfl y zR rfl rfl 25 zR HO2.out (by as_aux_lemma => kernel_rfl) (by as_aux_lemma => kernel_rfl) (by simp [Value.oneCell']) ?_)
  have hh := setRow_heap w2 y _ zR _ _ HO2.out
  refine bodyPost_ret (results_cell_row (p := 4) (ty := 25) (by kernel_rfl) _ _ y 25 zR (0, 0) _ rfl hh Tryz.underlying25 rfl (by as_aux_lemma => kernel_rfl)) rfl ?_
  have hy0 := HB0.out.2.1
  have hkk := HM2.out
  have hyr : r ≠ y := fun e => by have := hlt.out; omega
  refine ⟨rfl, ⟨hkk.os, hkk.tape, hkk.output, Nat.le_trans hkk.size (by simp), fun j hj hne => (setRow_other w2 y j _ (fun e => by omega)).trans (hkk.block j hj hne)⟩, ?_⟩
  rw [HA1.out.1]
  exact (setRow_other w2 y r _ hyr).trans HR2.out.row
set_option maxHeartbeats 4000000

attribute [local go_sem] Oper.semAt_some

theorem VO.pair {w : World} {B g : Nat} {a b : V} {s t : Value} {F1 F2 : Nat → Prop} (hg : w.heap[g]? = some (.cells #[.int .i64 a.kind, .int .u64 a.num, .string a.text, s, .int .i64 a.elem, .int .i64 b.kind, .int .u64 b.num, .string b.text, t, .int .i64 b.elem] 25 (0, 0))) (h1 : VO w B a s F1) (h2 : VO w B b t F2)
    (hd : ∀ j, F1 j → ¬ F2 j) (g1 : ¬ F1 g) (g2 : ¬ F2 g) (hB : B ≤ g) : VO w B (.mk 24 0 ⟨#[]⟩ [a, b] 0) (.slice (some ⟨g, 0, none⟩) 2 2) (fun j => j = g ∨ F1 j ∨ F2 j) := by
  have hl : (V.mk 24 0 ⟨#[]⟩ [a, b] 0).list = [a, b] := rfl
  have hwf : (V.mk 24 0 ⟨#[]⟩ [] 0).Wf := ⟨by constructor <;> decide, by constructor <;> decide, by decide, by constructor <;> decide⟩
  refine .mk _ _ _ (fun i => if i = 0 then s else t) (fun i => if i = 0 then F1 else F2) ⟨hwf.k, hwf.n, hwf.t, hwf.e⟩ ?_ ?_ ?_ ?_ ?_
  · exact ⟨rfl, .inr ⟨g, 2, _, rfl, hB, hg, Nat.le_refl _, by unfold maxLen; omega, rfl, rfl⟩⟩
  · intro i hi
    rw [hl] at hi
    match i, hi with
    | 0, _ => exact h1
    | 1, _ => exact h2
  · intro i j hi hj hij x hx hy
    rw [hl] at hi hj
    match i, j, hi, hj with
    | 0, 0, _, _ => exact hij rfl
    | 0, 1, _, _ => exact hd x hx hy
    | 1, 0, _, _ => exact hd x hy hx
    | 1, 1, _, _ => exact hij rfl
  · intro k hk i hi hx
    have hkg : g = k := by simpa [Value.ownBlock] using hk
    subst hkg
    rw [hl] at hi
    match i, hi with
    | 0, _ => exact g1 hx
    | 1, _ => exact g2 hx
  · intro x
    constructor
    · rintro (rfl | h | h)
      · exact .inl rfl
      · exact .inr ⟨0, by rw [hl]; exact Nat.zero_lt_two, h⟩
      · exact .inr ⟨1, by rw [hl]; exact Nat.one_lt_two, h⟩
    · rintro (h | ⟨i, hi, h⟩)
      · exact .inl (by simpa [Value.ownBlock] using h.symm)
      · rw [hl] at hi
        match i, hi with
        | 0, _ => exact .inr (.inl h)
        | 1, _ => exact .inr (.inr h)
theorem wp_build2 {o : Oper} {a : Act} {w : World} {K : Act → World → Prop} {Q : Exit → Act → World → Prop} (d : Option Tmp) (hd : o.dst = d) (x y : Operand) (ho : o.op = .buildSlice 23 2 #[(0, x), (1, y)]) (a0 a1 a2 a3 a4 b0 b1 b2 b3 b4 : Value)
    (hx : a.eval x = .agg #[a0, a1, a2, a3, a4]) (hy : a.eval y = .agg #[b0, b1, b2, b3, b4])
    (h : K (a.put d (.slice (some ⟨w.heap.size, 0, none⟩) 2 2)) (w.alloc (.cells #[a0, a1, a2, a3, a4, b0, b1, b2, b3, b4] 25))) : o.wp Tryz.prog a w K Q := by
  subst hd
  obtain ⟨i0, hi, hz0, hz1, hz2⟩ := info_partsV info_val
  refine wp_buildSlice 23 25 2 _ ho _ i0 _ Tryz.underlying23 hi hz0 (by rw [hz1]; decide) (by rw [hz1]; decide) ?_ h
  rw [hz1]
  simp only [List.map_toArray, List.map_cons, List.map_nil, hx, hy]
  kernel_rfl
set_option maxHeartbeats 4000000

attribute [local go_sem] Oper.semAt_some


section
variable {P : Program} {ops : Array Oper} {Q : Exit → Act → World → Prop} {md : Region.Mode} {S : Array Bool → World → Prop}

def till (f : Nat) (p : World → Prop) (l : Array Bool) (w : World) : Prop := l.getD f true = false → p w
theorem till.set {f i : Nat} {p : World → Prop} {m : Array Bool} {w : World} (hne : i ≠ f) (h : till f p (m.setIfInBounds i true) w) : till f p m w := by
  intro q
  exact h (by rw [getD_set_ne true hne]; exact q)
end
theorem App1.vo {w w1 : World} {x : V} {s s' t : Value} {B B2 n : Nat} {Fx : Nat → Prop} {xs : List Value} (hA : App1 w w1 B 25 5 n s s' xs) (hx : VO w B2 x t Fx) (hs : ∀ b, s.ownBlock = some b → ¬ Fx b) :
    VO w1 B2 x t Fx ∧ ∀ b, s'.ownBlock = some b → ¬ Fx b := by
  refine ⟨hx.keep (fun b hb => hA.grown.block b (hx.lt b hb).2 (fun q => hs b q.symm hb)), fun b hb hf => ?_⟩
  rcases hA.own hb with q | q
  · exact hs b q hf
  · have := (hx.lt b hf).2; omega
theorem VO.own {w : World} {v : V} {s : Value} {B b : Nat} {F : Nat → Prop} (h : VO w B v s F) (hb : s.ownBlock = some b) : F b := by
  cases h with
  | mk _ _ _ ss Fs wf hrow hin hd hs hF => exact (hF b).2 (.inl hb)
set_option maxHeartbeats 4000000

attribute [local go_sem] Oper.semAt_some

theorem KeepF.cell {G : Nat → Prop} {w W : World} {b o : Nat} {v : Value} (h : KeepF G w W) (hc : w.cell? ⟨b, o, none⟩ = some v) (hb : ¬ G b) : W.cell? ⟨b, o, none⟩ = some v := by
  have hlt := World.block_lt_of_cell? w _ hc
  have e := h.block b hlt hb
  unfold World.cell? at hc ⊢
  simpa only [e] using hc
structure SpSt (w wr : World) (q bv : Nat) (p : Option Addr) (n cp a2 en : Nat) (sz K el : Int) (B : List UInt8) (r : List UInt8 → Res) (i : Nat) (l : List V) (k a3 : Nat) (s : Value) (F : Nat → Prop) : Prop where
  keep : KeepF (fun g => g = q ∨ g = bv) w wr
  ea : a2 + k = a3
  row : RdIn wr q p n cp a3 en sz B
  box : wr.heap[bv]? = some (.cells #[.int .i64 K, .int .u64 0, .string ⟨#[]⟩, s, .int .i64 el] 25 (0, 0))
  vo : VO wr w.heap.size (V.mk K 0 ⟨#[]⟩ l el) s F
  els : els r i (sOf B a2 en) = .ok (l, k)
set_option maxHeartbeats 4000000

attribute [local go_sem] Oper.semAt_some

theorem alloc_at (w : World) (o : Obj) (n : Nat) (h : w.heap.size = n) : (w.alloc o).heap[n]? = some o ∧ (w.alloc o).heap.size = n + 1 := by subst h; exact ⟨_root_.Go.heap_alloc_new _ _, by simp⟩
set_option maxHeartbeats 4000000

attribute [local go_sem] Oper.semAt_some

set_option maxHeartbeats 4000000

attribute [local go_sem] Oper.semAt_some

theorem three_allocs (w : World) (a b c : Obj) : ∀ W, W = ((w.alloc a).alloc b).alloc c → W.heap[w.heap.size]? = some a ∧ W.heap[w.heap.size + 1]? = some b ∧ W.heap[w.heap.size + 2]? = some c ∧ W.heap.size = w.heap.size + 3 ∧ Below w.heap.size w W := by
  rintro W rfl
  obtain ⟨a1, a2⟩ := alloc_at w a _ rfl
  obtain ⟨b1, b2⟩ := alloc_at _ b _ a2
  obtain ⟨c1, c2⟩ := alloc_at _ c _ b2
  have o3 := fun j (hj : j < w.heap.size + 2) => Go.heap_alloc_old ((w.alloc a).alloc b) c (r := j) (by rw [b2]; exact hj)
  have o2 := fun j (hj : j < w.heap.size + 1) => Go.heap_alloc_old (w.alloc a) b (r := j) (by rw [a2]; exact hj)
  refine ⟨?_, ?_, c1, c2, ?_⟩
  · rw [o3 _ (by omega), o2 _ (by omega)]; exact a1
  · rw [o3 _ (by omega)]; exact b1
  · exact (((Below.refl _ _).alloc (Nat.le_refl _) _).alloc (by rw [a2]; omega) _).alloc (by rw [b2]; omega) _

end Go.Proofs.YtnnnfhobbnjmfaaGreatDoor

namespace Go.Proofs.YtnnnfhobbnjmfaaGreatDoor
open Go.RowKit Go.Maps
set_option linter.all false
set_option maxHeartbeats 4000000

attribute [local go_sem] Oper.semAt_some

/-! ### a set of texts, each told 1 -/
def holdT (v : Value) : Option (DataW Value × List MemPlace) := some (.held v, [])
def keyL (s : ByteArray) : Lit := .string s.data.toList
structure SetIs (D : DataW Value) (ks : List ByteArray) : Prop where
  tidy : Maps.Tidy D
  has : ∀ s, Maps.has D (keyL s) = true ↔ s ∈ ks
  at_ : ∀ s ∈ ks, ∀ z, D.atKey (keyL s) z = .held (.int .i64 1)
  size : Maps.size D = ks.length
theorem keyL_ne {s t : ByteArray} (h : s ≠ t) : keyL s ≠ keyL t := fun e => h (by
  unfold keyL at e
  injection e with e
  cases s; cases t
  simp only [ByteArray.mk.injEq]
  simpa using e)
theorem keyL_is (s : ByteArray) : WideAt.IsKeyLit (keyL s) := trivial
theorem SetIs.nil : SetIs (.map []) [] := ⟨Maps.tidy_empty, fun i => ⟨fun h => by simp [Maps.has] at h, fun h => by simp at h⟩, fun p hp => by simp at hp, rfl⟩
theorem SetIs.put {D : DataW Value} {ks : List ByteArray} (h : SetIs D ks) {s : ByteArray} (hn : s ∉ ks) : SetIs (D.put (keyL s) (.held (.int .i64 1))) (ks ++ [s]) := by
  have hh : Maps.has D (keyL s) = false := by
    cases q : Maps.has D (keyL s) with
    | false => rfl
    | true => exact absurd ((h.has s).1 q) hn
  refine ⟨h.tidy.put (keyL_is s) _, fun t => ?_, fun t ht z => ?_, ?_⟩
  · by_cases e : t = s
    · subst e
      rw [Maps.has_put_same h.tidy.isMap (keyL_is _)]
      simp
    · rw [Maps.has_put_other (keyL_ne e), h.has]
      simp [e]
  · rcases List.mem_append.1 ht with hu | hu
    · rw [Maps.atKey_put_other (keyL_ne (fun e => by subst e; exact hn hu))]
      exact h.at_ t hu z
    · obtain rfl : t = s := by simpa using hu
      exact Maps.atKey_put_same h.tidy.isMap (keyL_is _) _ _
  · rw [Maps.size_put h.tidy, hh, h.size]
    simp
def SetOf (w : World) (m : Nat) (ks : List ByteArray) : Prop := ∃ D, w.ownsMap Tryz.prog 9 holdT m ks.length D ∧ SetIs D ks
theorem SetOf.lt {w : World} {m : Nat} {ks : List ByteArray} (h : SetOf w m ks) : m < w.heap.size := by obtain ⟨D, h1, _⟩ := h; exact h1.lt
theorem ownsMap_fitT {P : Program} {k : TypeId} {R : Value → Option (DataW Value × List MemPlace)} {w : World} {b n : Nat} {D : DataW Value} (h : w.ownsMap P k R b n D) : w.ownsMap P k R b (Maps.size D) D := by
  obtain ⟨es, clock, hb, F, hs, rfl⟩ := h
  exact ⟨es, clock, hb, F, by simp [Maps.size, length_sorted], rfl⟩
theorem keyOf_text {s : ByteArray} (hs : s.size ≤ maxLen) : keyOf Tryz.prog 9 (.string s) = some (keyL s) := WideMaps.keyOf_string_mk Tryz.underlying9 hs
theorem SetOf.put {w : World} {m : Nat} {ks : List ByteArray} (h : SetOf w m ks) {s : ByteArray} (hs : s.size ≤ maxLen) (hn : s ∉ ks) (hl : ks.length < maxLen) :
    ∃ w', (Instr.mapUpdate 137 (.map (some m)) (.string s) (.int .i64 1)).run Tryz.prog w = .ok () w' ∧ SetOf w' m (ks ++ [s]) ∧ w.grownBy w' (some m) := by
  obtain ⟨D, h1, h2⟩ := h
  obtain ⟨w', hr, h3, h4⟩ := h1.update (string_keyed Tryz.underlying9) Tryz.underlying137 hl (keyOf_text hs) (show holdT (.int .i64 1) = some (.held (.int .i64 1), []) from rfl)
  refine ⟨w', hr, ⟨_, ?_, h2.put hn⟩, h4⟩
  have h5 := ownsMap_fitT h3
  rw [(h2.put hn).size] at h5
  exact h5

/-! ### keys -/
structure Okk (v : V) : Prop where
  right : Right v
  dep : v.dep ≤ 32
  wt : v.wt ≤ 4294967295
  len : (putV v).length ≤ 4294967295
set_option maxHeartbeats 4000000

theorem RdTo.bare {w w' : World} {r : Nat} {p : Option Addr} {n cp at_ en : Nat} {sz own : Int} {rd : Nat → List UInt8 → Res} {c : Nat} {s : List UInt8} {e : Ending} (h : RdTo w r p n cp at_ en sz (at_ : Nat) (rd c s) e w') : RdTo w r p n cp at_ en sz own (bareR rd c s) e w' := by
  unfold bareR
  cases hr : rd c s with
  | ok x => rw [hr] at h; exact h
  | error y =>
    rw [hr] at h
    obtain ⟨rfl, hk⟩ := h
    refine ⟨?_, hk⟩
    cases y <;> rfl
set_option maxHeartbeats 4000000

theorem text_le {c : Nat} {s : List UInt8} {v : V} {k : Nat} (h : textR c s = .ok (v, k)) : k ≤ s.length := by
  unfold textR at h
  by_cases a : s.length < wOf c
  · rw [if_pos a] at h; cases h
  rw [if_neg a] at h
  by_cases b : s.length < wOf c + beVal (s.take (wOf c))
  · rw [if_pos b] at h; cases h
  rw [if_neg b] at h
  split at h
  · cases h
  · cases h; omega
theorem raw_le {c : Nat} {s : List UInt8} {v : V} {k : Nat} (h : rawR c s = .ok (v, k)) : k ≤ s.length := by
  unfold rawR at h
  by_cases a : s.length < 16
  · rw [if_pos a] at h; cases h
  rw [if_neg a] at h
  cases h
  omega
theorem dat_le {rv : List UInt8 → Res} {rd : Nat → List UInt8 → Res} {c : Nat} {s : List UInt8} {v : V} {k : Nat} (h : datR rv rd c s = .ok (v, k)) : k ≤ s.length := by
  unfold datR at h
  by_cases a : c / 16 = 9
  · rw [if_pos a] at h; exact raw_le h
  rw [if_neg a] at h
  by_cases a : c / 16 = 10 ∨ c / 16 = 11
  · rw [if_pos a] at h; exact text_le h
  rw [if_neg a] at h
  by_cases a : c / 16 = 12 ∨ c / 16 = 13
  · rw [if_pos a] at h
    obtain ⟨m, _, h1, _, _, h2, _⟩ := within_inv h
    obtain ⟨_, _, _, _, _, rfl, _⟩ := span_inv h2
    exact h1
  rw [if_neg a] at h
  by_cases a : c / 16 = 14 ∨ c / 16 = 15
  · rw [if_pos a] at h
    obtain ⟨m, _, h1, _, _, h2, _⟩ := within_inv h
    obtain ⟨_, _, _, _, _, _, _, _, rfl⟩ := arr_inv h2
    exact h1
  rw [if_neg a] at h
  obtain ⟨h1, rfl, _⟩ := fixed_inv h
  exact h1
theorem rdV_le : ∀ (n : Nat) (s : List UInt8) (v : V) (k : Nat), rdV n s = .ok (v, k) → k ≤ s.length
  | 0, [], v, k, h => by cases h
  | 0, x :: t, v, k, h => by
    have h2 : deepR (x :: t) = .ok (v, k) := h
    rw [deepR_cons] at h2
    split at h2 <;> cases h2
  | n + 1, [], v, k, h => by cases h
  | n + 1, x :: t, v, k, h => by
    rw [rdV_succ, valR_cons] at h
    by_cases a : kindC x.toNat < 0
    · rw [if_pos a] at h; cases h
    rw [if_neg a] at h
    by_cases a : x.toNat = 0
    · rw [if_pos a] at h
      unfold pairR at h
      cases h1 : rdV n t with
      | error y => rw [h1] at h; cases h
      | ok z =>
        obtain ⟨d, k1⟩ := z
        rw [h1] at h
        simp only at h
        cases h2 : rdV n (t.drop k1) with
        | error y => rw [h2] at h; cases h
        | ok z2 =>
          obtain ⟨v2, k2⟩ := z2
          rw [h2] at h
          simp only [Except.ok.injEq, Prod.mk.injEq] at h
          obtain ⟨_, rfl⟩ := h
          have q1 := rdV_le n t d k1 h1
          have q2 := rdV_le n _ v2 k2 h2
          rw [List.length_drop] at q2
          rw [List.length_cons]
          omega
    rw [if_neg a] at h
    by_cases a : x.toNat / 16 = 4
    · rw [if_pos a] at h
      simp only [Except.ok.injEq, Prod.mk.injEq] at h
      obtain ⟨_, rfl⟩ := h
      rw [List.length_cons]
      omega
    rw [if_neg a] at h
    cases h1 : datR (rdV n) (rdD n) x.toNat t with
    | error y => rw [h1] at h; cases h
    | ok z =>
      obtain ⟨v2, k2⟩ := z
      rw [h1] at h
      simp only [Except.ok.injEq, Prod.mk.injEq] at h
      obtain ⟨_, rfl⟩ := h
      have := dat_le h1
      rw [List.length_cons]
      omega
theorem sOf_cons {B : List UInt8} {a e : Nat} (h : a < e) (h2 : e ≤ B.length) : sOf B a e = B.getD a 0 :: sOf B (a + 1) e := by
  have h3 : a < B.length := by omega
  unfold sOf
  rw [List.drop_eq_getElem_cons h3, show e - a = (e - (a + 1)) + 1 by omega, List.take_succ_cons, List.getD_eq_getElem?_getD, List.getElem?_eq_getElem h3]
  rfl
end Go.Proofs.YtnnnfhobbnjmfaaGreatDoor
