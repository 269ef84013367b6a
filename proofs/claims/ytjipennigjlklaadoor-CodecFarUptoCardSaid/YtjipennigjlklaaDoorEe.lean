/-
  The codec's reader: text, whole. Conditions: the reader and its bytes lie in memory.
-/
import Derived.Test.YtjipennigjlklaaDoorEd
namespace Go.Proofs.YtjipennigjlklaaDoor
open Go.RowKit
set_option linter.unusedVariables false
set_option maxHeartbeats 4000000

theorem RdTo.of_text {w w' : World} {r : Nat} {p : Option Addr} {n cp at_ en : Nat} {sz own : Int} {K : Int} {t : ByteArray} {k : Nat} (hK : IsI64 K) (ht : t.size ≤ maxLen) (h : RdMv w w' r #[.slice p n cp, .int .i64 (at_ + k : Nat), .int .i64 (en : Nat), .int .i64 sz]) :
    RdTo w r p n cp at_ en sz own (.ok (.mk K 0 t [] 0, k)) (.returned (.agg #[.int .i64 K, .int .u64 0, .string t, .slice none 0 0, .int .i64 0])) w' :=
  ⟨_, _, rfl, VO.nil w' _ ⟨hK, ⟨by show (0 : Int) ≤ 0; omega, by show (0 : Int) ≤ 18446744073709551615; omega⟩, ht, ⟨by show (-9223372036854775808 : Int) ≤ 0; omega, by show (0 : Int) ≤ 9223372036854775807; omega⟩⟩ rfl, h⟩
theorem RdTo.of_pl {w w' : World} {r : Nat} {p : Option Addr} {n cp at_ en : Nat} {sz own : Int} {k : Nat} {e : EC} {a c : Int} (ha : a = (at_ + k : Nat)) (hc : c = e.1) (h : KeepF (fun g => g = r) w w') :
    RdTo w r p n cp at_ en sz own (.error (.pl k e)) (faultE a c) w' := by subst ha hc; exact ⟨rfl, h⟩
theorem codes_text (c : Nat) (hc : c / 16 = 10 ∨ c / 16 = 11) (hk : 0 ≤ kindC c) : c = 0xa0 ∨ c = 0xa1 ∨ c = 0xa3 ∨ c = 0xb0 ∨ c = 0xb1 ∨ c = 0xb3 := by
  obtain ⟨d, hd, rfl⟩ : ∃ d, d < 32 ∧ c = 160 + d := ⟨c - 160, by omega, by omega⟩
  have key : ∀ d : Fin 32, 0 ≤ kindC (160 + d.1) → 160 + d.1 = 0xa0 ∨ 160 + d.1 = 0xa1 ∨ 160 + d.1 = 0xa3 ∨ 160 + d.1 = 0xb0 ∨ 160 + d.1 = 0xb1 ∨ 160 + d.1 = 0xb3 := by decide
  exact key ⟨d, hd⟩ hk
theorem wOf_bd (c : Nat) : 1 ≤ wOf c ∧ wOf c ≤ 4 := by unfold wOf; split <;> omega
set_option maxRecDepth 20000 in
theorem text_any (c : Nat) (hc : c / 16 = 10 ∨ c / 16 = 11) (hk : 0 ≤ kindC c) (w : World) (r : Nat) (p : Option Addr) (n cp at_ en : Nat) (sz own : Int) (B : List UInt8) (h : RdIn w r p n cp at_ en sz B) :
    Calls Tryd.prog 48 #[.pointer (some ⟨r, 0, none⟩), .int .i64 (kindC c), .int .i64 (wOf c : Nat)] w fun e w' => RdTo w r p n cp at_ en sz own (textR c (sOf B at_ en)) e w' := by
  have hl : (sOf B at_ en).length = en - at_ := sOf_len (by rw [h.len]; exact h.hen)
  have hae := h.ha
  have hen := h.hen
  have hn := h.hn
  have hBl := h.len
  obtain ⟨hw1, hw4⟩ := wOf_bd c
  by_cases hs : en < at_ + wOf c
  · have e1 : textR c (sOf B at_ en) = .error .short := by unfold textR; rw [if_pos (by omega)]
    rw [e1]
    exact text_short1 _ _ w r p n cp at_ en sz own B h hs
  have htk : beVal ((sOf B at_ en).take (wOf c)) = nAt B at_ (wOf c) := by unfold nAt; rw [sOf_take (by omega)]
  unfold textR
  rw [htk, if_neg (by omega : ¬ (sOf B at_ en).length < wOf c)]
  obtain ⟨N, hN⟩ : ∃ N, nAt B at_ (wOf c) = N := ⟨_, rfl⟩
  obtain ⟨a1, ha1⟩ : ∃ a1, at_ + wOf c = a1 := ⟨_, rfl⟩
  rw [hN]
  by_cases hs2 : en < a1 + N
  · rw [if_pos (by omega)]
    exact text_short2 _ _ w r p n cp at_ en sz own B h hw1 hw4 N a1 hN ha1 (by omega) hs2
  have htx : txB (((sOf B at_ en).drop (wOf c)).take N) = ⟨((B.drop a1).take N).toArray⟩ := by
    rw [sOf_drop, ha1, sOf_take (by omega)]; rfl
  rw [if_neg (by omega), htx]
  have hsz : (⟨((B.drop a1).take N).toArray⟩ : ByteArray).size = N := by show ((B.drop a1).take N).toArray.size = N; simp; omega
  have hml : (⟨((B.drop a1).take N).toArray⟩ : ByteArray).size ≤ maxLen := by rw [hsz]; unfold maxLen; omega
  obtain ⟨S, hS⟩ : ∃ S, (⟨((B.drop a1).take N).toArray⟩ : ByteArray) = S := ⟨_, rfl⟩
  have hok : ∀ K : Int, ((a1 : Int) + (N : Nat)) = (at_ + (wOf c + N) : Nat) := fun K => by omega
  rcases codes_text c hc hk with rfl | rfl | rfl | rfl | rfl | rfl
  · have hk0 : kindC 160 = 18 := rfl
    have hw0 : wOf 160 = 1 := rfl
    rw [hk0, hw0]
    rw [hw0] at hN ha1 hok hw1 hw4
    have hb0 : badT 18 ⟨((B.drop a1).take N).toArray⟩ = -1 := rfl
    rw [hb0, if_neg (by omega)]
    refine (text_18 1 w r p n cp at_ en sz own B h hw1 hw4 N a1 hN ha1 (by omega)).mono ?_
    rintro e w' ⟨rfl, hmv⟩
    exact RdTo.of_text ⟨by omega, by omega⟩ hml (hmv.eq (hok 0))
  · have hk0 : kindC 161 = 19 := rfl
    have hw0 : wOf 161 = 1 := rfl
    rw [hk0, hw0]
    rw [hw0] at hN ha1 hok hw1 hw4
    have hb0 : badT 19 ⟨((B.drop a1).take N).toArray⟩ = utf8S ⟨((B.drop a1).take N).toArray⟩ := rfl
    rw [hb0]
    obtain ⟨bad, hbad⟩ : ∃ bad, utf8S ⟨((B.drop a1).take N).toArray⟩ = bad := ⟨_, rfl⟩
    have hbd : -1 ≤ bad ∧ bad ≤ ((⟨((B.drop a1).take N).toArray⟩ : ByteArray).size : Int) := by rw [← hbad]; exact utf8F_bd _ _ _
    rw [hsz] at hbd
    rw [hbad]
    by_cases hb : (0 : Int) ≤ bad
    · rw [if_pos hb]
      refine (text_19x 1 w r p n cp at_ en sz own B h hw1 hw4 N a1 hN ha1 (by omega) bad hbad (by simp; omega) (by omega)).mono ?_
      rintro e w' ⟨rfl, hk⟩
      exact RdTo.of_pl (by omega) rfl hk
    · rw [if_neg hb]
      refine (text_19 1 w r p n cp at_ en sz own B h hw1 hw4 N a1 hN ha1 (by omega) bad hbad (by simp; omega)).mono ?_
      rintro e w' ⟨rfl, hmv⟩
      exact RdTo.of_text ⟨by omega, by omega⟩ hml (hmv.eq (hok 0))
  · have hk0 : kindC 163 = 20 := rfl
    have hw0 : wOf 163 = 1 := rfl
    rw [hk0, hw0]
    rw [hw0] at hN ha1 hok hw1 hw4
    have hb0 : badT 20 ⟨((B.drop a1).take N).toArray⟩ = asciiS ⟨((B.drop a1).take N).toArray⟩ := rfl
    rw [hb0]
    obtain ⟨bad, hbad⟩ : ∃ bad, asciiS ⟨((B.drop a1).take N).toArray⟩ = bad := ⟨_, rfl⟩
    have hbd : -1 ≤ bad ∧ bad ≤ ((⟨((B.drop a1).take N).toArray⟩ : ByteArray).size : Int) := by rw [← hbad]; exact asciiF_bd _ _ _
    rw [hsz] at hbd
    rw [hbad]
    by_cases hb : (0 : Int) ≤ bad
    · rw [if_pos hb]
      refine (text_20x 1 w r p n cp at_ en sz own B h hw1 hw4 N a1 hN ha1 (by omega) bad hbad (by simp; omega) (by omega)).mono ?_
      rintro e w' ⟨rfl, hk⟩
      exact RdTo.of_pl (by omega) rfl hk
    · rw [if_neg hb]
      refine (text_20 1 w r p n cp at_ en sz own B h hw1 hw4 N a1 hN ha1 (by omega) bad hbad (by simp; omega)).mono ?_
      rintro e w' ⟨rfl, hmv⟩
      exact RdTo.of_text ⟨by omega, by omega⟩ hml (hmv.eq (hok 0))
  · have hk0 : kindC 176 = 18 := rfl
    have hw0 : wOf 176 = 4 := rfl
    rw [hk0, hw0]
    rw [hw0] at hN ha1 hok hw1 hw4
    have hb0 : badT 18 ⟨((B.drop a1).take N).toArray⟩ = -1 := rfl
    rw [hb0, if_neg (by omega)]
    refine (text_18 4 w r p n cp at_ en sz own B h hw1 hw4 N a1 hN ha1 (by omega)).mono ?_
    rintro e w' ⟨rfl, hmv⟩
    exact RdTo.of_text ⟨by omega, by omega⟩ hml (hmv.eq (hok 0))
  · have hk0 : kindC 177 = 19 := rfl
    have hw0 : wOf 177 = 4 := rfl
    rw [hk0, hw0]
    rw [hw0] at hN ha1 hok hw1 hw4
    have hb0 : badT 19 ⟨((B.drop a1).take N).toArray⟩ = utf8S ⟨((B.drop a1).take N).toArray⟩ := rfl
    rw [hb0]
    obtain ⟨bad, hbad⟩ : ∃ bad, utf8S ⟨((B.drop a1).take N).toArray⟩ = bad := ⟨_, rfl⟩
    have hbd : -1 ≤ bad ∧ bad ≤ ((⟨((B.drop a1).take N).toArray⟩ : ByteArray).size : Int) := by rw [← hbad]; exact utf8F_bd _ _ _
    rw [hsz] at hbd
    rw [hbad]
    by_cases hb : (0 : Int) ≤ bad
    · rw [if_pos hb]
      refine (text_19x 4 w r p n cp at_ en sz own B h hw1 hw4 N a1 hN ha1 (by omega) bad hbad (by simp; omega) (by omega)).mono ?_
      rintro e w' ⟨rfl, hk⟩
      exact RdTo.of_pl (by omega) rfl hk
    · rw [if_neg hb]
      refine (text_19 4 w r p n cp at_ en sz own B h hw1 hw4 N a1 hN ha1 (by omega) bad hbad (by simp; omega)).mono ?_
      rintro e w' ⟨rfl, hmv⟩
      exact RdTo.of_text ⟨by omega, by omega⟩ hml (hmv.eq (hok 0))
  · have hk0 : kindC 179 = 20 := rfl
    have hw0 : wOf 179 = 4 := rfl
    rw [hk0, hw0]
    rw [hw0] at hN ha1 hok hw1 hw4
    have hb0 : badT 20 ⟨((B.drop a1).take N).toArray⟩ = asciiS ⟨((B.drop a1).take N).toArray⟩ := rfl
    rw [hb0]
    obtain ⟨bad, hbad⟩ : ∃ bad, asciiS ⟨((B.drop a1).take N).toArray⟩ = bad := ⟨_, rfl⟩
    have hbd : -1 ≤ bad ∧ bad ≤ ((⟨((B.drop a1).take N).toArray⟩ : ByteArray).size : Int) := by rw [← hbad]; exact asciiF_bd _ _ _
    rw [hsz] at hbd
    rw [hbad]
    by_cases hb : (0 : Int) ≤ bad
    · rw [if_pos hb]
      refine (text_20x 4 w r p n cp at_ en sz own B h hw1 hw4 N a1 hN ha1 (by omega) bad hbad (by simp; omega) (by omega)).mono ?_
      rintro e w' ⟨rfl, hk⟩
      exact RdTo.of_pl (by omega) rfl hk
    · rw [if_neg hb]
      refine (text_20 4 w r p n cp at_ en sz own B h hw1 hw4 N a1 hN ha1 (by omega) bad hbad (by simp; omega)).mono ?_
      rintro e w' ⟨rfl, hmv⟩
      exact RdTo.of_text ⟨by omega, by omega⟩ hml (hmv.eq (hok 0))
end Go.Proofs.YtjipennigjlklaaDoor
