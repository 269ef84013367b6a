/-
  Lemmas on the codec. Conditions: as each says.
-/
import Derived.Test.YtnnnfhobbnjmfaaGreatDoorHe
import Derived.Test.YtnnnfhobbnjmfaaGreatDoorMg23
import Derived.Test.YtnnnfhobbnjmfaaGreatDoorMg03
namespace Go.Proofs.YtnnnfhobbnjmfaaGreatDoor
open Go.RowKit
set_option linter.all false
set_option maxHeartbeats 40000000
set_option maxRecDepth 20000

def fxR (c : Nat) (s : List UInt8) : Res :=
 if c / 16 = 4 then .ok (.mk (kindC c) (if c = 0x41 then 1 else 0) ⟨#[]⟩ [] 0, 0) else if c / 16 = 9 then rawR c s else fixedR c s
theorem nAt_zero (B : List UInt8) (at_ : Nat) : nAt B at_ 0 = 0 := rfl
theorem raw_wf {K : Int} (hK : IsI64 K) (l : List UInt8) (h : l.length = 16) : (V.mk K 0 (⟨l.toArray⟩ : ByteArray) [] 0).Wf :=
 ⟨hK, ⟨by show (0 : Int) <= 0; omega, by show (0 : Int) <= 18446744073709551615; omega⟩, by show l.toArray.size <= maxLen; rw [List.size_toArray, h]; unfold maxLen; omega, ⟨by show (-9223372036854775808 : Int) <= 0; omega, by show (0 : Int) <= 9223372036854775807; omega⟩⟩
def RfS (w : World) (p : Option Addr) (n cp at_ en : Nat) (sz own : Int) (B : List UInt8) (c : Nat) : Prop := Calls Tryz.prog 115 #[.agg #[.slice p n cp, .int .i64 (en : Nat), .int .i64 sz], .int .i64 ((c : Nat) : Int), .int .i64 (at_ : Nat)] w fun e w' => RTo w (ansR n sz own at_ (fxR c (sOf B at_ en))) e w'
section
variable (w : World) (p : Option Addr) (n cp at_ en : Nat) (sz own : Int) (B : List UInt8) (h : PIn w p n cp at_ en B)
include h
theorem rfixed_c64 : RfS w p n cp at_ en sz own B 64 := by
 by_cases hca : cp = at_
 ·subst hca
  exact rfixed_plain0 w p n cp en sz own B h 64 0 0 (by decide) (by decide) (by decide) rfl rfl (by omega) (by omega) ⟨by omega, by omega⟩ ⟨by rw [nAt_zero]; decide, by rw [nAt_zero]; decide⟩ rfl rfl rfl rfl rfl rfl
 ·exact rfixed_plain w p n cp at_ en sz own B h 64 0 0 (by decide) (by decide) (by decide) rfl rfl hca (by omega) (by omega) ⟨by omega, by omega⟩ ⟨by rw [nAt_zero]; decide, by rw [nAt_zero]; decide⟩ rfl rfl rfl rfl rfl rfl
theorem rfixed_c65 : RfS w p n cp at_ en sz own B 65 := by
 by_cases hca : cp = at_
 ·subst hca
  exact rfixed_one0 w p n cp en sz own B h 65 0 1 (by decide) (by decide) (by decide) rfl rfl (by omega) (by omega) ⟨by omega, by omega⟩ ⟨by rw [nAt_zero]; decide, by rw [nAt_zero]; decide⟩ rfl rfl
 ·exact rfixed_one w p n cp at_ en sz own B h 65 0 1 (by decide) (by decide) (by decide) rfl rfl hca (by omega) (by omega) ⟨by omega, by omega⟩ ⟨by rw [nAt_zero]; decide, by rw [nAt_zero]; decide⟩ rfl rfl
theorem rfixed_c66 : RfS w p n cp at_ en sz own B 66 := by
 by_cases hca : cp = at_
 ·subst hca
  exact rfixed_plain0 w p n cp en sz own B h 66 0 1 (by decide) (by decide) (by decide) rfl rfl (by omega) (by omega) ⟨by omega, by omega⟩ ⟨by rw [nAt_zero]; decide, by rw [nAt_zero]; decide⟩ rfl rfl rfl rfl rfl rfl
 ·exact rfixed_plain w p n cp at_ en sz own B h 66 0 1 (by decide) (by decide) (by decide) rfl rfl hca (by omega) (by omega) ⟨by omega, by omega⟩ ⟨by rw [nAt_zero]; decide, by rw [nAt_zero]; decide⟩ rfl rfl rfl rfl rfl rfl
theorem rfixed_c86 : RfS w p n cp at_ en sz own B 86 := by
 have hl : (sOf B at_ en).length = en - at_ := sOf_len (by rw [h.len]; exact h.hen)
 have hae := h.ha
 show Calls _ _ _ _ fun e w' => RTo w (ansR n sz own at_ (fixedR 86 (sOf B at_ en))) e w'
 unfold fixedR
 rw [show widC 86 = 1 from rfl, show kindC 86 = 1 from rfl]
 by_cases hs : en - at_ < 1
 ·rw [if_pos (by omega)]
  exact rfixed_short w p n cp at_ en sz own B h 86 1 1 (by decide) (by decide) (by decide) rfl rfl hs
 have htk : beVal ((sOf B at_ en).take 1) = nAt B at_ 1 := by unfold nAt; rw [sOf_take (by omega)]
 have hle := h.bytes.le
 have hen := h.hen
 rw [if_neg (by omega), htk]
 have hmu : IsU64 (nAt B at_ 1) := num_u64 (by omega)
 by_cases hm : 1 < nAt B at_ 1
 ·rw [if_pos ⟨rfl, hm⟩]
  exact rfixed_boolx w p n cp at_ en sz own B h 86 1 1 (by decide) (by decide) (by decide) rfl rfl (by omega) hs (by omega) ⟨by omega, by omega⟩ hmu rfl rfl rfl (by omega)
 ·rw [if_neg (fun q => hm q.2), if_neg (by omega), sgn_other _ _ (by omega)]
  exact rfixed_bool w p n cp at_ en sz own B h 86 1 1 (by decide) (by decide) (by decide) rfl rfl (by omega) hs (by omega) ⟨by omega, by omega⟩ hmu rfl rfl rfl (by omega)
theorem rfixed_c80 : RfS w p n cp at_ en sz own B 80 := by
 have hl : (sOf B at_ en).length = en - at_ := sOf_len (by rw [h.len]; exact h.hen)
 have hae := h.ha
 show Calls _ _ _ _ fun e w' => RTo w (ansR n sz own at_ (fixedR 80 (sOf B at_ en))) e w'
 unfold fixedR
 rw [show widC 80 = 1 from rfl, show kindC 80 = 2 from rfl]
 by_cases hs : en - at_ < 1
 ·rw [if_pos (by omega)]
  exact rfixed_short w p n cp at_ en sz own B h 80 1 2 (by decide) (by decide) (by decide) rfl rfl hs
 have htk : beVal ((sOf B at_ en).take 1) = nAt B at_ 1 := by unfold nAt; rw [sOf_take (by omega)]
 have hle := h.bytes.le
 have hen := h.hen
 rw [if_neg (by omega), htk]
 have hmu : IsU64 (nAt B at_ 1) := num_u64 (by omega)
 rw [if_neg (by omega), if_neg (by omega), sgn_other _ _ (by omega)]
 exact rfixed_plain w p n cp at_ en sz own B h 80 1 2 (by decide) (by decide) (by decide) rfl rfl (by omega) hs (by omega) ⟨by omega, by omega⟩ hmu rfl rfl rfl rfl rfl rfl
theorem rfixed_c96 : RfS w p n cp at_ en sz own B 96 := by
 have hl : (sOf B at_ en).length = en - at_ := sOf_len (by rw [h.len]; exact h.hen)
 have hae := h.ha
 show Calls _ _ _ _ fun e w' => RTo w (ansR n sz own at_ (fixedR 96 (sOf B at_ en))) e w'
 unfold fixedR
 rw [show widC 96 = 2 from rfl, show kindC 96 = 3 from rfl]
 by_cases hs : en - at_ < 2
 ·rw [if_pos (by omega)]
  exact rfixed_short w p n cp at_ en sz own B h 96 2 3 (by decide) (by decide) (by decide) rfl rfl hs
 have htk : beVal ((sOf B at_ en).take 2) = nAt B at_ 2 := by unfold nAt; rw [sOf_take (by omega)]
 have hle := h.bytes.le
 have hen := h.hen
 rw [if_neg (by omega), htk]
 have hmu : IsU64 (nAt B at_ 2) := num_u64 (by omega)
 rw [if_neg (by omega), if_neg (by omega), sgn_other _ _ (by omega)]
 exact rfixed_plain w p n cp at_ en sz own B h 96 2 3 (by decide) (by decide) (by decide) rfl rfl (by omega) hs (by omega) ⟨by omega, by omega⟩ hmu rfl rfl rfl rfl rfl rfl
theorem rfixed_c67 : RfS w p n cp at_ en sz own B 67 := by
 by_cases hca : cp = at_
 ·subst hca
  exact rfixed_plain0 w p n cp en sz own B h 67 0 4 (by decide) (by decide) (by decide) rfl rfl (by omega) (by omega) ⟨by omega, by omega⟩ ⟨by rw [nAt_zero]; decide, by rw [nAt_zero]; decide⟩ rfl rfl rfl rfl rfl rfl
 ·exact rfixed_plain w p n cp at_ en sz own B h 67 0 4 (by decide) (by decide) (by decide) rfl rfl hca (by omega) (by omega) ⟨by omega, by omega⟩ ⟨by rw [nAt_zero]; decide, by rw [nAt_zero]; decide⟩ rfl rfl rfl rfl rfl rfl
theorem rfixed_c82 : RfS w p n cp at_ en sz own B 82 := by
 have hl : (sOf B at_ en).length = en - at_ := sOf_len (by rw [h.len]; exact h.hen)
 have hae := h.ha
 show Calls _ _ _ _ fun e w' => RTo w (ansR n sz own at_ (fixedR 82 (sOf B at_ en))) e w'
 unfold fixedR
 rw [show widC 82 = 1 from rfl, show kindC 82 = 4 from rfl]
 by_cases hs : en - at_ < 1
 ·rw [if_pos (by omega)]
  exact rfixed_short w p n cp at_ en sz own B h 82 1 4 (by decide) (by decide) (by decide) rfl rfl hs
 have htk : beVal ((sOf B at_ en).take 1) = nAt B at_ 1 := by unfold nAt; rw [sOf_take (by omega)]
 have hle := h.bytes.le
 have hen := h.hen
 rw [if_neg (by omega), htk]
 have hmu : IsU64 (nAt B at_ 1) := num_u64 (by omega)
 rw [if_neg (by omega), if_neg (by omega), sgn_other _ _ (by omega)]
 exact rfixed_plain w p n cp at_ en sz own B h 82 1 4 (by decide) (by decide) (by decide) rfl rfl (by omega) hs (by omega) ⟨by omega, by omega⟩ hmu rfl rfl rfl rfl rfl rfl
theorem rfixed_c112 : RfS w p n cp at_ en sz own B 112 := by
 have hl : (sOf B at_ en).length = en - at_ := sOf_len (by rw [h.len]; exact h.hen)
 have hae := h.ha
 show Calls _ _ _ _ fun e w' => RTo w (ansR n sz own at_ (fixedR 112 (sOf B at_ en))) e w'
 unfold fixedR
 rw [show widC 112 = 4 from rfl, show kindC 112 = 4 from rfl]
 by_cases hs : en - at_ < 4
 ·rw [if_pos (by omega)]
  exact rfixed_short w p n cp at_ en sz own B h 112 4 4 (by decide) (by decide) (by decide) rfl rfl hs
 have htk : beVal ((sOf B at_ en).take 4) = nAt B at_ 4 := by unfold nAt; rw [sOf_take (by omega)]
 have hle := h.bytes.le
 have hen := h.hen
 rw [if_neg (by omega), htk]
 have hmu : IsU64 (nAt B at_ 4) := num_u64 (by omega)
 rw [if_neg (by omega), if_neg (by omega), sgn_other _ _ (by omega)]
 exact rfixed_plain w p n cp at_ en sz own B h 112 4 4 (by decide) (by decide) (by decide) rfl rfl (by omega) hs (by omega) ⟨by omega, by omega⟩ hmu rfl rfl rfl rfl rfl rfl
theorem rfixed_c68 : RfS w p n cp at_ en sz own B 68 := by
 by_cases hca : cp = at_
 ·subst hca
  exact rfixed_plain0 w p n cp en sz own B h 68 0 5 (by decide) (by decide) (by decide) rfl rfl (by omega) (by omega) ⟨by omega, by omega⟩ ⟨by rw [nAt_zero]; decide, by rw [nAt_zero]; decide⟩ rfl rfl rfl rfl rfl rfl
 ·exact rfixed_plain w p n cp at_ en sz own B h 68 0 5 (by decide) (by decide) (by decide) rfl rfl hca (by omega) (by omega) ⟨by omega, by omega⟩ ⟨by rw [nAt_zero]; decide, by rw [nAt_zero]; decide⟩ rfl rfl rfl rfl rfl rfl
theorem rfixed_c83 : RfS w p n cp at_ en sz own B 83 := by
 have hl : (sOf B at_ en).length = en - at_ := sOf_len (by rw [h.len]; exact h.hen)
 have hae := h.ha
 show Calls _ _ _ _ fun e w' => RTo w (ansR n sz own at_ (fixedR 83 (sOf B at_ en))) e w'
 unfold fixedR
 rw [show widC 83 = 1 from rfl, show kindC 83 = 5 from rfl]
 by_cases hs : en - at_ < 1
 ·rw [if_pos (by omega)]
  exact rfixed_short w p n cp at_ en sz own B h 83 1 5 (by decide) (by decide) (by decide) rfl rfl hs
 have htk : beVal ((sOf B at_ en).take 1) = nAt B at_ 1 := by unfold nAt; rw [sOf_take (by omega)]
 have hle := h.bytes.le
 have hen := h.hen
 rw [if_neg (by omega), htk]
 have hmu : IsU64 (nAt B at_ 1) := num_u64 (by omega)
 rw [if_neg (by omega), if_neg (by omega), sgn_other _ _ (by omega)]
 exact rfixed_plain w p n cp at_ en sz own B h 83 1 5 (by decide) (by decide) (by decide) rfl rfl (by omega) hs (by omega) ⟨by omega, by omega⟩ hmu rfl rfl rfl rfl rfl rfl
theorem rfixed_c128 : RfS w p n cp at_ en sz own B 128 := by
 have hl : (sOf B at_ en).length = en - at_ := sOf_len (by rw [h.len]; exact h.hen)
 have hae := h.ha
 show Calls _ _ _ _ fun e w' => RTo w (ansR n sz own at_ (fixedR 128 (sOf B at_ en))) e w'
 unfold fixedR
 rw [show widC 128 = 8 from rfl, show kindC 128 = 5 from rfl]
 by_cases hs : en - at_ < 8
 ·rw [if_pos (by omega)]
  exact rfixed_short w p n cp at_ en sz own B h 128 8 5 (by decide) (by decide) (by decide) rfl rfl hs
 have htk : beVal ((sOf B at_ en).take 8) = nAt B at_ 8 := by unfold nAt; rw [sOf_take (by omega)]
 have hle := h.bytes.le
 have hen := h.hen
 rw [if_neg (by omega), htk]
 have hmu : IsU64 (nAt B at_ 8) := num_u64 (by omega)
 rw [if_neg (by omega), if_neg (by omega), sgn_other _ _ (by omega)]
 exact rfixed_plain w p n cp at_ en sz own B h 128 8 5 (by decide) (by decide) (by decide) rfl rfl (by omega) hs (by omega) ⟨by omega, by omega⟩ hmu rfl rfl rfl rfl rfl rfl
theorem rfixed_c81 : RfS w p n cp at_ en sz own B 81 := by
 have hl : (sOf B at_ en).length = en - at_ := sOf_len (by rw [h.len]; exact h.hen)
 have hae := h.ha
 show Calls _ _ _ _ fun e w' => RTo w (ansR n sz own at_ (fixedR 81 (sOf B at_ en))) e w'
 unfold fixedR
 rw [show widC 81 = 1 from rfl, show kindC 81 = 6 from rfl]
 by_cases hs : en - at_ < 1
 ·rw [if_pos (by omega)]
  exact rfixed_short w p n cp at_ en sz own B h 81 1 6 (by decide) (by decide) (by decide) rfl rfl hs
 have htk : beVal ((sOf B at_ en).take 1) = nAt B at_ 1 := by unfold nAt; rw [sOf_take (by omega)]
 have hle := h.bytes.le
 have hen := h.hen
 rw [if_neg (by omega), htk]
 have hmu : IsU64 (nAt B at_ 1) := num_u64 (by omega)
 rw [if_neg (by omega), if_neg (by omega)]
 have e1 : sgnX 1 (nAt B at_ 1) = sgnW 6 1 (nAt B at_ 1) := sgnX_eq _ _ (by omega)
 rw [← e1]
 exact rfixed_sgn w p n cp at_ en sz own B h 81 1 6 (by decide) (by decide) (by decide) rfl rfl (by omega) hs (by omega) ⟨by omega, by omega⟩ hmu (by omega) (by rw [e1]; exact sgn_u64 (by omega) nAt_lt) rfl rfl rfl rfl rfl rfl
theorem rfixed_c97 : RfS w p n cp at_ en sz own B 97 := by
 have hl : (sOf B at_ en).length = en - at_ := sOf_len (by rw [h.len]; exact h.hen)
 have hae := h.ha
 show Calls _ _ _ _ fun e w' => RTo w (ansR n sz own at_ (fixedR 97 (sOf B at_ en))) e w'
 unfold fixedR
 rw [show widC 97 = 2 from rfl, show kindC 97 = 7 from rfl]
 by_cases hs : en - at_ < 2
 ·rw [if_pos (by omega)]
  exact rfixed_short w p n cp at_ en sz own B h 97 2 7 (by decide) (by decide) (by decide) rfl rfl hs
 have htk : beVal ((sOf B at_ en).take 2) = nAt B at_ 2 := by unfold nAt; rw [sOf_take (by omega)]
 have hle := h.bytes.le
 have hen := h.hen
 rw [if_neg (by omega), htk]
 have hmu : IsU64 (nAt B at_ 2) := num_u64 (by omega)
 rw [if_neg (by omega), if_neg (by omega)]
 have e1 : sgnX 2 (nAt B at_ 2) = sgnW 7 2 (nAt B at_ 2) := sgnX_eq _ _ (by omega)
 rw [← e1]
 exact rfixed_sgn w p n cp at_ en sz own B h 97 2 7 (by decide) (by decide) (by decide) rfl rfl (by omega) hs (by omega) ⟨by omega, by omega⟩ hmu (by omega) (by rw [e1]; exact sgn_u64 (by omega) nAt_lt) rfl rfl rfl rfl rfl rfl
theorem rfixed_c84 : RfS w p n cp at_ en sz own B 84 := by
 have hl : (sOf B at_ en).length = en - at_ := sOf_len (by rw [h.len]; exact h.hen)
 have hae := h.ha
 show Calls _ _ _ _ fun e w' => RTo w (ansR n sz own at_ (fixedR 84 (sOf B at_ en))) e w'
 unfold fixedR
 rw [show widC 84 = 1 from rfl, show kindC 84 = 8 from rfl]
 by_cases hs : en - at_ < 1
 ·rw [if_pos (by omega)]
  exact rfixed_short w p n cp at_ en sz own B h 84 1 8 (by decide) (by decide) (by decide) rfl rfl hs
 have htk : beVal ((sOf B at_ en).take 1) = nAt B at_ 1 := by unfold nAt; rw [sOf_take (by omega)]
 have hle := h.bytes.le
 have hen := h.hen
 rw [if_neg (by omega), htk]
 have hmu : IsU64 (nAt B at_ 1) := num_u64 (by omega)
 rw [if_neg (by omega), if_neg (by omega)]
 have e1 : sgnX 1 (nAt B at_ 1) = sgnW 8 1 (nAt B at_ 1) := sgnX_eq _ _ (by omega)
 rw [← e1]
 exact rfixed_sgn w p n cp at_ en sz own B h 84 1 8 (by decide) (by decide) (by decide) rfl rfl (by omega) hs (by omega) ⟨by omega, by omega⟩ hmu (by omega) (by rw [e1]; exact sgn_u64 (by omega) nAt_lt) rfl rfl rfl rfl rfl rfl
theorem rfixed_c113 : RfS w p n cp at_ en sz own B 113 := by
 have hl : (sOf B at_ en).length = en - at_ := sOf_len (by rw [h.len]; exact h.hen)
 have hae := h.ha
 show Calls _ _ _ _ fun e w' => RTo w (ansR n sz own at_ (fixedR 113 (sOf B at_ en))) e w'
 unfold fixedR
 rw [show widC 113 = 4 from rfl, show kindC 113 = 8 from rfl]
 by_cases hs : en - at_ < 4
 ·rw [if_pos (by omega)]
  exact rfixed_short w p n cp at_ en sz own B h 113 4 8 (by decide) (by decide) (by decide) rfl rfl hs
 have htk : beVal ((sOf B at_ en).take 4) = nAt B at_ 4 := by unfold nAt; rw [sOf_take (by omega)]
 have hle := h.bytes.le
 have hen := h.hen
 rw [if_neg (by omega), htk]
 have hmu : IsU64 (nAt B at_ 4) := num_u64 (by omega)
 rw [if_neg (by omega), if_neg (by omega)]
 have e1 : sgnX 4 (nAt B at_ 4) = sgnW 8 4 (nAt B at_ 4) := sgnX_eq _ _ (by omega)
 rw [← e1]
 exact rfixed_sgn w p n cp at_ en sz own B h 113 4 8 (by decide) (by decide) (by decide) rfl rfl (by omega) hs (by omega) ⟨by omega, by omega⟩ hmu (by omega) (by rw [e1]; exact sgn_u64 (by omega) nAt_lt) rfl rfl rfl rfl rfl rfl
theorem rfixed_c85 : RfS w p n cp at_ en sz own B 85 := by
 have hl : (sOf B at_ en).length = en - at_ := sOf_len (by rw [h.len]; exact h.hen)
 have hae := h.ha
 show Calls _ _ _ _ fun e w' => RTo w (ansR n sz own at_ (fixedR 85 (sOf B at_ en))) e w'
 unfold fixedR
 rw [show widC 85 = 1 from rfl, show kindC 85 = 9 from rfl]
 by_cases hs : en - at_ < 1
 ·rw [if_pos (by omega)]
  exact rfixed_short w p n cp at_ en sz own B h 85 1 9 (by decide) (by decide) (by decide) rfl rfl hs
 have htk : beVal ((sOf B at_ en).take 1) = nAt B at_ 1 := by unfold nAt; rw [sOf_take (by omega)]
 have hle := h.bytes.le
 have hen := h.hen
 rw [if_neg (by omega), htk]
 have hmu : IsU64 (nAt B at_ 1) := num_u64 (by omega)
 rw [if_neg (by omega), if_neg (by omega)]
 have e1 : sgnX 1 (nAt B at_ 1) = sgnW 9 1 (nAt B at_ 1) := sgnX_eq _ _ (by omega)
 rw [← e1]
 exact rfixed_sgn w p n cp at_ en sz own B h 85 1 9 (by decide) (by decide) (by decide) rfl rfl (by omega) hs (by omega) ⟨by omega, by omega⟩ hmu (by omega) (by rw [e1]; exact sgn_u64 (by omega) nAt_lt) rfl rfl rfl rfl rfl rfl
theorem rfixed_c129 : RfS w p n cp at_ en sz own B 129 := by
 have hl : (sOf B at_ en).length = en - at_ := sOf_len (by rw [h.len]; exact h.hen)
 have hae := h.ha
 show Calls _ _ _ _ fun e w' => RTo w (ansR n sz own at_ (fixedR 129 (sOf B at_ en))) e w'
 unfold fixedR
 rw [show widC 129 = 8 from rfl, show kindC 129 = 9 from rfl]
 by_cases hs : en - at_ < 8
 ·rw [if_pos (by omega)]
  exact rfixed_short w p n cp at_ en sz own B h 129 8 9 (by decide) (by decide) (by decide) rfl rfl hs
 have htk : beVal ((sOf B at_ en).take 8) = nAt B at_ 8 := by unfold nAt; rw [sOf_take (by omega)]
 have hle := h.bytes.le
 have hen := h.hen
 rw [if_neg (by omega), htk]
 have hmu : IsU64 (nAt B at_ 8) := num_u64 (by omega)
 rw [if_neg (by omega), if_neg (by omega)]
 have e1 : sgnX 8 (nAt B at_ 8) = sgnW 9 8 (nAt B at_ 8) := sgnX_eq _ _ (by omega)
 rw [← e1]
 exact rfixed_sgn w p n cp at_ en sz own B h 129 8 9 (by decide) (by decide) (by decide) rfl rfl (by omega) hs (by omega) ⟨by omega, by omega⟩ hmu (by omega) (by rw [e1]; exact sgn_u64 (by omega) nAt_lt) rfl rfl rfl rfl rfl rfl
theorem rfixed_c114 : RfS w p n cp at_ en sz own B 114 := by
 have hl : (sOf B at_ en).length = en - at_ := sOf_len (by rw [h.len]; exact h.hen)
 have hae := h.ha
 show Calls _ _ _ _ fun e w' => RTo w (ansR n sz own at_ (fixedR 114 (sOf B at_ en))) e w'
 unfold fixedR
 rw [show widC 114 = 4 from rfl, show kindC 114 = 10 from rfl]
 by_cases hs : en - at_ < 4
 ·rw [if_pos (by omega)]
  exact rfixed_short w p n cp at_ en sz own B h 114 4 10 (by decide) (by decide) (by decide) rfl rfl hs
 have htk : beVal ((sOf B at_ en).take 4) = nAt B at_ 4 := by unfold nAt; rw [sOf_take (by omega)]
 have hle := h.bytes.le
 have hen := h.hen
 rw [if_neg (by omega), htk]
 have hmu : IsU64 (nAt B at_ 4) := num_u64 (by omega)
 rw [if_neg (by omega), if_neg (by omega), sgn_other _ _ (by omega)]
 exact rfixed_plain w p n cp at_ en sz own B h 114 4 10 (by decide) (by decide) (by decide) rfl rfl (by omega) hs (by omega) ⟨by omega, by omega⟩ hmu rfl rfl rfl rfl rfl rfl
theorem rfixed_c130 : RfS w p n cp at_ en sz own B 130 := by
 have hl : (sOf B at_ en).length = en - at_ := sOf_len (by rw [h.len]; exact h.hen)
 have hae := h.ha
 show Calls _ _ _ _ fun e w' => RTo w (ansR n sz own at_ (fixedR 130 (sOf B at_ en))) e w'
 unfold fixedR
 rw [show widC 130 = 8 from rfl, show kindC 130 = 11 from rfl]
 by_cases hs : en - at_ < 8
 ·rw [if_pos (by omega)]
  exact rfixed_short w p n cp at_ en sz own B h 130 8 11 (by decide) (by decide) (by decide) rfl rfl hs
 have htk : beVal ((sOf B at_ en).take 8) = nAt B at_ 8 := by unfold nAt; rw [sOf_take (by omega)]
 have hle := h.bytes.le
 have hen := h.hen
 rw [if_neg (by omega), htk]
 have hmu : IsU64 (nAt B at_ 8) := num_u64 (by omega)
 rw [if_neg (by omega), if_neg (by omega), sgn_other _ _ (by omega)]
 exact rfixed_plain w p n cp at_ en sz own B h 130 8 11 (by decide) (by decide) (by decide) rfl rfl (by omega) hs (by omega) ⟨by omega, by omega⟩ hmu rfl rfl rfl rfl rfl rfl
theorem rfixed_c116 : RfS w p n cp at_ en sz own B 116 := by
 have hl : (sOf B at_ en).length = en - at_ := sOf_len (by rw [h.len]; exact h.hen)
 have hae := h.ha
 show Calls _ _ _ _ fun e w' => RTo w (ansR n sz own at_ (fixedR 116 (sOf B at_ en))) e w'
 unfold fixedR
 rw [show widC 116 = 4 from rfl, show kindC 116 = 12 from rfl]
 by_cases hs : en - at_ < 4
 ·rw [if_pos (by omega)]
  exact rfixed_short w p n cp at_ en sz own B h 116 4 12 (by decide) (by decide) (by decide) rfl rfl hs
 have htk : beVal ((sOf B at_ en).take 4) = nAt B at_ 4 := by unfold nAt; rw [sOf_take (by omega)]
 have hle := h.bytes.le
 have hen := h.hen
 rw [if_neg (by omega), htk]
 have hmu : IsU64 (nAt B at_ 4) := num_u64 (by omega)
 rw [if_neg (by omega), if_neg (by omega), sgn_other _ _ (by omega)]
 exact rfixed_plain w p n cp at_ en sz own B h 116 4 12 (by decide) (by decide) (by decide) rfl rfl (by omega) hs (by omega) ⟨by omega, by omega⟩ hmu rfl rfl rfl rfl rfl rfl
theorem rfixed_c132 : RfS w p n cp at_ en sz own B 132 := by
 have hl : (sOf B at_ en).length = en - at_ := sOf_len (by rw [h.len]; exact h.hen)
 have hae := h.ha
 show Calls _ _ _ _ fun e w' => RTo w (ansR n sz own at_ (fixedR 132 (sOf B at_ en))) e w'
 unfold fixedR
 rw [show widC 132 = 8 from rfl, show kindC 132 = 13 from rfl]
 by_cases hs : en - at_ < 8
 ·rw [if_pos (by omega)]
  exact rfixed_short w p n cp at_ en sz own B h 132 8 13 (by decide) (by decide) (by decide) rfl rfl hs
 have htk : beVal ((sOf B at_ en).take 8) = nAt B at_ 8 := by unfold nAt; rw [sOf_take (by omega)]
 have hle := h.bytes.le
 have hen := h.hen
 rw [if_neg (by omega), htk]
 have hmu : IsU64 (nAt B at_ 8) := num_u64 (by omega)
 rw [if_neg (by omega), if_neg (by omega), sgn_other _ _ (by omega)]
 exact rfixed_plain w p n cp at_ en sz own B h 132 8 13 (by decide) (by decide) (by decide) rfl rfl (by omega) hs (by omega) ⟨by omega, by omega⟩ hmu rfl rfl rfl rfl rfl rfl
theorem rfixed_c148 : RfS w p n cp at_ en sz own B 148 := by
 have hl : (sOf B at_ en).length = en - at_ := sOf_len (by rw [h.len]; exact h.hen)
 have hae := h.ha
 show Calls _ _ _ _ fun e w' => RTo w (ansR n sz own at_ (rawR 148 (sOf B at_ en))) e w'
 unfold rawR
 by_cases hs : en - at_ < 16
 ·rw [if_pos (by omega)]
  exact rfixed_short w p n cp at_ en sz own B h 148 16 14 (by decide) (by decide) (by decide) rfl rfl hs
 ·rw [if_neg (by omega), sOf_take (by omega)]
  have hle := h.bytes.le
  have hen := h.hen
  exact rfixed_raw148 w p n cp at_ en sz own B h 148 16 14 (by decide) (by decide) (by decide) rfl rfl (by omega) hs (raw_wf ⟨by omega, by omega⟩ _ (by rw [List.length_take, List.length_drop, h.len]; omega)) rfl rfl rfl rfl rfl
theorem rfixed_c115 : RfS w p n cp at_ en sz own B 115 := by
 have hl : (sOf B at_ en).length = en - at_ := sOf_len (by rw [h.len]; exact h.hen)
 have hae := h.ha
 show Calls _ _ _ _ fun e w' => RTo w (ansR n sz own at_ (fixedR 115 (sOf B at_ en))) e w'
 unfold fixedR
 rw [show widC 115 = 4 from rfl, show kindC 115 = 15 from rfl]
 by_cases hs : en - at_ < 4
 ·rw [if_pos (by omega)]
  exact rfixed_short w p n cp at_ en sz own B h 115 4 15 (by decide) (by decide) (by decide) rfl rfl hs
 have htk : beVal ((sOf B at_ en).take 4) = nAt B at_ 4 := by unfold nAt; rw [sOf_take (by omega)]
 have hle := h.bytes.le
 have hen := h.hen
 rw [if_neg (by omega), htk]
 have hmu : IsU64 (nAt B at_ 4) := num_u64 (by omega)
 rw [if_neg (by omega)]
 by_cases hm : isCh (nAt B at_ 4) = true
 ·rw [if_neg (fun q => by rw [hm] at q; exact absurd q.2 (by decide)), sgn_other _ _ (by omega)]
  exact rfixed_char w p n cp at_ en sz own B h 115 4 15 (by decide) (by decide) (by decide) rfl rfl (by omega) hs (by omega) ⟨by omega, by omega⟩ hmu rfl rfl rfl rfl hm
 ·have hm2 : isCh (nAt B at_ 4) = false := by simpa using hm
  rw [if_pos ⟨rfl, hm2⟩]
  exact rfixed_charx w p n cp at_ en sz own B h 115 4 15 (by decide) (by decide) (by decide) rfl rfl (by omega) hs (by omega) ⟨by omega, by omega⟩ hmu rfl rfl rfl rfl hm2
theorem rfixed_c131 : RfS w p n cp at_ en sz own B 131 := by
 have hl : (sOf B at_ en).length = en - at_ := sOf_len (by rw [h.len]; exact h.hen)
 have hae := h.ha
 show Calls _ _ _ _ fun e w' => RTo w (ansR n sz own at_ (fixedR 131 (sOf B at_ en))) e w'
 unfold fixedR
 rw [show widC 131 = 8 from rfl, show kindC 131 = 16 from rfl]
 by_cases hs : en - at_ < 8
 ·rw [if_pos (by omega)]
  exact rfixed_short w p n cp at_ en sz own B h 131 8 16 (by decide) (by decide) (by decide) rfl rfl hs
 have htk : beVal ((sOf B at_ en).take 8) = nAt B at_ 8 := by unfold nAt; rw [sOf_take (by omega)]
 have hle := h.bytes.le
 have hen := h.hen
 rw [if_neg (by omega), htk]
 have hmu : IsU64 (nAt B at_ 8) := num_u64 (by omega)
 rw [if_neg (by omega), if_neg (by omega)]
 have e1 : sgnX 8 (nAt B at_ 8) = sgnW 16 8 (nAt B at_ 8) := sgnX_eq _ _ (by omega)
 rw [← e1]
 exact rfixed_sgn w p n cp at_ en sz own B h 131 8 16 (by decide) (by decide) (by decide) rfl rfl (by omega) hs (by omega) ⟨by omega, by omega⟩ hmu (by omega) (by rw [e1]; exact sgn_u64 (by omega) nAt_lt) rfl rfl rfl rfl rfl rfl
theorem rfixed_c152 : RfS w p n cp at_ en sz own B 152 := by
 have hl : (sOf B at_ en).length = en - at_ := sOf_len (by rw [h.len]; exact h.hen)
 have hae := h.ha
 show Calls _ _ _ _ fun e w' => RTo w (ansR n sz own at_ (rawR 152 (sOf B at_ en))) e w'
 unfold rawR
 by_cases hs : en - at_ < 16
 ·rw [if_pos (by omega)]
  exact rfixed_short w p n cp at_ en sz own B h 152 16 17 (by decide) (by decide) (by decide) rfl rfl hs
 ·rw [if_neg (by omega), sOf_take (by omega)]
  have hle := h.bytes.le
  have hen := h.hen
  exact rfixed_raw152 w p n cp at_ en sz own B h 152 16 17 (by decide) (by decide) (by decide) rfl rfl (by omega) hs (raw_wf ⟨by omega, by omega⟩ _ (by rw [List.length_take, List.length_drop, h.len]; omega)) rfl rfl rfl rfl rfl rfl
theorem rfixed_c69 : RfS w p n cp at_ en sz own B 69 := by
 by_cases hca : cp = at_
 ·subst hca
  exact rfixed_plain0 w p n cp en sz own B h 69 0 21 (by decide) (by decide) (by decide) rfl rfl (by omega) (by omega) ⟨by omega, by omega⟩ ⟨by rw [nAt_zero]; decide, by rw [nAt_zero]; decide⟩ rfl rfl rfl rfl rfl rfl
 ·exact rfixed_plain w p n cp at_ en sz own B h 69 0 21 (by decide) (by decide) (by decide) rfl rfl hca (by omega) (by omega) ⟨by omega, by omega⟩ ⟨by rw [nAt_zero]; decide, by rw [nAt_zero]; decide⟩ rfl rfl rfl rfl rfl rfl
theorem rfixed_any (c : Nat) (hk : 0 <= kindC c) (h0 : c ≠ 0) (h9 : c / 16 <= 9) : Calls Tryz.prog 115 #[.agg #[.slice p n cp, .int .i64 (en : Nat), .int .i64 sz], .int .i64 ((c : Nat) : Int), .int .i64 (at_ : Nat)] w fun e w' => RTo w (ansR n sz own at_ (fxR c (sOf B at_ en))) e w' := by
 rcases kindC_mem hk h0 with rfl | rfl | rfl | rfl | rfl | rfl | rfl | rfl | rfl | rfl | rfl | rfl | rfl | rfl | rfl | rfl | rfl | rfl | rfl | rfl | rfl | rfl | rfl | rfl | rfl | rfl | rfl | rfl | rfl | rfl | rfl | rfl | rfl | rfl | rfl | rfl | rfl | rfl | rfl
 ·exact rfixed_c64 w p n cp at_ en sz own B h
 ·exact rfixed_c65 w p n cp at_ en sz own B h
 ·exact rfixed_c66 w p n cp at_ en sz own B h
 ·exact rfixed_c86 w p n cp at_ en sz own B h
 ·exact rfixed_c80 w p n cp at_ en sz own B h
 ·exact rfixed_c96 w p n cp at_ en sz own B h
 ·exact rfixed_c67 w p n cp at_ en sz own B h
 ·exact rfixed_c82 w p n cp at_ en sz own B h
 ·exact rfixed_c112 w p n cp at_ en sz own B h
 ·exact rfixed_c68 w p n cp at_ en sz own B h
 ·exact rfixed_c83 w p n cp at_ en sz own B h
 ·exact rfixed_c128 w p n cp at_ en sz own B h
 ·exact rfixed_c81 w p n cp at_ en sz own B h
 ·exact rfixed_c97 w p n cp at_ en sz own B h
 ·exact rfixed_c84 w p n cp at_ en sz own B h
 ·exact rfixed_c113 w p n cp at_ en sz own B h
 ·exact rfixed_c85 w p n cp at_ en sz own B h
 ·exact rfixed_c129 w p n cp at_ en sz own B h
 ·exact rfixed_c114 w p n cp at_ en sz own B h
 ·exact rfixed_c130 w p n cp at_ en sz own B h
 ·exact rfixed_c116 w p n cp at_ en sz own B h
 ·exact rfixed_c132 w p n cp at_ en sz own B h
 ·exact rfixed_c148 w p n cp at_ en sz own B h
 ·exact rfixed_c115 w p n cp at_ en sz own B h
 ·exact rfixed_c131 w p n cp at_ en sz own B h
 ·exact rfixed_c152 w p n cp at_ en sz own B h
 ·omega
 ·omega
 ·omega
 ·omega
 ·omega
 ·omega
 ·exact rfixed_c69 w p n cp at_ en sz own B h
 ·omega
 ·omega
 ·omega
 ·omega
 ·omega
 ·omega
end

theorem txret_bool {a b : Bool} (h : a = b) : Ending.returned (.bool a) = .returned (.bool b) := by rw [h]
theorem refAscii_any (s : ByteArray) (w : World) (hs : s.size ≤ 9223372036854775807) :
  Calls Tryz.prog 130 #[.string s] w fun e w' => e = .returned (.int .i64 (asciiS s)) ∧ w = w' := by
 go_enter Tryz.func130, Tryz.ntmps130
 go_wp2
 go_loop [3] (fun i => ∃ k : Nat, k ≤ s.size ∧ i = .int .i64 k ∧ Hid (asciiS s = asciiF s (s.size - k) k)) (fun i => s.size - (intOf i).toNat)
 case atStart => exact ⟨0, by omega, rfl, Lib.hid rfl⟩
 case round =>
  obtain ⟨k, hk, rfl, H⟩ := hrel
  by_cases hlt : k < s.size
  ·have hb := byteS_in s k hlt
   have hx := byteS_lt s k
   have hf : s.size - k = (s.size - (k + 1)) + 1 := by omega
   by_cases h128 : 128 ≤ s[k].toNat
   ·have HE := Lib.hid (show asciiS s = (k : Int) by rw [H.out, hf, asciiF, hb, if_pos h128])
    clear hb hf hx
    have h128' : (127 : Int) < (s[k].toNat : Int) := by omega
    go_wp2
    go_ret
    exact ⟨ret_i64 HE.out.symm, rfl⟩
   ·have HE := Lib.hid (show asciiS s = asciiF s (s.size - (k + 1)) (k + 1) by rw [H.out, hf, asciiF, hb, if_neg h128])
    clear hb hf hx
    have h128' : ¬ (127 : Int) < (s[k].toNat : Int) := by omega
    go_wp2
    go_round
    case rel => exact ⟨k + 1, by omega, by go_num, HE⟩
    case measure => simp [intOf]; omega
  ·have HE := Lib.hid (show asciiS s = -1 by rw [H.out, show s.size - k = 0 by omega, asciiF])
   go_wp2
   go_ret
   exact ⟨ret_i64 HE.out.symm, rfl⟩

def txinW (s : ByteArray) (p lo hi : Nat) : Bool := decide (p < s.size ∧ lo ≤ byteS s p ∧ byteS s p ≤ hi)

theorem txwithin_any (s : ByteArray) (w : World) (p lo hi : Nat) (hs : s.size ≤ 9223372036854775807) :
  Calls Tryz.prog 156 #[.string s, .int .i64 p, .int .i64 lo, .int .i64 hi] w fun e w' => e = .returned (.bool (txinW s p lo hi)) ∧ w = w' := by
 by_cases hlt : p < s.size
 ·have hb := byteS_in s p hlt
  have hx : (s[p].toNat : Int) < 256 := by have := s[p].toNat_lt; omega
  have hx0 : (0 : Int) ≤ (s[p].toNat : Int) := by omega
  by_cases h1 : lo ≤ s[p].toNat
  ·by_cases h2 : s[p].toNat ≤ hi
   ·have HE := Lib.hid (show txinW s p lo hi = true by unfold txinW; rw [hb]; simp [hlt, h1, h2])
    clear hb
    have h1' : (lo : Int) ≤ (s[p].toNat : Int) := by omega
    have h2' : (s[p].toNat : Int) ≤ (hi : Int) := by omega
    go_enter Tryz.func156, Tryz.ntmps156
    go_wp2
    go_ret
    exact ⟨txret_bool (by rw [HE.out]), rfl⟩
   ·have HE := Lib.hid (show txinW s p lo hi = false by unfold txinW; rw [hb]; simp [hlt, h1, h2])
    clear hb
    have h1' : (lo : Int) ≤ (s[p].toNat : Int) := by omega
    have h2' : decide ((s[p].toNat : Int) ≤ (hi : Int)) = false := by simp; omega
    go_enter Tryz.func156, Tryz.ntmps156
    go_wp2
    go_ret
    exact ⟨txret_bool (by rw [HE.out]), rfl⟩
  ·have HE := Lib.hid (show txinW s p lo hi = false by unfold txinW; rw [hb]; simp [hlt, h1])
   clear hb
   have h1' : decide ((lo : Int) ≤ (s[p].toNat : Int)) = false := by simp; omega
   go_enter Tryz.func156, Tryz.ntmps156
   go_wp2
   go_ret
   exact ⟨txret_bool (by rw [HE.out]), rfl⟩
 ·have HE := Lib.hid (show txinW s p lo hi = false by unfold txinW; simp [hlt])
  go_enter Tryz.func156, Tryz.ntmps156
  go_wp2
  go_ret
  exact ⟨txret_bool (by rw [HE.out]), rfl⟩

def txtailW (s : ByteArray) (p : Nat) : Nat → Bool
 | 0 => true
 | n + 1 => txinW s p 128 191 && txtailW s (p + 1) n

theorem txtail_any (s : ByteArray) (w : World) (p n : Nat) (hs : s.size ≤ 9223372036854775800) (hp : p ≤ s.size + 8) (hn : n ≤ 4) (hs2 : s.size + 16 ≤ 9223372036854775807) :
  Calls Tryz.prog 159 #[.string s, .int .i64 p, .int .i64 n] w fun e w' => e = .returned (.bool (txtailW s p n)) ∧ w = w' := by
 go_enter Tryz.func159, Tryz.ntmps159
 go_wp2
 go_loop [7] (fun i => ∃ k : Nat, k ≤ n ∧ i = .int .i64 k ∧ Hid (txtailW s p n = txtailW s (p + k) (n - k))) (fun i => n - (intOf i).toNat)
 case atStart => exact ⟨0, by omega, rfl, Lib.hid rfl⟩
 case round =>
  obtain ⟨k, hk, rfl, H⟩ := hrel
  by_cases hlt : k < n
  ·have hf : n - k = (n - (k + 1)) + 1 := by omega
   have hh := H.out
   rw [hf, txtailW] at hh
   have hc := txwithin_any s w (p + k) 128 191 (by omega)
   rw [show ((p + k : Nat) : Int) = (p : Int) + (k : Int) by omega] at hc
   have HC := Lib.hid hc
   clear hc hf H
   cases hb : txinW s (p + k) 128 191 with
   | true =>
    rw [hb, Bool.true_and] at hh
    have HH := Lib.hid hh
    have HBB := Lib.hid hb
    clear hh hb
    go_wp2_with fail
    refine HC.out.mono ?_
    rintro e w' ⟨rfl, rfl⟩
    rw [HBB.out]
    go_wp2_with fail
    go_round
    case rel => exact ⟨k + 1, by omega, by go_num, Lib.hid (by rw [HH.out, Nat.add_assoc])⟩
    case measure => simp [intOf]; omega
   | false =>
    rw [hb, Bool.false_and] at hh
    have HH := Lib.hid hh
    have HBB := Lib.hid hb
    clear hh hb
    go_wp2_with fail
    refine HC.out.mono ?_
    rintro e w' ⟨rfl, rfl⟩
    rw [HBB.out]
    go_wp2_with fail
    go_ret
    exact ⟨txret_bool (by rw [HH.out]), rfl⟩
  ·have HH := Lib.hid (show txtailW s p n = true by rw [H.out, show n - k = 0 by omega, txtailW])
   go_wp2_with fail
   go_ret
   exact ⟨txret_bool (by rw [HH.out]), rfl⟩

def txpairW (s : ByteArray) (p a b c d more : Nat) : Bool := txinW s p a b && (txinW s (p + 1) c d && txtailW s (p + 2) more)

theorem txpair_any (s : ByteArray) (w : World) (p a b c d more : Nat) (hp : p ≤ s.size) (hn : more ≤ 4) (hs2 : s.size + 16 ≤ 9223372036854775807) :
  Calls Tryz.prog 157 #[.string s, .int .i64 p, .int .i64 a, .int .i64 b, .int .i64 c, .int .i64 d, .int .i64 more] w fun e w' => e = .returned (.bool (txpairW s p a b c d more)) ∧ w = w' := by
 have hc1 := txwithin_any s w p a b (by omega)
 have hc2 := txwithin_any s w (p + 1) c d (by omega)
 have hc3 := txtail_any s w (p + 2) more (by omega) (by omega) hn (by omega)
 rw [show ((p + 1 : Nat) : Int) = (p : Int) + 1 by omega] at hc2
 rw [show ((p + 2 : Nat) : Int) = (p : Int) + 2 by omega] at hc3
 have HP := Lib.hid (show txpairW s p a b c d more = (txinW s p a b && (txinW s (p + 1) c d && txtailW s (p + 2) more)) from rfl)
 obtain ⟨b1, hb1⟩ : ∃ x, txinW s p a b = x := ⟨_, rfl⟩
 obtain ⟨b2, hb2⟩ : ∃ x, txinW s (p + 1) c d = x := ⟨_, rfl⟩
 obtain ⟨b3, hb3⟩ : ∃ x, txtailW s (p + 2) more = x := ⟨_, rfl⟩
 have HP2 : Hid (txpairW s p a b c d more = (b1 && (b2 && b3))) := by rw [HP.out, hb1, hb2, hb3]; exact Lib.hid rfl
 rw [hb1] at hc1
 rw [hb2] at hc2
 rw [hb3] at hc3
 have HC1 := Lib.hid hc1
 have HC2 := Lib.hid hc2
 have HC3 := Lib.hid hc3
 clear hc1 hc2 hc3 hb1 hb2 hb3 HP
 cases b1
 all_goals cases b2
 all_goals cases b3
 all_goals
  go_enter Tryz.func157, Tryz.ntmps157
  go_wp2_with fail
  refine HC1.out.mono ?_
  rintro e w' ⟨rfl, rfl⟩
  go_wp2_with fail
  refine HC2.out.mono ?_
  rintro e w' ⟨rfl, rfl⟩
  go_wp2_with fail
  refine HC3.out.mono ?_
  rintro e w' ⟨rfl, rfl⟩
  go_wp2_with fail
  go_ret
  exact ⟨txret_bool (by rw [HP2.out]; rfl), rfl⟩

def txcharW (s : ByteArray) (p : Nat) : Nat :=
 if txinW s p 0 127 then 1 else if txpairW s p 194 223 128 191 0 then 2
 else if txpairW s p 224 224 160 191 1 || (txpairW s p 225 236 128 191 1 || (txpairW s p 237 237 128 159 1 || txpairW s p 238 239 128 191 1)) then 3
 else if txpairW s p 240 240 144 191 2 || (txpairW s p 241 243 128 191 2 || txpairW s p 244 244 128 143 2) then 4 else 0

set_option maxHeartbeats 4000000 in
theorem txchar_any (s : ByteArray) (w : World) (p : Nat) (hp : p ≤ s.size) (hs2 : s.size + 16 ≤ 9223372036854775807) :
  Calls Tryz.prog 149 #[.string s, .int .i64 p] w fun e w' => e = .returned (.int .i64 (txcharW s p)) ∧ w = w' := by
 have h0 : Calls Tryz.prog 156 #[.string s, .int .i64 p, .int .i64 0, .int .i64 127] w fun e w' => e = .returned (.bool (txinW s p 0 127)) ∧ w = w' := txwithin_any s w p 0 127 (by omega)
 have h1 : Calls Tryz.prog 157 #[.string s, .int .i64 p, .int .i64 194, .int .i64 223, .int .i64 128, .int .i64 191, .int .i64 0] w fun e w' => e = .returned (.bool (txpairW s p 194 223 128 191 0)) ∧ w = w' := txpair_any s w p 194 223 128 191 0 hp (by omega) hs2
 cases hp0 : txinW s p 0 127 with
 | true =>
  rw [hp0] at h0
  have H0 := Lib.hid h0
  have HX := Lib.hid (show txcharW s p = 1 by unfold txcharW; rw [if_pos hp0])
  clear h0 h1 hp0
  go_enter Tryz.func149, Tryz.ntmps149
  go_wp2_with fail
  refine H0.out.mono ?_
  rintro e w' ⟨rfl, rfl⟩
  go_wp2_with fail
  go_ret
  exact ⟨ret_i64 (by rw [HX.out]; rfl), rfl⟩
 | false =>
  cases hp1 : txpairW s p 194 223 128 191 0 with
  | true =>
   rw [hp0] at h0
   rw [hp1] at h1
   have H0 := Lib.hid h0
   have H1 := Lib.hid h1
   have HX := Lib.hid (show txcharW s p = 2 by unfold txcharW; rw [hp0, hp1]; rfl)
   clear h0 h1 hp0 hp1
   go_enter Tryz.func149, Tryz.ntmps149
   go_wp2_with fail
   refine H0.out.mono ?_
   rintro e w' ⟨rfl, rfl⟩
   go_wp2_with fail
   refine H1.out.mono ?_
   rintro e w' ⟨rfl, rfl⟩
   go_wp2_with fail
   go_ret
   exact ⟨ret_i64 (by rw [HX.out]; rfl), rfl⟩
  | false =>
   rw [hp0] at h0
   rw [hp1] at h1
   have HX := Lib.hid (show txcharW s p = if txpairW s p 224 224 160 191 1 || (txpairW s p 225 236 128 191 1 || (txpairW s p 237 237 128 159 1 || txpairW s p 238 239 128 191 1)) then 3 else if txpairW s p 240 240 144 191 2 || (txpairW s p 241 243 128 191 2 || txpairW s p 244 244 128 143 2) then 4 else 0 by unfold txcharW; rw [hp0, hp1]; rfl)
   have H0 := Lib.hid h0
   have H1 := Lib.hid h1
   clear h0 h1 hp0 hp1
   obtain ⟨b1, eb1⟩ : ∃ x, txpairW s p 224 224 160 191 1 = x := ⟨_, rfl⟩
   obtain ⟨b2, eb2⟩ : ∃ x, txpairW s p 225 236 128 191 1 = x := ⟨_, rfl⟩
   obtain ⟨b3, eb3⟩ : ∃ x, txpairW s p 237 237 128 159 1 = x := ⟨_, rfl⟩
   obtain ⟨b4, eb4⟩ : ∃ x, txpairW s p 238 239 128 191 1 = x := ⟨_, rfl⟩
   obtain ⟨b5, eb5⟩ : ∃ x, txpairW s p 240 240 144 191 2 = x := ⟨_, rfl⟩
   obtain ⟨b6, eb6⟩ : ∃ x, txpairW s p 241 243 128 191 2 = x := ⟨_, rfl⟩
   obtain ⟨b7, eb7⟩ : ∃ x, txpairW s p 244 244 128 143 2 = x := ⟨_, rfl⟩
   have HX2 : Hid (txcharW s p = if b1 || (b2 || (b3 || b4)) then 3 else if b5 || (b6 || b7) then 4 else 0) := by rw [HX.out, eb1, eb2, eb3, eb4, eb5, eb6, eb7]; exact Lib.hid rfl
   have hA : Calls Tryz.prog 157 #[.string s, .int .i64 p, .int .i64 224, .int .i64 224, .int .i64 160, .int .i64 191, .int .i64 1] w fun e w' => e = .returned (.bool b1) ∧ w = w' := by
    have := txpair_any s w p 224 224 160 191 1 hp (by omega) hs2
    rw [eb1] at this; exact this
   have hB : Calls Tryz.prog 157 #[.string s, .int .i64 p, .int .i64 225, .int .i64 236, .int .i64 128, .int .i64 191, .int .i64 1] w fun e w' => e = .returned (.bool b2) ∧ w = w' := by
    have := txpair_any s w p 225 236 128 191 1 hp (by omega) hs2
    rw [eb2] at this; exact this
   have hC : Calls Tryz.prog 157 #[.string s, .int .i64 p, .int .i64 237, .int .i64 237, .int .i64 128, .int .i64 159, .int .i64 1] w fun e w' => e = .returned (.bool b3) ∧ w = w' := by
    have := txpair_any s w p 237 237 128 159 1 hp (by omega) hs2
    rw [eb3] at this; exact this
   have hD : Calls Tryz.prog 157 #[.string s, .int .i64 p, .int .i64 238, .int .i64 239, .int .i64 128, .int .i64 191, .int .i64 1] w fun e w' => e = .returned (.bool b4) ∧ w = w' := by
    have := txpair_any s w p 238 239 128 191 1 hp (by omega) hs2
    rw [eb4] at this; exact this
   have hE : Calls Tryz.prog 157 #[.string s, .int .i64 p, .int .i64 240, .int .i64 240, .int .i64 144, .int .i64 191, .int .i64 2] w fun e w' => e = .returned (.bool b5) ∧ w = w' := by
    have := txpair_any s w p 240 240 144 191 2 hp (by omega) hs2
    rw [eb5] at this; exact this
   have hF : Calls Tryz.prog 157 #[.string s, .int .i64 p, .int .i64 241, .int .i64 243, .int .i64 128, .int .i64 191, .int .i64 2] w fun e w' => e = .returned (.bool b6) ∧ w = w' := by
    have := txpair_any s w p 241 243 128 191 2 hp (by omega) hs2
    rw [eb6] at this; exact this
   have hG : Calls Tryz.prog 157 #[.string s, .int .i64 p, .int .i64 244, .int .i64 244, .int .i64 128, .int .i64 143, .int .i64 2] w fun e w' => e = .returned (.bool b7) ∧ w = w' := by
    have := txpair_any s w p 244 244 128 143 2 hp (by omega) hs2
    rw [eb7] at this; exact this
   have HAHA := Lib.hid hA
   have HBHB := Lib.hid hB
   have HCHC := Lib.hid hC
   have HDHD := Lib.hid hD
   have HEHE := Lib.hid hE
   have HFHF := Lib.hid hF
   have HGHG := Lib.hid hG
   clear hA hB hC hD hE hF hG eb1 eb2 eb3 eb4 eb5 eb6 eb7 HX
   go_enter Tryz.func149, Tryz.ntmps149
   go_wp2_with fail
   refine H0.out.mono ?_
   rintro e w' ⟨rfl, rfl⟩
   go_wp2_with fail
   refine H1.out.mono ?_
   rintro e w' ⟨rfl, rfl⟩
   go_wp2_with fail
   refine HAHA.out.mono ?_
   rintro e w' ⟨rfl, rfl⟩
   go_wp2_with fail
   refine HBHB.out.mono ?_
   rintro e w' ⟨rfl, rfl⟩
   go_wp2_with fail
   refine HCHC.out.mono ?_
   rintro e w' ⟨rfl, rfl⟩
   go_wp2_with fail
   refine HDHD.out.mono ?_
   rintro e w' ⟨rfl, rfl⟩
   go_wp2_with fail
   all_goals first
    | (go_ret; exact ⟨ret_i64 (by rw [HX2.out]; simp [*]), rfl⟩)
    | skip
   refine HEHE.out.mono ?_
   rintro e w' ⟨rfl, rfl⟩
   go_wp2_with fail
   refine HFHF.out.mono ?_
   rintro e w' ⟨rfl, rfl⟩
   go_wp2_with fail
   refine HGHG.out.mono ?_
   rintro e w' ⟨rfl, rfl⟩
   go_wp2_with fail
   all_goals (go_ret; exact ⟨ret_i64 (by rw [HX2.out]; simp [*]), rfl⟩)

/-! the plain law: the chapter's table and the decoder say the same -/
theorem byteS_extract (s : ByteArray) (k j : Nat) : ((s.extract k s.size).get! j).toNat = byteS s (k + j) := by
 have e : (s.extract k s.size).get! j = (s.data.extract k s.data.size)[j]! := by
  show (s.extract k s.size).data[j]! = _
  rw [ByteArray.data_extract]; rfl
 rw [e]
 unfold byteS
 split
 ·rename_i h
  have h' : k + j < s.data.size := h
  rw [getElem!_pos (s.data.extract k s.data.size) j (by simp; omega)]
  simp
  rfl
 ·rename_i h
  have h' : ¬ k + j < s.data.size := h
  rw [getElem!_neg (s.data.extract k s.data.size) j (by simp; omega)]
  rfl
def txcharN (n b0 b1 b2 b3 : Nat) : Nat :=
 if b0 ≤ 127 then 1
 else if (194 ≤ b0 ∧ b0 ≤ 223) ∧ 1 < n ∧ 128 ≤ b1 ∧ b1 ≤ 191 then 2
 else if ((b0 = 224 ∧ 160 ≤ b1 ∧ b1 ≤ 191) ∨ (225 ≤ b0 ∧ b0 ≤ 236 ∧ 128 ≤ b1 ∧ b1 ≤ 191) ∨ (b0 = 237 ∧ 128 ≤ b1 ∧ b1 ≤ 159) ∨ (238 ≤ b0 ∧ b0 ≤ 239 ∧ 128 ≤ b1 ∧ b1 ≤ 191)) ∧ 1 < n ∧ 2 < n ∧ 128 ≤ b2 ∧ b2 ≤ 191 then 3
 else if ((b0 = 240 ∧ 144 ≤ b1 ∧ b1 ≤ 191) ∨ (241 ≤ b0 ∧ b0 ≤ 243 ∧ 128 ≤ b1 ∧ b1 ≤ 191) ∨ (b0 = 244 ∧ 128 ≤ b1 ∧ b1 ≤ 143)) ∧ 1 < n ∧ 2 < n ∧ 128 ≤ b2 ∧ b2 ≤ 191 ∧ 3 < n ∧ 128 ≤ b3 ∧ b3 ≤ 191 then 4 else 0

theorem charW_N (s : ByteArray) (p : Nat) (h : p < s.size) : txcharW s p = txcharN (s.size - p) (byteS s p) (byteS s (p + 1)) (byteS s (p + 2)) (byteS s (p + 3)) := by
 have h1 : (p + 1 < s.size) ↔ (1 < s.size - p) := ⟨fun h => by omega, fun h => by omega⟩
 have h2 : (p + 2 < s.size) ↔ (2 < s.size - p) := ⟨fun h => by omega, fun h => by omega⟩
 have h3 : (p + 3 < s.size) ↔ (3 < s.size - p) := ⟨fun h => by omega, fun h => by omega⟩
 have w0 : ∀ lo hi, txinW s p lo hi = true ↔ (lo ≤ byteS s p ∧ byteS s p ≤ hi) := fun lo hi => by simp [txinW, h]
 have w1 : ∀ lo hi, txinW s (p + 1) lo hi = true ↔ (1 < s.size - p ∧ lo ≤ byteS s (p + 1) ∧ byteS s (p + 1) ≤ hi) := fun lo hi => by simp only [txinW, decide_eq_true_eq, h1]
 have w2 : ∀ lo hi, txinW s (p + 2) lo hi = true ↔ (2 < s.size - p ∧ lo ≤ byteS s (p + 2) ∧ byteS s (p + 2) ≤ hi) := fun lo hi => by simp only [txinW, decide_eq_true_eq, h2]
 have w3 : ∀ lo hi, txinW s (p + 3) lo hi = true ↔ (3 < s.size - p ∧ lo ≤ byteS s (p + 3) ∧ byteS s (p + 3) ≤ hi) := fun lo hi => by simp only [txinW, decide_eq_true_eq, h3]
 have p0 : ∀ a b c d, txpairW s p a b c d 0 = true ↔ ((a ≤ byteS s p ∧ byteS s p ≤ b) ∧ (1 < s.size - p ∧ c ≤ byteS s (p + 1) ∧ byteS s (p + 1) ≤ d)) := fun a b c d => by
  simp only [txpairW, txtailW, Bool.and_true, Bool.and_eq_true, w0, w1]
 have p1 : ∀ a b c d, txpairW s p a b c d 1 = true ↔ ((a ≤ byteS s p ∧ byteS s p ≤ b) ∧ (1 < s.size - p ∧ c ≤ byteS s (p + 1) ∧ byteS s (p + 1) ≤ d) ∧ (2 < s.size - p ∧ 128 ≤ byteS s (p + 2) ∧ byteS s (p + 2) ≤ 191)) := fun a b c d => by
  simp only [txpairW, txtailW, Bool.and_true, Bool.and_eq_true, w0, w1, w2]
 have p2 : ∀ a b c d, txpairW s p a b c d 2 = true ↔ ((a ≤ byteS s p ∧ byteS s p ≤ b) ∧ (1 < s.size - p ∧ c ≤ byteS s (p + 1) ∧ byteS s (p + 1) ≤ d) ∧ (2 < s.size - p ∧ 128 ≤ byteS s (p + 2) ∧ byteS s (p + 2) ≤ 191) ∧ (3 < s.size - p ∧ 128 ≤ byteS s (p + 3) ∧ byteS s (p + 3) ≤ 191)) := fun a b c d => by
  simp only [txpairW, txtailW, Bool.and_true, Bool.and_eq_true, w0, w1, w2, Nat.add_assoc, Nat.reduceAdd, w3]
 unfold txcharW txcharN
 simp only [Bool.or_eq_true, w0, p0, p1, p2, Nat.zero_le, true_and]
 clear w0 w1 w2 w3 p0 p1 p2 h1 h2 h3
 generalize byteS s p = b0
 generalize byteS s (p + 1) = b1
 generalize byteS s (p + 2) = b2
 generalize byteS s (p + 3) = b3
 generalize s.size - p = n
 congr 2
 congr 1
 ·exact propext ⟨fun h => by omega, fun h => by omega⟩
 ·congr 1
  exact propext ⟨fun h => by omega, fun h => by omega⟩

set_option maxHeartbeats 4000000 in
theorem charN_decode (n b0 b1 b2 b3 : Nat) (hn : 1 ≤ n) (h0 : b0 < 256) (h1 : b1 < 256) (h2 : b2 < 256) (h3 : b3 < 256) :
  txcharN n b0 b1 b2 b3 = if (Lib.decodeN n b0 b1 b2 b3).1 = 65533 ∧ (Lib.decodeN n b0 b1 b2 b3).2 = 1 then 0 else (Lib.decodeN n b0 b1 b2 b3).2 := by
 unfold txcharN Lib.decodeN
 repeat' split
 all_goals first | rfl | (exfalso; omega) | (simp only at *; omega)

theorem char_decode (s : ByteArray) (p : Nat) (h : p < s.size) :
  txcharW s p = if (Lib.decodeGo (s.extract p s.size)).1 = 65533 ∧ (Lib.decodeGo (s.extract p s.size)).2 = 1 then 0 else (Lib.decodeGo (s.extract p s.size)).2 := by
 have hsz : (s.extract p s.size).size = s.size - p := by simp
 have hdg : Lib.decodeGo (s.extract p s.size) = Lib.decodeN (s.size - p) (byteS s p) (byteS s (p + 1)) (byteS s (p + 2)) (byteS s (p + 3)) := by
  unfold Lib.decodeGo
  rw [if_neg (by omega), Lib.decode_at, hsz, byteS_extract, byteS_extract, byteS_extract, byteS_extract]
  simp only [Nat.sub_zero, Nat.zero_add, Nat.add_zero]
 rw [charW_N s p h, hdg]
 exact charN_decode _ _ _ _ _ (by omega) (byteS_lt _ _) (byteS_lt _ _) (byteS_lt _ _) (byteS_lt _ _)

set_option maxHeartbeats 1000000 in
theorem refUtf8_any (s : ByteArray) (w : World) (hs : s.size + 16 ≤ 9223372036854775807) :
  Calls Tryz.prog 129 #[.string s] w fun e w' => e = .returned (.int .i64 (utf8S s)) ∧ w = w' := by
 go_enter Tryz.func129, Tryz.ntmps129
 go_wp2
 go_loop [3] (fun i => ∃ k f : Nat, k ≤ s.size ∧ s.size - k ≤ f ∧ i = .int .i64 k ∧ Hid (utf8S s = utf8F s f k)) (fun i => s.size - (intOf i).toNat)
 case atStart => exact ⟨0, s.size, by omega, by omega, rfl, Lib.hid rfl⟩
 case round =>
  obtain ⟨k, f, hk, hf, rfl, H⟩ := hrel
  by_cases hlt : k < s.size
  ·obtain ⟨f, rfl⟩ : ∃ f', f = f' + 1 := ⟨f - 1, by omega⟩
   obtain ⟨hd1, hd2, hd3⟩ := decodeGo_bd s k hlt
   have hs1 := H.out
   rw [utf8F, if_pos hlt] at hs1
   have hcd := char_decode s k hlt
   have hc := txchar_any s w k (by omega) hs
   rw [hcd] at hc
   clear hcd hd3
   obtain ⟨r, hr⟩ : ∃ r, (Lib.decodeGo (s.extract k s.size)).1 = r := ⟨_, rfl⟩
   obtain ⟨m, hm⟩ : ∃ m, (Lib.decodeGo (s.extract k s.size)).2 = m := ⟨_, rfl⟩
   rw [hr, hm] at hs1 hc
   rw [hm] at hd1 hd2
   clear hr hm H
   by_cases c1 : r = 65533 ∧ m = 1
   ·rw [if_pos c1] at hs1 hc
    have HE := Lib.hid hs1
    have HC := Lib.hid hc
    clear hs1 hc
    go_wp2_with fail
    refine HC.out.mono ?_
    rintro e w' ⟨rfl, rfl⟩
    go_wp2_with fail
    go_ret
    exact ⟨ret_i64 HE.out.symm, rfl⟩
   ·rw [if_neg c1] at hs1 hc
    have HE := Lib.hid hs1
    have HC := Lib.hid hc
    clear hs1 hc
    go_wp2_with fail
    refine HC.out.mono ?_
    rintro e w' ⟨rfl, rfl⟩
    go_wp2_with fail
    go_round
    case rel => exact ⟨k + m, f, by omega, by omega, by go_num, HE⟩
    case measure => simp [intOf]; omega
  ·have HE := Lib.hid (show utf8S s = -1 by rw [H.out]; cases f <;> simp [utf8F, hlt])
   go_wp2
   go_ret
   exact ⟨ret_i64 HE.out.symm, rfl⟩
end Go.Proofs.YtnnnfhobbnjmfaaGreatDoor
