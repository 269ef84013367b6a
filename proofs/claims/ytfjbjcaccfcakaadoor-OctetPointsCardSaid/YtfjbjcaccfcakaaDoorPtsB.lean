/-
  OctetPoints' walk: the whole text, and the one that is cut.
-/
import Derived.Test.YtfjbjcaccfcakaaDoorPtsA
namespace Go.Proofs.YtfjbjcaccfcakaaDoor
open Go.RowKit
set_option linter.unusedVariables false

set_option maxHeartbeats 8000000 in
set_option maxRecDepth 20000 in
noncomputable def ptsB (w : World) (a : Option Addr) (n c : Nat) (l : List Int) (cut last : Int) (hz : n ≤ 17592186044416) (hcc : IsI64 cut) (hcl : IsI64 last) :
    (R0 : Prop) ×' (Hid R0 → (ptsA w a n c l cut last hz hcc hcl).1) :=
  ⟨_, fun hR0 => by
  intro hle hcap Z1 w1 HT HI HB1 Z2 Z3 wr u12 u13 u24 u25 u26 u27 u28 u29 u30 u31 u32 u33 u34 u35 u36 u37 u38 u39 u40 u41 u42 u43 u44 i W hi hWl hB P kk m hl4 S hsz HS HM HW HWL HL hm46 hlt hin
  have hu : utf8S S = -1 := by rw [← HS.out]; exact utf8_whole W HW.out
  have hu8 := utf8_any S wr (by omega) (HT.out.below hB)
  rw [hu] at hu8
  clear hu
  go_wp2_with fail
  refine hu8.mono ?_
  rintro e w2 ⟨rfl, hb2⟩
  have hB2 := hB.trans (hb2.mono hB.size)
  have HB2 := Lib.hid hB2
  clear hu8 hb2 hB hB2
  go_upto_if 54 with fail
  go_cut [15, 16] (fun s15 s16 wx => Below w1.heap.size w1 wx)
  case first =>
    try clear hR0
    rcases HL.out with rfl | ⟨W', d, hWd, hP, hkk⟩
    · go_wp2_with fail
      go_meet
      case rel => exact HB2.out
    · have hd : okC d := HW.out d (by rw [hWd]; simp)
      have hW' : ∀ x ∈ W', okC x := fun x hx => HW.out x (by rw [hWd]; simp [hx])
      have e1 : txt W = txt W' ++ wrC d := by rw [hWd, txt_snoc]
      have hkl := wrC_len d
      rw [hkk] at hkl
      have hm2 : m = P + kk := by rw [← HM.out, e1, List.length_append, hkk, hP]
      by_cases h1 : 1 < kk
      · have h1' : (1 : Int) < (kk : Int) := by omega
        -- the text cut behind k bytes of its last form
        have hcutu : ∀ k, 1 ≤ k → k < kk → utf8S (S.extract 0 (P + k)) = (P : Int) := fun k k1 k2 => by
          have e2 : S.extract 0 (P + k) = strL (txt W' ++ (wrC d).take k) := by
            rw [← HS.out, strL_extract, List.drop_zero, e1, List.take_append, hP, Nat.add_sub_cancel_left, List.take_of_length_le (by omega)]
          rw [e2, utf8_cut W' d k hW' hd k1 (by omega), hP]
        have HCU := Lib.hid hcutu
        have hcalls : ∀ k, 1 ≤ k → k < kk → Calls Tryd.prog 7 #[.string (S.extract 0 (P + k))] w2 fun e w' => e = .returned (.int .i64 P) ∧ Below w2.heap.size w2 w' := fun k k1 k2 => by
          have hs2 : (S.extract 0 (P + k)).size ≤ 9223372036854775800 := by
            have : (S.extract 0 (P + k)).size ≤ S.size := by rw [ByteArray.size_extract]; omega
            omega
          have := utf8_any (S.extract 0 (P + k)) w2 hs2 (HT.out.below HB2.out)
          rw [HCU.out k k1 k2] at this
          exact this
        have HCA := Lib.hid hcalls
        clear hcutu hcalls hd hW' e1 hWd hkk hP
        by_cases hc0 : 0 < cut
        · obtain ⟨cn, rfl⟩ := Int.eq_ofNat_of_zero_le (show 0 ≤ cut by omega)
          obtain ⟨K1, hK1⟩ : ∃ K1, kk - 1 = K1 := ⟨_, rfl⟩
          have hK1' : (kk : Int) - 1 = (K1 : Int) := by omega
          have hK1p : 0 < K1 := by omega
          obtain ⟨k, hk⟩ : ∃ k, 1 + cn % K1 = k := ⟨_, rfl⟩
          have hkb : 1 ≤ k ∧ k < kk := by
            have := Nat.mod_lt cn hK1p
            omega
          have hwk : wrap64 (1 + (cn : Int) % (K1 : Int)) = (k : Int) := by
            have e : (cn : Int) % (K1 : Int) = ((cn % K1 : Nat) : Int) := by omega
            rw [e]
            unfold wrap64
            omega
          have HWK := Lib.hid hwk
          clear hwk hk
          go_upto_region 20 with fail
          rw [HWK.out]
          have hr := HCA.out k hkb.1 hkb.2
          have hle1 : P + k ≤ m := by omega
          have hle1' : (P : Int) + (k : Int) ≤ (m : Int) := by omega
          go_wp2_with fail
          refine hr.mono ?_
          rintro e w3 ⟨rfl, hb3⟩
          go_wp2_with fail
          go_meet
          case rel => exact HB2.out.trans (hb3.mono HB2.out.size)
        · have hr := HCA.out 1 (by omega) h1
          have hle1 : P + 1 ≤ m := by omega
          have hle1' : (P : Int) + 1 ≤ (m : Int) := by omega
          go_wp2_with fail
          refine hr.mono ?_
          rintro e w3 ⟨rfl, hb3⟩
          go_wp2_with fail
          go_meet
          case rel => exact HB2.out.trans (hb3.mono HB2.out.size)
      · have h1' : ¬ (1 : Int) < (kk : Int) := by omega
        go_wp2_with fail
        go_meet
        case rel => exact HB2.out
  case rest =>
    skip
    rename_i Y1 Y2 Y3 Y4 Y5 Y6 Y7 Y8 Y9 Y10 Y11 Y12 Y13 Y14 Y15 Y16 Y17 Y18 Y19 Y20 Y21 Y22 Y23 Y24 Y25 Y26
    revert hle hcap Z1 w1 HT HI HB1 Z2 wr u12 u13 Y1 Y2 Y3 Y4 Y5 Y6 Y7 Y8 Y9 Y10 Y11 Y12 Y13 Y14 Y15 Y16 Y17 Y18 Y19 Y20 Y21 i W hi hWl P kk m hl4 S hsz HS HM HW HWL HL hm46 hlt Y22 Y23 Y24 hin w2 HB2 Y25 Y26 wc u6 u15 u16 u23 u24 u25 u26 u27 u28 u29 u30 u31 u32 u33 u34 u35 u36 u37 u38 u39 u40 u41 u42 u43 u44 u45 u46 u47 u48 u49 u50 u51 u52 u53 u54 u55 u56 u57 u58 u59 u60 u61 u62 u63 u64 u65 u66 u67 u68 u69 u70 u71 u72 u73 u74 u75 u76 u77 u78 u79 u80 u81 u82 u83 u84 u85 u86 u87 u88 u89 u90 u91 u92 u93 u94 u95 u96 u97 u98 u99 u100 u101 u102 u103 u104 u105 u106 u107 u108 u109 u110 u111 hcut
    exact hR0.out⟩
end Go.Proofs.YtfjbjcaccfcakaaDoor
