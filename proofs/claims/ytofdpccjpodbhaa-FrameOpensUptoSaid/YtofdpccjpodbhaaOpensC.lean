/-
  FrameOpens' walk behind its first loop.
-/
import Derived.Test.YtofdpccjpodbhaaOpensA
import Derived.Deep.DeepCutAuto
namespace Go.Proofs.Ytofdpccjpodbhaa
open Go.RowKit
set_option linter.unusedVariables false

set_option maxHeartbeats 8000000 in
set_option maxRecDepth 20000 in
noncomputable def opensC (w : World) (a : Option Addr) (n c : Nat) (l : List UInt8) (at_ most other : Int) (hz : n ≤ 1048576) :
    (R0 : Prop) ×' (R1 : Prop) ×' (Hid R0 → Hid R1 → (opensA w a n c l at_ most other hz).2.1) :=
  ⟨_, _, fun hR0 hR1 => by
  intro hle hcap Z1 w1 H1 HB1 wL g cap L hg hLc HLl HTK HDR hLm' HLm Z2 Z3 wA pl hgl wr u8 u12 u15 u16 u17 u18 u19 u20 u21 u48 u49 u50 u51 u52 u53 u54 u55 u56 u57 u58 u59 u60 u61 u62 u63 u64 u65 u66 u67 u68 u69 u70 u71 u72 u73 u74 u75 u76 u77 u78 u79 u80 u81 u82 u83 u84 u85 u86 u87 u88 u89 u90 u91 u92 u93 u94 i R hi hLe hA HRl HS HR hlt
  have H4 : Hid (i = 4) := Lib.hid (by omega)
  have hi4 : ¬ (i : Int) < 4 := by omega
  obtain ⟨gv, cf, hvf, hnf, hcf, hgf⟩ := row_form HS.out.row
  obtain ⟨gf, rfl, hgf1, hgf2⟩ := hgf (by have := HRl.out; omega)
  rw [HRl.out] at hvf hnf
  subst hvf
  unfold maxLen at hcf
  have hbw := H1.out.below HS.out.bel
  have HBw := Lib.hid hbw
  have ht := turned_any wr a n c l hbw hz
  clear hlt hgf hbw
  go_wp2_with fail
  refine ht.mono ?_
  rintro e wE ⟨vt, rfl, hot, hbE⟩
  obtain ⟨pt, ct, hvt, hbt⟩ := hot.bytes
  have htl : (turnB l).length = n := by unfold turnB; rw [List.length_map, HBw.out.len]
  rw [htl] at hvt hbt
  subst hvt
  have hLE := hLe.out.below hbE
  have HOT := Lib.hid hot
  have HTL := Lib.hid htl
  have HSE := Lib.hid (HS.out.below hbE)
  have hpl1 := (Array.getElem?_eq_some_iff.1 hA.out).1
  have HAE := Lib.hid ((hbE.block pl hpl1).trans hA.out)
  have hgw := hLe.out.lt
  have hsz := hbE.size
  clear ht hbE hot htl HS hLe hA HBw
  go_upto_region 18 with fail
  go_wp2_with (refine wpList_copy_lent rfl (.tmp 97) (.tmp 98) 22 rfl Try.underlying22 info_u8 pt n cap ct g rfl rfl L (turnB l) hLE hbt ?hfit ?_)
  case hfit => rw [HLl.out]; omega
  intro wF hLF hbF hsF hoF
  have hgF : wE.grownBy wF (some g) := ⟨hbF.os, hbF.tape, hbF.output, by omega, fun k hk hne => hoF k (fun e => hne (by rw [e]))⟩
  have hotF := HOT.out.kept hgF (by
    cases hob : (Value.slice pt n ct).ownBlock with
    | none => exact .inl rfl
    | some b =>
      refine .inr (fun he => ?_)
      simp only [Option.some.injEq] at he
      have := (HOT.out.row.lt b hob).1
      omega)
  have hbtF := hotF.slice.2
  have hSF := HSE.out.kept hgF (fun k hk => by simp only [Option.some.injEq] at hk; omega)
  have hAF := (hgF.block pl (Nat.lt_of_lt_of_le hpl1 hsz) (fun he => by simp only [Option.some.injEq] at he; omega)).trans HAE.out
  have hx2 := hLF.bytes 0 n cap (by rw [List.length_append, HTL.out]; omega) (by omega) HLm.out
  rw [List.drop_zero, List.take_left' HTL.out] at hx2
  have hlF : (turnB l ++ L.drop n).length = cap := by rw [List.length_append, HTL.out, List.length_drop, HLl.out]; omega
  have htF : (turnB l ++ L.drop n).take (n + 9) = turnB l ++ spareL := by
    rw [List.take_append, HTL.out, List.take_of_length_le (by rw [HTL.out]; omega), show n + 9 - n = 9 by omega, HDR.out]
  obtain ⟨⟨t, ch, el, bl, p, er⟩, hQ⟩ : ∃ r, openR (turnB l) at_ most = r := ⟨_, rfl⟩
  have ho := open_row wF _ n cap (turnB l) at_ most hx2 (by omega) t ch el bl p er hQ
  have HLF := Lib.hid hLF
  have HlF := Lib.hid hlF
  have HtF := Lib.hid htF
  have HbtF := Lib.hid hbtF
  have HSF := Lib.hid hSF
  have HAF := Lib.hid hAF
  have HQ := Lib.hid hQ
  clear hbt hLE hLF hbF hsF hoF hgF hotF hbtF hx2 hlF htF hQ HOT HSE HAE hSF hAF hpl1 hgw hsz
  go_wp2_with fail
  refine ho.mono ?_
  rintro e w2 ⟨ea, ne, ce, ba, nb, cb, rfl, hb2, o1, o2, hap⟩
  clear ho
  go_upto_region 20 with fail
  have hal : Below w2.heap.size w2 (w2.alloc (.cells #[.int .i64 t, .int .i64 ch, .slice ea ne ce, .slice ba nb cb] 24)) := (Below.refl _ _).alloc (Nat.le_refl _) _
  have f3 : (w2.alloc (.cells #[.int .i64 t, .int .i64 ch, .slice ea ne ce, .slice ba nb cb] 24)).heap[w2.heap.size]? = some (.cells #[.int .i64 t, .int .i64 ch, .slice ea ne ce, .slice ba nb cb] 24 (0, 0)) := heap_alloc_new _ _
  have hb3 := hb2.trans (hal.mono hb2.size)
  have o13 := o1.of_below hal
  have o23 := o2.of_below hal
  have hxw : wF.heap.size ≤ w2.heap.size := hb2.size
  generalize (w2.alloc (.cells #[.int .i64 t, .int .i64 ch, .slice ea ne ce, .slice ba nb cb] 24)) = w3 at *
  obtain ⟨x1, hx1⟩ : ∃ x, w2.heap.size = x := ⟨_, rfl⟩
  rw [hx1] at f3 hxw ⊢
  clear hx1 hal hb2 o1 o2
  have hro := ropen_row w3 pt n ct (turnB l) at_ most (HbtF.out.below hb3) (by omega) t ch el bl p er HQ.out
  have hS3 := HSF.out.putRow (r := ⟨t, ch, .slice ea ne ce, .slice ba nb cb, el, bl⟩) hb3 o13 o23 hap
  have HS3 := Lib.hid hS3
  have HL3 := Lib.hid (HLF.out.below hb3)
  have HBT3 := Lib.hid (HbtF.out.below hb3)
  have HA3 := Lib.hid ((hb3.block pl (Array.getElem?_eq_some_iff.1 HAF.out).1).trans HAF.out)
  have HX1 : Hid (pl + 2 ≤ x1) := Lib.hid (Nat.le_trans HSF.out.size hxw)
  have F3 := Lib.hid f3
  have O13 := Lib.hid o13
  have O23 := Lib.hid o23
  clear hb3 f3 o13 o23 hap hS3 HSF HLF HbtF HAF hxw
  go_wp2_with fail
  refine hro.mono ?_
  rintro e w4 ⟨ea', ne', ce', ba', nb', cb', rfl, hb4, i1, i2⟩
  clear hro
  go_upto_region 21 with fail
  have hal : Below w4.heap.size w4 (w4.alloc (.cells #[.int .i64 t, .int .i64 ch, .slice ea' ne' ce', .slice ba' nb' cb'] 24)) := (Below.refl _ _).alloc (Nat.le_refl _) _
  have f5 : (w4.alloc (.cells #[.int .i64 t, .int .i64 ch, .slice ea' ne' ce', .slice ba' nb' cb'] 24)).heap[w4.heap.size]? = some (.cells #[.int .i64 t, .int .i64 ch, .slice ea' ne' ce', .slice ba' nb' cb'] 24 (0, 0)) := heap_alloc_new _ _
  have hb5 := hb4.trans (hal.mono hb4.size)
  have i15 := i1.below hal
  have i25 := i2.below hal
  generalize (w4.alloc (.cells #[.int .i64 t, .int .i64 ch, .slice ea' ne' ce', .slice ba' nb' cb'] 24)) = w5 at *
  obtain ⟨x2, hx2⟩ : ∃ x, w4.heap.size = x := ⟨_, rfl⟩
  rw [hx2] at f5 ⊢
  clear hx2 hal hb4 i1 i2
  have f35 := (hb5.block x1 (Array.getElem?_eq_some_iff.1 F3.out).1).trans F3.out
  have d0 : w5.cell? ⟨x1, 0, none⟩ = some (.int .i64 t) := by simp [World.cell?, f35]
  have d1 : w5.cell? ⟨x1, 1, none⟩ = some (.int .i64 ch) := by simp [World.cell?, f35]
  have d2 : w5.cell? ⟨x1, 2, none⟩ = some (.slice ea ne ce) := by simp [World.cell?, f35]
  have d3 : w5.cell? ⟨x1, 3, none⟩ = some (.slice ba nb cb) := by simp [World.cell?, f35]
  have g0 : w5.cell? ⟨x2, 0, none⟩ = some (.int .i64 t) := by simp [World.cell?, f5]
  have g1 : w5.cell? ⟨x2, 1, none⟩ = some (.int .i64 ch) := by simp [World.cell?, f5]
  have g2 : w5.cell? ⟨x2, 2, none⟩ = some (.slice ea' ne' ce') := by simp [World.cell?, f5]
  have g3 : w5.cell? ⟨x2, 3, none⟩ = some (.slice ba' nb' cb') := by simp [World.cell?, f5]
  have hsm := same_frames w5 t ch ea ba ea' ba' ne ce nb cb ne' ce' nb' cb' el bl (O13.out.of_below hb5).slice.2 (O23.out.of_below hb5).slice.2 i15 i25
  have HS5 := Lib.hid (HS3.out.below hb5)
  have HL5 := Lib.hid (HL3.out.below hb5)
  have HBT5 := Lib.hid (HBT3.out.below hb5)
  have HA5 := Lib.hid ((hb5.block pl (Array.getElem?_eq_some_iff.1 HA3.out).1).trans HA3.out)
  have F35 := Lib.hid f35
  clear f5 f35 i15 i25 hb5 F3 O13 O23 HS3 HL3 HBT3 HA3
  go_wp2_with fail
  refine hsm.mono ?_
  rintro e w6 ⟨rfl, hb6⟩
  have hk := kept_any w6 g n cap _ (turnB l) pt ct (HL5.out.below hb6) HlF.out HtF.out (by omega) HLm.out (HBT5.out.below hb6) hz
  have HS6 := Lib.hid (HS5.out.below hb6)
  have HA6 := Lib.hid ((hb6.block pl (Array.getElem?_eq_some_iff.1 HA5.out).1).trans HA5.out)
  have F6 := Lib.hid ((hb6.block x1 (Array.getElem?_eq_some_iff.1 F35.out).1).trans F35.out)
  have HG6 : Hid (g < w6.heap.size) := Lib.hid (Nat.lt_of_lt_of_le HL5.out.lt hb6.size)
  clear hsm d0 d1 d2 d3 g0 g1 g2 g3 hb6 HL5 HBT5 HS5 HA5 F35
  go_wp2_with fail
  refine hk.mono ?_
  rintro e wI ⟨rfl, hgI⟩
  have hSI := HS6.out.kept hgI (fun k hk => by simp only [Option.some.injEq] at hk; omega)
  have hAI := (hgI.block pl (Array.getElem?_eq_some_iff.1 HA6.out).1 (fun he => by simp only [Option.some.injEq] at he; omega)).trans HA6.out
  have hx1g := HX1.out
  have hFI := (hgI.block x1 (Array.getElem?_eq_some_iff.1 F6.out).1 (fun he => by simp only [Option.some.injEq] at he; omega)).trans F6.out
  have HSI := Lib.hid hSI
  have HAI := Lib.hid hAI
  have HFI := Lib.hid hFI
  clear hk hgI hSI hAI hFI HS6 HA6 F6 hx1g
  go_wp2_with fail
  go_loopw [31] (fun s31 wr => ∃ (j : Nat) (vl : Value), j ≤ 4 ∧ s31 = .int .i64 j ∧ Opn w1 wr (pl + 1) (pl + 2) (.slice (some ⟨gf, 0, none⟩) i cf) R (R ++ [⟨t, ch, .slice ea ne ce, .slice ba nb cb, el, bl⟩]) vl (2 * j) ∧ Hid (wr.heap[pl]? = some (.cells #[.int .i64 at_, .int .i64 other, .int .i64 at_, .int .i64 at_] 3 (0, 0))) ∧ Hid (wr.heap[x1]? = some (.cells #[.int .i64 t, .int .i64 ch, .slice ea ne ce, .slice ba nb cb] 24 (0, 0)))) (fun s31 _ => 4 - (intOf s31).toNat)
  case atStart => exact ⟨0, _, by omega, rfl, HSI.out, HAI, HFI⟩
  case round =>
    clear HSI HAI HFI
    obtain ⟨j, vl, hj, rfl, hS, hA, hF⟩ := hrel
    have HS := Lib.hid hS
    clear hS
    by_cases hlt : j < 4
    · skip
      rename_i Y1 Y2 Y3 Y4 Y5 Y6 Y7
      revert hle hcap Z1 w1 H1 HB1 wL g cap L hg hLc HLl HTK HDR hLm' HLm Z2 wA pl hgl Y1 Y2 u15 u16 u17 u18 u19 u20 u21 u48 u49 u50 u51 u52 u53 u54 u55 u56 u57 u58 u59 u60 u61 u62 u63 u64 u65 u66 u67 u68 u69 u70 u71 u72 u73 u74 u75 u76 u77 u78 u79 u80 u81 u82 u83 u84 u85 u86 u87 u88 u89 u90 u91 u92 u93 u94 i R hi HRl HR H4 cf hnf hcf gf hgf1 hgf2 Y3 Y4 Y5 hi4 wE pt ct HTL wF t ch el bl p er HlF HtF HQ w2 ea ne ce ba nb cb w3 x1 HX1 w4 ea' ne' ce' ba' nb' cb' w5 x2 w6 HG6 wI Y6 Y7 wr u8 u32 u33 u34 u35 u138 u139 u140 u141 u142 u143 u144 u145 u146 u147 u148 u149 u150 u151 u152 u153 u154 u155 u156 u157 u158 u159 u160 u161 u162 u163 u164 u165 u166 u167 u168 u169 u170 u171 u172 u173 u174 u175 u176 u177 u178 u179 u180 u181 j vl hj hA hF HS hlt
      exact hR0.out
    · skip
      rename_i Y1 Y2 Y3 Y4 Y5 Y6 Y7
      revert hle hcap Z1 w1 H1 HB1 wL g cap L hg hLc HLl HTK HDR hLm' HLm Z2 wA pl hgl Y1 Y2 u15 u16 u17 u18 u19 u20 u21 u48 u49 u50 u51 u52 u53 u54 u55 u56 u57 u58 u59 u60 u61 u62 u63 u64 u65 u66 u67 u68 u69 u70 u71 u72 u73 u74 u75 u76 u77 u78 u79 u80 u81 u82 u83 u84 u85 u86 u87 u88 u89 u90 u91 u92 u93 u94 i R hi HRl HR H4 cf hnf hcf gf hgf1 hgf2 Y3 Y4 Y5 hi4 wE pt ct HTL wF t ch el bl p er HlF HtF HQ w2 ea ne ce ba nb cb w3 x1 HX1 w4 ea' ne' ce' ba' nb' cb' w5 x2 w6 HG6 wI Y6 Y7 wr u8 u32 u33 u34 u35 u138 u139 u140 u141 u142 u143 u144 u145 u146 u147 u148 u149 u150 u151 u152 u153 u154 u155 u156 u157 u158 u159 u160 u161 u162 u163 u164 u165 u166 u167 u168 u169 u170 u171 u172 u173 u174 u175 u176 u177 u178 u179 u180 u181 j vl hj hA hF HS hlt
      exact hR1.out⟩
end Go.Proofs.Ytofdpccjpodbhaa
