/-
  FrameOpens' walk, the round of its second loop.
-/
import Derived.Test.YtofdpccjpodbhaaOpensC
import Derived.Test.YtofdpccjpodbhaaOpensB
import Derived.StillTailTactics
import Derived.BigRegion
import Derived.Deep.RegionLaw
namespace Go.Proofs.Ytofdpccjpodbhaa
open Go.RowKit
set_option linter.unusedVariables false

set_option maxHeartbeats 8000000 in
set_option maxRecDepth 20000 in
theorem opensD (w : World) (a : Option Addr) (n c : Nat) (l : List UInt8) (at_ most other : Int) (hz : n ≤ 1048576) :
    (opensC w a n c l at_ most other hz).1 := by
  intro hle hcap Z1 w1 H1 HB1 wL g cap L hg hLc HLl HTK HDR hLm' HLm Z2 wA pl hgl Y1 Y2 u15 u16 u17 u18 u19 u20 u21 u48 u49 u50 u51 u52 u53 u54 u55 u56 u57 u58 u59 u60 u61 u62 u63 u64 u65 u66 u67 u68 u69 u70 u71 u72 u73 u74 u75 u76 u77 u78 u79 u80 u81 u82 u83 u84 u85 u86 u87 u88 u89 u90 u91 u92 u93 u94 i R hi HRl HR H4 cf hnf hcf gf hgf1 hgf2 Y3 Y4 Y5 hi4 wE pt ct HTL wF t ch el bl p er HlF HtF HQ w2 ea ne ce ba nb cb w3 x1 HX1 w4 ea' ne' ce' ba' nb' cb' w5 x2 w6 HG6 wI Y6 Y7 wr u8 u32 u33 u34 u35 u138 u139 u140 u141 u142 u143 u144 u145 u146 u147 u148 u149 u150 u151 u152 u153 u154 u155 u156 u157 u158 u159 u160 u161 u162 u163 u164 u165 u166 u167 u168 u169 u170 u171 u172 u173 u174 u175 u176 u177 u178 u179 u180 u181 j vl hj hA hF HS hlt
  have hc := askO_cell at_ other wr pl hA.out j hlt
  have hj4 : (j : Int) < 4 := by omega
  have hji : (j : Int) < (i : Int) := by have := H4.out; omega
  have hji' : j < i := by omega
  obtain ⟨q, hq⟩ : ∃ q, askO at_ other j = q := ⟨_, rfl⟩
  rw [hq] at hc
  obtain ⟨⟨t2, ch2, el2, bl2, p2, er2⟩, hQ2⟩ : ∃ r, openR l q most = r := ⟨_, rfl⟩
  obtain ⟨⟨rT, rC, re, rb, rel, rbl⟩, hr⟩ : ∃ r, R[j]? = some r := ⟨_, List.getElem?_eq_getElem (by rw [HRl.out]; exact hji')⟩
  have his := HR.out j _ hr
  rw [hq, hQ2] at his
  obtain ⟨hT, hC, he, hb⟩ := his
  simp only [] at hT hC he hb
  subst hT hC he hb
  have hmem := List.mem_of_getElem? hr
  obtain ⟨o1, o2⟩ := HS.out.row1 (List.mem_append_left _ hmem)
  simp only [] at o1 o2
  obtain ⟨pe, qe, rfl, _⟩ := o1.bytes
  obtain ⟨pb, qb, rfl, _⟩ := o2.bytes
  obtain ⟨ne2, hne2⟩ : ∃ k, rel.length = k := ⟨_, rfl⟩
  obtain ⟨nb2, hnb2⟩ : ∃ k, rbl.length = k := ⟨_, rfl⟩
  rw [hne2] at o1 hr
  rw [hnb2] at o2 hr
  have hro := ropen_row wr a n c l q most (H1.out.below HS.out.bel) (by omega) t2 ch2 rel rbl p2 er2 hQ2
  have HRJ := Lib.hid hr
  have O1 := Lib.hid o1
  have O2 := Lib.hid o2
  clear hr o1 o2 hq hQ2 hmem hne2 hnb2
  go_wp2_with fail
  refine hro.mono ?_
  rintro e w2 ⟨ea', ne', ce', ba', nb', cb', rfl, hb2, i1, i2⟩
  clear hro hc
  go_upto_region 29 with fail
  have hal : Below w2.heap.size w2 (w2.alloc (.cells #[.int .i64 t2, .int .i64 ch2, .slice ea' ne' ce', .slice ba' nb' cb'] 24)) := (Below.refl _ _).alloc (Nat.le_refl _) _
  have f5 : (w2.alloc (.cells #[.int .i64 t2, .int .i64 ch2, .slice ea' ne' ce', .slice ba' nb' cb'] 24)).heap[w2.heap.size]? = some (.cells #[.int .i64 t2, .int .i64 ch2, .slice ea' ne' ce', .slice ba' nb' cb'] 24 (0, 0)) := heap_alloc_new _ _
  have hb5 := hb2.trans (hal.mono hb2.size)
  have i15 := i1.below hal
  have i25 := i2.below hal
  generalize (w2.alloc (.cells #[.int .i64 t2, .int .i64 ch2, .slice ea' ne' ce', .slice ba' nb' cb'] 24)) = w5 at *
  obtain ⟨x2, hx2⟩ : ∃ x, w2.heap.size = x := ⟨_, rfl⟩
  rw [hx2] at f5 ⊢
  clear hx2 hal hb2 i1 i2
  have hS5 := HS.out.below hb5
  have y0 := hS5.frame HRl.out j _ HRJ.out 0 _ rfl
  have y1 := hS5.frame HRl.out j _ HRJ.out 1 _ rfl
  have y2 := hS5.frame HRl.out j _ HRJ.out 2 _ rfl
  have y3 := hS5.frame HRl.out j _ HRJ.out 3 _ rfl
  rw [Nat.add_zero] at y0
  have g0 : w5.cell? ⟨x2, 0, none⟩ = some (.int .i64 t2) := by simp [World.cell?, f5]
  have g1 : w5.cell? ⟨x2, 1, none⟩ = some (.int .i64 ch2) := by simp [World.cell?, f5]
  have g2 : w5.cell? ⟨x2, 2, none⟩ = some (.slice ea' ne' ce') := by simp [World.cell?, f5]
  have g3 : w5.cell? ⟨x2, 3, none⟩ = some (.slice ba' nb' cb') := by simp [World.cell?, f5]
  have HS5 := Lib.hid hS5
  have HB5 := Lib.hid hb5
  clear hS5 f5
  go_still_tail 5, (by kernel_rfl)
  change wpList _ _ _ _ _ w5.drew
  have hbd : Below w5.heap.size w5 w5.drew := ⟨rfl, rfl, rfl, Nat.le_refl _, fun _ _ => rfl⟩
  have hsm := same_frames w5.drew t2 ch2 pe pb ea' ba' ne2 qe nb2 qb ne' ce' nb' cb' rel rbl ((O1.out.of_below hb5).of_below hbd).slice.2 ((O2.out.of_below hb5).of_below hbd).slice.2 (i15.below hbd) (i25.below hbd)
  have hbd2 := hb5.trans (hbd.mono hb5.size)
  generalize w5.drew = wd at *
  clear y0 y1 y2 y3 g0 g1 g2 g3 i15 i25 hb5 HS5 HB5 hbd
  go_wp2_with fail
  refine hsm.mono ?_
  rintro e w6 ⟨rfl, hb6⟩
  have hb6' := hbd2.trans (hb6.mono hbd2.size)
  have hS6 := HS.out.below hb6'
  have y2 := hS6.frame HRl.out j _ HRJ.out 2 _ rfl
  have y3 := hS6.frame HRl.out j _ HRJ.out 3 _ rfl
  have hbc := hS6.book.cell
  have HS6 := Lib.hid hS6
  have HA6 := Lib.hid ((hb6'.block pl (Array.getElem?_eq_some_iff.1 hA.out).1).trans hA.out)
  have HF6 := Lib.hid ((hb6'.block x1 (Array.getElem?_eq_some_iff.1 hF.out).1).trans hF.out)
  clear hsm hb6 hbd2 hb6' hS6 HS hA hF
  go_upto_region 32 with fail
  have hbd : Below w6.heap.size w6 w6.drew := ⟨rfl, rfl, rfl, Nat.le_refl _, fun _ _ => rfl⟩
  have hS7 := HS6.out.below hbd
  have HA7 := Lib.hid ((hbd.block pl (Array.getElem?_eq_some_iff.1 HA6.out).1).trans HA6.out)
  have HF7 := Lib.hid ((hbd.block x1 (Array.getElem?_eq_some_iff.1 HF6.out).1).trans HF6.out)
  have hbr := hS7.book.row
  have hsz := hS7.size
  have hlen : (List.take (2 * j) (valsOf (R ++ [(⟨t, ch, .slice ea ne ce, .slice ba nb cb, el, bl⟩ : OutF)]))).length = 2 * j := by
    rw [List.length_take, valsOf_length, List.length_append, HRl.out, List.length_singleton]; omega
  rw [hlen] at hbr
  have HLEN := Lib.hid hlen
  have HS7 := Lib.hid hS7
  have HBR := Lib.hid hbr
  have HSZ := Lib.hid hsz
  clear hbd hS7 hlen hbr hsz
  have h63 : 2 * j + 2 ≤ maxLen := by unfold maxLen; omega
  have hbytes : (2 * j + 2) * 24 ≤ 140737488355328 := by omega
  have hca : (w6.alloc (.cells #[.slice pe ne2 qe, .slice pb nb2 qb] 22)).cell? ⟨pl + 1, 0, none⟩ = some vl :=
    (((Below.refl w6.heap.size w6).alloc (Nat.le_refl _) _).cell (p := ⟨pl + 1, 0, none⟩) HS6.out.book.lt).trans hbc
  go_region_law (first
    | (refine step_append_two rfl (.tmp 167) (.tmp 178) 29 rfl (pl + 2) 22 (.slice none 0 0) 24 Try.underlying29 info_row5 rfl vl (2 * j) _ (.slice pe ne2 qe) (.slice pb nb2 qb) rfl rfl (by simp [Act.eval]) (by simp [Act.eval]) HBR.out h63 hbytes HSZ.out ?_
       intro vl' w8 hr8 hg8
       obtain ⟨gg, cg, hvv, _, _⟩ := hr8.form (by omega)
       subst hvv
       have hbk := HS7.out.book
       have hh8 : w8.heap[pl + 1]? = some (.cells #[vl] 31 (0, 0)) := (hg8.block _ hbk.lt (row_not_block5 hbk.row hbk.at_ (by decide))).trans hbk.at_
       have hc8 : w8.cell? ⟨pl + 1, 0, none⟩ = some vl := by simp [World.cell?, hh8]
       have hf8 : w8.frozen? ⟨pl + 1, 0, none⟩ = false := by simp [World.frozen?, hh8]))
  all_goals
    have hput := HS7.out.putBook (valsOf_take _ j _ (by rw [List.getElem?_append_left (by rw [HRl.out]; exact hji')]; exact HRJ.out)) (by rw [HLEN.out]; exact hr8) hg8
    have hA8 := (heap_setCell_other w8 ⟨pl + 1, 0, none⟩ pl (.slice (some ⟨gg, 0, none⟩) (2 * j + 2) cg) (by show pl ≠ pl + 1; omega)).trans ((hg8.block pl (Array.getElem?_eq_some_iff.1 HA7.out).1 (row_not_block5 hbk.row HA7.out (by decide))).trans HA7.out)
    have hx1l := HX1.out
    have hF8 := (heap_setCell_other w8 ⟨pl + 1, 0, none⟩ x1 (.slice (some ⟨gg, 0, none⟩) (2 * j + 2) cg) (by show x1 ≠ pl + 1; omega)).trans ((hg8.block x1 (Array.getElem?_eq_some_iff.1 HF7.out).1 (row_not_block5 hbk.row HF7.out (by decide))).trans HF7.out)
    have HPUT := Lib.hid hput
    have HA8 := Lib.hid hA8
    have HF8 := Lib.hid hF8
    clear hput hA8 hF8 hr8 hg8 hh8 hbk hx1l HS7 HA7 HF7
    go_wp2_with fail
    go_roundw
    case rel => exact ⟨j + 1, _, by omega, by go_num, HPUT.out, HA8, HF8⟩
    case measure => simp [intOf]; omega
end Go.Proofs.Ytofdpccjpodbhaa
