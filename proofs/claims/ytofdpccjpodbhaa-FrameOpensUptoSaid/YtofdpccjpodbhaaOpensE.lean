/-
  FrameOpens' walk, its end.
-/
import Derived.Test.YtofdpccjpodbhaaOpensC
import Derived.BigRegion
import Derived.Deep.RegionLaw
namespace Go.Proofs.Ytofdpccjpodbhaa
open Go.RowKit
set_option linter.unusedVariables false

theorem openR_le (l : List UInt8) (at_ most : Int) : (openR l at_ most).2.2.1.length ≤ l.length ∧ (openR l at_ most).2.2.2.1.length ≤ l.length := by
  unfold openR
  repeat' (first | split | dsimp only)
  all_goals first
    | exact ⟨Nat.zero_le _, Nat.zero_le _⟩
    | (simp only [List.length_take, List.length_drop]; omega)

theorem rowsOf_le {R : List OutF} {b : Nat} (h : ∀ r ∈ R, r.el.length ≤ b ∧ r.bl.length ≤ b) : ∀ u ∈ rowsOf R, u.2.length ≤ b := fun u hu => by
  obtain ⟨r, hr, hu⟩ := List.mem_flatMap.1 hu
  simp only [OutF.two, List.mem_cons, List.not_mem_nil, or_false] at hu
  rcases hu with rfl | rfl
  · exact (h r hr).1
  · exact (h r hr).2

set_option maxHeartbeats 8000000 in
set_option maxRecDepth 20000 in
theorem opensE (w : World) (a : Option Addr) (n c : Nat) (l : List UInt8) (at_ most other : Int) (hz : n ≤ 1048576) :
    (opensC w a n c l at_ most other hz).2.1 := by
  intro hle hcap Z1 w1 H1 HB1 wL g cap L hg hLc HLl HTK HDR hLm' HLm Z2 wA pl hgl Y1 Y2 u15 u16 u17 u18 u19 u20 u21 u48 u49 u50 u51 u52 u53 u54 u55 u56 u57 u58 u59 u60 u61 u62 u63 u64 u65 u66 u67 u68 u69 u70 u71 u72 u73 u74 u75 u76 u77 u78 u79 u80 u81 u82 u83 u84 u85 u86 u87 u88 u89 u90 u91 u92 u93 u94 i R hi HRl HR H4 cf hnf hcf gf hgf1 hgf2 Y3 Y4 Y5 hi4 wE pt ct HTL wF t ch el bl p er HlF HtF HQ w2 ea ne ce ba nb cb w3 x1 HX1 w4 ea' ne' ce' ba' nb' cb' w5 x2 w6 HG6 wI Y6 Y7 wr u8 u32 u33 u34 u35 u138 u139 u140 u141 u142 u143 u144 u145 u146 u147 u148 u149 u150 u151 u152 u153 u154 u155 u156 u157 u158 u159 u160 u161 u162 u163 u164 u165 u166 u167 u168 u169 u170 u171 u172 u173 u174 u175 u176 u177 u178 u179 u180 u181 j vl hj hA hF HS hlt
  have HJ : Hid (j = 4) := Lib.hid (by omega)
  have hji : ¬ (j : Int) < (i : Int) := by have := H4.out; omega
  go_upto_region 33 with fail
  have f0 : wr.cell? ⟨x1, 2, none⟩ = some (.slice ea ne ce) := by simp [World.cell?, hF.out]
  have f1 : wr.cell? ⟨x1, 3, none⟩ = some (.slice ba nb cb) := by simp [World.cell?, hF.out]
  have hbc := HS.out.book.cell
  have hbd : Below wr.heap.size wr wr.drew := ⟨rfl, rfl, rfl, Nat.le_refl _, fun _ _ => rfl⟩
  have hS7 := HS.out.below hbd
  have hbr := hS7.book.row
  have hsz := hS7.size
  have hlen : (List.take (2 * j) (valsOf (R ++ [(⟨t, ch, .slice ea ne ce, .slice ba nb cb, el, bl⟩ : OutF)]))).length = 2 * j := by
    rw [List.length_take, valsOf_length, List.length_append, HRl.out, List.length_singleton]; omega
  rw [hlen] at hbr
  have HLEN := Lib.hid hlen
  have HS7 := Lib.hid hS7
  have HBR := Lib.hid hbr
  have HSZ := Lib.hid hsz
  clear hbd hS7 hlen hbr hsz
  have h63 : 2 * j + 2 ≤ maxLen := by unfold maxLen; omega
  have hbytes : (2 * j + 2) * 24 ≤ 140737488355328 := by omega
  have hca : (wr.alloc (.cells #[.slice ea ne ce, .slice ba nb cb] 22)).cell? ⟨pl + 1, 0, none⟩ = some vl :=
    (((Below.refl wr.heap.size wr).alloc (Nat.le_refl _) _).cell (p := ⟨pl + 1, 0, none⟩) HS.out.book.lt).trans hbc
  have h5 : (R ++ [(⟨t, ch, .slice ea ne ce, .slice ba nb cb, el, bl⟩ : OutF)])[j]? = some ⟨t, ch, .slice ea ne ce, .slice ba nb cb, el, bl⟩ := by
    have : j = R.length := by rw [HRl.out, HJ.out, H4.out]
    rw [this]
    simp
  have htk : List.take (2 * j + 2) (valsOf (R ++ [(⟨t, ch, .slice ea ne ce, .slice ba nb cb, el, bl⟩ : OutF)])) = valsOf (R ++ [(⟨t, ch, .slice ea ne ce, .slice ba nb cb, el, bl⟩ : OutF)]) := List.take_of_length_le (by
    rw [valsOf_length, List.length_append, HRl.out, HJ.out, H4.out, List.length_singleton]; exact Nat.le_refl _)
  have hrl : ∀ r ∈ (R ++ [(⟨t, ch, .slice ea ne ce, .slice ba nb cb, el, bl⟩ : OutF)]), r.el.length ≤ 1048576 ∧ r.bl.length ≤ 1048576 := fun r hr => by
    rcases List.mem_append.1 hr with hr | hr
    · obtain ⟨k, hk, rfl⟩ := List.mem_iff_getElem.1 hr
      have his := HR.out k _ (List.getElem?_eq_getElem hk)
      have h1 := openR_le l (askO at_ other k) most
      have hl := H1.out.len
      rw [his.2.2.1, his.2.2.2]
      exact ⟨by omega, by omega⟩
    · obtain rfl : r = _ := List.mem_singleton.1 hr
      have h1 := openR_le (turnB l) at_ most
      have hl := HTL.out
      rw [HQ.out] at h1
      simp only [] at h1 ⊢
      exact ⟨by omega, by omega⟩
  have hvl : (valsOf (R ++ [(⟨t, ch, .slice ea ne ce, .slice ba nb cb, el, bl⟩ : OutF)])).length ≤ 1000000 := by
    rw [valsOf_length, List.length_append, HRl.out, List.length_singleton]; omega
  have H5 := Lib.hid h5
  have HTK5 := Lib.hid htk
  have HRL := Lib.hid (rowsOf_le hrl)
  have HVL := Lib.hid hvl
  have HDS := Lib.hid (dist_of_pairwise HS7.out.dist)
  clear h5 htk hrl hvl
  go_region_law (first
    | (refine step_append_two rfl (.tmp 186) (.tmp 191) 29 rfl (pl + 2) 22 (.slice none 0 0) 24 Try.underlying29 info_row5 rfl vl (2 * j) _ (.slice ea ne ce) (.slice ba nb cb) rfl rfl (by simp [Act.eval]) (by simp [Act.eval]) HBR.out h63 hbytes HSZ.out ?_
       intro vl' w8 hr8 hg8
       obtain ⟨gg, cg, hvv, _, _⟩ := hr8.form (by omega)
       subst hvv
       have hbk := HS7.out.book
       have hh8 : w8.heap[pl + 1]? = some (.cells #[vl] 31 (0, 0)) := (hg8.block _ hbk.lt (row_not_block5 hbk.row hbk.at_ (by decide))).trans hbk.at_
       have hc8 : w8.cell? ⟨pl + 1, 0, none⟩ = some vl := by simp [World.cell?, hh8]
       have hf8 : w8.frozen? ⟨pl + 1, 0, none⟩ = false := by simp [World.frozen?, hh8]))
  all_goals
    have hput := HS7.out.putBook (valsOf_take _ j _ H5.out) (by rw [HLEN.out]; exact hr8) hg8
    have hbook := hput.book
    rw [HTK5.out] at hbook
    have hown := owned5_any _ (pl + 2) (pl + 1) _ (valsOf (R ++ [(⟨t, ch, .slice ea ne ce, .slice ba nb cb, el, bl⟩ : OutF)])) (fun k => ((rowsOf (R ++ [(⟨t, ch, .slice ea ne ce, .slice ba nb cb, el, bl⟩ : OutF)])).getD k default).2.length) hbook hput.size HDS.out (fun k hk => by
      have hk2 : k < (rowsOf (R ++ [(⟨t, ch, .slice ea ne ce, .slice ba nb cb, el, bl⟩ : OutF)])).length := by unfold valsOf at hk; rw [List.length_map] at hk; exact hk
      refine ⟨_, rfl, .inl ?_⟩
      have e1 : (valsOf (R ++ [(⟨t, ch, .slice ea ne ce, .slice ba nb cb, el, bl⟩ : OutF)])).getD k default = ((rowsOf (R ++ [(⟨t, ch, .slice ea ne ce, .slice ba nb cb, el, bl⟩ : OutF)])).getD k default).1 := by
        unfold valsOf
        simp [List.getD_eq_getElem?_getD, List.getElem?_map, List.getElem?_eq_getElem hk2]
      rw [e1]
      exact hput.rows _ (by rw [List.getD_eq_getElem?_getD, List.getElem?_eq_getElem hk2]; exact List.getElem_mem hk2)) HVL.out (fun k => by
      by_cases hk2 : k < (rowsOf (R ++ [(⟨t, ch, .slice ea ne ce, .slice ba nb cb, el, bl⟩ : OutF)])).length
      · have := HRL.out _ (List.getElem_mem hk2)
        rw [List.getD_eq_getElem?_getD, List.getElem?_eq_getElem hk2]
        exact Nat.le_trans this (by decide)
      · rw [List.getD_eq_getElem?_getD, List.getElem?_eq_none (by omega)]
        exact Nat.zero_le _)
    have HPUT := Lib.hid hput
    clear hput hbook hr8 hg8 hh8 hbk
    go_wp2_with fail
    refine hown.mono ?_
    rintro e wJ ⟨rfl, hO⟩
    have hfin : Below w.heap.size w wJ := by
      have h2 := HB1.out.size
      have b1 := HB1.out.trans (HPUT.out.bel.mono h2)
      refine b1.trans (hO.below b1.size (fun v hv k hk => ?_))
      obtain ⟨u, hu, rfl⟩ := List.mem_map.1 hv
      have h1 := ((HPUT.out.rows u hu).row.lt k hk).1
      omega
    have HFIN := Lib.hid hfin
    clear hown hO hfin
    go_wp2_with fail
    go_ret
    exact ⟨rfl, HFIN.out⟩
end Go.Proofs.Ytofdpccjpodbhaa
