/-
  FrameOpens' walk, the round of its first loop.
-/
import Derived.Test.YtofdpccjpodbhaaOpensA
namespace Go.Proofs.Ytofdpccjpodbhaa
open Go.RowKit
set_option linter.unusedVariables false

theorem askO_cell (at_ other : Int) (wr : World) (pl : Nat) (hh : wr.heap[pl]? = some (.cells #[.int .i64 at_, .int .i64 other, .int .i64 at_, .int .i64 at_] 3 (0, 0))) (i : Nat) (hi : i < 4) : wr.cell? ⟨pl, i, none⟩ = some (.int .i64 (askO at_ other i)) := by
  match i, hi with
  | 0, _ => simp [World.cell?, hh, askO]
  | 1, _ => simp [World.cell?, hh, askO]
  | 2, _ => simp [World.cell?, hh, askO]
  | 3, _ => simp [World.cell?, hh, askO]

set_option maxHeartbeats 8000000 in
set_option maxRecDepth 20000 in
theorem opensB (w : World) (a : Option Addr) (n c : Nat) (l : List UInt8) (at_ most other : Int) (hz : n ≤ 1048576) :
    (opensA w a n c l at_ most other hz).1 := by
  intro hle hcap Z1 w1 H1 HB1 wL g cap L hg hLc HLl HTK HDR hLm' HLm Z2 Z3 wA pl hgl wr u8 u12 u15 u16 u17 u18 u19 u20 u21 u48 u49 u50 u51 u52 u53 u54 u55 u56 u57 u58 u59 u60 u61 u62 u63 u64 u65 u66 u67 u68 u69 u70 u71 u72 u73 u74 u75 u76 u77 u78 u79 u80 u81 u82 u83 u84 u85 u86 u87 u88 u89 u90 u91 u92 u93 u94 i R hi hLe hA HRl HS HR hlt
  have hc := askO_cell at_ other wr pl hA.out i hlt
  have hi4 : (i : Int) < 4 := by omega
  obtain ⟨q, hq⟩ : ∃ q, askO at_ other i = q := ⟨_, rfl⟩
  rw [hq] at hc
  obtain ⟨⟨t, ch, el, bl, p, er⟩, hQ⟩ : ∃ r, openR l q most = r := ⟨_, rfl⟩
  have hx := hLe.out.bytes 0 n cap (by have := HLl.out; omega) (by omega) HLm.out
  rw [List.drop_zero, HTK.out] at hx
  have ho := open_row wr _ n cap l q most hx (by omega) t ch el bl p er hQ
  have HQ := Lib.hid hQ
  have HQ2 := Lib.hid hq
  clear hq hQ hx
  go_wp2_with fail
  refine ho.mono ?_
  rintro e w2 ⟨ea, ne, ce, ba, nb, cb, rfl, hb2, o1, o2, hap⟩
  clear ho hc
  go_upto_region 12 with fail
  have hal : Below w2.heap.size w2 (w2.alloc (.cells #[.int .i64 t, .int .i64 ch, .slice ea ne ce, .slice ba nb cb] 24)) := (Below.refl _ _).alloc (Nat.le_refl _) _
  have f3 : (w2.alloc (.cells #[.int .i64 t, .int .i64 ch, .slice ea ne ce, .slice ba nb cb] 24)).heap[w2.heap.size]? = some (.cells #[.int .i64 t, .int .i64 ch, .slice ea ne ce, .slice ba nb cb] 24 (0, 0)) := heap_alloc_new _ _
  have hb3 := hb2.trans (hal.mono hb2.size)
  have o13 := o1.of_below hal
  have o23 := o2.of_below hal
  generalize (w2.alloc (.cells #[.int .i64 t, .int .i64 ch, .slice ea ne ce, .slice ba nb cb] 24)) = w3 at *
  obtain ⟨x1, hx1⟩ : ∃ x, w2.heap.size = x := ⟨_, rfl⟩
  rw [hx1] at f3 ⊢
  clear hx1 hal hb2 o1 o2
  have hc3 := askO_cell at_ other w3 pl ((hb3.block pl (Array.getElem?_eq_some_iff.1 hA.out).1).trans hA.out) i hlt
  rw [HQ2.out] at hc3
  have hbs := HS.out.bel.size
  have hro := ropen_row w3 a n c l q most (H1.out.below (HS.out.bel.trans (hb3.mono hbs))) (by omega) t ch el bl p er HQ.out
  have HB3 := Lib.hid hb3
  have F3 := Lib.hid f3
  have O13 := Lib.hid o13
  have O23 := Lib.hid o23
  clear hb3 f3 o13 o23 hbs
  go_wp2_with fail
  refine hro.mono ?_
  rintro e w4 ⟨ea', ne', ce', ba', nb', cb', rfl, hb4, i1, i2⟩
  clear hro hc3
  go_upto_region 13 with fail
  have hal : Below w4.heap.size w4 (w4.alloc (.cells #[.int .i64 t, .int .i64 ch, .slice ea' ne' ce', .slice ba' nb' cb'] 24)) := (Below.refl _ _).alloc (Nat.le_refl _) _
  have f5 : (w4.alloc (.cells #[.int .i64 t, .int .i64 ch, .slice ea' ne' ce', .slice ba' nb' cb'] 24)).heap[w4.heap.size]? = some (.cells #[.int .i64 t, .int .i64 ch, .slice ea' ne' ce', .slice ba' nb' cb'] 24 (0, 0)) := heap_alloc_new _ _
  have hb5 := hb4.trans (hal.mono hb4.size)
  have i15 := i1.below hal
  have i25 := i2.below hal
  generalize (w4.alloc (.cells #[.int .i64 t, .int .i64 ch, .slice ea' ne' ce', .slice ba' nb' cb'] 24)) = w5 at *
  obtain ⟨x2, hx2⟩ : ∃ x, w4.heap.size = x := ⟨_, rfl⟩
  rw [hx2] at f5 ⊢
  clear hx2 hal hb4 i1 i2
  have f35 := (hb5.block x1 (Array.getElem?_eq_some_iff.1 F3.out).1).trans F3.out
  have d0 : w5.cell? ⟨x1, 0, none⟩ = some (.int .i64 t) := by simp [World.cell?, f35]
  have d1 : w5.cell? ⟨x1, 1, none⟩ = some (.int .i64 ch) := by simp [World.cell?, f35]
  have d2 : w5.cell? ⟨x1, 2, none⟩ = some (.slice ea ne ce) := by simp [World.cell?, f35]
  have d3 : w5.cell? ⟨x1, 3, none⟩ = some (.slice ba nb cb) := by simp [World.cell?, f35]
  have g0 : w5.cell? ⟨x2, 0, none⟩ = some (.int .i64 t) := by simp [World.cell?, f5]
  have g1 : w5.cell? ⟨x2, 1, none⟩ = some (.int .i64 ch) := by simp [World.cell?, f5]
  have g2 : w5.cell? ⟨x2, 2, none⟩ = some (.slice ea' ne' ce') := by simp [World.cell?, f5]
  have g3 : w5.cell? ⟨x2, 3, none⟩ = some (.slice ba' nb' cb') := by simp [World.cell?, f5]
  have o15 := O13.out.of_below hb5
  have o25 := O23.out.of_below hb5
  have hsm := same_frames w5 t ch ea ba ea' ba' ne ce nb cb ne' ce' nb' cb' el bl o15.slice.2 o25.slice.2 i15 i25
  have HB5 := Lib.hid (HB3.out.trans (hb5.mono HB3.out.size))
  have F35 := Lib.hid f35
  have O15 := Lib.hid o15
  have O25 := Lib.hid o25
  clear f5 f35 o15 o25 i15 i25 hb5 F3 O13 O23 HB3
  go_wp2_with fail
  refine hsm.mono ?_
  rintro e w6 ⟨rfl, hb6⟩
  have f6 := (hb6.block x1 (Array.getElem?_eq_some_iff.1 F35.out).1).trans F35.out
  have HB6 := Lib.hid (HB5.out.trans (hb6.mono HB5.out.size))
  have O16 := Lib.hid (O15.out.of_below hb6)
  have O26 := Lib.hid (O25.out.of_below hb6)
  clear hsm d0 d1 d2 d3 g0 g1 g2 g3 hb6 F35 HB5 O15 O25
  have d0 : w6.cell? ⟨x1, 0, none⟩ = some (.int .i64 t) := by simp [World.cell?, f6]
  have d1 : w6.cell? ⟨x1, 1, none⟩ = some (.int .i64 ch) := by simp [World.cell?, f6]
  have d2 : w6.cell? ⟨x1, 2, none⟩ = some (.slice ea ne ce) := by simp [World.cell?, f6]
  have d3 : w6.cell? ⟨x1, 3, none⟩ = some (.slice ba nb cb) := by simp [World.cell?, f6]
  have hr6 := (HS.out.below HB6.out).row
  have hs6 := (HS.out.below HB6.out).size
  have hRl := HRl.out
  clear f6
  go_upto_region 16 with fail
  go_wp2_with (at_builtin; refine wpList_append_struct rfl (.tmp 91) (.tmp 93) 27 rfl (pl + 2) 24 (.agg #[.int .i64 0, .int .i64 0, .slice none 0 0, .slice none 0 0]) 4 64 Try.underlying27 info_frame5 rfl (by decide) _ _ _ [.int .i64 t, .int .i64 ch, .slice ea ne ce, .slice ba nb cb] rfl ?hcells rfl rfl hr6 ?h63 ?hbytes hs6 ?_)
  case hcells => intro u hu; simp at hu; rcases hu with rfl | rfl | rfl | rfl <;> rfl
  case h63 => unfold maxLen; omega
  case hbytes => omega
  intro vf' w7 hr7 hg7
  have hput := HS.out.putFrame (r := ⟨t, ch, .slice ea ne ce, .slice ba nb cb, el, bl⟩) HB6.out O16.out O26.out hap (by rw [hRl]; exact hr7) hg7
  have hne1 : some g ≠ (u12 : Value).ownBlock := by
    intro he
    have := (hr6.lt g he.symm).1
    omega
  have hne2 : some pl ≠ (u12 : Value).ownBlock := by
    intro he
    have := (hr6.lt pl he.symm).1
    omega
  have hL7 := hLe.out.of_block ((hg7.block g (Nat.lt_of_lt_of_le hLe.out.lt HB6.out.size) hne1).trans (HB6.out.block g hLe.out.lt))
  have hpl1 := (Array.getElem?_eq_some_iff.1 hA.out).1
  have hA7 := ((hg7.block pl (Nat.lt_of_lt_of_le hpl1 HB6.out.size) hne2).trans (HB6.out.block pl hpl1)).trans hA.out
  have hR7 : ∀ (j : Nat) (r : OutF), (R ++ [(⟨t, ch, .slice ea ne ce, .slice ba nb cb, el, bl⟩ : OutF)])[j]? = some r → r.is (openR l (askO at_ other j) most) := fun j r hj => by
    by_cases hjl : j < R.length
    · rw [List.getElem?_append_left hjl] at hj
      exact HR.out j r hj
    · have hj2 := (List.getElem?_eq_some_iff.1 hj).1
      rw [List.length_append, List.length_singleton] at hj2
      obtain rfl : j = R.length := by omega
      simp only [List.getElem?_concat_length, Option.some.injEq] at hj
      subst hj
      rw [hRl, HQ2.out, HQ.out]
      exact ⟨rfl, rfl, rfl, rfl⟩
  have HPUT := Lib.hid hput
  have HL7 := Lib.hid hL7
  have HA7 := Lib.hid hA7
  have HR7 := Lib.hid hR7
  clear hput hL7 hA7 hR7 hr7 hg7 hr6 hap hne1 hne2 hpl1 d0 d1 d2 d3
  go_wp2_with fail
  go_roundw
  case rel => exact ⟨i + 1, _, by omega, by go_num, by rw [List.length_append, HRl.out]; rfl, HPUT.out, HR7.out, HL7, HA7⟩
  case measure => simp [intOf]; omega
end Go.Proofs.Ytofdpccjpodbhaa
