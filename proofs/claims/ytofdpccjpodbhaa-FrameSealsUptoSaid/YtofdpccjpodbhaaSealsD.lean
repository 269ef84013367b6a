/-
  FrameSeals' walk: the round of its first loop.
-/
import Derived.Test.YtofdpccjpodbhaaSealsC
import Derived.Deep.DeepCutAuto
namespace Go.Proofs.Ytofdpccjpodbhaa
open Go.RowKit
set_option linter.unusedVariables false

theorem askS_other {f g t : FrIn} {i : Nat} (hi : i < 4) (h1 : i ≠ 1) : askS f g t i = f := by
  match i, hi, h1 with
  | 0, _, _ => rfl
  | 1, _, h => exact absurd rfl h
  | 2, _, _ => rfl
  | 3, _, _ => rfl

set_option maxHeartbeats 8000000 in
set_option maxRecDepth 20000 in
theorem sealsD (w : World) (T C : Int) (ea : Option Addr) (ne ce : Nat) (ext : List UInt8) (ba : Option Addr) (nb cb : Nat) (body : List UInt8) (T' C' : Int) (ea' : Option Addr) (ne' ce' : Nat) (ext' : List UInt8) (ba' : Option Addr) (nb' cb' : Nat) (body' : List UInt8) (z1 : ne ≤ 1048576) (z2 : nb ≤ 1048576) (y1 : ne' ≤ 1048576) (y2 : nb' ≤ 1048576) :
    (sealsC w T C ea ne ce ext ba nb cb body T' C' ea' ne' ce' ext' ba' nb' cb' body' z1 z2 y1 y2).1 := by
  intro wA FA' GA' HBA w1 HP1 HB1 HF1 HG1 X1 X2 X3 X4 Y1 Y2 Y3 Y4 Y5 Y6 Y7 Y8 Y9 Y10 Y11 Y12 Y13 Y14 Y15 Y16 Y17 Y18 Y19 Y20 Y21 Y22 Y23 Y24 Y25 Y26 Y27 Y28 Y29 Y30 Y31 Y32 Y33 Y34 Y35 Y36 Y37 Y38 Y39 Y40 Y41 Y42 Y43 Y44 Y45 Y46 Y47 Y48 Y49 Y50 Y51 Y52 Y53 Y54 Y55 Y56 Y57 Y58 Y59 Y60 Y61 Y62 Y63 Y64 Y65 Y66 Y67 Y68 Y69 Y70 Y71 Y72 Y73 Y74 Y75 Y76 Y77 Y78 Y79 Y80 Y81 Y82 Y83 Y84 Y85 Y86 Y87 Y88 Y89 Y90 Y91 Y92 Y93 Y94 Y95 Y96 Y97 Y98 Y99 Y100 Y101 Y102 Y103 Y104 Y105 Y106 Y107 Y108 Y109 Y110 Y111 Y112 Y113 Y114 Y115 Y116 Y117 Y118 Y119 Y120 Y121 Y122 Y123 Y124 Y125 Y126 Y127 Y128 Y129 Y130 Y131 Y132 Y133 Y134 Y135 Y136 Y137 Y138 Y139 Y140 Y141 Y142 Y143 Y144 Y145 Y146 Y147 Y148 Y149 x6 g1 c1 g2 c2 hx6 hg1 hg2 hgg hx1 hx2 w2 HB2 Xq1 Xq2 Xq3 Xq4 Y150 u22 u23 u24 u25 u26 u27 u28 u29 u30 u31 u32 u33 u34 u35 u36 u37 u38 u39 u40 u41 u42 u43 u44 u45 u46 u47 u48 u49 u50 u51 u52 u53 Xq5 Xq6 Xq7 Xq8 Xq9 Xq10 Xq11 Xq12 Xq13 Xq14 Xq15 Xq16 Xq17 Xq18 Xq19 Xq20 Xq21 Xq22 Xq23 Xq24 Xq25 Xq26 Xq27 Xq28 Xq29 Xq30 Xq31 Xq32 Xq33 u83 u84 u85 u86 u87 u88 u89 u90 u91 u92 u93 u94 u95 u96 u97 u98 u99 u100 u101 u102 u103 u104 u105 u106 u107 u108 u109 u110 u111 u112 u113 u114 u115 u116 u117 u118 u119 u120 u121 u122 u123 u124 u125 u126 u127 u128 u129 u130 u131 u132 u133 u134 u135 u136 u137 u138 u139 u140 u141 u142 u143 u144 u145 u146 u147 u148 u149 u150 u151 u152 u153 u154 u155 u156 u157 u158 u159 u160 u161 u162 u163 u164 u165 u166 x7 p1 d1 p2 d2 hx7 w3 q0 q1 q2 q3 r0 r1 r2 r3 lw1 lw2 lw6 Xq34 Xq35 wE HXE HEE HBE HGE HX7E HT1E HT2E ab h13 l7 l2 l1 lG lE HSZ23 HT2L HT1L HAS wr u10 u12 u13 u14 u54 u55 u56 u57 u58 u59 u60 u61 u62 u63 u64 u65 u66 u67 u68 u69 u70 u71 u72 u73 u74 u75 u76 u77 u78 u79 u80 u81 u82 i vl vs hi hsm HVL HS HCD hlt
  have hi4 : (i : Int) < 4 := by omega
  have FX := HXE.out.of_block (hsm.out x6 (by omega) (by omega))
  have FG := HGE.out.of_block (hsm.out (w.heap.size + 1) (by omega) (by omega))
  have L1 := HEE.out.of_block (hsm.out g1 (by omega) (by omega))
  have L2 := HBE.out.of_block (hsm.out g2 (by omega) (by omega))
  have d0 := FX.c0
  have d1' := FX.c1
  have d2' := FX.c2
  have d3 := FX.c3
  have LL := Lib.hid (And.intro L1 L2)
  have FGG := Lib.hid FG
  clear FX FG L1 L2
  go_upto_if 62 with fail
  have hal : Below wr.heap.size wr (wr.alloc (.cells #[.int .i64 T, .int .i64 C, .slice (some ⟨g1, 0, none⟩) ne c1, .slice (some ⟨g2, 0, none⟩) nb c2] 24)) := (Below.refl _ _).alloc (Nat.le_refl _) _
  have fq : (wr.alloc (.cells #[.int .i64 T, .int .i64 C, .slice (some ⟨g1, 0, none⟩) ne c1, .slice (some ⟨g2, 0, none⟩) nb c2] 24)).heap[wr.heap.size]? = some (.cells #[.int .i64 T, .int .i64 C, .slice (some ⟨g1, 0, none⟩) ne c1, .slice (some ⟨g2, 0, none⟩) nb c2] 24 (0, 0)) := heap_alloc_new _ _
  have hqs : wr.heap.size < (wr.alloc (.cells #[.int .i64 T, .int .i64 C, .slice (some ⟨g1, 0, none⟩) ne c1, .slice (some ⟨g2, 0, none⟩) nb c2] 24)).heap.size := by simp
  generalize (wr.alloc (.cells #[.int .i64 T, .int .i64 C, .slice (some ⟨g1, 0, none⟩) ne c1, .slice (some ⟨g2, 0, none⟩) nb c2] 24)) = wq at *
  obtain ⟨q, hq⟩ : ∃ q, wr.heap.size = q := ⟨_, rfl⟩
  rw [hq] at fq hqs ⊢
  have HQ := Lib.hid hq
  clear d0 d1' d2' d3 hq
  go_cut [12] (fun s12 wx => ∃ (y : FrIn), s12 = .pointer (some ⟨q, 0, none⟩) ∧ Below wr.heap.size wr wx ∧ FrAt wx q y.T y.C (.slice y.ea y.ne y.ce) (.slice y.ba y.nb y.cb) ∧ y.ok wx ∧ y.out = (askS (⟨T, C, ea, ne, ce, ext, ba, nb, cb, body⟩ : FrIn) (⟨T', C', ea', ne', ce', ext', ba', nb', cb', body'⟩ : FrIn) (⟨T, C, p1, ne, d1, turnB ext, p2, nb, d2, turnB body⟩ : FrIn) i).out ∧ y.err = (askS (⟨T, C, ea, ne, ce, ext, ba, nb, cb, body⟩ : FrIn) (⟨T', C', ea', ne', ce', ext', ba', nb', cb', body'⟩ : FrIn) (⟨T, C, p1, ne, d1, turnB ext, p2, nb, d2, turnB body⟩ : FrIn) i).err)
  case first =>
    by_cases h1 : i = 1
    · have hb1 : ((i : Int) == 1) = true := by simp [h1]
      have H1' := Lib.hid h1
      have FG := FGG.out.below hal
      have d0 := FG.c0
      have d1' := FG.c1
      have d2' := FG.c2
      have d3 := FG.c3
      clear h1
      go_wp2_with (refine wpList_store_row rfl 24 (.tmp 12) _ rfl q _ rfl rfl 24 _ fq (by as_aux_lemma => kernel_rfl) (by as_aux_lemma => kernel_rfl) (by as_aux_lemma => kernel_rfl) ?_)
      have hh := setRow_heap wq q _ #[.int .i64 T', .int .i64 C', .slice ea' ne' ce', .slice ba' nb' cb'] _ _ fq
      have hB := below_setRow hal (show wr.heap.size ≤ q by rw [HQ.out]; exact Nat.le_refl _) #[.int .i64 T', .int .i64 C', .slice ea' ne' ce', .slice ba' nb' cb']
      generalize (wq.setRow q #[.int .i64 T', .int .i64 C', .slice ea' ne' ce', .slice ba' nb' cb']) = wz at *
      clear d0 d1' d2' d3 fq
      go_wp2_with fail
      go_meet
      case rel =>
        have hw1 := HS.out.bel
        refine ⟨(⟨T', C', ea', ne', ce', ext', ba', nb', cb', body'⟩ : FrIn), rfl, hB, FrAt.of_heap hh, ⟨(X3.out.below hw1).below hB, (X4.out.below hw1).below hB, y1, y2⟩, ?_, ?_⟩
        · rw [H1'.out]; rfl
        · rw [H1'.out]; rfl
    · have hb1 : ((i : Int) == 1) = false := by simp; omega
      have H1' := Lib.hid h1
      clear h1
      go_wp2_with fail
      go_meet
      case rel =>
        refine ⟨⟨T, C, some ⟨g1, 0, none⟩, ne, c1, ext, some ⟨g2, 0, none⟩, nb, c2, body⟩, rfl, hal, FrAt.of_heap fq, ⟨(LL.out.1.below hal).bytes, (LL.out.2.below hal).bytes, z1, z2⟩, ?_, ?_⟩
        · rw [askS_other hlt H1'.out]; rfl
        · rw [askS_other hlt H1'.out]; rfl
  case rest =>
    clear fq hal hqs LL FGG
    obtain ⟨⟨yT, yC, ya, yn, yc, ye, yb, ym, yd, yl⟩, rfl, hbx, hfx, hok, hout, herr⟩ := hcut
    have d0 := hfx.c0
    have d1' := hfx.c1
    have d2' := hfx.c2
    have d3 := hfx.c3
    simp only [] at d0 d1' d2' d3
    have hso := seal_any wc yT yC ya yb yn yc ym yd ye yl hok.e hok.b hok.el hok.bl
    have hout' : sealS yT yC ye yl = (askS (⟨T, C, ea, ne, ce, ext, ba, nb, cb, body⟩ : FrIn) (⟨T', C', ea', ne', ce', ext', ba', nb', cb', body'⟩ : FrIn) (⟨T, C, p1, ne, d1, turnB ext, p2, nb, d2, turnB body⟩ : FrIn) i).out := hout
    have herr' : sealE yT yC yn ym = (askS (⟨T, C, ea, ne, ce, ext, ba, nb, cb, body⟩ : FrIn) (⟨T', C', ea', ne', ce', ext', ba', nb', cb', body'⟩ : FrIn) (⟨T, C, p1, ne, d1, turnB ext, p2, nb, d2, turnB body⟩ : FrIn) i).err := herr
    rw [hout', herr'] at hso
    have HBX := Lib.hid hbx
    clear hfx hok hout herr hout' herr' hbx
    obtain ⟨er, her⟩ : ∃ er, (askS (⟨T, C, ea, ne, ce, ext, ba, nb, cb, body⟩ : FrIn) (⟨T', C', ea', ne', ce', ext', ba', nb', cb', body'⟩ : FrIn) (⟨T, C, p1, ne, d1, turnB ext, p2, nb, d2, turnB body⟩ : FrIn) i).err = er := ⟨_, rfl⟩
    rw [her] at hso
    have HER := Lib.hid her
    clear her
    go_wp2_with fail
    refine hso.mono ?_
    rintro e w2' ⟨p, k, cc, rfl, hb2, hrow⟩
    have hbr2 : Below wr.heap.size wr w2' := HBX.out.trans (hb2.mono HBX.out.size)
    have hS2 := HS.out.below hbr2
    have hbc := hS2.book.cell
    have hbr := hS2.book.row
    have hsz := hS2.size
    rw [HVL.out] at hbr
    have hrow2 : RowB w2' wr.heap.size (.slice p k cc) (askS (⟨T, C, ea, ne, ce, ext, ba, nb, cb, body⟩ : FrIn) (⟨T', C', ea', ne', ce', ext', ba', nb', cb', body'⟩ : FrIn) (⟨T, C, p1, ne, d1, turnB ext, p2, nb, d2, turnB body⟩ : FrIn) i).out := .inl ⟨row_mono5 hrow.row HBX.out.size⟩
    have HB2' := Lib.hid hbr2
    have HROW := Lib.hid hrow2
    have HBK := Lib.hid hS2.book
    have hc2 : w2'.ownsRow (ab + 2) 33 1 (u10 : Value) i (codeL (⟨T, C, ea, ne, ce, ext, ba, nb, cb, body⟩ : FrIn) (⟨T', C', ea', ne', ce', ext', ba', nb', cb', body'⟩ : FrIn) (⟨T, C, p1, ne, d1, turnB ext, p2, nb, d2, turnB body⟩ : FrIn) i) := HCD.out.kept (row := none) ⟨hbr2.os, hbr2.tape, hbr2.output, hbr2.size, fun k hk _ => hbr2.block k hk⟩ (off_row HCD.out (fun b hb => by simp at hb))
    have HC2 := Lib.hid hc2
    have HSM2 := Lib.hid (hsm.out.below HS.out.size hbr2)
    clear hso hb2 hrow hrow2 hbr2 hS2 hc2 d0 d1' d2' d3 HBX
    go_upto_region 16 with fail
    go_wp2_with (at_builtin; refine wpList_append_val rfl (.tmp 73) (.tmp 75) 29 rfl (ab + 2) 22 (.slice none 0 0) 24 Try.underlying29 info_row5 rfl vl i vs (.slice p k cc) rfl rfl rfl hbr ?h63 ?hbytes hsz ?_)
    case h63 => unfold maxLen; omega
    case hbytes => omega
    intro vl' w3' hr3 hg3 _ _
    obtain ⟨gg, cg, hvv, _, _⟩ := hr3.form (by omega)
    subst hvv
    have hh3 : w3'.heap[ab + 1]? = some (.cells #[vl] 31 (0, 0)) := (hg3.block _ HBK.out.lt (row_not_block5 HBK.out.row HBK.out.at_ (by decide))).trans HBK.out.at_
    have hc3 : w3'.cell? ⟨ab + 1, 0, none⟩ = some vl := by simp [World.cell?, hh3]
    have hf3 : w3'.frozen? ⟨ab + 1, 0, none⟩ = false := by simp [World.frozen?, hh3]
    have hr3' : w3'.ownsRow (ab + 2) 22 1 (.slice (some ⟨gg, 0, none⟩) (i + 1) cg) (vs.length + 1) (vs ++ [.slice p k cc]) := by rw [HVL.out]; exact hr3
    have hput := HS.out.put HB2'.out HROW.out hr3' hg3
    have hc33 := (HC2.out.kept hg3 (rows_apart HC2.out HBK.out.row (by decide))).kept (setCell_grown w3' (ab + 1) 0 (.slice (some ⟨gg, 0, none⟩) (i + 1) cg)) (off_row (HC2.out.kept hg3 (rows_apart HC2.out HBK.out.row (by decide))) (fun b hb => by simp only [Option.some.injEq] at hb; omega))
    have hsm3 := (HSM2.out.grown hsz hg3 (fun k hk => .inl (hbr.lt k hk).1)).setCell (j := 0) (v := .slice (some ⟨gg, 0, none⟩) (i + 1) cg) (Nat.le_trans hsz hg3.size)
    have hput2 : Shelf5 w1 (w3'.setCell ⟨ab + 1, 0, none⟩ (.slice (some ⟨gg, 0, none⟩) (i + 1) cg)) (ab + 1) (ab + 2) (.slice (some ⟨gg, 0, none⟩) (i + 1) cg) (vs ++ [.slice p k cc]) (fun j => (askS (⟨T, C, ea, ne, ce, ext, ba, nb, cb, body⟩ : FrIn) (⟨T', C', ea', ne', ce', ext', ba', nb', cb', body'⟩ : FrIn) (⟨T, C, p1, ne, d1, turnB ext, p2, nb, d2, turnB body⟩ : FrIn) j).out) := by
      refine ⟨hput.bel, hput.le1, hput.le2, hput.size, hput.book, fun j hj => ?_, hput.dist⟩
      have := hput.rows j hj
      by_cases hjl : j < vs.length
      · simp only [if_pos hjl] at this; exact this
      · simp only [if_neg hjl] at this
        have ej : j = i := by rw [List.length_append, List.length_singleton] at hj; have := HVL.out; omega
        rw [ej] at this ⊢
        exact this
    have hlen : (vs ++ [Value.slice p k cc]).length = i + 1 := by rw [List.length_append, HVL.out]; rfl
    have HLEN := Lib.hid hlen
    have HPUT := Lib.hid hput2
    have HC3 := Lib.hid hc33
    have HSM3 := Lib.hid hsm3
    clear hput hput2 hr3 hr3' hg3 hh3 hlen hc33 hsm3 hbr hbc HC2 HSM2 HBK
    go_upto_region 17 with fail
    generalize (w3'.setCell ⟨ab + 1, 0, none⟩ (.slice (some ⟨gg, 0, none⟩) (i + 1) cg)) = w4' at *
    have hcr := HC3.out
    have hsz4 := HPUT.out.size
    clear hc3 hf3
    go_wp2_with (at_builtin; refine wpList_append_val rfl (.tmp 79) (.tmp 81) 32 rfl (ab + 2) 33 (.int .i64 0) 8 Try.underlying32 info_errno5 rfl _ i _ (.int .i64 er) rfl rfl rfl hcr ?h63b ?hbytesb hsz4 ?_)
    case h63b => unfold maxLen; omega
    case hbytesb => omega
    intro vc' w5' hr5 hg5 _ _
    have hS5 := HPUT.out.other hcr hg5 ⟨by decide, by decide, by decide, by decide⟩
    have hsm5 := HSM3.out.grown hsz4 hg5 (fun k hk => .inl (hcr.lt k hk).1)
    have hcd5 : w5'.ownsRow (ab + 2) 33 1 vc' (i + 1) (codeL (⟨T, C, ea, ne, ce, ext, ba, nb, cb, body⟩ : FrIn) (⟨T', C', ea', ne', ce', ext', ba', nb', cb', body'⟩ : FrIn) (⟨T, C, p1, ne, d1, turnB ext, p2, nb, d2, turnB body⟩ : FrIn) (i + 1)) := by rw [codeL_snoc, HER.out]; exact hr5
    have HS5 := Lib.hid hS5
    have HSM5 := Lib.hid hsm5
    have HCD5 := Lib.hid hcd5
    clear hS5 hsm5 hcd5 hr5 hg5 hcr HPUT HC3 HSM3
    go_wp2_with fail
    go_roundw
    case rel => exact ⟨i + 1, _, _, by omega, by go_num, HLEN.out, HS5.out, HCD5.out, HSM5⟩
    case measure => simp [intOf]; omega
end Go.Proofs.Ytofdpccjpodbhaa
