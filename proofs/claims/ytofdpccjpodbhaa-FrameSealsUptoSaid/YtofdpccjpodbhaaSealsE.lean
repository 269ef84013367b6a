/-
  FrameSeals' walk behind its first loop.
-/
import Derived.Test.YtofdpccjpodbhaaSealsC
import Derived.Test.YtofdpccjpodbhaaSealsO
import Derived.Deep.DeepCutAuto
namespace Go.Proofs.Ytofdpccjpodbhaa
open Go.RowKit
set_option linter.unusedVariables false

set_option maxHeartbeats 8000000 in
set_option maxRecDepth 20000 in
noncomputable def sealsE (w : World) (T C : Int) (ea : Option Addr) (ne ce : Nat) (ext : List UInt8) (ba : Option Addr) (nb cb : Nat) (body : List UInt8) (T' C' : Int) (ea' : Option Addr) (ne' ce' : Nat) (ext' : List UInt8) (ba' : Option Addr) (nb' cb' : Nat) (body' : List UInt8) (z1 : ne ≤ 1048576) (z2 : nb ≤ 1048576) (y1 : ne' ≤ 1048576) (y2 : nb' ≤ 1048576) :
    (R0 : Prop) ×' (Hid R0 → (sealsC w T C ea ne ce ext ba nb cb body T' C' ea' ne' ce' ext' ba' nb' cb' body' z1 z2 y1 y2).2.1) :=
  ⟨_, fun hR0 => by
  intro wA FA' GA' HBA w1 HP1 HB1 HF1 HG1 X1 X2 X3 X4 Y1 Y2 Y3 Y4 Y5 Y6 Y7 Y8 Y9 Y10 Y11 Y12 Y13 Y14 Y15 Y16 Y17 Y18 Y19 Y20 Y21 Y22 Y23 Y24 Y25 Y26 Y27 Y28 Y29 Y30 Y31 Y32 Y33 Y34 Y35 Y36 Y37 Y38 Y39 Y40 Y41 Y42 Y43 Y44 Y45 Y46 Y47 Y48 Y49 Y50 Y51 Y52 Y53 Y54 Y55 Y56 Y57 Y58 Y59 Y60 Y61 Y62 Y63 Y64 Y65 Y66 Y67 Y68 Y69 Y70 Y71 Y72 Y73 Y74 Y75 Y76 Y77 Y78 Y79 Y80 Y81 Y82 Y83 Y84 Y85 Y86 Y87 Y88 Y89 Y90 Y91 Y92 Y93 Y94 Y95 Y96 Y97 Y98 Y99 Y100 Y101 Y102 Y103 Y104 Y105 Y106 Y107 Y108 Y109 Y110 Y111 Y112 Y113 Y114 Y115 Y116 Y117 Y118 Y119 Y120 Y121 Y122 Y123 Y124 Y125 Y126 Y127 Y128 Y129 Y130 Y131 Y132 Y133 Y134 Y135 Y136 Y137 Y138 Y139 Y140 Y141 Y142 Y143 Y144 Y145 Y146 Y147 Y148 Y149 x6 g1 c1 g2 c2 hx6 hg1 hg2 hgg hx1 hx2 w2 HB2 Xq1 Xq2 Xq3 Xq4 Y150 u22 u23 u24 u25 u26 u27 u28 u29 u30 u31 u32 u33 u34 u35 u36 u37 u38 u39 u40 u41 u42 u43 u44 u45 u46 u47 u48 u49 u50 u51 u52 u53 Xq5 Xq6 Xq7 Xq8 Xq9 Xq10 Xq11 Xq12 Xq13 Xq14 Xq15 Xq16 Xq17 Xq18 Xq19 Xq20 Xq21 Xq22 Xq23 Xq24 Xq25 Xq26 Xq27 Xq28 Xq29 Xq30 Xq31 Xq32 Xq33 u83 u84 u85 u86 u87 u88 u89 u90 u91 u92 u93 u94 u95 u96 u97 u98 u99 u100 u101 u102 u103 u104 u105 u106 u107 u108 u109 u110 u111 u112 u113 u114 u115 u116 u117 u118 u119 u120 u121 u122 u123 u124 u125 u126 u127 u128 u129 u130 u131 u132 u133 u134 u135 u136 u137 u138 u139 u140 u141 u142 u143 u144 u145 u146 u147 u148 u149 u150 u151 u152 u153 u154 u155 u156 u157 u158 u159 u160 u161 u162 u163 u164 u165 u166 x7 p1 d1 p2 d2 hx7 w3 q0 q1 q2 q3 r0 r1 r2 r3 lw1 lw2 lw6 Xq34 Xq35 wE HXE HEE HBE HGE HX7E HT1E HT2E ab h13 l7 l2 l1 lG lE HSZ23 HT2L HT1L HAS wr u10 u12 u13 u14 u54 u55 u56 u57 u58 u59 u60 u61 u62 u63 u64 u65 u66 u67 u68 u69 u70 u71 u72 u73 u74 u75 u76 u77 u78 u79 u80 u81 u82 i vl vs hi hsm HVL HS HCD hlt
  have H4 : Hid (i = 4) := Lib.hid (by omega)
  have hi4 : ¬ (i : Int) < 4 := by omega
  have h7n : x7 ≠ ab := by omega
  have hEnv : SEnv wr w2.heap.size ab x6 x7 T C (.slice (some ⟨g1, 0, none⟩) ne c1) (.slice (some ⟨g2, 0, none⟩) nb c2) (.slice p1 ne d1) (.slice p2 nb d2) (turnB ext) (turnB body) :=
    ⟨HXE.out.of_block (hsm.out x6 (by omega) (by omega)), HX7E.out.of_block (hsm.out x7 (by omega) (by omega)), HT1E.out.same (fun k hk => hsm.out k (by have := (HT1L.out k hk).2; omega) (by have := (HT1L.out k hk).2; omega)), HT2E.out.same (fun k hk => hsm.out k (by have := (HT2L.out k hk).2; omega) (by have := (HT2L.out k hk).2; omega)), HT1L.out, HT2L.out, lE, l7⟩
  have L1 := HEE.out.of_block (hsm.out g1 (by omega) (by omega))
  have L2 := HBE.out.of_block (hsm.out g2 (by omega) (by omega))
  have hAs := (hsm.out ab (by omega) (by omega)).trans HAS.out
  have e1 := hEnv.f6.c2
  have e2 := hEnv.f7.c2
  have hbt := hEnv.t1.slice.2
  have HE0 := Lib.hid hEnv
  have HL2 := Lib.hid L2
  have HAS0 := Lib.hid hAs
  clear hEnv hAs HXE HX7E HT1E HT2E HEE HBE hsm HAS L2 hlt
  go_upto_region 18 with fail
  go_wp2_with (refine wpList_copy_lentAt rfl (.tmp 84) (.tmp 86) 22 rfl Try.underlying22 info_u8 p1 ne c1 d1 g1 rfl rfl ext (turnB ext) L1 hbt ?_)
  intro wF hLF hgF
  have hEF := HE0.out.kept hgF (fun k hk => by simp only [Option.some.injEq] at hk; omega)
  have hL2F := HL2.out.of_block (hgF.block g2 HL2.out.lt (fun he => by simp only [Option.some.injEq] at he; omega))
  have hSF := HS.out.lent hgF (by omega) (by omega) (by omega)
  have hCF := HCD.out.kept hgF (off_row HCD.out (fun b hb => by simp only [Option.some.injEq] at hb; omega))
  have hAF := (hgF.block ab (Array.getElem?_eq_some_iff.1 HAS0.out).1 (fun he => by simp only [Option.some.injEq] at he; omega)).trans HAS0.out
  have f1 := hEF.f6.c3
  have f2 := hEF.f7.c3
  have hbt2 := hEF.t2.slice.2
  have HEF := Lib.hid hEF
  have HLF := Lib.hid hLF
  have HSF := Lib.hid hSF
  have HCF := Lib.hid hCF
  have HAF := Lib.hid hAF
  clear hEF hLF hSF hCF hAF hgF HE0 HL2 HAS0 HS HCD L1 hbt e1 e2
  go_upto_region 19 with fail
  go_wp2_with (refine wpList_copy_lentAt rfl (.tmp 89) (.tmp 91) 22 rfl Try.underlying22 info_u8 p2 nb c2 d2 g2 rfl rfl body (turnB body) hL2F hbt2 ?_)
  intro wG hLG hgG
  have hEG := HEF.out.kept hgG (fun k hk => by simp only [Option.some.injEq] at hk; omega)
  have hL1G := HLF.out.of_block (hgG.block g1 HLF.out.lt (fun he => by simp only [Option.some.injEq] at he; omega))
  have hSG := HSF.out.lent hgG (by omega) (by omega) (by omega)
  have hCG := HCF.out.kept hgG (off_row HCF.out (fun b hb => by simp only [Option.some.injEq] at hb; omega))
  have hAG := (hgG.block ab (Array.getElem?_eq_some_iff.1 HAF.out).1 (fun he => by simp only [Option.some.injEq] at he; omega)).trans HAF.out
  have e0 := hEG.f6.c0
  have e1 := hEG.f6.c1
  have e2 := hEG.f6.c2
  have e3 := hEG.f6.c3
  have hso := seal_any wG T C (some ⟨g1, 0, none⟩) (some ⟨g2, 0, none⟩) ne c1 nb c2 (turnB ext) (turnB body) hL1G.bytes hLG.bytes z1 z2
  have HEG := Lib.hid hEG
  have HLG := Lib.hid (And.intro hL1G hLG)
  have HSG := Lib.hid hSG
  have HCG := Lib.hid hCG
  have HAG := Lib.hid hAG
  clear hEG hLG hSG hCG hAG hgG HEF HLF HSF HCF HAF hL2F hbt2 f1 f2 hL1G
  obtain ⟨er, her⟩ : ∃ er, sealE T C ne nb = er := ⟨_, rfl⟩
  rw [her] at hso
  have HER := Lib.hid her
  clear her
  go_wp2_with fail
  refine hso.mono ?_
  rintro e w2' ⟨p, k, cc, rfl, hb2, hrow⟩
  have hS2 := HSG.out.below hb2
  have hbc := hS2.book.cell
  have hbr := hS2.book.row
  have hsz := hS2.size
  rw [HVL.out] at hbr
  have HROW : Hid (RowB w2' wG.heap.size (.slice p k cc) (askS (⟨T, C, ea, ne, ce, ext, ba, nb, cb, body⟩ : FrIn) (⟨T', C', ea', ne', ce', ext', ba', nb', cb', body'⟩ : FrIn) (⟨T, C, p1, ne, d1, turnB ext, p2, nb, d2, turnB body⟩ : FrIn) 4).out) := Lib.hid (.inl hrow)
  have HB2' := Lib.hid hb2
  have HBK := Lib.hid hS2.book
  have hc2 : w2'.ownsRow (ab + 2) 33 1 (u10 : Value) i (codeL (⟨T, C, ea, ne, ce, ext, ba, nb, cb, body⟩ : FrIn) (⟨T', C', ea', ne', ce', ext', ba', nb', cb', body'⟩ : FrIn) (⟨T, C, p1, ne, d1, turnB ext, p2, nb, d2, turnB body⟩ : FrIn) i) := HCG.out.kept (row := none) ⟨hb2.os, hb2.tape, hb2.output, hb2.size, fun k hk _ => hb2.block k hk⟩ (off_row HCG.out (fun b hb => by simp at hb))
  have HC2 := Lib.hid hc2
  have HE2 := Lib.hid (HEG.out.below hb2)
  have HL2 := Lib.hid (And.intro (HLG.out.1.below hb2) (HLG.out.2.below hb2))
  have HA2 := Lib.hid ((hb2.block ab (Array.getElem?_eq_some_iff.1 HAG.out).1).trans HAG.out)
  clear hso hb2 hrow hS2 hc2 e0 e1 e2 e3 HEG HLG HCG HAG
  go_upto_region 21 with fail
  go_wp2_with (at_builtin; refine wpList_append_val rfl (.tmp 102) (.tmp 104) 29 rfl (ab + 2) 22 (.slice none 0 0) 24 Try.underlying29 info_row5 rfl vl i vs (.slice p k cc) rfl rfl rfl hbr ?h63 ?hbytes hsz ?_)
  case h63 => unfold maxLen; omega
  case hbytes => omega
  intro vl' w3' hr3 hg3 _ _
  obtain ⟨gg, cg, hvv, _, _⟩ := hr3.form (by omega)
  subst hvv
  have hh3 : w3'.heap[ab + 1]? = some (.cells #[vl] 31 (0, 0)) := (hg3.block _ HBK.out.lt (row_not_block5 HBK.out.row HBK.out.at_ (by decide))).trans HBK.out.at_
  have hc3 : w3'.cell? ⟨ab + 1, 0, none⟩ = some vl := by simp [World.cell?, hh3]
  have hf3 : w3'.frozen? ⟨ab + 1, 0, none⟩ = false := by simp [World.frozen?, hh3]
  have hr3' : w3'.ownsRow (ab + 2) 22 1 (.slice (some ⟨gg, 0, none⟩) (i + 1) cg) (vs.length + 1) (vs ++ [.slice p k cc]) := by rw [HVL.out]; exact hr3
  have hput := HSG.out.put HB2'.out HROW.out hr3' hg3
  have hset := setCell_grown w3' (ab + 1) 0 (.slice (some ⟨gg, 0, none⟩) (i + 1) cg)
  have hc33 := (HC2.out.kept hg3 (rows_apart HC2.out HBK.out.row (by decide))).kept hset (off_row (HC2.out.kept hg3 (rows_apart HC2.out HBK.out.row (by decide))) (fun b hb => by simp only [Option.some.injEq] at hb; omega))
  have hlow : ∀ k, vl.ownBlock = some k → ab + 2 ≤ k := fun k hk => (hbr.lt k hk).1
  have hE3 := (HE2.out.kept hg3 (fun k hk => by have := hlow k hk; exact ⟨by omega, by omega, by omega⟩)).kept hset (fun k hk => by simp only [Option.some.injEq] at hk; exact ⟨by omega, by omega, by omega⟩)
  have hblk : ∀ b, b < ab + 1 → b < w2'.heap.size → (w3'.setCell ⟨ab + 1, 0, none⟩ (.slice (some ⟨gg, 0, none⟩) (i + 1) cg)).heap[b]? = w2'.heap[b]? := fun b hb hb2 =>
    (hset.block b (Nat.lt_of_lt_of_le hb2 hg3.size) (fun he => by simp only [Option.some.injEq] at he; omega)).trans (hg3.block b hb2 (fun he => by have := hlow b he.symm; omega))
  have hL31 := HL2.out.1.of_block (hblk g1 (by omega) HL2.out.1.lt)
  have hL32 := HL2.out.2.of_block (hblk g2 (by omega) HL2.out.2.lt)
  have hA3 := (hblk ab (by omega) (Array.getElem?_eq_some_iff.1 HA2.out).1).trans HA2.out
  have hput2 : Shelf5 w1 (w3'.setCell ⟨ab + 1, 0, none⟩ (.slice (some ⟨gg, 0, none⟩) (i + 1) cg)) (ab + 1) (ab + 2) (.slice (some ⟨gg, 0, none⟩) (i + 1) cg) (vs ++ [.slice p k cc]) (fun j => (askS (⟨T, C, ea, ne, ce, ext, ba, nb, cb, body⟩ : FrIn) (⟨T', C', ea', ne', ce', ext', ba', nb', cb', body'⟩ : FrIn) (⟨T, C, p1, ne, d1, turnB ext, p2, nb, d2, turnB body⟩ : FrIn) j).out) := by
    refine ⟨hput.bel, hput.le1, hput.le2, hput.size, hput.book, fun j hj => ?_, hput.dist⟩
    have := hput.rows j hj
    by_cases hjl : j < vs.length
    · simp only [if_pos hjl] at this; exact this
    · simp only [if_neg hjl] at this
      have ej : j = 4 := by rw [List.length_append, List.length_singleton] at hj; have := HVL.out; have := H4.out; omega
      rw [ej] at this ⊢
      exact this
  have hlen : (vs ++ [Value.slice p k cc]).length = i + 1 := by rw [List.length_append, HVL.out]; rfl
  have HLEN := Lib.hid hlen
  have HPUT := Lib.hid hput2
  have HC3 := Lib.hid hc33
  have HE3 := Lib.hid hE3
  have HL3 := Lib.hid (And.intro hL31 hL32)
  have HA3 := Lib.hid hA3
  clear hput hput2 hr3 hr3' hg3 hh3 hlen hc33 hE3 hL31 hL32 hA3 hbr hbc HC2 HBK HE2 HL2 HA2 hblk hlow hset HSG
  go_upto_region 22 with fail
  generalize (w3'.setCell ⟨ab + 1, 0, none⟩ (.slice (some ⟨gg, 0, none⟩) (i + 1) cg)) = w4' at *
  have hcr := HC3.out
  have hsz4 := HPUT.out.size
  clear hc3 hf3
  go_wp2_with (at_builtin; refine wpList_append_val rfl (.tmp 108) (.tmp 110) 32 rfl (ab + 2) 33 (.int .i64 0) 8 Try.underlying32 info_errno5 rfl _ i _ (.int .i64 er) rfl rfl rfl hcr ?h63b ?hbytesb hsz4 ?_)
  case h63b => unfold maxLen; omega
  case hbytesb => omega
  intro vc' w5' hr5 hg5 _ _
  have hlow : ∀ k, (u10 : Value).ownBlock = some k → ab + 2 ≤ k := fun k hk => (hcr.lt k hk).1
  have hS5 := HPUT.out.other hcr hg5 ⟨by decide, by decide, by decide, by decide⟩
  have hE5 := HE3.out.kept hg5 (fun k hk => by have := hlow k hk; exact ⟨by omega, by omega, by omega⟩)
  have hL51 := HL3.out.1.of_block (hg5.block g1 HL3.out.1.lt (fun he => by have := hlow g1 he.symm; omega))
  have hL52 := HL3.out.2.of_block (hg5.block g2 HL3.out.2.lt (fun he => by have := hlow g2 he.symm; omega))
  have hA5 := (hg5.block ab (Array.getElem?_eq_some_iff.1 HA3.out).1 (fun he => by have := hlow ab he.symm; omega)).trans HA3.out
  have hcd5 : w5'.ownsRow (ab + 2) 33 1 vc' (i + 1) (codeL (⟨T, C, ea, ne, ce, ext, ba, nb, cb, body⟩ : FrIn) (⟨T', C', ea', ne', ce', ext', ba', nb', cb', body'⟩ : FrIn) (⟨T, C, p1, ne, d1, turnB ext, p2, nb, d2, turnB body⟩ : FrIn) (i + 1)) := by
    rw [codeL_snoc]
    have e4 : (askS (⟨T, C, ea, ne, ce, ext, ba, nb, cb, body⟩ : FrIn) (⟨T', C', ea', ne', ce', ext', ba', nb', cb', body'⟩ : FrIn) (⟨T, C, p1, ne, d1, turnB ext, p2, nb, d2, turnB body⟩ : FrIn) i).err = er := by rw [H4.out]; exact HER.out
    rw [e4]
    exact hr5
  have t0 := hE5.f7.c0
  have t1 := hE5.f7.c1
  have t2 := hE5.f7.c2
  have t3 := hE5.f7.c3
  have hbs5 : w1.heap.size ≤ w5'.heap.size := hS5.bel.size
  have hao := owns_block (B := w1.heap.size) (k := 4) (n := 4) hA5 (by omega) hbs5 rfl (by unfold maxLen; omega)
  have HS5 := Lib.hid hS5
  have HE5 := Lib.hid hE5
  have HL5 := Lib.hid (And.intro hL51 hL52)
  have HCD5 := Lib.hid hcd5
  clear hS5 hE5 hL51 hL52 hA5 hcd5 hr5 hg5 hcr HPUT HC3 HE3 HL3 HA3 hlow
  go_upto_region 23 with fail
  go_wp2_with (at_builtin; refine wpList_append_struct rfl (.tmp 112) (.tmp 114) 27 rfl w1.heap.size 24 (.agg #[.int .i64 0, .int .i64 0, .slice none 0 0, .slice none 0 0]) 4 64 Try.underlying27 info_frame5 rfl (by decide) _ _ _ [.int .i64 T, .int .i64 C, .slice p1 ne d1, .slice p2 nb d2] rfl ?hcells rfl rfl hao ?h63c ?hbytesc hbs5 ?_)
  case hcells => exact ⟨rfl, rfl, rfl, rfl⟩
  try case h63c => unfold maxLen; omega
  try case hbytesc => omega
  intro va w6' hr6 hg6
  have hg6' : w5'.grownBy w6' (some ab) := hg6
  have hE6 := HE5.out.kept hg6' (fun k hk => by simp only [Option.some.injEq] at hk; exact ⟨by omega, by omega, by omega⟩)
  have hL61 := HL5.out.1.of_block (hg6'.block g1 HL5.out.1.lt (fun he => by simp only [Option.some.injEq] at he; omega))
  have hL62 := HL5.out.2.of_block (hg6'.block g2 HL5.out.2.lt (fun he => by simp only [Option.some.injEq] at he; omega))
  have hS6 := HS5.out.lent hg6' (by omega) (by omega) (by omega)
  have hC6 := HCD5.out.kept hg6' (off_row HCD5.out (fun b hb => by simp only [Option.some.injEq] at hb; omega))
  have HR6 := Lib.hid hr6
  have HE6 := Lib.hid hE6
  have HL6 := Lib.hid (And.intro hL61 hL62)
  have HS6 := Lib.hid hS6
  have HC6 := Lib.hid hC6
  clear hr6 hg6 hg6' hE6 hL61 hL62 hS6 hC6 HS5 HE5 HL5 HCD5 hao t0 t1 t2 t3 hbs5
  skip
  rename_i V1 V2 V3 V4 V5 V6 V7 V8 V9 V10 V11
  revert wA FA' GA' HBA w1 HP1 HB1 HF1 HG1 X1 X2 X3 X4 Y1 Y2 Y3 Y4 Y5 Y6 Y7 Y8 Y9 Y10 Y11 Y12 Y13 Y14 Y15 Y16 Y17 Y18 Y19 Y20 Y21 Y22 Y23 Y24 Y25 Y26 Y27 Y28 Y29 Y30 Y31 Y32 Y33 Y34 Y35 Y36 Y37 Y38 Y39 Y40 Y41 Y42 Y43 Y44 Y45 Y46 Y47 Y48 Y49 Y50 Y51 Y52 Y53 Y54 Y55 Y56 Y57 Y58 Y59 Y60 Y61 Y62 Y63 Y64 Y65 Y66 Y67 Y68 Y69 Y70 Y71 Y72 Y73 Y74 Y75 Y76 Y77 Y78 Y79 Y80 Y81 Y82 Y83 Y84 Y85 Y86 Y87 Y88 Y89 Y90 Y91 Y92 Y93 Y94 Y95 Y96 Y97 Y98 Y99 Y100 Y101 Y102 Y103 Y104 Y105 Y106 Y107 Y108 Y109 Y110 Y111 Y112 Y113 Y114 Y115 Y116 Y117 Y118 Y119 Y120 Y121 Y122 Y123 Y124 Y125 Y126 Y127 Y128 Y129 Y130 Y131 Y132 Y133 Y134 Y135 Y136 Y137 Y138 Y139 Y140 Y141 Y142 Y143 Y144 Y145 Y146 Y147 Y148 Y149 x6 g1 c1 g2 c2 hx6 hg1 hg2 hgg hx1 hx2 w2 HB2 Xq1 Xq2 Xq3 Xq4 Y150 u22 u23 u24 u25 u26 u27 u28 u29 u30 u31 u32 u33 u34 u35 u36 u37 u38 u39 u40 u41 u42 u43 u44 u45 u46 u47 u48 u49 u50 u51 u52 u53 Xq5 Xq6 Xq7 Xq8 Xq9 Xq10 Xq11 Xq12 Xq13 Xq14 Xq15 Xq16 Xq17 Xq18 Xq19 Xq20 Xq21 Xq22 Xq23 Xq24 Xq25 Xq26 Xq27 Xq28 Xq29 Xq30 Xq31 Xq32 Xq33 u83 u84 u85 u86 u87 u88 u89 u90 u91 u92 u93 u94 u95 u96 u97 u98 u99 u100 u101 u102 u103 u104 u105 u106 u107 u108 u109 u110 u111 u112 u113 u114 u115 u116 u117 u118 u119 u120 u121 u122 u123 u124 u125 u126 u127 u128 u129 u130 u131 u132 u133 u134 u135 u136 u137 u138 u139 u140 u141 u142 u143 u144 u145 u146 u147 u148 u149 u150 u151 u152 u153 u154 u155 u156 u157 u158 u159 u160 u161 u162 u163 u164 u165 u166 x7 p1 d1 p2 d2 hx7 w3 q0 q1 q2 q3 r0 r1 r2 r3 lw1 lw2 lw6 Xq34 wE HGE ab h13 l7 l2 l1 lG lE HSZ23 HT2L HT1L wr u10 u12 u13 u14 u54 u55 u56 u57 u58 u59 u60 u61 u62 u63 u64 u65 u66 u67 u68 u69 u70 u71 u72 u73 u74 u75 u76 u77 u78 u79 u80 u81 u82 i vl vs hi HVL H4 h7n V1 V2 V3 hi4 wF wG er HER w2' p k cc hsz HROW HB2' w3' V4 gg cg V5 V6 V7 HLEN w4' hsz4 vc' w5' V8 V9 V10 V11 va w6' HR6 HE6 HL6 HS6 HC6
  exact hR0.out⟩
end Go.Proofs.Ytofdpccjpodbhaa
