/-
  FrameSeals' walk: the round of its second loop.
-/
import Derived.Test.YtofdpccjpodbhaaSealsF
import Derived.Test.YtofdpccjpodbhaaConv
import Derived.Deep.QuietTactic
import Derived.BigQuiet
namespace Go.Proofs.Ytofdpccjpodbhaa
open Go.RowKit
set_option linter.unusedVariables false

/-- the five frames' cells -/
theorem askS_cell {f g t : FrIn} {w : World} {B ga ca j k : Nat} {v : Value} (h : w.ownsRow B 24 4 (.slice (some ⟨ga, 0, none⟩) 5 ca) 5 (f.cells ++ g.cells ++ f.cells ++ f.cells ++ t.cells)) (hj : j < 5) (hv : (askS f g t j).cells[k]? = some v) : w.cell? ⟨ga, j * 4 + k, none⟩ = some v := by
  have hk : k < 4 := (List.getElem?_eq_some_iff.1 hv).1
  rw [h.cellAt (j * 4 + k) (by omega)]
  match j, hj, k, hk with
  | 0, _, 0, _ => exact hv
  | 0, _, 1, _ => exact hv
  | 0, _, 2, _ => exact hv
  | 0, _, 3, _ => exact hv
  | 1, _, 0, _ => exact hv
  | 1, _, 1, _ => exact hv
  | 1, _, 2, _ => exact hv
  | 1, _, 3, _ => exact hv
  | 2, _, 0, _ => exact hv
  | 2, _, 1, _ => exact hv
  | 2, _, 2, _ => exact hv
  | 2, _, 3, _ => exact hv
  | 3, _, 0, _ => exact hv
  | 3, _, 1, _ => exact hv
  | 3, _, 2, _ => exact hv
  | 3, _, 3, _ => exact hv
  | 4, _, 0, _ => exact hv
  | 4, _, 1, _ => exact hv
  | 4, _, 2, _ => exact hv
  | 4, _, 3, _ => exact hv

theorem askS_ok {f g t : FrIn} {w : World} {j : Nat} (hj : j < 5) (hf : f.ok w) (hg : g.ok w) (ht : t.ok w) : (askS f g t j).ok w := by
  match j, hj with
  | 0, _ => exact hf
  | 1, _ => exact hg
  | 2, _ => exact hf
  | 3, _ => exact hf
  | 4, _ => exact ht

set_option maxHeartbeats 8000000 in
set_option maxRecDepth 20000 in
theorem sealsG (w : World) (T C : Int) (ea : Option Addr) (ne ce : Nat) (ext : List UInt8) (ba : Option Addr) (nb cb : Nat) (body : List UInt8) (T' C' : Int) (ea' : Option Addr) (ne' ce' : Nat) (ext' : List UInt8) (ba' : Option Addr) (nb' cb' : Nat) (body' : List UInt8) (z1 : ne ≤ 1048576) (z2 : nb ≤ 1048576) (y1 : ne' ≤ 1048576) (y2 : nb' ≤ 1048576) :
    (sealsF w T C ea ne ce ext ba nb cb body T' C' ea' ne' ce' ext' ba' nb' cb' body' z1 z2 y1 y2).1 := by
  intro wA FA' GA' HBA w1 HP1 HB1 HF1 HG1 X1 X2 X3 X4 Y1 Y2 Y3 Y4 Y5 Y6 Y7 Y8 Y9 Y10 Y11 Y12 Y13 Y14 Y15 Y16 Y17 Y18 Y19 Y20 Y21 Y22 Y23 Y24 Y25 Y26 Y27 Y28 Y29 Y30 Y31 Y32 Y33 Y34 Y35 Y36 Y37 Y38 Y39 Y40 Y41 Y42 Y43 Y44 Y45 Y46 Y47 Y48 Y49 Y50 Y51 Y52 Y53 Y54 Y55 Y56 Y57 Y58 Y59 Y60 Y61 Y62 Y63 Y64 Y65 Y66 Y67 Y68 Y69 Y70 Y71 Y72 Y73 Y74 Y75 Y76 Y77 Y78 Y79 Y80 Y81 Y82 Y83 Y84 Y85 Y86 Y87 Y88 Y89 Y90 Y91 Y92 Y93 Y94 Y95 Y96 Y97 Y98 Y99 Y100 Y101 Y102 Y103 Y104 Y105 Y106 Y107 Y108 Y109 Y110 Y111 Y112 Y113 Y114 Y115 Y116 Y117 Y118 Y119 Y120 Y121 Y122 Y123 Y124 Y125 Y126 Y127 Y128 Y129 Y130 Y131 Y132 Y133 Y134 Y135 Y136 Y137 Y138 Y139 Y140 Y141 Y142 Y143 Y144 Y145 Y146 Y147 Y148 Y149 x6 g1 c1 g2 c2 hx6 hg1 hg2 hgg hx1 hx2 w2 HB2 Xq1 Xq2 Xq3 Xq4 Y150 u22 u23 u24 u25 u26 u27 u28 u29 u30 u31 u32 u33 u34 u35 u36 u37 u38 u39 u40 u41 u42 u43 u44 u45 u46 u47 u48 u49 u50 u51 u52 u53 Xq5 Xq6 Xq7 Xq8 Xq9 Xq10 Xq11 Xq12 Xq13 Xq14 Xq15 Xq16 Xq17 Xq18 Xq19 Xq20 Xq21 Xq22 Xq23 Xq24 Xq25 Xq26 Xq27 Xq28 Xq29 Xq30 Xq31 Xq32 Xq33 u83 u84 u85 u86 u87 u88 u89 u90 u91 u92 u93 u94 u95 u96 u97 u98 u99 u100 u101 u102 u103 u104 u105 u106 u107 u108 u109 u110 u111 u112 u113 u114 u115 u116 u117 u118 u119 u120 u121 u122 u123 u124 u125 u126 u127 u128 u129 u130 u131 U1 U2 U3 U4 U5 U6 U7 U8 U9 U10 U11 U12 U13 U14 U15 U16 U17 U18 U19 U20 U21 U22 U23 U24 U25 U26 U27 U28 U29 U30 U31 U32 U33 u165 u166 x7 p1 d1 p2 d2 hx7 w3 q0 q1 q2 q3 r0 r1 r2 r3 lw1 lw2 lw6 Xq34 wE HGE ab h13 l7 l2 l1 lG lE HSZ23 HT2L HT1L U34 u10 u12 u13 u14 u54 u55 u56 u57 u58 u59 u60 u61 u62 u63 u64 u65 u66 u67 u68 u69 u70 u71 u72 u73 u74 u75 u76 u77 u78 u79 u80 u81 u82 i vl vs hi HVL H4 h7n V1 V2 V3 hi4 wF wG er HER w2' p k cc hsz HROW HB2' w3' V4 gg cg V5 V6 V7 HLEN w4' hsz4 w5' V8 w6' w7 w8 ca hna hca ga hga hga1 hga2 cc' hnc hcc gc hgc hgc1 hgc2 V9 HE8 HS8 HC8 HR8 U35 U36 wr u4 u20 u21 u132 u133 u134 u135 u136 u137 u138 u139 u140 u141 u142 u143 u144 u145 u146 u147 u148 u149 u150 u151 u152 u153 u154 u155 u156 u157 u158 u159 u160 u161 u162 u163 u164 j hj hB hlt
  have hj5 : (j : Int) < 5 := by omega
  have hji : j < i + 1 := by have := H4.out; omega
  have hji' : (j : Int) < (i : Int) + 1 := by omega
  have hS := HS8.out.below hB
  have hbw := hS.bel
  have hR := HR8.out.kept (row := none) ⟨hB.os, hB.tape, hB.output, hB.size, fun k hk _ => hB.block k hk⟩ (off_row HR8.out (fun b hb => by simp at hb))
  have hE := HE8.out.below hB
  have hok : (askS (⟨T, C, ea, ne, ce, ext, ba, nb, cb, body⟩ : FrIn) (⟨T', C', ea', ne', ce', ext', ba', nb', cb', body'⟩ : FrIn) (⟨T, C, p1, ne, d1, turnB ext, p2, nb, d2, turnB body⟩ : FrIn) j).ok wr := askS_ok hlt ⟨X1.out.below hbw, X2.out.below hbw, z1, z2⟩ ⟨X3.out.below hbw, X4.out.below hbw, y1, y2⟩ ⟨hE.t1.slice.2, hE.t2.slice.2, z1, z2⟩
  have c0' := askS_cell (f := (⟨T, C, ea, ne, ce, ext, ba, nb, cb, body⟩ : FrIn)) (g := (⟨T', C', ea', ne', ce', ext', ba', nb', cb', body'⟩ : FrIn)) (t := (⟨T, C, p1, ne, d1, turnB ext, p2, nb, d2, turnB body⟩ : FrIn)) (k := 0) hR hlt rfl
  have c1' := askS_cell (f := (⟨T, C, ea, ne, ce, ext, ba, nb, cb, body⟩ : FrIn)) (g := (⟨T', C', ea', ne', ce', ext', ba', nb', cb', body'⟩ : FrIn)) (t := (⟨T, C, p1, ne, d1, turnB ext, p2, nb, d2, turnB body⟩ : FrIn)) (k := 1) hR hlt rfl
  have c2' := askS_cell (f := (⟨T, C, ea, ne, ce, ext, ba, nb, cb, body⟩ : FrIn)) (g := (⟨T', C', ea', ne', ce', ext', ba', nb', cb', body'⟩ : FrIn)) (t := (⟨T, C, p1, ne, d1, turnB ext, p2, nb, d2, turnB body⟩ : FrIn)) (k := 2) hR hlt rfl
  have c3' := askS_cell (f := (⟨T, C, ea, ne, ce, ext, ba, nb, cb, body⟩ : FrIn)) (g := (⟨T', C', ea', ne', ce', ext', ba', nb', cb', body'⟩ : FrIn)) (t := (⟨T, C, p1, ne, d1, turnB ext, p2, nb, d2, turnB body⟩ : FrIn)) (k := 3) hR hlt rfl
  obtain ⟨y, hy⟩ : ∃ y, askS (⟨T, C, ea, ne, ce, ext, ba, nb, cb, body⟩ : FrIn) (⟨T', C', ea', ne', ce', ext', ba', nb', cb', body'⟩ : FrIn) (⟨T, C, p1, ne, d1, turnB ext, p2, nb, d2, turnB body⟩ : FrIn) j = y := ⟨_, rfl⟩
  rw [hy] at hok c0' c1' c2' c3'
  have HY := Lib.hid hy
  obtain ⟨yT, yC, ya, yn, yc, ye, yb, ym, yd, yl⟩ := y
  simp only [Nat.add_zero] at hok c0' c1' c2' c3'
  have hso := rseal_any wr yT yC ya yb yn yc ym yd ye yl hok.e hok.b hok.el hok.bl
  have HB := Lib.hid hB
  clear hS hbw hR hE hok hy hB
  go_wp2_with fail
  refine hso.mono ?_
  rintro e w3q ⟨pq, kq, cq, rfl, hbq, hrow⟩
  have hB3 := HB.out.trans (hbq.mono HB.out.size)
  have hS3 := HS8.out.below hB3
  have hbc := hS3.book.cell
  have hjv : j < (vs ++ [Value.slice p k cc]).length := by rw [HLEN.out]; exact hji
  have hic : w3q.cell? ⟨gg, j, none⟩ = some ((vs ++ [Value.slice p k cc]).getD j default) := by
    have h1 := hS3.book.row
    rw [HLEN.out] at h1
    rw [h1.cellAt j (by omega), List.getD_eq_getElem?_getD, List.getElem?_eq_getElem hjv]
    rfl
  obtain ⟨p3, c3, hv3, hby3⟩ := (hS3.rows j hjv).bytes
  rw [HY.out] at hv3 hby3
  rw [hv3] at hic
  have hcode : w3q.cell? ⟨gc, j, none⟩ = some (.int .i64 (sealE yT yC yn ym)) := by
    have hC3 := HC8.out.kept (row := none) ⟨hB3.os, hB3.tape, hB3.output, hB3.size, fun k hk _ => hB3.block k hk⟩ (off_row HC8.out (fun b hb => by simp at hb))
    rw [hC3.cellAt j (by omega)]
    have e : (askS (⟨T, C, ea, ne, ce, ext, ba, nb, cb, body⟩ : FrIn) (⟨T', C', ea', ne', ce', ext', ba', nb', cb', body'⟩ : FrIn) (⟨T, C, p1, ne, d1, turnB ext, p2, nb, d2, turnB body⟩ : FrIn) j).err = sealE yT yC yn ym := by rw [HY.out]; rfl
    rw [← e]
    simp [codeL, hji]
  obtain ⟨hlq, hbyq⟩ := hrow.slice
  obtain ⟨k3, hk3⟩ : ∃ k, (FrIn.out ⟨yT, yC, ya, yn, yc, ye, yb, ym, yd, yl⟩).length = k := ⟨_, rfl⟩
  rw [hk3] at hic hby3
  obtain ⟨Y, hY⟩ : ∃ Y, sealS yT yC ye yl = Y := ⟨_, rfl⟩
  have hby3' : BytesIn w3q p3 k3 c3 Y := by rw [← hY]; exact hby3
  rw [hY] at hbyq
  have v1 : ∀ m, (convert 22 9 (.slice p3 k3 c3)).run Try.prog (w3q.drewN m) = .ok (.string ⟨Y.toArray⟩) (w3q.drewN m) := fun m => run_string_bytes _ _ _ 5 Try.underlying22 Try.underlying5 Try.underlying9 _ _ _ _ (hby3'.below ⟨rfl, rfl, rfl, Nat.le_refl _, fun _ _ => rfl⟩)
  have v2 : ∀ m, (convert 22 9 (.slice pq kq cq)).run Try.prog (w3q.drewN m) = .ok (.string ⟨Y.toArray⟩) (w3q.drewN m) := fun m => run_string_bytes _ _ _ 5 Try.underlying22 Try.underlying5 Try.underlying9 _ _ _ _ (hbyq.below ⟨rfl, rfl, rfl, Nat.le_refl _, fun _ _ => rfl⟩)
  have HB3 := Lib.hid hB3
  generalize (⟨Y.toArray⟩ : ByteArray) = E at v1 v2
  obtain ⟨er2, her2⟩ : ∃ er, sealE yT yC yn ym = er := ⟨_, rfl⟩
  rw [her2] at hcode ⊢
  have hb5 : i + 1 ≤ cg := by
    have h1 := hS3.book.row
    rcases h1.2 with ⟨h2, _⟩ | ⟨g', cap', cur', h2, _, _, h3, _⟩
    · simp at h2
    · simp only [Value.slice.injEq] at h2
      rw [HLEN.out] at h3
      omega
  clear hso hB3 hS3 hby3 hby3' hbyq hrow hv3 hk3 hbq hjv hlq hY her2 c0' c1' c2' c3' HY
  go_upto_region 32 with fail
  go_quiet (fail)
  go_wp2_with fail
  go_roundw
  case rel => exact ⟨j + 1, by omega, by go_num, HB3.out.trans ⟨rfl, rfl, rfl, Nat.le_refl _, fun _ _ => rfl⟩⟩
  case measure => simp [intOf]; omega
end Go.Proofs.Ytofdpccjpodbhaa
