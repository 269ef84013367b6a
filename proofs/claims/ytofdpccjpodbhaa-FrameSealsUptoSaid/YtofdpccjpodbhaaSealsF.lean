/-
  FrameSeals' walk: its second loop, its end.
-/
import Derived.Test.YtofdpccjpodbhaaSealsE
import Derived.Deep.DeepCutAuto
namespace Go.Proofs.Ytofdpccjpodbhaa
open Go.RowKit
set_option linter.unusedVariables false

theorem LentAt.off {w : World} {g n cap B T k m : Nat} {l : List UInt8} {v : Value} {xs : List Value} (h : LentAt w g n cap l) (hv : w.ownsRow B T k v m xs) (hT : T ≠ 5) : v.ownBlock = none ∨ v.ownBlock ≠ some g := by
  obtain ⟨L, h1, _⟩ := h.ex
  obtain ⟨fz, h2, _⟩ := h1.ex
  exact .inr (fun he => row_not_block5 hv h2 hT he.symm)

set_option maxHeartbeats 8000000 in
set_option maxRecDepth 20000 in
noncomputable def sealsF (w : World) (T C : Int) (ea : Option Addr) (ne ce : Nat) (ext : List UInt8) (ba : Option Addr) (nb cb : Nat) (body : List UInt8) (T' C' : Int) (ea' : Option Addr) (ne' ce' : Nat) (ext' : List UInt8) (ba' : Option Addr) (nb' cb' : Nat) (body' : List UInt8) (z1 : ne ≤ 1048576) (z2 : nb ≤ 1048576) (y1 : ne' ≤ 1048576) (y2 : nb' ≤ 1048576) :
    (R0 : Prop) ×' (Hid R0 → (sealsE w T C ea ne ce ext ba nb cb body T' C' ea' ne' ce' ext' ba' nb' cb' body' z1 z2 y1 y2).1) :=
  ⟨_, fun hR0 => by
  intro wA FA' GA' HBA w1 HP1 HB1 HF1 HG1 X1 X2 X3 X4 Y1 Y2 Y3 Y4 Y5 Y6 Y7 Y8 Y9 Y10 Y11 Y12 Y13 Y14 Y15 Y16 Y17 Y18 Y19 Y20 Y21 Y22 Y23 Y24 Y25 Y26 Y27 Y28 Y29 Y30 Y31 Y32 Y33 Y34 Y35 Y36 Y37 Y38 Y39 Y40 Y41 Y42 Y43 Y44 Y45 Y46 Y47 Y48 Y49 Y50 Y51 Y52 Y53 Y54 Y55 Y56 Y57 Y58 Y59 Y60 Y61 Y62 Y63 Y64 Y65 Y66 Y67 Y68 Y69 Y70 Y71 Y72 Y73 Y74 Y75 Y76 Y77 Y78 Y79 Y80 Y81 Y82 Y83 Y84 Y85 Y86 Y87 Y88 Y89 Y90 Y91 Y92 Y93 Y94 Y95 Y96 Y97 Y98 Y99 Y100 Y101 Y102 Y103 Y104 Y105 Y106 Y107 Y108 Y109 Y110 Y111 Y112 Y113 Y114 Y115 Y116 Y117 Y118 Y119 Y120 Y121 Y122 Y123 Y124 Y125 Y126 Y127 Y128 Y129 Y130 Y131 Y132 Y133 Y134 Y135 Y136 Y137 Y138 Y139 Y140 Y141 Y142 Y143 Y144 Y145 Y146 Y147 Y148 Y149 x6 g1 c1 g2 c2 hx6 hg1 hg2 hgg hx1 hx2 w2 HB2 Xq1 Xq2 Xq3 Xq4 Y150 u22 u23 u24 u25 u26 u27 u28 u29 u30 u31 u32 u33 u34 u35 u36 u37 u38 u39 u40 u41 u42 u43 u44 u45 u46 u47 u48 u49 u50 u51 u52 u53 Xq5 Xq6 Xq7 Xq8 Xq9 Xq10 Xq11 Xq12 Xq13 Xq14 Xq15 Xq16 Xq17 Xq18 Xq19 Xq20 Xq21 Xq22 Xq23 Xq24 Xq25 Xq26 Xq27 Xq28 Xq29 Xq30 Xq31 Xq32 Xq33 u83 u84 u85 u86 u87 u88 u89 u90 u91 u92 u93 u94 u95 u96 u97 u98 u99 u100 u101 u102 u103 u104 u105 u106 u107 u108 u109 u110 u111 u112 u113 u114 u115 u116 u117 u118 u119 u120 u121 u122 u123 u124 u125 u126 u127 u128 u129 u130 u131 u132 u133 u134 u135 u136 u137 u138 u139 u140 u141 u142 u143 u144 u145 u146 u147 u148 u149 u150 u151 u152 u153 u154 u155 u156 u157 u158 u159 u160 u161 u162 u163 u164 u165 u166 x7 p1 d1 p2 d2 hx7 w3 q0 q1 q2 q3 r0 r1 r2 r3 lw1 lw2 lw6 Xq34 wE HGE ab h13 l7 l2 l1 lG lE HSZ23 HT2L HT1L wr u10 u12 u13 u14 u54 u55 u56 u57 u58 u59 u60 u61 u62 u63 u64 u65 u66 u67 u68 u69 u70 u71 u72 u73 u74 u75 u76 u77 u78 u79 u80 u81 u82 i vl vs hi HVL H4 h7n V1 V2 V3 hi4 wF wG er HER w2' p k cc hsz HROW HB2' w3' V4 gg cg V5 V6 V7 HLEN w4' hsz4 vc' w5' V8 V9 V10 V11 va w6' HR6 HE6 HL6 HS6 HC6
  have e2 := HE6.out.f6.c2
  have f2 := HE6.out.f7.c2
  have hk1 := kept_lent w6' g1 ne c1 (turnB ext) p1 d1 HL6.out.1 HE6.out.t1.slice.2 z1
  go_wp2_with fail
  refine hk1.mono ?_
  rintro e w7 ⟨rfl, hg7⟩
  have hE7 := HE6.out.kept hg7 (fun k hk => by simp only [Option.some.injEq] at hk; exact ⟨by omega, by omega, by omega⟩)
  have hL7 := HL6.out.2.of_block (hg7.block g2 HL6.out.2.lt (fun he => by simp only [Option.some.injEq] at he; omega))
  have hS7 := HS6.out.lent hg7 (by omega) (by omega) (by omega)
  have hC7 := HC6.out.kept hg7 (HL6.out.1.off HC6.out (by decide))
  have hR7 := HR6.out.kept hg7 (HL6.out.1.off HR6.out (by decide))
  have e3 := hE7.f6.c3
  have f3 := hE7.f7.c3
  have hk2 := kept_lent w7 g2 nb c2 (turnB body) p2 d2 hL7 hE7.t2.slice.2 z2
  have HE7 := Lib.hid hE7
  have HL7 := Lib.hid hL7
  have HS7 := Lib.hid hS7
  have HC7 := Lib.hid hC7
  have HR7 := Lib.hid hR7
  clear hk1 hg7 hE7 hL7 hS7 hC7 hR7 e2 f2 HE6 HL6 HS6 HC6 HR6
  go_wp2_with fail
  refine hk2.mono ?_
  rintro e w8 ⟨rfl, hg8⟩
  have hE8 := HE7.out.kept hg8 (fun k hk => by simp only [Option.some.injEq] at hk; exact ⟨by omega, by omega, by omega⟩)
  have hS8 := HS7.out.lent hg8 (by omega) (by omega) (by omega)
  have hC8 := HC7.out.kept hg8 (HL7.out.off HC7.out (by decide))
  have hR8 := HR7.out.kept hg8 (HL7.out.off HR7.out (by decide))
  obtain ⟨ga', ca, hva, hna, hca, hga⟩ := row_form hR8
  obtain ⟨ga, rfl, hga1, hga2⟩ := hga (by omega)
  subst hva
  obtain ⟨gc', cc', hvc, hnc, hcc, hgc⟩ := row_form hC8
  obtain ⟨gc, rfl, hgc1, hgc2⟩ := hgc (by omega)
  subst hvc
  unfold maxLen at hca hcc
  have HE8 := Lib.hid hE8
  have HS8 := Lib.hid hS8
  have HC8 := Lib.hid hC8
  have HR8 := Lib.hid hR8
  clear hk2 hg8 hE8 hS8 hC8 hR8 HE7 HL7 HS7 HC7 HR7 e3 f3
  go_wp2_with fail
  go_loopw [19] (fun s19 wr => ∃ (j : Nat), j ≤ 5 ∧ s19 = .int .i64 j ∧ Below w8.heap.size w8 wr) (fun s19 _ => 5 - (intOf s19).toNat)
  case atStart => exact ⟨0, by omega, rfl, Below.refl _ _⟩
  case round =>
    obtain ⟨j, hj, rfl, hB⟩ := hrel
    by_cases hlt : j < 5
    · skip
      rename_i U1 U2 U3 U4 U5 U6 U7 U8 U9 U10 U11 U12 U13 U14 U15 U16 U17 U18 U19 U20 U21 U22 U23 U24 U25 U26 U27 U28 U29 U30 U31 U32 U33 U34 U35 U36
      revert wA FA' GA' HBA w1 HP1 HB1 HF1 HG1 X1 X2 X3 X4 Y1 Y2 Y3 Y4 Y5 Y6 Y7 Y8 Y9 Y10 Y11 Y12 Y13 Y14 Y15 Y16 Y17 Y18 Y19 Y20 Y21 Y22 Y23 Y24 Y25 Y26 Y27 Y28 Y29 Y30 Y31 Y32 Y33 Y34 Y35 Y36 Y37 Y38 Y39 Y40 Y41 Y42 Y43 Y44 Y45 Y46 Y47 Y48 Y49 Y50 Y51 Y52 Y53 Y54 Y55 Y56 Y57 Y58 Y59 Y60 Y61 Y62 Y63 Y64 Y65 Y66 Y67 Y68 Y69 Y70 Y71 Y72 Y73 Y74 Y75 Y76 Y77 Y78 Y79 Y80 Y81 Y82 Y83 Y84 Y85 Y86 Y87 Y88 Y89 Y90 Y91 Y92 Y93 Y94 Y95 Y96 Y97 Y98 Y99 Y100 Y101 Y102 Y103 Y104 Y105 Y106 Y107 Y108 Y109 Y110 Y111 Y112 Y113 Y114 Y115 Y116 Y117 Y118 Y119 Y120 Y121 Y122 Y123 Y124 Y125 Y126 Y127 Y128 Y129 Y130 Y131 Y132 Y133 Y134 Y135 Y136 Y137 Y138 Y139 Y140 Y141 Y142 Y143 Y144 Y145 Y146 Y147 Y148 Y149 x6 g1 c1 g2 c2 hx6 hg1 hg2 hgg hx1 hx2 w2 HB2 Xq1 Xq2 Xq3 Xq4 Y150 u22 u23 u24 u25 u26 u27 u28 u29 u30 u31 u32 u33 u34 u35 u36 u37 u38 u39 u40 u41 u42 u43 u44 u45 u46 u47 u48 u49 u50 u51 u52 u53 Xq5 Xq6 Xq7 Xq8 Xq9 Xq10 Xq11 Xq12 Xq13 Xq14 Xq15 Xq16 Xq17 Xq18 Xq19 Xq20 Xq21 Xq22 Xq23 Xq24 Xq25 Xq26 Xq27 Xq28 Xq29 Xq30 Xq31 Xq32 Xq33 u83 u84 u85 u86 u87 u88 u89 u90 u91 u92 u93 u94 u95 u96 u97 u98 u99 u100 u101 u102 u103 u104 u105 u106 u107 u108 u109 u110 u111 u112 u113 u114 u115 u116 u117 u118 u119 u120 u121 u122 u123 u124 u125 u126 u127 u128 u129 u130 u131 U1 U2 U3 U4 U5 U6 U7 U8 U9 U10 U11 U12 U13 U14 U15 U16 U17 U18 U19 U20 U21 U22 U23 U24 U25 U26 U27 U28 U29 U30 U31 U32 U33 u165 u166 x7 p1 d1 p2 d2 hx7 w3 q0 q1 q2 q3 r0 r1 r2 r3 lw1 lw2 lw6 Xq34 wE HGE ab h13 l7 l2 l1 lG lE HSZ23 HT2L HT1L U34 u10 u12 u13 u14 u54 u55 u56 u57 u58 u59 u60 u61 u62 u63 u64 u65 u66 u67 u68 u69 u70 u71 u72 u73 u74 u75 u76 u77 u78 u79 u80 u81 u82 i vl vs hi HVL H4 h7n V1 V2 V3 hi4 wF wG er HER w2' p k cc hsz HROW HB2' w3' V4 gg cg V5 V6 V7 HLEN w4' hsz4 w5' V8 w6' w7 w8 ca hna hca ga hga hga1 hga2 cc' hnc hcc gc hgc hgc1 hgc2 V9 HE8 HS8 HC8 HR8 U35 U36 wr u4 u20 u21 u132 u133 u134 u135 u136 u137 u138 u139 u140 u141 u142 u143 u144 u145 u146 u147 u148 u149 u150 u151 u152 u153 u154 u155 u156 u157 u158 u159 u160 u161 u162 u163 u164 j hj hB hlt
      exact hR0.out
    · try clear hR0
      have hj5 : ¬ (j : Int) < 5 := by omega
      have hS := HS8.out.below hB
      have hown := owned5_any wr (ab + 2) (ab + 1) _ _ (fun k => (askS (⟨T, C, ea, ne, ce, ext, ba, nb, cb, body⟩ : FrIn) (⟨T', C', ea', ne', ce', ext', ba', nb', cb', body'⟩ : FrIn) (⟨T, C, p1, ne, d1, turnB ext, p2, nb, d2, turnB body⟩ : FrIn) k).out.length) hS.book hS.size hS.dist (fun k hk => ⟨_, rfl, hS.rows k hk⟩) (by rw [HLEN.out]; omega) (fun k => Nat.le_trans (sealS_le _ _ _ _) (by decide))
      have HSI := Lib.hid hS
      clear hS hB
      go_wp2_with fail
      refine hown.mono ?_
      rintro e wJ ⟨rfl, hO⟩
      have hfin : Below w.heap.size w wJ := by
        have h2 := HB1.out.size
        have b1 := HB1.out.trans (HSI.out.bel.mono h2)
        refine b1.trans (hO.below b1.size (fun v hv k hk => ?_))
        obtain ⟨m, hm, rfl⟩ := List.mem_iff_getElem.1 hv
        have h1 := (HSI.out.rows m hm).lt k (by rw [List.getD_eq_getElem?_getD, List.getElem?_eq_getElem hm]; exact hk)
        omega
      have HFIN := Lib.hid hfin
      clear hown hO hfin
      go_wp2_with fail
      go_ret
      exact ⟨rfl, HFIN.out⟩⟩
end Go.Proofs.Ytofdpccjpodbhaa
