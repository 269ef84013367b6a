/-
  FrameSeals' walk: its first loop, set up.
-/
import Derived.Test.YtofdpccjpodbhaaSealsB
import Derived.Test.YtofdpccjpodbhaaSealsN
import Derived.Deep.DeepCutAuto
namespace Go.Proofs.Ytofdpccjpodbhaa
open Go.RowKit
set_option linter.unusedVariables false

set_option maxHeartbeats 8000000 in
set_option maxRecDepth 20000 in
noncomputable def sealsC (w : World) (T C : Int) (ea : Option Addr) (ne ce : Nat) (ext : List UInt8) (ba : Option Addr) (nb cb : Nat) (body : List UInt8) (T' C' : Int) (ea' : Option Addr) (ne' ce' : Nat) (ext' : List UInt8) (ba' : Option Addr) (nb' cb' : Nat) (body' : List UInt8) (z1 : ne ≤ 1048576) (z2 : nb ≤ 1048576) (y1 : ne' ≤ 1048576) (y2 : nb' ≤ 1048576) :
    (R0 : Prop) ×' (R1 : Prop) ×' (Hid R0 → Hid R1 → (sealsB w T C ea ne ce ext ba nb cb body T' C' ea' ne' ce' ext' ba' nb' cb' body' z1 z2 y1 y2).1) :=
  ⟨_, _, fun hR0 hR1 => by
  intro wA FA' GA' HBA w1 HP1 HB1 HF1 HG1 X1 X2 X3 X4 HKS HL1 HL2 Y1 Y2 Y3 Y4 Y5 Y6 Y7 Y8 Y9 Y10 Y11 Y12 Y13 Y14 Y15 Y16 Y17 Y18 Y19 Y20 Y21 Y22 Y23 Y24 Y25 Y26 Y27 Y28 Y29 Y30 Y31 Y32 Y33 Y34 Y35 Y36 Y37 Y38 Y39 Y40 Y41 Y42 Y43 Y44 Y45 Y46 Y47 Y48 Y49 Y50 Y51 Y52 Y53 Y54 Y55 Y56 Y57 Y58 Y59 Y60 Y61 Y62 Y63 Y64 Y65 Y66 Y67 Y68 Y69 Y70 Y71 Y72 Y73 Y74 Y75 Y76 Y77 Y78 Y79 Y80 Y81 Y82 Y83 Y84 Y85 Y86 Y87 Y88 Y89 Y90 Y91 Y92 Y93 Y94 Y95 Y96 Y97 Y98 Y99 Y100 Y101 Y102 Y103 Y104 Y105 Y106 Y107 Y108 Y109 Y110 Y111 Y112 Y113 Y114 Y115 Y116 Y117 Y118 Y119 Y120 Y121 Y122 Y123 Y124 Y125 Y126 Y127 Y128 Y129 Y130 Y131 Y132 Y133 Y134 Y135 Y136 Y137 Y138 Y139 Y140 Y141 Y142 Y143 Y144 Y145 Y146 Y147 Y148 Y149 x6 g1 c1 g2 c2 hx6 hg1 hg2 hgg hx1 hx2 w2 HB2 HF6 HLE HLB q0 q1 q2 q3 HF2 HKS2 HT1 HT2 Y150 Y151 Y152 wc u7 u22 u23 u24 u25 u26 u27 u28 u29 u30 u31 u32 u33 u34 u35 u36 u37 u38 u39 u40 u41 u42 u43 u44 u45 u46 u47 u48 u49 u50 u51 u52 u53 u54 u55 u56 u57 u58 u59 u60 u61 u62 u63 u64 u65 u66 u67 u68 u69 u70 u71 u72 u73 u74 u75 u76 u77 u78 u79 u80 u81 u82 u83 u84 u85 u86 u87 u88 u89 u90 u91 u92 u93 u94 u95 u96 u97 u98 u99 u100 u101 u102 u103 u104 u105 u106 u107 u108 u109 u110 u111 u112 u113 u114 u115 u116 u117 u118 u119 u120 u121 u122 u123 u124 u125 u126 u127 u128 u129 u130 u131 u132 u133 u134 u135 u136 u137 u138 u139 u140 u141 u142 u143 u144 u145 u146 u147 u148 u149 u150 u151 u152 u153 u154 u155 u156 u157 u158 u159 u160 u161 u162 u163 u164 u165 u166 hcut
  obtain ⟨x7, p1, d1, p2, d2, rfl, hb3, hx7, hF7, hT1, hT2⟩ := hcut
  obtain ⟨w3, hw3⟩ : ∃ w3, w3 = wc := ⟨_, rfl⟩
  subst hw3
  have hF3 := HF2.out.below hb3
  have hb13 := HB2.out.trans (hb3.mono HB2.out.size)
  have hG3 := HG1.out.below hb13
  have q0 := hF3.c0
  have q1 := hF3.c1
  have q2 := hF3.c2
  have q3 := hF3.c3
  have r0 := hG3.c0
  have r1 := hG3.c1
  have r2 := hG3.c2
  have r3 := hG3.c3
  have HX6 := Lib.hid (HF6.out.below hb3)
  have HE6 := Lib.hid (HLE.out.below hb3)
  have HB6 := Lib.hid (HLB.out.below hb3)
  have HG3 := Lib.hid hG3
  have HX7 := Lib.hid hF7
  have HT17 := Lib.hid hT1
  have HT27 := Lib.hid hT2
  have HB3 := Lib.hid hb13
  have ht1l : ∀ k, (Value.slice p1 ne d1).ownBlock = some k → w2.heap.size ≤ k ∧ k < w3.heap.size := hT1.row.lt
  have ht2l : ∀ k, (Value.slice p2 nb d2).ownBlock = some k → w2.heap.size ≤ k ∧ k < w3.heap.size := hT2.row.lt
  have HT1L := Lib.hid ht1l
  have HT2L := Lib.hid ht2l
  have lw1 := HLE.out.lt
  have lw2 := HLB.out.lt
  have lw6 := HF6.out.lt
  have HSZ23 : Hid (w2.heap.size ≤ w3.heap.size) := Lib.hid hb3.size
  clear ht1l ht2l hF3 hb13 hG3 hF7 hT1 hT2 hb3 HF6 HLE HLB HF2 HKS2 HT1 HT2 HKS HL1 HL2
  go_upto_region 9 with fail
  have s0 : ((w3.alloc (.cells #[.int .i64 T, .int .i64 C, .slice ea ne ce, .slice ba nb cb, .int .i64 T', .int .i64 C', .slice ea' ne' ce', .slice ba' nb' cb', .int .i64 T, .int .i64 C, .slice ea ne ce, .slice ba nb cb, .int .i64 T, .int .i64 C, .slice ea ne ce, .slice ba nb cb] 24)).alloc (.cells #[.slice none 0 0] 31)).heap[w3.heap.size]? = some (.cells #[.int .i64 T, .int .i64 C, .slice ea ne ce, .slice ba nb cb, .int .i64 T', .int .i64 C', .slice ea' ne' ce', .slice ba' nb' cb', .int .i64 T, .int .i64 C, .slice ea ne ce, .slice ba nb cb, .int .i64 T, .int .i64 C, .slice ea ne ce, .slice ba nb cb] 24 (0, 0)) := (heap_alloc_old _ _ (by simp)).trans (heap_alloc_new _ _)
  have s1 : ((w3.alloc (.cells #[.int .i64 T, .int .i64 C, .slice ea ne ce, .slice ba nb cb, .int .i64 T', .int .i64 C', .slice ea' ne' ce', .slice ba' nb' cb', .int .i64 T, .int .i64 C, .slice ea ne ce, .slice ba nb cb, .int .i64 T, .int .i64 C, .slice ea ne ce, .slice ba nb cb] 24)).alloc (.cells #[.slice none 0 0] 31)).heap[w3.heap.size + 1]? = some (.cells #[.slice none 0 0] 31 (0, 0)) := by
    have := heap_alloc_new (w3.alloc (.cells #[.int .i64 T, .int .i64 C, .slice ea ne ce, .slice ba nb cb, .int .i64 T', .int .i64 C', .slice ea' ne' ce', .slice ba' nb' cb', .int .i64 T, .int .i64 C, .slice ea ne ce, .slice ba nb cb, .int .i64 T, .int .i64 C, .slice ea ne ce, .slice ba nb cb] 24)) (.cells #[.slice none 0 0] 31)
    simpa using this
  have b0 : Below w3.heap.size w3 ((w3.alloc (.cells #[.int .i64 T, .int .i64 C, .slice ea ne ce, .slice ba nb cb, .int .i64 T', .int .i64 C', .slice ea' ne' ce', .slice ba' nb' cb', .int .i64 T, .int .i64 C, .slice ea ne ce, .slice ba nb cb, .int .i64 T, .int .i64 C, .slice ea ne ce, .slice ba nb cb] 24)).alloc (.cells #[.slice none 0 0] 31)) := ((Below.refl _ _).alloc (Nat.le_refl _) _).alloc (by simp) _
  have zz : w3.heap.size + 2 ≤ ((w3.alloc (.cells #[.int .i64 T, .int .i64 C, .slice ea ne ce, .slice ba nb cb, .int .i64 T', .int .i64 C', .slice ea' ne' ce', .slice ba' nb' cb', .int .i64 T, .int .i64 C, .slice ea ne ce, .slice ba nb cb, .int .i64 T, .int .i64 C, .slice ea ne ce, .slice ba nb cb] 24)).alloc (.cells #[.slice none 0 0] 31)).heap.size := by simp
  generalize ((w3.alloc (.cells #[.int .i64 T, .int .i64 C, .slice ea ne ce, .slice ba nb cb, .int .i64 T', .int .i64 C', .slice ea' ne' ce', .slice ba' nb' cb', .int .i64 T, .int .i64 C, .slice ea ne ce, .slice ba nb cb, .int .i64 T, .int .i64 C, .slice ea ne ce, .slice ba nb cb] 24)).alloc (.cells #[.slice none 0 0] 31)) = wE at *
  have HAS := Lib.hid s0
  have HXE := Lib.hid (HX6.out.below b0)
  have HEE := Lib.hid (HE6.out.below b0)
  have HBE := Lib.hid (HB6.out.below b0)
  have HGE := Lib.hid (HG3.out.below b0)
  have HX7E := Lib.hid (HX7.out.below b0)
  have HT1E := Lib.hid (HT17.out.of_below b0)
  have HT2E := Lib.hid (HT27.out.of_below b0)
  have lE := HX6.out.lt
  have lG := HG3.out.lt
  have l1 := HE6.out.lt
  have l2 := HB6.out.lt
  have l7 := HX7.out.lt
  have h13 := HB3.out.size
  have hS : Shelf5 w1 wE (w3.heap.size + 1) (w3.heap.size + 2) (.slice none 0 0) [] (fun j => (askS (⟨T, C, ea, ne, ce, ext, ba, nb, cb, body⟩ : FrIn) (⟨T', C', ea', ne', ce', ext', ba', nb', cb', body'⟩ : FrIn) (⟨T, C, p1, ne, d1, turnB ext, p2, nb, d2, turnB body⟩ : FrIn) j).out) :=
    ⟨HB3.out.trans (b0.mono h13), by omega, by omega, zz, ⟨s1, World.ownsRow_nil _ _ _ _⟩, fun j hj => absurd hj (Nat.not_lt_zero _), fun i j hi => absurd hi (Nat.not_lt_zero _)⟩
  have HS := Lib.hid hS
  obtain ⟨ab, hab⟩ : ∃ p, w3.heap.size = p := ⟨_, rfl⟩
  rw [hab] at HS HAS HT1L HT2L HSZ23 lE lG l1 l2 l7 h13 ⊢
  clear hab s0 s1 b0 zz hS HX6 HE6 HB6 HG3 HX7 HT17 HT27 HB3
  go_wp2_with fail
  go_loopw [10, 11] (fun s10 s11 wr => ∃ (i : Nat) (vl : Value) (vs : List Value), i ≤ 4 ∧ s11 = .int .i64 i ∧ vs.length = i ∧ Shelf5 w1 wr (ab + 1) (ab + 2) vl vs (fun j => (askS (⟨T, C, ea, ne, ce, ext, ba, nb, cb, body⟩ : FrIn) (⟨T', C', ea', ne', ce', ext', ba', nb', cb', body'⟩ : FrIn) (⟨T, C, p1, ne, d1, turnB ext, p2, nb, d2, turnB body⟩ : FrIn) j).out) ∧ wr.ownsRow (ab + 2) 33 1 s10 i (codeL (⟨T, C, ea, ne, ce, ext, ba, nb, cb, body⟩ : FrIn) (⟨T', C', ea', ne', ce', ext', ba', nb', cb', body'⟩ : FrIn) (⟨T, C, p1, ne, d1, turnB ext, p2, nb, d2, turnB body⟩ : FrIn) i) ∧ Hid (SameB wE wr (ab + 2) (ab + 1))) (fun _ s11 _ => 4 - (intOf s11).toNat)
  case atStart => exact ⟨0, _, [], by omega, rfl, rfl, HS.out, World.ownsRow_nil _ _ _ _, Lib.hid (SameB.refl _ _ _)⟩
  case round =>
    clear HS
    obtain ⟨i, vl, vs, hi, rfl, hvl, hS, hcd, hsm⟩ := hrel
    have HVL := Lib.hid hvl
    have HS := Lib.hid hS
    have HCD := Lib.hid hcd
    clear hvl hS hcd
    by_cases hlt : i < 4
    · skip
      rename_i Xq1 Xq2 Xq3 Xq4 Xq5 Xq6 Xq7 Xq8 Xq9 Xq10 Xq11 Xq12 Xq13 Xq14 Xq15 Xq16 Xq17 Xq18 Xq19 Xq20 Xq21 Xq22 Xq23 Xq24 Xq25 Xq26 Xq27 Xq28 Xq29 Xq30 Xq31 Xq32 Xq33 Xq34 Xq35
      revert wA FA' GA' HBA w1 HP1 HB1 HF1 HG1 X1 X2 X3 X4 Y1 Y2 Y3 Y4 Y5 Y6 Y7 Y8 Y9 Y10 Y11 Y12 Y13 Y14 Y15 Y16 Y17 Y18 Y19 Y20 Y21 Y22 Y23 Y24 Y25 Y26 Y27 Y28 Y29 Y30 Y31 Y32 Y33 Y34 Y35 Y36 Y37 Y38 Y39 Y40 Y41 Y42 Y43 Y44 Y45 Y46 Y47 Y48 Y49 Y50 Y51 Y52 Y53 Y54 Y55 Y56 Y57 Y58 Y59 Y60 Y61 Y62 Y63 Y64 Y65 Y66 Y67 Y68 Y69 Y70 Y71 Y72 Y73 Y74 Y75 Y76 Y77 Y78 Y79 Y80 Y81 Y82 Y83 Y84 Y85 Y86 Y87 Y88 Y89 Y90 Y91 Y92 Y93 Y94 Y95 Y96 Y97 Y98 Y99 Y100 Y101 Y102 Y103 Y104 Y105 Y106 Y107 Y108 Y109 Y110 Y111 Y112 Y113 Y114 Y115 Y116 Y117 Y118 Y119 Y120 Y121 Y122 Y123 Y124 Y125 Y126 Y127 Y128 Y129 Y130 Y131 Y132 Y133 Y134 Y135 Y136 Y137 Y138 Y139 Y140 Y141 Y142 Y143 Y144 Y145 Y146 Y147 Y148 Y149 x6 g1 c1 g2 c2 hx6 hg1 hg2 hgg hx1 hx2 w2 HB2 Xq1 Xq2 Xq3 Xq4 Y150 u22 u23 u24 u25 u26 u27 u28 u29 u30 u31 u32 u33 u34 u35 u36 u37 u38 u39 u40 u41 u42 u43 u44 u45 u46 u47 u48 u49 u50 u51 u52 u53 Xq5 Xq6 Xq7 Xq8 Xq9 Xq10 Xq11 Xq12 Xq13 Xq14 Xq15 Xq16 Xq17 Xq18 Xq19 Xq20 Xq21 Xq22 Xq23 Xq24 Xq25 Xq26 Xq27 Xq28 Xq29 Xq30 Xq31 Xq32 Xq33 u83 u84 u85 u86 u87 u88 u89 u90 u91 u92 u93 u94 u95 u96 u97 u98 u99 u100 u101 u102 u103 u104 u105 u106 u107 u108 u109 u110 u111 u112 u113 u114 u115 u116 u117 u118 u119 u120 u121 u122 u123 u124 u125 u126 u127 u128 u129 u130 u131 u132 u133 u134 u135 u136 u137 u138 u139 u140 u141 u142 u143 u144 u145 u146 u147 u148 u149 u150 u151 u152 u153 u154 u155 u156 u157 u158 u159 u160 u161 u162 u163 u164 u165 u166 x7 p1 d1 p2 d2 hx7 w3 q0 q1 q2 q3 r0 r1 r2 r3 lw1 lw2 lw6 Xq34 Xq35 wE HXE HEE HBE HGE HX7E HT1E HT2E ab h13 l7 l2 l1 lG lE HSZ23 HT2L HT1L HAS wr u10 u12 u13 u14 u54 u55 u56 u57 u58 u59 u60 u61 u62 u63 u64 u65 u66 u67 u68 u69 u70 u71 u72 u73 u74 u75 u76 u77 u78 u79 u80 u81 u82 i vl vs hi hsm HVL HS HCD hlt
      exact hR0.out
    · skip
      rename_i Xq1 Xq2 Xq3 Xq4 Xq5 Xq6 Xq7 Xq8 Xq9 Xq10 Xq11 Xq12 Xq13 Xq14 Xq15 Xq16 Xq17 Xq18 Xq19 Xq20 Xq21 Xq22 Xq23 Xq24 Xq25 Xq26 Xq27 Xq28 Xq29 Xq30 Xq31 Xq32 Xq33 Xq34 Xq35
      revert wA FA' GA' HBA w1 HP1 HB1 HF1 HG1 X1 X2 X3 X4 Y1 Y2 Y3 Y4 Y5 Y6 Y7 Y8 Y9 Y10 Y11 Y12 Y13 Y14 Y15 Y16 Y17 Y18 Y19 Y20 Y21 Y22 Y23 Y24 Y25 Y26 Y27 Y28 Y29 Y30 Y31 Y32 Y33 Y34 Y35 Y36 Y37 Y38 Y39 Y40 Y41 Y42 Y43 Y44 Y45 Y46 Y47 Y48 Y49 Y50 Y51 Y52 Y53 Y54 Y55 Y56 Y57 Y58 Y59 Y60 Y61 Y62 Y63 Y64 Y65 Y66 Y67 Y68 Y69 Y70 Y71 Y72 Y73 Y74 Y75 Y76 Y77 Y78 Y79 Y80 Y81 Y82 Y83 Y84 Y85 Y86 Y87 Y88 Y89 Y90 Y91 Y92 Y93 Y94 Y95 Y96 Y97 Y98 Y99 Y100 Y101 Y102 Y103 Y104 Y105 Y106 Y107 Y108 Y109 Y110 Y111 Y112 Y113 Y114 Y115 Y116 Y117 Y118 Y119 Y120 Y121 Y122 Y123 Y124 Y125 Y126 Y127 Y128 Y129 Y130 Y131 Y132 Y133 Y134 Y135 Y136 Y137 Y138 Y139 Y140 Y141 Y142 Y143 Y144 Y145 Y146 Y147 Y148 Y149 x6 g1 c1 g2 c2 hx6 hg1 hg2 hgg hx1 hx2 w2 HB2 Xq1 Xq2 Xq3 Xq4 Y150 u22 u23 u24 u25 u26 u27 u28 u29 u30 u31 u32 u33 u34 u35 u36 u37 u38 u39 u40 u41 u42 u43 u44 u45 u46 u47 u48 u49 u50 u51 u52 u53 Xq5 Xq6 Xq7 Xq8 Xq9 Xq10 Xq11 Xq12 Xq13 Xq14 Xq15 Xq16 Xq17 Xq18 Xq19 Xq20 Xq21 Xq22 Xq23 Xq24 Xq25 Xq26 Xq27 Xq28 Xq29 Xq30 Xq31 Xq32 Xq33 u83 u84 u85 u86 u87 u88 u89 u90 u91 u92 u93 u94 u95 u96 u97 u98 u99 u100 u101 u102 u103 u104 u105 u106 u107 u108 u109 u110 u111 u112 u113 u114 u115 u116 u117 u118 u119 u120 u121 u122 u123 u124 u125 u126 u127 u128 u129 u130 u131 u132 u133 u134 u135 u136 u137 u138 u139 u140 u141 u142 u143 u144 u145 u146 u147 u148 u149 u150 u151 u152 u153 u154 u155 u156 u157 u158 u159 u160 u161 u162 u163 u164 u165 u166 x7 p1 d1 p2 d2 hx7 w3 q0 q1 q2 q3 r0 r1 r2 r3 lw1 lw2 lw6 Xq34 Xq35 wE HXE HEE HBE HGE HX7E HT1E HT2E ab h13 l7 l2 l1 lG lE HSZ23 HT2L HT1L HAS wr u10 u12 u13 u14 u54 u55 u56 u57 u58 u59 u60 u61 u62 u63 u64 u65 u66 u67 u68 u69 u70 u71 u72 u73 u74 u75 u76 u77 u78 u79 u80 u81 u82 i vl vs hi hsm HVL HS HCD hlt
      exact hR1.out⟩
end Go.Proofs.Ytofdpccjpodbhaa
