/-
  FrameSeals' walk: its frame of turned bytes.
-/
import Derived.Test.YtofdpccjpodbhaaSealsA
import Derived.Deep.DeepCutAuto
import Derived.Deep.RegionHeld3
namespace Go.Proofs.Ytofdpccjpodbhaa
open Go.RowKit
set_option linter.unusedVariables false

set_option maxHeartbeats 8000000 in
set_option maxRecDepth 20000 in
noncomputable def sealsB (w : World) (T C : Int) (ea : Option Addr) (ne ce : Nat) (ext : List UInt8) (ba : Option Addr) (nb cb : Nat) (body : List UInt8) (T' C' : Int) (ea' : Option Addr) (ne' ce' : Nat) (ext' : List UInt8) (ba' : Option Addr) (nb' cb' : Nat) (body' : List UInt8) (z1 : ne ≤ 1048576) (z2 : nb ≤ 1048576) (y1 : ne' ≤ 1048576) (y2 : nb' ≤ 1048576) :
    (R0 : Prop) ×' (Hid R0 → (sealsA w T C ea ne ce ext ba nb cb body T' C' ea' ne' ce' ext' ba' nb' cb' body' z1 z2 y1 y2).1) :=
  ⟨_, fun hR0 => by
  intro wA FA' GA' HBA w1 HP1 HB1 HF1 HG1 X1 X2 X3 X4 HKS HL1 HL2 q0 q1 q2 q3 Z2 Z3 wc u6 u22 u23 u24 u25 u26 u27 u28 u29 u30 u31 u32 u33 u34 u35 u36 u37 u38 u39 u40 u41 u42 u43 u44 u45 u46 u47 u48 u49 u50 u51 u52 u53 u54 u55 u56 u57 u58 u59 u60 u61 u62 u63 u64 u65 u66 u67 u68 u69 u70 u71 u72 u73 u74 u75 u76 u77 u78 u79 u80 u81 u82 u83 u84 u85 u86 u87 u88 u89 u90 u91 u92 u93 u94 u95 u96 u97 u98 u99 u100 u101 u102 u103 u104 u105 u106 u107 u108 u109 u110 u111 u112 u113 u114 u115 u116 u117 u118 u119 u120 u121 u122 u123 u124 u125 u126 u127 u128 u129 u130 u131 u132 u133 u134 u135 u136 u137 u138 u139 u140 u141 u142 u143 u144 u145 u146 u147 u148 u149 u150 u151 u152 u153 u154 u155 u156 u157 u158 u159 u160 u161 u162 u163 u164 u165 u166 hcut
  obtain ⟨x6, g1, c1, g2, c2, rfl, hb2, hx6, hg1, hg2, hgg, hx1, hx2, hF6, hL1, hL2⟩ := hcut
  obtain ⟨w2, hw2⟩ : ∃ w2, w2 = wc := ⟨_, rfl⟩
  subst hw2
  have HB2 := Lib.hid hb2
  have HF6 := Lib.hid hF6
  have HLE := Lib.hid hL1
  have HLB := Lib.hid hL2
  have hF2 := HF1.out.below hb2
  have q0 := hF2.c0
  have q1 := hF2.c1
  have q2 := hF2.c2
  have q3 := hF2.c3
  have HF2 := Lib.hid hF2
  have hpw : w.heap.size < w2.heap.size := hF2.lt
  have hK : ∀ w', Below w2.heap.size w2 w' → FrAt w' w.heap.size T C (.slice ea ne ce) (.slice ba nb cb) := fun w' hb => HF2.out.below hb
  have HKS2 : Hid (∀ w', Below w2.heap.size w2 w' → (fun w' => Below w2.heap.size w2 w' ∧ w'.cell? ⟨w.heap.size, 0, none⟩ = some (.int .i64 T) ∧ w'.cell? ⟨w.heap.size, 1, none⟩ = some (.int .i64 C) ∧ w'.cell? ⟨w.heap.size, 2, none⟩ = some (.slice ea ne ce) ∧ w'.cell? ⟨w.heap.size, 3, none⟩ = some (.slice ba nb cb)) w') := Lib.hid (fun w' h => ⟨h, (hK w' h).c0, (hK w' h).c1, (hK w' h).c2, (hK w' h).c3⟩)
  have ht1 : ∀ w', Below w2.heap.size w2 w' → Calls Try.prog 13 #[.slice ea ne ce] w' fun e w'' => ∃ p c, e = .returned (.slice p ne c) ∧ Below w2.heap.size w2 w'' ∧ Below w'.heap.size w' w'' ∧ OwnBytes w'' w2.heap.size 5 (.slice p ne c) (turnB ext) :=
    fun w' hb => (turned_any w' ea ne ce ext ((X1.out.below HB2.out).below hb) z1).mono fun e w'' h => by
      obtain ⟨v, e1, e2, e3⟩ := h
      obtain ⟨p, c, e4, _⟩ := e2.bytes
      rw [show (turnB ext).length = ne by unfold turnB; rw [List.length_map]; exact X1.out.len] at e4
      subst e4
      exact ⟨p, c, e1, hb.trans (e3.mono hb.size), e3, ⟨row_mono5 e2.row hb.size⟩⟩
  have ht2 : ∀ w', Below w2.heap.size w2 w' → Calls Try.prog 13 #[.slice ba nb cb] w' fun e w'' => ∃ p c, e = .returned (.slice p nb c) ∧ Below w2.heap.size w2 w'' ∧ Below w'.heap.size w' w'' ∧ OwnBytes w'' w2.heap.size 5 (.slice p nb c) (turnB body) :=
    fun w' hb => (turned_any w' ba nb cb body ((X2.out.below HB2.out).below hb) z2).mono fun e w'' h => by
      obtain ⟨v, e1, e2, e3⟩ := h
      obtain ⟨p, c, e4, _⟩ := e2.bytes
      rw [show (turnB body).length = nb by unfold turnB; rw [List.length_map]; exact X2.out.len] at e4
      subst e4
      exact ⟨p, c, e1, hb.trans (e3.mono hb.size), e3, ⟨row_mono5 e2.row hb.size⟩⟩
  have HT1 := Lib.hid ht1
  have HT2 := Lib.hid ht2
  clear hb2 hF6 hL1 hL2 hF2 hK ht1 ht2 hpw
  go_upto_region 5 with fail
  go_cut [7] (fun s7 wx => TPost w2 wx T C ext body ne nb s7)
  case first =>
    have hd1 : Below w2.heap.size w2 w2.drew := ⟨rfl, rfl, rfl, Nat.le_refl _, fun _ _ => rfl⟩
    have hd2 : Below w2.heap.size w2 (w2.drew.alloc (.cells #[.int .i64 0, .int .i64 0, .slice none 0 0, .slice none 0 0] 24)) := hd1.alloc (Nat.le_refl _) _
    go_region_held3 (fun w' => Below w2.heap.size w2 w' ∧ w'.cell? ⟨w.heap.size, 0, none⟩ = some (.int .i64 T) ∧ w'.cell? ⟨w.heap.size, 1, none⟩ = some (.int .i64 C) ∧ w'.cell? ⟨w.heap.size, 2, none⟩ = some (.slice ea ne ce) ∧ w'.cell? ⟨w.heap.size, 3, none⟩ = some (.slice ba nb cb))
      (first
        | (refine HKS2.out _ ?_; with_reducible assumption)
        | (refine HKS2.out _ ?_; with_reducible exact hBb.alloc hBb.size _)
        | (refine HKS2.out _ ?_; with_reducible refine Below.setCell (Below.setCell (Below.setCell (Below.setCell ?_ ?_ _) ?_ _) ?_ _) ?_ _; (with_reducible assumption); all_goals (first | exact Nat.le_refl _ | exact hBa.size | fail))
        | (refine HKS2.out _ ?_; exact hd2)
        | fail)
      (first
        | (go_at_call_of 13 (Value.slice ea ne ce); refine (HT1.out w2.drew hd1).mono ?_; rintro e wa ⟨p1, d1, rfl, hBa, hba, hla⟩; have hBaz := hBa.alloc hBa.size (.cells #[.int .i64 0, .int .i64 0, .slice none 0 0, .slice none 0 0] 24))
        | (go_at_call_of 13 (Value.slice ea ne ce); refine (HT1.out (w2.drew.alloc (.cells #[.int .i64 0, .int .i64 0, .slice none 0 0, .slice none 0 0] 24)) hd2).mono ?_; rintro e wa ⟨p1, d1, rfl, hBa, hba, hla⟩; have hBaz := hBa.alloc hBa.size (.cells #[.int .i64 0, .int .i64 0, .slice none 0 0, .slice none 0 0] 24); have hza : wa.heap[w2.heap.size]? = some (.cells #[.int .i64 0, .int .i64 0, .slice none 0 0, .slice none 0 0] 24 (0, 0)) := (hba.block w2.heap.size (by simp)).trans (heap_alloc_new w2.drew _))
        | (go_at_call_of 13 (Value.slice ba nb cb); have hzaa := hza; refine (HT2.out wa hBa).mono ?_; rintro e wb ⟨p2, d2, rfl, hBb, hbb, hlb⟩; have hBbz := hBb.alloc hBb.size (.cells #[.int .i64 0, .int .i64 0, .slice none 0 0, .slice none 0 0] 24); have hzb : wb.heap[w2.heap.size]? = some (.cells #[.int .i64 0, .int .i64 0, .slice none 0 0, .slice none 0 0] 24 (0, 0)) := (hbb.block w2.heap.size (Array.getElem?_eq_some_iff.1 hza).1).trans hza; have k0 : wb.cell? ⟨w2.heap.size, 0, none⟩ = some (.int .i64 0) := (by simp [World.cell?, hzb]); have k1 : wb.cell? ⟨w2.heap.size, 1, none⟩ = some (.int .i64 0) := (by simp [World.cell?, hzb]); have k2 : wb.cell? ⟨w2.heap.size, 2, none⟩ = some (.slice none 0 0) := (by simp [World.cell?, hzb]); have k3 : wb.cell? ⟨w2.heap.size, 3, none⟩ = some (.slice none 0 0) := (by simp [World.cell?, hzb]); have kf : ∀ i, wb.frozen? ⟨w2.heap.size, i, none⟩ = false := (by intro i; simp [World.frozen?, hzb]))
        | (go_at_call_of 13 (Value.slice ba nb cb); refine (HT2.out wa hBa).mono ?_; rintro e wb ⟨p2, d2, rfl, hBb, hbb, hlb⟩; have hBbz := hBb.alloc hBb.size (.cells #[.int .i64 0, .int .i64 0, .slice none 0 0, .slice none 0 0] 24))
        | (go_at_call_of 13 (Value.slice ba nb cb); refine (HT2.out (wa.alloc (.cells #[.int .i64 0, .int .i64 0, .slice none 0 0, .slice none 0 0] 24)) hBaz).mono ?_; rintro e wb ⟨p2, d2, rfl, hBb, hbb, hlb⟩; have hBbz := hBb.alloc hBb.size (.cells #[.int .i64 0, .int .i64 0, .slice none 0 0, .slice none 0 0] 24); have hzb : wb.heap[wa.heap.size]? = some (.cells #[.int .i64 0, .int .i64 0, .slice none 0 0, .slice none 0 0] 24 (0, 0)) := (hbb.block wa.heap.size (by simp)).trans (heap_alloc_new wa _); have k0 : wb.cell? ⟨wa.heap.size, 0, none⟩ = some (.int .i64 0) := (by simp [World.cell?, hzb]); have k1 : wb.cell? ⟨wa.heap.size, 1, none⟩ = some (.int .i64 0) := (by simp [World.cell?, hzb]); have k2 : wb.cell? ⟨wa.heap.size, 2, none⟩ = some (.slice none 0 0) := (by simp [World.cell?, hzb]); have k3 : wb.cell? ⟨wa.heap.size, 3, none⟩ = some (.slice none 0 0) := (by simp [World.cell?, hzb]); have kf : ∀ i, wb.frozen? ⟨wa.heap.size, i, none⟩ = false := (by intro i; simp [World.frozen?, hzb])))
    all_goals
      have hga : OwnBytes wb w2.heap.size 5 (.slice p1 ne d1) (turnB ext) := by
        first
          | exact hla.of_below hbb
          | exact (hla.of_below ((Below.refl _ _).alloc (Nat.le_refl _) _)).of_below hbb
          | fail
      have hsz1 := hBa.size
      go_wp2_with fail
      go_meet
      case rel =>
        first
          | exact tpost_alloc hBb hga hlb
          | exact tpost_set hBb hzb hsz1 hga hlb
          | exact tpost_set hBb hzb (Nat.le_refl _) hga hlb
          | fail
  case rest =>
    skip
    rename_i Y1 Y2 Y3 Y4 Y5 Y6 Y7 Y8 Y9 Y10 Y11 Y12 Y13 Y14 Y15 Y16 Y17 Y18 Y19 Y20 Y21 Y22 Y23 Y24 Y25 Y26 Y27 Y28 Y29 Y30 Y31 Y32 Y33 Y34 Y35 Y36 Y37 Y38 Y39 Y40 Y41 Y42 Y43 Y44 Y45 Y46 Y47 Y48 Y49 Y50 Y51 Y52 Y53 Y54 Y55 Y56 Y57 Y58 Y59 Y60 Y61 Y62 Y63 Y64 Y65 Y66 Y67 Y68 Y69 Y70 Y71 Y72 Y73 Y74 Y75 Y76 Y77 Y78 Y79 Y80 Y81 Y82 Y83 Y84 Y85 Y86 Y87 Y88 Y89 Y90 Y91 Y92 Y93 Y94 Y95 Y96 Y97 Y98 Y99 Y100 Y101 Y102 Y103 Y104 Y105 Y106 Y107 Y108 Y109 Y110 Y111 Y112 Y113 Y114 Y115 Y116 Y117 Y118 Y119 Y120 Y121 Y122 Y123 Y124 Y125 Y126 Y127 Y128 Y129 Y130 Y131 Y132 Y133 Y134 Y135 Y136 Y137 Y138 Y139 Y140 Y141 Y142 Y143 Y144 Y145 Y146 Y147 Y148 Y149 Y150 Y151 Y152
    revert wA FA' GA' HBA w1 HP1 HB1 HF1 HG1 X1 X2 X3 X4 HKS HL1 HL2 Y1 Y2 Y3 Y4 Y5 Y6 Y7 Y8 Y9 Y10 Y11 Y12 Y13 Y14 Y15 Y16 Y17 Y18 Y19 Y20 Y21 Y22 Y23 Y24 Y25 Y26 Y27 Y28 Y29 Y30 Y31 Y32 Y33 Y34 Y35 Y36 Y37 Y38 Y39 Y40 Y41 Y42 Y43 Y44 Y45 Y46 Y47 Y48 Y49 Y50 Y51 Y52 Y53 Y54 Y55 Y56 Y57 Y58 Y59 Y60 Y61 Y62 Y63 Y64 Y65 Y66 Y67 Y68 Y69 Y70 Y71 Y72 Y73 Y74 Y75 Y76 Y77 Y78 Y79 Y80 Y81 Y82 Y83 Y84 Y85 Y86 Y87 Y88 Y89 Y90 Y91 Y92 Y93 Y94 Y95 Y96 Y97 Y98 Y99 Y100 Y101 Y102 Y103 Y104 Y105 Y106 Y107 Y108 Y109 Y110 Y111 Y112 Y113 Y114 Y115 Y116 Y117 Y118 Y119 Y120 Y121 Y122 Y123 Y124 Y125 Y126 Y127 Y128 Y129 Y130 Y131 Y132 Y133 Y134 Y135 Y136 Y137 Y138 Y139 Y140 Y141 Y142 Y143 Y144 Y145 Y146 Y147 Y148 Y149 x6 g1 c1 g2 c2 hx6 hg1 hg2 hgg hx1 hx2 w2 HB2 HF6 HLE HLB q0 q1 q2 q3 HF2 HKS2 HT1 HT2 Y150 Y151 Y152 wc u7 u22 u23 u24 u25 u26 u27 u28 u29 u30 u31 u32 u33 u34 u35 u36 u37 u38 u39 u40 u41 u42 u43 u44 u45 u46 u47 u48 u49 u50 u51 u52 u53 u54 u55 u56 u57 u58 u59 u60 u61 u62 u63 u64 u65 u66 u67 u68 u69 u70 u71 u72 u73 u74 u75 u76 u77 u78 u79 u80 u81 u82 u83 u84 u85 u86 u87 u88 u89 u90 u91 u92 u93 u94 u95 u96 u97 u98 u99 u100 u101 u102 u103 u104 u105 u106 u107 u108 u109 u110 u111 u112 u113 u114 u115 u116 u117 u118 u119 u120 u121 u122 u123 u124 u125 u126 u127 u128 u129 u130 u131 u132 u133 u134 u135 u136 u137 u138 u139 u140 u141 u142 u143 u144 u145 u146 u147 u148 u149 u150 u151 u152 u153 u154 u155 u156 u157 u158 u159 u160 u161 u162 u163 u164 u165 u166 hcut
    exact hR0.out⟩
end Go.Proofs.Ytofdpccjpodbhaa
