/-
  FrameSeals' walk as far as its first loop. Conditions: the rows lie in memory and are not past 2^20 bytes.
-/
import Derived.Test.YtofdpccjpodbhaaSealsM
import Derived.Deep.DeepCutAuto
import Derived.Deep.RegionHeld3
namespace Go.Proofs.Ytofdpccjpodbhaa
open Go.RowKit
set_option linter.unusedVariables false

set_option maxHeartbeats 8000000 in
set_option maxRecDepth 20000 in
noncomputable def sealsA (w : World) (T C : Int) (ea : Option Addr) (ne ce : Nat) (ext : List UInt8) (ba : Option Addr) (nb cb : Nat) (body : List UInt8) (T' C' : Int) (ea' : Option Addr) (ne' ce' : Nat) (ext' : List UInt8) (ba' : Option Addr) (nb' cb' : Nat) (body' : List UInt8) (z1 : ne ≤ 1048576) (z2 : nb ≤ 1048576) (y1 : ne' ≤ 1048576) (y2 : nb' ≤ 1048576) :
    (R0 : Prop) ×' (Hid R0 → BytesIn w ea ne ce ext → BytesIn w ba nb cb body → BytesIn w ea' ne' ce' ext' → BytesIn w ba' nb' cb' body' → Calls Try.prog 3 #[.agg #[.int .i64 T, .int .i64 C, .slice ea ne ce, .slice ba nb cb], .agg #[.int .i64 T', .int .i64 C', .slice ea' ne' ce', .slice ba' nb' cb']] w fun e w' => e = .returned (.bool true) ∧ Below w.heap.size w w') :=
  ⟨_, fun hR0 => by
  intro h1 h2 h3 h4
  go_enter Try.func3, Try.ntmps3
  go_upto_region 1 with fail
  have f0 : ((w.alloc (.cells #[.int .i64 T, .int .i64 C, .slice ea ne ce, .slice ba nb cb] 24)).alloc (.cells #[.int .i64 T', .int .i64 C', .slice ea' ne' ce', .slice ba' nb' cb'] 24)).heap[w.heap.size]? = some (.cells #[.int .i64 T, .int .i64 C, .slice ea ne ce, .slice ba nb cb] 24 (0, 0)) := (heap_alloc_old _ _ (by simp)).trans (heap_alloc_new _ _)
  have f1 : ((w.alloc (.cells #[.int .i64 T, .int .i64 C, .slice ea ne ce, .slice ba nb cb] 24)).alloc (.cells #[.int .i64 T', .int .i64 C', .slice ea' ne' ce', .slice ba' nb' cb'] 24)).heap[w.heap.size + 1]? = some (.cells #[.int .i64 T', .int .i64 C', .slice ea' ne' ce', .slice ba' nb' cb'] 24 (0, 0)) := by
    have := heap_alloc_new (w.alloc (.cells #[.int .i64 T, .int .i64 C, .slice ea ne ce, .slice ba nb cb] 24)) (.cells #[.int .i64 T', .int .i64 C', .slice ea' ne' ce', .slice ba' nb' cb'] 24)
    simpa using this
  have b0 : Below w.heap.size w ((w.alloc (.cells #[.int .i64 T, .int .i64 C, .slice ea ne ce, .slice ba nb cb] 24)).alloc (.cells #[.int .i64 T', .int .i64 C', .slice ea' ne' ce', .slice ba' nb' cb'] 24)) := ((Below.refl _ _).alloc (Nat.le_refl _) _).alloc (by simp) _
  generalize ((w.alloc (.cells #[.int .i64 T, .int .i64 C, .slice ea ne ce, .slice ba nb cb] 24)).alloc (.cells #[.int .i64 T', .int .i64 C', .slice ea' ne' ce', .slice ba' nb' cb'] 24)) = wA at *
  have FA := FrAt.of_heap f0
  have GA := FrAt.of_heap f1
  clear f0 f1
  have FA' := Lib.hid FA
  have GA' := Lib.hid GA
  have HBA := Lib.hid b0
  clear FA GA b0
  go_wp2_with fail
  refine (awake_any wA).mono ?_
  rintro e w1 ⟨rfl, hb1⟩
  have hB1 : Below w.heap.size w w1 := HBA.out.trans (hb1.mono HBA.out.size)
  have F1 := FA'.out.below hb1
  have G1 := GA'.out.below hb1
  have x1 := h1.below hB1
  have x2 := h2.below hB1
  have x3 := h3.below hB1
  have x4 := h4.below hB1
  have hp1 := G1.lt
  have HP1 := Lib.hid hp1
  have HB1 := Lib.hid hB1
  have HF1 := Lib.hid F1
  have HG1 := Lib.hid G1
  have X1 := Lib.hid x1
  have X2 := Lib.hid x2
  have X3 := Lib.hid x3
  have X4 := Lib.hid x4
  have hK : ∀ w', Below w1.heap.size w1 w' → FrAt w' w.heap.size T C (.slice ea ne ce) (.slice ba nb cb) := fun w' hb => HF1.out.below hb
  have hl1 : ∀ w', Below w1.heap.size w1 w' → Calls Try.prog 12 #[.slice ea ne ce] w' fun e w'' => ∃ g cap, e = .returned (.slice (some ⟨g, 0, none⟩) ne cap) ∧ Below w1.heap.size w1 w'' ∧ w'.heap.size ≤ g ∧ Below w'.heap.size w' w'' ∧ LentAt w'' g ne cap ext :=
    fun w' hb => (lent_any w' ea ne ce ext (X1.out.below hb) z1).mono fun e w'' h => by
      obtain ⟨g, cap, e1, e2, e3, e4⟩ := lentAt_of h X1.out.len
      exact ⟨g, cap, e1, hb.trans (e3.mono hb.size), e2, e3, e4⟩
  have hl2 : ∀ w', Below w1.heap.size w1 w' → Calls Try.prog 12 #[.slice ba nb cb] w' fun e w'' => ∃ g cap, e = .returned (.slice (some ⟨g, 0, none⟩) nb cap) ∧ Below w1.heap.size w1 w'' ∧ w'.heap.size ≤ g ∧ Below w'.heap.size w' w'' ∧ LentAt w'' g nb cap body :=
    fun w' hb => (lent_any w' ba nb cb body (X2.out.below hb) z2).mono fun e w'' h => by
      obtain ⟨g, cap, e1, e2, e3, e4⟩ := lentAt_of h X2.out.len
      exact ⟨g, cap, e1, hb.trans (e3.mono hb.size), e2, e3, e4⟩
  have HKS : Hid (∀ w', Below w1.heap.size w1 w' → (fun w' => Below w1.heap.size w1 w' ∧ w'.cell? ⟨w.heap.size, 0, none⟩ = some (.int .i64 T) ∧ w'.cell? ⟨w.heap.size, 1, none⟩ = some (.int .i64 C) ∧ w'.cell? ⟨w.heap.size, 2, none⟩ = some (.slice ea ne ce) ∧ w'.cell? ⟨w.heap.size, 3, none⟩ = some (.slice ba nb cb)) w') := Lib.hid (fun w' h => ⟨h, (hK w' h).c0, (hK w' h).c1, (hK w' h).c2, (hK w' h).c3⟩)
  have HL1 := Lib.hid hl1
  have HL2 := Lib.hid hl2
  clear h1 h2 h3 h4 hb1 hB1 F1 G1 x1 x2 x3 x4 hp1 hK hl1 hl2
  have q0 := HF1.out.c0
  have q1 := HF1.out.c1
  have q2 := HF1.out.c2
  have q3 := HF1.out.c3
  go_upto_region 4 with fail
  go_cut [6] (fun s6 wx => XPost w1 wx T C ext body ne nb s6)
  case first =>
    have hd1 : Below w1.heap.size w1 w1.drew := ⟨rfl, rfl, rfl, Nat.le_refl _, fun _ _ => rfl⟩
    have hd2 : Below w1.heap.size w1 (w1.drew.alloc (.cells #[.int .i64 0, .int .i64 0, .slice none 0 0, .slice none 0 0] 24)) := hd1.alloc (Nat.le_refl _) _
    go_region_held3 (fun w' => Below w1.heap.size w1 w' ∧ w'.cell? ⟨w.heap.size, 0, none⟩ = some (.int .i64 T) ∧ w'.cell? ⟨w.heap.size, 1, none⟩ = some (.int .i64 C) ∧ w'.cell? ⟨w.heap.size, 2, none⟩ = some (.slice ea ne ce) ∧ w'.cell? ⟨w.heap.size, 3, none⟩ = some (.slice ba nb cb))
      (first
        | (refine HKS.out _ ?_; with_reducible assumption)
        | (refine HKS.out _ ?_; with_reducible exact hBb.alloc hBb.size _)
        | (refine HKS.out _ ?_; with_reducible refine Below.setCell (Below.setCell (Below.setCell (Below.setCell ?_ ?_ _) ?_ _) ?_ _) ?_ _; (with_reducible assumption); all_goals (first | exact Nat.le_refl _ | exact hBa.size | fail))
        | (refine HKS.out _ ?_; exact hd2)
        | fail)
      (first
        | (go_at_call_of 12 (Value.slice ea ne ce); refine (HL1.out w1.drew hd1).mono ?_; rintro e wa ⟨g1, c1, rfl, hBa, hg1, hba, hla⟩; have hBaz := hBa.alloc hBa.size (.cells #[.int .i64 0, .int .i64 0, .slice none 0 0, .slice none 0 0] 24))
        | (go_at_call_of 12 (Value.slice ea ne ce); refine (HL1.out (w1.drew.alloc (.cells #[.int .i64 0, .int .i64 0, .slice none 0 0, .slice none 0 0] 24)) hd2).mono ?_; rintro e wa ⟨g1, c1, rfl, hBa, hg1, hba, hla⟩; have hBaz := hBa.alloc hBa.size (.cells #[.int .i64 0, .int .i64 0, .slice none 0 0, .slice none 0 0] 24); have hza : wa.heap[w1.heap.size]? = some (.cells #[.int .i64 0, .int .i64 0, .slice none 0 0, .slice none 0 0] 24 (0, 0)) := (hba.block w1.heap.size (by simp)).trans (heap_alloc_new w1.drew _))
        | (go_at_call_of 12 (Value.slice ba nb cb); have hzaa := hza; refine (HL2.out wa hBa).mono ?_; rintro e wb ⟨g2, c2, rfl, hBb, hg2, hbb, hlb⟩; have hBbz := hBb.alloc hBb.size (.cells #[.int .i64 0, .int .i64 0, .slice none 0 0, .slice none 0 0] 24); have hzb : wb.heap[w1.heap.size]? = some (.cells #[.int .i64 0, .int .i64 0, .slice none 0 0, .slice none 0 0] 24 (0, 0)) := (hbb.block w1.heap.size (Array.getElem?_eq_some_iff.1 hza).1).trans hza; have k0 : wb.cell? ⟨w1.heap.size, 0, none⟩ = some (.int .i64 0) := (by simp [World.cell?, hzb]); have k1 : wb.cell? ⟨w1.heap.size, 1, none⟩ = some (.int .i64 0) := (by simp [World.cell?, hzb]); have k2 : wb.cell? ⟨w1.heap.size, 2, none⟩ = some (.slice none 0 0) := (by simp [World.cell?, hzb]); have k3 : wb.cell? ⟨w1.heap.size, 3, none⟩ = some (.slice none 0 0) := (by simp [World.cell?, hzb]); have kf : ∀ i, wb.frozen? ⟨w1.heap.size, i, none⟩ = false := (by intro i; simp [World.frozen?, hzb]))
        | (go_at_call_of 12 (Value.slice ba nb cb); refine (HL2.out wa hBa).mono ?_; rintro e wb ⟨g2, c2, rfl, hBb, hg2, hbb, hlb⟩; have hBbz := hBb.alloc hBb.size (.cells #[.int .i64 0, .int .i64 0, .slice none 0 0, .slice none 0 0] 24))
        | (go_at_call_of 12 (Value.slice ba nb cb); refine (HL2.out (wa.alloc (.cells #[.int .i64 0, .int .i64 0, .slice none 0 0, .slice none 0 0] 24)) hBaz).mono ?_; rintro e wb ⟨g2, c2, rfl, hBb, hg2, hbb, hlb⟩; have hBbz := hBb.alloc hBb.size (.cells #[.int .i64 0, .int .i64 0, .slice none 0 0, .slice none 0 0] 24); have hzb : wb.heap[wa.heap.size]? = some (.cells #[.int .i64 0, .int .i64 0, .slice none 0 0, .slice none 0 0] 24 (0, 0)) := (hbb.block wa.heap.size (by simp)).trans (heap_alloc_new wa _); have k0 : wb.cell? ⟨wa.heap.size, 0, none⟩ = some (.int .i64 0) := (by simp [World.cell?, hzb]); have k1 : wb.cell? ⟨wa.heap.size, 1, none⟩ = some (.int .i64 0) := (by simp [World.cell?, hzb]); have k2 : wb.cell? ⟨wa.heap.size, 2, none⟩ = some (.slice none 0 0) := (by simp [World.cell?, hzb]); have k3 : wb.cell? ⟨wa.heap.size, 3, none⟩ = some (.slice none 0 0) := (by simp [World.cell?, hzb]); have kf : ∀ i, wb.frozen? ⟨wa.heap.size, i, none⟩ = false := (by intro i; simp [World.frozen?, hzb])))
    all_goals
      have hga : LentAt wb g1 ne c1 ext := hla.of_block (by
        first
          | exact hbb.block g1 hla.lt
          | exact (hbb.block g1 (Nat.lt_of_lt_of_le hla.lt (by simp))).trans (heap_alloc_old wa _ hla.lt)
          | fail)
      have hgl := hga.lt
      have hglb := hlb.lt
      have hsz1 := hBa.size
      have hsz2 := hbb.size
      have hla1 := hla.lt
      go_wp2_with fail
      go_meet
      case rel =>
        have eA : (wa.alloc (.cells #[.int .i64 0, .int .i64 0, .slice none 0 0, .slice none 0 0] 24)).heap.size = wa.heap.size + 1 := by simp
        have eD : (w1.drew.alloc (.cells #[.int .i64 0, .int .i64 0, .slice none 0 0, .slice none 0 0] 24)).heap.size = w1.heap.size + 1 := by simp
        have e0 : w1.drew.heap.size = w1.heap.size := rfl
        first
          | exact xpost_alloc hBb hga hlb (by omega) (by omega) (by omega)
          | exact xpost_set hBb hzb hga hlb (by omega) (by omega) (by omega) (by omega) (by omega) (by omega)
          | fail
  case rest =>
    skip
    rename_i Z1 Z2 Z3
    revert Z1 wA FA' GA' HBA w1 HP1 HB1 HF1 HG1 X1 X2 X3 X4 HKS HL1 HL2 q0 q1 q2 q3 Z2 Z3 wc u6 u22 u23 u24 u25 u26 u27 u28 u29 u30 u31 u32 u33 u34 u35 u36 u37 u38 u39 u40 u41 u42 u43 u44 u45 u46 u47 u48 u49 u50 u51 u52 u53 u54 u55 u56 u57 u58 u59 u60 u61 u62 u63 u64 u65 u66 u67 u68 u69 u70 u71 u72 u73 u74 u75 u76 u77 u78 u79 u80 u81 u82 u83 u84 u85 u86 u87 u88 u89 u90 u91 u92 u93 u94 u95 u96 u97 u98 u99 u100 u101 u102 u103 u104 u105 u106 u107 u108 u109 u110 u111 u112 u113 u114 u115 u116 u117 u118 u119 u120 u121 u122 u123 u124 u125 u126 u127 u128 u129 u130 u131 u132 u133 u134 u135 u136 u137 u138 u139 u140 u141 u142 u143 u144 u145 u146 u147 u148 u149 u150 u151 u152 u153 u154 u155 u156 u157 u158 u159 u160 u161 u162 u163 u164 u165 u166 hcut
    exact hR0.out⟩
end Go.Proofs.Ytofdpccjpodbhaa
