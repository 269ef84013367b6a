/-
  FrameBack's walk, the round of its first loop. Conditions: the slices lie in memory and are not past 2^20 elements, the numbers are ones.
-/
import Derived.Test.YtofdpccjpodbhaaFbackA
import Derived.Deep.DeepCutAuto
import Derived.Deep.AppendLies
import Derived.Deep.QuietTactic
import Derived.BigQuiet
import Derived.Deep.RegionLaw
namespace Go.Proofs.Ytofdpccjpodbhaa
open Go.RowKit
set_option linter.unusedVariables false

set_option maxHeartbeats 8000000 in
set_option maxRecDepth 20000 in
theorem fbackB (w : World) (a0 a1 a2 a3 : Option Addr) (n0 n1 n2 n3 c0 c1 c2 c3 : Nat) (L : List FrIn) (pr : List Int) (l2 l3 : List UInt8) (cut : Int)
    (hc1 : -9223372036854775808 ≤ cut) (hc2 : cut ≤ 9223372036854775807) (z0 : n0 ≤ 1048576) (z1 : n1 ≤ 1048576) (z2 : n2 ≤ 1048576) (z3 : n3 ≤ 1048576) : (fbackA w a0 a1 a2 a3 n0 n1 n2 n3 c0 c1 c2 c3 L pr l2 l3 cut hc1 hc2 z0 z1 z2 z3).1 := by
  intro w1 HB1 G3 GP GL l2l va wA Z2 Z3 wr u10 u13 u14 u16 u17 u18 u19 u20 u21 u22 u23 u24 u43 u44 u45 u46 u47 u48 u49 u50 u51 u52 u53 u54 u55 u56 u57 u58 u59 u60 u61 u62 u63 u64 u65 u66 u67 u68 u69 u70 u71 u72 u73 u74 u75 u76 u77 u78 u79 u80 u81 u82 u83 u84 u85 u86 u87 u88 u89 u90 u91 u92 u93 u94 u95 u96 u97 u98 u99 u100 u101 u102 u103 u104 u105 u106 u107 u108 u109 u110 u111 u112 u113 u114 u115 u116 u117 u118 u119 u120 u121 u122 u123 u124 u125 u126 u127 u128 u129 u130 u131 u132 u133 u134 u135 u136 u137 u138 u139 u140 u141 u142 u143 u144 u145 u146 u147 u148 u149 u150 u151 u152 u153 u154 u155 u156 u157 u158 u159 u160 i l P hi hPi pa ca hcap m hle hll HM HBY HF hlt hm4
  have hi1 : (i : Int) < (n0 : Int) := by omega
  have hi2 : (m : Int) < 4000000 := by omega
  go_upto_region 10 with fail
  clear hi2
  go_upto_if 57 with fail
  go_cut [12] (fun s12 wx => ∃ l' : List UInt8, FB w1 wx L s12 u13 u14 l' P ∧ l'.length ≤ m + 8)
  case first =>
    by_cases hin : i < n1
    · have hin' : (i : Int) < (n1 : Int) := by omega
      have hpr := GP.out.below HF.out.bel
      obtain ⟨b, o, rfl, hbw, hcc⟩ := GP.out.at_ (by have := hpr.le; omega)
      have hc1 := hcc i hin
      have hpc := hpr.cap
      have hpl := hpr.le
      unfold maxLen at hpc
      have HFO := Lib.hid HF.out
      obtain ⟨q, hq⟩ : ∃ q, pr.getD i 0 = q := ⟨_, rfl⟩
      rw [hq] at hc1
      have hcell := (HF.out.bel.cell (p := ⟨b, o + i, none⟩) hbw).trans hc1
      have HC1 := Lib.hid hc1
      clear hq hcc hpr hc1 HFO
      by_cases q0 : q = 0
      · subst q0
        go_wp2_with fail
        refine (Header_ok wr 0 (by decide)).mono ?_
        rintro e w2 ⟨g, rfl, hg, hb2, hk⟩
        have hF2 := HF.out.below hb2
        have hgw := hk.lt
        have HF2 := Lib.hid hF2
        have hk2 := hk.all 8 8 rfl (Nat.le_refl _) (by decide)
        have ho2 := hF2.all
        have hcells2 := (hF2.bel.cell (p := ⟨b, o + i, none⟩) hbw).trans HC1.out
        have hbs := hF2.bel.size
        clear hF2 hk hb2 hcell hg
        go_upto_region 16 with fail
        go_wp2_with (at_builtin; refine wpList_append_bytes rfl _ _ 22 rfl w1.heap.size 5 Try.underlying22 info_u8 (.slice pa m ca) l (headL 0) _ 8 8 rfl rfl ho2 hk2 ?hlen hbs ?_)
        case hlen => rw [HM.out]; omega
        intro v3 w3 ho3 hg3
        have hF3 := HF2.out.putBytes ho3 hg3
        obtain ⟨p3, cc3, rfl, hby3⟩ := hF3.form
        have hl3 : (l ++ headL 0).length = m + 8 := by rw [List.length_append, HM.out]; rfl
        rw [hl3] at hby3 hF3 ⊢
        have hrd := readH_end l 0 (by decide)
        rw [HM.out] at hrd
        have hR : Calls _ _ _ _ (fun e w' => e = .returned (.tuple #[.int .i64 0, .int .i64 ((m : Int) + 8), .int .i64 0]) ∧ Below _ _ w') :=
          (read_in w3 p3 (m + 8) cc3 (l ++ headL 0) m hby3 (by omega) (by omega)).mono fun e w' h => by rw [hrd] at h; exact h
        have HF3 := Lib.hid hF3
        have HL3 := Lib.hid hl3
        clear ho3 hg3 hF3 hl3 hby3 hrd ho2 hk2 hcells2
        go_upto_region 17 with fail
        go_wp2_with fail
        refine hR.mono ?_
        rintro e w4 ⟨rfl, hb4⟩
        have hF4 := HF3.out.below hb4
        have hcells4 := (hF4.bel.cell (p := ⟨b, o + i, none⟩) hbw).trans HC1.out
        have HF4 := Lib.hid hF4
        clear hb4 hR hF4
        go_wp2_with fail
        go_meet
        case rel => exact ⟨_, HF4.out, by rw [HL3.out]; exact Nat.le_refl _⟩
      · by_cases q3 : q = 3
        · subst q3
          go_wp2_with fail
          refine (Header_ok wr 3 (by decide)).mono ?_
          rintro e w2 ⟨g, rfl, hg, hb2, hk⟩
          have hF2 := HF.out.below hb2
          have hgw := hk.lt
          have HF2 := Lib.hid hF2
          have hk2 := hk.all 8 8 rfl (Nat.le_refl _) (by decide)
          have ho2 := hF2.all
          have hcells2 := (hF2.bel.cell (p := ⟨b, o + i, none⟩) hbw).trans HC1.out
          have hbs := hF2.bel.size
          clear hF2 hk hb2 hcell hg
          go_upto_region 16 with fail
          go_wp2_with (at_builtin; refine wpList_append_bytes rfl _ _ 22 rfl w1.heap.size 5 Try.underlying22 info_u8 (.slice pa m ca) l (headL 3) _ 8 8 rfl rfl ho2 hk2 ?hlen hbs ?_)
          case hlen => rw [HM.out]; omega
          intro v3 w3 ho3 hg3
          have hF3 := HF2.out.putBytes ho3 hg3
          obtain ⟨p3, cc3, rfl, hby3⟩ := hF3.form
          have hl3 : (l ++ headL 3).length = m + 8 := by rw [List.length_append, HM.out]; rfl
          rw [hl3] at hby3 hF3 ⊢
          have hrd := readH_end l 3 (by decide)
          rw [HM.out] at hrd
          have hR : Calls _ _ _ _ (fun e w' => e = .returned (.tuple #[.int .i64 3, .int .i64 ((m : Int) + 8), .int .i64 0]) ∧ Below _ _ w') :=
            (read_in w3 p3 (m + 8) cc3 (l ++ headL 3) m hby3 (by omega) (by omega)).mono fun e w' h => by rw [hrd] at h; exact h
          have HF3 := Lib.hid hF3
          have HL3 := Lib.hid hl3
          clear ho3 hg3 hF3 hl3 hby3 hrd ho2 hk2 hcells2
          go_upto_region 17 with fail
          go_wp2_with fail
          refine hR.mono ?_
          rintro e w4 ⟨rfl, hb4⟩
          have hF4 := HF3.out.below hb4
          have hcells4 := (hF4.bel.cell (p := ⟨b, o + i, none⟩) hbw).trans HC1.out
          have HF4 := Lib.hid hF4
          clear hb4 hR hF4
          go_wp2_with fail
          go_meet
          case rel => exact ⟨_, HF4.out, by rw [HL3.out]; exact Nat.le_refl _⟩
        · have q0' : (q == 0) = false := by simpa using q0
          have q3' : (q == 3) = false := by simpa using q3
          go_wp2_with fail
          refine (Header_bad wr q ⟨q0, q3⟩).mono ?_
          rintro e w2 ⟨rfl, rfl⟩
          have ho2 := HF.out.all
          have hbs := HF.out.bel.size
          go_upto_region 16 with fail
          go_wp2_with (at_builtin; refine wpList_append_bytes rfl _ _ 22 rfl w1.heap.size 5 Try.underlying22 info_u8 (.slice pa m ca) l [] _ 0 0 rfl rfl ho2 (BytesIn.nil _) ?hlen hbs ?_)
          case hlen => rw [HM.out]; omega
          intro v3 w3 ho3 hg3
          have hF3 := HF.out.putBytes (r := []) (by rw [List.append_nil]; exact ho3) hg3
          rw [List.append_nil] at hF3
          obtain ⟨p3, cc3, rfl, hby3⟩ := hF3.form
          rw [HM.out] at hby3 hF3 ⊢
          obtain ⟨⟨r1, r2, r3⟩, hr⟩ : ∃ r, readH l (m : Nat) = r := ⟨_, rfl⟩
          have hR : Calls _ _ _ _ (fun e w' => e = .returned (.tuple #[.int .i64 r1, .int .i64 r2, .int .i64 r3]) ∧ Below _ _ w') :=
            (read_in w3 p3 m cc3 l m hby3 (by omega) (Nat.le_refl _)).mono fun e w' h => by rw [hr] at h; exact h
          have HF3 := Lib.hid hF3
          clear ho3 hg3 hF3 hby3 ho2 hr
          go_upto_region 17 with fail
          go_wp2_with fail
          refine hR.mono ?_
          rintro e w4 ⟨rfl, hb4⟩
          have hF4 := HF3.out.below hb4
          have HF4 := Lib.hid hF4
          clear hb4 hR hF4
          go_wp2_with fail
          go_meet
          case rel => exact ⟨_, HF4.out, by rw [HM.out]; exact Nat.le_add_right _ _⟩
    · have hin' : ¬ (i : Int) < (n1 : Int) := by omega
      go_wp2_with fail
      go_meet
      case rel => exact ⟨_, HF.out, by rw [HM.out]; exact Nat.le_add_right _ _⟩
  case rest =>
    clear HF HM HBY hll hle hcap
    obtain ⟨l', hF, hl'⟩ := hcut
    obtain ⟨pb, cb, rfl, hby⟩ := hF.form
    have hcap := hby.cap
    have hle := hby.le
    unfold maxLen at hcap
    obtain ⟨k, hk⟩ : ∃ k, l'.length = k := ⟨_, rfl⟩
    have HM := Lib.hid hk
    rw [hk] at hl' hle hby hF ⊢
    have HF := Lib.hid hF
    have hkl : k ≤ 4000008 := by omega
    clear hm4
    obtain ⟨b, o, rfl, hbw, hcc⟩ := GL.out.at_ (by have := GL.out.le; omega)
    have hLc := GL.out.cap
    have hLl := GL.out.le
    unfold maxLen at hLc
    have hLn := GL.out.len
    obtain ⟨f, hf⟩ : ∃ f, L[i]? = some f := ⟨_, List.getElem?_eq_getElem (by omega)⟩
    have hfm : f ∈ L := List.mem_of_getElem? hf
    have x0 := hcc i f hf 0 _ rfl
    have x1 := hcc i f hf 1 _ rfl
    have x2 := hcc i f hf 2 _ rfl
    have x3 := hcc i f hf 3 _ rfl
    have X := Lib.hid (And.intro x0 (And.intro x1 (And.intro x2 x3)))
    have y0 := (hF.bel.cell (p := ⟨b, o + i * 4 + 0, none⟩) hbw).trans x0
    have y1 := (hF.bel.cell (p := ⟨b, o + i * 4 + 1, none⟩) hbw).trans x1
    have y2 := (hF.bel.cell (p := ⟨b, o + i * 4 + 2, none⟩) hbw).trans x2
    have y3 := (hF.bel.cell (p := ⟨b, o + i * 4 + 3, none⟩) hbw).trans x3
    have hfo := (GL.out.ok f hfm).below hF.bel
    have HFO := Lib.hid hfo
    have HFM := Lib.hid hfm
    clear x0 x1 x2 x3 hcc hf hby hk hF hfo hfm hl' hLn
    simp only [Nat.add_zero] at y0
    obtain ⟨fT, fC, ea, ne, ce, ext, ba, nb, cf, body⟩ := f
    simp only [] at y0 y1 y2 y3
    have hne : ne ≤ 1048576 := HFO.out.el
    have hnb : nb ≤ 1048576 := HFO.out.bl
    have hnc := HFO.out.e.le
    have hncc := HFO.out.e.cap
    have hbc := HFO.out.b.le
    have hbcc := HFO.out.b.cap
    unfold maxLen at hncc hbcc
    simp only [] at hnc hncc hbc hbcc
    obtain ⟨er, her⟩ : ∃ er, sealE fT fC ne nb = er := ⟨_, rfl⟩
    by_cases he : er = 0
    · subst he
      obtain ⟨q1, q2, q3, q4, q5, q6, q7⟩ := sealE_zero her
      have hso := seal_ok wc fT fC ea ba ne ce nb cf ext body HFO.out.e HFO.out.b q1 q2 q3 q4 q5 q6 q7
      have HER := Lib.hid her
      clear her q1 q2 q3 q4
      go_wp2_with fail
      refine hso.mono ?_
      rintro e w2 ⟨g, rfl, hg, hb2, hk⟩
      clear hso
      have hF2 := HF.out.below hb2
      have hpl := hF2.places
      have hbs := hF2.bel.size
      have HF2 := Lib.hid hF2
      have HK := Lib.hid hk
      have hgl := hk.lt
      clear hF2 y0 y1 y2 y3 hb2 hk
      go_upto_region 22 with fail
      go_wp2_with (at_builtin; refine wpList_append_val rfl (.tmp 129) (.tmp 132) 38 rfl w1.heap.size 3 (.int .i64 0) 8 Try.underlying38 info_int rfl _ _ _ (.int .i64 k) rfl rfl rfl hpl ?h63 ?hbytes hbs ?_)
      case h63 => unfold maxLen; omega
      case hbytes => omega
      intro vp' w3 hr3 hg3 _ _
      have hF3 := HF2.out.putPlace hr3 hg3
      have hk3 := HK.out.of_block (hg3.block g hgl (row_not_block hpl HK.out.blk (by decide)))
      have hfr := hF3.frames
      have hbs3 := hF3.bel.size
      have y0 := (hF3.bel.cell (p := ⟨b, o + i * 4, none⟩) hbw).trans X.out.1
      have y1 := (hF3.bel.cell (p := ⟨b, o + i * 4 + 1, none⟩) hbw).trans X.out.2.1
      have y2 := (hF3.bel.cell (p := ⟨b, o + i * 4 + 2, none⟩) hbw).trans X.out.2.2.1
      have y3 := (hF3.bel.cell (p := ⟨b, o + i * 4 + 3, none⟩) hbw).trans X.out.2.2.2
      have HF3 := Lib.hid hF3
      have HK3 := Lib.hid hk3
      clear hF3 hr3 hg3 hpl hk3
      go_upto_region 23 with fail
      go_wp2_with (at_builtin; refine wpList_append_struct rfl (.tmp 134) (.tmp 139) 27 rfl w1.heap.size 24 (.agg #[.int .i64 0, .int .i64 0, .slice none 0 0, .slice none 0 0]) 4 64 Try.underlying27 info_frame rfl (by decide) _ _ _ [.int .i64 fT, .int .i64 fC, .slice ea ne ce, .slice ba nb cf] rfl ?hcells rfl rfl hfr ?h63 ?hbytes hbs3 ?_)
      case hcells => intro u hu; simp at hu; rcases hu with rfl | rfl | rfl | rfl <;> rfl
      case h63 => unfold maxLen; omega
      case hbytes => omega
      intro vf' w4 hr4 hg4
      have hF4 := HF3.out.putFrame (f := ⟨fT, fC, ea, ne, ce, ext, ba, nb, cf, body⟩) hr4 hg4 HFM.out
      have hk4 := HK3.out.of_block (hg4.block g HK3.out.lt (row_not_block hfr HK3.out.blk (by decide)))
      have hall := hF4.all
      have hbs4 := hF4.bel.size
      have hby4 := hk4.all (8 + ne + nb) (8 + ne + nb) (by rw [sealB_length, HFO.out.e.len, HFO.out.b.len]) (Nat.le_refl _) (by unfold maxLen; omega)
      have HF4 := Lib.hid hF4
      clear hF4 hr4 hg4 hfr hk4 y0 y1 y2 y3 hbs3 hbs
      go_upto_region 24 with fail
      go_wp2_with (at_builtin; refine wpList_append_bytes rfl (.tmp 141) (.tmp 142) 22 rfl w1.heap.size 5 Try.underlying22 info_u8 (.slice pb k cb) l' _ _ (8 + ne + nb) (8 + ne + nb) rfl rfl hall hby4 ?hlen hbs4 ?_)
      case hlen => rw [HM.out]; omega
      intro v5 w5 ho5 hg5
      have hlenb : (FrIn.bytes ⟨fT, fC, ea, ne, ce, ext, ba, nb, cf, body⟩).length = 8 + ne + nb := HFO.out.len
      have hF5 := HF4.out.putBytes HM.out ho5 hg5 HER.out hlenb
      have hl5 : (l' ++ FrIn.bytes ⟨fT, fC, ea, ne, ce, ext, ba, nb, cf, body⟩).length = k + (8 + ne + nb) := by rw [List.length_append, HM.out, hlenb]
      have y2 := (hF5.bel.cell (p := ⟨b, o + i * 4 + 2, none⟩) hbw).trans X.out.2.2.1
      have y3 := (hF5.bel.cell (p := ⟨b, o + i * 4 + 3, none⟩) hbw).trans X.out.2.2.2
      have HF5 := Lib.hid hF5
      have HL5 := Lib.hid hl5
      have hPl : (P ++ [(k, (⟨fT, fC, ea, ne, ce, ext, ba, nb, cf, body⟩ : FrIn))]).length ≤ i + 1 := by rw [List.length_append]; simp; omega
      have HPL := Lib.hid hPl
      obtain ⟨N, hN⟩ : ∃ N, 8 + ne + nb = N := ⟨_, rfl⟩
      have hN' : (8 : Int) + (ne : Int) + (nb : Int) = (N : Int) := by omega
      have hN5 : N ≤ 1048576 := by omega
      have HN := Lib.hid hN
      rw [hN]
      clear hF5 ho5 hg5 hlenb hall hby4 hl5 hPl hN q5 q6 q7 hbs4
      go_upto_region 25 with fail
      go_quiet (fail)
      go_wp2_with fail
      go_roundw
      case rel => exact ⟨i + 1, _, _, by omega, by go_num, HF5.out.below ⟨rfl, rfl, rfl, Nat.le_refl _, fun _ _ => rfl⟩, HPL.out, by rw [HL5.out, HN.out]; omega⟩
      case measure => simp [intOf]; omega
    · have hsb := seal_bad wc fT fC ea ba ne ce nb cf ⟨by omega, by omega⟩ (by rw [her]; exact he)
      rw [her] at hsb
      have he' : (er != 0) = true := by simpa using he
      have HPI := Lib.hid hPi
      clear her
      go_wp2_with fail
      refine hsb.mono ?_
      rintro e w2 ⟨rfl, hb2⟩
      have hF2 := HF.out.below hb2
      have HF2 := Lib.hid hF2
      clear hsb hF2 hb2 y0 y1 y2 y3 he
      go_wp2_with fail
      go_roundw
      case rel => exact ⟨i + 1, l', P, by omega, by go_num, HF2.out, Nat.le_succ_of_le HPI.out, by rw [HM.out]; omega⟩
      case measure => simp [intOf]; omega
end Go.Proofs.Ytofdpccjpodbhaa
