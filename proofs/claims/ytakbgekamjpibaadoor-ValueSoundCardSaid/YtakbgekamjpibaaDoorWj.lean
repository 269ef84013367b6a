/-
  ValueSound behind its range: the keys, the map, what it finds. Conditions: the values lie in memory; the tables stand.
-/
import Derived.Test.YtakbgekamjpibaaDoorWh
namespace Go.Proofs.YtakbgekamjpibaaDoor
open Go.RowKit
set_option linter.unusedVariables false

attribute [local go_sem] Oper.semAt_some

set_option maxRecDepth 20000 in
set_option maxHeartbeats 4000000 in
theorem sound_tail {w W : World} {x y z r : Nat} {Ds : List Nat} (hT : Tabs w) (a : V) (pa : Option Addr) (na ca : Nat) (b : V) (pb : Option Addr) (nb cb : Nat) (c : V) (pc : Option Addr) (nc cc : Nat) (ha : VIn w a (.slice pa na ca)) (hb : VIn w b (.slice pb nb cb)) (hc : VIn w c (.slice pc nc cc))
    (hwt : wts [a, b, c] ≤ 100000) (hS : SdA w x y z r #[.int .i64 a.kind, .int .u64 a.num, .string a.text, .slice pa na ca, .int .i64 a.elem] #[.int .i64 b.kind, .int .u64 b.num, .string b.text, .slice pb nb cb, .int .i64 b.elem] #[.int .i64 c.kind, .int .u64 c.num, .string c.text, .slice pc nc cc, .int .i64 c.elem] Ds W) (hn : Ds.Nodup) (I : Bool) (hI : I = decide (firstBad (a.pre 1) = 0 ∧ a.dep < 32)) (v0 v1 v2 v7 v8 v9 v10 v12 v13 v14 v15 v16 v17 v29 v30 v31 v32 v33 v34 v35 v36 v37 v38 v39 v40 v41 v42 v43 v44 v45 v46 v47 v48 v49 v50 v51 v52 v53 v54 v55 v56 v57 v58 v59 v60 v61 v62 v63 v64 v65 v66 v67 v68 v69 v70 v71 v72 v73 v74 v75 v76 v77 v78 v79 v80 : Value) (code : Code) (hcode : (Tryd.f11.body.bind (tailAt 13)) = some code) :
    code.wp Tryd.prog (bodyPostM Fence.wide 5 Tryd.prog Tryd.f11 fun e w' => e = .returned (.bool true) ∧ Below w.heap.size w w') { tmps := #[v0, v1, v2, .pointer (some ⟨x, 0, none⟩), .pointer (some ⟨y, 0, none⟩), .pointer (some ⟨z, 0, none⟩), .pointer (some ⟨r, 0, none⟩), v7, v8, v9, v10, .bool I, v12, v13, v14, v15, v16, v17, undef, undef, undef, undef, undef, undef, undef, undef, undef, undef, undef, v29, v30, v31, v32, v33, v34, v35, v36, v37, v38, v39, v40, v41, v42, v43, v44, v45, v46, v47, v48, v49, v50, v51, v52, v53, v54, v55, v56, v57, v58, v59, v60, v61, v62, v63, v64, v65, v66, v67, v68, v69, v70, v71, v72, v73, v74, v75, v76, v77, v78, v79, v80, undef, undef, undef, undef, undef, undef, undef, undef, undef, undef, undef, undef, undef, undef, undef, undef, undef, undef, undef, undef, undef, undef, undef, undef, undef, undef, undef, undef, undef, undef, undef, undef, undef, undef, undef, undef, undef, undef, undef, undef, undef, undef, undef, undef, undef, undef, undef, undef, undef, undef, undef, undef, undef, undef, undef, undef, undef, undef, undef, undef, undef, undef, undef, undef, undef, undef, undef, undef, undef, undef, undef], defers := Ds.map fun D => { target := .collected D, args := #[] } } W := by
  simp only [Tryd.f11, Option.bind_some, tailAt, Option.some.injEq] at hcode
  subst hcode
  dsimp only
  have hlaw := mapped_law b a c
  have hff := find_first b a c
  have hfs := fun h : b ≠ c => find_second b a c h
  have hwm : (V.mapped [b, a, c, b]).wt ≤ 1000000 := by
    have h0 : (V.mapped [b, a, c, b]).text.size = 0 := rfl
    have h1 : (V.mapped [b, a, c, b]).list = [b, a, c, b] := rfl
    rw [V.wt_eq, h0, h1]; simp only [wts] at hwt ⊢; omega
  have HLW := Lib.hid (And.intro hlaw (And.intro hff (And.intro hfs hwm)))
  have HV := Lib.hid (And.intro ha (And.intro hb hc))
  have HT := Lib.hid hT
  have HW := Lib.hid (show a.wt ≤ 1000000 ∧ b.wt ≤ 1000000 ∧ c.wt ≤ 1000000 by simp only [wts] at hwt; omega)
  have HS := Lib.hid hS
  have HI := Lib.hid hI
  have HN := Lib.hid hn
  clear ha hb hc hT hwt hS hI hn hlaw hff hfs hwm
  go_upto_region 26 with fail
  go_cut [18] from 81 (fun sv wx => sv = .bool (decide (firstBad (b.pre 1) = 0 ∧ b.dep < 32)) ∧ SdA w x y z r #[.int .i64 a.kind, .int .u64 a.num, .string a.text, .slice pa na ca, .int .i64 a.elem] #[.int .i64 b.kind, .int .u64 b.num, .string b.text, .slice pb nb cb, .int .i64 b.elem] #[.int .i64 c.kind, .int .u64 c.num, .string c.text, .slice pc nc cc, .int .i64 c.elem] Ds wx)
  case first =>
    have HC := Lib.hid (check_any b W _ (HV.out.2.1.blw HS.out.bel) (HT.out.below HS.out.bel) HW.out.2.1)
    have q := HS.out
    have y0 : W.cell? ⟨y, 0, none⟩ = some (.int .i64 b.kind) := (cell_of_row _ _ 0 _ _ _ q.oy).trans rfl
    have y1 : W.cell? ⟨y, 1, none⟩ = some (.int .u64 b.num) := (cell_of_row _ _ 1 _ _ _ q.oy).trans rfl
    have y2 : W.cell? ⟨y, 2, none⟩ = some (.string b.text) := (cell_of_row _ _ 2 _ _ _ q.oy).trans rfl
    have y3 : W.cell? ⟨y, 3, none⟩ = some (.slice pb nb cb) := (cell_of_row _ _ 3 _ _ _ q.oy).trans rfl
    have y4 : W.cell? ⟨y, 4, none⟩ = some (.int .i64 b.elem) := (cell_of_row _ _ 4 _ _ _ q.oy).trans rfl
    clear q
    obtain ⟨fb, hfb⟩ : ∃ fb, firstBad (b.pre 1) = fb := ⟨_, rfl⟩
    rw [hfb] at HC
    by_cases h0 : fb = 0
    · have h0b : (fb == 0) = true := by simp [h0]
      have H0 := Lib.hid (And.intro h0 hfb)
      clear h0 hfb
      go_wp2_with fail
      refine HC.out.mono ?_
      clear y0 y1 y2 y3 y4
      rintro e W1 ⟨rfl, hb1⟩
      have HS1 := Lib.hid (HS.out.below hb1)
      have HC1 := Lib.hid (depth_any b W1 _ (HV.out.2.1.blw HS1.out.bel) HW.out.2.1)
      have q := HS1.out
      have y0 : W1.cell? ⟨y, 0, none⟩ = some (.int .i64 b.kind) := (cell_of_row _ _ 0 _ _ _ q.oy).trans rfl
      have y1 : W1.cell? ⟨y, 1, none⟩ = some (.int .u64 b.num) := (cell_of_row _ _ 1 _ _ _ q.oy).trans rfl
      have y2 : W1.cell? ⟨y, 2, none⟩ = some (.string b.text) := (cell_of_row _ _ 2 _ _ _ q.oy).trans rfl
      have y3 : W1.cell? ⟨y, 3, none⟩ = some (.slice pb nb cb) := (cell_of_row _ _ 3 _ _ _ q.oy).trans rfl
      have y4 : W1.cell? ⟨y, 4, none⟩ = some (.int .i64 b.elem) := (cell_of_row _ _ 4 _ _ _ q.oy).trans rfl
      clear q
      rw [foldD_pre b 1 0] at HC1
      have hdp := dep_bd b
      rw [show max 0 (1 - 1 + b.dep) = b.dep by omega] at HC1
      clear hb1
      go_wp2_with fail
      refine HC1.out.mono ?_
      clear y0 y1 y2 y3 y4
      rintro e W2 ⟨rfl, hb2⟩
      have HS2 := Lib.hid (HS1.out.below hb2)
      clear hb2
      go_wp2_with fail
      go_meet
      exact ⟨by simp [H0.out.2, H0.out.1], HS2.out⟩
    · have h0b : (fb == 0) = false := by simp [h0]
      have H0 := Lib.hid (And.intro h0 hfb)
      clear h0 hfb
      go_wp2_with fail
      refine HC.out.mono ?_
      clear y0 y1 y2 y3 y4
      rintro e W1 ⟨rfl, hb1⟩
      have HS1 := Lib.hid (HS.out.below hb1)
      clear hb1
      go_wp2_with fail
      go_meet
      exact ⟨by simp [H0.out.2, H0.out.1], HS1.out⟩
  case rest =>
  obtain ⟨rfl, hcut2⟩ := hcut
  clear HS
  have HS := Lib.hid hcut2
  clear hcut2
  rename World => W
  obtain ⟨G18, hG⟩ : ∃ G, decide (firstBad (b.pre 1) = 0 ∧ b.dep < 32) = G := ⟨_, rfl⟩
  rw [hG]
  have HG18 := Lib.hid hG
  clear hG
  go_upto_region 27 with fail
  go_cut [19] from 81 (fun sv wx => sv = .bool (decide (firstBad (c.pre 1) = 0 ∧ c.dep < 32)) ∧ SdA w x y z r #[.int .i64 a.kind, .int .u64 a.num, .string a.text, .slice pa na ca, .int .i64 a.elem] #[.int .i64 b.kind, .int .u64 b.num, .string b.text, .slice pb nb cb, .int .i64 b.elem] #[.int .i64 c.kind, .int .u64 c.num, .string c.text, .slice pc nc cc, .int .i64 c.elem] Ds wx)
  case first =>
    have HC := Lib.hid (check_any c W _ (HV.out.2.2.blw HS.out.bel) (HT.out.below HS.out.bel) HW.out.2.2)
    have q := HS.out
    have z0 : W.cell? ⟨z, 0, none⟩ = some (.int .i64 c.kind) := (cell_of_row _ _ 0 _ _ _ q.oz).trans rfl
    have z1 : W.cell? ⟨z, 1, none⟩ = some (.int .u64 c.num) := (cell_of_row _ _ 1 _ _ _ q.oz).trans rfl
    have z2 : W.cell? ⟨z, 2, none⟩ = some (.string c.text) := (cell_of_row _ _ 2 _ _ _ q.oz).trans rfl
    have z3 : W.cell? ⟨z, 3, none⟩ = some (.slice pc nc cc) := (cell_of_row _ _ 3 _ _ _ q.oz).trans rfl
    have z4 : W.cell? ⟨z, 4, none⟩ = some (.int .i64 c.elem) := (cell_of_row _ _ 4 _ _ _ q.oz).trans rfl
    clear q
    obtain ⟨fb, hfb⟩ : ∃ fb, firstBad (c.pre 1) = fb := ⟨_, rfl⟩
    rw [hfb] at HC
    by_cases h0 : fb = 0
    · have h0b : (fb == 0) = true := by simp [h0]
      have H0 := Lib.hid (And.intro h0 hfb)
      clear h0 hfb
      go_wp2_with fail
      refine HC.out.mono ?_
      clear z0 z1 z2 z3 z4
      rintro e W1 ⟨rfl, hb1⟩
      have HS1 := Lib.hid (HS.out.below hb1)
      have HC1 := Lib.hid (depth_any c W1 _ (HV.out.2.2.blw HS1.out.bel) HW.out.2.2)
      have q := HS1.out
      have z0 : W1.cell? ⟨z, 0, none⟩ = some (.int .i64 c.kind) := (cell_of_row _ _ 0 _ _ _ q.oz).trans rfl
      have z1 : W1.cell? ⟨z, 1, none⟩ = some (.int .u64 c.num) := (cell_of_row _ _ 1 _ _ _ q.oz).trans rfl
      have z2 : W1.cell? ⟨z, 2, none⟩ = some (.string c.text) := (cell_of_row _ _ 2 _ _ _ q.oz).trans rfl
      have z3 : W1.cell? ⟨z, 3, none⟩ = some (.slice pc nc cc) := (cell_of_row _ _ 3 _ _ _ q.oz).trans rfl
      have z4 : W1.cell? ⟨z, 4, none⟩ = some (.int .i64 c.elem) := (cell_of_row _ _ 4 _ _ _ q.oz).trans rfl
      clear q
      rw [foldD_pre c 1 0] at HC1
      have hdp := dep_bd c
      rw [show max 0 (1 - 1 + c.dep) = c.dep by omega] at HC1
      clear hb1
      go_wp2_with fail
      refine HC1.out.mono ?_
      clear z0 z1 z2 z3 z4
      rintro e W2 ⟨rfl, hb2⟩
      have HS2 := Lib.hid (HS1.out.below hb2)
      clear hb2
      go_wp2_with fail
      go_meet
      exact ⟨by simp [H0.out.2, H0.out.1], HS2.out⟩
    · have h0b : (fb == 0) = false := by simp [h0]
      have H0 := Lib.hid (And.intro h0 hfb)
      clear h0 hfb
      go_wp2_with fail
      refine HC.out.mono ?_
      clear z0 z1 z2 z3 z4
      rintro e W1 ⟨rfl, hb1⟩
      have HS1 := Lib.hid (HS.out.below hb1)
      clear hb1
      go_wp2_with fail
      go_meet
      exact ⟨by simp [H0.out.2, H0.out.1], HS1.out⟩
  case rest =>
  obtain ⟨rfl, hcut2⟩ := hcut
  clear HS
  have HS := Lib.hid hcut2
  clear hcut2
  rename World => W
  obtain ⟨G19, hG⟩ : ∃ G, decide (firstBad (c.pre 1) = 0 ∧ c.dep < 32) = G := ⟨_, rfl⟩
  rw [hG]
  have HG19 := Lib.hid hG
  clear hG
  have HC := Lib.hid (order_on b W _ c _ (HV.out.2.1.blw HS.out.bel) (HV.out.2.2.blw HS.out.bel))
  have q := HS.out
  have y0 : W.cell? ⟨y, 0, none⟩ = some (.int .i64 b.kind) := (cell_of_row _ _ 0 _ _ _ q.oy).trans rfl
  have y1 : W.cell? ⟨y, 1, none⟩ = some (.int .u64 b.num) := (cell_of_row _ _ 1 _ _ _ q.oy).trans rfl
  have y2 : W.cell? ⟨y, 2, none⟩ = some (.string b.text) := (cell_of_row _ _ 2 _ _ _ q.oy).trans rfl
  have y3 : W.cell? ⟨y, 3, none⟩ = some (.slice pb nb cb) := (cell_of_row _ _ 3 _ _ _ q.oy).trans rfl
  have y4 : W.cell? ⟨y, 4, none⟩ = some (.int .i64 b.elem) := (cell_of_row _ _ 4 _ _ _ q.oy).trans rfl
  have z0 : W.cell? ⟨z, 0, none⟩ = some (.int .i64 c.kind) := (cell_of_row _ _ 0 _ _ _ q.oz).trans rfl
  have z1 : W.cell? ⟨z, 1, none⟩ = some (.int .u64 c.num) := (cell_of_row _ _ 1 _ _ _ q.oz).trans rfl
  have z2 : W.cell? ⟨z, 2, none⟩ = some (.string c.text) := (cell_of_row _ _ 2 _ _ _ q.oz).trans rfl
  have z3 : W.cell? ⟨z, 3, none⟩ = some (.slice pc nc cc) := (cell_of_row _ _ 3 _ _ _ q.oz).trans rfl
  have z4 : W.cell? ⟨z, 4, none⟩ = some (.int .i64 c.elem) := (cell_of_row _ _ 4 _ _ _ q.oz).trans rfl
  clear q
  obtain ⟨p, hp⟩ : ∃ p, ordV b c = p := ⟨_, rfl⟩
  rw [hp] at HC
  obtain ⟨U, hU⟩ : ∃ U, (p != 0) = U := ⟨_, rfl⟩
  have HU := Lib.hid (show U = decide (b ≠ c) from by
    rw [← hU, ← hp]
    by_cases h : b = c
    · rw [ordV_zero.2 h]; simp [h]
    · have h1 : ordV b c ≠ 0 := fun q => h (ordV_zero.1 q)
      simp [h1, h])
  clear hp
  go_wp2_with fail
  refine HC.out.mono ?_
  clear y0 y1 y2 y3 y4 z0 z1 z2 z3 z4
  rintro e W1 ⟨rfl, hb1⟩
  have HS1 := Lib.hid (HS.out.below hb1)
  clear hb1
  go_upto_region 29 with fail
  clear hU
  have q := HS1.out
  have x0 : W1.cell? ⟨x, 0, none⟩ = some (.int .i64 a.kind) := (cell_of_row _ _ 0 _ _ _ q.ox).trans rfl
  have x1 : W1.cell? ⟨x, 1, none⟩ = some (.int .u64 a.num) := (cell_of_row _ _ 1 _ _ _ q.ox).trans rfl
  have x2 : W1.cell? ⟨x, 2, none⟩ = some (.string a.text) := (cell_of_row _ _ 2 _ _ _ q.ox).trans rfl
  have x3 : W1.cell? ⟨x, 3, none⟩ = some (.slice pa na ca) := (cell_of_row _ _ 3 _ _ _ q.ox).trans rfl
  have x4 : W1.cell? ⟨x, 4, none⟩ = some (.int .i64 a.elem) := (cell_of_row _ _ 4 _ _ _ q.ox).trans rfl
  have y0 : W1.cell? ⟨y, 0, none⟩ = some (.int .i64 b.kind) := (cell_of_row _ _ 0 _ _ _ q.oy).trans rfl
  have y1 : W1.cell? ⟨y, 1, none⟩ = some (.int .u64 b.num) := (cell_of_row _ _ 1 _ _ _ q.oy).trans rfl
  have y2 : W1.cell? ⟨y, 2, none⟩ = some (.string b.text) := (cell_of_row _ _ 2 _ _ _ q.oy).trans rfl
  have y3 : W1.cell? ⟨y, 3, none⟩ = some (.slice pb nb cb) := (cell_of_row _ _ 3 _ _ _ q.oy).trans rfl
  have y4 : W1.cell? ⟨y, 4, none⟩ = some (.int .i64 b.elem) := (cell_of_row _ _ 4 _ _ _ q.oy).trans rfl
  have z0 : W1.cell? ⟨z, 0, none⟩ = some (.int .i64 c.kind) := (cell_of_row _ _ 0 _ _ _ q.oz).trans rfl
  have z1 : W1.cell? ⟨z, 1, none⟩ = some (.int .u64 c.num) := (cell_of_row _ _ 1 _ _ _ q.oz).trans rfl
  have z2 : W1.cell? ⟨z, 2, none⟩ = some (.string c.text) := (cell_of_row _ _ 2 _ _ _ q.oz).trans rfl
  have z3 : W1.cell? ⟨z, 3, none⟩ = some (.slice pc nc cc) := (cell_of_row _ _ 3 _ _ _ q.oz).trans rfl
  have z4 : W1.cell? ⟨z, 4, none⟩ = some (.int .i64 c.elem) := (cell_of_row _ _ 4 _ _ _ q.oz).trans rfl
  clear q
  have hbr : Below W1.heap.size W1 (W1.alloc (.cells #[.int .i64 b.kind, .int .u64 b.num, .string b.text, .slice pb nb cb, .int .i64 b.elem, .int .i64 a.kind, .int .u64 a.num, .string a.text, .slice pa na ca, .int .i64 a.elem, .int .i64 c.kind, .int .u64 c.num, .string c.text, .slice pc nc cc, .int .i64 c.elem, .int .i64 b.kind, .int .u64 b.num, .string b.text, .slice pb nb cb, .int .i64 b.elem] 25)) := (Below.refl _ _).alloc (Nat.le_refl _) _
  have hrow : (W1.alloc (.cells #[.int .i64 b.kind, .int .u64 b.num, .string b.text, .slice pb nb cb, .int .i64 b.elem, .int .i64 a.kind, .int .u64 a.num, .string a.text, .slice pa na ca, .int .i64 a.elem, .int .i64 c.kind, .int .u64 c.num, .string c.text, .slice pc nc cc, .int .i64 c.elem, .int .i64 b.kind, .int .u64 b.num, .string b.text, .slice pb nb cb, .int .i64 b.elem] 25)).heap[W1.heap.size]? = some (.cells (vrow [b, a, c, b] (fun i => match i with | 0 => .slice pb nb cb | 1 => .slice pa na ca | 2 => .slice pc nc cc | _ => .slice pb nb cb)).toArray 25 (0, 0)) := _root_.Go.heap_alloc_new W1 _
  have hsr := HS1.out.below hbr
  have hmp := mapped_any (.mk 0 0 ⟨#[]⟩ [b, a, c, b] 0) _ _ (vin_row hrow (fun i hi => by
    match i, hi with
    | 0, _ => exact HV.out.2.1.blw hsr.bel
    | 1, _ => exact HV.out.1.blw hsr.bel
    | 2, _ => exact HV.out.2.2.blw hsr.bel
    | 3, _ => exact HV.out.2.1.blw hsr.bel) (by show 4 ≤ maxLen; unfold maxLen; omega)) (by have h1 := HLW.out.2.2.2; have h0 : (V.mapped [b, a, c, b]).text.size = 0 := rfl; rw [V.wt_eq, h0] at h1; exact Nat.le_trans (Nat.le_add_left _ _) h1)
  have HM : Hid (Calls Tryd.prog 34 #[.slice (some ⟨W1.heap.size, 0, none⟩) 4 4] (W1.alloc (.cells #[.int .i64 b.kind, .int .u64 b.num, .string b.text, .slice pb nb cb, .int .i64 b.elem, .int .i64 a.kind, .int .u64 a.num, .string a.text, .slice pa na ca, .int .i64 a.elem, .int .i64 c.kind, .int .u64 c.num, .string c.text, .slice pc nc cc, .int .i64 c.elem, .int .i64 b.kind, .int .u64 b.num, .string b.text, .slice pb nb cb, .int .i64 b.elem] 25)) _) := Lib.hid hmp
  have HSR := Lib.hid hsr
  clear hbr hrow hsr hmp
  go_wp2_with fail
  refine HM.out.mono ?_
  clear x0 x1 x2 x3 x4 y0 y1 y2 y3 y4 z0 z1 z2 z3 z4
  rintro e W3 ⟨tm, Fm, rfl, hvo, hb3⟩
  obtain ⟨pm, cm, hsm, hj1, hj2⟩ := hvo.slice
  clear hj1 hj2
  have hsm : tm = .slice pm 4 cm := hsm
  subst hsm
  have HVM := Lib.hid hvo.vin
  have HS3 := Lib.hid (HSR.out.below hb3)
  clear hvo hb3
  go_upto_region 30 with (refine wpList_store_rowTo rfl 25 (.tmp 21) (.tmp 106) rfl rfl W3.heap.size #[.int .i64 22, .int .u64 0, .string ⟨#[]⟩, .slice pm 4 cm, .int .i64 0] rfl rfl 25 #[.int .i64 0, .int .u64 0, .string ⟨#[]⟩, .slice none 0 0, .int .i64 0] (_root_.Go.heap_alloc_new W3 _) (by as_aux_lemma => kernel_rfl) (by as_aux_lemma => kernel_rfl) (by simp [Value.oneCell']) ?_)
  have hb_W4 : Below W3.heap.size W3 ((W3.alloc (.cells #[.int .i64 0, .int .u64 0, .string ⟨#[]⟩, .slice none 0 0, .int .i64 0] 25)).setRow W3.heap.size #[.int .i64 22, .int .u64 0, .string ⟨#[]⟩, .slice pm 4 cm, .int .i64 0]) := below_setRow ((Below.refl _ _).alloc (Nat.le_refl _) _) (Nat.le_refl _) _
  have om := setRow_heap (W3.alloc (.cells #[.int .i64 0, .int .u64 0, .string ⟨#[]⟩, .slice none 0 0, .int .i64 0] 25)) W3.heap.size _ #[.int .i64 22, .int .u64 0, .string ⟨#[]⟩, .slice pm 4 cm, .int .i64 0] _ _ (_root_.Go.heap_alloc_new W3 _)
  change Code.wp _ _ _ _ ((W3.alloc (.cells #[.int .i64 0, .int .u64 0, .string ⟨#[]⟩, .slice none 0 0, .int .i64 0] 25)).setRow W3.heap.size #[.int .i64 22, .int .u64 0, .string ⟨#[]⟩, .slice pm 4 cm, .int .i64 0])
  generalize ((W3.alloc (.cells #[.int .i64 0, .int .u64 0, .string ⟨#[]⟩, .slice none 0 0, .int .i64 0] 25)).setRow W3.heap.size #[.int .i64 22, .int .u64 0, .string ⟨#[]⟩, .slice pm 4 cm, .int .i64 0]) = W4 at *
  obtain ⟨m, hx_m⟩ : ∃ x, W3.heap.size = x := ⟨_, rfl⟩
  rw [hx_m] at om ⊢
  clear hx_m
  have HVM4 := Lib.hid (HVM.out.blw hb_W4)
  have HS4 := Lib.hid (HS3.out.below hb_W4)
  have HOM := Lib.hid om
  have m0 : W4.cell? ⟨m, 0, none⟩ = some (.int .i64 22) := (cell_of_row _ _ 0 _ _ _ om).trans rfl
  have m1 : W4.cell? ⟨m, 1, none⟩ = some (.int .u64 0) := (cell_of_row _ _ 1 _ _ _ om).trans rfl
  have m2 : W4.cell? ⟨m, 2, none⟩ = some (.string ⟨#[]⟩) := (cell_of_row _ _ 2 _ _ _ om).trans rfl
  have m3 : W4.cell? ⟨m, 3, none⟩ = some (.slice pm 4 cm) := (cell_of_row _ _ 3 _ _ _ om).trans rfl
  have m4 : W4.cell? ⟨m, 4, none⟩ = some (.int .i64 0) := (cell_of_row _ _ 4 _ _ _ om).trans rfl
  have hck : Calls Tryd.prog 15 #[.agg #[.int .i64 22, .int .u64 0, .string ⟨#[]⟩, .slice pm 4 cm, .int .i64 0]] W4 _ := check_any (V.mapped [b, a, c, b]) W4 _ HVM4.out (HT.out.below HS4.out.bel) HLW.out.2.2.2
  obtain ⟨fm, hfm⟩ : ∃ fm, firstBad ((V.mapped [b, a, c, b]).pre 1) = fm := ⟨_, rfl⟩
  rw [hfm] at hck
  have hmay : (fm == 0) = (I && (G18 && (G19 && U))) := by
    have hl := HLW.out.1
    rw [hfm] at hl
    rw [HI.out, ← HG18.out, ← HG19.out, HU.out]
    rw [Bool.eq_iff_iff]
    simp only [beq_iff_eq, Bool.and_eq_true, decide_eq_true_eq]
    exact hl
  have HCK := Lib.hid hck
  clear hck hb_W4 om hfm
  by_cases hall : (I && (G18 && (G19 && U))) = true
  · rw [hall] at hmay
    simp only [Bool.and_eq_true] at hall
    obtain ⟨rfl, rfl, rfl, rfl⟩ := hall
    have hbc : b ≠ c := of_decide_eq_true HU.out.symm
    have hff := find_any (V.mapped [b, a, c, b]) b
    have hfs := find_any (V.mapped [b, a, c, b]) c
    rw [HLW.out.2.1] at hff
    rw [HLW.out.2.2.1 hbc] at hfs
    have HFF := Lib.hid (And.intro hff hfs)
    clear hff hfs hbc HU HI HG18 HG19
    go_wp2_with fail
    refine HCK.out.mono ?_
    clear m0 m1 m2 m3 m4
    rintro e W5 ⟨rfl, hb5⟩
    have HS5 := Lib.hid (HS4.out.below hb5)
    have HM5 := Lib.hid (And.intro (HVM4.out.blw hb5) ((hb5.block m (Array.getElem?_eq_some_iff.1 HOM.out).1).trans HOM.out))
    clear hb5
    have om5 := HM5.out.2
    have m0 : W5.cell? ⟨m, 0, none⟩ = some (.int .i64 22) := (cell_of_row _ _ 0 _ _ _ om5).trans rfl
    have m1 : W5.cell? ⟨m, 1, none⟩ = some (.int .u64 0) := (cell_of_row _ _ 1 _ _ _ om5).trans rfl
    have m2 : W5.cell? ⟨m, 2, none⟩ = some (.string ⟨#[]⟩) := (cell_of_row _ _ 2 _ _ _ om5).trans rfl
    have m3 : W5.cell? ⟨m, 3, none⟩ = some (.slice pm 4 cm) := (cell_of_row _ _ 3 _ _ _ om5).trans rfl
    have m4 : W5.cell? ⟨m, 4, none⟩ = some (.int .i64 0) := (cell_of_row _ _ 4 _ _ _ om5).trans rfl
    have q := HS5.out
    have y0 : W5.cell? ⟨y, 0, none⟩ = some (.int .i64 b.kind) := (cell_of_row _ _ 0 _ _ _ q.oy).trans rfl
    have y1 : W5.cell? ⟨y, 1, none⟩ = some (.int .u64 b.num) := (cell_of_row _ _ 1 _ _ _ q.oy).trans rfl
    have y2 : W5.cell? ⟨y, 2, none⟩ = some (.string b.text) := (cell_of_row _ _ 2 _ _ _ q.oy).trans rfl
    have y3 : W5.cell? ⟨y, 3, none⟩ = some (.slice pb nb cb) := (cell_of_row _ _ 3 _ _ _ q.oy).trans rfl
    have y4 : W5.cell? ⟨y, 4, none⟩ = some (.int .i64 b.elem) := (cell_of_row _ _ 4 _ _ _ q.oy).trans rfl
    clear q
    have hc : Calls Tryd.prog 39 #[.agg #[.int .i64 22, .int .u64 0, .string ⟨#[]⟩, .slice pm 4 cm, .int .i64 0], .agg #[.int .i64 b.kind, .int .u64 b.num, .string b.text, .slice pb nb cb, .int .i64 b.elem]] W5 _ := HFF.out.1 W5 _ _ HM5.out.1 (HV.out.2.1.blw HS5.out.bel) HLW.out.2.2.2
    have HC2 := Lib.hid hc
    clear hc om5
    go_wp2_with fail
    refine HC2.out.mono ?_
    clear m0 m1 m2 m3 m4 y0 y1 y2 y3 y4
    intro e W6 hpost
    rcases hpost with ⟨hn, _⟩ | ⟨a2, ta, Fa, he, rfl, hvo, hb6⟩
    · cases hn
    obtain rfl := Option.some.inj he
    obtain ⟨pq, cq, hsq, hj1, hj2⟩ := hvo.slice
    clear hj1 hj2 he
    obtain ⟨nq, hnq⟩ : ∃ nq, a.list.length = nq := ⟨_, rfl⟩
    rw [hnq] at hsq
    subst hsq
    have HS6 := Lib.hid (HS5.out.below hb6)
    have HM6 := Lib.hid (And.intro (HM5.out.1.blw hb6) ((hb6.block m (Array.getElem?_eq_some_iff.1 HM5.out.2).1).trans HM5.out.2))
    have HVA := Lib.hid hvo.vin
    clear hvo hb6 hnq
    go_upto_region 36 with (refine wpList_store_rowTo rfl 25 (.tmp 23) (.tmp 128) rfl rfl W6.heap.size #[.int .i64 a.kind, .int .u64 a.num, .string a.text, .slice pq nq cq, .int .i64 a.elem] rfl rfl 25 #[.int .i64 0, .int .u64 0, .string ⟨#[]⟩, .slice none 0 0, .int .i64 0] (_root_.Go.heap_alloc_new W6 _) (by as_aux_lemma => kernel_rfl) (by as_aux_lemma => kernel_rfl) (by simp [Value.oneCell']) ?_)
    have hb_W7 : Below W6.heap.size W6 ((W6.alloc (.cells #[.int .i64 0, .int .u64 0, .string ⟨#[]⟩, .slice none 0 0, .int .i64 0] 25)).setRow W6.heap.size #[.int .i64 a.kind, .int .u64 a.num, .string a.text, .slice pq nq cq, .int .i64 a.elem]) := below_setRow ((Below.refl _ _).alloc (Nat.le_refl _) _) (Nat.le_refl _) _
    have of := setRow_heap (W6.alloc (.cells #[.int .i64 0, .int .u64 0, .string ⟨#[]⟩, .slice none 0 0, .int .i64 0] 25)) W6.heap.size _ #[.int .i64 a.kind, .int .u64 a.num, .string a.text, .slice pq nq cq, .int .i64 a.elem] _ _ (_root_.Go.heap_alloc_new W6 _)
    change Code.wp _ _ _ _ ((W6.alloc (.cells #[.int .i64 0, .int .u64 0, .string ⟨#[]⟩, .slice none 0 0, .int .i64 0] 25)).setRow W6.heap.size #[.int .i64 a.kind, .int .u64 a.num, .string a.text, .slice pq nq cq, .int .i64 a.elem])
    generalize ((W6.alloc (.cells #[.int .i64 0, .int .u64 0, .string ⟨#[]⟩, .slice none 0 0, .int .i64 0] 25)).setRow W6.heap.size #[.int .i64 a.kind, .int .u64 a.num, .string a.text, .slice pq nq cq, .int .i64 a.elem]) = W7 at *
    obtain ⟨f, hx_f⟩ : ∃ x, W6.heap.size = x := ⟨_, rfl⟩
    rw [hx_f] at of ⊢
    clear hx_f
    have HS7 := Lib.hid (HS6.out.below hb_W7)
    have HM7 := Lib.hid (And.intro (HM6.out.1.blw hb_W7) ((hb_W7.block m (Array.getElem?_eq_some_iff.1 HM6.out.2).1).trans HM6.out.2))
    have HVA7 := Lib.hid (And.intro (HVA.out.blw hb_W7) of)
    clear hb_W7 of
    have om7 := HM7.out.2
    have m0 : W7.cell? ⟨m, 0, none⟩ = some (.int .i64 22) := (cell_of_row _ _ 0 _ _ _ om7).trans rfl
    have m1 : W7.cell? ⟨m, 1, none⟩ = some (.int .u64 0) := (cell_of_row _ _ 1 _ _ _ om7).trans rfl
    have m2 : W7.cell? ⟨m, 2, none⟩ = some (.string ⟨#[]⟩) := (cell_of_row _ _ 2 _ _ _ om7).trans rfl
    have m3 : W7.cell? ⟨m, 3, none⟩ = some (.slice pm 4 cm) := (cell_of_row _ _ 3 _ _ _ om7).trans rfl
    have m4 : W7.cell? ⟨m, 4, none⟩ = some (.int .i64 0) := (cell_of_row _ _ 4 _ _ _ om7).trans rfl
    have q := HS7.out
    have z0 : W7.cell? ⟨z, 0, none⟩ = some (.int .i64 c.kind) := (cell_of_row _ _ 0 _ _ _ q.oz).trans rfl
    have z1 : W7.cell? ⟨z, 1, none⟩ = some (.int .u64 c.num) := (cell_of_row _ _ 1 _ _ _ q.oz).trans rfl
    have z2 : W7.cell? ⟨z, 2, none⟩ = some (.string c.text) := (cell_of_row _ _ 2 _ _ _ q.oz).trans rfl
    have z3 : W7.cell? ⟨z, 3, none⟩ = some (.slice pc nc cc) := (cell_of_row _ _ 3 _ _ _ q.oz).trans rfl
    have z4 : W7.cell? ⟨z, 4, none⟩ = some (.int .i64 c.elem) := (cell_of_row _ _ 4 _ _ _ q.oz).trans rfl
    clear q
    have hc : Calls Tryd.prog 39 #[.agg #[.int .i64 22, .int .u64 0, .string ⟨#[]⟩, .slice pm 4 cm, .int .i64 0], .agg #[.int .i64 c.kind, .int .u64 c.num, .string c.text, .slice pc nc cc, .int .i64 c.elem]] W7 _ := HFF.out.2 W7 _ _ HM7.out.1 (HV.out.2.2.blw HS7.out.bel) HLW.out.2.2.2
    have HC3 := Lib.hid hc
    clear hc om7
    go_wp2_with fail
    refine HC3.out.mono ?_
    clear m0 m1 m2 m3 m4 z0 z1 z2 z3 z4
    intro e W8 hpost
    rcases hpost with ⟨hn, _⟩ | ⟨b2, tb, Fb, he, rfl, hvo, hb8⟩
    · cases hn
    obtain rfl := Option.some.inj he
    obtain ⟨pr, cr, hsr, hj1, hj2⟩ := hvo.slice
    clear hj1 hj2 he
    obtain ⟨nr, hnr⟩ : ∃ nr, b.list.length = nr := ⟨_, rfl⟩
    rw [hnr] at hsr
    subst hsr
    have HS8 := Lib.hid (HS7.out.below hb8)
    have HVB := Lib.hid hvo.vin
    have HVA8 := Lib.hid (And.intro (HVA7.out.1.blw hb8) ((hb8.block f (Array.getElem?_eq_some_iff.1 HVA7.out.2).1).trans HVA7.out.2))
    clear hvo hb8 hnr
    go_upto_region 37 with (refine wpList_store_rowTo rfl 25 (.tmp 25) (.tmp 134) rfl rfl W8.heap.size #[.int .i64 b.kind, .int .u64 b.num, .string b.text, .slice pr nr cr, .int .i64 b.elem] rfl rfl 25 #[.int .i64 0, .int .u64 0, .string ⟨#[]⟩, .slice none 0 0, .int .i64 0] (_root_.Go.heap_alloc_new W8 _) (by as_aux_lemma => kernel_rfl) (by as_aux_lemma => kernel_rfl) (by simp [Value.oneCell']) ?_)
    have hb_W9 : Below W8.heap.size W8 ((W8.alloc (.cells #[.int .i64 0, .int .u64 0, .string ⟨#[]⟩, .slice none 0 0, .int .i64 0] 25)).setRow W8.heap.size #[.int .i64 b.kind, .int .u64 b.num, .string b.text, .slice pr nr cr, .int .i64 b.elem]) := below_setRow ((Below.refl _ _).alloc (Nat.le_refl _) _) (Nat.le_refl _) _
    have og := setRow_heap (W8.alloc (.cells #[.int .i64 0, .int .u64 0, .string ⟨#[]⟩, .slice none 0 0, .int .i64 0] 25)) W8.heap.size _ #[.int .i64 b.kind, .int .u64 b.num, .string b.text, .slice pr nr cr, .int .i64 b.elem] _ _ (_root_.Go.heap_alloc_new W8 _)
    change Code.wp _ _ _ _ ((W8.alloc (.cells #[.int .i64 0, .int .u64 0, .string ⟨#[]⟩, .slice none 0 0, .int .i64 0] 25)).setRow W8.heap.size #[.int .i64 b.kind, .int .u64 b.num, .string b.text, .slice pr nr cr, .int .i64 b.elem])
    generalize ((W8.alloc (.cells #[.int .i64 0, .int .u64 0, .string ⟨#[]⟩, .slice none 0 0, .int .i64 0] 25)).setRow W8.heap.size #[.int .i64 b.kind, .int .u64 b.num, .string b.text, .slice pr nr cr, .int .i64 b.elem]) = W9 at *
    obtain ⟨g, hx_g⟩ : ∃ x, W8.heap.size = x := ⟨_, rfl⟩
    rw [hx_g] at og ⊢
    clear hx_g
    have HS9 := Lib.hid (HS8.out.below hb_W9)
    have HVA9 := Lib.hid (And.intro (HVA8.out.1.blw hb_W9) ((hb_W9.block f (Array.getElem?_eq_some_iff.1 HVA8.out.2).1).trans HVA8.out.2))
    have HVB9 := Lib.hid (And.intro (HVB.out.blw hb_W9) og)
    clear hb_W9 og
    have of9 := HVA9.out.2
    have f0 : W9.cell? ⟨f, 0, none⟩ = some (.int .i64 a.kind) := (cell_of_row _ _ 0 _ _ _ of9).trans rfl
    have f1 : W9.cell? ⟨f, 1, none⟩ = some (.int .u64 a.num) := (cell_of_row _ _ 1 _ _ _ of9).trans rfl
    have f2 : W9.cell? ⟨f, 2, none⟩ = some (.string a.text) := (cell_of_row _ _ 2 _ _ _ of9).trans rfl
    have f3 : W9.cell? ⟨f, 3, none⟩ = some (.slice pq nq cq) := (cell_of_row _ _ 3 _ _ _ of9).trans rfl
    have f4 : W9.cell? ⟨f, 4, none⟩ = some (.int .i64 a.elem) := (cell_of_row _ _ 4 _ _ _ of9).trans rfl
    have q := HS9.out
    have x0 : W9.cell? ⟨x, 0, none⟩ = some (.int .i64 a.kind) := (cell_of_row _ _ 0 _ _ _ q.ox).trans rfl
    have x1 : W9.cell? ⟨x, 1, none⟩ = some (.int .u64 a.num) := (cell_of_row _ _ 1 _ _ _ q.ox).trans rfl
    have x2 : W9.cell? ⟨x, 2, none⟩ = some (.string a.text) := (cell_of_row _ _ 2 _ _ _ q.ox).trans rfl
    have x3 : W9.cell? ⟨x, 3, none⟩ = some (.slice pa na ca) := (cell_of_row _ _ 3 _ _ _ q.ox).trans rfl
    have x4 : W9.cell? ⟨x, 4, none⟩ = some (.int .i64 a.elem) := (cell_of_row _ _ 4 _ _ _ q.ox).trans rfl
    clear q
    have hc := equal_on a W9 _ a _ HVA9.out.1 (HV.out.1.blw HS9.out.bel)
    rw [decide_eq_true rfl] at hc
    have HC4 := Lib.hid hc
    clear hc of9
    go_wp2_with fail
    refine HC4.out.mono ?_
    clear f0 f1 f2 f3 f4 x0 x1 x2 x3 x4
    rintro e W10 ⟨rfl, hb10⟩
    have HS10 := Lib.hid (HS9.out.below hb10)
    have HVB10 := Lib.hid (And.intro (HVB9.out.1.blw hb10) ((hb10.block g (Array.getElem?_eq_some_iff.1 HVB9.out.2).1).trans HVB9.out.2))
    clear hb10
    have og10 := HVB10.out.2
    have g0 : W10.cell? ⟨g, 0, none⟩ = some (.int .i64 b.kind) := (cell_of_row _ _ 0 _ _ _ og10).trans rfl
    have g1 : W10.cell? ⟨g, 1, none⟩ = some (.int .u64 b.num) := (cell_of_row _ _ 1 _ _ _ og10).trans rfl
    have g2 : W10.cell? ⟨g, 2, none⟩ = some (.string b.text) := (cell_of_row _ _ 2 _ _ _ og10).trans rfl
    have g3 : W10.cell? ⟨g, 3, none⟩ = some (.slice pr nr cr) := (cell_of_row _ _ 3 _ _ _ og10).trans rfl
    have g4 : W10.cell? ⟨g, 4, none⟩ = some (.int .i64 b.elem) := (cell_of_row _ _ 4 _ _ _ og10).trans rfl
    have q := HS10.out
    have y0 : W10.cell? ⟨y, 0, none⟩ = some (.int .i64 b.kind) := (cell_of_row _ _ 0 _ _ _ q.oy).trans rfl
    have y1 : W10.cell? ⟨y, 1, none⟩ = some (.int .u64 b.num) := (cell_of_row _ _ 1 _ _ _ q.oy).trans rfl
    have y2 : W10.cell? ⟨y, 2, none⟩ = some (.string b.text) := (cell_of_row _ _ 2 _ _ _ q.oy).trans rfl
    have y3 : W10.cell? ⟨y, 3, none⟩ = some (.slice pb nb cb) := (cell_of_row _ _ 3 _ _ _ q.oy).trans rfl
    have y4 : W10.cell? ⟨y, 4, none⟩ = some (.int .i64 b.elem) := (cell_of_row _ _ 4 _ _ _ q.oy).trans rfl
    clear q
    have hc := equal_on b W10 _ b _ HVB10.out.1 (HV.out.2.1.blw HS10.out.bel)
    rw [decide_eq_true rfl] at hc
    have HC5 := Lib.hid hc
    clear hc og10
    go_wp2_with fail
    refine HC5.out.mono ?_
    clear g0 g1 g2 g3 g4 y0 y1 y2 y3 y4
    rintro e W11 ⟨rfl, hb11⟩
    have HS11 := Lib.hid (HS10.out.below hb11)
    clear hb11
    have q := HS11.out
    have r0 : W11.cell? ⟨r, 0, none⟩ = some (.bool false) := (cell_of_row _ _ 0 _ _ _ q.or).trans rfl
    have r1 : W11.frozen? ⟨r, 0, none⟩ = false := by simp [World.frozen?, q.or]
    clear q
    go_wp2_with fail
    exact SdA.leaves (fn := Tryd.f11) HS11.out HN.out 6 _ rfl rfl
  · have hall : (I && (G18 && (G19 && U))) = false := by simpa using hall
    rw [hall] at hmay
    have HALL := Lib.hid hall
    go_wp2_with fail
    refine HCK.out.mono ?_
    clear m0 m1 m2 m3 m4
    rintro e W5 ⟨rfl, hb5⟩
    have HS5 := Lib.hid (HS4.out.below hb5)
    clear hb5
    have q := HS5.out
    have r0 : W5.cell? ⟨r, 0, none⟩ = some (.bool false) := (cell_of_row _ _ 0 _ _ _ q.or).trans rfl
    have r1 : W5.frozen? ⟨r, 0, none⟩ = false := by simp [World.frozen?, q.or]
    clear q HU HI HG18 HG19
    cases I <;> cases G18 <;> cases G19 <;> cases U <;> first | (exfalso; exact absurd HALL.out (by decide)) | (clear HALL hall; go_wp2_with fail; exact SdA.leaves (fn := Tryd.f11) HS5.out HN.out 6 _ rfl rfl)

end Go.Proofs.YtakbgekamjpibaaDoor
