/-
  ValueSound: what stands in a right value is right. Conditions: the values lie in memory; the tables stand.
-/
import Derived.Test.YtakbgekamjpibaaDoorWi
import Derived.Test.YtakbgekamjpibaaDoorWj
namespace Go.Proofs.YtakbgekamjpibaaDoor
open Go.RowKit
set_option linter.unusedVariables false

attribute [local go_sem] Oper.semAt_some

set_option maxRecDepth 20000 in
set_option maxHeartbeats 4000000 in
theorem sound_walk (w : World) (hT : Tabs w) (a : V) (s : Value) (b : V) (t : Value) (c : V) (u : Value) (ha : VIn w a s) (hb : VIn w b t) (hc : VIn w c u) :
    Calls Tryd.prog 11 #[.agg #[.int .i64 a.kind, .int .u64 a.num, .string a.text, s, .int .i64 a.elem], .agg #[.int .i64 b.kind, .int .u64 b.num, .string b.text, t, .int .i64 b.elem], .agg #[.int .i64 c.kind, .int .u64 c.num, .string c.text, u, .int .i64 c.elem]] w fun e w' => e = .returned (.bool true) ∧ Below w.heap.size w w' := by
  obtain ⟨pa, ca, hsa, _⟩ := ha.slice
  obtain ⟨na, hna⟩ : ∃ n, a.list.length = n := ⟨_, rfl⟩
  rw [hna] at hsa
  subst hsa
  obtain ⟨pb, cb, hsb, _⟩ := hb.slice
  obtain ⟨nb, hnb⟩ : ∃ n, b.list.length = n := ⟨_, rfl⟩
  rw [hnb] at hsb
  subst hsb
  obtain ⟨pc, cc, hsc, _⟩ := hc.slice
  obtain ⟨nc, hnc⟩ : ∃ n, c.list.length = n := ⟨_, rfl⟩
  rw [hnc] at hsc
  subst hsc
  have HV := Lib.hid (And.intro ha (And.intro hb hc))
  have HT := Lib.hid hT
  have hfn := func_nil
  clear ha hb hc hT hna hnb hnc
  refine calls_of_wp_marks Tryd.func11 rfl ?_
  simp only [Tryd.ntmps11, List.size_toArray, List.length_cons, List.length_nil, Nat.reduceAdd, Nat.reduceSub, Array.replicate_succ, Array.replicate_zero, List.push_toArray, List.append_toArray, List.nil_append, List.cons_append]
  go_upto_region 1 with fail
  have hb0 : Below w.heap.size w ((((w.alloc (.cells #[.int .i64 a.kind, .int .u64 a.num, .string a.text, .slice pa na ca, .int .i64 a.elem] 25)).alloc (.cells #[.int .i64 b.kind, .int .u64 b.num, .string b.text, .slice pb nb cb, .int .i64 b.elem] 25)).alloc (.cells #[.int .i64 c.kind, .int .u64 c.num, .string c.text, .slice pc nc cc, .int .i64 c.elem] 25)).alloc (.cells #[.bool false] 4)) := ((((Below.refl _ _).alloc (Nat.le_refl _) _).alloc (by simp) _).alloc (by simp; omega) _).alloc (by simp; omega) _
  have o0 : ((((w.alloc (.cells #[.int .i64 a.kind, .int .u64 a.num, .string a.text, .slice pa na ca, .int .i64 a.elem] 25)).alloc (.cells #[.int .i64 b.kind, .int .u64 b.num, .string b.text, .slice pb nb cb, .int .i64 b.elem] 25)).alloc (.cells #[.int .i64 c.kind, .int .u64 c.num, .string c.text, .slice pc nc cc, .int .i64 c.elem] 25)).alloc (.cells #[.bool false] 4)).heap[w.heap.size]? = some (.cells #[.int .i64 a.kind, .int .u64 a.num, .string a.text, .slice pa na ca, .int .i64 a.elem] 25 (0, 0)) := (_root_.Go.heap_alloc_old _ _ (by simp; omega)).trans ((_root_.Go.heap_alloc_old _ _ (by simp; omega)).trans ((_root_.Go.heap_alloc_old _ _ (by simp)).trans (_root_.Go.heap_alloc_new _ _)))
  have o1 : ((((w.alloc (.cells #[.int .i64 a.kind, .int .u64 a.num, .string a.text, .slice pa na ca, .int .i64 a.elem] 25)).alloc (.cells #[.int .i64 b.kind, .int .u64 b.num, .string b.text, .slice pb nb cb, .int .i64 b.elem] 25)).alloc (.cells #[.int .i64 c.kind, .int .u64 c.num, .string c.text, .slice pc nc cc, .int .i64 c.elem] 25)).alloc (.cells #[.bool false] 4)).heap[w.heap.size + 1]? = some (.cells #[.int .i64 b.kind, .int .u64 b.num, .string b.text, .slice pb nb cb, .int .i64 b.elem] 25 (0, 0)) := (_root_.Go.heap_alloc_old _ _ (by simp)).trans ((_root_.Go.heap_alloc_old _ _ (by simp)).trans (by have := _root_.Go.heap_alloc_new (w.alloc (.cells #[.int .i64 a.kind, .int .u64 a.num, .string a.text, .slice pa na ca, .int .i64 a.elem] 25)) (.cells #[.int .i64 b.kind, .int .u64 b.num, .string b.text, .slice pb nb cb, .int .i64 b.elem] 25); rwa [World.size_alloc] at this))
  have o2 : ((((w.alloc (.cells #[.int .i64 a.kind, .int .u64 a.num, .string a.text, .slice pa na ca, .int .i64 a.elem] 25)).alloc (.cells #[.int .i64 b.kind, .int .u64 b.num, .string b.text, .slice pb nb cb, .int .i64 b.elem] 25)).alloc (.cells #[.int .i64 c.kind, .int .u64 c.num, .string c.text, .slice pc nc cc, .int .i64 c.elem] 25)).alloc (.cells #[.bool false] 4)).heap[w.heap.size + 1 + 1]? = some (.cells #[.int .i64 c.kind, .int .u64 c.num, .string c.text, .slice pc nc cc, .int .i64 c.elem] 25 (0, 0)) := (_root_.Go.heap_alloc_old _ _ (by simp)).trans (by have := _root_.Go.heap_alloc_new ((w.alloc (.cells #[.int .i64 a.kind, .int .u64 a.num, .string a.text, .slice pa na ca, .int .i64 a.elem] 25)).alloc (.cells #[.int .i64 b.kind, .int .u64 b.num, .string b.text, .slice pb nb cb, .int .i64 b.elem] 25)) (.cells #[.int .i64 c.kind, .int .u64 c.num, .string c.text, .slice pc nc cc, .int .i64 c.elem] 25); rwa [World.size_alloc, World.size_alloc] at this)
  have o3 : ((((w.alloc (.cells #[.int .i64 a.kind, .int .u64 a.num, .string a.text, .slice pa na ca, .int .i64 a.elem] 25)).alloc (.cells #[.int .i64 b.kind, .int .u64 b.num, .string b.text, .slice pb nb cb, .int .i64 b.elem] 25)).alloc (.cells #[.int .i64 c.kind, .int .u64 c.num, .string c.text, .slice pc nc cc, .int .i64 c.elem] 25)).alloc (.cells #[.bool false] 4)).heap[w.heap.size + 1 + 1 + 1]? = some (.cells #[.bool false] 4 (0, 0)) := by have := _root_.Go.heap_alloc_new (((w.alloc (.cells #[.int .i64 a.kind, .int .u64 a.num, .string a.text, .slice pa na ca, .int .i64 a.elem] 25)).alloc (.cells #[.int .i64 b.kind, .int .u64 b.num, .string b.text, .slice pb nb cb, .int .i64 b.elem] 25)).alloc (.cells #[.int .i64 c.kind, .int .u64 c.num, .string c.text, .slice pc nc cc, .int .i64 c.elem] 25)) (.cells #[.bool false] 4); rwa [World.size_alloc, World.size_alloc, World.size_alloc] at this
  generalize ((((w.alloc (.cells #[.int .i64 a.kind, .int .u64 a.num, .string a.text, .slice pa na ca, .int .i64 a.elem] 25)).alloc (.cells #[.int .i64 b.kind, .int .u64 b.num, .string b.text, .slice pb nb cb, .int .i64 b.elem] 25)).alloc (.cells #[.int .i64 c.kind, .int .u64 c.num, .string c.text, .slice pc nc cc, .int .i64 c.elem] 25)).alloc (.cells #[.bool false] 4)) = w0 at *
  obtain ⟨x, hx⟩ : ∃ x, w.heap.size = x := ⟨_, rfl⟩
  obtain ⟨y, hy⟩ : ∃ y, x + 1 = y := ⟨_, rfl⟩
  obtain ⟨z, hz⟩ : ∃ z, y + 1 = z := ⟨_, rfl⟩
  obtain ⟨r, hr⟩ : ∃ r, z + 1 = r := ⟨_, rfl⟩
  rw [hx] at o0
  rw [hx, hy] at o1
  rw [hx, hy, hz] at o2
  rw [hx, hy, hz, hr] at o3
  rw [hx, hy, hz, hr]
  have HS := Lib.hid (show SdA w x y z r #[.int .i64 a.kind, .int .u64 a.num, .string a.text, .slice pa na ca, .int .i64 a.elem] #[.int .i64 b.kind, .int .u64 b.num, .string b.text, .slice pb nb cb, .int .i64 b.elem] #[.int .i64 c.kind, .int .u64 c.num, .string c.text, .slice pc nc cc, .int .i64 c.elem] [] w0 from ⟨hb0, by omega, o0, o1, o2, o3, fun D hD => by cases hD⟩)
  clear hb0 o0 o1 o2 o3 hx hy hz hr
  have haw := awake_any w0 (HT.out.below HS.out.bel)
  go_wp2_with fail
  refine haw.mono ?_
  clear haw
  rintro e w1 ⟨rfl, hb1⟩
  have HS1 := Lib.hid (HS.out.below hb1)
  clear hb1 HS
  have q := HS1.out
  have x0 : w1.cell? ⟨x, 0, none⟩ = some (.int .i64 a.kind) := (cell_of_row _ _ 0 _ _ _ q.ox).trans rfl
  have x1 : w1.cell? ⟨x, 1, none⟩ = some (.int .u64 a.num) := (cell_of_row _ _ 1 _ _ _ q.ox).trans rfl
  have x2 : w1.cell? ⟨x, 2, none⟩ = some (.string a.text) := (cell_of_row _ _ 2 _ _ _ q.ox).trans rfl
  have x3 : w1.cell? ⟨x, 3, none⟩ = some (.slice pa na ca) := (cell_of_row _ _ 3 _ _ _ q.ox).trans rfl
  have x4 : w1.cell? ⟨x, 4, none⟩ = some (.int .i64 a.elem) := (cell_of_row _ _ 4 _ _ _ q.ox).trans rfl
  have y0 : w1.cell? ⟨y, 0, none⟩ = some (.int .i64 b.kind) := (cell_of_row _ _ 0 _ _ _ q.oy).trans rfl
  have y1 : w1.cell? ⟨y, 1, none⟩ = some (.int .u64 b.num) := (cell_of_row _ _ 1 _ _ _ q.oy).trans rfl
  have y2 : w1.cell? ⟨y, 2, none⟩ = some (.string b.text) := (cell_of_row _ _ 2 _ _ _ q.oy).trans rfl
  have y3 : w1.cell? ⟨y, 3, none⟩ = some (.slice pb nb cb) := (cell_of_row _ _ 3 _ _ _ q.oy).trans rfl
  have y4 : w1.cell? ⟨y, 4, none⟩ = some (.int .i64 b.elem) := (cell_of_row _ _ 4 _ _ _ q.oy).trans rfl
  have z0 : w1.cell? ⟨z, 0, none⟩ = some (.int .i64 c.kind) := (cell_of_row _ _ 0 _ _ _ q.oz).trans rfl
  have z1 : w1.cell? ⟨z, 1, none⟩ = some (.int .u64 c.num) := (cell_of_row _ _ 1 _ _ _ q.oz).trans rfl
  have z2 : w1.cell? ⟨z, 2, none⟩ = some (.string c.text) := (cell_of_row _ _ 2 _ _ _ q.oz).trans rfl
  have z3 : w1.cell? ⟨z, 3, none⟩ = some (.slice pc nc cc) := (cell_of_row _ _ 3 _ _ _ q.oz).trans rfl
  have z4 : w1.cell? ⟨z, 4, none⟩ = some (.int .i64 c.elem) := (cell_of_row _ _ 4 _ _ _ q.oz).trans rfl
  clear q
  have hbr : Below w1.heap.size w1 (w1.alloc (.cells #[.int .i64 a.kind, .int .u64 a.num, .string a.text, .slice pa na ca, .int .i64 a.elem, .int .i64 b.kind, .int .u64 b.num, .string b.text, .slice pb nb cb, .int .i64 b.elem, .int .i64 c.kind, .int .u64 c.num, .string c.text, .slice pc nc cc, .int .i64 c.elem] 25)) := (Below.refl _ _).alloc (Nat.le_refl _) _
  have hrow : (w1.alloc (.cells #[.int .i64 a.kind, .int .u64 a.num, .string a.text, .slice pa na ca, .int .i64 a.elem, .int .i64 b.kind, .int .u64 b.num, .string b.text, .slice pb nb cb, .int .i64 b.elem, .int .i64 c.kind, .int .u64 c.num, .string c.text, .slice pc nc cc, .int .i64 c.elem] 25)).heap[w1.heap.size]? = some (.cells (vrow [a, b, c] (fun i => match i with | 0 => .slice pa na ca | 1 => .slice pb nb cb | _ => .slice pc nc cc)).toArray 25 (0, 0)) := _root_.Go.heap_alloc_new w1 _
  have HSR := Lib.hid (HS1.out.below hbr)
  have hgr := greatAll_any (.mk 0 0 ⟨#[]⟩ [a, b, c] 0) _ _ (vin_row hrow (fun i hi => by
    match i, hi with
    | 0, _ => exact HV.out.1.blw HSR.out.bel
    | 1, _ => exact HV.out.2.1.blw HSR.out.bel
    | 2, _ => exact HV.out.2.2.blw HSR.out.bel) (by show 3 ≤ maxLen; unfold maxLen; omega))
  have HG : Hid (Calls Tryd.prog 21 #[.slice (some ⟨w1.heap.size, 0, none⟩) 3 3] (w1.alloc (.cells #[.int .i64 a.kind, .int .u64 a.num, .string a.text, .slice pa na ca, .int .i64 a.elem, .int .i64 b.kind, .int .u64 b.num, .string b.text, .slice pb nb cb, .int .i64 b.elem, .int .i64 c.kind, .int .u64 c.num, .string c.text, .slice pc nc cc, .int .i64 c.elem] 25)) _) := Lib.hid hgr
  clear hbr hrow hgr
  go_wp2_with fail
  refine HG.out.mono ?_
  clear x0 x1 x2 x3 x4 y0 y1 y2 y3 y4 z0 z1 z2 z3 z4
  obtain ⟨G, hG⟩ : ∃ G, decide (100000 < wts (V.mk 0 0 ⟨#[]⟩ [a, b, c] 0).list) = G := ⟨_, rfl⟩
  rw [hG]
  have HGD := Lib.hid hG
  rintro e w2 ⟨rfl, hb2⟩
  have HS2 := Lib.hid (HSR.out.below hb2)
  clear hb2 hG HSR HS1
  cases G
  rotate_left
  · have q := HS2.out
    have r0 : w2.cell? ⟨r, 0, none⟩ = some (.bool false) := (cell_of_row _ _ 0 _ _ _ q.or).trans rfl
    have r1 : w2.frozen? ⟨r, 0, none⟩ = false := by simp [World.frozen?, q.or]
    clear q
    go_wp2_with fail
    exact SdA.leaves (fn := Tryd.f11) HS2.out (by simp) 6 _ rfl rfl
  have HWT := Lib.hid (show wts [a, b, c] ≤ 100000 from by have h1 := of_decide_eq_false HGD.out; have h2 : ¬ 100000 < wts [a, b, c] := h1; omega)
  have HWA := Lib.hid (show a.wt ≤ 100000 ∧ (1 : Int) ≤ a.dep ∧ a.dep ≤ 100000 from by have h1 := HWT.out; have h2 := dep_bd a; simp only [wts] at h1; omega)
  have hc := check_any a w2 _ (HV.out.1.blw HS2.out.bel) (HT.out.below HS2.out.bel) (by have := HWA.out.1; omega)
  have hll := listed_law a
  have hcl := check_law a 1 (by omega)
  obtain ⟨fa, hfa⟩ : ∃ fa, firstBad (a.pre 1) = fa := ⟨_, rfl⟩
  have HFA := Lib.hid hfa
  rw [hfa] at hc hll hcl
  have HC := Lib.hid hc
  have HLL := Lib.hid (And.intro hll hcl)
  clear hc hll hcl hfa
  have q := HS2.out
  have x0 : w2.cell? ⟨x, 0, none⟩ = some (.int .i64 a.kind) := (cell_of_row _ _ 0 _ _ _ q.ox).trans rfl
  have x1 : w2.cell? ⟨x, 1, none⟩ = some (.int .u64 a.num) := (cell_of_row _ _ 1 _ _ _ q.ox).trans rfl
  have x2 : w2.cell? ⟨x, 2, none⟩ = some (.string a.text) := (cell_of_row _ _ 2 _ _ _ q.ox).trans rfl
  have x3 : w2.cell? ⟨x, 3, none⟩ = some (.slice pa na ca) := (cell_of_row _ _ 3 _ _ _ q.ox).trans rfl
  have x4 : w2.cell? ⟨x, 4, none⟩ = some (.int .i64 a.elem) := (cell_of_row _ _ 4 _ _ _ q.ox).trans rfl
  clear q
  by_cases hg : fa = 0
  · have hgb : (fa == 0) = true := by simpa using hg
    go_wp2_with fail
    refine HC.out.mono ?_
    clear x0 x1 x2 x3 x4
    rintro e w3 ⟨rfl, hb3⟩
    have HS3 := Lib.hid (HS2.out.below hb3)
    clear hb3
    have hc := depth_any a w3 _ (HV.out.1.blw HS3.out.bel) (by have := HWA.out.1; omega)
    rw [foldD_pre a 1 0, show max 0 (1 - 1 + a.dep) = a.dep by have := HWA.out.2.1; omega] at hc
    obtain ⟨dp, hdp⟩ : ∃ dp, a.dep = dp := ⟨_, rfl⟩
    have HDP := Lib.hid hdp
    rw [hdp] at hc
    have HC1 := Lib.hid hc
    clear hc hdp
    have q := HS3.out
    have x0 : w3.cell? ⟨x, 0, none⟩ = some (.int .i64 a.kind) := (cell_of_row _ _ 0 _ _ _ q.ox).trans rfl
    have x1 : w3.cell? ⟨x, 1, none⟩ = some (.int .u64 a.num) := (cell_of_row _ _ 1 _ _ _ q.ox).trans rfl
    have x2 : w3.cell? ⟨x, 2, none⟩ = some (.string a.text) := (cell_of_row _ _ 2 _ _ _ q.ox).trans rfl
    have x3 : w3.cell? ⟨x, 3, none⟩ = some (.slice pa na ca) := (cell_of_row _ _ 3 _ _ _ q.ox).trans rfl
    have x4 : w3.cell? ⟨x, 4, none⟩ = some (.int .i64 a.elem) := (cell_of_row _ _ 4 _ _ _ q.ox).trans rfl
    clear q
    go_wp2_with fail
    refine HC1.out.mono ?_
    clear x0 x1 x2 x3 x4
    rintro e w4 ⟨rfl, hb4⟩
    have HS4 := Lib.hid (HS3.out.below hb4)
    clear hb4
    go_upto_region 9 with fail
    have hb5 : Below w4.heap.size w4 (w4.alloc (.cells #[.int .i64 dp] 3)) := (Below.refl _ _).alloc (Nat.le_refl _) _
    have oq : (w4.alloc (.cells #[.int .i64 dp] 3)).heap[w4.heap.size]? = some (.cells #[.int .i64 dp] 3 (0, 0)) := _root_.Go.heap_alloc_new w4 _
    generalize (w4.alloc (.cells #[.int .i64 dp] 3)) = w5 at *
    obtain ⟨q, hq⟩ : ∃ q, w4.heap.size = q := ⟨_, rfl⟩
    rw [hq] at oq ⊢
    have HS5 := Lib.hid (And.intro (HS4.out.below hb5) oq)
    clear hb5 oq hq
    have q := HS5.out.1
    have x0 : w5.cell? ⟨x, 0, none⟩ = some (.int .i64 a.kind) := (cell_of_row _ _ 0 _ _ _ q.ox).trans rfl
    have x1 : w5.cell? ⟨x, 1, none⟩ = some (.int .u64 a.num) := (cell_of_row _ _ 1 _ _ _ q.ox).trans rfl
    have x2 : w5.cell? ⟨x, 2, none⟩ = some (.string a.text) := (cell_of_row _ _ 2 _ _ _ q.ox).trans rfl
    have x3 : w5.cell? ⟨x, 3, none⟩ = some (.slice pa na ca) := (cell_of_row _ _ 3 _ _ _ q.ox).trans rfl
    have x4 : w5.cell? ⟨x, 4, none⟩ = some (.int .i64 a.elem) := (cell_of_row _ _ 4 _ _ _ q.ox).trans rfl
    clear q
    have hbr : Below w5.heap.size w5 (w5.alloc (.cells #[.int .i64 a.kind, .int .u64 a.num, .string a.text, .slice pa na ca, .int .i64 a.elem] 25)) := (Below.refl _ _).alloc (Nat.le_refl _) _
    have hrow : (w5.alloc (.cells #[.int .i64 a.kind, .int .u64 a.num, .string a.text, .slice pa na ca, .int .i64 a.elem] 25)).heap[w5.heap.size]? = some (.cells (vrow [a] (fun _ => .slice pa na ca)).toArray 25 (0, 0)) := _root_.Go.heap_alloc_new w5 _
    have hsr := HS5.out.1.below hbr
    have hl := listed_any (.mk 0 0 ⟨#[]⟩ [a] 0) _ _ (vin_row hrow (fun i hi => by
      match i, hi with
      | 0, _ => exact HV.out.1.blw hsr.bel) (by show 1 ≤ maxLen; unfold maxLen; omega)) (by show wts [a] ≤ 1000000; simp only [wts]; have := HWA.out.1; omega)
    have HL : Hid (Calls Tryd.prog 33 #[.slice (some ⟨w5.heap.size, 0, none⟩) 1 1] (w5.alloc (.cells #[.int .i64 a.kind, .int .u64 a.num, .string a.text, .slice pa na ca, .int .i64 a.elem] 25)) _) := Lib.hid hl
    have HSR := Lib.hid (And.intro hsr ((hbr.block q (Array.getElem?_eq_some_iff.1 HS5.out.2).1).trans HS5.out.2))
    clear hbr hrow hsr hl
    go_wp2_with fail
    refine HL.out.mono ?_
    clear x0 x1 x2 x3 x4
    rintro e w6 ⟨tl, Fl, rfl, hvo, hb6⟩
    obtain ⟨pl, cl, hsl, hj1, hj2⟩ := hvo.slice
    clear hj1 hj2
    have hsl : tl = .slice pl 1 cl := hsl
    subst hsl
    have HS6 := Lib.hid (And.intro (HSR.out.1.below hb6) ((hb6.block q (Array.getElem?_eq_some_iff.1 HSR.out.2).1).trans HSR.out.2))
    have hck : Calls Tryd.prog 15 #[.agg #[.int .i64 21, .int .u64 0, .string ⟨#[]⟩, .slice pl 1 cl, .int .i64 0]] w6 _ := check_any (V.listed [a]) w6 _ hvo.vin (HT.out.below HS6.out.1.bel) (by have h0 : (V.listed [a]).text.size = 0 := rfl; have h1 : (V.listed [a]).list = [a] := rfl; rw [V.wt_eq, h0, h1]; simp only [wts]; have := HWA.out.1; omega)
    obtain ⟨fl, hfl⟩ : ∃ fl, firstBad ((V.listed [a]).pre 1) = fl := ⟨_, rfl⟩
    rw [hfl] at hck
    have HCK := Lib.hid hck
    obtain ⟨L, hL⟩ : ∃ L, decide (dp < 32) = L := ⟨_, rfl⟩
    have hflb : (fl == 0) = L := by
      have h := HLL.out.1
      rw [hfl, HDP.out] at h
      rw [Bool.eq_iff_iff]
      simp only [beq_iff_eq, decide_eq_true_eq]
      rw [← hL]; simp only [decide_eq_true_eq]; exact h.trans ⟨fun q => q.2, fun q => ⟨hg, q⟩⟩
    have HI := Lib.hid (show L = decide (firstBad (a.pre 1) = 0 ∧ a.dep < 32) from by rw [HFA.out, HDP.out]; simp [hg, hL])
    clear hck hvo hb6 hfl
    go_wp2_with fail
    refine HCK.out.mono ?_
    rintro e w7 ⟨rfl, hb7⟩
    have HS7 := Lib.hid (And.intro (HS6.out.1.below hb7) ((hb7.block q (Array.getElem?_eq_some_iff.1 HS6.out.2).1).trans HS6.out.2))
    clear hb7
    have cq : w7.cell? ⟨q, 0, none⟩ = some (.int .i64 dp) := (cell_of_row _ _ 0 _ _ _ HS7.out.2).trans rfl
    go_upto_region 13 with fail
    clear cq hgb hflb hL
    have hb8 : Below w7.heap.size w7 (w7.alloc (.cells #[.int .i64 0] 3)) := (Below.refl _ _).alloc (Nat.le_refl _) _
    have on : (w7.alloc (.cells #[.int .i64 0] 3)).heap[w7.heap.size]? = some (.cells #[.int .i64 0] 3 (0, 0)) := _root_.Go.heap_alloc_new w7 _
    generalize (w7.alloc (.cells #[.int .i64 0] 3)) = w8 at *
    obtain ⟨n, hn⟩ : ∃ n, w7.heap.size = n := ⟨_, rfl⟩
    rw [hn] at on ⊢
    have HS8 := Lib.hid (And.intro (HS7.out.1.below hb8) (And.intro hb8 (And.intro on hn)))
    clear hb8 on hn
    have q := HS8.out.1
    have x0 : w8.cell? ⟨x, 0, none⟩ = some (.int .i64 a.kind) := (cell_of_row _ _ 0 _ _ _ q.ox).trans rfl
    have x1 : w8.cell? ⟨x, 1, none⟩ = some (.int .u64 a.num) := (cell_of_row _ _ 1 _ _ _ q.ox).trans rfl
    have x2 : w8.cell? ⟨x, 2, none⟩ = some (.string a.text) := (cell_of_row _ _ 2 _ _ _ q.ox).trans rfl
    have x3 : w8.cell? ⟨x, 3, none⟩ = some (.slice pa na ca) := (cell_of_row _ _ 3 _ _ _ q.ox).trans rfl
    have x4 : w8.cell? ⟨x, 4, none⟩ = some (.int .i64 a.elem) := (cell_of_row _ _ 4 _ _ _ q.ox).trans rfl
    clear q
    have hal := all_any a w8 _ (HV.out.1.blw HS8.out.1.bel) (by have := HWA.out.1; omega)
    have HAL := Lib.hid hal
    clear hal
    go_wp2_with fail
    refine HAL.out.mono ?_
    clear x0 x1 x2 x3 x4
    rintro e w9 ⟨xa, u, FA, rfl, hxa, hvoa, hFx, hza, hb9⟩
    have HS9 := Lib.hid (HS8.out.1.below hb9)
    have HO9 := Lib.hid (And.intro hxa (And.intro hvoa (And.intro hFx (And.intro hza hb9))))
    clear hxa hvoa hFx hza hb9
    go_upto_region 16 with fail
    rename_i K1 hK1 K2 hK2
    have HK := Lib.hid hK1
    clear hK1
    go_wp2_with fail
    have hFA0 := HFA.out
    rw [hg] at hFA0
    obtain ⟨hall, hdl⟩ := HLL.out.2.1 hg
    obtain ⟨hxa, hvoa, hFx, hza, hb9⟩ := HO9.out
    obtain ⟨_, hb8, on, hn⟩ := HS8.out
    have hwa := HWA.out
    have on9 := (hb9.block n (Array.getElem?_eq_some_iff.1 on).1).trans on
    have hb79 : Below w7.heap.size w7 w9 := hb8.trans (hb9.mono hb8.size)
    have hn9 := (Array.getElem?_eq_some_iff.1 on9).1
    refine wp_range_all (x := xa) (v := a) (s := u) (F0 := FA) rfl rfl hxa hvoa (by omega) (fun k O W => CellI w7 n (fun m _ => m + 1) (fun m => 0 ≤ m ∧ m < 300) (a.pre 1) k O W ∧ KeepF (fun j => j = n) w9 W) (fun c O W => c = .exit 0 ∧ (O = fun j => j = n) ∧ Below w7.heap.size w7 W ∧ KeepF (fun j => j = n) w9 W) (fun j => j = n) ?_ ?_ ?_ ?_ ?_ ?_ ?_ ?_
    · rintro k O W ⟨_, hkf⟩ j hj
      have h1 := hvoa.lt j hj
      have h2 := (Array.getElem?_eq_some_iff.1 on).1
      exact hkf.block j h1.2 (fun e => by omega)
    · rintro k O W hI
      exact hI.1.fresh
    · rintro k O W W' d ⟨hI, hkf⟩ hg hd hO
      exact ⟨hI.turn hg (Nat.le_trans hb79.size hd) hO, hkf.grown hg hd⟩
    · rintro cc O W W' d ⟨rfl, rfl, hB, hkf⟩ hg hd hO
      refine ⟨rfl, rfl, ?_, hkf.grown hg hd⟩
      exact ⟨hg.os.trans hB.os, hg.tape.trans hB.tape, hg.output.trans hB.output, Nat.le_trans hB.size hg.size, fun j hj => (hg.block j (Nat.lt_of_lt_of_le hj hB.size) (fun e => by have := Option.some.inj e; have := hb79.size; omega)).trans (hB.block j hj)⟩
    · exact ⟨⟨rfl, hb79, by omega, 0, ⟨by omega, by omega⟩, on9, by rw [List.drop_zero]⟩, KeepF.refl _ _⟩
    · intro K k O d z t F W W' hrd hI n1 n2 hz hL hbw hzo
      obtain ⟨hI, hkf⟩ := hI
      have hI2 := hI.turn (d := w9.heap.size) (grown_below hbw _) (by have := hb79.size; omega) n1
      obtain ⟨rfl, hI3⟩ := hI2
      have hmem := List.mem_of_getElem? hL
      obtain ⟨hp1, hp2⟩ := pre_part a 1 _ hmem
      have hpd := pre_depth a 1 _ hmem
      have hzw := pre_wt a 1 _ hmem
      have hzd := dep_bd z
      simp only at hp1 hpd hzw
      have hdp := HDP.out
      have hI4 : CellI w7 n (fun m _ => m + 1) (fun m => 0 ≤ m ∧ m < 300) (a.pre 1) k (fun j => j = n) W' := ⟨rfl, hI3⟩
      refine round_sound K w7 w9 W' q n dp (a.pre 1) k d z t F _ _ _ _ _ _ _ _ _ _ _ _ _ _ _ _ _ _ _ _ _ _ _ _ _ _ _ _ _ _ _ _ _ _ _ _ _ _ _ _ _ _ _ _ _ _ (by kernel_rfl) hrd hI4 ((hI3.1.block q (Array.getElem?_eq_some_iff.1 HS7.out.2).1).trans HS7.out.2) (Array.getElem?_eq_some_iff.1 HS7.out.2).1 hL hzo.vin (HT.out.below (HS7.out.1.below hI3.1).bel) (by omega) ((check_law z 1 (by omega)).2 ⟨hp2 1 hall 1, by omega⟩) (by omega) (by omega) (by rw [foldD_pre z 1 0]; omega) (by omega) (by omega) (by omega) (Nat.le_trans hz hbw.size) rfl hn9 (hkf.trans (KeepF.of_below hbw)) (by omega)
    · rintro O W ⟨⟨rfl, hB, hw1, m, _, hc, hf⟩, _⟩ hD hO
      have hS := HS7.out.1.below hB
      refine HK.out _ _ ?_
      have hds : ∀ D ∈ [w9.heap.size], W.heap[D]? = some (.deferred (some [])) ∧ w.heap.size ≤ D := by
        intro D hD2
        obtain rfl : D = w9.heap.size := by simpa using hD2
        exact ⟨hD, HS9.out.bel.size⟩
      exact sound_tail HT.out a pa na ca b pb nb cb c pc nc cc HV.out.1 HV.out.2.1 HV.out.2.2 HWT.out  ⟨hS.bel, hS.ge, hS.ox, hS.oy, hS.oz, hS.or, hds⟩ (by simp : [w9.heap.size].Nodup) L HI.out _ _ _ _ _ _ _ _ _ _ _ _ _ _ _ _ _ _ _ _ _ _ _ _ _ _ _ _ _ _ _ _ _ _ _ _ _ _ _ _ _ _ _ _ _ _ _ _ _ _ _ _ _ _ _ _ _ _ _ _ _ _ _ _ _ _ (by kernel_rfl)
    · rintro cc O W ⟨rfl, rfl, hB, _⟩ hD hO
      have hS := HS7.out.1.below hB
      refine wp_exit ?_
      refine HK.out _ _ ?_
      have hds : ∀ D ∈ [w9.heap.size], W.heap[D]? = some (.deferred (some [])) ∧ w.heap.size ≤ D := by
        intro D hD2
        obtain rfl : D = w9.heap.size := by simpa using hD2
        exact ⟨hD, HS9.out.bel.size⟩
      exact sound_tail HT.out a pa na ca b pb nb cb c pc nc cc HV.out.1 HV.out.2.1 HV.out.2.2 HWT.out  ⟨hS.bel, hS.ge, hS.ox, hS.oy, hS.oz, hS.or, hds⟩ (by simp : [w9.heap.size].Nodup) L HI.out _ _ _ _ _ _ _ _ _ _ _ _ _ _ _ _ _ _ _ _ _ _ _ _ _ _ _ _ _ _ _ _ _ _ _ _ _ _ _ _ _ _ _ _ _ _ _ _ _ _ _ _ _ _ _ _ _ _ _ _ _ _ _ _ _ _ (by kernel_rfl)
  · have hgb : (fa == 0) = false := by simpa using hg
    go_wp2_with fail
    refine HC.out.mono ?_
    clear x0 x1 x2 x3 x4
    rintro e w3 ⟨rfl, hb3⟩
    have HS3 := Lib.hid (HS2.out.below hb3)
    clear hb3
    have hc := depth_any a w3 _ (HV.out.1.blw HS3.out.bel) (by have := HWA.out.1; omega)
    rw [foldD_pre a 1 0, show max 0 (1 - 1 + a.dep) = a.dep by have := HWA.out.2.1; omega] at hc
    obtain ⟨dp, hdp⟩ : ∃ dp, a.dep = dp := ⟨_, rfl⟩
    have HDP := Lib.hid hdp
    rw [hdp] at hc
    have HC1 := Lib.hid hc
    clear hc hdp
    have q := HS3.out
    have x0 : w3.cell? ⟨x, 0, none⟩ = some (.int .i64 a.kind) := (cell_of_row _ _ 0 _ _ _ q.ox).trans rfl
    have x1 : w3.cell? ⟨x, 1, none⟩ = some (.int .u64 a.num) := (cell_of_row _ _ 1 _ _ _ q.ox).trans rfl
    have x2 : w3.cell? ⟨x, 2, none⟩ = some (.string a.text) := (cell_of_row _ _ 2 _ _ _ q.ox).trans rfl
    have x3 : w3.cell? ⟨x, 3, none⟩ = some (.slice pa na ca) := (cell_of_row _ _ 3 _ _ _ q.ox).trans rfl
    have x4 : w3.cell? ⟨x, 4, none⟩ = some (.int .i64 a.elem) := (cell_of_row _ _ 4 _ _ _ q.ox).trans rfl
    clear q
    go_wp2_with fail
    refine HC1.out.mono ?_
    clear x0 x1 x2 x3 x4
    rintro e w4 ⟨rfl, hb4⟩
    have HS4 := Lib.hid (HS3.out.below hb4)
    clear hb4
    go_upto_region 9 with fail
    have hb5 : Below w4.heap.size w4 (w4.alloc (.cells #[.int .i64 dp] 3)) := (Below.refl _ _).alloc (Nat.le_refl _) _
    have oq : (w4.alloc (.cells #[.int .i64 dp] 3)).heap[w4.heap.size]? = some (.cells #[.int .i64 dp] 3 (0, 0)) := _root_.Go.heap_alloc_new w4 _
    generalize (w4.alloc (.cells #[.int .i64 dp] 3)) = w5 at *
    obtain ⟨q, hq⟩ : ∃ q, w4.heap.size = q := ⟨_, rfl⟩
    rw [hq] at oq ⊢
    have HS5 := Lib.hid (And.intro (HS4.out.below hb5) oq)
    clear hb5 oq hq
    have q := HS5.out.1
    have x0 : w5.cell? ⟨x, 0, none⟩ = some (.int .i64 a.kind) := (cell_of_row _ _ 0 _ _ _ q.ox).trans rfl
    have x1 : w5.cell? ⟨x, 1, none⟩ = some (.int .u64 a.num) := (cell_of_row _ _ 1 _ _ _ q.ox).trans rfl
    have x2 : w5.cell? ⟨x, 2, none⟩ = some (.string a.text) := (cell_of_row _ _ 2 _ _ _ q.ox).trans rfl
    have x3 : w5.cell? ⟨x, 3, none⟩ = some (.slice pa na ca) := (cell_of_row _ _ 3 _ _ _ q.ox).trans rfl
    have x4 : w5.cell? ⟨x, 4, none⟩ = some (.int .i64 a.elem) := (cell_of_row _ _ 4 _ _ _ q.ox).trans rfl
    clear q
    have hbr : Below w5.heap.size w5 (w5.alloc (.cells #[.int .i64 a.kind, .int .u64 a.num, .string a.text, .slice pa na ca, .int .i64 a.elem] 25)) := (Below.refl _ _).alloc (Nat.le_refl _) _
    have hrow : (w5.alloc (.cells #[.int .i64 a.kind, .int .u64 a.num, .string a.text, .slice pa na ca, .int .i64 a.elem] 25)).heap[w5.heap.size]? = some (.cells (vrow [a] (fun _ => .slice pa na ca)).toArray 25 (0, 0)) := _root_.Go.heap_alloc_new w5 _
    have hsr := HS5.out.1.below hbr
    have hl := listed_any (.mk 0 0 ⟨#[]⟩ [a] 0) _ _ (vin_row hrow (fun i hi => by
      match i, hi with
      | 0, _ => exact HV.out.1.blw hsr.bel) (by show 1 ≤ maxLen; unfold maxLen; omega)) (by show wts [a] ≤ 1000000; simp only [wts]; have := HWA.out.1; omega)
    have HL : Hid (Calls Tryd.prog 33 #[.slice (some ⟨w5.heap.size, 0, none⟩) 1 1] (w5.alloc (.cells #[.int .i64 a.kind, .int .u64 a.num, .string a.text, .slice pa na ca, .int .i64 a.elem] 25)) _) := Lib.hid hl
    have HSR := Lib.hid (And.intro hsr ((hbr.block q (Array.getElem?_eq_some_iff.1 HS5.out.2).1).trans HS5.out.2))
    clear hbr hrow hsr hl
    go_wp2_with fail
    refine HL.out.mono ?_
    clear x0 x1 x2 x3 x4
    rintro e w6 ⟨tl, Fl, rfl, hvo, hb6⟩
    obtain ⟨pl, cl, hsl, hj1, hj2⟩ := hvo.slice
    clear hj1 hj2
    have hsl : tl = .slice pl 1 cl := hsl
    subst hsl
    have HS6 := Lib.hid (And.intro (HSR.out.1.below hb6) ((hb6.block q (Array.getElem?_eq_some_iff.1 HSR.out.2).1).trans HSR.out.2))
    have hck : Calls Tryd.prog 15 #[.agg #[.int .i64 21, .int .u64 0, .string ⟨#[]⟩, .slice pl 1 cl, .int .i64 0]] w6 _ := check_any (V.listed [a]) w6 _ hvo.vin (HT.out.below HS6.out.1.bel) (by have h0 : (V.listed [a]).text.size = 0 := rfl; have h1 : (V.listed [a]).list = [a] := rfl; rw [V.wt_eq, h0, h1]; simp only [wts]; have := HWA.out.1; omega)
    obtain ⟨fl, hfl⟩ : ∃ fl, firstBad ((V.listed [a]).pre 1) = fl := ⟨_, rfl⟩
    rw [hfl] at hck
    have HCK := Lib.hid hck
    obtain ⟨L, hL⟩ : ∃ L, decide (dp < 32) = L := ⟨_, rfl⟩
    have hflb : (fl == 0) = false := by
      have h := HLL.out.1
      rw [hfl, HDP.out] at h
      rw [Bool.eq_iff_iff]
      simp only [beq_iff_eq, Bool.false_eq_true, iff_false]
      exact fun q => hg (h.1 q).1
    have HI := Lib.hid (show false = decide (firstBad (a.pre 1) = 0 ∧ a.dep < 32) from by rw [HFA.out, HDP.out]; simp [hg])
    clear hck hvo hb6 hfl
    go_wp2_with fail
    refine HCK.out.mono ?_
    rintro e w7 ⟨rfl, hb7⟩
    have HS7 := Lib.hid (And.intro (HS6.out.1.below hb7) ((hb7.block q (Array.getElem?_eq_some_iff.1 HS6.out.2).1).trans HS6.out.2))
    clear hb7
    have cq : w7.cell? ⟨q, 0, none⟩ = some (.int .i64 dp) := (cell_of_row _ _ 0 _ _ _ HS7.out.2).trans rfl
    go_upto_region 13 with fail
    clear cq hgb hflb hL
    have hb8 : Below w7.heap.size w7 (w7.alloc (.cells #[.int .i64 0] 3)) := (Below.refl _ _).alloc (Nat.le_refl _) _
    have on : (w7.alloc (.cells #[.int .i64 0] 3)).heap[w7.heap.size]? = some (.cells #[.int .i64 0] 3 (0, 0)) := _root_.Go.heap_alloc_new w7 _
    generalize (w7.alloc (.cells #[.int .i64 0] 3)) = w8 at *
    obtain ⟨n, hn⟩ : ∃ n, w7.heap.size = n := ⟨_, rfl⟩
    rw [hn] at on ⊢
    have HS8 := Lib.hid (And.intro (HS7.out.1.below hb8) (And.intro hb8 (And.intro on hn)))
    clear hb8 on hn
    have q := HS8.out.1
    have x0 : w8.cell? ⟨x, 0, none⟩ = some (.int .i64 a.kind) := (cell_of_row _ _ 0 _ _ _ q.ox).trans rfl
    have x1 : w8.cell? ⟨x, 1, none⟩ = some (.int .u64 a.num) := (cell_of_row _ _ 1 _ _ _ q.ox).trans rfl
    have x2 : w8.cell? ⟨x, 2, none⟩ = some (.string a.text) := (cell_of_row _ _ 2 _ _ _ q.ox).trans rfl
    have x3 : w8.cell? ⟨x, 3, none⟩ = some (.slice pa na ca) := (cell_of_row _ _ 3 _ _ _ q.ox).trans rfl
    have x4 : w8.cell? ⟨x, 4, none⟩ = some (.int .i64 a.elem) := (cell_of_row _ _ 4 _ _ _ q.ox).trans rfl
    clear q
    have hal := all_any a w8 _ (HV.out.1.blw HS8.out.1.bel) (by have := HWA.out.1; omega)
    have HAL := Lib.hid hal
    clear hal
    go_wp2_with fail
    refine HAL.out.mono ?_
    clear x0 x1 x2 x3 x4
    rintro e w9 ⟨xa, u, FA, rfl, hxa, hvoa, hFx, hza, hb9⟩
    have HS9 := Lib.hid (HS8.out.1.below hb9)
    have HO9 := Lib.hid (And.intro hxa (And.intro hvoa (And.intro hFx (And.intro hza hb9))))
    clear hxa hvoa hFx hza hb9
    go_upto_region 16 with fail
    rename_i K1 hK1 K2 hK2
    have HK := Lib.hid hK1
    clear hK1
    go_wp2_with fail
    refine HK.out _ _ ?_
    exact sound_tail HT.out a pa na ca b pb nb cb c pc nc cc HV.out.1 HV.out.2.1 HV.out.2.2 HWT.out  HS9.out (by simp : ([] : List Nat).Nodup) false HI.out _ _ _ _ _ _ _ _ _ _ _ _ _ _ _ _ _ _ _ _ _ _ _ _ _ _ _ _ _ _ _ _ _ _ _ _ _ _ _ _ _ _ _ _ _ _ _ _ _ _ _ _ _ _ _ _ _ _ _ _ _ _ _ _ _ _ (by kernel_rfl)

end Go.Proofs.YtakbgekamjpibaaDoor
