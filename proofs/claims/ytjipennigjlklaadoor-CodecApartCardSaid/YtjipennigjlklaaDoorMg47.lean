/-
  CodecApart: two values have the same bytes just if they are the same. Conditions: the values lie in memory; the tables stand.
  From the rows' list of laid variables to the decoder's tables; a world that lays them, for the witnesses. No conditions.
-/
import Derived.Test.YtjipennigjlklaaDoorMg46
import Derived.Test.YtjipennigjlklaaDoorMg07
import Derived.Lib.LaidU8
import Derived.PinnedBridge
namespace Go.Proofs.YtjipennigjlklaaDoor
open Go.RowKit
set_option linter.unusedVariables false
set_option maxHeartbeats 4000000

attribute [local go_sem] Oper.semAt_some

theorem VIn.pair {w : World} {g : Nat} {a b : V} {s t : Value} (hg : w.heap[g]? = some (.cells (vcells a s ++ vcells b t).toArray 25 (0, 0))) (h1 : VIn w a s) (h2 : VIn w b t) : VIn w (V.mk 0 0 ⟨#[]⟩ [a, b] 0) (.slice (some ⟨g, 0, none⟩) 2 2) := by
  have hl : (V.mk 0 0 ⟨#[]⟩ [a, b] 0).list = [a, b] := rfl
  have hwf : (V.mk 0 0 ⟨#[]⟩ [] 0).Wf := ⟨by constructor <;> decide, by constructor <;> decide, by decide, by constructor <;> decide⟩
  refine .mk _ (some ⟨g, 0, none⟩) 2 (fun i => if i = 0 then s else t) ⟨hwf.k, hwf.n, hwf.t, hwf.e⟩ (Nat.le_refl _) (by unfold maxLen; omega) (fun _ => ⟨g, 0, rfl⟩) (fun b' o e i hi j u hu => ?_) (fun i hi => ?_)
  · simp only [Option.some.injEq, Addr.mk.injEq] at e
    obtain ⟨rfl, rfl, _⟩ := e
    rw [hl] at hi
    have hj : j < 5 := (List.getElem?_eq_some_iff.1 hu).1
    rw [cell_of_row _ _ _ _ _ _ hg]
    match i, hi with
    | 0, _ =>
      simp only [Nat.zero_add, Nat.zero_mul, List.getElem?_toArray]
      rw [List.getElem?_append_left hj]
      exact hu
    | 1, _ =>
      simp only [Nat.zero_add, Nat.one_mul, List.getElem?_toArray]
      rw [List.getElem?_append_right (show (vcells a s).length ≤ 5 + j from Nat.le_add_right 5 j), show 5 + j - (vcells a s).length = j from Nat.add_sub_cancel_left 5 j]
      exact hu
  · rw [hl] at hi
    match i, hi with
    | 0, _ => exact h1
    | 1, _ => exact h2
theorem bytes_beq (l m : List UInt8) : ((⟨l.toArray⟩ : ByteArray).toList == (⟨m.toArray⟩ : ByteArray).toList) = decide (l = m) := by
  rw [teq]
  refine decide_eq_decide.2 ⟨fun h => ?_, fun h => by rw [h]⟩
  injection h with h
  simpa using congrArg Array.toList h
theorem wts_two (a b : V) : wts [a, b] = a.wt + b.wt := by simp [wts]
set_option maxRecDepth 20000 in
theorem apart_walk (w : World) (hT : Tabs w) (a : V) (s : Value) (b : V) (t : Value) (ha : VIn w a s) (hb : VIn w b t) :
    Calls Tryd.prog 6 #[.agg #[.int .i64 a.kind, .int .u64 a.num, .string a.text, s, .int .i64 a.elem], .agg #[.int .i64 b.kind, .int .u64 b.num, .string b.text, t, .int .i64 b.elem]] w fun e w' => e = .returned (.bool true) ∧ Below w.heap.size w w' := by
  obtain ⟨ps, cs, hs, _, _⟩ := ha.slice
  obtain ⟨qs, ds, ht, _, _⟩ := hb.slice
  subst hs ht
  have HV := Lib.hid (And.intro ha (And.intro hb hT))
  clear ha hb hT
  go_enter Tryd.func6, Tryd.ntmps6
  go_upto_region 1 with fail
  obtain ⟨W0, hW0⟩ : ∃ W0, W0 = ((w.alloc (.cells #[.int .i64 a.kind, .int .u64 a.num, .string a.text, (.slice ps a.list.length cs), .int .i64 a.elem] 25)).alloc (.cells #[.int .i64 b.kind, .int .u64 b.num, .string b.text, (.slice qs b.list.length ds), .int .i64 b.elem] 25)) := ⟨_, rfl⟩
  have a1 := alloc_at w (.cells #[.int .i64 a.kind, .int .u64 a.num, .string a.text, (.slice ps a.list.length cs), .int .i64 a.elem] 25) _ rfl
  have a2 := alloc_at (w.alloc (.cells #[.int .i64 a.kind, .int .u64 a.num, .string a.text, (.slice ps a.list.length cs), .int .i64 a.elem] 25)) (.cells #[.int .i64 b.kind, .int .u64 b.num, .string b.text, (.slice qs b.list.length ds), .int .i64 b.elem] 25) _ a1.2
  have a3 := (Go.heap_alloc_old (w.alloc (.cells #[.int .i64 a.kind, .int .u64 a.num, .string a.text, (.slice ps a.list.length cs), .int .i64 a.elem] 25)) (.cells #[.int .i64 b.kind, .int .u64 b.num, .string b.text, (.slice qs b.list.length ds), .int .i64 b.elem] 25) (r := w.heap.size) (by rw [a1.2]; omega)).trans a1.1
  have hb0 : Below w.heap.size w ((w.alloc (.cells #[.int .i64 a.kind, .int .u64 a.num, .string a.text, (.slice ps a.list.length cs), .int .i64 a.elem] 25)).alloc (.cells #[.int .i64 b.kind, .int .u64 b.num, .string b.text, (.slice qs b.list.length ds), .int .i64 b.elem] 25)) := ((Below.refl _ _).alloc (Nat.le_refl _) _).alloc (by rw [a1.2]; omega) _
  rw [← hW0] at a2 a3 hb0 ⊢
  clear hW0
  obtain ⟨x, hx⟩ : ∃ x, w.heap.size = x := ⟨_, rfl⟩
  have hb0' := hb0
  rw [hx] at a2 a3
  simp only [hx]
  have H0 := Lib.hid (And.intro hb0' (And.intro a3 a2.1))
  clear a1 a2 a3 hb0 hb0' hx
  go_wp2_with fail
  refine (awake_any W0 (HV.out.2.2.below H0.out.1)).mono ?_
  rintro e w1 ⟨rfl, hb1⟩
  have H1 := Lib.hid (And.intro (H0.out.1.trans (hb1.mono H0.out.1.size)) (And.intro ((hb1.block x (gl H0.out.2.1)).trans H0.out.2.1) ((hb1.block (x + 1) (gl H0.out.2.2)).trans H0.out.2.2)))
  clear hb1
  have x0 : w1.cell? ⟨x, 0, none⟩ = some (.int .i64 a.kind) := (cell_of_row _ _ 0 _ _ _ H1.out.2.1).trans rfl
  have x1 : w1.cell? ⟨x, 1, none⟩ = some (.int .u64 a.num) := (cell_of_row _ _ 1 _ _ _ H1.out.2.1).trans rfl
  have x2 : w1.cell? ⟨x, 2, none⟩ = some (.string a.text) := (cell_of_row _ _ 2 _ _ _ H1.out.2.1).trans rfl
  have x3 : w1.cell? ⟨x, 3, none⟩ = some ((.slice ps a.list.length cs)) := (cell_of_row _ _ 3 _ _ _ H1.out.2.1).trans rfl
  have x4 : w1.cell? ⟨x, 4, none⟩ = some (.int .i64 a.elem) := (cell_of_row _ _ 4 _ _ _ H1.out.2.1).trans rfl
  have y0 : w1.cell? ⟨(x + 1), 0, none⟩ = some (.int .i64 b.kind) := (cell_of_row _ _ 0 _ _ _ H1.out.2.2).trans rfl
  have y1 : w1.cell? ⟨(x + 1), 1, none⟩ = some (.int .u64 b.num) := (cell_of_row _ _ 1 _ _ _ H1.out.2.2).trans rfl
  have y2 : w1.cell? ⟨(x + 1), 2, none⟩ = some (.string b.text) := (cell_of_row _ _ 2 _ _ _ H1.out.2.2).trans rfl
  have y3 : w1.cell? ⟨(x + 1), 3, none⟩ = some ((.slice qs b.list.length ds)) := (cell_of_row _ _ 3 _ _ _ H1.out.2.2).trans rfl
  have y4 : w1.cell? ⟨(x + 1), 4, none⟩ = some (.int .i64 b.elem) := (cell_of_row _ _ 4 _ _ _ H1.out.2.2).trans rfl
  go_upto_region 5 with (refine wpList_build2 rfl (.tmp 16) (.tmp 17) rfl _ _ _ _ _ _ _ _ _ _ rfl rfl ?_)
  have hg1 : Below w1.heap.size w1 (w1.alloc (.cells #[.int .i64 a.kind, .int .u64 a.num, .string a.text, (.slice ps a.list.length cs), .int .i64 a.elem, .int .i64 b.kind, .int .u64 b.num, .string b.text, (.slice qs b.list.length ds), .int .i64 b.elem] 25)) := (Below.refl _ _).alloc (Nat.le_refl _) _
  have og := _root_.Go.heap_alloc_new w1 (.cells #[.int .i64 a.kind, .int .u64 a.num, .string a.text, (.slice ps a.list.length cs), .int .i64 a.elem, .int .i64 b.kind, .int .u64 b.num, .string b.text, (.slice qs b.list.length ds), .int .i64 b.elem] 25)
  change Calls _ _ _ (w1.alloc (.cells #[.int .i64 a.kind, .int .u64 a.num, .string a.text, (.slice ps a.list.length cs), .int .i64 a.elem, .int .i64 b.kind, .int .u64 b.num, .string b.text, (.slice qs b.list.length ds), .int .i64 b.elem] 25)) _
  generalize w1.alloc (.cells #[.int .i64 a.kind, .int .u64 a.num, .string a.text, (.slice ps a.list.length cs), .int .i64 a.elem, .int .i64 b.kind, .int .u64 b.num, .string b.text, (.slice qs b.list.length ds), .int .i64 b.elem] 25) = w2 at *
  have H2 := Lib.hid (And.intro (H1.out.1.trans (hg1.mono H1.out.1.size)) (And.intro ((hg1.block x (gl H1.out.2.1)).trans H1.out.2.1) ((hg1.block (x + 1) (gl H1.out.2.2)).trans H1.out.2.2)))
  have hvp := VIn.pair (a := a) (b := b) (s := (.slice ps a.list.length cs)) (t := (.slice qs b.list.length ds)) (g := w1.heap.size) og (HV.out.1.blw H2.out.1) (HV.out.2.1.blw H2.out.1)
  have hgr := greatAll_any _ w2 _ hvp
  rw [show (V.mk 0 0 ⟨#[]⟩ [a, b] 0).list = [a, b] from rfl, wts_two] at hgr
  have HGR := Lib.hid hgr
  clear hg1 og hvp hgr x0 x1 x2 x3 x4 y0 y1 y2 y3 y4
  by_cases hgt : 100000 < a.wt + b.wt
  · have hc := HGR.out
    rw [decide_eq_true hgt] at hc
    refine hc.mono ?_
    rintro e w3 ⟨rfl, hb3⟩
    have HB := Lib.hid (H2.out.1.trans (hb3.mono H2.out.1.size))
    clear hb3 hc hgt
    go_wp2_with fail
    go_ret
    exact ⟨rfl, HB.out⟩
  have hc := HGR.out
  rw [decide_eq_false hgt] at hc
  have HG := Lib.hid (show a.wt ≤ 2000000 ∧ b.wt ≤ 2000000 by omega)
  refine hc.mono ?_
  rintro e w3 ⟨rfl, hb3⟩
  have H3 := Lib.hid (And.intro (H2.out.1.trans (hb3.mono H2.out.1.size)) (And.intro ((hb3.block x (gl H2.out.2.1)).trans H2.out.2.1) ((hb3.block (x + 1) (gl H2.out.2.2)).trans H2.out.2.2)))
  clear hb3 hc hgt
  have x0 : w3.cell? ⟨x, 0, none⟩ = some (.int .i64 a.kind) := (cell_of_row _ _ 0 _ _ _ H3.out.2.1).trans rfl
  have x1 : w3.cell? ⟨x, 1, none⟩ = some (.int .u64 a.num) := (cell_of_row _ _ 1 _ _ _ H3.out.2.1).trans rfl
  have x2 : w3.cell? ⟨x, 2, none⟩ = some (.string a.text) := (cell_of_row _ _ 2 _ _ _ H3.out.2.1).trans rfl
  have x3 : w3.cell? ⟨x, 3, none⟩ = some ((.slice ps a.list.length cs)) := (cell_of_row _ _ 3 _ _ _ H3.out.2.1).trans rfl
  have x4 : w3.cell? ⟨x, 4, none⟩ = some (.int .i64 a.elem) := (cell_of_row _ _ 4 _ _ _ H3.out.2.1).trans rfl
  have y0 : w3.cell? ⟨(x + 1), 0, none⟩ = some (.int .i64 b.kind) := (cell_of_row _ _ 0 _ _ _ H3.out.2.2).trans rfl
  have y1 : w3.cell? ⟨(x + 1), 1, none⟩ = some (.int .u64 b.num) := (cell_of_row _ _ 1 _ _ _ H3.out.2.2).trans rfl
  have y2 : w3.cell? ⟨(x + 1), 2, none⟩ = some (.string b.text) := (cell_of_row _ _ 2 _ _ _ H3.out.2.2).trans rfl
  have y3 : w3.cell? ⟨(x + 1), 3, none⟩ = some ((.slice qs b.list.length ds)) := (cell_of_row _ _ 3 _ _ _ H3.out.2.2).trans rfl
  have y4 : w3.cell? ⟨(x + 1), 4, none⟩ = some (.int .i64 b.elem) := (cell_of_row _ _ 4 _ _ _ H3.out.2.2).trans rfl
  have hc := encode_any a w3 _ (HV.out.1.blw H3.out.1) (HV.out.2.2.below H3.out.1) HG.out.1
  have HCE1 := Lib.hid hc
  clear hc
  go_wp2_with fail
  refine HCE1.out.mono ?_
  rintro e w4 ⟨u1, rfl, hou1, hb4⟩
  obtain ⟨pu, cu, hu, _⟩ := hou1.bytes
  subst hu
  have hbd1 := encS_bad (v := a)
  have hok1 := encS_ok (vin_wf a _ HV.out.1)
  obtain ⟨E1, hE1⟩ : ∃ E, encS a = E := ⟨_, rfl⟩
  rw [hE1] at hou1 hbd1 hok1 ⊢
  obtain ⟨L1, e1⟩ := E1
  simp only at hou1 hbd1 hok1 ⊢
  have H4 := Lib.hid (And.intro (H3.out.1.trans (hb4.mono H3.out.1.size)) (And.intro ((hb4.block x (gl H3.out.2.1)).trans H3.out.2.1) ((hb4.block (x + 1) (gl H3.out.2.2)).trans H3.out.2.2)))
  have HU1 := Lib.hid (And.intro hou1 (And.intro hbd1 hok1))
  clear hb4 hou1 hbd1 hok1 hE1 x0 x1 x2 x3 x4 y0 y1 y2 y3 y4
  have x0 : w4.cell? ⟨x, 0, none⟩ = some (.int .i64 a.kind) := (cell_of_row _ _ 0 _ _ _ H4.out.2.1).trans rfl
  have x1 : w4.cell? ⟨x, 1, none⟩ = some (.int .u64 a.num) := (cell_of_row _ _ 1 _ _ _ H4.out.2.1).trans rfl
  have x2 : w4.cell? ⟨x, 2, none⟩ = some (.string a.text) := (cell_of_row _ _ 2 _ _ _ H4.out.2.1).trans rfl
  have x3 : w4.cell? ⟨x, 3, none⟩ = some ((.slice ps a.list.length cs)) := (cell_of_row _ _ 3 _ _ _ H4.out.2.1).trans rfl
  have x4 : w4.cell? ⟨x, 4, none⟩ = some (.int .i64 a.elem) := (cell_of_row _ _ 4 _ _ _ H4.out.2.1).trans rfl
  have y0 : w4.cell? ⟨(x + 1), 0, none⟩ = some (.int .i64 b.kind) := (cell_of_row _ _ 0 _ _ _ H4.out.2.2).trans rfl
  have y1 : w4.cell? ⟨(x + 1), 1, none⟩ = some (.int .u64 b.num) := (cell_of_row _ _ 1 _ _ _ H4.out.2.2).trans rfl
  have y2 : w4.cell? ⟨(x + 1), 2, none⟩ = some (.string b.text) := (cell_of_row _ _ 2 _ _ _ H4.out.2.2).trans rfl
  have y3 : w4.cell? ⟨(x + 1), 3, none⟩ = some ((.slice qs b.list.length ds)) := (cell_of_row _ _ 3 _ _ _ H4.out.2.2).trans rfl
  have y4 : w4.cell? ⟨(x + 1), 4, none⟩ = some (.int .i64 b.elem) := (cell_of_row _ _ 4 _ _ _ H4.out.2.2).trans rfl
  have hc := encode_any b w4 _ (HV.out.2.1.blw H4.out.1) (HV.out.2.2.below H4.out.1) HG.out.2
  have HCE2 := Lib.hid hc
  clear hc
  go_wp2_with fail
  refine HCE2.out.mono ?_
  rintro e w5 ⟨u2, rfl, hou2, hb5⟩
  obtain ⟨pz, cz, hu, _⟩ := hou2.bytes
  subst hu
  have hbd2 := encS_bad (v := b)
  have hok2 := encS_ok (vin_wf b _ HV.out.2.1)
  obtain ⟨E2, hE2⟩ : ∃ E, encS b = E := ⟨_, rfl⟩
  rw [hE2] at hou2 hbd2 hok2 ⊢
  obtain ⟨L2, e2⟩ := E2
  simp only at hou2 hbd2 hok2 ⊢
  have H5 := Lib.hid (And.intro (H4.out.1.trans (hb5.mono H4.out.1.size)) (And.intro ((hb5.block x (gl H4.out.2.1)).trans H4.out.2.1) ((hb5.block (x + 1) (gl H4.out.2.2)).trans H4.out.2.2)))
  have HU2 := Lib.hid (And.intro (HU1.out.1.of_below hb5) (And.intro hou2 (And.intro hbd2 hok2)))
  have HB5 := Lib.hid H5.out.1
  clear hb5 hou2 hbd2 hok2 hE2 x0 x1 x2 x3 x4 y0 y1 y2 y3 y4
  by_cases h1 : e1 = 0
  · by_cases h2 : e2 = 0
    · obtain ⟨r1, d1, l1, rfl⟩ := HU1.out.2.2 h1
      obtain ⟨r2, d2, l2, rfl⟩ := HU2.out.2.2.2 h2
      subst h1 h2
      obtain ⟨n, hn⟩ : ∃ n, n = min (putV a).length (putV b).length := ⟨_, rfl⟩
      have hlaw := apart_law r1 d1 HG.out.1 r2 d2 HG.out.2 hn
      obtain ⟨m1, hm1⟩ : ∃ m, (putV a).length = m := ⟨_, rfl⟩
      obtain ⟨m2, hm2⟩ : ∃ m, (putV b).length = m := ⟨_, rfl⟩
      have hq := equal_on a w5 _ b _ (HV.out.1.blw H5.out.1) (HV.out.2.1.blw H5.out.1)
      have hB1 := HU2.out.1.sl.2
      have hB2 := HU2.out.2.1.sl.2
      rw [hm1] at hn l1
      rw [hm2] at hn l2
      have HN := Lib.hid (And.intro hn (And.intro hlaw (And.intro hm1 (And.intro hm2 (And.intro hB1 hB2)))))
      rw [hm1, hm2]
      have HQ := Lib.hid hq
      clear hn hlaw hm1 hm2 hB1 hB2 hq r1 d1 r2 d2
      have x0 : w5.cell? ⟨x, 0, none⟩ = some (.int .i64 a.kind) := (cell_of_row _ _ 0 _ _ _ H5.out.2.1).trans rfl
      have x1 : w5.cell? ⟨x, 1, none⟩ = some (.int .u64 a.num) := (cell_of_row _ _ 1 _ _ _ H5.out.2.1).trans rfl
      have x2 : w5.cell? ⟨x, 2, none⟩ = some (.string a.text) := (cell_of_row _ _ 2 _ _ _ H5.out.2.1).trans rfl
      have x3 : w5.cell? ⟨x, 3, none⟩ = some ((.slice ps a.list.length cs)) := (cell_of_row _ _ 3 _ _ _ H5.out.2.1).trans rfl
      have x4 : w5.cell? ⟨x, 4, none⟩ = some (.int .i64 a.elem) := (cell_of_row _ _ 4 _ _ _ H5.out.2.1).trans rfl
      have y0 : w5.cell? ⟨(x + 1), 0, none⟩ = some (.int .i64 b.kind) := (cell_of_row _ _ 0 _ _ _ H5.out.2.2).trans rfl
      have y1 : w5.cell? ⟨(x + 1), 1, none⟩ = some (.int .u64 b.num) := (cell_of_row _ _ 1 _ _ _ H5.out.2.2).trans rfl
      have y2 : w5.cell? ⟨(x + 1), 2, none⟩ = some (.string b.text) := (cell_of_row _ _ 2 _ _ _ H5.out.2.2).trans rfl
      have y3 : w5.cell? ⟨(x + 1), 3, none⟩ = some ((.slice qs b.list.length ds)) := (cell_of_row _ _ 3 _ _ _ H5.out.2.2).trans rfl
      have y4 : w5.cell? ⟨(x + 1), 4, none⟩ = some (.int .i64 b.elem) := (cell_of_row _ _ 4 _ _ _ H5.out.2.2).trans rfl
      by_cases hab : a = b
      · have hq := HQ.out
        rw [decide_eq_true hab] at hq
        have HQ2 := Lib.hid hq
        have hl1 := HN.out.2.1.1
        have hl2 := HN.out.2.1.2
        rw [decide_eq_true hab] at hl1 hl2
        have HLW := Lib.hid (And.intro hl1 hl2)
        clear hq hab hl1 hl2
        go_wp2_with fail
        refine HQ2.out.mono ?_
        rintro e w6 ⟨rfl, hb6⟩
        have HB6 := Lib.hid (H5.out.1.trans (hb6.mono H5.out.1.size))
        have hn := HN.out.1
        have bp1 := HN.out.2.2.2.2.1.below hb6
        have bp2 := HN.out.2.2.2.2.2.below hb6
        have hn1 : n ≤ m1 := by omega
        have hn2 : n ≤ m2 := by omega
        have bq1 := bp1.pre (k := n) (by rw [HN.out.2.2.1]; exact hn1)
        have bq2 := bp2.pre (k := n) (by rw [HN.out.2.2.2.1]; exact hn2)
        have dn : ∀ m, Below w6.heap.size w6 (w6.drewN m) := fun m => ⟨rfl, rfl, rfl, Nat.le_refl _, fun _ _ => rfl⟩
        have k1 : ∀ m, (convert 28 9 (.slice pu m1 cu)).run Tryd.prog (w6.drewN m) = .ok (.string ⟨(putV a).toArray⟩) (w6.drewN m) := fun m => by
          have := run_string_bytes (w6.drewN m) _ _ 5 Tryd.underlying28 Tryd.underlying5 Tryd.underlying9 _ _ _ _ (bp1.below (dn m))
          rw [HN.out.2.2.1] at this
          exact this
        have k2 : ∀ m, (convert 28 9 (.slice pz m2 cz)).run Tryd.prog (w6.drewN m) = .ok (.string ⟨(putV b).toArray⟩) (w6.drewN m) := fun m => by
          have := run_string_bytes (w6.drewN m) _ _ 5 Tryd.underlying28 Tryd.underlying5 Tryd.underlying9 _ _ _ _ (bp2.below (dn m))
          rw [HN.out.2.2.2.1] at this
          exact this
        have k3 : ∀ m, (convert 28 9 (.slice pu n cu)).run Tryd.prog (w6.drewN m) = .ok (.string ⟨((putV a).take n).toArray⟩) (w6.drewN m) := fun m => run_string_bytes (w6.drewN m) _ _ 5 Tryd.underlying28 Tryd.underlying5 Tryd.underlying9 _ _ _ _ (bq1.below (dn m))
        have k4 : ∀ m, (convert 28 9 (.slice pz n cz)).run Tryd.prog (w6.drewN m) = .ok (.string ⟨((putV b).take n).toArray⟩) (w6.drewN m) := fun m => run_string_bytes (w6.drewN m) _ _ 5 Tryd.underlying28 Tryd.underlying5 Tryd.underlying9 _ _ _ _ (bq2.below (dn m))
        have e1 : ((⟨(putV a).toArray⟩ : ByteArray).toList == (⟨(putV b).toArray⟩ : ByteArray).toList) = true := (bytes_beq _ _).trans HLW.out.1
        have e2 : ((⟨((putV a).take n).toArray⟩ : ByteArray).toList == (⟨((putV b).take n).toArray⟩ : ByteArray).toList) = true := (bytes_beq _ _).trans HLW.out.2
        have i1 : (0 : Int) ≤ (n : Nat) := by omega
        have i2 : ((n : Nat) : Int) ≤ (cu : Nat) := by have h1 := bp1.le; rw [HN.out.2.2.1] at h1; omega
        have i3 : ((n : Nat) : Int) ≤ (cz : Nat) := by have h1 := bp2.le; rw [HN.out.2.2.2.1] at h1; omega
        have hmin : min ((m1 : Nat) : Int) ((m2 : Nat) : Int) = (n : Nat) := by omega
        clear hn bp1 bp2 bq1 bq2 dn hb6 x0 x1 x2 x3 x4 y0 y1 y2 y3 y4
        obtain ⟨TA, hTA⟩ : ∃ T : ByteArray, ⟨(putV a).toArray⟩ = T := ⟨_, rfl⟩
        obtain ⟨TB, hTB⟩ : ∃ T : ByteArray, ⟨(putV b).toArray⟩ = T := ⟨_, rfl⟩
        obtain ⟨TC, hTC⟩ : ∃ T : ByteArray, ⟨((putV a).take n).toArray⟩ = T := ⟨_, rfl⟩
        obtain ⟨TD, hTD⟩ : ∃ T : ByteArray, ⟨((putV b).take n).toArray⟩ = T := ⟨_, rfl⟩
        rw [hTA, hTB] at e1
        rw [hTC, hTD] at e2
        rw [hTA] at k1
        rw [hTB] at k2
        rw [hTC] at k3
        rw [hTD] at k4
        clear hTA hTB hTC hTD hn1 hn2
        go_upto_region 13 with fail
        go_quiet (fail)
        go_wp2_with fail
        go_ret
        exact ⟨rfl, HB6.out.trans ⟨rfl, rfl, rfl, Nat.le_refl _, fun _ _ => rfl⟩⟩
      · have hq := HQ.out
        rw [decide_eq_false hab] at hq
        have HQ2 := Lib.hid hq
        have hl1 := HN.out.2.1.1
        have hl2 := HN.out.2.1.2
        rw [decide_eq_false hab] at hl1 hl2
        have HLW := Lib.hid (And.intro hl1 hl2)
        clear hq hab hl1 hl2
        go_wp2_with fail
        refine HQ2.out.mono ?_
        rintro e w6 ⟨rfl, hb6⟩
        have HB6 := Lib.hid (H5.out.1.trans (hb6.mono H5.out.1.size))
        have hn := HN.out.1
        have bp1 := HN.out.2.2.2.2.1.below hb6
        have bp2 := HN.out.2.2.2.2.2.below hb6
        have hn1 : n ≤ m1 := by omega
        have hn2 : n ≤ m2 := by omega
        have bq1 := bp1.pre (k := n) (by rw [HN.out.2.2.1]; exact hn1)
        have bq2 := bp2.pre (k := n) (by rw [HN.out.2.2.2.1]; exact hn2)
        have dn : ∀ m, Below w6.heap.size w6 (w6.drewN m) := fun m => ⟨rfl, rfl, rfl, Nat.le_refl _, fun _ _ => rfl⟩
        have k1 : ∀ m, (convert 28 9 (.slice pu m1 cu)).run Tryd.prog (w6.drewN m) = .ok (.string ⟨(putV a).toArray⟩) (w6.drewN m) := fun m => by
          have := run_string_bytes (w6.drewN m) _ _ 5 Tryd.underlying28 Tryd.underlying5 Tryd.underlying9 _ _ _ _ (bp1.below (dn m))
          rw [HN.out.2.2.1] at this
          exact this
        have k2 : ∀ m, (convert 28 9 (.slice pz m2 cz)).run Tryd.prog (w6.drewN m) = .ok (.string ⟨(putV b).toArray⟩) (w6.drewN m) := fun m => by
          have := run_string_bytes (w6.drewN m) _ _ 5 Tryd.underlying28 Tryd.underlying5 Tryd.underlying9 _ _ _ _ (bp2.below (dn m))
          rw [HN.out.2.2.2.1] at this
          exact this
        have k3 : ∀ m, (convert 28 9 (.slice pu n cu)).run Tryd.prog (w6.drewN m) = .ok (.string ⟨((putV a).take n).toArray⟩) (w6.drewN m) := fun m => run_string_bytes (w6.drewN m) _ _ 5 Tryd.underlying28 Tryd.underlying5 Tryd.underlying9 _ _ _ _ (bq1.below (dn m))
        have k4 : ∀ m, (convert 28 9 (.slice pz n cz)).run Tryd.prog (w6.drewN m) = .ok (.string ⟨((putV b).take n).toArray⟩) (w6.drewN m) := fun m => run_string_bytes (w6.drewN m) _ _ 5 Tryd.underlying28 Tryd.underlying5 Tryd.underlying9 _ _ _ _ (bq2.below (dn m))
        have e1 : ((⟨(putV a).toArray⟩ : ByteArray).toList == (⟨(putV b).toArray⟩ : ByteArray).toList) = false := (bytes_beq _ _).trans HLW.out.1
        have e2 : ((⟨((putV a).take n).toArray⟩ : ByteArray).toList == (⟨((putV b).take n).toArray⟩ : ByteArray).toList) = false := (bytes_beq _ _).trans HLW.out.2
        have i1 : (0 : Int) ≤ (n : Nat) := by omega
        have i2 : ((n : Nat) : Int) ≤ (cu : Nat) := by have h1 := bp1.le; rw [HN.out.2.2.1] at h1; omega
        have i3 : ((n : Nat) : Int) ≤ (cz : Nat) := by have h1 := bp2.le; rw [HN.out.2.2.2.1] at h1; omega
        have hmin : min ((m1 : Nat) : Int) ((m2 : Nat) : Int) = (n : Nat) := by omega
        clear hn bp1 bp2 bq1 bq2 dn hb6 x0 x1 x2 x3 x4 y0 y1 y2 y3 y4
        obtain ⟨TA, hTA⟩ : ∃ T : ByteArray, ⟨(putV a).toArray⟩ = T := ⟨_, rfl⟩
        obtain ⟨TB, hTB⟩ : ∃ T : ByteArray, ⟨(putV b).toArray⟩ = T := ⟨_, rfl⟩
        obtain ⟨TC, hTC⟩ : ∃ T : ByteArray, ⟨((putV a).take n).toArray⟩ = T := ⟨_, rfl⟩
        obtain ⟨TD, hTD⟩ : ∃ T : ByteArray, ⟨((putV b).take n).toArray⟩ = T := ⟨_, rfl⟩
        rw [hTA, hTB] at e1
        rw [hTC, hTD] at e2
        rw [hTA] at k1
        rw [hTB] at k2
        rw [hTC] at k3
        rw [hTD] at k4
        clear hTA hTB hTC hTD hn1 hn2
        go_upto_region 13 with fail
        go_quiet (fail)
        go_wp2_with fail
        go_ret
        exact ⟨rfl, HB6.out.trans ⟨rfl, rfl, rfl, Nat.le_refl _, fun _ _ => rfl⟩⟩
    · have hL := HU2.out.2.2.1 h2
      subst hL
      have d1 : (e2 != 0) = true := by simp [h2]
      have d2 : (e2 == 0) = false := by simp [h2]
      subst h1
      clear h2
      go_wp2_with fail
      go_ret
      exact ⟨rfl, HB5.out⟩
  · have hL := HU1.out.2.1 h1
    subst hL
    have d1 : (e1 != 0) = true := by simp [h1]
    have d2 : (e1 == 0) = false := by simp [h1]
    clear h1
    by_cases h2 : e2 = 0
    · subst h2
      go_wp2_with fail
      go_ret
      exact ⟨rfl, HB5.out⟩
    · have hL := HU2.out.2.2.1 h2
      subst hL
      have d3 : (e2 != 0) = true := by simp [h2]
      have d4 : (e2 == 0) = false := by simp [h2]
      clear h2
      go_wp2_with fail
      go_ret
      exact ⟨rfl, HB5.out⟩
end Go.Proofs.YtjipennigjlklaaDoor

namespace Go.Proofs.YtjipennigjlklaaDoor
open Go.RowKit
set_option maxRecDepth 100000

theorem accept_eq : (Rows.laid_unicode_utf8_acceptRanges : DataW Unit) = Lib.acceptData := by kernel_rfl
theorem tabs_of {W : World} (hL : laidMetH Tryd.prog [("unicode/utf8.acceptRanges", Rows.laid_unicode_utf8_acceptRanges), ("unicode/utf8.first", Rows.laid_unicode_utf8_first)] W) : Tabs W := by
  have h3 := Lib.laidMet.reads hL (.tail _ (.head _))
  have h4 := Lib.laidMet.reads hL (.head _)
  have e3 : Rows.laid_unicode_utf8_first = Lib.firstData := Pinned.utf8First_eq
  rw [e3] at h3
  rw [accept_eq] at h4
  exact utf8Tabs_of_reads Tryd.lays260 ⟨by kernel_rfl, by kernel_rfl, by kernel_rfl, by kernel_rfl, by kernel_rfl, by kernel_rfl, by kernel_rfl⟩ h3 h4

def putTab (vals : Array Value) : Obj → Obj
  | .cells _ t frozen => .cells vals t frozen
  | o => o
noncomputable def laidWorld (os : Os) : World :=
  { World.holding Tryd.prog os ⟨#[], #[], []⟩ with
    heap := ((World.holding Tryd.prog os ⟨#[], #[], []⟩).heap.modify 0 (putTab ((List.range 256).map fun c => (Value.int .u8 (Lib.firstT c : Int))).toArray)).modify 1 (putTab ((List.range 32).map fun c => (Value.int .u8 ((if c % 2 = 0 then Lib.accLo (c / 2) else Lib.accHi (c / 2) : Nat) : Int))).toArray) }
end Go.Proofs.YtjipennigjlklaaDoor
