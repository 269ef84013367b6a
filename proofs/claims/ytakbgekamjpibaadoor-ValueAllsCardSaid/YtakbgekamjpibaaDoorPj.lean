/-
  ValueAlls. Conditions: the value lies in memory; the tables stand.
-/
import Derived.Test.YtakbgekamjpibaaDoorPi
import Derived.Test.YtakbgekamjpibaaDoorNf
import Derived.Test.YtakbgekamjpibaaDoorPf
import Derived.Laws.EntriesVeiled
namespace Go.Proofs.YtakbgekamjpibaaDoor
open Go.RowKit
set_option linter.unusedVariables false

attribute [local go_sem] Oper.semAt_some

theorem alloc2 (w : World) (a b : Obj) : ((w.alloc a).alloc b).heap[w.heap.size]? = some a ∧ ((w.alloc a).alloc b).heap[w.heap.size + 1]? = some b ∧ Below w.heap.size w ((w.alloc a).alloc b) ∧ ((w.alloc a).alloc b).heap.size = w.heap.size + 2 := by
  have z1 := alloc_size w a
  have z2 := alloc_size (w.alloc a) b
  exact ⟨alloc_at (alloc_new rfl), alloc_new (by omega), ((Below.refl _ _).alloc (Nat.le_refl _) _).alloc (by omega) _, by omega⟩
theorem BkMv.cel {w w' : World} (h : BkMv w w') {j T : Nat} {cs : Array Value} {fr : Nat × Nat} (hj : w.heap[j]? = some (.cells cs T fr)) (h1 : T ≠ 42) (h2 : T ≠ 23) : w'.heap[j]? = some (.cells cs T fr) := by
  refine (h.oth j (Array.getElem?_eq_some_iff.1 hj).1 ?_).trans hj
  rintro (⟨a, b, q⟩ | ⟨a, b, q⟩)
  · rw [hj] at q; simp at q; exact h1 q.2.1
  · rw [hj] at q; simp at q; exact h2 q.2.1
theorem ToldIn.bkmv {w0 w w' : World} {t : Value} {L : List (Int × V)} (h : ToldIn w0 w t L) (hk : BkMv w w') : ToldIn w0 w' t L := by
  refine h.keep (fun j hj => ?_)
  obtain ⟨M, _, h2, _⟩ := h
  obtain ⟨c, fz, hc⟩ := ownsRow_type h2 hj
  exact (hk.cel hc (by decide) (by decide)).trans hc.symm
/-- a function with marks and its result in a cell ends -/
theorem leaves_cells {W : World} {Ds : List Nat} {r k : Nat} {u0 : Value} {u : Bool} {fn : Func} {tm : Array Value} {R : Ending → World → Prop} (hn : Ds.Nodup) (hD : ∀ D ∈ Ds, W.heap[D]? = some (.deferred (some []))) (hr : W.heap[r]? = some (.cells #[u0] 4 (0, 0))) (ht : tm.getD k undef = .pointer (some ⟨r, 0, none⟩)) (hfn : fn.results = #[ResultVar.cell k 4])
    (h : ∀ W', W'.heap.size = W.heap.size → (∀ j, j ∉ Ds → j ≠ r → W'.heap[j]? = W.heap[j]?) → W'.os = W.os → W'.tape = W.tape → W'.output = W.output → R (.returned (.bool u)) W') :
    LeavesInM Fence.wide 5 Tryd.prog fn tm R (Ds.map fun D => { target := .collected D, args := #[] }) .returning (W.setCell ⟨r, 0, none⟩ (.bool u)) := by
  have g := setCell_grown W r 0 (.bool u)
  have s2 := heap_setCell_same W r 0 _ _ (.bool u) hr
  have hDr : ∀ D ∈ Ds, D ≠ r := fun D hm e => by have := hD D hm; rw [e, hr] at this; simp at this
  refine leaves_all Ds _ hn (fun j hj => (g.block j (Array.getElem?_eq_some_iff.1 (hD j hj)).1 (fun e => hDr j hj (Option.some.inj e))).trans (hD j hj)) ?_
  intro W' q1 q2 q3 q4 q5
  have s3 := (q2 r (fun hm => hDr r hm rfl)).trans s2
  have c3 : W'.cell? ⟨r, 0, none⟩ = some (.bool u) := (cell_of_row _ _ 0 _ _ _ s3).trans rfl
  have ht' : tm[k]?.getD undef = .pointer (some ⟨r, 0, none⟩) := by simpa using ht
  exact ⟨.bool u, by simp [results, hfn, go_sem, c3, ht'], h W' (by rw [q1]; simp) (fun j h1 h2 => (q2 j h1).trans (set_farV h2)) (q3.trans g.os) (q4.trans g.tape) (q5.trans g.output)⟩
theorem below_same {B : Nat} {w W W' : World} (h : Below B w W) (q1 : W'.heap.size = W.heap.size) (q2 : ∀ j, j < B → W'.heap[j]? = W.heap[j]?) (q3 : W'.os = W.os) (q4 : W'.tape = W.tape) (q5 : W'.output = W.output) : Below B w W' :=
  ⟨q3.trans h.os, q4.trans h.tape, q5.trans h.output, by rw [q1]; exact h.size, fun j hj => (q2 j hj).trans (h.block j hj)⟩

set_option maxRecDepth 20000 in
set_option maxHeartbeats 8000000 in
theorem alls_walk (w : World) (hT : Tabs w) (v : V) (s : Value) (st : Int) (h : VIn w v s) :
    Calls Tryd.prog 6 #[.agg #[.int .i64 v.kind, .int .u64 v.num, .string v.text, s, .int .i64 v.elem], .int .i64 st] w fun e w' => e = .returned (.bool true) ∧ Below w.heap.size w w' := by
  obtain ⟨p, c, hs, hj⟩ := h.slice
  clear hj
  obtain ⟨N, hN⟩ : ∃ N, v.list.length = N := ⟨_, rfl⟩
  rw [hN] at hs
  subst hs
  have HV := Lib.hid h
  have HN := Lib.hid hN
  have HT := Lib.hid hT
  have hfn := func_nil
  clear h hN hT
  refine calls_of_wp_marks Tryd.func6 rfl ?_
  simp only [Tryd.ntmps6, List.size_toArray, List.length_cons, List.length_nil, Nat.reduceAdd, Nat.reduceSub, Array.replicate_succ, Array.replicate_zero, List.push_toArray, List.append_toArray, List.nil_append, List.cons_append]
  go_upto_region 1 with fail
  obtain ⟨ox2, ores, hb0, hz0⟩ := alloc2 w (.cells #[.int .i64 v.kind, .int .u64 v.num, .string v.text, .slice p N c, .int .i64 v.elem] 25) (.cells #[.bool false] 4)
  generalize ((w.alloc (.cells #[.int .i64 v.kind, .int .u64 v.num, .string v.text, .slice p N c, .int .i64 v.elem] 25)).alloc (.cells #[.bool false] 4)) = w0 at *
  obtain ⟨x2, hx2⟩ : ∃ x, w.heap.size = x := ⟨_, rfl⟩
  rw [hx2] at ox2 ores hz0 ⊢
  have HX_x2 := Lib.hid hx2
  have HZw := Lib.hid hz0
  have HM1 : Hid ((Below w.heap.size w w0) ∧ (w0.heap[x2]? = some (.cells #[.int .i64 v.kind, .int .u64 v.num, .string v.text, .slice p N c, .int .i64 v.elem] 25 (0, 0))) ∧ (w0.heap[x2 + 1]? = some (.cells #[.bool false] 4 (0, 0)))) := Lib.hid ((And.intro hb0 (And.intro ox2 ores)))
  clear hb0 ox2 ores hz0 hx2
  have hc := awake_any w0 (HT.out.below HM1.out.1)
  have HC1 := Lib.hid hc
  clear hc
  go_wp2_with fail
  refine HC1.out.mono ?_
  rintro e W1 ⟨rfl, hb⟩
  have hz1 : w0.heap.size ≤ W1.heap.size := hb.size
  have HZ1 := Lib.hid hz1
  clear hz1
  have HM2 : Hid ((Below w.heap.size w W1) ∧ (W1.heap[x2]? = some (.cells #[.int .i64 v.kind, .int .u64 v.num, .string v.text, .slice p N c, .int .i64 v.elem] 25 (0, 0))) ∧ (W1.heap[x2 + 1]? = some (.cells #[.bool false] 4 (0, 0)))) := Lib.hid ((And.intro (HM1.out.1.trans (hb.mono HM1.out.1.size)) (And.intro ((hb.block _ (Array.getElem?_eq_some_iff.1 HM1.out.2.1).1).trans HM1.out.2.1) ((hb.block _ (Array.getElem?_eq_some_iff.1 HM1.out.2.2).1).trans HM1.out.2.2))))
  clear HM1
  clear hb
  obtain ⟨G, hG⟩ : ∃ G, decide (100000 < v.wt) = G := ⟨_, rfl⟩
  have HGD := Lib.hid hG
  clear hG
  have hc := great_any v W1 _ (HV.out.blw HM2.out.1)
  rw [HGD.out] at hc
  have HC2 := Lib.hid hc
  clear hc
  have q := HM2.out.2.1
  have x2_0 : W1.cell? ⟨x2, 0, none⟩ = some (.int .i64 v.kind) := (cell_of_row _ _ 0 _ _ _ q).trans rfl
  have x2_1 : W1.cell? ⟨x2, 1, none⟩ = some (.int .u64 v.num) := (cell_of_row _ _ 1 _ _ _ q).trans rfl
  have x2_2 : W1.cell? ⟨x2, 2, none⟩ = some (.string v.text) := (cell_of_row _ _ 2 _ _ _ q).trans rfl
  have x2_3 : W1.cell? ⟨x2, 3, none⟩ = some (.slice p N c) := (cell_of_row _ _ 3 _ _ _ q).trans rfl
  have x2_4 : W1.cell? ⟨x2, 4, none⟩ = some (.int .i64 v.elem) := (cell_of_row _ _ 4 _ _ _ q).trans rfl
  clear q
  go_wp2_with fail
  refine HC2.out.mono ?_
  clear x2_0 x2_1 x2_2 x2_3 x2_4
  rintro e W2 ⟨rfl, hb⟩
  have hz2 : W1.heap.size ≤ W2.heap.size := hb.size
  have HZ2 := Lib.hid hz2
  clear hz2
  have HM3 : Hid ((Below w.heap.size w W2) ∧ (W2.heap[x2]? = some (.cells #[.int .i64 v.kind, .int .u64 v.num, .string v.text, .slice p N c, .int .i64 v.elem] 25 (0, 0))) ∧ (W2.heap[x2 + 1]? = some (.cells #[.bool false] 4 (0, 0)))) := Lib.hid ((And.intro (HM2.out.1.trans (hb.mono HM2.out.1.size)) (And.intro ((hb.block _ (Array.getElem?_eq_some_iff.1 HM2.out.2.1).1).trans HM2.out.2.1) ((hb.block _ (Array.getElem?_eq_some_iff.1 HM2.out.2.2).1).trans HM2.out.2.2))))
  clear HM2
  clear hb
  cases G
  rotate_left
  · have res_0 : W2.cell? ⟨x2 + 1, 0, none⟩ = some (.bool false) := (cell_of_row _ _ 0 _ _ _ HM3.out.2.2).trans rfl
    have f1 : W2.frozen? ⟨x2 + 1, 0, none⟩ = false := by have q := HM3.out.2.2; simp [World.frozen?, q]
    go_wp2_with fail
    refine leaves_cells (Ds := []) (by simp) (by simp) HM3.out.2.2 rfl rfl (fun W' q1 q2 q3 q4 q5 => ⟨rfl, below_same HM3.out.1 q1 (fun j hj => q2 j (by simp) (by have := HX_x2.out; omega)) q3 q4 q5⟩)
  have HW := Lib.hid (show v.wt ≤ 100000 from by have h1 := of_decide_eq_false HGD.out; omega)
  have hc := long2_any v W2 _ (HV.out.blw HM3.out.1) (by have := HW.out; omega)
  have HC3 := Lib.hid hc
  clear hc
  have q := HM3.out.2.1
  have x2_0 : W2.cell? ⟨x2, 0, none⟩ = some (.int .i64 v.kind) := (cell_of_row _ _ 0 _ _ _ q).trans rfl
  have x2_1 : W2.cell? ⟨x2, 1, none⟩ = some (.int .u64 v.num) := (cell_of_row _ _ 1 _ _ _ q).trans rfl
  have x2_2 : W2.cell? ⟨x2, 2, none⟩ = some (.string v.text) := (cell_of_row _ _ 2 _ _ _ q).trans rfl
  have x2_3 : W2.cell? ⟨x2, 3, none⟩ = some (.slice p N c) := (cell_of_row _ _ 3 _ _ _ q).trans rfl
  have x2_4 : W2.cell? ⟨x2, 4, none⟩ = some (.int .i64 v.elem) := (cell_of_row _ _ 4 _ _ _ q).trans rfl
  clear q
  go_wp2_with fail
  refine HC3.out.mono ?_
  clear x2_0 x2_1 x2_2 x2_3 x2_4
  rintro e W3 ⟨⟨Q, rfl, hq⟩, hb⟩
  have hz3 : W2.heap.size ≤ W3.heap.size := hb.size
  have HZ3 := Lib.hid hz3
  clear hz3
  have HM4 : Hid ((Below w.heap.size w W3) ∧ (W3.heap[x2]? = some (.cells #[.int .i64 v.kind, .int .u64 v.num, .string v.text, .slice p N c, .int .i64 v.elem] 25 (0, 0))) ∧ (W3.heap[x2 + 1]? = some (.cells #[.bool false] 4 (0, 0)))) := Lib.hid ((And.intro (HM3.out.1.trans (hb.mono HM3.out.1.size)) (And.intro ((hb.block _ (Array.getElem?_eq_some_iff.1 HM3.out.2.1).1).trans HM3.out.2.1) ((hb.block _ (Array.getElem?_eq_some_iff.1 HM3.out.2.2).1).trans HM3.out.2.2))))
  clear HM3
  clear hb
  have HQ := Lib.hid hq
  clear hq
  cases Q
  rotate_left
  · have res_0 : W3.cell? ⟨x2 + 1, 0, none⟩ = some (.bool false) := (cell_of_row _ _ 0 _ _ _ HM4.out.2.2).trans rfl
    have f1 : W3.frozen? ⟨x2 + 1, 0, none⟩ = false := by have q := HM4.out.2.2; simp [World.frozen?, q]
    go_wp2_with fail
    refine leaves_cells (Ds := []) (by simp) (by simp) HM4.out.2.2 rfl rfl (fun W' q1 q2 q3 q4 q5 => ⟨rfl, below_same HM4.out.1 q1 (fun j hj => q2 j (by simp) (by have := HX_x2.out; omega)) q3 q4 q5⟩)
  have HCO := Lib.hid (show cost (v.pre 1) ≤ 100000 from by have h1 := HQ.out rfl; have h2 := cost_tl v; omega)
  have hc := rall_any v W3 _ (HV.out.blw HM4.out.1) (by have := HW.out; omega)
  have HC4 := Lib.hid hc
  clear hc
  have q := HM4.out.2.1
  have x2_0 : W3.cell? ⟨x2, 0, none⟩ = some (.int .i64 v.kind) := (cell_of_row _ _ 0 _ _ _ q).trans rfl
  have x2_1 : W3.cell? ⟨x2, 1, none⟩ = some (.int .u64 v.num) := (cell_of_row _ _ 1 _ _ _ q).trans rfl
  have x2_2 : W3.cell? ⟨x2, 2, none⟩ = some (.string v.text) := (cell_of_row _ _ 2 _ _ _ q).trans rfl
  have x2_3 : W3.cell? ⟨x2, 3, none⟩ = some (.slice p N c) := (cell_of_row _ _ 3 _ _ _ q).trans rfl
  have x2_4 : W3.cell? ⟨x2, 4, none⟩ = some (.int .i64 v.elem) := (cell_of_row _ _ 4 _ _ _ q).trans rfl
  clear q
  go_wp2_with fail
  refine HC4.out.mono ?_
  clear x2_0 x2_1 x2_2 x2_3 x2_4
  rintro e W4 ⟨t, rfl, hto, hb⟩
  obtain ⟨pt, ct, hst, hj1, hj2, hj3⟩ := hto.slice
  clear hj1 hj2
  obtain ⟨bt, rfl⟩ := hj3 (by rw [pre_len]; exact v.sz_pos)
  obtain ⟨nL, hnL⟩ : ∃ nL, (v.pre 1).length = nL := ⟨_, rfl⟩
  rw [hnL] at hst
  subst hst
  have HNL := Lib.hid hnL
  clear hnL hj3
  have HIN_T : Hid (∀ g, (Value.slice (some ⟨bt, 0, none⟩) nL ct).ownBlock = some g → W3.heap.size ≤ g ∧ g < W4.heap.size) := Lib.hid (fun g q => hto.lt g q)
  have hnLb : (nL : Int) ≤ 100000 := by have h1 := cost_len (v.pre 1); have h2 := HCO.out; have h3 := HNL.out; omega
  have HWT0 := Lib.hid HM4.out.1.size
  have hbt := Below.refl W3.heap.size W3
  have hz4 : W3.heap.size ≤ W4.heap.size := hb.size
  have HZ4 := Lib.hid hz4
  clear hz4
  have HM5 : Hid ((Below w.heap.size w W4) ∧ (W4.heap[x2]? = some (.cells #[.int .i64 v.kind, .int .u64 v.num, .string v.text, .slice p N c, .int .i64 v.elem] 25 (0, 0))) ∧ (W4.heap[x2 + 1]? = some (.cells #[.bool false] 4 (0, 0))) ∧ (ToldIn W3 W4 (.slice (some ⟨bt, 0, none⟩) nL ct) (v.pre 1)) ∧ (Below W3.heap.size W3 W4)) := Lib.hid ((And.intro (HM4.out.1.trans (hb.mono HM4.out.1.size)) (And.intro ((hb.block _ (Array.getElem?_eq_some_iff.1 HM4.out.2.1).1).trans HM4.out.2.1) (And.intro ((hb.block _ (Array.getElem?_eq_some_iff.1 HM4.out.2.2).1).trans HM4.out.2.2) (And.intro hto hb)))))
  clear HM4
  clear hb hto hbt
  go_upto_region 8 with fail
  have hb : Below W4.heap.size W4 (W4.alloc (.cells #[.slice (some ⟨bt, 0, none⟩) nL ct] 37)) := (Below.refl _ _).alloc (Nat.le_refl _) _
  have ox7 : (W4.alloc (.cells #[.slice (some ⟨bt, 0, none⟩) nL ct] 37)).heap[W4.heap.size]? = some (.cells #[.slice (some ⟨bt, 0, none⟩) nL ct] 37 (0, 0)) := _root_.Go.heap_alloc_new _ _
  generalize (W4.alloc (.cells #[.slice (some ⟨bt, 0, none⟩) nL ct] 37)) = W5 at *
  obtain ⟨x7, hx7⟩ : ∃ x, W4.heap.size = x := ⟨_, rfl⟩
  rw [hx7] at ox7 ⊢
  have HX_x7 := Lib.hid hx7
  clear hx7
  have hlt := (Array.getElem?_eq_some_iff.1 ox7).1
  have HLT_x7 := Lib.hid hlt
  clear hlt
  have hz5 : W4.heap.size ≤ W5.heap.size := hb.size
  have HZ5 := Lib.hid hz5
  clear hz5
  have HM6 : Hid ((Below w.heap.size w W5) ∧ (W5.heap[x2]? = some (.cells #[.int .i64 v.kind, .int .u64 v.num, .string v.text, .slice p N c, .int .i64 v.elem] 25 (0, 0))) ∧ (W5.heap[x2 + 1]? = some (.cells #[.bool false] 4 (0, 0))) ∧ (ToldIn W3 W5 (.slice (some ⟨bt, 0, none⟩) nL ct) (v.pre 1)) ∧ (Below W3.heap.size W3 W5) ∧ (W5.heap[x7]? = some (.cells #[.slice (some ⟨bt, 0, none⟩) nL ct] 37 (0, 0)))) := Lib.hid ((And.intro (HM5.out.1.trans (hb.mono HM5.out.1.size)) (And.intro ((hb.block _ (Array.getElem?_eq_some_iff.1 HM5.out.2.1).1).trans HM5.out.2.1) (And.intro ((hb.block _ (Array.getElem?_eq_some_iff.1 HM5.out.2.2.1).1).trans HM5.out.2.2.1) (And.intro (HM5.out.2.2.2.1.blw hb) (And.intro (HM5.out.2.2.2.2.trans (hb.mono HM5.out.2.2.2.2.size)) ox7))))))
  clear HM5
  clear hb ox7
  have hc := lent_on v W5 _ (HV.out.blw HM6.out.1) (by have := HW.out; omega)
  have HC6 := Lib.hid hc
  clear hc
  have q := HM6.out.2.1
  have x2_0 : W5.cell? ⟨x2, 0, none⟩ = some (.int .i64 v.kind) := (cell_of_row _ _ 0 _ _ _ q).trans rfl
  have x2_1 : W5.cell? ⟨x2, 1, none⟩ = some (.int .u64 v.num) := (cell_of_row _ _ 1 _ _ _ q).trans rfl
  have x2_2 : W5.cell? ⟨x2, 2, none⟩ = some (.string v.text) := (cell_of_row _ _ 2 _ _ _ q).trans rfl
  have x2_3 : W5.cell? ⟨x2, 3, none⟩ = some (.slice p N c) := (cell_of_row _ _ 3 _ _ _ q).trans rfl
  have x2_4 : W5.cell? ⟨x2, 4, none⟩ = some (.int .i64 v.elem) := (cell_of_row _ _ 4 _ _ _ q).trans rfl
  clear q
  go_wp2_with fail
  refine HC6.out.mono ?_
  clear x2_0 x2_1 x2_2 x2_3 x2_4
  rintro e W6 ⟨t_x8, F8, rfl, hvl, hb⟩
  obtain ⟨g8, hs, hj1, hj2⟩ := hvl.slice
  clear hj1 hj2
  rw [HN.out] at hs
  subst hs
  have HIN_F8 : Hid (∀ g, F8 g → W5.heap.size ≤ g ∧ g < W6.heap.size) := Lib.hid (hvl.lt)
  have hz6 : W5.heap.size ≤ W6.heap.size := hb.size
  have HZ6 := Lib.hid hz6
  clear hz6
  have HM7 : Hid ((Below w.heap.size w W6) ∧ (W6.heap[x2]? = some (.cells #[.int .i64 v.kind, .int .u64 v.num, .string v.text, .slice p N c, .int .i64 v.elem] 25 (0, 0))) ∧ (W6.heap[x2 + 1]? = some (.cells #[.bool false] 4 (0, 0))) ∧ (ToldIn W3 W6 (.slice (some ⟨bt, 0, none⟩) nL ct) (v.pre 1)) ∧ (Below W3.heap.size W3 W6) ∧ (W6.heap[x7]? = some (.cells #[.slice (some ⟨bt, 0, none⟩) nL ct] 37 (0, 0))) ∧ (VL W6 W5.heap.size v (.slice (some ⟨g8, 0, none⟩) N (N + 3)) F8)) := Lib.hid ((And.intro (HM6.out.1.trans (hb.mono HM6.out.1.size)) (And.intro ((hb.block _ (Array.getElem?_eq_some_iff.1 HM6.out.2.1).1).trans HM6.out.2.1) (And.intro ((hb.block _ (Array.getElem?_eq_some_iff.1 HM6.out.2.2.1).1).trans HM6.out.2.2.1) (And.intro (HM6.out.2.2.2.1.blw hb) (And.intro (HM6.out.2.2.2.2.1.trans (hb.mono HM6.out.2.2.2.2.1.size)) (And.intro ((hb.block _ (Array.getElem?_eq_some_iff.1 HM6.out.2.2.2.2.2).1).trans HM6.out.2.2.2.2.2) hvl)))))))
  clear HM6
  clear hb hvl
  go_upto_region 9 with (refine wpList_store_rowTo rfl 25 (.tmp 8) (.tmp 36) rfl rfl W6.heap.size #[.int .i64 v.kind, .int .u64 v.num, .string v.text, .slice (some ⟨g8, 0, none⟩) N (N + 3), .int .i64 v.elem] rfl rfl 25 #[.int .i64 0, .int .u64 0, .string ⟨#[]⟩, .slice none 0 0, .int .i64 0] (_root_.Go.heap_alloc_new W6 _) (by as_aux_lemma => kernel_rfl) (by as_aux_lemma => kernel_rfl) (by simp [Value.oneCell']) ?_)
  have hb_W7 : Below W6.heap.size W6 ((W6.alloc (.cells #[.int .i64 0, .int .u64 0, .string ⟨#[]⟩, .slice none 0 0, .int .i64 0] 25)).setRow W6.heap.size #[.int .i64 v.kind, .int .u64 v.num, .string v.text, .slice (some ⟨g8, 0, none⟩) N (N + 3), .int .i64 v.elem]) := below_setRow ((Below.refl _ _).alloc (Nat.le_refl _) _) (Nat.le_refl _) _
  have ox8 := setRow_heap (W6.alloc (.cells #[.int .i64 0, .int .u64 0, .string ⟨#[]⟩, .slice none 0 0, .int .i64 0] 25)) W6.heap.size _ #[.int .i64 v.kind, .int .u64 v.num, .string v.text, .slice (some ⟨g8, 0, none⟩) N (N + 3), .int .i64 v.elem] _ _ (_root_.Go.heap_alloc_new W6 _)
  change Code.wp _ _ _ _ ((W6.alloc (.cells #[.int .i64 0, .int .u64 0, .string ⟨#[]⟩, .slice none 0 0, .int .i64 0] 25)).setRow W6.heap.size #[.int .i64 v.kind, .int .u64 v.num, .string v.text, .slice (some ⟨g8, 0, none⟩) N (N + 3), .int .i64 v.elem])
  generalize ((W6.alloc (.cells #[.int .i64 0, .int .u64 0, .string ⟨#[]⟩, .slice none 0 0, .int .i64 0] 25)).setRow W6.heap.size #[.int .i64 v.kind, .int .u64 v.num, .string v.text, .slice (some ⟨g8, 0, none⟩) N (N + 3), .int .i64 v.elem]) = W7 at *
  obtain ⟨x8, hx_x8⟩ : ∃ x, W6.heap.size = x := ⟨_, rfl⟩
  rw [hx_x8] at ox8 ⊢
  have HX_x8 := Lib.hid hx_x8
  clear hx_x8
  have hlt := (Array.getElem?_eq_some_iff.1 ox8).1
  have HLT_x8 := Lib.hid hlt
  clear hlt
  have hz7 : W6.heap.size ≤ W7.heap.size := hb_W7.size
  have HZ7 := Lib.hid hz7
  clear hz7
  have HM8 : Hid ((Below w.heap.size w W7) ∧ (W7.heap[x2]? = some (.cells #[.int .i64 v.kind, .int .u64 v.num, .string v.text, .slice p N c, .int .i64 v.elem] 25 (0, 0))) ∧ (W7.heap[x2 + 1]? = some (.cells #[.bool false] 4 (0, 0))) ∧ (ToldIn W3 W7 (.slice (some ⟨bt, 0, none⟩) nL ct) (v.pre 1)) ∧ (Below W3.heap.size W3 W7) ∧ (W7.heap[x7]? = some (.cells #[.slice (some ⟨bt, 0, none⟩) nL ct] 37 (0, 0))) ∧ (VL W7 W5.heap.size v (.slice (some ⟨g8, 0, none⟩) N (N + 3)) F8) ∧ (W7.heap[x8]? = some (.cells #[.int .i64 v.kind, .int .u64 v.num, .string v.text, .slice (some ⟨g8, 0, none⟩) N (N + 3), .int .i64 v.elem] 25 (0, 0)))) := Lib.hid ((And.intro (HM7.out.1.trans (hb_W7.mono HM7.out.1.size)) (And.intro ((hb_W7.block _ (Array.getElem?_eq_some_iff.1 HM7.out.2.1).1).trans HM7.out.2.1) (And.intro ((hb_W7.block _ (Array.getElem?_eq_some_iff.1 HM7.out.2.2.1).1).trans HM7.out.2.2.1) (And.intro (HM7.out.2.2.2.1.blw hb_W7) (And.intro (HM7.out.2.2.2.2.1.trans (hb_W7.mono HM7.out.2.2.2.2.1.size)) (And.intro ((hb_W7.block _ (Array.getElem?_eq_some_iff.1 HM7.out.2.2.2.2.2.1).1).trans HM7.out.2.2.2.2.2.1) (And.intro (HM7.out.2.2.2.2.2.2.blw hb_W7) ox8))))))))
  clear HM7
  clear hb_W7 ox8
  go_upto_region 10 with fail
  obtain ⟨ob, ox9, hb, hz9⟩ := alloc2 W7 (.cells #[.slice none 0 0] 42) (.cells #[.pointer (some ⟨W7.heap.size, 0, none⟩)] 39)
  have hbk : BkIn ((W7.alloc (.cells #[.slice none 0 0] 42)).alloc (.cells #[.pointer (some ⟨W7.heap.size, 0, none⟩)] 39)) W3.heap.size W7.heap.size (.slice none 0 0) [] (BkQ []) := BkIn.exact (BkIn.below (BkIn.start HM8.out.2.2.2.2.1.size) ((Below.refl _ _).alloc (Nat.le_refl _) _))
  generalize ((W7.alloc (.cells #[.slice none 0 0] 42)).alloc (.cells #[.pointer (some ⟨W7.heap.size, 0, none⟩)] 39)) = W8 at *
  obtain ⟨bp, hbp⟩ : ∃ x, W7.heap.size = x := ⟨_, rfl⟩
  rw [hbp] at hbk ox9 hz9 ob ⊢
  obtain ⟨x9, hx9⟩ : ∃ x, bp + 1 = x := ⟨_, rfl⟩
  rw [hx9] at ox9 ⊢
  have HX_bp := Lib.hid hbp
  have HX_x9 := Lib.hid hx9
  have HZ_x9 := Lib.hid hz9
  clear hbp hx9 hz9 ob
  have hz8 : W7.heap.size ≤ W8.heap.size := hb.size
  have HZ8 := Lib.hid hz8
  clear hz8
  have HM9 : Hid ((Below w.heap.size w W8) ∧ (W8.heap[x2]? = some (.cells #[.int .i64 v.kind, .int .u64 v.num, .string v.text, .slice p N c, .int .i64 v.elem] 25 (0, 0))) ∧ (W8.heap[x2 + 1]? = some (.cells #[.bool false] 4 (0, 0))) ∧ (ToldIn W3 W8 (.slice (some ⟨bt, 0, none⟩) nL ct) (v.pre 1)) ∧ (Below W3.heap.size W3 W8) ∧ (W8.heap[x7]? = some (.cells #[.slice (some ⟨bt, 0, none⟩) nL ct] 37 (0, 0))) ∧ (VL W8 W5.heap.size v (.slice (some ⟨g8, 0, none⟩) N (N + 3)) F8) ∧ (W8.heap[x8]? = some (.cells #[.int .i64 v.kind, .int .u64 v.num, .string v.text, .slice (some ⟨g8, 0, none⟩) N (N + 3), .int .i64 v.elem] 25 (0, 0))) ∧ (W8.heap[x9]? = some (.cells #[.pointer (some ⟨bp, 0, none⟩)] 39 (0, 0)))) := Lib.hid ((And.intro (HM8.out.1.trans (hb.mono HM8.out.1.size)) (And.intro ((hb.block _ (Array.getElem?_eq_some_iff.1 HM8.out.2.1).1).trans HM8.out.2.1) (And.intro ((hb.block _ (Array.getElem?_eq_some_iff.1 HM8.out.2.2.1).1).trans HM8.out.2.2.1) (And.intro (HM8.out.2.2.2.1.blw hb) (And.intro (HM8.out.2.2.2.2.1.trans (hb.mono HM8.out.2.2.2.2.1.size)) (And.intro ((hb.block _ (Array.getElem?_eq_some_iff.1 HM8.out.2.2.2.2.2.1).1).trans HM8.out.2.2.2.2.2.1) (And.intro (HM8.out.2.2.2.2.2.2.1.blw hb) (And.intro ((hb.block _ (Array.getElem?_eq_some_iff.1 HM8.out.2.2.2.2.2.2.2).1).trans HM8.out.2.2.2.2.2.2.2) ox9)))))))))
  clear HM8
  have HBK0 := Lib.hid hbk
  clear hb ox9 hbk
  have hc : Calls Tryd.prog 28 #[.agg #[.int .i64 v.kind, .int .u64 v.num, .string v.text, .slice (some ⟨g8, 0, none⟩) N (N + 3), .int .i64 v.elem], .slice (some ⟨bt, 0, none⟩) nL ct, .int .i64 st, .pointer (some ⟨bp, 0, none⟩)] W8 (GoesTo W3 W8 bp [] (cost (v.pre 1))) := goes_any v W3 W8 _ _ st bp (.slice none 0 0) [] HM9.out.2.2.2.2.2.2.1.vin (by have := HW.out; omega) HM9.out.2.2.2.2.1 HM9.out.2.2.2.1 HBK0.out (by have h1 := HCO.out; show 0 + _ ≤ _; omega)
  have HC9 := Lib.hid hc
  clear hc
  have q := HM9.out.2.2.2.2.2.2.2.1
  have x8_0 : W8.cell? ⟨x8, 0, none⟩ = some (.int .i64 v.kind) := (cell_of_row _ _ 0 _ _ _ q).trans rfl
  have x8_1 : W8.cell? ⟨x8, 1, none⟩ = some (.int .u64 v.num) := (cell_of_row _ _ 1 _ _ _ q).trans rfl
  have x8_2 : W8.cell? ⟨x8, 2, none⟩ = some (.string v.text) := (cell_of_row _ _ 2 _ _ _ q).trans rfl
  have x8_3 : W8.cell? ⟨x8, 3, none⟩ = some (.slice (some ⟨g8, 0, none⟩) N (N + 3)) := (cell_of_row _ _ 3 _ _ _ q).trans rfl
  have x8_4 : W8.cell? ⟨x8, 4, none⟩ = some (.int .i64 v.elem) := (cell_of_row _ _ 4 _ _ _ q).trans rfl
  clear q
  have q := HM9.out.2.2.2.2.2.1
  have x7_0 : W8.cell? ⟨x7, 0, none⟩ = some (.slice (some ⟨bt, 0, none⟩) nL ct) := (cell_of_row _ _ 0 _ _ _ q).trans rfl
  clear q
  have q := HM9.out.2.2.2.2.2.2.2.2
  have x9_0 : W8.cell? ⟨x9, 0, none⟩ = some (.pointer (some ⟨bp, 0, none⟩)) := (cell_of_row _ _ 0 _ _ _ q).trans rfl
  clear q
  go_wp2_with fail
  refine HC9.out.mono ?_
  clear x8_0 x8_1 x8_2 x8_3 x8_4 x7_0 x9_0
  rintro e W9 ⟨rfl, ⟨vl1, vs1, hbk, hlen, hold⟩, hm, hB⟩
  have HBK1 := Lib.hid (And.intro hbk hlen)
  have HOLD1 := Lib.hid hold
  clear hbk hlen hold
  have hz9 : W8.heap.size ≤ W9.heap.size := hm.size
  have HZ9 := Lib.hid hz9
  clear hz9
  have HM10 : Hid ((Below w.heap.size w W9) ∧ (W9.heap[x2]? = some (.cells #[.int .i64 v.kind, .int .u64 v.num, .string v.text, .slice p N c, .int .i64 v.elem] 25 (0, 0))) ∧ (W9.heap[x2 + 1]? = some (.cells #[.bool false] 4 (0, 0))) ∧ (ToldIn W3 W9 (.slice (some ⟨bt, 0, none⟩) nL ct) (v.pre 1)) ∧ (Below W3.heap.size W3 W9) ∧ (W9.heap[x7]? = some (.cells #[.slice (some ⟨bt, 0, none⟩) nL ct] 37 (0, 0))) ∧ (VL W9 W5.heap.size v (.slice (some ⟨g8, 0, none⟩) N (N + 3)) F8) ∧ (W9.heap[x8]? = some (.cells #[.int .i64 v.kind, .int .u64 v.num, .string v.text, .slice (some ⟨g8, 0, none⟩) N (N + 3), .int .i64 v.elem] 25 (0, 0))) ∧ (W9.heap[x9]? = some (.cells #[.pointer (some ⟨bp, 0, none⟩)] 39 (0, 0)))) := Lib.hid ((And.intro (HM9.out.1.trans (hB.mono HWT0.out)) (And.intro (BkMv.cel hm HM9.out.2.1 (by decide) (by decide)) (And.intro (BkMv.cel hm HM9.out.2.2.1 (by decide) (by decide)) (And.intro (ToldIn.bkmv HM9.out.2.2.2.1 hm) (And.intro (HM9.out.2.2.2.2.1.trans hB) (And.intro (BkMv.cel hm HM9.out.2.2.2.2.2.1 (by decide) (by decide)) (And.intro (BkMv.vl hm HM9.out.2.2.2.2.2.2.1) (And.intro (BkMv.cel hm HM9.out.2.2.2.2.2.2.2.1 (by decide) (by decide)) (BkMv.cel hm HM9.out.2.2.2.2.2.2.2.2 (by decide) (by decide)))))))))))
  clear HM9
  clear hm hB
  have hc : Calls Tryd.prog 28 #[.agg #[.int .i64 v.kind, .int .u64 v.num, .string v.text, .slice (some ⟨g8, 0, none⟩) N (N + 3), .int .i64 v.elem], .slice (some ⟨bt, 0, none⟩) nL ct, .int .i64 (-1), .pointer (some ⟨bp, 0, none⟩)] W9 (GoesTo W3 W9 bp vs1 (cost (v.pre 1))) := goes_any v W3 W9 _ _ (-1) bp vl1 vs1 HM10.out.2.2.2.2.2.2.1.vin (by have := HW.out; omega) HM10.out.2.2.2.2.1 HM10.out.2.2.2.1 HBK1.out.1 (by have h1 := HCO.out; have h2 := HBK1.out.2; simp only [List.length_nil] at h2; omega)
  have HC10 := Lib.hid hc
  clear hc
  have q := HM10.out.2.2.2.2.2.2.2.1
  have x8_0 : W9.cell? ⟨x8, 0, none⟩ = some (.int .i64 v.kind) := (cell_of_row _ _ 0 _ _ _ q).trans rfl
  have x8_1 : W9.cell? ⟨x8, 1, none⟩ = some (.int .u64 v.num) := (cell_of_row _ _ 1 _ _ _ q).trans rfl
  have x8_2 : W9.cell? ⟨x8, 2, none⟩ = some (.string v.text) := (cell_of_row _ _ 2 _ _ _ q).trans rfl
  have x8_3 : W9.cell? ⟨x8, 3, none⟩ = some (.slice (some ⟨g8, 0, none⟩) N (N + 3)) := (cell_of_row _ _ 3 _ _ _ q).trans rfl
  have x8_4 : W9.cell? ⟨x8, 4, none⟩ = some (.int .i64 v.elem) := (cell_of_row _ _ 4 _ _ _ q).trans rfl
  clear q
  have q := HM10.out.2.2.2.2.2.1
  have x7_0 : W9.cell? ⟨x7, 0, none⟩ = some (.slice (some ⟨bt, 0, none⟩) nL ct) := (cell_of_row _ _ 0 _ _ _ q).trans rfl
  clear q
  have q := HM10.out.2.2.2.2.2.2.2.2
  have x9_0 : W9.cell? ⟨x9, 0, none⟩ = some (.pointer (some ⟨bp, 0, none⟩)) := (cell_of_row _ _ 0 _ _ _ q).trans rfl
  clear q
  go_wp2_with fail
  refine HC10.out.mono ?_
  clear x8_0 x8_1 x8_2 x8_3 x8_4 x7_0 x9_0
  rintro e W10 ⟨rfl, ⟨vl2, vs2, hbk, hlen, hold⟩, hm, hB⟩
  have HBK2 := Lib.hid (And.intro hbk hlen)
  have HOLD2 := Lib.hid hold
  clear hbk hlen hold
  have hz10 : W9.heap.size ≤ W10.heap.size := hm.size
  have HZ10 := Lib.hid hz10
  clear hz10
  have HM11 : Hid ((Below w.heap.size w W10) ∧ (W10.heap[x2]? = some (.cells #[.int .i64 v.kind, .int .u64 v.num, .string v.text, .slice p N c, .int .i64 v.elem] 25 (0, 0))) ∧ (W10.heap[x2 + 1]? = some (.cells #[.bool false] 4 (0, 0))) ∧ (ToldIn W3 W10 (.slice (some ⟨bt, 0, none⟩) nL ct) (v.pre 1)) ∧ (Below W3.heap.size W3 W10) ∧ (W10.heap[x7]? = some (.cells #[.slice (some ⟨bt, 0, none⟩) nL ct] 37 (0, 0))) ∧ (VL W10 W5.heap.size v (.slice (some ⟨g8, 0, none⟩) N (N + 3)) F8) ∧ (W10.heap[x8]? = some (.cells #[.int .i64 v.kind, .int .u64 v.num, .string v.text, .slice (some ⟨g8, 0, none⟩) N (N + 3), .int .i64 v.elem] 25 (0, 0))) ∧ (W10.heap[x9]? = some (.cells #[.pointer (some ⟨bp, 0, none⟩)] 39 (0, 0)))) := Lib.hid ((And.intro (HM10.out.1.trans (hB.mono HWT0.out)) (And.intro (BkMv.cel hm HM10.out.2.1 (by decide) (by decide)) (And.intro (BkMv.cel hm HM10.out.2.2.1 (by decide) (by decide)) (And.intro (ToldIn.bkmv HM10.out.2.2.2.1 hm) (And.intro (HM10.out.2.2.2.2.1.trans hB) (And.intro (BkMv.cel hm HM10.out.2.2.2.2.2.1 (by decide) (by decide)) (And.intro (BkMv.vl hm HM10.out.2.2.2.2.2.2.1) (And.intro (BkMv.cel hm HM10.out.2.2.2.2.2.2.2.1 (by decide) (by decide)) (BkMv.cel hm HM10.out.2.2.2.2.2.2.2.2 (by decide) (by decide)))))))))))
  clear HM10
  clear hm hB
  have HIN_QB : Hid (∀ g, BkQ vs2 g → W8.heap.size ≤ g ∧ g < W10.heap.size) := Lib.hid (fun g q => ⟨by
    rcases HOLD2.out g q with q2 | q2
    · rcases HOLD1.out g q2 with ⟨j, hj, _⟩ | q3
      · simp at hj
      · exact q3
    · have z0 := HX_x2.out; have z1 := HZw.out; have z2 := HZ1.out; have z3 := HZ2.out; have z4 := HZ3.out; have z5 := HZ4.out; have z6 := HX_x7.out; have z7 := HLT_x7.out; have z8 := HZ5.out; have z9 := HZ6.out; have z10 := HX_x8.out; have z11 := HLT_x8.out; have z12 := HZ7.out; have z13 := HX_bp.out; have z14 := HX_x9.out; have z15 := HZ_x9.out; have z16 := HZ8.out; have z17 := HZ9.out; have z18 := HZ10.out; omega, (BkIn.qlt HBK2.out.1 q).2⟩)
  have HM12 : Hid ((Below w.heap.size w W10) ∧ (W10.heap[x2]? = some (.cells #[.int .i64 v.kind, .int .u64 v.num, .string v.text, .slice p N c, .int .i64 v.elem] 25 (0, 0))) ∧ (W10.heap[x2 + 1]? = some (.cells #[.bool false] 4 (0, 0))) ∧ (ToldIn W3 W10 (.slice (some ⟨bt, 0, none⟩) nL ct) (v.pre 1)) ∧ (Below W3.heap.size W3 W10) ∧ (W10.heap[x7]? = some (.cells #[.slice (some ⟨bt, 0, none⟩) nL ct] 37 (0, 0))) ∧ (VL W10 W5.heap.size v (.slice (some ⟨g8, 0, none⟩) N (N + 3)) F8) ∧ (W10.heap[x8]? = some (.cells #[.int .i64 v.kind, .int .u64 v.num, .string v.text, .slice (some ⟨g8, 0, none⟩) N (N + 3), .int .i64 v.elem] 25 (0, 0))) ∧ (W10.heap[x9]? = some (.cells #[.pointer (some ⟨bp, 0, none⟩)] 39 (0, 0))) ∧ (BkIn W10 W3.heap.size bp vl2 vs2 (BkQ vs2))) := Lib.hid ((And.intro HM11.out.1 (And.intro HM11.out.2.1 (And.intro HM11.out.2.2.1 (And.intro HM11.out.2.2.2.1 (And.intro HM11.out.2.2.2.2.1 (And.intro HM11.out.2.2.2.2.2.1 (And.intro HM11.out.2.2.2.2.2.2.1 (And.intro HM11.out.2.2.2.2.2.2.2.1 (And.intro HM11.out.2.2.2.2.2.2.2.2 HBK2.out.1))))))))))
  clear HM11
  have hc := requal_any v W10 _ v _ HM12.out.2.2.2.2.2.2.1.vin (HV.out.blw HM12.out.1)
  rw [decide_eq_true rfl] at hc
  have HC11 := Lib.hid hc
  clear hc
  have q := HM12.out.2.2.2.2.2.2.2.1
  have x8_0 : W10.cell? ⟨x8, 0, none⟩ = some (.int .i64 v.kind) := (cell_of_row _ _ 0 _ _ _ q).trans rfl
  have x8_1 : W10.cell? ⟨x8, 1, none⟩ = some (.int .u64 v.num) := (cell_of_row _ _ 1 _ _ _ q).trans rfl
  have x8_2 : W10.cell? ⟨x8, 2, none⟩ = some (.string v.text) := (cell_of_row _ _ 2 _ _ _ q).trans rfl
  have x8_3 : W10.cell? ⟨x8, 3, none⟩ = some (.slice (some ⟨g8, 0, none⟩) N (N + 3)) := (cell_of_row _ _ 3 _ _ _ q).trans rfl
  have x8_4 : W10.cell? ⟨x8, 4, none⟩ = some (.int .i64 v.elem) := (cell_of_row _ _ 4 _ _ _ q).trans rfl
  clear q
  have q := HM12.out.2.1
  have x2_0 : W10.cell? ⟨x2, 0, none⟩ = some (.int .i64 v.kind) := (cell_of_row _ _ 0 _ _ _ q).trans rfl
  have x2_1 : W10.cell? ⟨x2, 1, none⟩ = some (.int .u64 v.num) := (cell_of_row _ _ 1 _ _ _ q).trans rfl
  have x2_2 : W10.cell? ⟨x2, 2, none⟩ = some (.string v.text) := (cell_of_row _ _ 2 _ _ _ q).trans rfl
  have x2_3 : W10.cell? ⟨x2, 3, none⟩ = some (.slice p N c) := (cell_of_row _ _ 3 _ _ _ q).trans rfl
  have x2_4 : W10.cell? ⟨x2, 4, none⟩ = some (.int .i64 v.elem) := (cell_of_row _ _ 4 _ _ _ q).trans rfl
  clear q
  go_wp2_with fail
  refine HC11.out.mono ?_
  clear x8_0 x8_1 x8_2 x8_3 x8_4 x2_0 x2_1 x2_2 x2_3 x2_4
  rintro e W11 ⟨rfl, hb⟩
  have hz12 : W10.heap.size ≤ W11.heap.size := hb.size
  have HZ12 := Lib.hid hz12
  clear hz12
  have HM13 : Hid ((Below w.heap.size w W11) ∧ (W11.heap[x2]? = some (.cells #[.int .i64 v.kind, .int .u64 v.num, .string v.text, .slice p N c, .int .i64 v.elem] 25 (0, 0))) ∧ (W11.heap[x2 + 1]? = some (.cells #[.bool false] 4 (0, 0))) ∧ (ToldIn W3 W11 (.slice (some ⟨bt, 0, none⟩) nL ct) (v.pre 1)) ∧ (Below W3.heap.size W3 W11) ∧ (W11.heap[x7]? = some (.cells #[.slice (some ⟨bt, 0, none⟩) nL ct] 37 (0, 0))) ∧ (VL W11 W5.heap.size v (.slice (some ⟨g8, 0, none⟩) N (N + 3)) F8) ∧ (W11.heap[x8]? = some (.cells #[.int .i64 v.kind, .int .u64 v.num, .string v.text, .slice (some ⟨g8, 0, none⟩) N (N + 3), .int .i64 v.elem] 25 (0, 0))) ∧ (W11.heap[x9]? = some (.cells #[.pointer (some ⟨bp, 0, none⟩)] 39 (0, 0))) ∧ (BkIn W11 W3.heap.size bp vl2 vs2 (BkQ vs2))) := Lib.hid ((And.intro (HM12.out.1.trans (hb.mono HM12.out.1.size)) (And.intro ((hb.block _ (Array.getElem?_eq_some_iff.1 HM12.out.2.1).1).trans HM12.out.2.1) (And.intro ((hb.block _ (Array.getElem?_eq_some_iff.1 HM12.out.2.2.1).1).trans HM12.out.2.2.1) (And.intro (HM12.out.2.2.2.1.blw hb) (And.intro (HM12.out.2.2.2.2.1.trans (hb.mono HM12.out.2.2.2.2.1.size)) (And.intro ((hb.block _ (Array.getElem?_eq_some_iff.1 HM12.out.2.2.2.2.2.1).1).trans HM12.out.2.2.2.2.2.1) (And.intro (HM12.out.2.2.2.2.2.2.1.blw hb) (And.intro ((hb.block _ (Array.getElem?_eq_some_iff.1 HM12.out.2.2.2.2.2.2.2.1).1).trans HM12.out.2.2.2.2.2.2.2.1) (And.intro ((hb.block _ (Array.getElem?_eq_some_iff.1 HM12.out.2.2.2.2.2.2.2.2.1).1).trans HM12.out.2.2.2.2.2.2.2.2.1) (HM12.out.2.2.2.2.2.2.2.2.2.below hb)))))))))))
  clear HM12
  clear hb
  have hc := all_any v W11 _ HM13.out.2.2.2.2.2.2.1.vin (by have := HW.out; omega)
  have HC12 := Lib.hid hc
  clear hc
  have q := HM13.out.2.2.2.2.2.2.2.1
  have x8_0 : W11.cell? ⟨x8, 0, none⟩ = some (.int .i64 v.kind) := (cell_of_row _ _ 0 _ _ _ q).trans rfl
  have x8_1 : W11.cell? ⟨x8, 1, none⟩ = some (.int .u64 v.num) := (cell_of_row _ _ 1 _ _ _ q).trans rfl
  have x8_2 : W11.cell? ⟨x8, 2, none⟩ = some (.string v.text) := (cell_of_row _ _ 2 _ _ _ q).trans rfl
  have x8_3 : W11.cell? ⟨x8, 3, none⟩ = some (.slice (some ⟨g8, 0, none⟩) N (N + 3)) := (cell_of_row _ _ 3 _ _ _ q).trans rfl
  have x8_4 : W11.cell? ⟨x8, 4, none⟩ = some (.int .i64 v.elem) := (cell_of_row _ _ 4 _ _ _ q).trans rfl
  clear q
  go_wp2_with fail
  refine HC12.out.mono ?_
  clear x8_0 x8_1 x8_2 x8_3 x8_4
  rintro e W12 ⟨xa, ua, FA, rfl, hxa, hvoa, hFx, hza, hb⟩
  have HFX := Lib.hid hFx
  have HZA := Lib.hid (And.intro hza (Array.getElem?_eq_some_iff.1 hxa).1)
  clear hFx hza
  have HIN_FA : Hid (∀ g, FA g → W11.heap.size ≤ g ∧ g < W12.heap.size) := Lib.hid (hvoa.lt)
  have hz13 : W11.heap.size ≤ W12.heap.size := hb.size
  have HZ13 := Lib.hid hz13
  clear hz13
  have HM14 : Hid ((Below w.heap.size w W12) ∧ (W12.heap[x2]? = some (.cells #[.int .i64 v.kind, .int .u64 v.num, .string v.text, .slice p N c, .int .i64 v.elem] 25 (0, 0))) ∧ (W12.heap[x2 + 1]? = some (.cells #[.bool false] 4 (0, 0))) ∧ (ToldIn W3 W12 (.slice (some ⟨bt, 0, none⟩) nL ct) (v.pre 1)) ∧ (Below W3.heap.size W3 W12) ∧ (W12.heap[x7]? = some (.cells #[.slice (some ⟨bt, 0, none⟩) nL ct] 37 (0, 0))) ∧ (VL W12 W5.heap.size v (.slice (some ⟨g8, 0, none⟩) N (N + 3)) F8) ∧ (W12.heap[x8]? = some (.cells #[.int .i64 v.kind, .int .u64 v.num, .string v.text, .slice (some ⟨g8, 0, none⟩) N (N + 3), .int .i64 v.elem] 25 (0, 0))) ∧ (W12.heap[x9]? = some (.cells #[.pointer (some ⟨bp, 0, none⟩)] 39 (0, 0))) ∧ (BkIn W12 W3.heap.size bp vl2 vs2 (BkQ vs2)) ∧ (W12.heap[xa]? = some (.cells #[.int .i64 v.kind, .int .u64 v.num, .string v.text, ua, .int .i64 v.elem] 25 (0, 0))) ∧ (VO W12 W11.heap.size v ua FA)) := Lib.hid ((And.intro (HM13.out.1.trans (hb.mono HM13.out.1.size)) (And.intro ((hb.block _ (Array.getElem?_eq_some_iff.1 HM13.out.2.1).1).trans HM13.out.2.1) (And.intro ((hb.block _ (Array.getElem?_eq_some_iff.1 HM13.out.2.2.1).1).trans HM13.out.2.2.1) (And.intro (HM13.out.2.2.2.1.blw hb) (And.intro (HM13.out.2.2.2.2.1.trans (hb.mono HM13.out.2.2.2.2.1.size)) (And.intro ((hb.block _ (Array.getElem?_eq_some_iff.1 HM13.out.2.2.2.2.2.1).1).trans HM13.out.2.2.2.2.2.1) (And.intro (HM13.out.2.2.2.2.2.2.1.blw hb) (And.intro ((hb.block _ (Array.getElem?_eq_some_iff.1 HM13.out.2.2.2.2.2.2.2.1).1).trans HM13.out.2.2.2.2.2.2.2.1) (And.intro ((hb.block _ (Array.getElem?_eq_some_iff.1 HM13.out.2.2.2.2.2.2.2.2.1).1).trans HM13.out.2.2.2.2.2.2.2.2.1) (And.intro (HM13.out.2.2.2.2.2.2.2.2.2.below hb) (And.intro hxa hvoa))))))))))))
  clear HM13
  clear hb hxa hvoa
  go_upto_region 14 with fail
  have hb : Below W12.heap.size W12 (W12.alloc (.cells #[.func (.func 53) #[] #[.pointer (some ⟨xa, 0, none⟩)]] 45)) := (Below.refl _ _).alloc (Nat.le_refl _) _
  have ox13 : (W12.alloc (.cells #[.func (.func 53) #[] #[.pointer (some ⟨xa, 0, none⟩)]] 45)).heap[W12.heap.size]? = some (.cells #[.func (.func 53) #[] #[.pointer (some ⟨xa, 0, none⟩)]] 45 (0, 0)) := _root_.Go.heap_alloc_new _ _
  generalize (W12.alloc (.cells #[.func (.func 53) #[] #[.pointer (some ⟨xa, 0, none⟩)]] 45)) = W13 at *
  obtain ⟨x13, hx13⟩ : ∃ x, W12.heap.size = x := ⟨_, rfl⟩
  rw [hx13] at ox13 ⊢
  have HX_x13 := Lib.hid hx13
  clear hx13
  have hlt := (Array.getElem?_eq_some_iff.1 ox13).1
  have HLT_x13 := Lib.hid hlt
  clear hlt
  have hz14 : W12.heap.size ≤ W13.heap.size := hb.size
  have HZ14 := Lib.hid hz14
  clear hz14
  have HM15 : Hid ((Below w.heap.size w W13) ∧ (W13.heap[x2]? = some (.cells #[.int .i64 v.kind, .int .u64 v.num, .string v.text, .slice p N c, .int .i64 v.elem] 25 (0, 0))) ∧ (W13.heap[x2 + 1]? = some (.cells #[.bool false] 4 (0, 0))) ∧ (ToldIn W3 W13 (.slice (some ⟨bt, 0, none⟩) nL ct) (v.pre 1)) ∧ (Below W3.heap.size W3 W13) ∧ (W13.heap[x7]? = some (.cells #[.slice (some ⟨bt, 0, none⟩) nL ct] 37 (0, 0))) ∧ (VL W13 W5.heap.size v (.slice (some ⟨g8, 0, none⟩) N (N + 3)) F8) ∧ (W13.heap[x8]? = some (.cells #[.int .i64 v.kind, .int .u64 v.num, .string v.text, .slice (some ⟨g8, 0, none⟩) N (N + 3), .int .i64 v.elem] 25 (0, 0))) ∧ (W13.heap[x9]? = some (.cells #[.pointer (some ⟨bp, 0, none⟩)] 39 (0, 0))) ∧ (BkIn W13 W3.heap.size bp vl2 vs2 (BkQ vs2)) ∧ (W13.heap[xa]? = some (.cells #[.int .i64 v.kind, .int .u64 v.num, .string v.text, ua, .int .i64 v.elem] 25 (0, 0))) ∧ (VO W13 W11.heap.size v ua FA) ∧ (W13.heap[x13]? = some (.cells #[.func (.func 53) #[] #[.pointer (some ⟨xa, 0, none⟩)]] 45 (0, 0)))) := Lib.hid ((And.intro (HM14.out.1.trans (hb.mono HM14.out.1.size)) (And.intro ((hb.block _ (Array.getElem?_eq_some_iff.1 HM14.out.2.1).1).trans HM14.out.2.1) (And.intro ((hb.block _ (Array.getElem?_eq_some_iff.1 HM14.out.2.2.1).1).trans HM14.out.2.2.1) (And.intro (HM14.out.2.2.2.1.blw hb) (And.intro (HM14.out.2.2.2.2.1.trans (hb.mono HM14.out.2.2.2.2.1.size)) (And.intro ((hb.block _ (Array.getElem?_eq_some_iff.1 HM14.out.2.2.2.2.2.1).1).trans HM14.out.2.2.2.2.2.1) (And.intro (HM14.out.2.2.2.2.2.2.1.blw hb) (And.intro ((hb.block _ (Array.getElem?_eq_some_iff.1 HM14.out.2.2.2.2.2.2.2.1).1).trans HM14.out.2.2.2.2.2.2.2.1) (And.intro ((hb.block _ (Array.getElem?_eq_some_iff.1 HM14.out.2.2.2.2.2.2.2.2.1).1).trans HM14.out.2.2.2.2.2.2.2.2.1) (And.intro (HM14.out.2.2.2.2.2.2.2.2.2.1.below hb) (And.intro ((hb.block _ (Array.getElem?_eq_some_iff.1 HM14.out.2.2.2.2.2.2.2.2.2.2.1).1).trans HM14.out.2.2.2.2.2.2.2.2.2.2.1) (And.intro (HM14.out.2.2.2.2.2.2.2.2.2.2.2.blw hb) ox13)))))))))))))
  clear HM14
  clear hb ox13
  have hiv : ∀ g, F8 g → IsVal W13 g := VL.isVal HM15.out.2.2.2.2.2.2.1
  have hqb : ∀ g, BkQ vs2 g → ¬ F8 g := fun g q1 q2 => by have h1 := HIN_QB.out g q1; have h2 := HIN_F8.out g q2; have z0 := HX_x2.out; have z1 := HZw.out; have z2 := HZ1.out; have z3 := HZ2.out; have z4 := HZ3.out; have z5 := HZ4.out; have z6 := HX_x7.out; have z7 := HLT_x7.out; have z8 := HZ5.out; have z9 := HZ6.out; have z10 := HX_x8.out; have z11 := HLT_x8.out; have z12 := HZ7.out; have z13 := HX_bp.out; have z14 := HX_x9.out; have z15 := HZ_x9.out; have z16 := HZ8.out; have z17 := HZ9.out; have z18 := HZ10.out; have z19 := HZ12.out; have z20 := HZA.out.1; have z21 := HZA.out.2; have z22 := HZ13.out; have z23 := HX_x13.out; have z24 := HLT_x13.out; have z25 := HZ14.out; omega
  have hc : Calls Tryd.prog 19 #[.agg #[.int .i64 v.kind, .int .u64 v.num, .string v.text, .slice (some ⟨g8, 0, none⟩) N (N + 3), .int .i64 v.elem], .agg #[.int .i64 v.kind, .int .u64 v.num, .string v.text, .slice p N c, .int .i64 v.elem]] W13 _ := asl_on v W13 w W5.heap.size _ _ F8 HM15.out.2.2.2.2.2.2.1 HV.out (fun W hW => rd_below (KeepF.below HM15.out.1 hW (fun j q => by have h1 := HIN_F8.out j q; have z0 := HX_x2.out; have z1 := HZw.out; have z2 := HZ1.out; have z3 := HZ2.out; have z4 := HZ3.out; have z5 := HZ4.out; have z6 := HX_x7.out; have z7 := HLT_x7.out; have z8 := HZ5.out; have z9 := HZ6.out; have z10 := HX_x8.out; have z11 := HLT_x8.out; have z12 := HZ7.out; have z13 := HX_bp.out; have z14 := HX_x9.out; have z15 := HZ_x9.out; have z16 := HZ8.out; have z17 := HZ9.out; have z18 := HZ10.out; have z19 := HZ12.out; have z20 := HZA.out.1; have z21 := HZA.out.2; have z22 := HZ13.out; have z23 := HX_x13.out; have z24 := HLT_x13.out; have z25 := HZ14.out; omega) HM15.out.1.size)) (by have := HW.out; omega)
  have HC14 := Lib.hid hc
  clear hc
  have q := HM15.out.2.2.2.2.2.2.2.1
  have x8_0 : W13.cell? ⟨x8, 0, none⟩ = some (.int .i64 v.kind) := (cell_of_row _ _ 0 _ _ _ q).trans rfl
  have x8_1 : W13.cell? ⟨x8, 1, none⟩ = some (.int .u64 v.num) := (cell_of_row _ _ 1 _ _ _ q).trans rfl
  have x8_2 : W13.cell? ⟨x8, 2, none⟩ = some (.string v.text) := (cell_of_row _ _ 2 _ _ _ q).trans rfl
  have x8_3 : W13.cell? ⟨x8, 3, none⟩ = some (.slice (some ⟨g8, 0, none⟩) N (N + 3)) := (cell_of_row _ _ 3 _ _ _ q).trans rfl
  have x8_4 : W13.cell? ⟨x8, 4, none⟩ = some (.int .i64 v.elem) := (cell_of_row _ _ 4 _ _ _ q).trans rfl
  clear q
  have q := HM15.out.2.1
  have x2_0 : W13.cell? ⟨x2, 0, none⟩ = some (.int .i64 v.kind) := (cell_of_row _ _ 0 _ _ _ q).trans rfl
  have x2_1 : W13.cell? ⟨x2, 1, none⟩ = some (.int .u64 v.num) := (cell_of_row _ _ 1 _ _ _ q).trans rfl
  have x2_2 : W13.cell? ⟨x2, 2, none⟩ = some (.string v.text) := (cell_of_row _ _ 2 _ _ _ q).trans rfl
  have x2_3 : W13.cell? ⟨x2, 3, none⟩ = some (.slice p N c) := (cell_of_row _ _ 3 _ _ _ q).trans rfl
  have x2_4 : W13.cell? ⟨x2, 4, none⟩ = some (.int .i64 v.elem) := (cell_of_row _ _ 4 _ _ _ q).trans rfl
  clear q
  go_wp2_with fail
  refine HC14.out.mono ?_
  clear x8_0 x8_1 x8_2 x8_3 x8_4 x2_0 x2_1 x2_2 x2_3 x2_4
  rintro e W14 ⟨rfl, hk⟩
  have HM16 : Hid ((Below w.heap.size w W13) ∧ (W13.heap[x2]? = some (.cells #[.int .i64 v.kind, .int .u64 v.num, .string v.text, .slice p N c, .int .i64 v.elem] 25 (0, 0))) ∧ (W13.heap[x2 + 1]? = some (.cells #[.bool false] 4 (0, 0))) ∧ (ToldIn W3 W13 (.slice (some ⟨bt, 0, none⟩) nL ct) (v.pre 1)) ∧ (Below W3.heap.size W3 W13) ∧ (W13.heap[x7]? = some (.cells #[.slice (some ⟨bt, 0, none⟩) nL ct] 37 (0, 0))) ∧ (W13.heap[x8]? = some (.cells #[.int .i64 v.kind, .int .u64 v.num, .string v.text, .slice (some ⟨g8, 0, none⟩) N (N + 3), .int .i64 v.elem] 25 (0, 0))) ∧ (W13.heap[x9]? = some (.cells #[.pointer (some ⟨bp, 0, none⟩)] 39 (0, 0))) ∧ (BkIn W13 W3.heap.size bp vl2 vs2 (BkQ vs2)) ∧ (W13.heap[xa]? = some (.cells #[.int .i64 v.kind, .int .u64 v.num, .string v.text, ua, .int .i64 v.elem] 25 (0, 0))) ∧ (VO W13 W11.heap.size v ua FA) ∧ (W13.heap[x13]? = some (.cells #[.func (.func 53) #[] #[.pointer (some ⟨xa, 0, none⟩)]] 45 (0, 0)))) := Lib.hid ((And.intro HM15.out.1 (And.intro HM15.out.2.1 (And.intro HM15.out.2.2.1 (And.intro HM15.out.2.2.2.1 (And.intro HM15.out.2.2.2.2.1 (And.intro HM15.out.2.2.2.2.2.1 (And.intro HM15.out.2.2.2.2.2.2.2.1 (And.intro HM15.out.2.2.2.2.2.2.2.2.1 (And.intro HM15.out.2.2.2.2.2.2.2.2.2.1 (And.intro HM15.out.2.2.2.2.2.2.2.2.2.2.1 (And.intro HM15.out.2.2.2.2.2.2.2.2.2.2.2.1 HM15.out.2.2.2.2.2.2.2.2.2.2.2.2))))))))))))
  clear HM15
  have hbk2 := (BkIn.keepF HM16.out.2.2.2.2.2.2.2.2.1 hk hiv hqb)
  have HM17 : Hid ((Below w.heap.size w W13) ∧ (W13.heap[x2]? = some (.cells #[.int .i64 v.kind, .int .u64 v.num, .string v.text, .slice p N c, .int .i64 v.elem] 25 (0, 0))) ∧ (W13.heap[x2 + 1]? = some (.cells #[.bool false] 4 (0, 0))) ∧ (ToldIn W3 W13 (.slice (some ⟨bt, 0, none⟩) nL ct) (v.pre 1)) ∧ (Below W3.heap.size W3 W13) ∧ (W13.heap[x7]? = some (.cells #[.slice (some ⟨bt, 0, none⟩) nL ct] 37 (0, 0))) ∧ (W13.heap[x8]? = some (.cells #[.int .i64 v.kind, .int .u64 v.num, .string v.text, .slice (some ⟨g8, 0, none⟩) N (N + 3), .int .i64 v.elem] 25 (0, 0))) ∧ (W13.heap[x9]? = some (.cells #[.pointer (some ⟨bp, 0, none⟩)] 39 (0, 0))) ∧ (W13.heap[xa]? = some (.cells #[.int .i64 v.kind, .int .u64 v.num, .string v.text, ua, .int .i64 v.elem] 25 (0, 0))) ∧ (VO W13 W11.heap.size v ua FA) ∧ (W13.heap[x13]? = some (.cells #[.func (.func 53) #[] #[.pointer (some ⟨xa, 0, none⟩)]] 45 (0, 0)))) := Lib.hid ((And.intro HM16.out.1 (And.intro HM16.out.2.1 (And.intro HM16.out.2.2.1 (And.intro HM16.out.2.2.2.1 (And.intro HM16.out.2.2.2.2.1 (And.intro HM16.out.2.2.2.2.2.1 (And.intro HM16.out.2.2.2.2.2.2.1 (And.intro HM16.out.2.2.2.2.2.2.2.1 (And.intro HM16.out.2.2.2.2.2.2.2.2.2.1 (And.intro HM16.out.2.2.2.2.2.2.2.2.2.2.1 HM16.out.2.2.2.2.2.2.2.2.2.2.2)))))))))))
  clear HM16
  have hz17 : W13.heap.size ≤ W14.heap.size := hk.size
  have HZ17 := Lib.hid hz17
  clear hz17
  have HM18 : Hid ((Below w.heap.size w W14) ∧ (W14.heap[x2]? = some (.cells #[.int .i64 v.kind, .int .u64 v.num, .string v.text, .slice p N c, .int .i64 v.elem] 25 (0, 0))) ∧ (W14.heap[x2 + 1]? = some (.cells #[.bool false] 4 (0, 0))) ∧ (ToldIn W3 W14 (.slice (some ⟨bt, 0, none⟩) nL ct) (v.pre 1)) ∧ (Below W3.heap.size W3 W14) ∧ (W14.heap[x7]? = some (.cells #[.slice (some ⟨bt, 0, none⟩) nL ct] 37 (0, 0))) ∧ (W14.heap[x8]? = some (.cells #[.int .i64 v.kind, .int .u64 v.num, .string v.text, .slice (some ⟨g8, 0, none⟩) N (N + 3), .int .i64 v.elem] 25 (0, 0))) ∧ (W14.heap[x9]? = some (.cells #[.pointer (some ⟨bp, 0, none⟩)] 39 (0, 0))) ∧ (W14.heap[xa]? = some (.cells #[.int .i64 v.kind, .int .u64 v.num, .string v.text, ua, .int .i64 v.elem] 25 (0, 0))) ∧ (VO W14 W11.heap.size v ua FA) ∧ (W14.heap[x13]? = some (.cells #[.func (.func 53) #[] #[.pointer (some ⟨xa, 0, none⟩)]] 45 (0, 0)))) := Lib.hid ((And.intro (KeepF.below HM17.out.1 hk (fun j q => by have h1 := HIN_F8.out j q; have z0 := HX_x2.out; have z1 := HZw.out; have z2 := HZ1.out; have z3 := HZ2.out; have z4 := HZ3.out; have z5 := HZ4.out; have z6 := HX_x7.out; have z7 := HLT_x7.out; have z8 := HZ5.out; have z9 := HZ6.out; have z10 := HX_x8.out; have z11 := HLT_x8.out; have z12 := HZ7.out; have z13 := HX_bp.out; have z14 := HX_x9.out; have z15 := HZ_x9.out; have z16 := HZ8.out; have z17 := HZ9.out; have z18 := HZ10.out; have z19 := HZ12.out; have z20 := HZA.out.1; have z21 := HZA.out.2; have z22 := HZ13.out; have z23 := HX_x13.out; have z24 := HLT_x13.out; have z25 := HZ14.out; have z26 := HZ17.out; omega) HM17.out.1.size) (And.intro ((hk.block _ (Array.getElem?_eq_some_iff.1 HM17.out.2.1).1 (fun q => by have h1 := HIN_F8.out _ q; have z0 := HX_x2.out; have z1 := HZw.out; have z2 := HZ1.out; have z3 := HZ2.out; have z4 := HZ3.out; have z5 := HZ4.out; have z6 := HX_x7.out; have z7 := HLT_x7.out; have z8 := HZ5.out; have z9 := HZ6.out; have z10 := HX_x8.out; have z11 := HLT_x8.out; have z12 := HZ7.out; have z13 := HX_bp.out; have z14 := HX_x9.out; have z15 := HZ_x9.out; have z16 := HZ8.out; have z17 := HZ9.out; have z18 := HZ10.out; have z19 := HZ12.out; have z20 := HZA.out.1; have z21 := HZA.out.2; have z22 := HZ13.out; have z23 := HX_x13.out; have z24 := HLT_x13.out; have z25 := HZ14.out; have z26 := HZ17.out; omega)).trans HM17.out.2.1) (And.intro ((hk.block _ (Array.getElem?_eq_some_iff.1 HM17.out.2.2.1).1 (fun q => by have h1 := HIN_F8.out _ q; have z0 := HX_x2.out; have z1 := HZw.out; have z2 := HZ1.out; have z3 := HZ2.out; have z4 := HZ3.out; have z5 := HZ4.out; have z6 := HX_x7.out; have z7 := HLT_x7.out; have z8 := HZ5.out; have z9 := HZ6.out; have z10 := HX_x8.out; have z11 := HLT_x8.out; have z12 := HZ7.out; have z13 := HX_bp.out; have z14 := HX_x9.out; have z15 := HZ_x9.out; have z16 := HZ8.out; have z17 := HZ9.out; have z18 := HZ10.out; have z19 := HZ12.out; have z20 := HZA.out.1; have z21 := HZA.out.2; have z22 := HZ13.out; have z23 := HX_x13.out; have z24 := HLT_x13.out; have z25 := HZ14.out; have z26 := HZ17.out; omega)).trans HM17.out.2.2.1) (And.intro (ToldIn.keep HM17.out.2.2.2.1 (fun j g => hk.block j (ToldIn.lt HM17.out.2.2.2.1 j g).2 (fun q => by have h1 := HIN_F8.out j q; have h2 := HIN_T.out j g; have z0 := HX_x2.out; have z1 := HZw.out; have z2 := HZ1.out; have z3 := HZ2.out; have z4 := HZ3.out; have z5 := HZ4.out; have z6 := HX_x7.out; have z7 := HLT_x7.out; have z8 := HZ5.out; have z9 := HZ6.out; have z10 := HX_x8.out; have z11 := HLT_x8.out; have z12 := HZ7.out; have z13 := HX_bp.out; have z14 := HX_x9.out; have z15 := HZ_x9.out; have z16 := HZ8.out; have z17 := HZ9.out; have z18 := HZ10.out; have z19 := HZ12.out; have z20 := HZA.out.1; have z21 := HZA.out.2; have z22 := HZ13.out; have z23 := HX_x13.out; have z24 := HLT_x13.out; have z25 := HZ14.out; have z26 := HZ17.out; omega))) (And.intro (KeepF.below HM17.out.2.2.2.2.1 hk (fun j q => by have h1 := HIN_F8.out j q; have z0 := HX_x2.out; have z1 := HZw.out; have z2 := HZ1.out; have z3 := HZ2.out; have z4 := HZ3.out; have z5 := HZ4.out; have z6 := HX_x7.out; have z7 := HLT_x7.out; have z8 := HZ5.out; have z9 := HZ6.out; have z10 := HX_x8.out; have z11 := HLT_x8.out; have z12 := HZ7.out; have z13 := HX_bp.out; have z14 := HX_x9.out; have z15 := HZ_x9.out; have z16 := HZ8.out; have z17 := HZ9.out; have z18 := HZ10.out; have z19 := HZ12.out; have z20 := HZA.out.1; have z21 := HZA.out.2; have z22 := HZ13.out; have z23 := HX_x13.out; have z24 := HLT_x13.out; have z25 := HZ14.out; have z26 := HZ17.out; omega) HM17.out.2.2.2.2.1.size) (And.intro ((hk.block _ (Array.getElem?_eq_some_iff.1 HM17.out.2.2.2.2.2.1).1 (fun q => by have h1 := HIN_F8.out _ q; have z0 := HX_x2.out; have z1 := HZw.out; have z2 := HZ1.out; have z3 := HZ2.out; have z4 := HZ3.out; have z5 := HZ4.out; have z6 := HX_x7.out; have z7 := HLT_x7.out; have z8 := HZ5.out; have z9 := HZ6.out; have z10 := HX_x8.out; have z11 := HLT_x8.out; have z12 := HZ7.out; have z13 := HX_bp.out; have z14 := HX_x9.out; have z15 := HZ_x9.out; have z16 := HZ8.out; have z17 := HZ9.out; have z18 := HZ10.out; have z19 := HZ12.out; have z20 := HZA.out.1; have z21 := HZA.out.2; have z22 := HZ13.out; have z23 := HX_x13.out; have z24 := HLT_x13.out; have z25 := HZ14.out; have z26 := HZ17.out; omega)).trans HM17.out.2.2.2.2.2.1) (And.intro ((hk.block _ (Array.getElem?_eq_some_iff.1 HM17.out.2.2.2.2.2.2.1).1 (fun q => by have h1 := HIN_F8.out _ q; have z0 := HX_x2.out; have z1 := HZw.out; have z2 := HZ1.out; have z3 := HZ2.out; have z4 := HZ3.out; have z5 := HZ4.out; have z6 := HX_x7.out; have z7 := HLT_x7.out; have z8 := HZ5.out; have z9 := HZ6.out; have z10 := HX_x8.out; have z11 := HLT_x8.out; have z12 := HZ7.out; have z13 := HX_bp.out; have z14 := HX_x9.out; have z15 := HZ_x9.out; have z16 := HZ8.out; have z17 := HZ9.out; have z18 := HZ10.out; have z19 := HZ12.out; have z20 := HZA.out.1; have z21 := HZA.out.2; have z22 := HZ13.out; have z23 := HX_x13.out; have z24 := HLT_x13.out; have z25 := HZ14.out; have z26 := HZ17.out; omega)).trans HM17.out.2.2.2.2.2.2.1) (And.intro ((hk.block _ (Array.getElem?_eq_some_iff.1 HM17.out.2.2.2.2.2.2.2.1).1 (fun q => by have h1 := HIN_F8.out _ q; have z0 := HX_x2.out; have z1 := HZw.out; have z2 := HZ1.out; have z3 := HZ2.out; have z4 := HZ3.out; have z5 := HZ4.out; have z6 := HX_x7.out; have z7 := HLT_x7.out; have z8 := HZ5.out; have z9 := HZ6.out; have z10 := HX_x8.out; have z11 := HLT_x8.out; have z12 := HZ7.out; have z13 := HX_bp.out; have z14 := HX_x9.out; have z15 := HZ_x9.out; have z16 := HZ8.out; have z17 := HZ9.out; have z18 := HZ10.out; have z19 := HZ12.out; have z20 := HZA.out.1; have z21 := HZA.out.2; have z22 := HZ13.out; have z23 := HX_x13.out; have z24 := HLT_x13.out; have z25 := HZ14.out; have z26 := HZ17.out; omega)).trans HM17.out.2.2.2.2.2.2.2.1) (And.intro ((hk.block _ (Array.getElem?_eq_some_iff.1 HM17.out.2.2.2.2.2.2.2.2.1).1 (fun q => by have h1 := HIN_F8.out _ q; have z0 := HX_x2.out; have z1 := HZw.out; have z2 := HZ1.out; have z3 := HZ2.out; have z4 := HZ3.out; have z5 := HZ4.out; have z6 := HX_x7.out; have z7 := HLT_x7.out; have z8 := HZ5.out; have z9 := HZ6.out; have z10 := HX_x8.out; have z11 := HLT_x8.out; have z12 := HZ7.out; have z13 := HX_bp.out; have z14 := HX_x9.out; have z15 := HZ_x9.out; have z16 := HZ8.out; have z17 := HZ9.out; have z18 := HZ10.out; have z19 := HZ12.out; have z20 := HZA.out.1; have z21 := HZA.out.2; have z22 := HZ13.out; have z23 := HX_x13.out; have z24 := HLT_x13.out; have z25 := HZ14.out; have z26 := HZ17.out; omega)).trans HM17.out.2.2.2.2.2.2.2.2.1) (And.intro (HM17.out.2.2.2.2.2.2.2.2.2.1.keepF hk (fun j g q => by have h1 := HIN_F8.out j q; have h2 := HIN_FA.out j g; have z0 := HX_x2.out; have z1 := HZw.out; have z2 := HZ1.out; have z3 := HZ2.out; have z4 := HZ3.out; have z5 := HZ4.out; have z6 := HX_x7.out; have z7 := HLT_x7.out; have z8 := HZ5.out; have z9 := HZ6.out; have z10 := HX_x8.out; have z11 := HLT_x8.out; have z12 := HZ7.out; have z13 := HX_bp.out; have z14 := HX_x9.out; have z15 := HZ_x9.out; have z16 := HZ8.out; have z17 := HZ9.out; have z18 := HZ10.out; have z19 := HZ12.out; have z20 := HZA.out.1; have z21 := HZA.out.2; have z22 := HZ13.out; have z23 := HX_x13.out; have z24 := HLT_x13.out; have z25 := HZ14.out; have z26 := HZ17.out; omega)) ((hk.block _ (Array.getElem?_eq_some_iff.1 HM17.out.2.2.2.2.2.2.2.2.2.2).1 (fun q => by have h1 := HIN_F8.out _ q; have z0 := HX_x2.out; have z1 := HZw.out; have z2 := HZ1.out; have z3 := HZ2.out; have z4 := HZ3.out; have z5 := HZ4.out; have z6 := HX_x7.out; have z7 := HLT_x7.out; have z8 := HZ5.out; have z9 := HZ6.out; have z10 := HX_x8.out; have z11 := HLT_x8.out; have z12 := HZ7.out; have z13 := HX_bp.out; have z14 := HX_x9.out; have z15 := HZ_x9.out; have z16 := HZ8.out; have z17 := HZ9.out; have z18 := HZ10.out; have z19 := HZ12.out; have z20 := HZA.out.1; have z21 := HZA.out.2; have z22 := HZ13.out; have z23 := HX_x13.out; have z24 := HLT_x13.out; have z25 := HZ14.out; have z26 := HZ17.out; omega)).trans HM17.out.2.2.2.2.2.2.2.2.2.2))))))))))))
  clear HM17
  clear hk hiv hqb
  have HM19 : Hid ((Below w.heap.size w W14) ∧ (W14.heap[x2]? = some (.cells #[.int .i64 v.kind, .int .u64 v.num, .string v.text, .slice p N c, .int .i64 v.elem] 25 (0, 0))) ∧ (W14.heap[x2 + 1]? = some (.cells #[.bool false] 4 (0, 0))) ∧ (ToldIn W3 W14 (.slice (some ⟨bt, 0, none⟩) nL ct) (v.pre 1)) ∧ (Below W3.heap.size W3 W14) ∧ (W14.heap[x7]? = some (.cells #[.slice (some ⟨bt, 0, none⟩) nL ct] 37 (0, 0))) ∧ (W14.heap[x8]? = some (.cells #[.int .i64 v.kind, .int .u64 v.num, .string v.text, .slice (some ⟨g8, 0, none⟩) N (N + 3), .int .i64 v.elem] 25 (0, 0))) ∧ (W14.heap[x9]? = some (.cells #[.pointer (some ⟨bp, 0, none⟩)] 39 (0, 0))) ∧ (W14.heap[xa]? = some (.cells #[.int .i64 v.kind, .int .u64 v.num, .string v.text, ua, .int .i64 v.elem] 25 (0, 0))) ∧ (VO W14 W11.heap.size v ua FA) ∧ (W14.heap[x13]? = some (.cells #[.func (.func 53) #[] #[.pointer (some ⟨xa, 0, none⟩)]] 45 (0, 0))) ∧ (BkIn W14 W3.heap.size bp vl2 vs2 (BkQ vs2))) := Lib.hid ((And.intro HM18.out.1 (And.intro HM18.out.2.1 (And.intro HM18.out.2.2.1 (And.intro HM18.out.2.2.2.1 (And.intro HM18.out.2.2.2.2.1 (And.intro HM18.out.2.2.2.2.2.1 (And.intro HM18.out.2.2.2.2.2.2.1 (And.intro HM18.out.2.2.2.2.2.2.2.1 (And.intro HM18.out.2.2.2.2.2.2.2.2.1 (And.intro HM18.out.2.2.2.2.2.2.2.2.2.1 (And.intro HM18.out.2.2.2.2.2.2.2.2.2.2 hbk2))))))))))))
  clear HM18
  clear hbk2
  have q := HM19.out.2.2.2.2.2.2.2.2.2.2.1
  have x13_0 : W14.cell? ⟨x13, 0, none⟩ = some (.func (.func 53) #[] #[.pointer (some ⟨xa, 0, none⟩)]) := (cell_of_row _ _ 0 _ _ _ q).trans rfl
  clear q
  go_upto_region 17 with fail
  clear x13_0
  go_upto_region 18 with fail
  have hb : Below W14.heap.size W14 (W14.alloc (.cells #[.int .i64 0] 3)) := (Below.refl _ _).alloc (Nat.le_refl _) _
  have ox15 : (W14.alloc (.cells #[.int .i64 0] 3)).heap[W14.heap.size]? = some (.cells #[.int .i64 0] 3 (0, 0)) := _root_.Go.heap_alloc_new _ _
  generalize (W14.alloc (.cells #[.int .i64 0] 3)) = W15 at *
  obtain ⟨x15, hx15⟩ : ∃ x, W14.heap.size = x := ⟨_, rfl⟩
  rw [hx15] at ox15 ⊢
  have HX_x15 := Lib.hid hx15
  clear hx15
  have hlt := (Array.getElem?_eq_some_iff.1 ox15).1
  have HLT_x15 := Lib.hid hlt
  clear hlt
  have hz19 : W14.heap.size ≤ W15.heap.size := hb.size
  have HZ19 := Lib.hid hz19
  clear hz19
  have HM20 : Hid ((Below w.heap.size w W15) ∧ (W15.heap[x2]? = some (.cells #[.int .i64 v.kind, .int .u64 v.num, .string v.text, .slice p N c, .int .i64 v.elem] 25 (0, 0))) ∧ (W15.heap[x2 + 1]? = some (.cells #[.bool false] 4 (0, 0))) ∧ (ToldIn W3 W15 (.slice (some ⟨bt, 0, none⟩) nL ct) (v.pre 1)) ∧ (Below W3.heap.size W3 W15) ∧ (W15.heap[x7]? = some (.cells #[.slice (some ⟨bt, 0, none⟩) nL ct] 37 (0, 0))) ∧ (W15.heap[x8]? = some (.cells #[.int .i64 v.kind, .int .u64 v.num, .string v.text, .slice (some ⟨g8, 0, none⟩) N (N + 3), .int .i64 v.elem] 25 (0, 0))) ∧ (W15.heap[x9]? = some (.cells #[.pointer (some ⟨bp, 0, none⟩)] 39 (0, 0))) ∧ (W15.heap[xa]? = some (.cells #[.int .i64 v.kind, .int .u64 v.num, .string v.text, ua, .int .i64 v.elem] 25 (0, 0))) ∧ (VO W15 W11.heap.size v ua FA) ∧ (W15.heap[x13]? = some (.cells #[.func (.func 53) #[] #[.pointer (some ⟨xa, 0, none⟩)]] 45 (0, 0))) ∧ (BkIn W15 W3.heap.size bp vl2 vs2 (BkQ vs2)) ∧ (W15.heap[x15]? = some (.cells #[.int .i64 0] 3 (0, 0)))) := Lib.hid ((And.intro (HM19.out.1.trans (hb.mono HM19.out.1.size)) (And.intro ((hb.block _ (Array.getElem?_eq_some_iff.1 HM19.out.2.1).1).trans HM19.out.2.1) (And.intro ((hb.block _ (Array.getElem?_eq_some_iff.1 HM19.out.2.2.1).1).trans HM19.out.2.2.1) (And.intro (HM19.out.2.2.2.1.blw hb) (And.intro (HM19.out.2.2.2.2.1.trans (hb.mono HM19.out.2.2.2.2.1.size)) (And.intro ((hb.block _ (Array.getElem?_eq_some_iff.1 HM19.out.2.2.2.2.2.1).1).trans HM19.out.2.2.2.2.2.1) (And.intro ((hb.block _ (Array.getElem?_eq_some_iff.1 HM19.out.2.2.2.2.2.2.1).1).trans HM19.out.2.2.2.2.2.2.1) (And.intro ((hb.block _ (Array.getElem?_eq_some_iff.1 HM19.out.2.2.2.2.2.2.2.1).1).trans HM19.out.2.2.2.2.2.2.2.1) (And.intro ((hb.block _ (Array.getElem?_eq_some_iff.1 HM19.out.2.2.2.2.2.2.2.2.1).1).trans HM19.out.2.2.2.2.2.2.2.2.1) (And.intro (HM19.out.2.2.2.2.2.2.2.2.2.1.blw hb) (And.intro ((hb.block _ (Array.getElem?_eq_some_iff.1 HM19.out.2.2.2.2.2.2.2.2.2.2.1).1).trans HM19.out.2.2.2.2.2.2.2.2.2.2.1) (And.intro (HM19.out.2.2.2.2.2.2.2.2.2.2.2.below hb) ox15)))))))))))))
  clear HM19
  clear hb ox15
  have q := HM20.out.2.2.2.2.2.2.2.2.2.2.1
  have x13_0 : W15.cell? ⟨x13, 0, none⟩ = some (.func (.func 53) #[] #[.pointer (some ⟨xa, 0, none⟩)]) := (cell_of_row _ _ 0 _ _ _ q).trans rfl
  clear q
  go_wp2_with fail
  clear x13_0
  have f_bel := HM20.out.1
  have f_res := HM20.out.2.2.1
  have f_TO := HM20.out.2.2.2.1
  have f_blT := HM20.out.2.2.2.2.1
  have f_x7 := HM20.out.2.2.2.2.2.1
  have f_x9 := HM20.out.2.2.2.2.2.2.2.1
  have f_xa := HM20.out.2.2.2.2.2.2.2.2.1
  have f_VA := HM20.out.2.2.2.2.2.2.2.2.2.1
  have f_x13 := HM20.out.2.2.2.2.2.2.2.2.2.2.1
  have f_BK := HM20.out.2.2.2.2.2.2.2.2.2.2.2.1
  have f_x15 := HM20.out.2.2.2.2.2.2.2.2.2.2.2.2
  have hG0 : GoI W3 W15 bp x15 vs2.length (BkQ vs2) (v.pre 1) 0 (fun j => j = x15 ∨ j = bp ∨ vl2.ownBlock = some j ∨ BkQ vs2 j) W15 vl2 vs2 := by
    refine ⟨rfl, f_BK, by simp [cost], f_x15, BkMvR.refl _ _, Below.refl _ _, ⟨?_, ?_, ?_⟩, ⟨by have z0 := HX_x2.out; have z1 := HZw.out; have z2 := HZ1.out; have z3 := HZ2.out; have z4 := HZ3.out; have z5 := HZ4.out; have z6 := HX_x7.out; have z7 := HLT_x7.out; have z8 := HZ5.out; have z9 := HZ6.out; have z10 := HX_x8.out; have z11 := HLT_x8.out; have z12 := HZ7.out; have z13 := HX_bp.out; have z14 := HX_x9.out; have z15 := HZ_x9.out; have z16 := HZ8.out; have z17 := HZ9.out; have z18 := HZ10.out; have z19 := HZ12.out; have z20 := HZA.out.1; have z21 := HZA.out.2; have z22 := HZ13.out; have z23 := HX_x13.out; have z24 := HLT_x13.out; have z25 := HZ14.out; have z26 := HZ17.out; have z27 := HX_x15.out; have z28 := HLT_x15.out; have z29 := HZ19.out; omega, by have z0 := HX_x2.out; have z1 := HZw.out; have z2 := HZ1.out; have z3 := HZ2.out; have z4 := HZ3.out; have z5 := HZ4.out; have z6 := HX_x7.out; have z7 := HLT_x7.out; have z8 := HZ5.out; have z9 := HZ6.out; have z10 := HX_x8.out; have z11 := HLT_x8.out; have z12 := HZ7.out; have z13 := HX_bp.out; have z14 := HX_x9.out; have z15 := HZ_x9.out; have z16 := HZ8.out; have z17 := HZ9.out; have z18 := HZ10.out; have z19 := HZ12.out; have z20 := HZA.out.1; have z21 := HZA.out.2; have z22 := HZ13.out; have z23 := HX_x13.out; have z24 := HLT_x13.out; have z25 := HZ14.out; have z26 := HZ17.out; have z27 := HX_x15.out; have z28 := HLT_x15.out; have z29 := HZ19.out; omega⟩, fun g hg => .inl hg⟩
    · have z0 := HX_x2.out; have z1 := HZw.out; have z2 := HZ1.out; have z3 := HZ2.out; have z4 := HZ3.out; have z5 := HZ4.out; have z6 := HX_x7.out; have z7 := HLT_x7.out; have z8 := HZ5.out; have z9 := HZ6.out; have z10 := HX_x8.out; have z11 := HLT_x8.out; have z12 := HZ7.out; have z13 := HX_bp.out; have z14 := HX_x9.out; have z15 := HZ_x9.out; have z16 := HZ8.out; have z17 := HZ9.out; have z18 := HZ10.out; have z19 := HZ12.out; have z20 := HZA.out.1; have z21 := HZA.out.2; have z22 := HZ13.out; have z23 := HX_x13.out; have z24 := HLT_x13.out; have z25 := HZ14.out; have z26 := HZ17.out; have z27 := HX_x15.out; have z28 := HLT_x15.out; have z29 := HZ19.out; omega
    · intro e; have := (HBK2.out.1.row.lt x15 e).2; have z0 := HX_x2.out; have z1 := HZw.out; have z2 := HZ1.out; have z3 := HZ2.out; have z4 := HZ3.out; have z5 := HZ4.out; have z6 := HX_x7.out; have z7 := HLT_x7.out; have z8 := HZ5.out; have z9 := HZ6.out; have z10 := HX_x8.out; have z11 := HLT_x8.out; have z12 := HZ7.out; have z13 := HX_bp.out; have z14 := HX_x9.out; have z15 := HZ_x9.out; have z16 := HZ8.out; have z17 := HZ9.out; have z18 := HZ10.out; have z19 := HZ12.out; have z20 := HZA.out.1; have z21 := HZA.out.2; have z22 := HZ13.out; have z23 := HX_x13.out; have z24 := HLT_x13.out; have z25 := HZ14.out; have z26 := HZ17.out; have z27 := HX_x15.out; have z28 := HLT_x15.out; have z29 := HZ19.out; omega
    · intro e; have := (HBK2.out.1.qlt e).2; have z0 := HX_x2.out; have z1 := HZw.out; have z2 := HZ1.out; have z3 := HZ2.out; have z4 := HZ3.out; have z5 := HZ4.out; have z6 := HX_x7.out; have z7 := HLT_x7.out; have z8 := HZ5.out; have z9 := HZ6.out; have z10 := HX_x8.out; have z11 := HLT_x8.out; have z12 := HZ7.out; have z13 := HX_bp.out; have z14 := HX_x9.out; have z15 := HZ_x9.out; have z16 := HZ8.out; have z17 := HZ9.out; have z18 := HZ10.out; have z19 := HZ12.out; have z20 := HZA.out.1; have z21 := HZA.out.2; have z22 := HZ13.out; have z23 := HX_x13.out; have z24 := HLT_x13.out; have z25 := HZ14.out; have z26 := HZ17.out; have z27 := HX_x15.out; have z28 := HLT_x15.out; have z29 := HZ19.out; omega
  refine wp_range_allL (x := xa) (v := v) (s := ua) (F0 := FA) rfl rfl f_xa f_VA (by have := HW.out; omega) (fun k O W => (∃ vl' vs', GoI W3 W15 bp x15 vs2.length (BkQ vs2) (v.pre 1) k O W vl' vs') ∧ k < 40) (fun c O W => c = .exit 0 ∧ OuX W3 W15 bp x15 vs2.length (BkQ vs2) (v.pre 1) O W) (fun j => j = x15 ∨ j = bp ∨ vl2.ownBlock = some j ∨ BkQ vs2 j) ?_ ?_ ?_ ?_ ?_ ?_ ?_ ?_
  · rintro k O W ⟨⟨vl', vs', hG⟩, hk⟩ j hj
    have h1 := f_VA.isVal j hj
    exact hG.mv.oth j h1.lt h1.notBk (fun e => by have := (HIN_FA.out j hj).2; have z0 := HX_x2.out; have z1 := HZw.out; have z2 := HZ1.out; have z3 := HZ2.out; have z4 := HZ3.out; have z5 := HZ4.out; have z6 := HX_x7.out; have z7 := HLT_x7.out; have z8 := HZ5.out; have z9 := HZ6.out; have z10 := HX_x8.out; have z11 := HLT_x8.out; have z12 := HZ7.out; have z13 := HX_bp.out; have z14 := HX_x9.out; have z15 := HZ_x9.out; have z16 := HZ8.out; have z17 := HZ9.out; have z18 := HZ10.out; have z19 := HZ12.out; have z20 := HZA.out.1; have z21 := HZA.out.2; have z22 := HZ13.out; have z23 := HX_x13.out; have z24 := HLT_x13.out; have z25 := HZ14.out; have z26 := HZ17.out; have z27 := HX_x15.out; have z28 := HLT_x15.out; have z29 := HZ19.out; omega)
  · rintro k O W ⟨⟨vl', vs', hG⟩, hk⟩
    exact hG.lt
  · rintro k O W W' d ⟨⟨vl', vs', hG⟩, hk⟩ hg hd hO
    exact ⟨⟨vl', vs', hG.turn hg hd hO⟩, hk⟩
  · rintro cc O W W' d ⟨rfl, vl', vs', hk, hG⟩ hg hd hO
    exact ⟨rfl, vl', vs', hk, hG.turn hg hd hO⟩
  · exact ⟨⟨_, _, hG0⟩, by omega⟩
  · rintro K k O d z t F W W' hKl hrd ⟨⟨vl', vs', hG⟩, hk⟩ n1 n2 hz hL hbw hzo
    have hzt := pre_wt v 1 (d, z) (List.mem_of_getElem? hL)
    simp only at hzt
    refine round_outer K hKl W3 W15 W' bp x15 x7 x9 x13 xa vs2.length bt nL ct W11.heap.size v ua FA k d z _ W.heap.size O F (BkQ vs2) vl' vs' _ _ _ _ _ _ _ _ _ _ _ _ _ _ _ _ _ _ _ _ _ _ _ _ _ _ _ _ _ _ _ _ _ _ _ _ _ _ _ _ _ _ _ _ _ _ _ _ _ _ _ _ _ _ _ _ _ _ _ _ _ _ _ _ _ _ _ _ _ _ _ _ _ _ _ _ _ _ _ _ _ _ _ _ _ _ _ _ _ _ _ _ _ _ _ _ _ _ _ _ _ _ _ _ _ _ _ _ _ _ _ _ _ _ _ _ _ _ _ _ _ _ _ _ _ _ _ _ _ _ _ _ _ _ _ _ _ _ _ _ _ _ _ _ _ _ _ _ _ _ _ _ _ _ _ _ _ _ _ _ _ _ _ _ _ _ _ _ _ _ _ _ _ _ _ _ _ _ _ (by kernel_rfl) hrd (hG.blw' hbw) hk hL hzo (fun g q => ⟨?_, fun q2 => ?_⟩) (by have := HW.out; omega) (by have h3 := HCO.out; have h4 := HBK2.out.2; have h5 := HBK1.out.2; simp only [List.length_nil] at h5; omega) f_blT f_TO HNL.out f_x7 f_x9 f_x13 f_xa f_VA (by have z0 := HX_x2.out; have z1 := HZw.out; have z2 := HZ1.out; have z3 := HZ2.out; have z4 := HZ3.out; have z5 := HZ4.out; have z6 := HX_x7.out; have z7 := HLT_x7.out; have z8 := HZ5.out; have z9 := HZ6.out; have z10 := HX_x8.out; have z11 := HLT_x8.out; have z12 := HZ7.out; have z13 := HX_bp.out; have z14 := HX_x9.out; have z15 := HZ_x9.out; have z16 := HZ8.out; have z17 := HZ9.out; have z18 := HZ10.out; have z19 := HZ12.out; have z20 := HZA.out.1; have z21 := HZA.out.2; have z22 := HZ13.out; have z23 := HX_x13.out; have z24 := HLT_x13.out; have z25 := HZ14.out; have z26 := HZ17.out; have z27 := HX_x15.out; have z28 := HLT_x15.out; have z29 := HZ19.out; omega) (by have := HW.out; omega) (fun q => by have := (HIN_FA.out _ q).2; have z0 := HX_x2.out; have z1 := HZw.out; have z2 := HZ1.out; have z3 := HZ2.out; have z4 := HZ3.out; have z5 := HZ4.out; have z6 := HX_x7.out; have z7 := HLT_x7.out; have z8 := HZ5.out; have z9 := HZ6.out; have z10 := HX_x8.out; have z11 := HLT_x8.out; have z12 := HZ7.out; have z13 := HX_bp.out; have z14 := HX_x9.out; have z15 := HZ_x9.out; have z16 := HZ8.out; have z17 := HZ9.out; have z18 := HZ10.out; have z19 := HZ12.out; have z20 := HZA.out.1; have z21 := HZA.out.2; have z22 := HZ13.out; have z23 := HX_x13.out; have z24 := HLT_x13.out; have z25 := HZ14.out; have z26 := HZ17.out; have z27 := HX_x15.out; have z28 := HLT_x15.out; have z29 := HZ19.out; omega) f_x15 hz (Nat.le_trans hz hbw.size) rfl rfl n1 n2
    · have := (hzo.lt g q).1; omega
    · have := (hzo.lt g q).1; have := hG.lt g q2; omega
  · rintro O W ⟨⟨vl', vs', hG⟩, hk40⟩ hD hO
    have hkn := HNL.out
    (try simp only [Exit.inBlock, Exit.then, ↓reduceIte])
    have hlt15 := (Array.getElem?_eq_some_iff.1 f_x15).1
    have hcell : ∀ {j T : Nat} {cs : Array Value} {fr : Nat × Nat}, W15.heap[j]? = some (.cells cs T fr) → T ≠ 42 → T ≠ 23 → j ≠ x15 → W.heap[j]? = some (.cells cs T fr) := by
      intro j T cs fr hj h1 h2 h3
      refine (hG.mv.oth j (Array.getElem?_eq_some_iff.1 hj).1 ?_ h3).trans hj
      rintro (⟨x, y, q⟩ | ⟨x, y, q⟩)
      · rw [hj] at q; simp at q; exact h1 q.2.1
      · rw [hj] at q; simp at q; exact h2 q.2.1
    have hqn : ∀ j : Nat, BkQ vs' j → ∃ cs fr, W.heap[j]? = some (.cells cs 25 fr) := by
      rintro j ⟨i, hi, q⟩
      obtain ⟨n, xs, e, _⟩ := hG.bk.has i hi
      exact ownsRow_type e q
    have h9 := hcell f_x9 (by decide) (by decide) (by have z0 := HX_x2.out; have z1 := HZw.out; have z2 := HZ1.out; have z3 := HZ2.out; have z4 := HZ3.out; have z5 := HZ4.out; have z6 := HX_x7.out; have z7 := HLT_x7.out; have z8 := HZ5.out; have z9 := HZ6.out; have z10 := HX_x8.out; have z11 := HLT_x8.out; have z12 := HZ7.out; have z13 := HX_bp.out; have z14 := HX_x9.out; have z15 := HZ_x9.out; have z16 := HZ8.out; have z17 := HZ9.out; have z18 := HZ10.out; have z19 := HZ12.out; have z20 := HZA.out.1; have z21 := HZA.out.2; have z22 := HZ13.out; have z23 := HX_x13.out; have z24 := HLT_x13.out; have z25 := HZ14.out; have z26 := HZ17.out; have z27 := HX_x15.out; have z28 := HLT_x15.out; have z29 := HZ19.out; omega)
    have h7 := hcell f_x7 (by decide) (by decide) (by have z0 := HX_x2.out; have z1 := HZw.out; have z2 := HZ1.out; have z3 := HZ2.out; have z4 := HZ3.out; have z5 := HZ4.out; have z6 := HX_x7.out; have z7 := HLT_x7.out; have z8 := HZ5.out; have z9 := HZ6.out; have z10 := HX_x8.out; have z11 := HLT_x8.out; have z12 := HZ7.out; have z13 := HX_bp.out; have z14 := HX_x9.out; have z15 := HZ_x9.out; have z16 := HZ8.out; have z17 := HZ9.out; have z18 := HZ10.out; have z19 := HZ12.out; have z20 := HZA.out.1; have z21 := HZA.out.2; have z22 := HZ13.out; have z23 := HX_x13.out; have z24 := HLT_x13.out; have z25 := HZ14.out; have z26 := HZ17.out; have z27 := HX_x15.out; have z28 := HLT_x15.out; have z29 := HZ19.out; omega)
    have hre := hcell f_res (by decide) (by decide) (by have z0 := HX_x2.out; have z1 := HZw.out; have z2 := HZ1.out; have z3 := HZ2.out; have z4 := HZ3.out; have z5 := HZ4.out; have z6 := HX_x7.out; have z7 := HLT_x7.out; have z8 := HZ5.out; have z9 := HZ6.out; have z10 := HX_x8.out; have z11 := HLT_x8.out; have z12 := HZ7.out; have z13 := HX_bp.out; have z14 := HX_x9.out; have z15 := HZ_x9.out; have z16 := HZ8.out; have z17 := HZ9.out; have z18 := HZ10.out; have z19 := HZ12.out; have z20 := HZA.out.1; have z21 := HZA.out.2; have z22 := HZ13.out; have z23 := HX_x13.out; have z24 := HLT_x13.out; have z25 := HZ14.out; have z26 := HZ17.out; have z27 := HX_x15.out; have z28 := HLT_x15.out; have z29 := HZ19.out; omega)
    have c9 : W.cell? ⟨x9, 0, none⟩ = some (.pointer (some ⟨bp, 0, none⟩)) := (cell_of_row _ _ 0 _ _ _ h9).trans rfl
    have hlen : vs'.length ≤ 40000000 := by have h1 := hG.len; have h2 := cost_take (v.pre 1) (v.pre 1).length; have h3 := HCO.out; have h4 := HBK2.out.2; have h5 := HBK1.out.2; simp only [List.length_nil] at h5; omega
    have HC := Lib.hid (owned_any W W3.heap.size bp vl' vs' _ hG.bk hlen)
    have HG := Lib.hid (And.intro hG (And.intro hD (And.intro h7 (And.intro hre (And.intro f_bel f_blT)))))
    have HQN := Lib.hid hqn
    have HL := Lib.hid (show w.heap.size ≤ W15.heap.size ∧ x2 + 1 < W15.heap.size ∧ w.heap.size ≤ x2 + 1 ∧ W3.heap.size ≤ W15.heap.size from ⟨f_bel.size, by have z0 := HX_x2.out; have z1 := HZw.out; have z2 := HZ1.out; have z3 := HZ2.out; have z4 := HZ3.out; have z5 := HZ4.out; have z6 := HX_x7.out; have z7 := HLT_x7.out; have z8 := HZ5.out; have z9 := HZ6.out; have z10 := HX_x8.out; have z11 := HLT_x8.out; have z12 := HZ7.out; have z13 := HX_bp.out; have z14 := HX_x9.out; have z15 := HZ_x9.out; have z16 := HZ8.out; have z17 := HZ9.out; have z18 := HZ10.out; have z19 := HZ12.out; have z20 := HZA.out.1; have z21 := HZA.out.2; have z22 := HZ13.out; have z23 := HX_x13.out; have z24 := HLT_x13.out; have z25 := HZ14.out; have z26 := HZ17.out; have z27 := HX_x15.out; have z28 := HLT_x15.out; have z29 := HZ19.out; omega, by have z0 := HX_x2.out; have z1 := HZw.out; have z2 := HZ1.out; have z3 := HZ2.out; have z4 := HZ3.out; have z5 := HZ4.out; have z6 := HX_x7.out; have z7 := HLT_x7.out; have z8 := HZ5.out; have z9 := HZ6.out; have z10 := HX_x8.out; have z11 := HLT_x8.out; have z12 := HZ7.out; have z13 := HX_bp.out; have z14 := HX_x9.out; have z15 := HZ_x9.out; have z16 := HZ8.out; have z17 := HZ9.out; have z18 := HZ10.out; have z19 := HZ12.out; have z20 := HZA.out.1; have z21 := HZA.out.2; have z22 := HZ13.out; have z23 := HX_x13.out; have z24 := HLT_x13.out; have z25 := HZ14.out; have z26 := HZ17.out; have z27 := HX_x15.out; have z28 := HLT_x15.out; have z29 := HZ19.out; omega, f_blT.size⟩)
    have HK := Lib.hid hkn
    clear hG hD hO hcell hqn h9 h7 hre hlen f_bel f_res f_TO f_blT f_x7 f_x9 f_xa f_VA f_x13 f_BK f_x15 hlt15 hkn
    try go_at_K
    go_wp2_with fail
    refine HC.out.mono ?_
    clear c9
    rintro e W2 ⟨rfl, ho⟩
    have hk := BkIn.keepQ HG.out.1.bk ho
    have hc2 : ∀ {j T : Nat} {cs : Array Value} {fr : Nat × Nat}, W.heap[j]? = some (.cells cs T fr) → T ≠ 25 → W2.heap[j]? = some (.cells cs T fr) := by
      intro j T cs fr hj hT
      refine (hk.block j (Array.getElem?_eq_some_iff.1 hj).1 (fun q => ?_)).trans hj
      obtain ⟨c, f, q⟩ := HQN.out _ q
      rw [hj] at q; simp at q; exact hT q.2.1
    have h7 := hc2 HG.out.2.2.1 (by decide)
    have hre := hc2 HG.out.2.2.2.1 (by decide)
    have h15 := hc2 HG.out.1.cell (by decide)
    have c15 : W2.cell? ⟨x15, 0, none⟩ = some (.int .i64 nL) := (cell_of_row _ _ 0 _ _ _ h15).trans (by rw [HNL.out]; rfl)
    have c7 : W2.cell? ⟨x7, 0, none⟩ = some (.slice (some ⟨bt, 0, none⟩) nL ct) := (cell_of_row _ _ 0 _ _ _ h7).trans rfl
    have cre : W2.cell? ⟨x2 + 1, 0, none⟩ = some (.bool false) := (cell_of_row _ _ 0 _ _ _ hre).trans rfl
    have fre : W2.frozen? ⟨x2 + 1, 0, none⟩ = false := by simp [World.frozen?, hre]
    have hD2 : W2.heap[W15.heap.size]? = some (.deferred (some [])) := (hk.block _ (Array.getElem?_eq_some_iff.1 HG.out.2.1).1 (fun q => by
      obtain ⟨c, f, q⟩ := HQN.out _ q
      rw [HG.out.2.1] at q; simp at q)).trans HG.out.2.1
    have hbl : Below w.heap.size w W2 := HG.out.2.2.2.2.1.trans ((KeepF.below HG.out.1.blw hk (fun j q => (HG.out.1.bk.qlt q).1) (by have h1 := HG.out.1.mv.size; have h2 := HL.out.2.2.2; omega)).mono HWT0.out)
    have HE := Lib.hid (And.intro hD2 (And.intro hre hbl))
    have hkl := HK.out
    clear ho hk hc2 h7 hre h15 hD2 hbl
    have hlt : nL < 40 := by rw [← hkl]; exact hk40
    have hmin : min (40 : Int) nL = nL := by omega
    clear hkl hk40
    go_wp2_with fail
    refine leaves_cells (Ds := [W15.heap.size]) (by simp) (fun D hd => by rw [List.mem_singleton] at hd; subst hd; exact HE.out.1) HE.out.2.1 rfl rfl (fun W' q1 q2 q3 q4 q5 => ⟨rfl, below_same HE.out.2.2 q1 (fun j hj => q2 j (by have := HL.out.1; simp; omega) (by have := HL.out.2.2.1; omega)) q3 q4 q5⟩)
  · rintro cc O W ⟨rfl, vl', vs', hk40, hG⟩ hD hO
    have hkn := HNL.out
    (try simp only [Exit.inBlock, Exit.then, ↓reduceIte])
    have hlt15 := (Array.getElem?_eq_some_iff.1 f_x15).1
    have hcell : ∀ {j T : Nat} {cs : Array Value} {fr : Nat × Nat}, W15.heap[j]? = some (.cells cs T fr) → T ≠ 42 → T ≠ 23 → j ≠ x15 → W.heap[j]? = some (.cells cs T fr) := by
      intro j T cs fr hj h1 h2 h3
      refine (hG.mv.oth j (Array.getElem?_eq_some_iff.1 hj).1 ?_ h3).trans hj
      rintro (⟨x, y, q⟩ | ⟨x, y, q⟩)
      · rw [hj] at q; simp at q; exact h1 q.2.1
      · rw [hj] at q; simp at q; exact h2 q.2.1
    have hqn : ∀ j : Nat, BkQ vs' j → ∃ cs fr, W.heap[j]? = some (.cells cs 25 fr) := by
      rintro j ⟨i, hi, q⟩
      obtain ⟨n, xs, e, _⟩ := hG.bk.has i hi
      exact ownsRow_type e q
    have h9 := hcell f_x9 (by decide) (by decide) (by have z0 := HX_x2.out; have z1 := HZw.out; have z2 := HZ1.out; have z3 := HZ2.out; have z4 := HZ3.out; have z5 := HZ4.out; have z6 := HX_x7.out; have z7 := HLT_x7.out; have z8 := HZ5.out; have z9 := HZ6.out; have z10 := HX_x8.out; have z11 := HLT_x8.out; have z12 := HZ7.out; have z13 := HX_bp.out; have z14 := HX_x9.out; have z15 := HZ_x9.out; have z16 := HZ8.out; have z17 := HZ9.out; have z18 := HZ10.out; have z19 := HZ12.out; have z20 := HZA.out.1; have z21 := HZA.out.2; have z22 := HZ13.out; have z23 := HX_x13.out; have z24 := HLT_x13.out; have z25 := HZ14.out; have z26 := HZ17.out; have z27 := HX_x15.out; have z28 := HLT_x15.out; have z29 := HZ19.out; omega)
    have h7 := hcell f_x7 (by decide) (by decide) (by have z0 := HX_x2.out; have z1 := HZw.out; have z2 := HZ1.out; have z3 := HZ2.out; have z4 := HZ3.out; have z5 := HZ4.out; have z6 := HX_x7.out; have z7 := HLT_x7.out; have z8 := HZ5.out; have z9 := HZ6.out; have z10 := HX_x8.out; have z11 := HLT_x8.out; have z12 := HZ7.out; have z13 := HX_bp.out; have z14 := HX_x9.out; have z15 := HZ_x9.out; have z16 := HZ8.out; have z17 := HZ9.out; have z18 := HZ10.out; have z19 := HZ12.out; have z20 := HZA.out.1; have z21 := HZA.out.2; have z22 := HZ13.out; have z23 := HX_x13.out; have z24 := HLT_x13.out; have z25 := HZ14.out; have z26 := HZ17.out; have z27 := HX_x15.out; have z28 := HLT_x15.out; have z29 := HZ19.out; omega)
    have hre := hcell f_res (by decide) (by decide) (by have z0 := HX_x2.out; have z1 := HZw.out; have z2 := HZ1.out; have z3 := HZ2.out; have z4 := HZ3.out; have z5 := HZ4.out; have z6 := HX_x7.out; have z7 := HLT_x7.out; have z8 := HZ5.out; have z9 := HZ6.out; have z10 := HX_x8.out; have z11 := HLT_x8.out; have z12 := HZ7.out; have z13 := HX_bp.out; have z14 := HX_x9.out; have z15 := HZ_x9.out; have z16 := HZ8.out; have z17 := HZ9.out; have z18 := HZ10.out; have z19 := HZ12.out; have z20 := HZA.out.1; have z21 := HZA.out.2; have z22 := HZ13.out; have z23 := HX_x13.out; have z24 := HLT_x13.out; have z25 := HZ14.out; have z26 := HZ17.out; have z27 := HX_x15.out; have z28 := HLT_x15.out; have z29 := HZ19.out; omega)
    have c9 : W.cell? ⟨x9, 0, none⟩ = some (.pointer (some ⟨bp, 0, none⟩)) := (cell_of_row _ _ 0 _ _ _ h9).trans rfl
    have hlen : vs'.length ≤ 40000000 := by have h1 := hG.len; have h2 := cost_take (v.pre 1) 40; have h3 := HCO.out; have h4 := HBK2.out.2; have h5 := HBK1.out.2; simp only [List.length_nil] at h5; omega
    have HC := Lib.hid (owned_any W W3.heap.size bp vl' vs' _ hG.bk hlen)
    have HG := Lib.hid (And.intro hG (And.intro hD (And.intro h7 (And.intro hre (And.intro f_bel f_blT)))))
    have HQN := Lib.hid hqn
    have HL := Lib.hid (show w.heap.size ≤ W15.heap.size ∧ x2 + 1 < W15.heap.size ∧ w.heap.size ≤ x2 + 1 ∧ W3.heap.size ≤ W15.heap.size from ⟨f_bel.size, by have z0 := HX_x2.out; have z1 := HZw.out; have z2 := HZ1.out; have z3 := HZ2.out; have z4 := HZ3.out; have z5 := HZ4.out; have z6 := HX_x7.out; have z7 := HLT_x7.out; have z8 := HZ5.out; have z9 := HZ6.out; have z10 := HX_x8.out; have z11 := HLT_x8.out; have z12 := HZ7.out; have z13 := HX_bp.out; have z14 := HX_x9.out; have z15 := HZ_x9.out; have z16 := HZ8.out; have z17 := HZ9.out; have z18 := HZ10.out; have z19 := HZ12.out; have z20 := HZA.out.1; have z21 := HZA.out.2; have z22 := HZ13.out; have z23 := HX_x13.out; have z24 := HLT_x13.out; have z25 := HZ14.out; have z26 := HZ17.out; have z27 := HX_x15.out; have z28 := HLT_x15.out; have z29 := HZ19.out; omega, by have z0 := HX_x2.out; have z1 := HZw.out; have z2 := HZ1.out; have z3 := HZ2.out; have z4 := HZ3.out; have z5 := HZ4.out; have z6 := HX_x7.out; have z7 := HLT_x7.out; have z8 := HZ5.out; have z9 := HZ6.out; have z10 := HX_x8.out; have z11 := HLT_x8.out; have z12 := HZ7.out; have z13 := HX_bp.out; have z14 := HX_x9.out; have z15 := HZ_x9.out; have z16 := HZ8.out; have z17 := HZ9.out; have z18 := HZ10.out; have z19 := HZ12.out; have z20 := HZA.out.1; have z21 := HZA.out.2; have z22 := HZ13.out; have z23 := HX_x13.out; have z24 := HLT_x13.out; have z25 := HZ14.out; have z26 := HZ17.out; have z27 := HX_x15.out; have z28 := HLT_x15.out; have z29 := HZ19.out; omega, f_blT.size⟩)
    have HK := Lib.hid hkn
    clear hG hD hO hcell hqn h9 h7 hre hlen f_bel f_res f_TO f_blT f_x7 f_x9 f_xa f_VA f_x13 f_BK f_x15 hlt15 hkn
    try go_at_K
    go_wp2_with fail
    refine HC.out.mono ?_
    clear c9
    rintro e W2 ⟨rfl, ho⟩
    have hk := BkIn.keepQ HG.out.1.bk ho
    have hc2 : ∀ {j T : Nat} {cs : Array Value} {fr : Nat × Nat}, W.heap[j]? = some (.cells cs T fr) → T ≠ 25 → W2.heap[j]? = some (.cells cs T fr) := by
      intro j T cs fr hj hT
      refine (hk.block j (Array.getElem?_eq_some_iff.1 hj).1 (fun q => ?_)).trans hj
      obtain ⟨c, f, q⟩ := HQN.out _ q
      rw [hj] at q; simp at q; exact hT q.2.1
    have h7 := hc2 HG.out.2.2.1 (by decide)
    have hre := hc2 HG.out.2.2.2.1 (by decide)
    have h15 := hc2 HG.out.1.cell (by decide)
    have c15 : W2.cell? ⟨x15, 0, none⟩ = some (.int .i64 40) := (cell_of_row _ _ 0 _ _ _ h15).trans rfl
    have c7 : W2.cell? ⟨x7, 0, none⟩ = some (.slice (some ⟨bt, 0, none⟩) nL ct) := (cell_of_row _ _ 0 _ _ _ h7).trans rfl
    have cre : W2.cell? ⟨x2 + 1, 0, none⟩ = some (.bool false) := (cell_of_row _ _ 0 _ _ _ hre).trans rfl
    have fre : W2.frozen? ⟨x2 + 1, 0, none⟩ = false := by simp [World.frozen?, hre]
    have hD2 : W2.heap[W15.heap.size]? = some (.deferred (some [])) := (hk.block _ (Array.getElem?_eq_some_iff.1 HG.out.2.1).1 (fun q => by
      obtain ⟨c, f, q⟩ := HQN.out _ q
      rw [HG.out.2.1] at q; simp at q)).trans HG.out.2.1
    have hbl : Below w.heap.size w W2 := HG.out.2.2.2.2.1.trans ((KeepF.below HG.out.1.blw hk (fun j q => (HG.out.1.bk.qlt q).1) (by have h1 := HG.out.1.mv.size; have h2 := HL.out.2.2.2; omega)).mono HWT0.out)
    have HE := Lib.hid (And.intro hD2 (And.intro hre hbl))
    have hkl := HK.out
    clear ho hk hc2 h7 hre h15 hD2 hbl
    have hlt : 40 ≤ nL := by rw [← hkl]; exact hk40
    have hmin : min (40 : Int) nL = 40 := by omega
    clear hkl hk40
    go_wp2_with fail
    refine leaves_cells (Ds := [W15.heap.size]) (by simp) (fun D hd => by rw [List.mem_singleton] at hd; subst hd; exact HE.out.1) HE.out.2.1 rfl rfl (fun W' q1 q2 q3 q4 q5 => ⟨rfl, below_same HE.out.2.2 q1 (fun j hj => q2 j (by have := HL.out.1; simp; omega) (by have := HL.out.2.2.1; omega)) q3 q4 q5⟩)
end Go.Proofs.YtakbgekamjpibaaDoor
