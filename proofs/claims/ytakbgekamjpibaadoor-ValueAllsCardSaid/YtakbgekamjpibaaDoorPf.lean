/-
  goes: All tells what it must, and its parts come into the book. Conditions: the value, the list of what must be told lie in memory.
-/
import Derived.Test.YtakbgekamjpibaaDoorPe
import Derived.Test.YtakbgekamjpibaaDoorMg35
namespace Go.Proofs.YtakbgekamjpibaaDoor
open Go.RowKit
set_option linter.unusedVariables false

attribute [local go_sem] Oper.semAt_some

theorem alloc_at {w : World} {o x : Obj} {j : Nat} (h : w.heap[j]? = some x) : (w.alloc o).heap[j]? = some x := (_root_.Go.heap_alloc_old w o (Array.getElem?_eq_some_iff.1 h).1).trans h
theorem alloc_size (w : World) (o : Obj) : (w.alloc o).heap.size = w.heap.size + 1 := by simp
theorem alloc_new {w : World} {o : Obj} {n : Nat} (h : w.heap.size = n) : (w.alloc o).heap[n]? = some o := by subst h; exact _root_.Go.heap_alloc_new w o
theorem alloc5 (w : World) (a b c d e : Obj) : (((((w.alloc a).alloc b).alloc c).alloc d).alloc e).heap[w.heap.size]? = some a ∧ (((((w.alloc a).alloc b).alloc c).alloc d).alloc e).heap[w.heap.size + 1]? = some b ∧ (((((w.alloc a).alloc b).alloc c).alloc d).alloc e).heap[w.heap.size + 1 + 1]? = some c ∧ (((((w.alloc a).alloc b).alloc c).alloc d).alloc e).heap[w.heap.size + 1 + 1 + 1]? = some d ∧ (((((w.alloc a).alloc b).alloc c).alloc d).alloc e).heap[w.heap.size + 1 + 1 + 1 + 1]? = some e ∧ Below w.heap.size w (((((w.alloc a).alloc b).alloc c).alloc d).alloc e) ∧ (((((w.alloc a).alloc b).alloc c).alloc d).alloc e).heap.size = w.heap.size + 5 := by
  have z1 := alloc_size w a
  have z2 := alloc_size (w.alloc a) b
  have z3 := alloc_size ((w.alloc a).alloc b) c
  have z4 := alloc_size (((w.alloc a).alloc b).alloc c) d
  have z5 := alloc_size ((((w.alloc a).alloc b).alloc c).alloc d) e
  exact ⟨alloc_at (alloc_at (alloc_at (alloc_at (alloc_new rfl)))), alloc_at (alloc_at (alloc_at (alloc_new z1))), alloc_at (alloc_at (alloc_new (by omega))), alloc_at (alloc_new (by omega)), alloc_new (by omega),
    (((((Below.refl _ _).alloc (Nat.le_refl _) _).alloc (by omega) _).alloc (by omega) _).alloc (by omega) _).alloc (by omega) _, by omega⟩

theorem ownsRow_type {w : World} {B T k n : Nat} {v : Value} {xs : List Value} (h : w.ownsRow B T k v n xs) {g : Nat} (hg : v.ownBlock = some g) : ∃ cs fr, w.heap[g]? = some (.cells cs T fr) := by
  rcases h.2 with ⟨rfl, _⟩ | ⟨b, cap, cur, rfl, _, hb, _⟩
  · cases hg
  · simp only [Value.ownBlock, Option.some.injEq] at hg
    subst hg
    exact ⟨_, _, hb⟩
theorem GoI.notO {w0 wE W : World} {bp r m0 k : Nat} {Q0 O : Nat → Prop} {L : List (Int × V)} {vl : Value} {vs : List Value} (h : GoI w0 wE bp r m0 Q0 L k O W vl vs) {j T : Nat} {cs : Array Value} {fr : Nat × Nat} (hj : W.heap[j]? = some (.cells cs T fr)) (h1 : T ≠ 3) (h2 : T ≠ 42) (h3 : T ≠ 23) (h4 : T ≠ 25) : ¬ O j := by
  rw [h.hO]
  rintro (rfl | rfl | q | ⟨i, hi, q⟩)
  · have := h.cell; rw [hj] at this; simp at this; exact h1 this.2.1
  · have := h.bk.at_; rw [hj] at this; simp at this; exact h2 this.2.1
  · obtain ⟨a, b, e⟩ := ownsRow_type h.bk.row q; rw [hj] at e; simp at e; exact h3 e.2.1
  · obtain ⟨n, xs, e, _⟩ := h.bk.has i hi
    obtain ⟨a, b, e⟩ := ownsRow_type e q; rw [hj] at e; simp at e; exact h4 e.2.1
/-- a function with one range and its result in a cell ends -/
theorem leaves_cell {W : World} {D r k : Nat} {u0 : Value} {u : Bool} {fn : Func} {tm : Array Value} {R : Ending → World → Prop} (hD : W.heap[D]? = some (.deferred (some []))) (hr : W.heap[r]? = some (.cells #[u0] 4 (0, 0))) (ht : tm.getD k undef = .pointer (some ⟨r, 0, none⟩)) (hfn : fn.results = #[ResultVar.cell k 4])
    (h : ∀ W', W'.heap.size = W.heap.size → (∀ j, j ≠ D → j ≠ r → W'.heap[j]? = W.heap[j]?) → W'.os = W.os → W'.tape = W.tape → W'.output = W.output → R (.returned (.bool u)) W') :
    LeavesInM Fence.wide 5 Tryd.prog fn tm R [{ target := .collected D, args := #[] }] .returning (W.setCell ⟨r, 0, none⟩ (.bool u)) := by
  have g := setCell_grown W r 0 (.bool u)
  have s2 := heap_setCell_same W r 0 _ _ (.bool u) hr
  have hDr : D ≠ r := fun e => by rw [e, hr] at hD; simp at hD
  refine leaves_all [D] _ (by simp) (fun j hj => ?_) ?_
  · rw [List.mem_singleton] at hj
    subst hj
    exact (g.block j (Array.getElem?_eq_some_iff.1 hD).1 (fun e => hDr (Option.some.inj e))).trans hD
  · intro W' q1 q2 q3 q4 q5
    have s3 := (q2 r (by simp; exact fun e => hDr e.symm)).trans s2
    have c3 : W'.cell? ⟨r, 0, none⟩ = some (.bool u) := (cell_of_row _ _ 0 _ _ _ s3).trans rfl
    have ht' : tm[k]?.getD undef = .pointer (some ⟨r, 0, none⟩) := by simpa using ht
    refine ⟨.bool u, by simp [results, hfn, go_sem, c3, ht'], h W' (by rw [q1]; simp) (fun j h1 h2 => (q2 j (by simpa using h1)).trans (set_farV h2)) (q3.trans g.os) (q4.trans g.tape) (q5.trans g.output)⟩
/-- what goes leaves -/
def GoesTo (w0 w : World) (bp : Nat) (vs : List Value) (m : Nat) (e : Ending) (w' : World) : Prop :=
  e = .returned (.bool true) ∧ (∃ vl' vs', BkIn w' w0.heap.size bp vl' vs' (BkQ vs') ∧ vs'.length ≤ vs.length + m ∧ ∀ g, BkQ vs' g → BkQ vs g ∨ w.heap.size ≤ g) ∧ BkMv w w' ∧ Below w0.heap.size w w'
theorem GoI.done {w0 w wE W W' : World} {bp r rr D k : Nat} {O : Nat → Prop} {L : List (Int × V)} {vl' : Value} {vs vs' : List Value} (h : GoI w0 wE bp r vs.length (BkQ vs) L k O W vl' vs') (hw : Below w.heap.size w wE) (hw0 : w0.heap.size ≤ w.heap.size) (hr : w.heap.size ≤ r) (hD : ¬ O D) (hDE : wE.heap.size ≤ D) (hrr : w.heap.size ≤ rr) (hcr : ∃ cs, W.heap[rr]? = some (.cells cs 4 (0, 0)))
    (q1 : W'.heap.size = W.heap.size) (q2 : ∀ j, j ≠ D → j ≠ rr → W'.heap[j]? = W.heap[j]?) (q3 : W'.os = W.os) (q4 : W'.tape = W.tape) (q5 : W'.output = W.output) : GoesTo w0 w bp vs (cost L) (.returned (.bool true)) W' := by
  obtain ⟨cs, hcr⟩ := hcr
  have hnr := h.notO hcr (by decide) (by decide) (by decide) (by decide)
  have hO := h.hO
  have hmv := BkMvR.mv (BkMv.of_below hw) h.mv hr
  have hbl := (hw.mono hw0).trans h.blw
  refine ⟨rfl, ⟨vl', vs', h.bk.same (by rw [q1]; exact Nat.le_refl _) (fun g hg q => q2 g ?_ ?_), ?_, fun g hg => ?_⟩, ?_, ?_⟩
  · rintro rfl; refine hD ?_; rw [hO]
    rcases q with q | q | q
    · exact .inr (.inl q)
    · exact .inr (.inr (.inl q))
    · exact .inr (.inr (.inr q))
  · rintro rfl; refine hnr ?_; rw [hO]
    rcases q with q | q | q
    · exact .inr (.inl q)
    · exact .inr (.inr (.inl q))
    · exact .inr (.inr (.inr q))
  · have := h.len; have := cost_take L k; omega
  · have := hw.size
    rcases h.old g hg with q | q
    · exact .inl q
    · exact .inr (by omega)
  · have := hw.size
    exact ⟨q3.trans hmv.os, q4.trans hmv.tape, q5.trans hmv.output, by rw [q1]; exact hmv.size, fun g hg hn => (q2 g (by omega) (by omega)).trans (hmv.oth g hg hn)⟩
  · have := hw.size
    exact ⟨q3.trans hbl.os, q4.trans hbl.tape, q5.trans hbl.output, by rw [q1]; exact hbl.size, fun g hg => (q2 g (by omega) (by omega)).trans (hbl.block g hg)⟩

set_option maxRecDepth 20000 in
set_option maxHeartbeats 4000000 in
theorem goes_any (v : V) (w0 w : World) (s t : Value) (st : Int) (bp : Nat) (vl : Value) (vs : List Value) (h : VIn w v s) (hwt : v.wt ≤ 1000000) (hw0 : Below w0.heap.size w0 w) (hto : ToldIn w0 w t (v.pre 1)) (hbk : BkIn w w0.heap.size bp vl vs (BkQ vs)) (hm : vs.length + cost (v.pre 1) ≤ 40000000) :
    Calls Tryd.prog 28 #[.agg #[.int .i64 v.kind, .int .u64 v.num, .string v.text, s, .int .i64 v.elem], t, .int .i64 st, .pointer (some ⟨bp, 0, none⟩)] w (GoesTo w0 w bp vs (cost (v.pre 1))) := by
  obtain ⟨p, c, hs, _⟩ := h.slice
  obtain ⟨N, hN⟩ : ∃ N, v.list.length = N := ⟨_, rfl⟩
  rw [hN] at hs
  subst hs
  have HV := Lib.hid h
  obtain ⟨pt, ct, hst, hj1, hj2, hj3⟩ := hto.slice
  clear hj1 hj2 hj3
  obtain ⟨nL, hnL⟩ : ∃ nL, (v.pre 1).length = nL := ⟨_, rfl⟩
  rw [hnL] at hst
  subst hst
  have HNL := Lib.hid hnL
  clear hnL
  have HB := Lib.hid (And.intro hw0 (And.intro hto (And.intro hbk hm)))
  have hfn := func_nil
  clear h hN hw0 hto hbk hm
  refine calls_of_wp_marks Tryd.func28 rfl ?_
  simp only [Tryd.ntmps28, List.size_toArray, List.length_cons, List.length_nil, Nat.reduceAdd, Nat.reduceSub, Array.replicate_succ, Array.replicate_zero, List.push_toArray, List.append_toArray, List.nil_append, List.cons_append]
  go_upto_region 1 with fail
  obtain ⟨ox, ot, os, ob, ores, hb0, hz0⟩ := alloc5 w (.cells #[.int .i64 v.kind, .int .u64 v.num, .string v.text, (.slice p N c), .int .i64 v.elem] 25) (.cells #[.slice pt nL ct] 37) (.cells #[.int .i64 st] 3) (.cells #[.pointer (some ⟨bp, 0, none⟩)] 39) (.cells #[.bool false] 4)
  generalize (((((w.alloc (.cells #[.int .i64 v.kind, .int .u64 v.num, .string v.text, (.slice p N c), .int .i64 v.elem] 25)).alloc (.cells #[.slice pt nL ct] 37)).alloc (.cells #[.int .i64 st] 3)).alloc (.cells #[.pointer (some ⟨bp, 0, none⟩)] 39)).alloc (.cells #[.bool false] 4)) = w1 at *
  obtain ⟨x, hx⟩ : ∃ x, w.heap.size = x := ⟨_, rfl⟩
  rw [hx] at ox ot os ob ores hz0 ⊢
  have x0 : w1.cell? ⟨x, 0, none⟩ = some (.int .i64 v.kind) := (cell_of_row _ _ 0 _ _ _ ox).trans rfl
  have x1 : w1.cell? ⟨x, 1, none⟩ = some (.int .u64 v.num) := (cell_of_row _ _ 1 _ _ _ ox).trans rfl
  have x2 : w1.cell? ⟨x, 2, none⟩ = some (.string v.text) := (cell_of_row _ _ 2 _ _ _ ox).trans rfl
  have x3 : w1.cell? ⟨x, 3, none⟩ = some (.slice p N c) := (cell_of_row _ _ 3 _ _ _ ox).trans rfl
  have x4 : w1.cell? ⟨x, 4, none⟩ = some (.int .i64 v.elem) := (cell_of_row _ _ 4 _ _ _ ox).trans rfl
  have hc := all_any v w1 _ (HV.out.blw hb0) hwt
  have HC := Lib.hid hc
  have H1 := Lib.hid (And.intro hb0 (And.intro ot (And.intro os (And.intro ob (And.intro ores (And.intro hz0 hx))))))
  clear hb0 ox ot os ob ores hz0 hx hc
  go_wp2_with fail
  refine HC.out.mono ?_
  clear x0 x1 x2 x3 x4
  rintro e w3 ⟨xa, u, FA, rfl, hxa, hvoa, hFx, hza, hb3⟩
  have HO3 := Lib.hid (And.intro hxa (And.intro hvoa (And.intro hFx (And.intro hza hb3))))
  clear hxa hvoa hFx hza hb3
  go_upto_region 5 with fail
  have hb4 : Below w3.heap.size w3 (w3.alloc (.cells #[.int .i64 0] 3)) := (Below.refl _ _).alloc (Nat.le_refl _) _
  have or4 : (w3.alloc (.cells #[.int .i64 0] 3)).heap[w3.heap.size]? = some (.cells #[.int .i64 0] 3 (0, 0)) := _root_.Go.heap_alloc_new _ _
  generalize (w3.alloc (.cells #[.int .i64 0] 3)) = w4 at *
  obtain ⟨r, hr⟩ : ∃ r, w3.heap.size = r := ⟨_, rfl⟩
  rw [hr] at or4 ⊢
  have hrl := (Array.getElem?_eq_some_iff.1 or4).1
  go_wp2_with fail
  obtain ⟨hxa, hvoa, hFx, hza, hb3⟩ := HO3.out
  obtain ⟨hb0, ot, os, ob, ores, hz0, hx⟩ := H1.out
  obtain ⟨hw0, hto, hbk, hm⟩ := HB.out
  have hxa4 := (hb4.block xa (Array.getElem?_eq_some_iff.1 hxa).1).trans hxa
  have hb13 : Below w1.heap.size w1 w4 := hb3.trans (hb4.mono hb3.size)
  have hbw4 : Below w.heap.size w w4 := hb0.trans (hb13.mono hb0.size)
  have keep : ∀ {j : Nat} {o : Obj}, w1.heap[j]? = some o → w4.heap[j]? = some o := fun h => (hb13.block _ (Array.getElem?_eq_some_iff.1 h).1).trans h
  have hwr : w.heap.size ≤ r := by have := hb0.size; have := hb3.size; omega
  have hw0w := hw0.size
  have hzr : w1.heap.size ≤ r := by have := hb3.size; omega
  have kept : ∀ {W : World} {O : Nat → Prop} {k : Nat} {vl' : Value} {vs' : List Value} {j T : Nat} {cs : Array Value} {fr : Nat × Nat}, GoI w0 w4 bp r vs.length (BkQ vs) (v.pre 1) k O W vl' vs' → w1.heap[j]? = some (.cells cs T fr) → T ≠ 42 → T ≠ 23 → j ≠ r → W.heap[j]? = some (.cells cs T fr) := by
    intro W O k vl' vs' j T cs fr hG hj h1 h2 h3
    have h4 := keep hj
    refine (hG.mv.oth j (Array.getElem?_eq_some_iff.1 h4).1 ?_ h3).trans h4
    rintro (⟨a, b, q⟩ | ⟨a, b, q⟩)
    · rw [h4] at q; simp at q; exact h1 q.2.1
    · rw [h4] at q; simp at q; exact h2 q.2.1
  have hG0 : GoI w0 w4 bp r vs.length (BkQ vs) (v.pre 1) 0 (fun j => j = r ∨ j = bp ∨ vl.ownBlock = some j ∨ BkQ vs j) w4 vl vs := by
    refine ⟨rfl, hbk.below hbw4, by simp [cost], or4, BkMvR.refl _ _, Below.refl _ _, ⟨?_, ?_, ?_⟩, ⟨by omega, by omega⟩, fun g hg => .inl hg⟩
    · have := (Array.getElem?_eq_some_iff.1 hbk.at_).1; omega
    · intro e; have := (hbk.row.lt r e).2; omega
    · intro e; have := (hbk.qlt e).2; omega
  refine wp_range_all (x := xa) (v := v) (s := u) (F0 := FA) rfl rfl hxa4 (hvoa.blw hb4) hwt (fun k O W => ∃ vl' vs', GoI w0 w4 bp r vs.length (BkQ vs) (v.pre 1) k O W vl' vs') (fun c O W => c = .exit 0 ∧ GoX w0 w4 bp r vs.length (BkQ vs) (v.pre 1) st O W) (fun j => j = r ∨ j = bp ∨ vl.ownBlock = some j ∨ BkQ vs j) ?_ ?_ ?_ ?_ ?_ ?_ ?_ ?_
  · rintro k O W ⟨vl', vs', hG⟩ j hj
    have h1 := (hvoa.blw hb4).isVal j hj
    exact hG.mv.oth j h1.lt h1.notBk (fun e => by have := (hvoa.lt j hj).2; omega)
  · rintro k O W ⟨vl', vs', hG⟩
    exact hG.lt
  · rintro k O W W' d ⟨vl', vs', hG⟩ hg hd hO
    exact ⟨vl', vs', hG.turn hg hd hO⟩
  · rintro cc O W W' d ⟨rfl, k, vl', vs', hk, hG⟩ hg hd hO
    exact ⟨rfl, k, vl', vs', hk, hG.turn hg hd hO⟩
  · exact ⟨_, _, hG0⟩
  · rintro K k O d z t F W W' hrd ⟨vl', vs', hG⟩ n1 n2 hz hL hbw hzo
    have hzt := pre_wt v 1 (d, z) (List.mem_of_getElem? hL)
    simp only at hzt
    refine round_goes K w0 w4 W' bp r (x + 1) (x + 1 + 1) (x + 1 + 1 + 1) vs.length _ st (v.pre 1) k d z _ W.heap.size O F (BkQ vs) vl' vs' _ _ _ _ _ _ _ _ _ _ _ _ _ _ (by kernel_rfl) hrd (hG.blw' hbw) hL hzo (fun g q => ⟨?_, fun q2 => ?_⟩) (by omega) hm (hw0.trans ((hbw4.mono hw0w))) ((hto.blw hbw4)) (keep ot) (keep os) (keep ob) (by omega) or4 hz (Nat.le_trans hz hbw.size) rfl rfl n1 n2
    · have := (hzo.lt g q).1; omega
    · have := (hzo.lt g q).1; have := hG.lt g q2; omega
  · rintro O W ⟨vl', vs', hG⟩ hD hO
    have hcr : W.heap[x + 1 + 1 + 1 + 1]? = some (.cells #[.bool false] 4 (0, 0)) := kept hG ores (by decide) (by decide) (by omega)
    have c0 : W.cell? ⟨r, 0, none⟩ = some (.int .i64 nL) := (cell_of_row _ _ 0 _ _ _ hG.cell).trans (by rw [HNL.out]; rfl)
    have c1 : W.cell? ⟨x + 1, 0, none⟩ = some (.slice pt nL ct) := (cell_of_row _ _ 0 _ _ _ (kept hG ot (by decide) (by decide) (by omega))).trans rfl
    have c2 : W.cell? ⟨x + 1 + 1, 0, none⟩ = some (.int .i64 st) := (cell_of_row _ _ 0 _ _ _ (kept hG os (by decide) (by decide) (by omega))).trans rfl
    have c4 : W.cell? ⟨x + 1 + 1 + 1 + 1, 0, none⟩ = some (.bool false) := (cell_of_row _ _ 0 _ _ _ hcr).trans rfl
    have f1 : W.frozen? ⟨x + 1 + 1 + 1 + 1, 0, none⟩ = false := by simp [World.frozen?, hcr]
    have H := Lib.hid (And.intro hG (And.intro hD (And.intro hO hcr)))
    have HE := Lib.hid (And.intro hbw4 (And.intro hw0w (And.intro hwr (And.intro hb3.size hb4.size))))
    have HX := Lib.hid (show w.heap.size ≤ w4.heap.size ∧ w.heap.size ≤ x + 1 + 1 + 1 + 1 from ⟨hbw4.size, by omega⟩)
    clear hG hD hO hcr hbw4 hw0w hwr hb3 hb4 hbk hto hw0 hm keep kept ot os ob ores hxa hvoa hFx hza hb0 hz0 hx hxa4 hb13 hzr hG0 hrl or4
    simp only [Exit.inBlock, Exit.then]
    go_at_K
    go_wp2_with fail
    refine leaves_cell H.out.2.1 H.out.2.2.2 rfl rfl (fun W' q1 q2 q3 q4 q5 => ?_)
    exact H.out.1.done HE.out.1 HE.out.2.1 HE.out.2.2.1 H.out.2.2.1 (Nat.le_refl _) HX.out.2 ⟨_, H.out.2.2.2⟩ q1 q2 q3 q4 q5
  · rintro cc O W ⟨rfl, k, vl', vs', hk, hG⟩ hD hO
    have hcr : W.heap[x + 1 + 1 + 1 + 1]? = some (.cells #[.bool false] 4 (0, 0)) := kept hG ores (by decide) (by decide) (by omega)
    have c0 : W.cell? ⟨r, 0, none⟩ = some (.int .i64 k) := (cell_of_row _ _ 0 _ _ _ hG.cell).trans rfl
    have c1 : W.cell? ⟨x + 1, 0, none⟩ = some (.slice pt nL ct) := (cell_of_row _ _ 0 _ _ _ (kept hG ot (by decide) (by decide) (by omega))).trans rfl
    have c2 : W.cell? ⟨x + 1 + 1, 0, none⟩ = some (.int .i64 st) := (cell_of_row _ _ 0 _ _ _ (kept hG os (by decide) (by decide) (by omega))).trans rfl
    have c4 : W.cell? ⟨x + 1 + 1 + 1 + 1, 0, none⟩ = some (.bool false) := (cell_of_row _ _ 0 _ _ _ hcr).trans rfl
    have f1 : W.frozen? ⟨x + 1 + 1 + 1 + 1, 0, none⟩ = false := by simp [World.frozen?, hcr]
    have H := Lib.hid (And.intro hG (And.intro hD (And.intro hO hcr)))
    have HE := Lib.hid (And.intro hbw4 (And.intro hw0w (And.intro hwr (And.intro hb3.size hb4.size))))
    have HX := Lib.hid (show w.heap.size ≤ w4.heap.size ∧ w.heap.size ≤ x + 1 + 1 + 1 + 1 from ⟨hbw4.size, by omega⟩)
    clear hG hD hO hcr hbw4 hw0w hwr hb3 hb4 hbk hto hw0 hm keep kept ot os ob ores hxa hvoa hFx hza hb0 hz0 hx hxa4 hb13 hzr hG0 hrl or4
    by_cases hkn : (k : Int) = nL
    all_goals
      subst hk
      go_wp2_with fail
      refine leaves_cell H.out.2.1 H.out.2.2.2 rfl rfl (fun W' q1 q2 q3 q4 q5 => ?_)
      exact H.out.1.done HE.out.1 HE.out.2.1 HE.out.2.2.1 H.out.2.2.1 (Nat.le_refl _) HX.out.2 ⟨_, H.out.2.2.2⟩ q1 q2 q3 q4 q5
end Go.Proofs.YtakbgekamjpibaaDoor
