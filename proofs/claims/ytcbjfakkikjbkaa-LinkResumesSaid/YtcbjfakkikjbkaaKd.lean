/-
  kept: a state in memory of its own. Conditions: the state lies in memory, its values are not very great.
-/
import Derived.Test.YtcbjfakkikjbkaaKa
import Derived.Test.YtcbjfakkikjbkaaOt
import Derived.Great.BuildSlice
import Derived.Deep.DeepCutAuto
import Derived.Handy
namespace Go.Proofs.Ytcbjfakkikjbkaa
open Go.RowKit
set_option linter.all false

/-- a value that is as it is whatever else turns but these blocks -/
def VI (w : World) (G : Nat → Prop) (v : V) (u : Value) : Prop := ∀ w', (∀ b, G b → w'.heap[b]? = w.heap[b]?) → VIn w' v u
section
variable {w w' w2 w9 wr : World} {s : St} {t : Sl} {v : V} {u : Value} {G G' : Nat → Prop}
theorem VI.keep (h : VI w G v u) (e : ∀ b, G b → w'.heap[b]? = w.heap[b]?) : VI w' G v u := fun x hx => h x (fun b q => (hx b q).trans (e b q))
theorem VI.wide (h : VI w G v u) (e : ∀ b, G b → G' b) : VI w G' v u := fun x hx => h x (fun b q => hx b (e b q))
theorem VO.vi {B : Nat} {F : Nat → Prop} (h : VO w B v u F) : VI w (fun b => B ≤ b ∧ b < w.heap.size) v u := fun x hx => (h.keep (fun b q => hx b (h.lt b q))).vin
/-- the one value of a list -/
theorem VO.head {B : Nat} {F : Nat → Prop} (h : VO w B (V.listed [v]) u F) : ∃ g c t, u = .slice (some ⟨g, 0, none⟩) 1 c ∧ w.rangeAt g 0 (vcells v t) ∧ VI w (fun b => B ≤ b ∧ b < w.heap.size) v t := by
  cases h with
  | mk _ _ _ ss Fs wf hrow hin hd hs hF =>
    obtain ⟨p, c, hu, h1, h2, h3⟩ := ownsRow_form hrow
    obtain ⟨g, rfl, hg1, hg2⟩ := h3 (by show 0 < [v].length; simp)
    refine ⟨g, c, ss 0, hu, fun j x hj => ?_, (hin 0 (by show 0 < [v].length; simp)).vi⟩
    rw [hu] at hrow
    rw [Nat.zero_add]
    exact ownsRow_cell hrow (by show (vcells v (ss 0) ++ vrow [] _)[j]? = some x; rw [vrow, List.append_nil]; exact hj)
/-- a list of one value, newly laid -/
theorem one_in (h : VIn w v u) : VIn (w.alloc (.cells #[.int .i64 v.kind, .int .u64 v.num, .string v.text, u, .int .i64 v.elem] 28)) (V.listed [v]) (.slice (some ⟨w.heap.size, 0, none⟩) 1 1) := by
  refine .mk (V.listed [v]) _ 1 (fun _ => u) (listed_wf _) (Nat.le_refl _) (by decide) (fun _ => ⟨_, _, rfl⟩) (fun b o e i hi j x hj => ?_) (fun i hi => ?_)
  · obtain rfl : i = 0 := by have : i < 1 := hi; omega
    simp only [Option.some.injEq, Addr.mk.injEq] at e
    obtain ⟨rfl, rfl, _⟩ := e
    have := cell_of_newrow (w := w) (ys := vcells v u) (e := 28) hj
    rw [Addr.add_mid] at this
    have e : (⟨w.heap.size, 0 + 0 * 5 + j, none⟩ : Addr) = ⟨w.heap.size, 0 + j, none⟩ := by rw [Nat.zero_mul]
    rw [e]
    exact this
  · obtain rfl : i = 0 := by have : i < 1 := hi; omega
    exact h.blw ((Below.refl _ _).alloc (Nat.le_refl _) _)

/-- not what is under way -/
def Off (w wr : World) (x y : Nat) (rv : Value) (b : Nat) : Prop := w.heap.size ≤ b ∧ b < wr.heap.size ∧ b ≠ x ∧ b ≠ y ∧ rv.ownBlock ≠ some b
/-- kept, under way -/
structure KpS (w wr : World) (x y : Nat) (s : St) (t2 t3 : Value) (k : Nat) (rv : Value) (ss : Nat → Sl) : Prop where
  box : wr.heap[x]? = some (.cells (sarr s ⟨t2, t3, rv⟩) 33 (0, 0))
  two : wr.heap[y]? = some (.cells (sarr zS default) 33 (0, 0))
  ne : x ≠ y
  row : wr.ownsRow w.heap.size 33 19 rv k (srow (s.inner.take k) ss)
  els : ∀ i (h : i < s.inner.length), i < k → SI wr (Off w wr x y rv) s.inner[i] (ss i)
  vi : VI wr (Off w wr x y rv) s.info t2
  va : VI wr (Off w wr x y rv) s.ann t3
  offx : rv.ownBlock ≠ some x
  offy : rv.ownBlock ≠ some y
  blw : Below w.heap.size w wr
  lx : w.heap.size ≤ x
  ly : w.heap.size ≤ y

theorem KpS.push {x y k : Nat} {t2 t3 rv v' : Value} {ss : Nat → Sl} {t' : Sl} (h : KpS w wr x y s t2 t3 k rv ss) (hk : k < s.inner.length) (hb : Below wr.heap.size wr w2)
    (hs : SI w2 (fun b => wr.heap.size ≤ b ∧ b < w2.heap.size) s.inner[k] t') (hA : App1 w2 w9 w.heap.size 33 19 k rv v' (srow (s.inner.take k) ss ++ scells s.inner[k] t')) :
    KpS w (w9.setCell ⟨x, 18, none⟩ v') x y s t2 t3 (k + 1) v' (fun i => if i < k then ss i else t') := by
  have hg := hA.grown
  have hxl := (Array.getElem?_eq_some_iff.1 h.box).1
  have hyl := (Array.getElem?_eq_some_iff.1 h.two).1
  have hz := hb.size
  have hz9 := hg.size
  have hwz := h.blw.size
  have h9x : w9.heap[x]? = some (.cells (sarr s ⟨t2, t3, rv⟩) 33 (0, 0)) := (hg.block x (by omega) (fun q => h.offx q.symm)).trans ((hb.block x hxl).trans h.box)
  have h9y : w9.heap[y]? = some (.cells (sarr zS default) 33 (0, 0)) := (hg.block y (by omega) (fun q => h.offy q.symm)).trans ((hb.block y hyl).trans h.two)
  have hown : ∀ b, b < wr.heap.size → rv.ownBlock ≠ some b → v'.ownBlock ≠ some b := fun b hbl hne q => by
    rcases hA.own q with q | q
    · exact hne q
    · omega
  have hsz : (w9.setCell ⟨x, 18, none⟩ v').heap.size = w9.heap.size := by simp
  have hkeep : ∀ b, Off w wr x y rv b → (w9.setCell ⟨x, 18, none⟩ v').heap[b]? = wr.heap[b]? := fun b q => by
    obtain ⟨q1, q2, q3, q4, q5⟩ := q
    exact (set_farV q3).trans ((hg.block b (by omega) (fun e => q5 e.symm)).trans (hb.block b q2))
  have hoff : ∀ b, Off w wr x y rv b → Off w (w9.setCell ⟨x, 18, none⟩ v') x y v' b := fun b q => ⟨q.1, by rw [hsz]; have := q.2.1; omega, q.2.2.1, q.2.2.2.1, hown b q.2.1 q.2.2.2.2⟩
  refine ⟨heap_setCell_same w9 x 18 _ _ v' h9x, (set_farV (fun q => h.ne q.symm)).trans h9y, h.ne, ?_, fun i hi hik => ?_, (h.vi.keep hkeep).wide hoff, (h.va.keep hkeep).wide hoff, hown x hxl h.offx, hown y hyl h.offy, ?_, h.lx, h.ly⟩
  · have e : srow (s.inner.take (k + 1)) (fun i => if i < k then ss i else t') = srow (s.inner.take k) ss ++ scells s.inner[k] t' := by
      have htl : (s.inner.take k).length = k := by rw [List.length_take]; omega
      rw [List.take_add_one, List.getElem?_eq_getElem hk, Option.toList_some, srow_snoc, htl, if_neg (Nat.lt_irrefl _), srow_congr _ _ ss (fun i hi => if_pos (by omega))]
    rw [e]
    exact ownsRow_keep (hA.owns (by omega)) (fun j hj => set_farV (fun q => hown x hxl h.offx (by rw [hj, q])))
  · by_cases hik2 : i < k
    · simp only [if_pos hik2]
      exact ((h.els i hi hik2).keep hkeep).wide hoff
    · obtain rfl : i = k := by omega
      simp only [if_neg hik2]
      refine (hs.keep (fun b q => ?_)).wide (fun b q => ⟨by omega, by rw [hsz]; omega, by omega, by omega, fun e => ?_⟩)
      · have hne : rv.ownBlock ≠ some b := fun e => by have := (h.row.lt b e).2; omega
        exact (set_farV (by omega)).trans (hg.block b q.2 (fun e => hne e.symm))
      · rcases hA.own e with e | e
        · have := (h.row.lt b e).2; omega
        · omega
  · exact ((h.blw.trans (hb.mono hwz)).grown hg (by omega) (fun j hj => (h.row.lt j hj).1)).setCell (p := ⟨x, 18, none⟩) h.lx v'

theorem KpS.done {x y : Nat} {t2 t3 rv : Value} {ss : Nat → Sl} (h : KpS w wr x y s t2 t3 s.inner.length rv ss) (wf : s.Wf) : SI wr (fun b => w.heap.size ≤ b ∧ b < wr.heap.size ∧ b ≠ x ∧ b ≠ y) s ⟨t2, t3, rv⟩ := by
  intro w' hw'
  have hoff : ∀ b, Off w wr x y rv b → w'.heap[b]? = wr.heap[b]? := fun b q => hw' b ⟨q.1, q.2.1, q.2.2.1, q.2.2.2.1⟩
  have hrow := ownsRow_keep h.row (w' := w') (fun j hj => hw' j ⟨(h.row.lt j hj).1, (h.row.lt j hj).2, fun q => h.offx (by rw [hj, q]), fun q => h.offy (by rw [hj, q])⟩)
  obtain ⟨p, c, e, h1, h2, h3⟩ := ownsRow_form hrow
  refine .mk s _ p c ss wf (h.vi w' hoff) (h.va w' hoff) e h1 h2 (fun q => by obtain ⟨g, e, _⟩ := h3 q; exact ⟨g, 0, e⟩) (fun b o e' i hi j u hu => ?_) (fun i hi => h.els i hi hi w' hoff)
  obtain ⟨g, e2, _⟩ := h3 (by omega)
  rw [e'] at e2
  simp only [Option.some.injEq, Addr.mk.injEq] at e2
  obtain ⟨rfl, rfl, _⟩ := e2
  have hj : j < 19 := (List.getElem?_eq_some_iff.1 hu).1
  rw [List.take_of_length_le (Nat.le_refl _)] at hrow
  rw [e, e'] at hrow
  rw [Nat.zero_add]
  exact ownsRow_cell hrow (by rw [srow_get _ _ _ _ hi hj]; exact hu)
end

theorem wpList_load_midTo {P : Program} {ops : Array Oper} {rest : List Oper} {op : Oper} {a : Act} {w : World} {Q : Exit → Act → World → Prop} (hgd : op.guard = none) (ty : TypeId) (x : Operand) (ho : op.op = .load ty x)
    (d : Option Tmp) (hd : op.dst = d) (b o : Nat) (hx : a.eval x = .pointer (some ⟨b, o, none⟩)) (cs : Array Value) (D : TypeDesc) (hc : w.rangeAt b o cs.toList)
    (hu : P.underlying ty = some D) (hD : D.isRow = true) (hi : (P.info? ty).map (·.size) = some cs.toList.length)
    (h : wpList P ops Q rest (a.put d (.agg cs)) w) : wpList P ops Q (op :: rest) a w := by
  subst hd
  exact wpList_load_mid hgd ty x ho b o hx cs.toList D hc hu hD hi (by simpa using h)
theorem range_of_row {w : World} {b : Nat} {cs : Array Value} {t : TypeId} {fr : Nat × Nat} (h : w.heap[b]? = some (.cells cs t fr)) : w.rangeAt b 0 cs.toList := fun j v hv => by
  rw [Nat.zero_add, cell_of_row _ _ j _ _ _ h]
  simpa using hv

/-- a state of one's own comes out -/
def KeptTo (w : World) (s : St) (e : Ending) (w' : World) : Prop := ∃ t, e = .returned (.agg (sarr s t)) ∧ SI w' (fun b => w.heap.size ≤ b ∧ b < w'.heap.size) s t ∧ Below w.heap.size w w'
def keptOn (s : St) : Prop := ∀ (w : World) (t : Sl), SIn w s t → s.Fine → s.w ≤ 1000000 → Calls Try.prog 28 #[.agg (sarr s t)] w (KeptTo w s)
theorem size_state : (Try.prog.info? 33).map (·.size) = some 19 := by kernel_rfl
theorem size_value : (Try.prog.info? 28).map (·.size) = some 5 := by kernel_rfl
theorem info_state : (Try.prog.info? 33).map (fun i => (i.zero, i.size, i.bytes)) = some (some (.agg (sarr zS default)), 19, 232) := by kernel_rfl

theorem wp_append_twoN {P : Program} (w : World) {o : Oper} {a : Act} {K : Act → World → Prop} {Q : Exit → Act → World → Prop} (d : Option Tmp) (hd : o.dst = d) (s x : Operand) (t : TypeId)
    (ho : o.op = .call { callee := .builtin .append, args := #[s, x], argTypes := #[t, t] }) (base : Nat) (e : TypeId) (i : TypeInfo) (z : Value) (size bytes : Nat) (ht : P.underlying t = some (.slice e)) (hi : P.info? e = some i) (hz : i.zero = some z)
    (hsize : i.size = size) (hby : i.bytes = bytes) (hzs : z.cells.size = size) (v : Value) (n : Nat) (xs : List Value) (hs : a.eval s = v) (hown : w.ownsRow base e size v n xs)
    (ad : Addr) (c : Nat) (news : List Value) (hx : a.eval x = .slice (some ad) 1 c) (hl : news.length = size) (hnews : ∀ j u, news[j]? = some u → w.cell? (ad.add j) = some u) (h1 : ∀ u ∈ news, u.oneCell' = true)
    (h63 : n + 1 ≤ maxLen) (hbytes : (n + 1) * bytes ≤ 140737488355328)
    (h : ∀ v' w', App1 w w' base e size n v v' (xs ++ news) → K (a.put d v') w') : o.wp P a w K Q := by
  subst hd
  obtain ⟨v', w', hr, h2⟩ := run_append_two w base t o.type e i z size bytes ht hi hz hsize hby hzs v n xs hown ad c news hl hnews h1 h63 hbytes
  unfold Oper.wp execOp
  simp only [ho, resolve, invoke, builtin, Sem.run_bind, Sem.run_pure, Result.andThen_ok, List.map_toArray, List.map_cons, List.map_nil, hs, hx, hr]
  exact h v' w' h2

theorem wp_buildS {o : Oper} {a : Act} {w : World} {K : Act → World → Prop} {Q : Exit → Act → World → Prop} (d : Option Tmp) (hd : o.dst = d) (x : Operand) (ho : o.op = .buildSlice 31 1 #[(0, x)]) (s : St) (t : Sl)
    (hx : a.eval x = .agg (sarr s t))
    (h : K (a.put d (.slice (some ⟨w.heap.size, 0, none⟩) 1 1)) (w.alloc (.cells (sarr s t) 33))) : o.wp Try.prog a w K Q := by
  subst hd
  obtain ⟨i0, hi, hz0, hz1, hz2⟩ := info_partsV info_state
  refine wp_buildSlice 31 33 1 _ ho _ i0 _ Try.underlying31 hi hz0 (by rw [hz1]; decide) (by rw [hz1]; decide) ?_ h
  rw [hz1]
  simp only [List.map_toArray, List.map_cons, List.map_nil, hx]
  kernel_rfl
theorem VIn.one {w : World} {v : V} {u : Value} (h : VIn w v u) : u.oneCell' = true := by obtain ⟨p, c, rfl, _⟩ := h.slice; rfl
theorem one5 {k m e : Int} {t : ByteArray} {u : Value} (h : u.oneCell' = true) : (#[.int .i64 k, .int .u64 m, .string t, u, .int .i64 e] : Array Value).all (·.oneCell') = true :=
  all_oneCell_toArray (cs := [.int .i64 k, .int .u64 m, .string t, u, .int .i64 e]) (fun v hv => by simp only [List.mem_cons, List.not_mem_nil, or_false] at hv; rcases hv with rfl | rfl | rfl | rfl | rfl <;> first | rfl | exact h)
theorem sarr_one {w : World} {s : St} {t : Sl} (h : SIn w s t) : (sarr s t).all (·.oneCell') = true := by
  have h1 := h.i.one
  have h2 := h.a.one
  obtain ⟨p, c, h3, _⟩ := h.slice
  have h4 : t.l.oneCell' = true := by rw [h3]; rfl
  exact all_oneCell_toArray (cs := scells s t) (fun v hv => by
    simp only [scells, sarr, List.mem_cons, List.not_mem_nil, or_false] at hv
    rcases hv with rfl | rfl | rfl | rfl | rfl | rfl | rfl | rfl | rfl | rfl | rfl | rfl | rfl | rfl | rfl | rfl | rfl | rfl | rfl <;> first | rfl | exact h1 | exact h2 | exact h4)
theorem row_cellsS {w : World} {z t j : Nat} {s : St} {x : Sl} {u : Value} (h : w.heap[z]? = some (.cells (sarr s x) t (0, 0))) (hj : (scells s x)[j]? = some u) : w.cell? ((⟨z, 0, none⟩ : Addr).add j) = some u := by
  rw [Addr.add_mid, Nat.zero_add, cell_of_row _ _ j _ _ _ h]
  simpa [scells] using hj
theorem bdrew {n : Nat} {w W : World} (h : Below n w W) : Below n w W.drew := ⟨h.os, h.tape, h.output, h.size, h.block⟩
/-- a value's list -/
theorem field3 (a b c d e : Value) (w : World) : (Instr.field 28 (.agg #[a, b, c, d, e]) 3).run Try.prog w = .ok d w := by kernel_rfl
/-- two blocks newly laid -/
theorem box2 (w : World) (A B : Array Value) (t u : TypeId) : ∃ w0 x y, (w.alloc (.cells A t)).alloc (.cells B u) = w0 ∧ w.heap.size = x ∧ x + 1 = y ∧ w0.heap.size = y + 1 ∧ Below w.heap.size w w0 ∧ w0.heap[x]? = some (.cells A t (0, 0)) ∧ w0.heap[y]? = some (.cells B u (0, 0)) := by
  refine ⟨_, _, _, rfl, rfl, rfl, by simp, ((Below.refl _ _).alloc (Nat.le_refl _) _).alloc (by simp) _, ?_, ?_⟩
  · exact (Below.heap_alloc _ _ _ (by simp)).trans (_root_.Go.heap_alloc_new _ _)
  · have := _root_.Go.heap_alloc_new (w.alloc (.cells A t)) (.cells B u)
    simpa using this
theorem setCells_row {w : World} {x o : Nat} {C : Array Value} {t : TypeId} {vs : List Value} (h : w.heap[x]? = some (.cells C t (0, 0))) (hl : o + vs.length ≤ C.size) : w.there x o vs.length := fun j hj => by
  refine ⟨?_, by simp [World.frozen?, h]⟩
  rw [cell_of_row _ _ (o + j) _ _ _ h]
  simp; omega

set_option maxRecDepth 20000 in
set_option maxHeartbeats 8000000 in
theorem kept_on : ∀ s : St, keptOn s := by
  refine St.ind (fun s ih w t h hf hw => ?_)
  obtain ⟨p, c, hs, h1, h2, h3⟩ := h.slice
  obtain ⟨N, hN⟩ : ∃ N, s.inner.length = N := ⟨_, rfl⟩
  have hNw := len_le_stws s.inner
  have hsw := s.w_eq
  rw [hN] at hs h1 h3 hNw
  obtain ⟨ti, ta, tl⟩ := t
  simp only at hs
  subst hs
  unfold maxLen at h2
  have hNb : N ≤ 1000000 := by omega
  have HI := Lib.hid (show ∀ x ∈ s.inner, keptOn x ∧ x.Fine ∧ x.w ≤ 1000000 from fun x hx => ⟨ih x hx, hf.n x hx, by have := St.w_lt hx; omega⟩)
  have HN := Lib.hid (And.intro hN (And.intro hf hw))
  have HV := Lib.hid h
  obtain ⟨i0, hi, hz0, hz1, hz2⟩ := info_partsV info_state
  obtain ⟨P, hP⟩ : ∃ P, sarr s ⟨ti, ta, .slice p N c⟩ = P := ⟨_, rfl⟩
  rw [hP]
  have HP := Lib.hid hP
  clear ih h hN hNw hw hf hsw hP
  have hfd := field3
  go_enter Try.func28, Try.ntmps28
  go_upto_region 1 with fail
  obtain ⟨w0, x, y, e0, hx, hy, hz, hb0, ox, oy⟩ := box2 w P (sarr zS default) 33 33
  change Code.wp _ _ _ _ ((w.alloc (.cells P 33)).alloc (.cells (sarr zS default) 33))
  rw [e0, hx, hy]
  rw [← HP.out] at ox
  have HX := Lib.hid (And.intro hx (And.intro hy (And.intro hz (And.intro hb0 (And.intro ox oy)))))
  have x5 : w0.cell? ⟨x, 5, none⟩ = some (.int .i64 s.info.kind) := (cell_of_row _ _ 5 _ _ _ ox).trans rfl
  have x6 : w0.cell? ⟨x, 6, none⟩ = some (.int .u64 s.info.num) := (cell_of_row _ _ 6 _ _ _ ox).trans rfl
  have x7 : w0.cell? ⟨x, 7, none⟩ = some (.string s.info.text) := (cell_of_row _ _ 7 _ _ _ ox).trans rfl
  have x8 : w0.cell? ⟨x, 8, none⟩ = some ti := (cell_of_row _ _ 8 _ _ _ ox).trans rfl
  have x9 : w0.cell? ⟨x, 9, none⟩ = some (.int .i64 s.info.elem) := (cell_of_row _ _ 9 _ _ _ ox).trans rfl
  clear e0 hx hy hz hb0 ox oy
  go_wp2_with fail
  refine (listed_any (V.listed [s.info]) _ _ (one_in (HV.out.i.far (fun b q => HX.out.2.2.2.1.block b q))) (by have := HN.out.2.1.i; show wts [s.info] ≤ 2000000; simp only [wts]; omega)).mono ?_
  rintro e w11 ⟨u1, F1, rfl, hvo1, hb11⟩
  obtain ⟨g1, c1, t1, rfl, hr1, hvi1⟩ := hvo1.head
  have hb1 := (((Below.refl w0.heap.size w0).alloc (Nat.le_refl _) (.cells #[.int .i64 s.info.kind, .int .u64 s.info.num, .string s.info.text, ti, .int .i64 s.info.elem] 28)).trans (hb11.mono (by simp)))
  have hvi1 := hvi1.wide (G' := fun b => w0.heap.size ≤ b ∧ b < w11.heap.size) (fun b q => ⟨by have := q.1; simp at this; omega, q.2⟩)
  clear hvo1 hb11
  clear x5 x6 x7 x8 x9
  have ox1 : w11.heap[x]? = some (.cells (sarr s ⟨ti, ta, .slice p N c⟩) 33 (0, 0)) := (hb1.block x (Array.getElem?_eq_some_iff.1 HX.out.2.2.2.2.1).1).trans HX.out.2.2.2.2.1
  have oy1 : w11.heap[y]? = some (.cells (sarr zS default) 33 (0, 0)) := (hb1.block y (Array.getElem?_eq_some_iff.1 HX.out.2.2.2.2.2).1).trans HX.out.2.2.2.2.2
  have hth1 : w11.there x 5 5 := setCells_row (vs := [.int .i64 s.info.kind, .int .u64 s.info.num, .string s.info.text, t1, .int .i64 s.info.elem]) ox1 (show 5 + 5 ≤ 19 by decide)
  have HTH1 := Lib.hid hth1
  have HO1 := Lib.hid (one5 (k := s.info.kind) (m := s.info.num) (e := s.info.elem) (t := s.info.text) (hvi1 w11 (fun _ _ => rfl)).one)
  have HR1 := Lib.hid hr1
  clear hth1 hr1
  go_upto_region 2 with (first
    | (refine wpList_load_midTo rfl 28 (.tmp 12) rfl (some 13) rfl g1 0 rfl #[.int .i64 s.info.kind, .int .u64 s.info.num, .string s.info.text, t1, .int .i64 s.info.elem] _ HR1.out Try.underlying28 rfl size_value ?_)
    | (refine wpList_store_mid rfl 28 (.tmp 15) (.tmp 13) rfl x 5 #[.int .i64 s.info.kind, .int .u64 s.info.num, .string s.info.text, t1, .int .i64 s.info.elem] rfl rfl HTH1.out size_value HO1.out ?_))
  have oxx : (w11.setCells x 5 [.int .i64 s.info.kind, .int .u64 s.info.num, .string s.info.text, t1, .int .i64 s.info.elem]).heap[x]? = some (.cells (sarr s ⟨t1, ta, .slice p N c⟩) 33 (0, 0)) := (heap_setCells x _ [.int .i64 s.info.kind, .int .u64 s.info.num, .string s.info.text, t1, .int .i64 s.info.elem] 5 w11 _ ox1 (show 5 + 5 ≤ 19 by decide)).trans rfl
  have hgg := setCells_grown w11 x 5 [.int .i64 s.info.kind, .int .u64 s.info.num, .string s.info.text, t1, .int .i64 s.info.elem]
  change Code.wp _ _ _ _ (w11.setCells x 5 [.int .i64 s.info.kind, .int .u64 s.info.num, .string s.info.text, t1, .int .i64 s.info.elem])
  generalize w11.setCells x 5 [.int .i64 s.info.kind, .int .u64 s.info.num, .string s.info.text, t1, .int .i64 s.info.elem] = w12 at *
  have oyy := (hgg.block y (Array.getElem?_eq_some_iff.1 oy1).1 (by simp; have := HX.out.2.1; omega)).trans oy1
  have hbx : Below w.heap.size w w12 := (HX.out.2.2.2.1.trans (hb1.mono HX.out.2.2.2.1.size)).grown hgg (by have := hb1.size; have := HX.out.2.2.2.1.size; omega) (fun j hj => by have := HX.out.1; simp at hj; omega)
  have hv12 : VI w12 (fun b => y < b ∧ b < w12.heap.size) s.info t1 := (hvi1.keep (fun b q => hgg.block b q.2 (by have := HX.out.2.1; have := HX.out.2.2.1; simp; omega))).wide (fun b q => ⟨by have := HX.out.2.2.1; omega, by have := hgg.size; omega⟩)
  have HB1 := Lib.hid hbx
  have HX1 := Lib.hid (And.intro oxx (And.intro oyy hv12))
  have x12 : w12.cell? ⟨x, 12, none⟩ = some (.int .i64 s.ann.kind) := (cell_of_row _ _ 12 _ _ _ oxx).trans rfl
  have x13 : w12.cell? ⟨x, 13, none⟩ = some (.int .u64 s.ann.num) := (cell_of_row _ _ 13 _ _ _ oxx).trans rfl
  have x14 : w12.cell? ⟨x, 14, none⟩ = some (.string s.ann.text) := (cell_of_row _ _ 14 _ _ _ oxx).trans rfl
  have x15 : w12.cell? ⟨x, 15, none⟩ = some ta := (cell_of_row _ _ 15 _ _ _ oxx).trans rfl
  have x16 : w12.cell? ⟨x, 16, none⟩ = some (.int .i64 s.ann.elem) := (cell_of_row _ _ 16 _ _ _ oxx).trans rfl
  clear ox1 oy1 oxx oyy hbx hv12 hvi1 hgg hb1
  go_wp2_with fail
  refine (listed_any (V.listed [s.ann]) _ _ (one_in ((HV.out.a.blw HB1.out))) (by have := HN.out.2.1.a; show wts [s.ann] ≤ 2000000; simp only [wts]; omega)).mono ?_
  rintro e w21 ⟨u2, F2, rfl, hvo2, hb21⟩
  obtain ⟨g2, c2, t2, rfl, hr2, hvi2⟩ := hvo2.head
  have hb2 := (((Below.refl w12.heap.size w12).alloc (Nat.le_refl _) (.cells #[.int .i64 s.ann.kind, .int .u64 s.ann.num, .string s.ann.text, ta, .int .i64 s.ann.elem] 28)).trans (hb21.mono (by simp)))
  have hvi2 := hvi2.wide (G' := fun b => w12.heap.size ≤ b ∧ b < w21.heap.size) (fun b q => ⟨by have := q.1; simp at this; omega, q.2⟩)
  clear hvo2 hb21
  clear x12 x13 x14 x15 x16
  have ox2 : w21.heap[x]? = some (.cells (sarr s ⟨t1, ta, .slice p N c⟩) 33 (0, 0)) := (hb2.block x (Array.getElem?_eq_some_iff.1 HX1.out.1).1).trans HX1.out.1
  have oy2 : w21.heap[y]? = some (.cells (sarr zS default) 33 (0, 0)) := (hb2.block y (Array.getElem?_eq_some_iff.1 HX1.out.2.1).1).trans HX1.out.2.1
  have hth2 : w21.there x 12 5 := setCells_row (vs := [.int .i64 s.ann.kind, .int .u64 s.ann.num, .string s.ann.text, t2, .int .i64 s.ann.elem]) ox2 (show 12 + 5 ≤ 19 by decide)
  have HTH2 := Lib.hid hth2
  have HO2 := Lib.hid (one5 (k := s.ann.kind) (m := s.ann.num) (e := s.ann.elem) (t := s.ann.text) (hvi2 w21 (fun _ _ => rfl)).one)
  have HR2 := Lib.hid hr2
  clear hth2 hr2
  go_upto_region 3 with (first
    | (refine wpList_load_midTo rfl 28 (.tmp 21) rfl (some 22) rfl g2 0 rfl #[.int .i64 s.ann.kind, .int .u64 s.ann.num, .string s.ann.text, t2, .int .i64 s.ann.elem] _ HR2.out Try.underlying28 rfl size_value ?_)
    | (refine wpList_store_mid rfl 28 (.tmp 23) (.tmp 22) rfl x 12 #[.int .i64 s.ann.kind, .int .u64 s.ann.num, .string s.ann.text, t2, .int .i64 s.ann.elem] rfl rfl HTH2.out size_value HO2.out ?_))
  have oxx : (w21.setCells x 12 [.int .i64 s.ann.kind, .int .u64 s.ann.num, .string s.ann.text, t2, .int .i64 s.ann.elem]).heap[x]? = some (.cells (sarr s ⟨t1, t2, .slice p N c⟩) 33 (0, 0)) := (heap_setCells x _ [.int .i64 s.ann.kind, .int .u64 s.ann.num, .string s.ann.text, t2, .int .i64 s.ann.elem] 12 w21 _ ox2 (show 12 + 5 ≤ 19 by decide)).trans rfl
  have hgg := setCells_grown w21 x 12 [.int .i64 s.ann.kind, .int .u64 s.ann.num, .string s.ann.text, t2, .int .i64 s.ann.elem]
  change Code.wp _ _ _ _ (w21.setCells x 12 [.int .i64 s.ann.kind, .int .u64 s.ann.num, .string s.ann.text, t2, .int .i64 s.ann.elem])
  generalize w21.setCells x 12 [.int .i64 s.ann.kind, .int .u64 s.ann.num, .string s.ann.text, t2, .int .i64 s.ann.elem] = w22 at *
  have oyy := (hgg.block y (Array.getElem?_eq_some_iff.1 oy2).1 (by simp; have := HX.out.2.1; omega)).trans oy2
  have hyz := (Array.getElem?_eq_some_iff.1 HX1.out.2.1).1
  have hbx : Below w.heap.size w w22 := (HB1.out.trans (hb2.mono HB1.out.size)).grown hgg (by have := hb2.size; have := HB1.out.size; omega) (fun j hj => by have := HX.out.1; simp at hj; omega)
  have hv12 : VI w22 (fun b => y < b ∧ b < w22.heap.size) s.info t1 := (HX1.out.2.2.keep (fun b q => (hgg.block b (by have := hb2.size; omega) (by have := HX.out.2.1; simp; omega)).trans (hb2.block b q.2))).wide (fun b q => ⟨q.1, by have := hgg.size; have := hb2.size; omega⟩)
  have hv22 : VI w22 (fun b => y < b ∧ b < w22.heap.size) s.ann t2 := (hvi2.keep (fun b q => hgg.block b q.2 (by have := HX.out.2.1; simp; omega))).wide (fun b q => ⟨by omega, by have := hgg.size; omega⟩)
  have HB2 := Lib.hid hbx
  have HX2 := Lib.hid (And.intro oxx (And.intro oyy (And.intro hv12 hv22)))
  have x18 : w22.cell? ⟨x, 18, none⟩ = some (.slice p N c) := (cell_of_row _ _ 18 _ _ _ oxx).trans rfl
  have fx : w22.frozen? ⟨x, 18, none⟩ = false := by simp [World.frozen?, oxx]
  clear ox2 oy2 oxx oyy hbx hv12 hv22 hvi2 hgg hb2 hyz
  go_upto_region 5 with fail
  have K0 : KpS w (w22.setCell ⟨x, 18, none⟩ (.slice none 0 0)) x y s t1 t2 0 (.slice none 0 0) (fun _ => default) := by
    have hne : x ≠ y := by have := HX.out.2.1; omega
    have hlx : w.heap.size ≤ x := by have := HX.out.1; omega
    have hk : ∀ b, y < b → (w22.setCell ⟨x, 18, none⟩ (.slice none 0 0)).heap[b]? = w22.heap[b]? := fun b q => set_farV (by have := HX.out.2.1; omega)
    have ho : ∀ b, y < b ∧ b < w22.heap.size → Off w (w22.setCell ⟨x, 18, none⟩ (.slice none 0 0)) x y (.slice none 0 0) b := fun b q => ⟨by have := HX.out.2.1; omega, by simpa using q.2, by have := HX.out.2.1; omega, by omega, by simp [Value.ownBlock]⟩
    exact ⟨heap_setCell_same w22 x 18 _ _ _ HX2.out.1, (set_farV (fun q => hne q.symm)).trans HX2.out.2.1, hne, by rw [List.take_zero]; exact World.ownsRow_nil _ _ _ _, fun i hi h => by omega, (HX2.out.2.2.1.keep (fun b q => hk b q.1)).wide ho, (HX2.out.2.2.2.keep (fun b q => hk b q.1)).wide ho, by simp [Value.ownBlock], by simp [Value.ownBlock], HB2.out.setCell (p := ⟨x, 18, none⟩) hlx _, hlx, by have := HX.out.2.1; omega⟩
  have HK0 := Lib.hid K0
  clear K0 x18 fx
  change Code.wp _ _ _ _ (w22.setCell ⟨x, 18, none⟩ (.slice none 0 0))
  generalize w22.setCell ⟨x, 18, none⟩ (.slice none 0 0) = w3 at *
  go_wp2_with fail
  go_loopw [29] (fun v29 wr => ∃ (k : Nat) (rv : Value) (ss : Nat → Sl), k ≤ N ∧ v29 = .int .i64 k ∧ KpS w wr x y s t1 t2 k rv ss) (fun v29 _ => N - (intOf v29).toNat)
  case atStart => exact ⟨0, _, _, Nat.zero_le _, rfl, HK0.out⟩
  case round =>
    obtain ⟨k, rv, ss, hkN', rfl, hst⟩ := hrel
    have ST := Lib.hid hst
    clear hst
    by_cases hlt : (k : Int) < N
    · have HLT := Lib.hid (show k < N by omega)
      have ka : k < s.inner.length := by rw [HN.out.1]; omega
      obtain ⟨b1, o1, rfl⟩ := h3 (by omega)
      obtain ⟨tk, htk, hik⟩ := (HV.out.blw ST.out.blw).part rfl ka
      have HIK := Lib.hid (HI.out _ (List.getElem_mem ka))
      obtain ⟨yk, hyk⟩ : ∃ yk, s.inner[k] = yk := ⟨_, rfl⟩
      have HYK := Lib.hid hyk
      rw [hyk] at htk hik HIK
      clear hyk
      obtain ⟨E, hE⟩ : ∃ E, sarr yk tk = E := ⟨_, rfl⟩
      have HE := Lib.hid hE
      have HTK := Lib.hid (show wr.rangeAt b1 (o1 + k * 19) E.toList by rw [← hE]; exact htk)
      have HSZ := Lib.hid (show (Try.prog.info? 33).map (·.size) = some E.toList.length by rw [← hE]; exact size_state)
      have HSZ2 := Lib.hid (show (Try.prog.info? 33).map (·.size) = some E.size by rw [← hE]; exact size_state)
      have HEO := Lib.hid (show E.all (·.oneCell') = true by rw [← hE]; exact sarr_one hik)
      have HIKK := Lib.hid hik
      clear hE htk hik
      go_upto_region 8 with (first
        | (refine wpList_load_midTo rfl 33 (.tmp 31) rfl (some 32) rfl b1 (o1 + k * 19) rfl E _ HTK.out Try.underlying33 rfl HSZ.out ?_)
        | (refine wpList_store_rowTo rfl 33 (.tmp 5) (.tmp 32) rfl rfl wr.heap.size E rfl rfl 33 (sarr zS default) (_root_.Go.heap_alloc_new wr _) HSZ2.out (by rw [← HE.out]; rfl) HEO.out ?_))
      have hb_w1 : Below wr.heap.size wr ((wr.alloc (.cells (sarr zS default) 33)).setRow wr.heap.size E) := below_setRow ((Below.refl _ _).alloc (Nat.le_refl _) _) (Nat.le_refl _) _
      have oz := setRow_heap (wr.alloc (.cells (sarr zS default) 33)) wr.heap.size _ E _ _ (_root_.Go.heap_alloc_new wr _)
      change Code.wp _ _ _ _ ((wr.alloc (.cells (sarr zS default) 33)).setRow wr.heap.size E)
      generalize ((wr.alloc (.cells (sarr zS default) 33)).setRow wr.heap.size E) = w1 at *
      obtain ⟨z, hz⟩ : ∃ z, wr.heap.size = z := ⟨_, rfl⟩
      have HZ := Lib.hid hz
      rw [hz] at oz ⊢
      have HB1 := Lib.hid hb_w1
      have ox1 : w1.heap[x]? = some (.cells (sarr s ⟨t1, t2, rv⟩) 33 (0, 0)) := (hb_w1.block x (Array.getElem?_eq_some_iff.1 ST.out.box).1).trans ST.out.box
      have HOX := Lib.hid (And.intro ox1 oz)
      clear hb_w1 hz ox1 oz
      obtain ⟨S, hSd⟩ : ∃ S : Array Bool → World → Prop, ∀ L V, S L V ↔ (V.heap[z]? = some (.cells E 33 (0, 0)) ∧ till 7 (fun V => V.cell? ⟨x, 18, none⟩ = some rv) L V) := ⟨_, fun _ _ => Iff.rfl⟩
      have HSD := Lib.hid hSd
      clear hSd
      refine wp_region_T S 8 rfl (by kernel_rfl) ?_
      have hS : ∀ L : Array Bool, S L w1.drew := fun L => (HSD.out _ _).2 ⟨HOX.out.2, fun _ => (cell_of_row w1 _ 18 _ _ _ HOX.out.1).trans rfl⟩
      refine takeT (i := 0) (v := .pointer (some ⟨x, 18, none⟩)) (some 33) [] rfl rfl (by kernel_rfl) (by kernel_rfl) (by kernel_rfl) (by kernel_rfl) (by kernel_rfl) (fun _ _ _ h => h) (fun m W _ _ h => (HSD.out _ _).2 ⟨((HSD.out _ _).1 h).1, ((HSD.out _ _).1 h).2.set (by decide)⟩) (Or.inl ⟨by rfl, by rintro V ⟨m, hm, h9⟩; have h0 := (HSD.out _ _).1 h9; go_simp⟩) (hS _) ?_
      try simp only [Act.put, List.setIfInBounds_toArray, List.set_cons_zero, List.set_cons_succ]
      refine takeT (i := 1) (v := rv) (some 34) [5, 7] rfl rfl (by kernel_rfl) (by kernel_rfl) (by kernel_rfl) (by kernel_rfl) (by kernel_rfl) (fun _ _ _ h => h) (fun m W _ _ h => (HSD.out _ _).2 ⟨((HSD.out _ _).1 h).1, ((HSD.out _ _).1 h).2.set (by decide)⟩) (Or.inl ⟨by rfl, by rintro V ⟨m, hm, h9⟩; have h0 := (HSD.out _ _).1 h9; have y1 := h0.2.get (f := 7) (D := [5, 7]) (by decide) hm (by simp); go_simp⟩) (hS _) ?_
      try simp only [Act.put, List.setIfInBounds_toArray, List.set_cons_zero, List.set_cons_succ]
      refine takeT (i := 2) (v := .agg E) (some 35) [] rfl rfl (by kernel_rfl) (by kernel_rfl) (by kernel_rfl) (by kernel_rfl) (by kernel_rfl) (fun _ _ _ h => h) (fun m W _ _ h => (HSD.out _ _).2 ⟨((HSD.out _ _).1 h).1, ((HSD.out _ _).1 h).2.set (by decide)⟩) (yieldsIf_load_row 33 (.tmp 5) rfl (by rfl) z rfl 33 _ (0, 0) _ (fun V h => by obtain ⟨m, _, h9⟩ := h; exact ((HSD.out _ _).1 h9).1) Try.underlying33 rfl HSZ2.out) (hS _) ?_
      try simp only [Act.put, List.setIfInBounds_toArray, List.set_cons_zero, List.set_cons_succ]
      refine wpAnyT_all (rs := [3]) (by kernel_rfl) (by simp) ?_
      intro i5 hi5
      simp only [List.mem_cons, List.not_mem_nil, or_false] at hi5
      subst hi5
      refine stepT (i := 3) rfl (by rfl) (fun K5 h5 => ?_)
      rw [← HE.out]
      go_simp
      have hkk := HIK.out.1
      unfold keptOn at hkk
      (with_reducible refine (hkk _ tk ((HIKK.out.blw HB1.out).blw (bdrew (Below.refl w1.heap.size w1))) HIK.out.2.1 HIK.out.2.2).mono ?_)
      clear hkk
      rintro e w2 ⟨tk2, rfl, hsi2, hbw2⟩
      have hb2 : Below wr.heap.size wr w2 := HB1.out.trans (Below.mono (show Below w1.heap.size w1 w2 from (bdrew (Below.refl w1.heap.size w1)).trans hbw2) HB1.out.size)
      have o2 : w2.heap[x]? = _ ∧ w2.heap[z]? = _ := ⟨(hbw2.block x (Array.getElem?_eq_some_iff.1 HOX.out.1).1).trans HOX.out.1, (hbw2.block z (Array.getElem?_eq_some_iff.1 HOX.out.2).1).trans HOX.out.2⟩
      refine h5.out _ _ ((HSD.out _ _).2 ⟨o2.2, fun _ => (cell_of_row _ _ 18 _ _ _ o2.1).trans rfl⟩) ?_
      clear h5
      try simp only [Act.put, List.setIfInBounds_toArray, List.set_cons_zero, List.set_cons_succ]
      refine wpAnyT_all (rs := [4]) (by kernel_rfl) (by simp) ?_
      intro i5 hi5
      simp only [List.mem_cons, List.not_mem_nil, or_false] at hi5
      subst hi5
      refine stepT (i := 4) rfl (by rfl) (fun K5 h5 => ?_)
      refine wp_buildS (some 37) rfl (.tmp 36) rfl yk tk2 rfl ?_
      have hb23 : Below w2.heap.size w2 (w2.alloc (.cells (sarr yk tk2) 33)) := (Below.refl _ _).alloc (Nat.le_refl _) _
      have og : (w2.alloc (.cells (sarr yk tk2) 33)).heap[w2.heap.size]? = some (.cells (sarr yk tk2) 33 (0, 0)) := _root_.Go.heap_alloc_new _ _
      generalize (w2.alloc (.cells (sarr yk tk2) 33)) = w3b at *
      obtain ⟨g, hg⟩ : ∃ g, w2.heap.size = g := ⟨_, rfl⟩
      rw [hg] at og ⊢
      have hb3 : Below wr.heap.size wr w3b := hb2.trans (hb23.mono hb2.size)
      have o3 : w3b.heap[x]? = _ ∧ w3b.heap[z]? = _ := ⟨(hb23.block x (Array.getElem?_eq_some_iff.1 o2.1).1).trans o2.1, (hb23.block z (Array.getElem?_eq_some_iff.1 o2.2).1).trans o2.2⟩
      have hsi3 : SI w3b (fun b => wr.heap.size ≤ b ∧ b < w3b.heap.size) yk tk2 := (hsi2.keep (fun b q => hb23.block b q.2)).wide (fun b q => ⟨by have := HB1.out.size; have := q.1; simp only [World.drew] at this; omega, by have := hb23.size; omega⟩)
      refine h5.out _ _ ((HSD.out _ _).2 ⟨o3.2, fun _ => (cell_of_row _ _ 18 _ _ _ o3.1).trans rfl⟩) ?_
      clear h5
      try simp only [Act.put, List.setIfInBounds_toArray, List.set_cons_zero, List.set_cons_succ]
      refine wpAnyT_all (rs := [5]) (by kernel_rfl) (by simp) ?_
      intro i5 hi5
      simp only [List.mem_cons, List.not_mem_nil, or_false] at hi5
      subst hi5
      refine stepT (i := 5) rfl (by rfl) (fun K5 h5 => ?_)
      have hrow3 : w3b.ownsRow w.heap.size 33 19 rv k (srow (s.inner.take k) ss) := ownsRow_keep ST.out.row (fun j hj => hb3.block j (ST.out.row.lt j hj).2)
      have hone : ∀ u ∈ scells yk tk2, u.oneCell' = true := fun u hu => Array.all_eq_true_iff_forall_mem.1 (sarr_one hsi3.sin) u (by simpa [scells] using hu)
      refine wp_append_twoN w3b (some 38) rfl (.tmp 34) (.tmp 37) 31 rfl w.heap.size 33 i0 _ 19 232 Try.underlying31 hi hz0 hz1 hz2 rfl rv k (srow (s.inner.take k) ss) rfl hrow3 ⟨g, 0, none⟩ 1 (scells yk tk2) rfl rfl (fun j u hj => row_cellsS og hj) hone (by unfold maxLen; omega) (by omega) ?_
      intro v' w9 hA
      have hwr := ST.out.blw.size
      have o9 : w9.heap[x]? = _ ∧ w9.heap[z]? = _ := ⟨(hA.grown.block x (Array.getElem?_eq_some_iff.1 o3.1).1 (fun q => ST.out.offx q.symm)).trans o3.1, (hA.grown.block z (Array.getElem?_eq_some_iff.1 o3.2).1 (fun q => by have := (ST.out.row.lt z q.symm).2; have := HZ.out; omega)).trans o3.2⟩
      refine h5.out _ _ ((HSD.out _ _).2 ⟨o9.2, fun _ => (cell_of_row _ _ 18 _ _ _ o9.1).trans rfl⟩) ?_
      clear h5
      try simp only [Act.put, List.setIfInBounds_toArray, List.set_cons_zero, List.set_cons_succ]
      refine takeT (i := 6) (v := .pointer (some ⟨x, 18, none⟩)) (some 39) [] rfl rfl (by kernel_rfl) (by kernel_rfl) (by kernel_rfl) (by kernel_rfl) (by kernel_rfl) (fun _ _ _ h => h) (fun m W _ _ h => (HSD.out _ _).2 ⟨((HSD.out _ _).1 h).1, ((HSD.out _ _).1 h).2.set (by decide)⟩) (Or.inl ⟨by rfl, by rintro V ⟨m, hm, h9⟩; have h0 := (HSD.out _ _).1 h9; go_simp⟩) ((HSD.out _ _).2 ⟨o9.2, fun _ => (cell_of_row _ _ 18 _ _ _ o9.1).trans rfl⟩) ?_
      try simp only [Act.put, List.setIfInBounds_toArray, List.set_cons_zero, List.set_cons_succ]
      have x18 : w9.cell? ⟨x, 18, none⟩ = some rv := (cell_of_row _ _ 18 _ _ _ o9.1).trans rfl
      have fx : w9.frozen? ⟨x, 18, none⟩ = false := by simp [World.frozen?, o9.1]
      obtain ⟨vp, vc, hv', _, _, _⟩ := ownsRow_form (hA.owns (by have := hb3.size; omega))
      subst hv'
      refine wpAnyT_all (rs := [7]) (by kernel_rfl) (by simp) ?_
      intro i5 hi5
      simp only [List.mem_cons, List.not_mem_nil, or_false] at hi5
      subst hi5
      refine stepT (i := 7) rfl (by rfl) (fun K5 h5 => ?_)
      go_simp
      change K5 _ (w9.setCell ⟨x, 18, none⟩ (.slice vp (k + 1) vc))
      have hKP := ST.out.push (by rw [HN.out.1]; exact HLT.out) hb3 (by rw [HYK.out]; exact hsi3) (by rw [HYK.out]; exact hA)
      have HKP := Lib.hid hKP
      have o10 : (w9.setCell ⟨x, 18, none⟩ (.slice vp (k + 1) vc)).heap[z]? = w9.heap[z]? := set_farV (fun q => by have := HZ.out; have := (Array.getElem?_eq_some_iff.1 ST.out.box).1; omega)
      generalize (w9.setCell ⟨x, 18, none⟩ (.slice vp (k + 1) vc)) = w10 at *
      refine h5.out _ _ ((HSD.out _ _).2 ⟨o10.trans o9.2, fun h => absurd h (by decide)⟩) ?_
      clear h5
      try simp only [Act.put, List.setIfInBounds_toArray, List.set_cons_zero, List.set_cons_succ]
      refine wpAnyT_done (by kernel_rfl) ?_ _
      change Exit.inBlock _ _ _ _ w10
      clear hKP o10 hrow3 hone hsi3 o9 o3 o2 hA x18 fx hsi2 hbw2 hb2 hb3 hb23 hS og
      clear hlt
      have hlt : (k : Int) < N := Int.ofNat_lt.2 HLT.out
      go_wp2_with fail
      go_roundw
      case rel => exact ⟨k + 1, _, _, HLT.out, by go_num, HKP.out⟩
      case measure => simp [intOf]; omega
    · have hkN : k = N := by omega
      subst hkN
      obtain ⟨vp, vc, hv', _, _, _⟩ := ownsRow_form ST.out.row
      subst hv'
      have hd := ST.out
      have hne := hd.ne
      have hS2 := KpS.done (ss := ss) (rv := .slice vp k vc) (by rw [HN.out.1]; exact hd) HV.out.wf
      have HR := Lib.hid (range_of_row hd.box)
      have HS2 := Lib.hid hS2
      have HEO := Lib.hid (show (sarr s ⟨t1, t2, (.slice vp k vc)⟩).all (·.oneCell') = true from sarr_one hS2.sin)
      clear hd hS2
      go_wp2_with (first
        | (refine wpList_load_midTo rfl 33 (.tmp 1) rfl (some 41) rfl x 0 rfl (sarr s ⟨t1, t2, (.slice vp k vc)⟩) _ HR.out Try.underlying33 rfl size_state ?_)
        | (refine wpList_store_rowTo rfl 33 (.tmp 2) (.tmp 41) rfl rfl y (sarr s ⟨t1, t2, (.slice vp k vc)⟩) rfl rfl 33 (sarr zS default) ST.out.two size_state rfl HEO.out ?_))
      have hh := setRow_heap wr y _ (sarr s ⟨t1, t2, (.slice vp k vc)⟩) _ _ ST.out.two
      have hB := below_setRow ST.out.blw ST.out.ly (sarr s ⟨t1, t2, (.slice vp k vc)⟩)
      refine bodyPost_ret (results_cell_row (p := 2) (ty := 33) (by kernel_rfl) _ _ y 33 (sarr s ⟨t1, t2, (.slice vp k vc)⟩) (0, 0) _ rfl hh Try.underlying33 rfl size_state) rfl ?_
      have e1 := HS2.out.keep (w' := wr.setRow y (sarr s ⟨t1, t2, (.slice vp k vc)⟩)) (fun b q => setRow_other wr y b _ q.2.2.2)
      exact ⟨_, rfl, e1.wide (fun b q => ⟨q.1, by simpa using q.2.1⟩), hB⟩
end Go.Proofs.Ytcbjfakkikjbkaa
