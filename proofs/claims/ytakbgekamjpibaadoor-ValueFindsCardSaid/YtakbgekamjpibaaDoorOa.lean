/-
  The statements' book of lists that came out: what it is in memory. Plain lemmas. No conditions.
-/
import Derived.Test.YtakbgekamjpibaaDoorNa
import Derived.Test.YtakbgekamjpibaaDoorLib3
import Derived.Test.YtakbgekamjpibaaDoorVw
namespace Go.Proofs.YtakbgekamjpibaaDoor
open Go.RowKit Go.Maps
set_option linter.unusedVariables false

theorem set_offV {w : World} {b i j : Nat} {v : Value} (h : b ≠ j) : (w.setCell ⟨b, i, none⟩ v).heap[j]? = w.heap[j]? := set_farV (fun e => h e.symm)
theorem row_slice {W : World} {B T k n : Nat} {v : Value} {xs : List Value} (h : W.ownsRow B T k v n xs) : ∃ p c, v = .slice p n c := by
  rcases h.2 with ⟨rfl, rfl⟩ | ⟨g, cap, cur, rfl, _⟩
  · exact ⟨none, 0, rfl⟩
  · exact ⟨_, _, rfl⟩
theorem info_listsV : (Tryd.prog.info? 23).map (fun i => (i.zero, i.size, i.bytes)) = some (some (.slice none 0 0), 1, 24) := by kernel_rfl
theorem getD_mem {α : Type} {l : List α} {j : Nat} {d : α} (h : j < l.length) : l.getD j d ∈ l := by
  rw [List.getD_eq_getElem?_getD, List.getElem?_eq_getElem h]; exact List.getElem_mem h
theorem mem_getD {α : Type} {l : List α} {x : α} (d : α) (h : x ∈ l) : ∃ j, j < l.length ∧ l.getD j d = x := by
  obtain ⟨j, hj, rfl⟩ := List.mem_iff_getElem.1 h
  exact ⟨j, hj, by rw [List.getD_eq_getElem?_getD, List.getElem?_eq_getElem hj]; rfl⟩
theorem getD_snoc_lt {α : Type} {l : List α} {x d : α} {j : Nat} (h : j < l.length) : (l ++ [x]).getD j d = l.getD j d := by
  rw [List.getD_eq_getElem?_getD, List.getElem?_append_left h, ← List.getD_eq_getElem?_getD]
theorem getD_snoc_eq {α : Type} {l : List α} {x d : α} {j : Nat} (h : j = l.length) : (l ++ [x]).getD j d = x := by
  subst h; simp

/-- a block of values -/
def IsVal (w : World) (g : Nat) : Prop := ∃ cs fr, w.heap[g]? = some (.cells cs 25 fr)
theorem ownsRow_isVal {w : World} {B n : Nat} {v : Value} {xs : List Value} (h : w.ownsRow B 25 5 v n xs) {g : Nat} (hg : v.ownBlock = some g) : IsVal w g := by
  rcases h.2 with ⟨rfl, _⟩ | ⟨b, cap, cur, rfl, _, hb, _⟩
  · cases hg
  · simp only [Value.ownBlock, Option.some.injEq] at hg
    subst hg
    exact ⟨_, _, hb⟩
theorem VO.isVal {w : World} {B : Nat} {v : V} {s : Value} {F : Nat → Prop} (h : VO w B v s F) : ∀ g, F g → IsVal w g := by
  induction h with
  | mk v s F ss Fs wf hrow hin hd hs hF ih =>
    intro g hg
    rcases (hF g).1 hg with q | ⟨i, hi, q⟩
    · exact ownsRow_isVal hrow q
    · exact ih i hi g q

/-- a block of the book: its own, or its list of lists -/
def IsBk (w : World) (g : Nat) : Prop := (∃ cs fr, w.heap[g]? = some (.cells cs 42 fr)) ∨ ∃ cs fr, w.heap[g]? = some (.cells cs 23 fr)
theorem IsBk.of {w w' : World} {g : Nat} (h : IsBk w g) (e : w'.heap[g]? = w.heap[g]?) : IsBk w' g := by
  rcases h with ⟨a, b, h⟩ | ⟨a, b, h⟩
  · exact .inl ⟨a, b, e.trans h⟩
  · exact .inr ⟨a, b, e.trans h⟩
theorem IsVal.lt {w : World} {g : Nat} (h : IsVal w g) : g < w.heap.size := by obtain ⟨_, _, h⟩ := h; exact (Array.getElem?_eq_some_iff.1 h).1
theorem IsVal.of {w w' : World} {g : Nat} (h : IsVal w g) (e : w'.heap[g]? = w.heap[g]?) : IsVal w' g := by obtain ⟨a, b, h⟩ := h; exact ⟨a, b, e.trans h⟩
theorem IsVal.notBk {w : World} {g : Nat} (h : IsVal w g) : ¬ IsBk w g := by
  obtain ⟨a, b, h⟩ := h
  rintro (⟨c, d, q⟩ | ⟨c, d, q⟩)
  · rw [h] at q; simp at q
  · rw [h] at q; simp at q
/-- all is kept but the book's own blocks (of other types than values') and what is new -/
structure BkMv (w w' : World) : Prop where
  os : w'.os = w.os
  tape : w'.tape = w.tape
  output : w'.output = w.output
  size : w.heap.size ≤ w'.heap.size
  oth : ∀ g, g < w.heap.size → ¬ IsBk w g → w'.heap[g]? = w.heap[g]?
theorem BkMv.val {w w' : World} (h : BkMv w w') : ∀ g, IsVal w g → w'.heap[g]? = w.heap[g]? := fun g hg => h.oth g hg.lt hg.notBk
theorem BkMv.refl (w : World) : BkMv w w := ⟨rfl, rfl, rfl, Nat.le_refl _, fun _ _ _ => rfl⟩
theorem BkMv.trans {w w1 w2 : World} (h : BkMv w w1) (k : BkMv w1 w2) : BkMv w w2 :=
  ⟨k.os.trans h.os, k.tape.trans h.tape, k.output.trans h.output, Nat.le_trans h.size k.size, fun g hg hn => (k.oth g (Nat.lt_of_lt_of_le hg h.size) (fun q => hn (q.of (h.oth g hg hn).symm))).trans (h.oth g hg hn)⟩
theorem BkMv.of_below {w w' : World} (h : Below w.heap.size w w') : BkMv w w' := ⟨h.os, h.tape, h.output, h.size, fun g hg _ => h.block g hg⟩
theorem BkMv.own {w w' : World} (h : BkMv w w') {B n : Nat} {v : Value} {xs : List Value} (hv : w.ownsRow B 25 5 v n xs) : w'.ownsRow B 25 5 v n xs :=
  ownsRow_keep hv (fun j hj => h.val j (ownsRow_isVal hv hj))
theorem VL.isVal {w : World} {B : Nat} {v : V} {s : Value} {F : Nat → Prop} (h : VL w B v s F) : ∀ g, F g → IsVal w g := by
  induction h with
  | mk v b F c ss Fs wf hc hrow h1 h2 hin hd hs hF ih =>
    intro g hg
    rcases (hF g).1 hg with rfl | ⟨i, hi, q⟩
    · exact ownsRow_isVal hrow rfl
    · exact ih i hi g q
theorem BkMv.vl {w w' : World} (h : BkMv w w') {B : Nat} {v : V} {s : Value} {F : Nat → Prop} (hv : VL w B v s F) : VL w' B v s F := hv.keep (fun b hb => h.val b (hv.isVal b hb))
theorem BkMv.vo {w w' : World} (h : BkMv w w') {B : Nat} {v : V} {s : Value} {F : Nat → Prop} (hv : VO w B v s F) : VO w' B v s F := hv.keep (fun b hb => h.val b (hv.isVal b hb))

/-- the book: its lists vs; Q: where they lie -/
structure BkIn (w : World) (B bp : Nat) (vl : Value) (vs : List Value) (Q : Nat → Prop) : Prop where
  at_ : w.heap[bp]? = some (.cells #[vl] 42 (0, 0))
  row : w.ownsRow B 23 1 vl vs.length vs
  has : ∀ j, j < vs.length → ∃ n xs, w.ownsRow B 25 5 (vs.getD j default) n xs ∧ n ≤ 1000000
  blk : ∀ j, j < vs.length → ∀ g, (vs.getD j default).ownBlock = some g → Q g
  dist : DistG vs
  lt : B ≤ bp
  le : B ≤ w.heap.size
section
variable {w w' wr : World} {B bp : Nat} {vl vl' : Value} {vs : List Value} {Q : Nat → Prop}
theorem BkIn.offl (h : BkIn w B bp vl vs Q) : vl.ownBlock ≠ some bp := ownsRow_off h.row h.at_ (by decide)
theorem BkIn.below (h : BkIn w B bp vl vs Q) (hb : Below w.heap.size w w') : BkIn w' B bp vl vs Q :=
  ⟨(hb.block bp (Array.getElem?_eq_some_iff.1 h.at_).1).trans h.at_, ownsRow_keep h.row (fun j hj => hb.block j (h.row.lt j hj).2), fun j hj => by obtain ⟨n, xs, h1, h2⟩ := h.has j hj; exact ⟨n, xs, ownsRow_keep h1 (fun i hi => hb.block i (h1.lt i hi).2), h2⟩, h.blk, h.dist, h.lt, Nat.le_trans h.le hb.size⟩
theorem BkIn.wide {Q' : Nat → Prop} (h : BkIn w B bp vl vs Q) (hq : ∀ g, Q g → Q' g) : BkIn w B bp vl vs Q' := ⟨h.at_, h.row, h.has, fun j hj g hg => hq g (h.blk j hj g hg), h.dist, h.lt, h.le⟩
/-- some blocks of values are written over, none of the book's -/
theorem BkIn.keepF {F : Nat → Prop} (h : BkIn w B bp vl vs Q) (hk : KeepF F w w') (hF : ∀ g, F g → IsVal w g) (hd : ∀ g, Q g → ¬ F g) : BkIn w' B bp vl vs Q := by
  have off : ∀ {g T : Nat} {cs : Array Value} {fr : Nat × Nat}, w.heap[g]? = some (.cells cs T fr) → T ≠ 25 → ¬ F g := fun {g T cs fr} hg hT hf => by
    obtain ⟨c2, f2, h2⟩ := hF g hf
    rw [hg] at h2
    simp only [Option.some.injEq, Obj.cells.injEq] at h2
    exact hT h2.2.1
  refine ⟨(hk.block bp (Array.getElem?_eq_some_iff.1 h.at_).1 (off h.at_ (by decide))).trans h.at_, ownsRow_keep h.row (fun j hj => hk.block j (h.row.lt j hj).2 (fun hf => ?_)), fun j hj => by obtain ⟨n, xs, h1, h2⟩ := h.has j hj; exact ⟨n, xs, ownsRow_keep h1 (fun i hi => hk.block i (h1.lt i hi).2 (hd i (h.blk j hj i hi))), h2⟩, h.blk, h.dist, h.lt, Nat.le_trans h.le hk.size⟩
  rcases h.row.2 with ⟨rfl, _⟩ | ⟨b, cap, cur, rfl, _, hb, _⟩
  · cases hj
  · simp only [Value.ownBlock, Option.some.injEq] at hj
    subst hj
    exact off hb (by decide) hf
/-- what the lists' owner writes -/
theorem BkIn.keepQ (h : BkIn w B bp vl vs Q) (ho : OnlyG vs w w') : KeepF Q w w' := ⟨ho.os, ho.tape, ho.output, ho.size, fun k hk hn => ho.block k hk (fun v hv q => by
  obtain ⟨j, hj, rfl⟩ := mem_getD default hv
  exact hn (h.blk j hj k q))⟩
theorem BkIn.start {w : World} {B : Nat} (hB : B ≤ w.heap.size) : BkIn (w.alloc (.cells #[.slice none 0 0] 42)) B w.heap.size (.slice none 0 0) [] (fun _ => False) :=
  ⟨_root_.Go.heap_alloc_new _ _, World.ownsRow_nil _ _ _ _, fun j hj => absurd hj (Nat.not_lt_zero _), fun j hj => absurd hj (Nat.not_lt_zero _), fun i j hi => absurd hi (Nat.not_lt_zero _), hB, by simp; omega⟩
/-- a list is put into the book -/
theorem BkIn.push {v : Value} {n : Nat} {xs : List Value} (h : BkIn wr B bp vl vs Q) (hv : wr.ownsRow B 25 5 v n xs) (hn : n ≤ 1000000) (hdis : ∀ g, v.ownBlock = some g → ¬ Q g)
    (hr : w'.ownsRow B 23 1 vl' (vs.length + 1) (vs ++ [v])) (hg : wr.grownBy w' vl.ownBlock) (hs : SameOrNew wr vl vl') :
    BkIn (w'.setCell ⟨bp, 0, none⟩ vl') B bp vl' (vs ++ [v]) (fun g => Q g ∨ v.ownBlock = some g) ∧ BkMv wr (w'.setCell ⟨bp, 0, none⟩ vl') ∧ Below B wr (w'.setCell ⟨bp, 0, none⟩ vl') := by
  have hbp : w'.heap[bp]? = _ := (hg.block bp (Array.getElem?_eq_some_iff.1 h.at_).1 (fun e => h.offl e.symm)).trans h.at_
  have hnew : ∀ j, vl'.ownBlock = some j → vl.ownBlock = some j ∨ wr.heap.size ≤ j := fun j hj => by
    rcases hs with q | ⟨g, q, q2⟩
    · exact .inl (by rw [← q, hj])
    · rw [hj] at q; cases q; exact .inr q2
  have hbl : bp < wr.heap.size := (Array.getElem?_eq_some_iff.1 h.at_).1
  have hmv : BkMv wr (w'.setCell ⟨bp, 0, none⟩ vl') := by
    refine ⟨hg.os, hg.tape, hg.output, by have := hg.size; simp [World.setCell]; omega, fun g hgl hnb => ?_⟩
    have h1 : bp ≠ g := fun e => by subst e; exact hnb (.inl ⟨_, _, h.at_⟩)
    have h2 : some g ≠ vl.ownBlock := fun e => by
      rcases h.row.2 with ⟨q, _⟩ | ⟨b, cap, cur, q, _, hb, _⟩
      · rw [q] at e; cases e
      · rw [q] at e
        simp only [Value.ownBlock, Option.some.injEq] at e
        subst e
        exact hnb (.inr ⟨_, _, hb⟩)
    rw [set_offV h1]
    exact hg.block g hgl h2
  refine ⟨⟨?_, ?_, fun j hj => ?_, fun j hj g hgj => ?_, fun i j hi hj hij => ?_, h.lt, ?_⟩, hmv, ((Below.refl B wr).grown hg h.le (fun k hk => (h.row.lt k hk).1)).setCell (p := ⟨bp, 0, none⟩) h.lt _⟩
  · rw [heap_setCell_same _ bp 0 _ _ _ hbp]
    rfl
  · rw [List.length_append, List.length_singleton]
    refine ownsRow_keep hr (fun j hj => set_offV (fun e => ?_))
    subst e
    rcases hnew _ hj with q | q
    · exact h.offl q
    · omega
  · by_cases hjl : j < vs.length
    · rw [getD_snoc_lt hjl]
      obtain ⟨m, ys, h1, h2⟩ := h.has j hjl
      exact ⟨m, ys, hmv.own h1, h2⟩
    · rw [getD_snoc_eq (by simp at hj; omega)]
      exact ⟨n, xs, hmv.own hv, hn⟩
  · by_cases hjl : j < vs.length
    · rw [getD_snoc_lt hjl] at hgj
      exact .inl (h.blk j hjl g hgj)
    · rw [getD_snoc_eq (by simp at hj; omega)] at hgj
      exact .inr hgj
  · rw [List.length_append, List.length_singleton] at hi hj
    by_cases hiv : i < vs.length
    · rw [getD_snoc_lt hiv]
      by_cases hjv : j < vs.length
      · rw [getD_snoc_lt hjv]; exact h.dist i j hiv hjv hij
      · rw [getD_snoc_eq (show j = vs.length by omega)]
        cases hb : (vs.getD i default).ownBlock with
        | none => exact .inl rfl
        | some b => exact .inr (fun q => hdis b q.symm (h.blk i hiv b hb))
    · rw [getD_snoc_eq (show i = vs.length by omega), getD_snoc_lt (show j < vs.length by omega)]
      cases hb : v.ownBlock with
      | none => exact .inl rfl
      | some b => exact .inr (fun q => hdis b hb (h.blk j (by omega) b q.symm))
  · have := hg.size
    have := h.le
    simp [World.setCell]
    omega
end
end Go.Proofs.YtakbgekamjpibaaDoor
