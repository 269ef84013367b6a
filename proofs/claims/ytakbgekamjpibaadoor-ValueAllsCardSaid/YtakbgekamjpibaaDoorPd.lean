/-
  A range over All of which all parts are put into the book: what a round keeps. Plain lemmas, and a drawing region within a round. No conditions.
-/
import Derived.Test.YtakbgekamjpibaaDoorMg32
import Derived.Test.YtakbgekamjpibaaDoorMg20
import Derived.StillTail
namespace Go.Proofs.YtakbgekamjpibaaDoor
open Go.RowKit
set_option linter.unusedVariables false

/-- a drawing region within a round: its first n operations only read, the others follow one another -/
theorem wpIn_region_still_tail {P : Program} {id l' n' : Nat} {Q : Exit → Act → World → Prop} {a : Act} {w : World} {l : List Oper} (n : Nat) (hm : P.follows .mixedOrders = true) (hnd : noDeferB l.toArray = true) (hL : ¬ LetsOut Q) (hB : Region.lexTailB .any l.toArray n = true)
    (h : wpStill P l.toArray { w with drawn := w.drawn + 1 } (fun a' => wpList P l.toArray Q (l.drop n) a' { w with drawn := w.drawn + 1 }) (l.take n) a) : (Code.region id l.toArray true).wpIn (Fence.wide.inRound l') n' P Q a w := by
  simp only [Region.lexTailB, Bool.and_eq_true, decide_eq_true_eq] at hB
  obtain ⟨⟨⟨⟨hsel, hn⟩, hs⟩, hc⟩, hlex⟩ := hB
  have hn' : n < l.length := by simpa using hn
  have htl : (l.take n).length = n := by simp; omega
  have hdl : (l.drop n).length = l.toArray.size - n := by simp
  have inv0 : HeadInv .any l.toArray n (Array.replicate l.toArray.size false) :=
    ⟨by simp, fun j oj _ hl => (by rw [getD_replicate_false] at hl; cases hl), fun t _ ht => getD_in (by simpa using ht) (getD_replicate_false _ _)⟩
  have H := wpAnyL_lex (md := .any) (g := l.toArray.size - n) hsel hs hc hn (l.take n) 0 _ a (fun j hj => by
    have hj' : j < n := by rw [htl] at hj; exact hj
    simp [hj']) (by simpa using htl) inv0 (by rw [htl]; exact hlex) h
  refine wpIn_region_of_any hm hnd hL ?_
  have := wpAny_of_head (Q' := Q) (g := l.toArray.size - n) (fun listed a' hL => by
    have := wpAny_of_seq (md := .any) (Q' := Q) (l.drop n) n listed a' { w with drawn := w.drawn + 1 } (fun j => by simp [List.getElem?_drop]) (by rw [hdl]; exact hL.1) hL.2
    rwa [hdl] at this) _ _ _ H
  rw [htl, show n + (l.toArray.size - n) = l.toArray.size by omega] at this
  exact this

/-- the blocks of the book's lists -/
def BkQ (vs : List Value) (g : Nat) : Prop := ∃ j, j < vs.length ∧ (vs.getD j default).ownBlock = some g
theorem BkIn.exact {w : World} {B bp : Nat} {vl : Value} {vs : List Value} {Q : Nat → Prop} (h : BkIn w B bp vl vs Q) : BkIn w B bp vl vs (BkQ vs) := ⟨h.at_, h.row, h.has, fun j hj g hg => ⟨j, hj, hg⟩, h.dist, h.lt, h.le⟩
theorem BkIn.qlt {w : World} {B bp : Nat} {vl : Value} {vs : List Value} {Q : Nat → Prop} (h : BkIn w B bp vl vs Q) {g : Nat} (hg : BkQ vs g) : B ≤ g ∧ g < w.heap.size := by
  obtain ⟨j, hj, e⟩ := hg
  obtain ⟨n, xs, h1, _⟩ := h.has j hj
  exact h1.lt g e
theorem BkIn.qsub {w : World} {B bp : Nat} {vl : Value} {vs : List Value} {Q : Nat → Prop} (h : BkIn w B bp vl vs Q) {g : Nat} (hg : BkQ vs g) : Q g := by
  obtain ⟨j, hj, e⟩ := hg
  exact h.blk j hj g e
theorem BkIn.same {w w' : World} {B bp : Nat} {vl : Value} {vs : List Value} {Q : Nat → Prop} (h : BkIn w B bp vl vs Q) (hz : w.heap.size ≤ w'.heap.size) (e : ∀ g, g < w.heap.size → (g = bp ∨ vl.ownBlock = some g ∨ BkQ vs g) → w'.heap[g]? = w.heap[g]?) : BkIn w' B bp vl vs Q :=
  ⟨(e bp (Array.getElem?_eq_some_iff.1 h.at_).1 (.inl rfl)).trans h.at_, ownsRow_keep h.row (fun j hj => e j (h.row.lt j hj).2 (.inr (.inl hj))), fun j hj => by
    obtain ⟨n, xs, h1, h2⟩ := h.has j hj
    exact ⟨n, xs, ownsRow_keep h1 (fun i hi => e i (h1.lt i hi).2 (.inr (.inr ⟨j, hj, hi⟩))), h2⟩, h.blk, h.dist, h.lt, Nat.le_trans h.le hz⟩

/-- all is kept but the book's own blocks, one cell, and what is new -/
structure BkMvR (r : Nat) (w w' : World) : Prop where
  os : w'.os = w.os
  tape : w'.tape = w.tape
  output : w'.output = w.output
  size : w.heap.size ≤ w'.heap.size
  oth : ∀ g, g < w.heap.size → ¬ IsBk w g → g ≠ r → w'.heap[g]? = w.heap[g]?
theorem BkMvR.refl (r : Nat) (w : World) : BkMvR r w w := ⟨rfl, rfl, rfl, Nat.le_refl _, fun _ _ _ _ => rfl⟩
theorem BkMvR.of {r : Nat} {w w' : World} (h : BkMv w w') : BkMvR r w w' := ⟨h.os, h.tape, h.output, h.size, fun g hg hn _ => h.oth g hg hn⟩
theorem BkMvR.trans {r : Nat} {w w1 w2 : World} (h : BkMvR r w w1) (k : BkMvR r w1 w2) : BkMvR r w w2 :=
  ⟨k.os.trans h.os, k.tape.trans h.tape, k.output.trans h.output, Nat.le_trans h.size k.size, fun g hg hn hr => (k.oth g (Nat.lt_of_lt_of_le hg h.size) (fun q => hn (q.of (h.oth g hg hn hr).symm)) hr).trans (h.oth g hg hn hr)⟩
theorem BkMvR.mv {r : Nat} {w w1 w2 : World} (h : BkMv w w1) (k : BkMvR r w1 w2) (hr : w.heap.size ≤ r) : BkMv w w2 :=
  ⟨k.os.trans h.os, k.tape.trans h.tape, k.output.trans h.output, Nat.le_trans h.size k.size, fun g hg hn => (k.oth g (Nat.lt_of_lt_of_le hg h.size) (fun q => hn (q.of (h.oth g hg hn).symm)) (by omega)).trans (h.oth g hg hn)⟩

/-- how it stands ahead of a round -/
structure GoI (w0 wE : World) (bp r m0 : Nat) (Q0 : Nat → Prop) (L : List (Int × V)) (k : Nat) (O : Nat → Prop) (W : World) (vl : Value) (vs : List Value) : Prop where
  hO : O = fun j => j = r ∨ j = bp ∨ vl.ownBlock = some j ∨ BkQ vs j
  bk : BkIn W w0.heap.size bp vl vs (BkQ vs)
  len : vs.length ≤ m0 + cost (L.take k)
  cell : W.heap[r]? = some (.cells #[.int .i64 k] 3 (0, 0))
  mv : BkMvR r wE W
  blw : Below w0.heap.size wE W
  off : r ≠ bp ∧ vl.ownBlock ≠ some r ∧ ¬ BkQ vs r
  ge : w0.heap.size ≤ r ∧ w0.heap.size ≤ wE.heap.size
  old : ∀ g, BkQ vs g → Q0 g ∨ wE.heap.size ≤ g
section
variable {w0 wE W W' Wb w1 w2 : World} {bp r m0 k d lp : Nat} {L : List (Int × V)} {O F Q0 : Nat → Prop} {vl vl2 : Value} {vs vs2 : List Value}
theorem GoI.lt (h : GoI w0 wE bp r m0 Q0 L k O W vl vs) : ∀ j, O j → j < W.heap.size := by
  intro j hj
  rw [h.hO] at hj
  rcases hj with rfl | rfl | q | q
  · exact (Array.getElem?_eq_some_iff.1 h.cell).1
  · exact (Array.getElem?_eq_some_iff.1 h.bk.at_).1
  · exact (h.bk.row.lt j q).2
  · exact (h.bk.qlt q).2
theorem GoI.same (h : GoI w0 wE bp r m0 Q0 L k O W vl vs) (hz : W.heap.size ≤ W'.heap.size) (ho : W'.os = W.os) (ht : W'.tape = W.tape) (hp : W'.output = W.output) (e : ∀ g, g < W.heap.size → (O g ∨ g < wE.heap.size) → W'.heap[g]? = W.heap[g]?) : GoI w0 wE bp r m0 Q0 L k O W' vl vs := by
  have hO := h.hO
  refine ⟨h.hO, h.bk.same hz (fun g hg q => e g hg (.inl ?_)), h.len, (e r (Array.getElem?_eq_some_iff.1 h.cell).1 (.inl ?_)).trans h.cell, ⟨ho.trans h.mv.os, ht.trans h.mv.tape, hp.trans h.mv.output, Nat.le_trans h.mv.size hz, fun g hg hn hr => (e g (Nat.lt_of_lt_of_le hg h.mv.size) (.inr hg)).trans (h.mv.oth g hg hn hr)⟩,
    ⟨ho.trans h.blw.os, ht.trans h.blw.tape, hp.trans h.blw.output, Nat.le_trans h.blw.size hz, fun g hg => (e g (by have := h.ge.2; have := h.blw.size; omega) (.inr (by have := h.ge.2; omega))).trans (h.blw.block g hg)⟩, h.off, h.ge, h.old⟩
  · rw [hO]; rcases q with q | q | q
    · exact .inr (.inl q)
    · exact .inr (.inr (.inl q))
    · exact .inr (.inr (.inr q))
  · rw [hO]; exact .inl rfl
theorem GoI.turn (h : GoI w0 wE bp r m0 Q0 L k O W vl vs) (hg : W.grownBy W' (some d)) (hd : wE.heap.size ≤ d) (hO : ¬ O d) : GoI w0 wE bp r m0 Q0 L k O W' vl vs :=
  h.same hg.size hg.os hg.tape hg.output (fun g h1 h2 => hg.block g h1 (fun e => by
    have := Option.some.inj e
    subst this
    rcases h2 with h2 | h2
    · exact hO h2
    · omega))
theorem GoI.blw' (h : GoI w0 wE bp r m0 Q0 L k O W vl vs) (hb : Below W.heap.size W W') : GoI w0 wE bp r m0 Q0 L k O W' vl vs :=
  h.same hb.size hb.os hb.tape hb.output (fun g h1 _ => hb.block g h1)
theorem GoI.inb (h : GoI w0 wE bp r m0 Q0 L k O W vl vs) (hb : InBody lp W Wb) (hlp : ¬ O lp) (hle : wE.heap.size ≤ lp) : GoI w0 wE bp r m0 Q0 L k O Wb vl vs :=
  h.same hb.size hb.os hb.tape hb.output (fun g h1 h2 => hb.rest g h1 (fun e => by
    subst e
    rcases h2 with h2 | h2
    · exact hlp h2
    · omega))
/-- a part is put into the book -/
theorem GoI.take (h : GoI w0 wE bp r m0 Q0 L k O W vl vs) {z : V} {dd : Int} (hL : L[k]? = some (dd, z)) (hb : BkIn w2 w0.heap.size bp vl2 vs2 (fun g => BkQ vs g ∨ F g)) (hl : vs2.length ≤ vs.length + z.sz) (hfr : BkFr bp vl W vl2 w2) (hmv : BkMv W w2) (hbl : Below w0.heap.size W w2) (hF : ∀ g, F g → wE.heap.size ≤ g ∧ g < W.heap.size ∧ ¬ O g) (hr : r < wE.heap.size) :
    GoI w0 wE bp r m0 Q0 L (k + 1) (fun j => j = r ∨ j = bp ∨ vl2.ownBlock = some j ∨ BkQ vs2 j) (w2.setCell ⟨r, 0, none⟩ (.int .i64 (k + 1 : Nat))) vl2 vs2 ∧ (∀ j, j < W.heap.size → ¬ O j → (w2.setCell ⟨r, 0, none⟩ (.int .i64 (k + 1 : Nat))).heap[j]? = W.heap[j]?) ∧
    (∀ j, (j = r ∨ j = bp ∨ vl2.ownBlock = some j ∨ BkQ vs2 j) → (O j ∨ F j) ∨ W.heap.size ≤ j) ∧ W.heap.size ≤ (w2.setCell ⟨r, 0, none⟩ (.int .i64 (k + 1 : Nat))).heap.size := by
  have hO := h.hO
  have hrW := (Array.getElem?_eq_some_iff.1 h.cell).1
  have hnO : ∀ j, ¬ O j → j ≠ r ∧ j ≠ bp ∧ vl.ownBlock ≠ some j ∧ ¬ BkQ vs j := fun j q => by
    rw [hO] at q
    exact ⟨fun e => q (.inl e), fun e => q (.inr (.inl e)), fun e => q (.inr (.inr (.inl e))), fun e => q (.inr (.inr (.inr e)))⟩
  have hr2 : w2.heap[r]? = some (.cells #[.int .i64 k] 3 (0, 0)) := (hfr.blk r hrW h.off.1 h.off.2.1).trans h.cell
  have hoff2 : r ≠ bp ∧ vl2.ownBlock ≠ some r ∧ ¬ BkQ vs2 r := by
    refine ⟨h.off.1, fun e => ?_, fun e => ?_⟩
    · rcases hfr.own r e with q | q
      · exact h.off.2.1 q
      · omega
    · rcases hb.qsub e with q | q
      · exact h.off.2.2 q
      · have := (hF r q).1; omega
  have hsz : (w2.setCell ⟨r, 0, none⟩ (.int .i64 (k + 1 : Nat))).heap.size = w2.heap.size := by simp
  have hfar : ∀ j, j ≠ r → (w2.setCell ⟨r, 0, none⟩ (.int .i64 (k + 1 : Nat))).heap[j]? = w2.heap[j]? := fun j hj => set_farV hj
  refine ⟨⟨rfl, hb.exact.same (by rw [hsz]; exact Nat.le_refl _) (fun g hg q => hfar g (fun e => ?_)), ?_, heap_setCell_same w2 r 0 _ _ (.int .i64 (k + 1 : Nat)) hr2, ?_, ?_, hoff2, h.ge, fun g hg => ?_⟩, ?_, ?_, by rw [hsz]; exact hfr.size⟩
  · subst e
    rcases q with q | q | q
    · exact hoff2.1 q
    · exact hoff2.2.1 q
    · exact hoff2.2.2 q
  · rw [cost_take1 hL]
    have := h.len
    simp only
    omega
  · have h1 := (h.mv.trans (BkMvR.of hmv))
    exact ⟨h1.os, h1.tape, h1.output, by rw [hsz]; exact h1.size, fun g hg hn hr => (hfar g hr).trans (h1.oth g hg hn hr)⟩
  · exact (h.blw.trans hbl).setCell (p := ⟨r, 0, none⟩) h.ge.1 _
  · rcases hb.qsub hg with q | q
    · exact h.old g q
    · exact .inr (hF g q).1
  · intro j hj hn
    obtain ⟨n1, n2, n3, n4⟩ := hnO j hn
    exact (hfar j n1).trans (hfr.blk j hj n2 n3)
  · intro j hj
    rw [hO]
    rcases hj with q | q | q | q
    · exact .inl (.inl (.inl q))
    · exact .inl (.inl (.inr (.inl q)))
    · rcases hfr.own j q with q | q
      · exact .inl (.inl (.inr (.inr (.inl q))))
      · exact .inr q
    · rcases hb.qsub q with q | q
      · exact .inl (.inl (.inr (.inr (.inr q))))
      · exact .inl (.inr q)
end
end Go.Proofs.YtakbgekamjpibaaDoor
