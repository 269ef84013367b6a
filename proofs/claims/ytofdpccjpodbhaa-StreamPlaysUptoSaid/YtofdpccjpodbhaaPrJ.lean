/-
  A stream beside the document's, within a loop's round: how all lies between the round's statements. It speaks of no code. No conditions.
-/
import Derived.Test.YtofdpccjpodbhaaMg34
namespace Go.Proofs.Ytofdpccjpodbhaa
open Go.RowKit
set_option linter.unusedVariables false

/-- what a round begins with: the stream has moved on, an item has come; the document's has 'left' to take, which brings it -/
structure AtI (K : PK) (N : Nat) (gp gk gl : Nat) (fr : Nat) (s' q : SM) (hv rv vc vd : Value) (L M : List (Itm × Value × Value)) (O : Nat → Prop) (it : Itm) (ve vb : Value) (left : List UInt8) (pl : Option Addr) (nl cl m : Nat) (W : World) : Prop where
  pair : Pair K fr s' q hv rv vc vd L M O W
  ne : New K O hv W ve it.ext
  nb : New K O hv W vb it.body
  ap : Far ve vb
  cp : W.heap[gp]? = some (.cells #[.pointer (some ⟨K.pb, 0, none⟩)] 55 (0, 0))
  ck : W.heap[gk]? = some (.cells #[.bool true] 4 (0, 0))
  cel : W.heap[gl]? = some (.cells #[.slice pl nl cl] 22 (0, 0))
  by_ : BytesIn W pl nl cl left
  low : LowA K.B pl cl
  take : takeR q left = (s', it, m)
  le : m ≤ nl
  off : ∀ j, j = gp ∨ j = gk ∨ j = gl → ¬ O j ∧ j ≠ K.b ∧ hv.ownBlock ≠ some j ∧ K.B ≤ j
  eN : (∀ j, ve.ownBlock = some j → N ≤ j) ∧ ∀ j, vb.ownBlock = some j → N ≤ j
  nz : N ≤ W.heap.size

theorem AtI.keep {K : PK} {N : Nat} {W W' : World} {gp gk gl fr : Nat} {s' q : SM} {hv rv vc vd : Value} {L M : List (Itm × Value × Value)} {O : Nat → Prop} {it : Itm} {ve vb : Value} {left : List UInt8} {pl : Option Addr} {nl cl m : Nat} (h : AtI K N gp gk gl fr s' q hv rv vc vd L M O it ve vb left pl nl cl m W) (hz : W.heap.size ≤ W'.heap.size) (d : Nat)
    (e : ∀ j, j < W.heap.size → j ≠ d → W'.heap[j]? = W.heap[j]?) (hd : ¬ O d ∧ d ≠ K.b ∧ hv.ownBlock ≠ some d ∧ d ≠ gp ∧ d ≠ gk ∧ d ≠ gl ∧ ve.ownBlock ≠ some d ∧ vb.ownBlock ≠ some d ∧ K.B ≤ d) : AtI K N gp gk gl fr s' q hv rv vc vd L M O it ve vb left pl nl cl m W' := by
  have hb := h.pair.blt
  refine ⟨h.pair.keep hz (fun j hj => e j (hb j hj) (fun e2 => ?_)), h.ne.keep (fun j hj => e j (h.ne.own.row.lt j hj).2 (fun e2 => hd.2.2.2.2.2.2.1 (e2 ▸ hj))) (fun _ _ h => h) rfl, h.nb.keep (fun j hj => e j (h.nb.own.row.lt j hj).2 (fun e2 => hd.2.2.2.2.2.2.2.1 (e2 ▸ hj))) (fun _ _ h => h) rfl, h.ap,
    (e gp (Array.getElem?_eq_some_iff.1 h.cp).1 (fun e2 => hd.2.2.2.1 e2.symm)).trans h.cp, (e gk (Array.getElem?_eq_some_iff.1 h.ck).1 (fun e2 => hd.2.2.2.2.1 e2.symm)).trans h.ck, (e gl (Array.getElem?_eq_some_iff.1 h.cel).1 (fun e2 => hd.2.2.2.2.2.1 e2.symm)).trans h.cel,
    h.by_.low (B := K.B) (fun j hj => e j (Nat.lt_of_lt_of_le hj h.pair.bb.2.2) (by have := hd.2.2.2.2.2.2.2.2; omega)) hz h.low, h.low, h.take, h.le, h.off, h.eN, Nat.le_trans h.nz hz⟩
  subst e2
  rcases hj with hj | hj | hj
  · exact hd.1 hj
  · exact hd.2.1 hj
  · exact hd.2.2.1 hj

/-- the blocks that a round writes -/
def OX (gk gl : Nat) (O : Nat → Prop) (j : Nat) : Prop := O j ∨ j = gk ∨ j = gl

theorem bytes_ne_cells {W : World} {B j T : Nat} {u : Value} {l : List UInt8} {cs : Array Value} {f : Nat × Nat} (h : OwnBytes W B 5 u l) (hj : W.heap[j]? = some (.cells cs T f)) (hT : T ≠ 5) : u.ownBlock ≠ some j := fun e => by
  obtain ⟨cs', f', hc⟩ := ownsRow_block h.row j e
  exact cells_ne hc hj (fun e => hT e.symm) rfl

/-- between the statements -/
structure AtJ (K : PK) (N : Nat) (W0 : World) (O0 : Nat → Prop) (gp gk gl x : Nat) (fr : Nat) (s' : SM) (hv rv vc vd : Value) (L M : List (Itm × Value × Value)) (O : Nat → Prop) (it : Itm) (ve vb we wb : Value) (pl : Option Addr) (nl cl : Nat) (W : World) : Prop where
  pair : Pair K fr s' s' hv rv vc vd L M O W
  ne : New K O hv W ve it.ext
  nb : New K O hv W vb it.body
  nwe : New K O hv W we it.ext
  nwb : New K O hv W wb it.body
  ap : Far ve vb
  aw : Far ve we ∧ Far ve wb ∧ Far vb we ∧ Far vb wb
  cp : W.heap[gp]? = some (.cells #[.pointer (some ⟨K.pb, 0, none⟩)] 55 (0, 0))
  ck : W.heap[gk]? = some (.cells #[.bool true] 4 (0, 0))
  cel : W.heap[gl]? = some (.cells #[.slice pl nl cl] 22 (0, 0))
  ix : ItAt W x it ve vb
  off : ∀ j, j = gp ∨ j = gk ∨ j = gl ∨ j = x → ¬ O j ∧ j ≠ K.b ∧ hv.ownBlock ≠ some j ∧ K.B ≤ j
  eN : ((∀ j, ve.ownBlock = some j → N ≤ j) ∧ ∀ j, vb.ownBlock = some j → N ≤ j) ∧ (∀ j, we.ownBlock = some j → N ≤ j) ∧ ∀ j, wb.ownBlock = some j → N ≤ j
  keep : KeepO N (OX gk gl O0) K.b hv W0 (OX gk gl O) hv W
  nz : N ≤ W0.heap.size
  vN : ∀ j, vc.ownBlock = some j ∨ vd.ownBlock = some j ∨ rv.ownBlock = some j → O0 j ∨ W0.heap.size ≤ j
  o0 : O0 K.pb
  ownP : ∀ j, O j → O0 j ∨ N ≤ j

theorem KeepO.ox {N : Nat} {gk gl b : Nat} {O O2 : Nat → Prop} {hv hv2 : Value} {W W2 : World} (h : KeepO N O b hv W O2 hv2 W2) : KeepO N (OX gk gl O) b hv W (OX gk gl O2) hv2 W2 :=
  ⟨h.os, h.tape, h.output, h.size, fun j h1 h2 h3 h4 => h.block j h1 (fun ho => h2 (.inl ho)) h3 h4, fun j hj => by
    rcases hj with hj | hj
    · rcases h.own j hj with h1 | h1
      · exact .inl (.inl h1)
      · exact .inr h1
    · exact .inl (.inr hj), h.held⟩

/-- one block alone has turned, none of all these -/
theorem AtJ.turn {K : PK} {N : Nat} {W0 : World} {O0 : Nat → Prop} {gp gk gl x fr : Nat} {s' : SM} {hv rv vc vd : Value} {L M : List (Itm × Value × Value)} {O : Nat → Prop} {it : Itm} {ve vb we wb : Value} {pl : Option Addr} {nl cl : Nat} {W W' : World} (h : AtJ K N W0 O0 gp gk gl x fr s' hv rv vc vd L M O it ve vb we wb pl nl cl W) (d : Nat) (hg : W.grownBy W' (some d))
    (hd : ¬ O d ∧ d ≠ K.b ∧ hv.ownBlock ≠ some d ∧ d ≠ gp ∧ d ≠ gk ∧ d ≠ gl ∧ d ≠ x ∧ ve.ownBlock ≠ some d ∧ vb.ownBlock ≠ some d ∧ we.ownBlock ≠ some d ∧ wb.ownBlock ≠ some d) (hN : W0.heap.size ≤ d ∨ W.heap.size ≤ d) : AtJ K N W0 O0 gp gk gl x fr s' hv rv vc vd L M O it ve vb we wb pl nl cl W' := by
  obtain ⟨d1, d2, d3, d4, d5, d6, d7, d8, d9, d10, d11⟩ := hd
  have nw : ∀ {u : Value} {l : List UInt8}, New K O hv W u l → u.ownBlock ≠ some d → New K O hv W' u l := fun hu hn => hu.keep (fun j hj => hg.block j (hu.own.row.lt j hj).2 (fun e => hn (by rw [hj, e]))) (fun _ _ h => h) rfl
  have at_ : ∀ {j : Nat} {cs : Array Value} {T : Nat} {f : Nat × Nat}, W.heap[j]? = some (.cells cs T f) → d ≠ j → W'.heap[j]? = some (.cells cs T f) := fun hj hn => (hg.block _ (Array.getElem?_eq_some_iff.1 hj).1 (fun e => hn (Option.some.inj e).symm)).trans hj
  have hsz := h.keep.size
  refine ⟨h.pair.grown hg d1 d2 d3, nw h.ne d8, nw h.nb d9, nw h.nwe d10, nw h.nwb d11, h.ap, h.aw, at_ h.cp d4, at_ h.ck d5, at_ h.cel d6, at_ h.ix d7, h.off, h.eN, ?_, h.nz, h.vN, h.o0, h.ownP⟩
  exact ⟨hg.os.trans h.keep.os, hg.tape.trans h.keep.tape, hg.output.trans h.keep.output, Nat.le_trans hsz hg.size, fun j h1 h2 h3 h4 => (hg.block j (Nat.lt_of_lt_of_le h1 hsz) (fun e => by have := Option.some.inj e; omega)).trans (h.keep.block j h1 h2 h3 h4), h.keep.own, h.keep.held⟩

theorem AtJ.lts {K : PK} {N : Nat} {W0 : World} {O0 : Nat → Prop} {gp gk gl x fr : Nat} {s' : SM} {hv rv vc vd : Value} {L M : List (Itm × Value × Value)} {O : Nat → Prop} {it : Itm} {ve vb we wb : Value} {pl : Option Addr} {nl cl : Nat} {W : World} (h : AtJ K N W0 O0 gp gk gl x fr s' hv rv vc vd L M O it ve vb we wb pl nl cl W) (d : Nat) (hd : W.heap.size ≤ d) :
    ¬ O d ∧ d ≠ K.b ∧ hv.ownBlock ≠ some d ∧ d ≠ gp ∧ d ≠ gk ∧ d ≠ gl ∧ d ≠ x ∧ ve.ownBlock ≠ some d ∧ vb.ownBlock ≠ some d ∧ we.ownBlock ≠ some d ∧ wb.ownBlock ≠ some d := by
  have lt : ∀ {j : Nat} {o : Obj}, W.heap[j]? = some o → d ≠ j := fun hj e => by have := (Array.getElem?_eq_some_iff.1 hj).1; omega
  have hb := h.pair.blt
  exact ⟨fun e => by have := hb d (.inl e); omega, fun e => by have := hb d (.inr (.inl e)); omega, fun e => by have := hb d (.inr (.inr e)); omega, lt h.cp, lt h.ck, lt h.cel, lt h.ix, fun e => by have := (h.ne.own.row.lt d e).2; omega, fun e => by have := (h.nb.own.row.lt d e).2; omega, fun e => by have := (h.nwe.own.row.lt d e).2; omega, fun e => by have := (h.nwb.own.row.lt d e).2; omega⟩

theorem AtJ.below {K : PK} {N : Nat} {W0 : World} {O0 : Nat → Prop} {gp gk gl x fr : Nat} {s' : SM} {hv rv vc vd : Value} {L M : List (Itm × Value × Value)} {O : Nat → Prop} {it : Itm} {ve vb we wb : Value} {pl : Option Addr} {nl cl : Nat} {W W' : World} (h : AtJ K N W0 O0 gp gk gl x fr s' hv rv vc vd L M O it ve vb we wb pl nl cl W) (hb : Below W.heap.size W W') : AtJ K N W0 O0 gp gk gl x fr s' hv rv vc vd L M O it ve vb we wb pl nl cl W' :=
  h.turn W.heap.size (grown_below hb) (h.lts _ (Nat.le_refl _)) (.inr (Nat.le_refl _))

/-- a store into one of the two variables -/
theorem AtJ.setL {K : PK} {N : Nat} {W0 : World} {O0 : Nat → Prop} {gp gk gl x fr : Nat} {s' : SM} {hv rv vc vd : Value} {L M : List (Itm × Value × Value)} {O : Nat → Prop} {it : Itm} {ve vb we wb : Value} {pl pl' : Option Addr} {nl cl nl' cl' : Nat} {W : World} (h : AtJ K N W0 O0 gp gk gl x fr s' hv rv vc vd L M O it ve vb we wb pl nl cl W) : AtJ K N W0 O0 gp gk gl x fr s' hv rv vc vd L M O it ve vb we wb pl' nl' cl' (W.setCell ⟨gl, 0, none⟩ (.slice pl' nl' cl')) := by
  have hg := setCell_grown W gl 0 (.slice pl' nl' cl')
  have o := h.off gl (.inr (.inr (.inl rfl)))
  have nw : ∀ {u : Value} {l : List UInt8}, New K O hv W u l → New K O hv (W.setCell ⟨gl, 0, none⟩ (.slice pl' nl' cl')) u l := fun hu => hu.keep (fun j hj => hg.block j (hu.own.row.lt j hj).2 (fun e => bytes_ne_cells hu.own h.cel (by decide) (by rw [hj, e]))) (fun _ _ h => h) rfl
  have at_ : ∀ {j : Nat} {cs : Array Value} {T : Nat} {f : Nat × Nat}, W.heap[j]? = some (.cells cs T f) → T ≠ 22 → (W.setCell ⟨gl, 0, none⟩ (.slice pl' nl' cl')).heap[j]? = some (.cells cs T f) := fun hj hT => (hg.block _ (Array.getElem?_eq_some_iff.1 hj).1 (fun e => cells_ne hj h.cel hT (Option.some.inj e))).trans hj
  have hsz := h.keep.size
  have hgl := (Array.getElem?_eq_some_iff.1 h.cel).1
  refine ⟨h.pair.grown hg o.1 o.2.1 o.2.2.1, nw h.ne, nw h.nb, nw h.nwe, nw h.nwb, h.ap, h.aw, at_ h.cp (by decide), at_ h.ck (by decide), heap_setCell_same W gl 0 _ _ _ h.cel, at_ h.ix (by decide), h.off, h.eN, ?_, h.nz, h.vN, h.o0, h.ownP⟩
  exact ⟨hg.os.trans h.keep.os, hg.tape.trans h.keep.tape, hg.output.trans h.keep.output, Nat.le_trans hsz hg.size, fun j h1 h2 h3 h4 => (hg.block j (Nat.lt_of_lt_of_le h1 hsz) (fun e => h2 (.inr (.inr (Option.some.inj e))))).trans (h.keep.block j h1 h2 h3 h4), h.keep.own, h.keep.held⟩

theorem AtJ.setK {K : PK} {N : Nat} {W0 : World} {O0 : Nat → Prop} {gp gk gl x fr : Nat} {s' : SM} {hv rv vc vd : Value} {L M : List (Itm × Value × Value)} {O : Nat → Prop} {it : Itm} {ve vb we wb : Value} {pl : Option Addr} {nl cl : Nat} {W : World} (h : AtJ K N W0 O0 gp gk gl x fr s' hv rv vc vd L M O it ve vb we wb pl nl cl W) : AtJ K N W0 O0 gp gk gl x fr s' hv rv vc vd L M O it ve vb we wb pl nl cl (W.setCell ⟨gk, 0, none⟩ (.bool true)) := by
  have hg := setCell_grown W gk 0 (.bool true)
  have o := h.off gk (.inr (.inl rfl))
  have nw : ∀ {u : Value} {l : List UInt8}, New K O hv W u l → New K O hv (W.setCell ⟨gk, 0, none⟩ (.bool true)) u l := fun hu => hu.keep (fun j hj => hg.block j (hu.own.row.lt j hj).2 (fun e => bytes_ne_cells hu.own h.ck (by decide) (by rw [hj, e]))) (fun _ _ h => h) rfl
  have at_ : ∀ {j : Nat} {cs : Array Value} {T : Nat} {f : Nat × Nat}, W.heap[j]? = some (.cells cs T f) → T ≠ 4 → (W.setCell ⟨gk, 0, none⟩ (.bool true)).heap[j]? = some (.cells cs T f) := fun hj hT => (hg.block _ (Array.getElem?_eq_some_iff.1 hj).1 (fun e => cells_ne hj h.ck hT (Option.some.inj e))).trans hj
  have hsz := h.keep.size
  refine ⟨h.pair.grown hg o.1 o.2.1 o.2.2.1, nw h.ne, nw h.nb, nw h.nwe, nw h.nwb, h.ap, h.aw, at_ h.cp (by decide), heap_setCell_same W gk 0 _ _ _ h.ck, at_ h.cel (by decide), at_ h.ix (by decide), h.off, h.eN, ?_, h.nz, h.vN, h.o0, h.ownP⟩
  exact ⟨hg.os.trans h.keep.os, hg.tape.trans h.keep.tape, hg.output.trans h.keep.output, Nat.le_trans hsz hg.size, fun j h1 h2 h3 h4 => (hg.block j (Nat.lt_of_lt_of_le h1 hsz) (fun e => h2 (.inr (.inl (Option.some.inj e))))).trans (h.keep.block j h1 h2 h3 h4), h.keep.own, h.keep.held⟩

/-- the document's Take has brought the item too -/
theorem AtI.took {K : PK} {N : Nat} {gp gk gl x fr fr' : Nat} {s' q : SM} {hv rv rv' vc vd : Value} {L M : List (Itm × Value × Value)} {O : Nat → Prop} {it : Itm} {ve vb we wb : Value} {left : List UInt8} {pl : Option Addr} {nl cl m : Nat} {W V0 V : World} (h : AtI K N gp gk gl fr s' q hv rv vc vd L M O it ve vb left pl nl cl m W) (hx : ItAt W x it ve vb) (hxo : ¬ O x ∧ x ≠ K.b ∧ hv.ownBlock ≠ some x ∧ K.B ≤ x) (hb : Below W.heap.size W V0)
    (hm : Mv K.r rv V0 rv' V) (hin : InR V K.r K.Br fr' s' rv') (hrel : Rel fr' s') (hok : Ok s') (hit : ItO V0.heap.size V it we wb) (ha1 : Apart we rv') (ha2 : Apart wb rv') :
    AtJ K N W O gp gk gl x fr' s' hv rv' vc vd L M (fun j => O j ∨ rv'.ownBlock = some j) it ve vb we wb pl nl cl V := by
  have hp0 := h.pair.below hb
  have hz := hb.size
  have lts : ∀ {u : Value} {l : List UInt8}, New K O hv W u l → ∀ j, u.ownBlock = some j → j < W.heap.size := fun hu j hj => (hu.own.row.lt j hj).2
  have hnw : ∀ {u : Value} {l : List UInt8}, OwnBytes V V0.heap.size 5 u l → Apart u rv' → l.length ≤ 1048577 → New K (fun j => O j ∨ rv'.ownBlock = some j) hv V u l := by
    intro u l hu ha hz9
    refine ⟨⟨row_mono5 hu.row hp0.bb.2.2⟩, fun j hj => ?_, hz9⟩
    have hlt := (hu.row.lt j hj).1
    refine ⟨fun ho => ?_, fun e => by have := hp0.blt _ (.inr (.inl e)); omega, fun e => by have := hp0.blt _ (.inr (.inr e)); omega⟩
    rcases ho with ho | ho
    · have := hp0.blt _ (.inl ho); omega
    · rcases ha with h1 | h1 | h1
      · rw [h1] at hj; simp at hj
      · rw [h1] at ho; simp at ho
      · exact h1 (hj.trans ho.symm)
  have hfar : ∀ {u v : Value} {l l' : List UInt8}, New K O hv W u l → OwnBytes V V0.heap.size 5 v l' → Far u v := by
    intro u v l l' hu hv'
    unfold Far
    cases hq : u.ownBlock with
    | none => exact .inl rfl
    | some j => exact .inr (fun e => by have := lts hu j hq; have := (hv'.row.lt j e.symm).1; omega)
  have hrr : ∀ j, (j = K.r ∨ rv.ownBlock = some j) → O j := fun j hj => by
    rcases hj with rfl | hj
    · exact h.pair.oo.2.1
    · exact h.pair.oo.2.2 j hj
  have hnr : ∀ j, j < W.heap.size → ¬ O j → V.heap[j]? = W.heap[j]? := fun j h1 h2 => (hm.block j (Nat.lt_of_lt_of_le h1 hz) (fun e => h2 (hrr j (.inl e))) (fun e => h2 (hrr j (.inr e)))).trans (hb.block j h1)
  have at_ : ∀ {j : Nat} {cs : Array Value} {T : Nat} {f : Nat × Nat}, W.heap[j]? = some (.cells cs T f) → ¬ O j → V.heap[j]? = some (.cells cs T f) := fun hj ho => (hnr _ (Array.getElem?_eq_some_iff.1 hj).1 ho).trans hj
  have hoff : ∀ j, ¬ O j → j < W.heap.size → ¬ (O j ∨ rv'.ownBlock = some j) := fun j h1 h2 ho => by
    rcases ho with ho | ho
    · exact h1 ho
    · rcases hm.hv with h3 | h3 | ⟨g, h3, h4⟩
      · rw [h3] at ho; simp at ho
      · exact h1 (hrr j (.inr (h3 ▸ ho)))
      · rw [h3] at ho
        have := Option.some.inj ho
        omega
  refine ⟨hp0.moveR hm hin hrel hok, (h.ne.below hb).moveR hp0 hm, (h.nb.below hb).moveR hp0 hm, hnw hit.ext ha1 h.ne.sz, hnw hit.body ha2 h.nb.sz, h.ap, ⟨hfar h.ne hit.ext, hfar h.ne hit.body, hfar h.nb hit.ext, hfar h.nb hit.body⟩,
    at_ h.cp (h.off gp (.inl rfl)).1, at_ h.ck (h.off gk (.inr (.inl rfl))).1, at_ h.cel (h.off gl (.inr (.inr rfl))).1, at_ hx hxo.1, ?_, ⟨h.eN, fun j hj => ?_, fun j hj => ?_⟩, ?_, h.nz, fun j hj => ?_, h.pair.oo.1, fun j hj => ?_⟩
  · rintro j (rfl | rfl | rfl | rfl)
    · exact ⟨hoff _ (h.off _ (.inl rfl)).1 (Array.getElem?_eq_some_iff.1 h.cp).1, (h.off _ (.inl rfl)).2⟩
    · exact ⟨hoff _ (h.off _ (.inr (.inl rfl))).1 (Array.getElem?_eq_some_iff.1 h.ck).1, (h.off _ (.inr (.inl rfl))).2⟩
    · exact ⟨hoff _ (h.off _ (.inr (.inr rfl))).1 (Array.getElem?_eq_some_iff.1 h.cel).1, (h.off _ (.inr (.inr rfl))).2⟩
    · exact ⟨hoff _ hxo.1 (Array.getElem?_eq_some_iff.1 hx).1, hxo.2⟩
  · have := (hit.ext.row.lt j hj).1; have := h.nz; omega
  · have := (hit.body.row.lt j hj).1; have := h.nz; omega
  · refine ⟨hm.os.trans hb.os, hm.tape.trans hb.tape, hm.output.trans hb.output, Nat.le_trans hz hm.size, fun j h1 h2 h3 h4 => hnr j h1 (fun ho => h2 (.inl ho)), fun j hj => ?_, fun j hj => .inl hj⟩
    rcases hj with (hj | hj) | hj
    · exact .inl (.inl hj)
    · rcases hm.hv with h3 | h3 | ⟨g, h3, h4⟩
      · rw [h3] at hj; simp at hj
      · exact .inl (.inl (hrr j (.inr (h3 ▸ hj))))
      · rw [h3] at hj
        have := Option.some.inj hj
        have := h.nz
        exact .inr (by omega)
    · exact .inl (.inr hj)
  · rcases hj with hj | hj | hj
    · exact .inl (h.pair.came.vo j hj)
    · exact .inl (h.pair.want.vo j hj)
    · rcases hm.hv with h3 | h3 | ⟨g, h3, h4⟩
      · rw [h3] at hj; simp at hj
      · exact .inl (hrr j (.inr (h3 ▸ hj)))
      · rw [h3] at hj
        have := Option.some.inj hj
        exact .inr (by omega)
  · rcases hj with hj | hj
    · exact .inl hj
    · rcases hm.hv with h3 | h3 | ⟨g, h3, h4⟩
      · rw [h3] at hj; simp at hj
      · exact .inl (hrr j (.inr (h3 ▸ hj)))
      · rw [h3] at hj
        have := Option.some.inj hj
        have := h.nz
        exact .inr (by omega)

theorem New.put {K : PK} {O O' : Nat → Prop} {hv v v' : Value} {W W' : World} {u : Value} {l : List UInt8} {i n : Nat} {xs ys : List Value} {cs : Array Value} (hu : New K O hv W u l) (h : Put K i v v' n xs ys W W') (hr : W.ownsRow K.B 71 6 v n xs) (hc : W.heap[K.pb]? = some (.cells cs 61 (0, 0)))
    (hO : ∀ j, u.ownBlock = some j → O' j → O j) : New K O' hv W' u l := by
  obtain ⟨f1, f2, f3, f4, f5, f6⟩ := h.facts hr hc
  refine hu.keep (fun j hj => f3 j (hu.own.row.lt j hj).2 (fun e => ?_) (fun e => ?_)) hO rfl
  · exact bytes_ne_cells hu.own hc (by decide) (by rw [hj, e])
  · obtain ⟨cs', fr2, h4⟩ := ownsRow_block hr _ e
    exact bytes_ne_cells hu.own h4 (by decide) hj

/-- a value of bytes has none of a new list's blocks -/
theorem Put.bytes_off {K : PK} {i n : Nat} {v v' : Value} {xs ys : List Value} {W W' : World} {cs : Array Value} {B : Nat} {u : Value} {l : List UInt8} (h : Put K i v v' n xs ys W W') (hr : W.ownsRow K.B 71 6 v n xs) (hc : W.heap[K.pb]? = some (.cells cs 61 (0, 0))) (hu : OwnBytes W B 5 u l) : ∀ j, u.ownBlock = some j → v'.ownBlock ≠ some j := by
  intro j hj e
  obtain ⟨f1, f2, f3, f4, f5, f6⟩ := h.facts hr hc
  have hlt := (hu.row.lt j hj).2
  rcases (f6 j e).1 with h1 | h1
  · obtain ⟨cs', fr2, h4⟩ := ownsRow_block hr _ h1
    exact bytes_ne_cells hu h4 (by decide) hj
  · omega

/-- .. onto the list of what came -/
theorem AtJ.putC {K : PK} {N : Nat} {W0 : World} {O0 : Nat → Prop} {gp gk gl x fr : Nat} {s' : SM} {hv rv vc vc' vd : Value} {L M : List (Itm × Value × Value)} {O : Nat → Prop} {it : Itm} {ve vb we wb : Value} {pl : Option Addr} {nl cl : Nat} {W W' : World} (h : AtJ K N W0 O0 gp gk gl x fr s' hv rv vc vd L M O it ve vb we wb pl nl cl W) (hp : Put K 2 vc vc' L.length (itRow L) (itCells (it, ve, vb)) W W') :
    Pair K fr s' s' hv rv vc' vd (L ++ [(it, ve, vb)]) M (fun j => O j ∨ vc'.ownBlock = some j ∨ ve.ownBlock = some j ∨ vb.ownBlock = some j) W' ∧
    New K (fun j => O j ∨ vc'.ownBlock = some j ∨ ve.ownBlock = some j ∨ vb.ownBlock = some j) hv W' we it.ext ∧ New K (fun j => O j ∨ vc'.ownBlock = some j ∨ ve.ownBlock = some j ∨ vb.ownBlock = some j) hv W' wb it.body ∧
    (∀ {j : Nat} {cs : Array Value} {T : Nat} {f : Nat × Nat}, W.heap[j]? = some (.cells cs T f) → (j = gp ∨ j = gk ∨ j = gl ∨ j = x ∨ ¬ O j) → W'.heap[j]? = some (.cells cs T f)) ∧
    KeepO N (OX gk gl O0) K.b hv W0 (OX gk gl (fun j => O j ∨ vc'.ownBlock = some j ∨ ve.ownBlock = some j ∨ vb.ownBlock = some j)) hv W' ∧ (∀ j, vc'.ownBlock = some j → (O0 j ∨ W0.heap.size ≤ j) ∧ (O j ∨ W.heap.size ≤ j)) ∧ W.heap.size ≤ W'.heap.size ∧ ∀ j, (O j ∨ vc'.ownBlock = some j ∨ ve.ownBlock = some j ∨ vb.ownBlock = some j) → O0 j ∨ N ≤ j := by
  obtain ⟨f1, f2, f3, f4, f5, f6⟩ := hp.facts h.pair.came.row h.pair.cell
  have hvo := h.pair.came.vo
  have hsz := h.keep.size
  have hnz := h.nz
  have off : ∀ {u : Value} {l : List UInt8}, New K O hv W u l → Far ve u → Far vb u → ∀ j, u.ownBlock = some j → (O j ∨ vc'.ownBlock = some j ∨ ve.ownBlock = some j ∨ vb.ownBlock = some j) → O j := by
    intro u l hu h1 h2 j hj ho
    rcases ho with ho | ho | ho | ho
    · exact ho
    · exact absurd ho (hp.bytes_off h.pair.came.row h.pair.cell hu.own j hj)
    · exfalso
      rcases h1 with h1 | h1
      · rw [h1] at ho; simp at ho
      · exact h1 (ho.trans hj.symm)
    · exfalso
      rcases h2 with h2 | h2
      · rw [h2] at ho; simp at ho
      · exact h2 (ho.trans hj.symm)
  refine ⟨h.pair.putC hp h.ne h.nb h.ap, h.nwe.put hp h.pair.came.row h.pair.cell (off h.nwe h.aw.1 h.aw.2.2.1), h.nwb.put hp h.pair.came.row h.pair.cell (off h.nwb h.aw.2.1 h.aw.2.2.2), ?_, ?_, fun j hj => ?_, f4, fun j hj => ?_⟩
  · intro j cs T f hj hor
    have hno : ¬ O j := by
      rcases hor with rfl | rfl | rfl | rfl | hor
      · exact (h.off _ (.inl rfl)).1
      · exact (h.off _ (.inr (.inl rfl))).1
      · exact (h.off _ (.inr (.inr (.inl rfl)))).1
      · exact (h.off _ (.inr (.inr (.inr rfl)))).1
      · exact hor
    exact (f3 j (Array.getElem?_eq_some_iff.1 hj).1 (fun e => hno (e ▸ h.pair.oo.1)) (fun e => hno (hvo j e))).trans hj
  · refine ⟨f5.1.trans h.keep.os, f5.2.1.trans h.keep.tape, f5.2.2.trans h.keep.output, Nat.le_trans hsz f4, fun j h1 h2 h3 h4 => (f3 j (Nat.lt_of_lt_of_le h1 hsz) (fun e => h2 (.inl (e ▸ h.o0))) (fun e => ?_)).trans (h.keep.block j h1 h2 h3 h4), fun j hj => ?_, h.keep.held⟩
    · rcases h.vN j (.inl e) with h5 | h5
      · exact h2 (.inl h5)
      · omega
    · rcases hj with (hj | hj | hj | hj) | hj
      · exact h.keep.own j (.inl hj)
      · rcases (f6 j hj).1 with h5 | h5
        · exact h.keep.own j (.inl (hvo j h5))
        · exact .inr (by omega)
      · exact .inr (h.eN.1.1 j hj)
      · exact .inr (h.eN.1.2 j hj)
      · exact h.keep.own j (.inr hj)
  · rcases (f6 j hj).1 with h5 | h5
    · exact ⟨h.vN j (.inl h5), .inl (hvo j h5)⟩
    · exact ⟨.inr (by omega), .inr h5⟩
  · rcases hj with hj | hj | hj | hj
    · exact h.ownP j hj
    · rcases (f6 j hj).1 with h5 | h5
      · exact h.ownP j (hvo j h5)
      · exact .inr (by omega)
    · exact .inr (h.eN.1.1 j hj)
    · exact .inr (h.eN.1.2 j hj)

/-- .. and onto the list of what should have come: what it leaves of all else -/
theorem putD_keep {K : PK} {N : Nat} {W0 : World} {O0 O : Nat → Prop} {gk gl fr : Nat} {s' : SM} {hv rv vc vd vd' we wb : Value} {L M : List (Itm × Value × Value)} {it : Itm} {W W' : World} (h : Pair K fr s' s' hv rv vc vd L M O W) (hp : Put K 3 vd vd' M.length (itRow M) (itCells (it, we, wb)) W W')
    (hk : KeepO N (OX gk gl O0) K.b hv W0 (OX gk gl O) hv W) (ho : ∀ j, O j → O0 j ∨ N ≤ j) (hN : N ≤ W0.heap.size) (o0 : O0 K.pb) (hv0 : ∀ j, vd.ownBlock = some j → O0 j ∨ W0.heap.size ≤ j) (he : (∀ j, we.ownBlock = some j → N ≤ j) ∧ ∀ j, wb.ownBlock = some j → N ≤ j) :
    KeepO N (OX gk gl O0) K.b hv W0 (OX gk gl (fun j => O j ∨ vd'.ownBlock = some j ∨ we.ownBlock = some j ∨ wb.ownBlock = some j)) hv W' ∧ (∀ j, (O j ∨ vd'.ownBlock = some j ∨ we.ownBlock = some j ∨ wb.ownBlock = some j) → O0 j ∨ N ≤ j) := by
  obtain ⟨f1, f2, f3, f4, f5, f6⟩ := hp.facts h.want.row h.cell
  have hsz := hk.size
  have hvo := h.want.vo
  have hown : ∀ j, (O j ∨ vd'.ownBlock = some j ∨ we.ownBlock = some j ∨ wb.ownBlock = some j) → O0 j ∨ N ≤ j := by
    intro j hj
    rcases hj with hj | hj | hj | hj
    · exact ho j hj
    · rcases (f6 j hj).1 with h5 | h5
      · exact ho j (hvo j h5)
      · exact .inr (by omega)
    · exact .inr (he.1 j hj)
    · exact .inr (he.2 j hj)
  refine ⟨⟨f5.1.trans hk.os, f5.2.1.trans hk.tape, f5.2.2.trans hk.output, Nat.le_trans hsz f4, fun j h1 h2 h3 h4 => (f3 j (Nat.lt_of_lt_of_le h1 hsz) (fun e => h2 (.inl (e ▸ o0))) (fun e => ?_)).trans (hk.block j h1 h2 h3 h4), fun j hj => ?_, hk.held⟩, hown⟩
  · rcases hv0 j e with h5 | h5
    · exact h2 (.inl h5)
    · omega
  · rcases hj with hj | hj
    · rcases hown j hj with h5 | h5
      · exact .inl (.inl h5)
      · exact .inr h5
    · exact .inl (.inr hj)

/-- what a round leaves -/
def EndI (K : PK) (N D lp gp gk gl : Nat) (s' : SM) (hv : Value) (len : Nat) (O : Nat → Prop) (pl : Option Addr) (nl cl m : Nat) (W W3 : World) : Prop :=
  ∃ fr rv vc vd L M O3, Pair K fr s' s' hv rv vc vd L M O3 W3 ∧ L.map Prod.fst = M.map Prod.fst ∧ L.length = len + 1 ∧ W3.heap[gp]? = some (.cells #[.pointer (some ⟨K.pb, 0, none⟩)] 55 (0, 0)) ∧
    W3.heap[gk]? = some (.cells #[.bool true] 4 (0, 0)) ∧ W3.heap[gl]? = some (.cells #[.slice (if cl = m then pl else Option.map (fun x => x.add m) pl) (nl - m) (cl - m)] 22 (0, 0)) ∧
    (∀ j, j < W.heap.size → ¬ OX gk gl O j → j ≠ K.b → hv.ownBlock ≠ some j → j ≠ lp → W3.heap[j]? = W.heap[j]?) ∧ (W3.os = W.os ∧ W3.tape = W.tape ∧ W3.output = W.output ∧ W.heap.size ≤ W3.heap.size) ∧ (∀ j, O3 j → O j ∨ N ≤ j)
end Go.Proofs.Ytofdpccjpodbhaa
