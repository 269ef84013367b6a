/-
  A stream beside the document's: ranges between two rounds of its loop. It speaks of no code. No conditions.
  A stream beside the document's: a round of ranges' loop has ended. It speaks of no code. No conditions.
-/
import Derived.Test.YtofdpccjpodbhaaPrS
namespace Go.Proofs.Ytofdpccjpodbhaa
open Go.RowKit
set_option linter.unusedVariables false

/-- the blocks that ranges holds on to -/
def PV (x gk gS gC : Nat) (pv : Option Addr) (j : Nat) : Prop := j = x ∨ j = x + 1 ∨ j = gk ∨ j = gS ∨ j = gC ∨ ∃ a, pv = some a ∧ j = a.block

structure RunV (w : World) (K : PK) (N : Nat) (O : Nat → Prop) (hv : Value) (x gk gS gC : Nat) (pv : Option Addr) (n cv : Nat) (ch : List UInt8) (ro : Array Value) (s : SM) (O' : Nat → Prop) (hv' : Value) (Ds : List Nat) (W : World) : Prop where
  sync : Sync K N s O' hv' W
  keep : KeepO w.heap.size O K.b hv w O' hv' W
  cp : W.heap[x]? = some (.cells #[.pointer (some ⟨K.pb, 0, none⟩)] 55 (0, 0))
  co : W.heap[x + 1]? = some (.cells ro 64 (0, 0))
  ck : W.heap[gk]? = some (.cells #[.bool true] 4 (0, 0))
  cS : W.cell? ⟨gS, 0, none⟩ = some (.pointer (some ⟨K.b, 0, none⟩))
  cC : W.cell? ⟨gC, 0, none⟩ = some (.slice pv n cv)
  by_ : BytesIn W pv n cv ch
  off : ∀ j, PV x gk gS gC pv j → ¬ O' j ∧ hv'.ownBlock ≠ some j ∧ w.heap.size ≤ j ∧ j < W.heap.size
  lt : ∀ j, (j = gS ∨ j = gC ∨ ∃ a, pv = some a ∧ j = a.block) → j ≠ x ∧ j ≠ x + 1 ∧ j ≠ gk
  ds : ∀ D ∈ Ds, W.heap[D]? = some (.deferred (some [])) ∧ w.heap.size ≤ D ∧ hv'.ownBlock ≠ some D ∧ ¬ O' D
  nd : Ds.Nodup
  hb : K.b < w.heap.size

/-- another world: what ranges holds on to is as it was -/
theorem RunV.move {w : World} {K : PK} {N N2 : Nat} {O : Nat → Prop} {hv : Value} {x gk gS gC : Nat} {pv : Option Addr} {n cv : Nat} {ch : List UInt8} {ro : Array Value} {s s2 : SM} {O' O2 : Nat → Prop} {hv' hv2 : Value} {Ds : List Nat} {W W2 : World} (h : RunV w K N O hv x gk gS gC pv n cv ch ro s O' hv' Ds W) (hs : Sync K N2 s2 O2 hv2 W2) (hk : KeepO w.heap.size O K.b hv w O2 hv2 W2) (hz : W.heap.size ≤ W2.heap.size)
    (e : ∀ j, PV x gk gS gC pv j ∨ j ∈ Ds → W2.heap[j]? = W.heap[j]?) (hO : ∀ j, O2 j → O' j ∨ W.heap.size ≤ j) (hh : ∀ j, hv2.ownBlock = some j → hv'.ownBlock = some j ∨ W.heap.size ≤ j) : RunV w K N2 O hv x gk gS gC pv n cv ch ro s2 O2 hv2 Ds W2 := by
  have p1 := e x (.inl (.inl rfl))
  have p2 := e (x + 1) (.inl (.inr (.inl rfl)))
  have p3 := e gk (.inl (.inr (.inr (.inl rfl))))
  have p4 := e gS (.inl (.inr (.inr (.inr (.inl rfl)))))
  have p5 := e gC (.inl (.inr (.inr (.inr (.inr (.inl rfl))))))
  refine ⟨hs, hk, p1.trans h.cp, p2.trans h.co, p3.trans h.ck, (World.cell?_of_block p4).trans h.cS, (World.cell?_of_block p5).trans h.cC, ⟨h.by_.len, h.by_.le, h.by_.cap, fun hc => ?_⟩, fun j hj => ?_, h.lt, fun D hD => ?_, h.nd, h.hb⟩
  · obtain ⟨g, o, e1, hlt, hcell⟩ := h.by_.at_ hc
    have e2 := e g (.inl (.inr (.inr (.inr (.inr (.inr ⟨_, e1, rfl⟩))))))
    exact ⟨g, o, e1, Nat.lt_of_lt_of_le hlt hz, fun i hi => (World.cell?_of_block e2).trans (hcell i hi)⟩
  · obtain ⟨o1, o2, o3, o4⟩ := h.off j hj
    refine ⟨fun ho => ?_, fun ho => ?_, o3, Nat.lt_of_lt_of_le o4 hz⟩
    · rcases hO j ho with h1 | h1
      · exact o1 h1
      · omega
    · rcases hh j ho with h1 | h1
      · exact o2 h1
      · omega
  · obtain ⟨d1, d2, d3, d4⟩ := h.ds D hD
    have hlt := (Array.getElem?_eq_some_iff.1 d1).1
    refine ⟨(e D (.inr hD)).trans d1, d2, fun ho => ?_, fun ho => ?_⟩
    · rcases hh D ho with h1 | h1
      · exact d3 h1
      · omega
    · rcases hO D ho with h1 | h1
      · exact d4 h1
      · omega

/-- one more mark -/
theorem RunV.mark {w : World} {K : PK} {N : Nat} {O : Nat → Prop} {hv : Value} {x gk gS gC : Nat} {pv : Option Addr} {n cv : Nat} {ch : List UInt8} {ro : Array Value} {s : SM} {O' : Nat → Prop} {hv' : Value} {Ds : List Nat} {W : World} (h : RunV w K N O hv x gk gS gC pv n cv ch ro s O' hv' Ds W) (D : Nat) (hD : W.heap[D]? = some (.deferred (some [])) ∧ w.heap.size ≤ D ∧ hv'.ownBlock ≠ some D ∧ ¬ O' D) (hn : D ∉ Ds) : RunV w K N O hv x gk gS gC pv n cv ch ro s O' hv' (D :: Ds) W :=
  ⟨h.sync, h.keep, h.cp, h.co, h.ck, h.cS, h.cC, h.by_, h.off, h.lt, fun D' hD' => by
    rcases List.mem_cons.1 hD' with rfl | h'
    · exact hD
    · exact h.ds D' h', List.nodup_cons.2 ⟨hn, h.nd⟩, h.hb⟩

/-- the blocks that ranges' range may write -/
def OV (O' : Nat → Prop) (x gk gl lp : Nat) (j : Nat) : Prop := O' j ∨ j = x ∨ j = x + 1 ∨ j = gk ∨ j = gl ∨ j = gl + 1 ∨ j = gl + 2 ∨ j = lp

/-- behind the range -/
theorem RunV.after {w : World} {K : PK} {N : Nat} {O : Nat → Prop} {hv : Value} {x gk gS gC : Nat} {pv : Option Addr} {n cv : Nat} {ch : List UInt8} {ro : Array Value} {s : SM} {O' O2 Op : Nat → Prop} {hv' hv2 : Value} {Ds : List Nat} {W W6 W1 W2 W3 : World} (h : RunV w K N O hv x gk gS gC pv n cv ch ro s O' hv' Ds W) (hb : Below W.heap.size W W6) (hz6 : W6.heap.size = W.heap.size + 3) (hg1 : W6.grownBy W1 none) (hz1 : W1.heap.size = W.heap.size + 5)
    (hk : KeepO W1.heap.size (OV O' x gk W.heap.size (W.heap.size + 4)) K.b hv' W1 O2 hv2 W2) (c1 : W2.heap[x]? = some (.cells #[.pointer (some ⟨K.pb, 0, none⟩)] 55 (0, 0))) (c2 : W2.heap[x + 1]? = some (.cells ro 64 (0, 0))) (c3 : W2.heap[gk]? = some (.cells #[.bool true] 4 (0, 0)))
    (hOp : ∀ j, Op j → O2 j ∧ j ≠ x ∧ j ≠ gk ∧ j ≠ W.heap.size ∧ j ≠ x + 1 ∧ j ≠ W.heap.size + 1 ∧ j ≠ W.heap.size + 2 ∧ j ≠ W.heap.size + 4 ∧ j ≠ W.heap.size + 3) (ht : Turn (W.heap.size + 4) W2 W3) :
    KeepO w.heap.size O K.b hv w Op hv2 W3 ∧ (∀ j, PV x gk gS gC pv j ∨ j ∈ Ds → W3.heap[j]? = W.heap[j]?) ∧ (∀ j, PV x gk gS gC pv j ∨ j ∈ Ds → ¬ Op j ∧ hv2.ownBlock ≠ some j) ∧ (∀ j, Op j → O' j ∨ W.heap.size ≤ j) ∧ (∀ j, hv2.ownBlock = some j → hv'.ownBlock = some j ∨ W.heap.size ≤ j) ∧ hv2.ownBlock ≠ some (W.heap.size + 3) ∧ W.heap.size + 5 ≤ W3.heap.size := by
  have hw := h.keep.size
  obtain ⟨fr, rv, vc, vd, L, M, hp, _⟩ := h.sync
  have hblt := hp.blt
  have hkz := hk.size
  have htz := ht.2
  have hb1 : Below W.heap.size W W1 := ⟨hg1.os.trans hb.os, hg1.tape.trans hb.tape, hg1.output.trans hb.output, by omega, fun j hj => (hg1.block j (by omega) (by simp)).trans (hb.block j hj)⟩
  have blk : ∀ j, j < W.heap.size → ¬ O' j → j ≠ x → j ≠ x + 1 → j ≠ gk → j ≠ K.b → hv'.ownBlock ≠ some j → W3.heap[j]? = W.heap[j]? := fun j h1 h2 h3 h4 h5 h6 h7 => by
    rw [ht.1.block j (by omega) (fun e => by have := Option.some.inj e; omega), hk.block j (by omega) (by rintro (ho | ho | ho | ho | ho | ho | ho | ho) <;> first | exact h2 ho | omega) h6 h7, hb1.block j h1]
  have own : ∀ j, Op j → O' j ∨ W.heap.size ≤ j := fun j hj => by
    obtain ⟨o1, o2, o3, o4, o5, o6, o7, o8, o9⟩ := hOp j hj
    rcases hk.own j o1 with ho | ho
    · rcases ho with ho | ho | ho | ho | ho | ho | ho | ho
      · exact .inl ho
      all_goals omega
    · exact .inr (by omega)
  have held : ∀ j, hv2.ownBlock = some j → hv'.ownBlock = some j ∨ W.heap.size ≤ j := fun j hj => by
    rcases hk.held j hj with ho | ho
    · exact .inl ho
    · exact .inr (by omega)
  have hlt : ∀ {j : Nat} {cs : Array Value} {T : Nat} {f : Nat × Nat}, W2.heap[j]? = some (.cells cs T f) → j < W.heap.size → W3.heap[j]? = some (.cells cs T f) := fun hj hl => (ht.1.block _ (Array.getElem?_eq_some_iff.1 hj).1 (fun e => by have := Option.some.inj e; omega)).trans hj
  have lx := (h.off x (.inl rfl)).2.2.2
  have lo := (h.off (x + 1) (.inr (.inl rfl))).2.2.2
  have lk := (h.off gk (.inr (.inr (.inl rfl)))).2.2.2
  have hKb := h.hb
  have ob : ∀ j, PV x gk gS gC pv j ∨ j ∈ Ds → ¬ Op j ∧ hv2.ownBlock ≠ some j := fun j hj => by
    have f : ¬ O' j ∧ hv'.ownBlock ≠ some j ∧ j < W.heap.size := by
      rcases hj with hj | hj
      · exact ⟨(h.off j hj).1, (h.off j hj).2.1, (h.off j hj).2.2.2⟩
      · exact ⟨(h.ds j hj).2.2.2, (h.ds j hj).2.2.1, (Array.getElem?_eq_some_iff.1 (h.ds j hj).1).1⟩
    refine ⟨fun ho => ?_, fun ho => ?_⟩
    · rcases own j ho with h1 | h1
      · exact f.1 h1
      · omega
    · rcases held j ho with h1 | h1
      · exact f.2.1 h1
      · omega
  have ow : ∀ j, w.heap.size ≤ j → j ≠ K.b := fun j hj => by omega
  have xs : ∀ j, PV x gk gS gC pv j → w.heap.size ≤ j := fun j hj => (h.off j hj).2.2.1
  refine ⟨⟨ht.1.os.trans (hk.os.trans (hb1.os.trans h.keep.os)), ht.1.tape.trans (hk.tape.trans (hb1.tape.trans h.keep.tape)), ht.1.output.trans (hk.output.trans (hb1.output.trans h.keep.output)), by omega, fun j q1 q2 q3 q4 => ?_, fun j hj => ?_, fun j hj => ?_⟩, fun j hj => ?_, ob, own, held, fun e => ?_, by omega⟩
  · have x1 := xs x (.inl rfl)
    have x2 := xs (x + 1) (.inr (.inl rfl))
    have x3 := xs gk (.inr (.inr (.inl rfl)))
    refine (blk j (by omega) (fun ho => ?_) (by omega) (by omega) (by omega) q3 (fun ho => ?_)).trans (h.keep.block j q1 q2 q3 q4)
    · rcases h.keep.own j ho with h1 | h1
      · exact q2 h1
      · omega
    · rcases h.keep.held j ho with h1 | h1
      · exact q4 h1
      · omega
  · rcases own j hj with h1 | h1
    · exact h.keep.own j h1
    · exact .inr (by omega)
  · rcases held j hj with h1 | h1
    · exact h.keep.held j h1
    · exact .inr (by omega)
  · rcases hj with hj | hj
    · have hj' := hj
      have f := h.off j hj
      rcases hj with hj | hj | hj | hj
      · subst hj; exact (hlt c1 lx).trans h.cp.symm
      · subst hj; exact (hlt c2 lo).trans h.co.symm
      · subst hj; exact (hlt c3 lk).trans h.ck.symm
      · have l := h.lt j hj
        exact blk j f.2.2.2 f.1 l.1 l.2.1 l.2.2 (ow j f.2.2.1) f.2.1
    · obtain ⟨d1, d2, d3, d4⟩ := h.ds j hj
      have ne : ∀ {k : Nat} {cs : Array Value} {T : Nat} {f : Nat × Nat}, W.heap[k]? = some (.cells cs T f) → j ≠ k := fun hk e => by
        subst e
        rw [d1] at hk
        simp at hk
      exact blk j (Array.getElem?_eq_some_iff.1 d1).1 d4 (ne h.cp) (ne h.co) (ne h.ck) (ow j d2) d3
  · rcases hk.held _ e with h1 | h1
    · have := hblt _ (.inr (.inr h1)); omega
    · omega
end Go.Proofs.Ytofdpccjpodbhaa

namespace Go.Proofs.Ytofdpccjpodbhaa
open Go.RowKit
set_option linter.unusedVariables false

theorem RunV.next {w : World} {K : PK} {N N2 : Nat} {O : Nat → Prop} {hv : Value} {x gk gS gC : Nat} {pv : Option Addr} {n cv : Nat} {ch : List UInt8} {ro : Array Value} {s s2 : SM} {O' Op Oq : Nat → Prop} {hv' hv2 : Value} {Ds : List Nat} {W W3 W4 : World} (h : RunV w K N O hv x gk gS gC pv n cv ch ro s O' hv' Ds W)
    (hA : KeepO w.heap.size O K.b hv w Op hv2 W3 ∧ (∀ j, PV x gk gS gC pv j ∨ j ∈ Ds → W3.heap[j]? = W.heap[j]?) ∧ (∀ j, PV x gk gS gC pv j ∨ j ∈ Ds → ¬ Op j ∧ hv2.ownBlock ≠ some j) ∧ (∀ j, Op j → O' j ∨ W.heap.size ≤ j) ∧ (∀ j, hv2.ownBlock = some j → hv'.ownBlock = some j ∨ W.heap.size ≤ j) ∧ hv2.ownBlock ≠ some (W.heap.size + 3) ∧ W.heap.size + 5 ≤ W3.heap.size)
    (hD : W3.heap[W.heap.size + 3]? = some (.deferred (some [])) ∧ ¬ Op (W.heap.size + 3)) (hs : Sync K N2 s2 Oq hv2 W4) (hk : KeepO w.heap.size O K.b hv w Oq hv2 W4) (hkey : ∀ j, j < W3.heap.size → ¬ Op j → W4.heap[j]? = W3.heap[j]?) (hq : ∀ j, Oq j → Op j ∨ W3.heap.size ≤ j) (hz : W3.heap.size ≤ W4.heap.size) :
    RunV w K N2 O hv x gk gS gC pv n cv ch ro s2 Oq hv2 ((W.heap.size + 3) :: Ds) W4 := by
  obtain ⟨a1, a2, a3, a4, a5, a6, a7⟩ := hA
  have hw := h.keep.size
  have hltj : ∀ j, PV x gk gS gC pv j ∨ j ∈ Ds → j < W.heap.size := fun j hj => by
    rcases hj with hj | hj
    · exact (h.off j hj).2.2.2
    · exact (Array.getElem?_eq_some_iff.1 (h.ds j hj).1).1
  refine (h.move hs hk (by omega) (fun j hj => (hkey j (by have := hltj j hj; omega) (a3 j hj).1).trans (a2 j hj)) (fun j hj => ?_) a5).mark _ ⟨(hkey _ (by omega) hD.2).trans hD.1, by omega, a6, fun ho => ?_⟩ (fun hm => ?_)
  · rcases hq j hj with h1 | h1
    · exact a4 j h1
    · exact .inr (by omega)
  · rcases hq _ ho with h1 | h1
    · exact hD.2 h1
    · omega
  · have := hltj _ (.inr hm); omega

/-- the flag is written over -/
theorem RunV.setK {w : World} {K : PK} {N : Nat} {O : Nat → Prop} {hv : Value} {x gk gS gC : Nat} {pv : Option Addr} {n cv : Nat} {ch : List UInt8} {ro : Array Value} {s : SM} {O' : Nat → Prop} {hv' : Value} {Ds : List Nat} {W : World} (h : RunV w K N O hv x gk gS gC pv n cv ch ro s O' hv' Ds W) : RunV w K N O hv x gk gS gC pv n cv ch ro s O' hv' Ds (W.setCell ⟨gk, 0, none⟩ (.bool true)) := by
  have hg := setCell_grown W gk 0 (.bool true)
  have hs := heap_setCell_same W gk 0 _ _ (.bool true) h.ck
  have hsame : ∀ j, j < W.heap.size → (W.setCell ⟨gk, 0, none⟩ (.bool true)).heap[j]? = W.heap[j]? := fun j hj => by
    by_cases e : j = gk
    · subst e; exact hs.trans h.ck.symm
    · exact hg.block j hj (fun e2 => e (Option.some.inj e2))
  have hb : Below W.heap.size W (W.setCell ⟨gk, 0, none⟩ (.bool true)) := ⟨hg.os, hg.tape, hg.output, hg.size, hsame⟩
  obtain ⟨fr, rv, vc, vd, L, M, hp, h2⟩ := h.sync
  refine h.move ⟨fr, rv, vc, vd, L, M, hp.below hb, h2⟩ ⟨hb.os.trans h.keep.os, hb.tape.trans h.keep.tape, hb.output.trans h.keep.output, Nat.le_trans h.keep.size hb.size, fun j q1 q2 q3 q4 => (hsame j (by have := h.keep.size; omega)).trans (h.keep.block j q1 q2 q3 q4), h.keep.own, h.keep.held⟩ hb.size (fun j hj => hsame j ?_) (fun _ h => .inl h) (fun _ h => .inl h)
  rcases hj with hj | hj
  · exact (h.off j hj).2.2.2
  · exact (Array.getElem?_eq_some_iff.1 (h.ds j hj).1).1

/-- what the last Take of a round leaves -/
def TookV (K : PK) (w : World) (O : Nat → Prop) (hv : Value) (s2 : SM) (hv2 vc vd : Value) (L M : List (Itm × Value × Value)) (Op : Nat → Prop) (W3 : World) (a : Nat) (wx : World) : Prop :=
  ∃ fr' rv' Oq, wx.cell? ⟨a, 0, none⟩ = some (.int .i64 0) ∧ Pair K fr' s2 s2 hv2 rv' vc vd L M Oq wx ∧ KeepO w.heap.size O K.b hv w Oq hv2 wx ∧ (∀ j, j < W3.heap.size → ¬ Op j → wx.heap[j]? = W3.heap[j]?) ∧ (∀ j, Oq j → Op j ∨ W3.heap.size ≤ j) ∧ W3.heap.size ≤ wx.heap.size

theorem tookV {K : PK} {w : World} {O : Nat → Prop} {hv : Value} {s2 : SM} {hv2 rv2 vc vd : Value} {L M : List (Itm × Value × Value)} {Op : Nat → Prop} {fr2 fr' d : Nat} {q : SM} {rv' : Value} {W3 V0 V wx : World}
    (HP : Pair K fr2 s2 q hv2 rv2 vc vd L M Op W3) (hw : w.heap.size ≤ W3.heap.size) (hp : Pair K fr' s2 s2 hv2 rv' vc vd L M (fun j => Op j ∨ rv'.ownBlock = some j) V) (hk : KeepO w.heap.size O K.b hv w (fun j => Op j ∨ rv'.ownBlock = some j) hv2 V)
    (hf : ∀ j, j < V0.heap.size → ¬ Op j → V.heap[j]? = V0.heap[j]?) (hr : ∀ j, rv'.ownBlock = some j → Op j ∨ V0.heap.size ≤ j) (hz : V0.heap.size ≤ V.heap.size) (hb : Below W3.heap.size W3 V0) (hg : V.grownBy wx (some d)) (hd : (W3.heap.size ≤ d ∧ d < V0.heap.size) ∨ V.heap.size ≤ d)
    (hrow : wx.heap[d]? = some (.cells #[.int .i64 0, .int .i64 0, .int .i64 0, .int .i64 0, .slice none 0 0, .slice none 0 0] 71 (0, 0))) :
    TookV K w O hv s2 hv2 vc vd L M Op W3 d wx := by
  have hz3 := hb.size
  have hblt := HP.blt
  have hOd : ¬ (Op d ∨ rv'.ownBlock = some d) := by
    rintro (ho | ho)
    · have := hblt d (.inl ho); omega
    · rcases hd with hd | hd
      · rcases hr d ho with h1 | h1
        · have := hblt d (.inl h1); omega
        · omega
      · have := hp.blt d (.inl (.inr ho)); omega
  have hne : d ≠ K.b := fun e => by have := hblt K.b (.inr (.inl rfl)); omega
  have hnh : hv2.ownBlock ≠ some d := fun e => by have := hblt d (.inr (.inr e)); omega
  have hgz := hg.size
  refine ⟨fr', rv', _, (cell_of_row _ _ 0 _ _ _ hrow).trans rfl, hp.grown hg hOd hne hnh, hk.turn hg (by omega), fun j h1 h2 => ?_, fun j hj => ?_, by omega⟩
  · rw [hg.block j (by omega) (fun e => by have := Option.some.inj e; omega), hf j (by omega) h2, hb.block j h1]
  · rcases hj with hj | hj
    · exact .inl hj
    · rcases hr j hj with h1 | h1
      · exact .inl h1
      · exact .inr (by omega)

/-- ranges ends -/
theorem endV {w : World} {K : PK} {N : Nat} {O : Nat → Prop} {hv : Value} {x gk gS gC : Nat} {pv : Option Addr} {n cv : Nat} {ch : List UInt8} {ro : Array Value} {s : SM} {O' : Nat → Prop} {hv' : Value} {Ds : List Nat} {W : World} (h : RunV w K N O hv x gk gS gC pv n cv ch ro s O' hv' Ds W) (tm : Array Value) (ht : tm.getD 6 undef = .bool true) :
    LeavesInM Fence.wide 5 Try.prog Try.f54 tm (EPost K N (.bool true) O hv w) (Ds.map fun D => { target := .collected D, args := #[] }) .returning W := by
  refine leaves_all Ds W h.nd (fun D hD => (h.ds D hD).1) ?_
  intro W' q1 q2 q3 q4 q5
  have ht' : tm[6]?.getD undef = .bool true := by simpa using ht
  obtain ⟨fr, rv, vc, vd, L, M, hp, h2⟩ := h.sync
  have hno : ∀ j, O' j ∨ j = K.b ∨ hv'.ownBlock = some j → j ∉ Ds := fun j hj hm => by
    obtain ⟨d1, d2, d3, d4⟩ := h.ds j hm
    rcases hj with hj | hj | hj
    · exact d4 hj
    · have := h.hb; omega
    · exact d3 hj
  have hw : ∀ j, j < w.heap.size → j ∉ Ds := fun j hj hm => by
    have := (h.ds j hm).2.1; omega
  refine ⟨.bool true, by simp [results, Try.f54, go_sem, ht'], s, rfl, O', hv', ⟨fr, rv, vc, vd, L, M, hp.keep (by omega) (fun j hj => q2 j (hno j hj)), h2⟩, ⟨q3.trans h.keep.os, q4.trans h.keep.tape, q5.trans h.keep.output, by have := h.keep.size; omega, fun j a1 a2 a3 a4 => (q2 j (hw j a1)).trans (h.keep.block j a1 a2 a3 a4), h.keep.own, h.keep.held⟩⟩
end Go.Proofs.Ytofdpccjpodbhaa
