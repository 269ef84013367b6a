/-
  The stream's Take: the first item that is whole, or none. Conditions: the stream lies in a block of its own; the chunk lies elsewhere.
-/
import Derived.Test.YtofdpccjpodbhaaStr9
namespace Go.Proofs.Ytofdpccjpodbhaa
open Go.RowKit
set_option linter.unusedVariables false

attribute [local go_sem] Oper.semAt_some

/-- what Take does: the state, the item, how many bytes -/
def takeR : SM → List UInt8 → SM × Itm × Nat
  | s, [] => (s, .no, 0)
  | s, c :: t => if s.err = 0 then (if (step s c).2.kind = 0 then ((takeR (step s c).1 t).1, (takeR (step s c).1 t).2.1, (takeR (step s c).1 t).2.2 + 1) else ((step s c).1, (step s c).2, 1)) else (s, .no, t.length + 1)

theorem OwnBytes.same' {wE wr : World} {B T : Nat} {v : Value} {l : List UInt8} (h : OwnBytes wE B T v l) (e : ∀ k, v.ownBlock = some k → wr.heap[k]? = wE.heap[k]?) : OwnBytes wr B T v l := by
  obtain ⟨h1, h2⟩ := h.row
  refine ⟨⟨h1, ?_⟩⟩
  rcases h2 with h2 | ⟨g, cap, cur, e1, hg, hh, r⟩
  · exact .inl h2
  · exact .inr ⟨g, cap, cur, e1, hg, (e g (by rw [e1]; rfl)).trans hh, r⟩

theorem BytesIn.mv {b : Nat} {hv hv' : Value} {W W' : World} {pa : Option Addr} {n c : Nat} {l : List UInt8} (h : BytesIn W pa n c l) (hm : Mv b hv W hv' W') (ho : 0 < c → ∀ a, pa = some a → a.block ≠ b ∧ hv.ownBlock ≠ some a.block) : BytesIn W' pa n c l := by
  refine ⟨h.len, h.le, h.cap, fun hc => ?_⟩
  obtain ⟨g, o, rfl, hlt, hcell⟩ := h.at_ hc
  obtain ⟨h1, h2⟩ := ho hc _ rfl
  exact ⟨g, o, rfl, Nat.lt_of_lt_of_le hlt hm.size, fun i hi => (World.cell?_of_block (hm.block g hlt h1 h2)).trans (hcell i hi)⟩

/-- the call's own blocks: n0, n0+1 the results, n0+2 the stream's address, n0+3 the chunk; n0+4, n0+5 the loop's -/
structure InT (n0 b : Nat) (hv : Value) (W : World) : Prop where
  fr : ∀ j, n0 ≤ j → j < n0 + 6 → j ≠ b ∧ hv.ownBlock ≠ some j
  size : n0 + 6 ≤ W.heap.size
  c4 : W.heap[n0]? = some (.cells #[.int .i64 0, .int .i64 0, .int .i64 0, .int .i64 0, .slice none 0 0, .slice none 0 0] 71 (0, 0))
  c5 : W.heap[n0 + 1]? = some (.cells #[.int .i64 0] 3 (0, 0))
  cS : W.heap[n0 + 2]? = some (.cells #[.pointer (some ⟨b, 0, none⟩)] 56 (0, 0))

theorem InT.mv {n0 b : Nat} {hv hv2 : Value} {W W2 : World} (h : InT n0 b hv W) (hm : Mv b hv W hv2 W2) : InT n0 b hv2 W2 := by
  have hz := h.size
  have hb : ∀ j, n0 ≤ j → j < n0 + 6 → W2.heap[j]? = W.heap[j]? := fun j h1 h2 => hm.block j (by omega) (h.fr j h1 h2).1 (h.fr j h1 h2).2
  refine ⟨fun j h1 h2 => ⟨(h.fr j h1 h2).1, fun hq => ?_⟩, Nat.le_trans hz hm.size, (hb n0 (by omega) (by omega)).trans h.c4, (hb (n0 + 1) (by omega) (by omega)).trans h.c5, (hb (n0 + 2) (by omega) (by omega)).trans h.cS⟩
  rcases hm.hv with h3 | h3 | ⟨g, h3, h4⟩
  · rw [h3] at hq; simp at hq
  · exact (h.fr j h1 h2).2 (h3 ▸ hq)
  · rw [h3] at hq
    have : g = j := Option.some.inj hq
    omega

theorem InT.grown {n0 b d : Nat} {hv : Value} {W W2 : World} (h : InT n0 b hv W) (hg : W.grownBy W2 (some d)) (hd : d = n0 + 4 ∨ d = n0 + 5) : InT n0 b hv W2 :=
  ⟨h.fr, Nat.le_trans h.size hg.size, (hg.block n0 (by have := h.size; omega) (fun e => by have := Option.some.inj e; omega)).trans h.c4,
   (hg.block (n0 + 1) (by have := h.size; omega) (fun e => by have := Option.some.inj e; omega)).trans h.c5, (hg.block (n0 + 2) (by have := h.size; omega) (fun e => by have := Option.some.inj e; omega)).trans h.cS⟩

/-- the results stand -/
def SetT (n0 : Nat) (Wb : World) (i x0 x1 x2 x3 : Int) (ve vb : Value) : World :=
  (((((((Wb.setCell ⟨n0, 0, none⟩ (.int .i64 x0)).setCell ⟨n0, 1, none⟩ (.int .i64 x1)).setCell ⟨n0, 2, none⟩ (.int .i64 x2)).setCell ⟨n0, 3, none⟩ (.int .i64 x3)).setCell ⟨n0, 4, none⟩ ve).setCell ⟨n0, 5, none⟩ vb).setCell ⟨n0 + 1, 0, none⟩ (.int .i64 i))

theorem setT_row {n0 : Nat} {Wb : World} {i x0 x1 x2 x3 : Int} {ve vb i0 i1 i2 i3 i4 i5 j0 : Value} (h4 : Wb.heap[n0]? = some (.cells #[i0, i1, i2, i3, i4, i5] 71 (0, 0))) (h5 : Wb.heap[n0 + 1]? = some (.cells #[j0] 3 (0, 0))) :
    (SetT n0 Wb i x0 x1 x2 x3 ve vb).heap[n0]? = some (.cells #[.int .i64 x0, .int .i64 x1, .int .i64 x2, .int .i64 x3, ve, vb] 71 (0, 0)) ∧
    (SetT n0 Wb i x0 x1 x2 x3 ve vb).heap[n0 + 1]? = some (.cells #[.int .i64 i] 3 (0, 0)) := by
  have s0 := heap_setCell_same Wb n0 0 _ _ (.int .i64 x0) h4
  have s1 := heap_setCell_same _ n0 1 _ _ (.int .i64 x1) s0
  have s2 := heap_setCell_same _ n0 2 _ _ (.int .i64 x2) s1
  have s3 := heap_setCell_same _ n0 3 _ _ (.int .i64 x3) s2
  have s4 := heap_setCell_same _ n0 4 _ _ ve s3
  have s5 := heap_setCell_same _ n0 5 _ _ vb s4
  have g := grown_trans (grown_trans (grown_trans (grown_trans (grown_trans (setCell_grown Wb n0 0 (.int .i64 x0)) (setCell_grown _ n0 1 (.int .i64 x1))) (setCell_grown _ n0 2 (.int .i64 x2))) (setCell_grown _ n0 3 (.int .i64 x3))) (setCell_grown _ n0 4 ve)) (setCell_grown _ n0 5 vb)
  have h5' := (g.block (n0 + 1) (Array.getElem?_eq_some_iff.1 h5).1 (fun e => by have := Option.some.inj e; omega)).trans h5
  have s6 := heap_setCell_same _ (n0 + 1) 0 _ _ (.int .i64 i) h5'
  refine ⟨?_, s6⟩
  exact ((setCell_grown _ (n0 + 1) 0 (.int .i64 i)).block n0 (by rw [Array.getElem?_eq_some_iff] at s5; exact s5.1) (fun e => by have := Option.some.inj e; omega)).trans s5

/-- two blocks alone may have turned -/
theorem setT_block (n0 : Nat) (Wb : World) (i x0 x1 x2 x3 : Int) (ve vb : Value) (k : Nat) (h0 : k ≠ n0) (h1 : k ≠ n0 + 1) : (SetT n0 Wb i x0 x1 x2 x3 ve vb).heap[k]? = Wb.heap[k]? := by
  have g := grown_trans (grown_trans (grown_trans (grown_trans (grown_trans (setCell_grown Wb n0 0 (.int .i64 x0)) (setCell_grown _ n0 1 (.int .i64 x1))) (setCell_grown _ n0 2 (.int .i64 x2))) (setCell_grown _ n0 3 (.int .i64 x3))) (setCell_grown _ n0 4 ve)) (setCell_grown _ n0 5 vb)
  have g2 := setCell_grown ((((((Wb.setCell ⟨n0, 0, none⟩ (.int .i64 x0)).setCell ⟨n0, 1, none⟩ (.int .i64 x1)).setCell ⟨n0, 2, none⟩ (.int .i64 x2)).setCell ⟨n0, 3, none⟩ (.int .i64 x3)).setCell ⟨n0, 4, none⟩ ve).setCell ⟨n0, 5, none⟩ vb) (n0 + 1) 0 (.int .i64 i)
  by_cases hk : k < Wb.heap.size
  · exact (g2.block k (Nat.lt_of_lt_of_le hk g.size) (fun e => h1 (Option.some.inj e))).trans (g.block k hk (fun e => h0 (Option.some.inj e)))
  · have hz : (SetT n0 Wb i x0 x1 x2 x3 ve vb).heap.size = Wb.heap.size := by simp [SetT]
    rw [Array.getElem?_eq_none (by omega), Array.getElem?_eq_none (by omega)]

theorem setT_grown (n0 : Nat) (Wb : World) (i x0 x1 x2 x3 : Int) (ve vb : Value) : (SetT n0 Wb i x0 x1 x2 x3 ve vb).heap.size = Wb.heap.size ∧ (SetT n0 Wb i x0 x1 x2 x3 ve vb).os = Wb.os ∧ (SetT n0 Wb i x0 x1 x2 x3 ve vb).tape = Wb.tape ∧ (SetT n0 Wb i x0 x1 x2 x3 ve vb).output = Wb.output := by
  have g := grown_trans (grown_trans (grown_trans (grown_trans (grown_trans (setCell_grown Wb n0 0 (.int .i64 x0)) (setCell_grown _ n0 1 (.int .i64 x1))) (setCell_grown _ n0 2 (.int .i64 x2))) (setCell_grown _ n0 3 (.int .i64 x3))) (setCell_grown _ n0 4 ve)) (setCell_grown _ n0 5 vb)
  have g2 := setCell_grown ((((((Wb.setCell ⟨n0, 0, none⟩ (.int .i64 x0)).setCell ⟨n0, 1, none⟩ (.int .i64 x1)).setCell ⟨n0, 2, none⟩ (.int .i64 x2)).setCell ⟨n0, 3, none⟩ (.int .i64 x3)).setCell ⟨n0, 4, none⟩ ve).setCell ⟨n0, 5, none⟩ vb) (n0 + 1) 0 (.int .i64 i)
  exact ⟨by simp [SetT], g2.os.trans g.os, g2.tape.trans g.tape, g2.output.trans g.output⟩

/-- how Take's loop body stands behind its assign code -/
def MidT (tm : Array Value) (W : World) (x0 x1 x2 x3 : Int) (pe : Option Addr) (ne ce : Nat) (pb : Option Addr) (nb cb : Nat) (e : Exit) (a : Act) (Wa : World) : Prop :=
  e = .normal ∧ a = { tmps := tm, defers := [] } ∧ W.grownBy Wa none ∧ Wa.heap[W.heap.size]? = some (.cells #[.int .i64 x0, .int .i64 x1, .int .i64 x2, .int .i64 x3, .slice pe ne ce, .slice pb nb cb] 71 (0, 0))

set_option maxHeartbeats 2000000 in
theorem round_T {D lp : Nat} (K : LoopBook D lp) (W : World) (n0 b : Nat) (hv : Value) (pa : Option Addr) (n c : Nat) (i x0 x1 x2 x3 : Int) (pe : Option Addr) (ne ce : Nat) (pb : Option Addr) (nb cb : Nat) (I : World → Prop) (Ix : Code → World → Prop) (asg bdy : Code) (hrf : (Try.f35.body.bind rfOf) = some (asg, bdy))
    (hI : InT n0 b hv W) (hrd : K.rdy W) (hln : lp = n0 + 5)
    (hyl : ∀ Wa Wb, W.grownBy Wa none → Turn lp Wa Wb → K.busy Wb → K.busy (SetT n0 Wb i x0 x1 x2 x3 (.slice pe ne ce) (.slice pb nb cb)) ∧ Ix .ret (SetT n0 Wb i x0 x1 x2 x3 (.slice pe ne ce) (.slice pb nb cb))) :
    RoundOf Try.prog K #[.pointer (some ⟨b, 0, none⟩), .slice pa n c, undef, undef, .pointer (some ⟨n0, 0, none⟩), .pointer (some ⟨n0 + 1, 0, none⟩), undef, undef, .pointer (some ⟨b, 0, none⟩), .slice pa n c,
      .func (.func 70) #[] #[.pointer (some ⟨n0 + 3, 0, none⟩), .pointer (some ⟨n0 + 2, 0, none⟩)], undef, undef, undef, undef, undef, undef, undef] #[11, 12] asg bdy
      #[.int .i64 i, .agg #[.int .i64 x0, .int .i64 x1, .int .i64 x2, .int .i64 x3, .slice pe ne ce, .slice pb nb cb]] W I Ix := by
  simp only [Try.f35, Option.bind_some, rfOf, Option.some.injEq, Prod.mk.injEq] at hrf
  obtain ⟨rfl, rfl⟩ := hrf
  unfold RoundOf
  have HYL := Lib.hid hyl
  clear hyl
  refine wpIn_mono (Q := MidT #[.pointer (some ⟨b, 0, none⟩), .slice pa n c, undef, undef, .pointer (some ⟨n0, 0, none⟩), .pointer (some ⟨n0 + 1, 0, none⟩), .int .i64 i, .pointer (some ⟨W.heap.size, 0, none⟩), .pointer (some ⟨b, 0, none⟩), .slice pa n c,
      .func (.func 70) #[] #[.pointer (some ⟨n0 + 3, 0, none⟩), .pointer (some ⟨n0 + 2, 0, none⟩)], .int .i64 i, .agg #[.int .i64 x0, .int .i64 x1, .int .i64 x2, .int .i64 x3, .slice pe ne ce, .slice pb nb cb], undef, undef, undef, undef, undef] W x0 x1 x2 x3 pe ne ce pb nb cb) ?_ ?_
  · gi_wp2
    exact ⟨rfl, rfl, grown_alloc _ _ _, heap_alloc_new _ _⟩
  · rintro e a' Wa ⟨rfl, rfl, hg, hi⟩
    obtain ⟨⟨oD, hD, hDc⟩, ⟨ol, hl, hlc⟩⟩ := K.rdyN W hrd
    have hDlt := (Array.getElem?_eq_some_iff.1 hD).1
    have hllt := (Array.getElem?_eq_some_iff.1 hl).1
    refine ⟨K.keepR W Wa hrd (hg.block D hDlt (by simp)) (hg.block lp hllt (by simp)), ?_⟩
    intro Wb ht hb
    have HF := Lib.hid (HYL.out Wa Wb hg ht hb)
    have hIb := (hI.grown (grownBy_none hg (n0 + 4)) (.inl rfl)).grown ht.1 (.inr hln)
    have hib : Wb.heap[W.heap.size]? = some (.cells #[.int .i64 x0, .int .i64 x1, .int .i64 x2, .int .i64 x3, .slice pe ne ce, .slice pb nb cb] 71 (0, 0)) :=
      (ht.1.block W.heap.size (Array.getElem?_eq_some_iff.1 hi).1 (fun h => by have := Option.some.inj h; omega)).trans hi
    have hxz := hI.size
    obtain ⟨x, hx⟩ : ∃ x, W.heap.size = x := ⟨_, rfl⟩
    rw [hx] at hib hxz ⊢
    have v0 : Wb.cell? ⟨x, 0, none⟩ = some (.int .i64 x0) := (cell_of_row _ _ 0 _ _ _ hib).trans rfl
    have v1 : Wb.cell? ⟨x, 1, none⟩ = some (.int .i64 x1) := (cell_of_row _ _ 1 _ _ _ hib).trans rfl
    have v2 : Wb.cell? ⟨x, 2, none⟩ = some (.int .i64 x2) := (cell_of_row _ _ 2 _ _ _ hib).trans rfl
    have v3 : Wb.cell? ⟨x, 3, none⟩ = some (.int .i64 x3) := (cell_of_row _ _ 3 _ _ _ hib).trans rfl
    have v4 : Wb.cell? ⟨x, 4, none⟩ = some (.slice pe ne ce) := (cell_of_row _ _ 4 _ _ _ hib).trans rfl
    have v5 : Wb.cell? ⟨x, 5, none⟩ = some (.slice pb nb cb) := (cell_of_row _ _ 5 _ _ _ hib).trans rfl
    have q0 : Wb.cell? ⟨n0, 0, none⟩ = some (.int .i64 0) := (cell_of_row _ _ 0 _ _ _ hIb.c4).trans rfl
    have q1 : Wb.cell? ⟨n0, 1, none⟩ = some (.int .i64 0) := (cell_of_row _ _ 1 _ _ _ hIb.c4).trans rfl
    have q2 : Wb.cell? ⟨n0, 2, none⟩ = some (.int .i64 0) := (cell_of_row _ _ 2 _ _ _ hIb.c4).trans rfl
    have q3 : Wb.cell? ⟨n0, 3, none⟩ = some (.int .i64 0) := (cell_of_row _ _ 3 _ _ _ hIb.c4).trans rfl
    have q4 : Wb.cell? ⟨n0, 4, none⟩ = some (.slice none 0 0) := (cell_of_row _ _ 4 _ _ _ hIb.c4).trans rfl
    have q5 : Wb.cell? ⟨n0, 5, none⟩ = some (.slice none 0 0) := (cell_of_row _ _ 5 _ _ _ hIb.c4).trans rfl
    have r0 : Wb.cell? ⟨n0 + 1, 0, none⟩ = some (.int .i64 0) := (cell_of_row _ _ 0 _ _ _ hIb.c5).trans rfl
    have fz : ∀ k, Wb.frozen? ⟨n0, k, none⟩ = false := fun k => by have := hIb.c4; simp [World.frozen?, this]
    have fz1 : ∀ k, Wb.frozen? ⟨n0 + 1, k, none⟩ = false := fun k => by have := hIb.c5; simp [World.frozen?, this]
    clear hib hi hx hI hIb hD hl hDc hlc
    gi_wp2
    exact HF.out

theorem drop_cons {ch : List UInt8} {k : Nat} (h : k < ch.length) : ch.drop k = ch.getD k 0 :: ch.drop (k + 1) := by
  rw [List.drop_eq_getElem_cons h, List.getD_eq_getElem?_getD, List.getElem?_eq_getElem h]
  rfl

/-- so far Take has come -/
def TakeAt (s : SM) (ch : List UInt8) (k : Nat) (s' : SM) : Prop := takeR s ch = ((takeR s' (ch.drop k)).1, (takeR s' (ch.drop k)).2.1, k + (takeR s' (ch.drop k)).2.2)

theorem TakeAt.start (s : SM) (ch : List UInt8) : TakeAt s ch 0 s := by unfold TakeAt; simp

theorem TakeAt.quiet {s s' : SM} {ch : List UInt8} {k : Nat} (h : TakeAt s ch k s') (hk : k < ch.length) (he : s'.err = 0) (hq : (step s' (ch.getD k 0)).2.kind = 0) : TakeAt s ch (k + 1) (step s' (ch.getD k 0)).1 := by
  unfold TakeAt at h ⊢
  rw [h, drop_cons hk]
  simp only [takeR, if_pos he, if_pos hq]
  refine congrArg _ (congrArg _ ?_)
  omega

theorem TakeAt.found {s s' : SM} {ch : List UInt8} {k : Nat} (h : TakeAt s ch k s') (hk : k < ch.length) (he : s'.err = 0) (hq : (step s' (ch.getD k 0)).2.kind ≠ 0) : takeR s ch = ((step s' (ch.getD k 0)).1, (step s' (ch.getD k 0)).2, k + 1) := by
  unfold TakeAt at h
  rw [h, drop_cons hk]
  simp only [takeR, if_pos he, if_neg hq]

theorem TakeAt.done {s s' : SM} {ch : List UInt8} {k : Nat} (h : TakeAt s ch k s') (hk : k = ch.length ∨ (k ≤ ch.length ∧ s'.err ≠ 0)) : takeR s ch = (s', .no, ch.length) := by
  unfold TakeAt at h
  rw [h]
  by_cases hl : k = ch.length
  · subst hl
    simp [takeR]
  · have hk' : k < ch.length := by omega
    have he := (hk.resolve_left hl).2
    rw [drop_cons hk']
    simp only [takeR, if_neg he, List.length_drop]
    refine congrArg _ (congrArg _ ?_)
    omega

/-- what Take leaves -/
def TakePost (w : World) (b B : Nat) (s : SM) (hv : Value) (ch : List UInt8) (e : Ending) (w' : World) : Prop :=
  ∃ hv' ve vb, e = .returned (.tuple #[(takeR s ch).2.1.val ve vb, .int .i64 (takeR s ch).2.2]) ∧ StS w' b B (takeR s ch).1 hv' ∧ Mv b hv w hv' w' ∧ ItO w.heap.size w' (takeR s ch).2.1 ve vb ∧ Apart ve hv' ∧ Apart vb hv'

/-- Take, as an invariant for the iterator -/
def JT {D lp : Nat} (K : LoopBook D lp) (w : World) (b : Nat) (hv : Value) (s : SM) (ch : List UInt8) (k : Nat) (s' : SM) (hv' : Value) (W : World) : Prop :=
  K.rdy W ∧ Mv b hv w hv' W ∧ InT w.heap.size b hv' W ∧ TakeAt s ch k s'
/-- .. an item has come -/
structure EndT (w : World) (b B : Nat) (hv : Value) (r : SM × Itm × Nat) (ve vb hv' : Value) (W : World) : Prop where
  st : StS W b B r.1 hv'
  mv : Mv b hv w hv' W
  it : ItO (w.heap.size + 6) W r.2.1 ve vb
  ap : Apart ve hv' ∧ Apart vb hv'
  fr : ∀ j, w.heap.size ≤ j → j < w.heap.size + 6 → j ≠ b ∧ hv'.ownBlock ≠ some j
  size : w.heap.size + 6 ≤ W.heap.size
  c4 : W.heap[w.heap.size]? = some (.cells #[.int .i64 r.2.1.kind, .int .i64 r.2.1.proto, .int .i64 r.2.1.T, .int .i64 r.2.1.ch, ve, vb] 71 (0, 0))
  c5 : W.heap[w.heap.size + 1]? = some (.cells #[.int .i64 r.2.2] 3 (0, 0))
def JXT {D lp : Nat} (K : LoopBook D lp) (w : World) (b B : Nat) (hv : Value) (s : SM) (ch : List UInt8) (W : World) : Prop :=
  K.fin .ret W ∧ ∃ ve vb hv', EndT w b B hv (takeR s ch) ve vb hv' W

theorem EndT.grown {w : World} {b B : Nat} {hv : Value} {r : SM × Itm × Nat} {ve vb hv' : Value} {W W' : World} {d : Nat} (h : EndT w b B hv r ve vb hv' W) (hg : W.grownBy W' (some d)) (hd : d = w.heap.size + 4 ∨ d = w.heap.size + 5) : EndT w b B hv r ve vb hv' W' := by
  have hf := h.fr d (by omega) (by omega)
  have hz := h.size
  refine ⟨h.st.grown hg hf.1 hf.2, ⟨hg.os.trans h.mv.os, hg.tape.trans h.mv.tape, hg.output.trans h.mv.output, Nat.le_trans h.mv.size hg.size, fun k hk hb hh => ?_, h.mv.hv⟩, h.it.move (Nat.le_refl _) hg (fun k hk => by cases hk; omega), h.ap, h.fr, Nat.le_trans hz hg.size,
    (hg.block _ (by omega) (fun e => by have := Option.some.inj e; omega)).trans h.c4, (hg.block _ (by omega) (fun e => by have := Option.some.inj e; omega)).trans h.c5⟩
  exact (hg.block k (by omega) (fun e => by have := Option.some.inj e; omega)).trans (h.mv.block k hk hb hh)

set_option maxHeartbeats 1000000 in
theorem rides_T {w : World} {b B n c : Nat} {hv : Value} {pa : Option Addr} {s : SM} {ch : List UInt8} (K : LoopBook (w.heap.size + 4) (w.heap.size + 4 + 1)) (asg bdy : Code) (hrf : (Try.f35.body.bind rfOf) = some (asg, bdy))
    (hby : BytesIn w pa n c ch) (hof : 0 < c → ∀ a, pa = some a → a.block ≠ b ∧ hv.ownBlock ≠ some a.block) (hbn : b < w.heap.size)
    (hyield : ∀ (xs : Array Value) (W : World) (I : World → Prop) (Ix : Code → World → Prop), xs.size = 2 → K.rdy W →
      RoundOf Try.prog K #[.pointer (some ⟨b, 0, none⟩), .slice pa n c, undef, undef, .pointer (some ⟨w.heap.size, 0, none⟩), .pointer (some ⟨w.heap.size + 1, 0, none⟩), undef, undef, .pointer (some ⟨b, 0, none⟩), .slice pa n c,
      .func (.func 70) #[] #[.pointer (some ⟨w.heap.size + 3, 0, none⟩), .pointer (some ⟨w.heap.size + 2, 0, none⟩)], undef, undef, undef, undef, undef, undef, undef] #[11, 12] asg bdy xs W I Ix →
      YieldAt Fence.wide 3 Try.prog (w.heap.size + 4 + 1) xs W (YieldOf K I Ix)) :
    Rides (w.heap.size + 4 + 1) b B (w.heap.size + 2) pa n c ch (JT K w b hv s ch) (JXT K w b B hv s ch) := by
  have hlen := hby.len
  refine ⟨?_, ?_, ?_⟩
  · rintro k s' hv' W ⟨hrd, hm, hI, hT⟩
    have hf := hI.fr (w.heap.size + 2) (by omega) (by omega)
    exact ⟨(cell_of_row _ _ 0 _ _ _ hI.cS).trans rfl, hby.mv hm hof, hf.1, hf.2⟩
  · rintro k s' hv' W hv2 W' hk ⟨hrd, hm, hI, hT⟩ hS he hno hm2 hS'
    have h4 := hI.fr (w.heap.size + 4) (by omega) (by omega)
    have h5 := hI.fr (w.heap.size + 5) (by omega) (by omega)
    have hz := hI.size
    exact ⟨K.keepR W W' hrd (hm2.block _ (by omega) h4.1 h4.2) (hm2.block _ (by omega) h5.1 h5.2), hm.trans hm2, hI.mv hm2, hT.quiet (by omega) he (by rw [hno]; rfl)⟩
  · rintro k s' hv' W hv2 W' ve vb hk ⟨hrd, hm, hI, hT⟩ hS he hne hm2 hS' hit ha1 ha2
    have h4 := hI.fr (w.heap.size + 4) (by omega) (by omega)
    have h5 := hI.fr (w.heap.size + 5) (by omega) (by omega)
    have hz := hI.size
    have hrd' := K.keepR W W' hrd (hm2.block _ (by omega) h4.1 h4.2) (hm2.block _ (by omega) h5.1 h5.2)
    have hI' := hI.mv hm2
    have hm' := hm.trans hm2
    have hfd := hT.found (by omega) he hne
    obtain ⟨st, hst⟩ : ∃ st, step s' (ch.getD k 0) = st := ⟨_, rfl⟩
    rw [hst] at hfd hne hS' hit ⊢
    obtain ⟨s2, it⟩ := st
    simp only at hfd hne hS' hit ⊢
    obtain ⟨pe, ce, rfl, _⟩ := hit.ext.bytes
    obtain ⟨pb, cb, rfl, _⟩ := hit.body.bytes
    have hro := round_T (pa := pa) (n := n) (c := c) K W' w.heap.size b hv2 ((k : Int) + 1) it.kind it.proto it.T it.ch pe it.ext.length ce pb it.body.length cb
      (fun _ => False) (fun c' W3 => c' = .ret ∧ ∃ ve vb hv3, EndT w b B hv (takeR s ch) ve vb hv3 W3) asg bdy hrf hI' hrd' rfl (by
        intro Wa Wb hga htu hbu
        have f4 := hI'.fr (w.heap.size + 4) (by omega) (by omega)
        have f5 := hI'.fr (w.heap.size + 5) (by omega) (by omega)
        have hIb := (hI'.grown (grownBy_none hga (w.heap.size + 4)) (.inl rfl)).grown htu.1 (.inr rfl)
        have hSb := (hS'.grown (grownBy_none hga (w.heap.size + 4)) f4.1 f4.2).grown htu.1 f5.1 f5.2
        have hitb := ((hit.move (Nat.le_refl _) hga (by simp)).move (n' := w.heap.size + 6) hz htu.1 (fun k hk => by cases hk; omega))
        have hset := setT_block w.heap.size Wb ((k : Int) + 1) it.kind it.proto it.T it.ch (.slice pe it.ext.length ce) (.slice pb it.body.length cb)
        obtain ⟨g1, g2, g3, g4⟩ := setT_grown w.heap.size Wb ((k : Int) + 1) it.kind it.proto it.T it.ch (.slice pe it.ext.length ce) (.slice pb it.body.length cb)
        obtain ⟨e4, e5⟩ := setT_row (i := (k : Int) + 1) (x0 := it.kind) (x1 := it.proto) (x2 := it.T) (x3 := it.ch) (ve := .slice pe it.ext.length ce) (vb := .slice pb it.body.length cb) hIb.c4 hIb.c5
        generalize SetT w.heap.size Wb ((k : Int) + 1) it.kind it.proto it.T it.ch (.slice pe it.ext.length ce) (.slice pb it.body.length cb) = W2 at *
        have hzb := hIb.size
        refine ⟨K.keepB Wb W2 hbu (hset _ (by omega) (by omega)) (hset _ (by omega) (by omega)), rfl, .slice pe it.ext.length ce, .slice pb it.body.length cb, hv2, ?_⟩
        rw [hfd]
        have hsame : ∀ {B' : Nat} {v : Value} {l : List UInt8}, OwnBytes Wb B' 5 v l → (v.ownBlock ≠ some w.heap.size ∧ v.ownBlock ≠ some (w.heap.size + 1)) → OwnBytes W2 B' 5 v l := by
          intro B' v l ho hne
          exact ho.same' (fun j hj => hset j (fun e => hne.1 (e ▸ hj)) (fun e => hne.2 (e ▸ hj)))
        have hnew : ∀ {v : Value} {l : List UInt8}, OwnBytes Wb (w.heap.size + 6) 5 v l → OwnBytes W2 (w.heap.size + 6) 5 v l := by
          intro v l ho
          refine hsame ho ⟨fun hq => ?_, fun hq => ?_⟩
          · rcases ho.off' (b := w.heap.size) (by omega) with h1 | h1
            · rw [h1] at hq; simp at hq
            · exact h1 hq
          · rcases ho.off' (b := w.heap.size + 1) (by omega) with h1 | h1
            · rw [h1] at hq; simp at hq
            · exact h1 hq
        have f0 := hI'.fr w.heap.size (by omega) (by omega)
        have f1 := hI'.fr (w.heap.size + 1) (by omega) (by omega)
        refine ⟨⟨⟨(hset b (fun e => f0.1 e.symm) (fun e => f1.1 e.symm)).trans hSb.ins.row, hsame hSb.ins.held ⟨f0.2, f1.2⟩, hSb.ins.lt, by rw [g1]; exact hSb.ins.le⟩, hSb.ok⟩, ?_, ⟨hitb.nil, hnew hitb.ext, hnew hitb.body, hitb.apart⟩, ⟨ha1, ha2⟩, hI'.fr, by rw [g1]; exact hzb, e4, by push_cast at e5 ⊢; exact e5⟩
        refine ⟨g2.trans (htu.1.os.trans (hga.os.trans hm'.os)), g3.trans (htu.1.tape.trans (hga.tape.trans hm'.tape)), g4.trans (htu.1.output.trans (hga.output.trans hm'.output)), by rw [g1]; omega, fun j hj hjb hjh => ?_, hm'.hv⟩
        rw [hset j (by omega) (by omega), htu.1.block j (Nat.lt_of_lt_of_le hj (Nat.le_trans hm'.size hga.size)) (fun e => by have := Option.some.inj e; omega), hga.block j (Nat.lt_of_lt_of_le hj hm'.size) (by simp), hm'.block j hj hjb hjh])
    refine (hyield _ W' _ _ rfl hrd' hro).mono ?_
    rintro e W'' (⟨rfl, hr2, W3, hF, ht2⟩ | ⟨rfl, c', hf2, W3, ⟨rfl, ve, vb, hv3, hE⟩, ht2⟩)
    · exact hF.elim
    · exact .inr ⟨rfl, hf2, ve, vb, hv3, hE.grown ht2.1 (.inr rfl)⟩

theorem results_take {m : Nat} {W : World} {x0 x1 x2 x3 i : Int} {pe pb : Option Addr} {ne ce nb cb : Nat} {tm : Array Value} (h4 : W.heap[m]? = some (.cells #[.int .i64 x0, .int .i64 x1, .int .i64 x2, .int .i64 x3, .slice pe ne ce, .slice pb nb cb] 71 (0, 0)) ) (h5 : W.heap[m + 1]? = some (.cells #[.int .i64 i] 3 (0, 0)))
  (t4 : tm.getD 4 undef = .pointer (some ⟨m, 0, none⟩)) (t5 : tm.getD 5 undef = .pointer (some ⟨m + 1, 0, none⟩)) :
    (results Try.f35 tm).run Try.prog W = .ok (.tuple #[.agg #[.int .i64 x0, .int .i64 x1, .int .i64 x2, .int .i64 x3, .slice pe ne ce, .slice pb nb cb], .int .i64 i]) W := by
  have q0 : W.cell? ⟨m, 0, none⟩ = some (.int .i64 x0) := (cell_of_row _ _ 0 _ _ _ h4).trans rfl
  have q1 : W.cell? ⟨m, 1, none⟩ = some (.int .i64 x1) := (cell_of_row _ _ 1 _ _ _ h4).trans rfl
  have q2 : W.cell? ⟨m, 2, none⟩ = some (.int .i64 x2) := (cell_of_row _ _ 2 _ _ _ h4).trans rfl
  have q3 : W.cell? ⟨m, 3, none⟩ = some (.int .i64 x3) := (cell_of_row _ _ 3 _ _ _ h4).trans rfl
  have q4 : W.cell? ⟨m, 4, none⟩ = some (.slice pe ne ce) := (cell_of_row _ _ 4 _ _ _ h4).trans rfl
  have q5 : W.cell? ⟨m, 5, none⟩ = some (.slice pb nb cb) := (cell_of_row _ _ 5 _ _ _ h4).trans rfl
  have r0 : W.cell? ⟨m + 1, 0, none⟩ = some (.int .i64 i) := (cell_of_row _ _ 0 _ _ _ h5).trans rfl
  have t4' : tm[4]?.getD undef = .pointer (some ⟨m, 0, none⟩) := by simpa using t4
  have t5' : tm[5]?.getD undef = .pointer (some ⟨m + 1, 0, none⟩) := by simpa using t5
  simp [results, Try.f35, go_sem, q0, q1, q2, q3, q4, q5, r0, t4', t5']

set_option maxHeartbeats 1000000 in
theorem take_any (w : World) (b B : Nat) (s : SM) (hv : Value) (pa : Option Addr) (n c : Nat) (ch : List UInt8) (hS : StS w b B s hv) (hby : BytesIn w pa n c ch) (hof : 0 < c → ∀ a, pa = some a → a.block ≠ b ∧ hv.ownBlock ≠ some a.block) :
    Calls Try.prog 35 #[.pointer (some ⟨b, 0, none⟩), .slice pa n c] w (TakePost w b B s hv ch) := by
  have HS := Lib.hid hS
  have HY := Lib.hid hby
  have HF := Lib.hid hof
  clear hS hby hof
  refine calls_of_wp_marks Try.func35 rfl ?_
  simp only [Try.ntmps35, List.size_toArray, List.length_cons, List.length_nil, Nat.reduceAdd, Nat.reduceSub, Array.replicate_succ, Array.replicate_zero, List.push_toArray, List.append_toArray, List.nil_append, List.cons_append]
  go_upto_region 1 with fail
  have y4 : ((w.alloc (.cells #[.int .i64 0, .int .i64 0, .int .i64 0, .int .i64 0, .slice none 0 0, .slice none 0 0] 71)).alloc (.cells #[.int .i64 0] 3)).heap[w.heap.size]? = some (.cells #[.int .i64 0, .int .i64 0, .int .i64 0, .int .i64 0, .slice none 0 0, .slice none 0 0] 71 (0, 0)) := (heap_alloc_old _ _ (by simp)).trans (heap_alloc_new w _)
  have y5 : ((w.alloc (.cells #[.int .i64 0, .int .i64 0, .int .i64 0, .int .i64 0, .slice none 0 0, .slice none 0 0] 71)).alloc (.cells #[.int .i64 0] 3)).heap[w.heap.size + 1]? = some (.cells #[.int .i64 0] 3 (0, 0)) := by
    have := heap_alloc_new (w.alloc (.cells #[.int .i64 0, .int .i64 0, .int .i64 0, .int .i64 0, .slice none 0 0, .slice none 0 0] 71)) (.cells #[.int .i64 0] 3)
    rwa [World.size_alloc] at this
  have g1 : w.grownBy ((w.alloc (.cells #[.int .i64 0, .int .i64 0, .int .i64 0, .int .i64 0, .slice none 0 0, .slice none 0 0] 71)).alloc (.cells #[.int .i64 0] 3)) none := grown_trans (grown_alloc _ _ _) (grown_alloc _ _ _)
  have z1 : ((w.alloc (.cells #[.int .i64 0, .int .i64 0, .int .i64 0, .int .i64 0, .slice none 0 0, .slice none 0 0] 71)).alloc (.cells #[.int .i64 0] 3)).heap.size = w.heap.size + 2 := by simp
  generalize ((w.alloc (.cells #[.int .i64 0, .int .i64 0, .int .i64 0, .int .i64 0, .slice none 0 0, .slice none 0 0] 71)).alloc (.cells #[.int .i64 0] 3)) = w1 at *
  have hit := items_any w1 b pa n c
  go_wp2_with fail
  refine hit.mono ?_
  clear hit
  rintro e w2 ⟨rfl, rfl⟩
  go_wp2_with fail
  have Y4 : ((w1.alloc (.cells #[.pointer (some ⟨b, 0, none⟩)] 56)).alloc (.cells #[.slice pa n c] 22)).heap[w.heap.size]? = some (.cells #[.int .i64 0, .int .i64 0, .int .i64 0, .int .i64 0, .slice none 0 0, .slice none 0 0] 71 (0, 0)) := (heap_alloc_old _ _ (by simp; omega)).trans ((heap_alloc_old _ _ (by omega)).trans y4)
  have Y5 : ((w1.alloc (.cells #[.pointer (some ⟨b, 0, none⟩)] 56)).alloc (.cells #[.slice pa n c] 22)).heap[w.heap.size + 1]? = some (.cells #[.int .i64 0] 3 (0, 0)) := (heap_alloc_old _ _ (by simp; omega)).trans ((heap_alloc_old _ _ (by omega)).trans y5)
  have S2 : ((w1.alloc (.cells #[.pointer (some ⟨b, 0, none⟩)] 56)).alloc (.cells #[.slice pa n c] 22)).heap[w.heap.size + 2]? = some (.cells #[.pointer (some ⟨b, 0, none⟩)] 56 (0, 0)) := (heap_alloc_old _ _ (by simp; omega)).trans (by rw [← z1]; exact heap_alloc_new _ _)
  have C2 : ((w1.alloc (.cells #[.pointer (some ⟨b, 0, none⟩)] 56)).alloc (.cells #[.slice pa n c] 22)).heap[w.heap.size + 3]? = some (.cells #[.slice pa n c] 22 (0, 0)) := by
    have := heap_alloc_new (w1.alloc (.cells #[.pointer (some ⟨b, 0, none⟩)] 56)) (.cells #[.slice pa n c] 22)
    rwa [World.size_alloc, z1] at this
  have g2 : w.grownBy ((w1.alloc (.cells #[.pointer (some ⟨b, 0, none⟩)] 56)).alloc (.cells #[.slice pa n c] 22)) none := grown_trans g1 (grown_trans (grown_alloc _ _ _) (grown_alloc _ _ _))
  have z2 : ((w1.alloc (.cells #[.pointer (some ⟨b, 0, none⟩)] 56)).alloc (.cells #[.slice pa n c] 22)).heap.size = w.heap.size + 4 := by simp; omega
  generalize ((w1.alloc (.cells #[.pointer (some ⟨b, 0, none⟩)] 56)).alloc (.cells #[.slice pa n c] 22)) = w2 at *
  clear y4 y5 g1 z1
  refine wp_rangeFunc_any (gf := 70) (lb := #[.pointer (some ⟨w.heap.size + 3, 0, none⟩), .pointer (some ⟨w.heap.size + 2, 0, none⟩)]) rfl (enters_of Try.func70 (by kernel_rfl) rfl) ?_
  rw [z2]
  intro K W1 hg1 hz1 hrd hyield
  have hbn : b < w.heap.size := (Array.getElem?_eq_some_iff.1 HS.out.ins.row).1
  have hhn := HS.out.held_lt
  have hRi := rides_T (B := B) (s := s) K _ _ (by kernel_rfl) HY.out HF.out hbn hyield
  have hgw : w.grownBy W1 none := grown_trans g2 hg1
  have hJ0 : JT K w b hv s ch 0 s hv W1 := by
    refine ⟨hrd, Mv.of_grown (grownBy_none hgw b), ⟨fun j h1 h2 => ⟨by omega, fun h => by have := hhn _ h; omega⟩, by omega, (hg1.block _ (by omega) (by simp)).trans Y4, (hg1.block _ (by omega) (by simp)).trans Y5, (hg1.block _ (by omega) (by simp)).trans S2⟩, TakeAt.start s ch⟩
  have hS1 : StS W1 b B s hv := HS.out.grown (grownBy_none hgw w.heap.size) (by omega) (fun h => by have := hhn _ h; omega)
  have hC1 : W1.cell? ⟨w.heap.size + 3, 0, none⟩ = some (.slice pa n c) := (World.cell?_of_block (hg1.block (w.heap.size + 3) (by omega) (by simp))).trans ((cell_of_row _ _ 0 _ _ _ C2).trans rfl)
  simp only [List.append_toArray, List.cons_append, List.nil_append]
  refine (items1_in W1 (w.heap.size + 4 + 1) b B (w.heap.size + 2) (w.heap.size + 3) pa n c ch _ _ hRi s hv hJ0 hS1 hC1).mono ?_
  rintro e W2 ⟨⟨v, rfl⟩, h⟩
  refine ⟨⟨v, rfl⟩, ?_⟩
  have hlen := HY.out.len
  rcases h with ⟨k, s', hv', hk, hor, ⟨hr2, hm2, hI2, hT2⟩, hs2⟩ | ⟨hf2, ve, vb, hv', hE⟩
  · refine .inl ⟨hr2, fun W3 ht hD => ?_⟩
    have hI3 := hI2.grown ht.1 (.inr rfl)
    have hTd := hT2.done (hor.imp (fun h => by omega) (fun h => ⟨by omega, h⟩))
    have hm3 : Mv b hv w hv' W3 := ⟨ht.1.os.trans hm2.os, ht.1.tape.trans hm2.tape, ht.1.output.trans hm2.output, Nat.le_trans hm2.size ht.1.size, fun j hj hjb hjh => (ht.1.block j (Nat.lt_of_lt_of_le hj hm2.size) (fun e => by have := Option.some.inj e; omega)).trans (hm2.block j hj hjb hjh), hm2.hv⟩
    have f5 := hI2.fr (w.heap.size + 5) (by omega) (by omega)
    have hs3 := hs2.grown ht.1 f5.1 f5.2
    have q0 : W3.cell? ⟨w.heap.size, 0, none⟩ = some (.int .i64 0) := (cell_of_row _ _ 0 _ _ _ hI3.c4).trans rfl
    have q1 : W3.cell? ⟨w.heap.size, 1, none⟩ = some (.int .i64 0) := (cell_of_row _ _ 1 _ _ _ hI3.c4).trans rfl
    have q2 : W3.cell? ⟨w.heap.size, 2, none⟩ = some (.int .i64 0) := (cell_of_row _ _ 2 _ _ _ hI3.c4).trans rfl
    have q3 : W3.cell? ⟨w.heap.size, 3, none⟩ = some (.int .i64 0) := (cell_of_row _ _ 3 _ _ _ hI3.c4).trans rfl
    have q4 : W3.cell? ⟨w.heap.size, 4, none⟩ = some (.slice none 0 0) := (cell_of_row _ _ 4 _ _ _ hI3.c4).trans rfl
    have q5 : W3.cell? ⟨w.heap.size, 5, none⟩ = some (.slice none 0 0) := (cell_of_row _ _ 5 _ _ _ hI3.c4).trans rfl
    have r0 : W3.cell? ⟨w.heap.size + 1, 0, none⟩ = some (.int .i64 0) := (cell_of_row _ _ 0 _ _ _ hI3.c5).trans rfl
    have fz : ∀ k, W3.frozen? ⟨w.heap.size, k, none⟩ = false := fun k => by have := hI3.c4; simp [World.frozen?, this]
    have fz1 : ∀ k, W3.frozen? ⟨w.heap.size + 1, k, none⟩ = false := fun k => by have := hI3.c5; simp [World.frozen?, this]
    have HI3 := Lib.hid hI3
    have HM3 := Lib.hid hm3
    have HS3 := Lib.hid hs3
    have HTD := Lib.hid hTd
    have HD := Lib.hid hD
    clear hI3 hm3 hs3 hTd hD hI2 hm2 hT2 hor ht hr2 hs2 hrd hyield hRi hJ0 hS1 hC1 Y4 Y5 S2 C2 g2 z2 hg1 hz1 hgw f5
    simp only [Exit.inBlock, Exit.then]
    go_at_K
    go_wp2_with fail
    have hset := setT_block w.heap.size W3 n 0 0 0 0 (.slice none 0 0) (.slice none 0 0)
    obtain ⟨g1, g2, g3, g4⟩ := setT_grown w.heap.size W3 n 0 0 0 0 (.slice none 0 0) (.slice none 0 0)
    obtain ⟨e4, e5⟩ := setT_row (i := n) (x0 := 0) (x1 := 0) (x2 := 0) (x3 := 0) (ve := .slice none 0 0) (vb := .slice none 0 0) HI3.out.c4 HI3.out.c5
    change bodyPostM _ _ _ _ _ _ _ (SetT w.heap.size W3 n 0 0 0 0 (.slice none 0 0) (.slice none 0 0))
    generalize (SetT w.heap.size W3 n 0 0 0 0 (.slice none 0 0) (.slice none 0 0)) = W4 at *
    have hz3 := HI3.out.size
    have hfr := HI3.out.fr
    have f0 := hfr w.heap.size (by omega) (by omega)
    have f1 := hfr (w.heap.size + 1) (by omega) (by omega)
    have f4 := hfr (w.heap.size + 4) (by omega) (by omega)
    refine ⟨by simp, .inl ⟨_, _, rfl, run_takeDeferred ((hset _ (by omega) (by omega)).trans HD.out), ?_⟩⟩
    have gp := grownBy_putObj' W4 (w.heap.size + 4) (.deferred none)
    have hsz : w.heap.size < W4.heap.size := by omega
    refine ⟨_, results_take ((gp.block _ (by omega) (fun e => by have := Option.some.inj e; omega)).trans e4) ((gp.block _ (by omega) (fun e => by have := Option.some.inj e; omega)).trans e5) rfl rfl, ?_⟩
    have hst := HS3.out
    have hst4 : StS W4 b B s' hv' := ⟨⟨(hset b (fun e => f0.1 e.symm) (fun e => f1.1 e.symm)).trans hst.ins.row, hst.ins.held.same' (fun j hj => hset j (fun e => f0.2 (e ▸ hj)) (fun e => f1.2 (e ▸ hj))), hst.ins.lt, by rw [g1]; exact hst.ins.le⟩, hst.ok⟩
    have hm3 := HM3.out
    unfold TakePost
    rw [HTD.out, hlen]
    refine ⟨hv', .slice none 0 0, .slice none 0 0, rfl, hst4.grown gp f4.1 f4.2, ?_, ItO.no _ _, .inl rfl, .inl rfl⟩
    refine ⟨gp.os.trans (g2.trans hm3.os), gp.tape.trans (g3.trans hm3.tape), gp.output.trans (g4.trans hm3.output), Nat.le_trans (by rw [g1]; exact hm3.size) gp.size, fun j hj hjb hjh => ?_, hm3.hv⟩
    rw [gp.block j (by omega) (fun e => by have := Option.some.inj e; omega), hset j (by omega) (by omega), hm3.block j hj hjb hjh]
  · refine .inr ⟨.ret, hf2, fun W3 ht hD => ?_⟩
    refine (wpIn_wide (n := 5)).1 (wpIn_ret ?_)
    refine ⟨by simp, .inl ⟨_, _, rfl, run_takeDeferred hD, ?_⟩⟩
    have hE3 := (hE.grown ht.1 (.inr rfl)).grown (grownBy_putObj' W3 (w.heap.size + 4) (.deferred none)) (.inl rfl)
    obtain ⟨pe, ce, rfl, _⟩ := hE3.it.ext.bytes
    obtain ⟨pb, cb, rfl, _⟩ := hE3.it.body.bytes
    refine ⟨_, results_take hE3.c4 hE3.c5 rfl rfl, ?_⟩
    exact ⟨hv', _, _, rfl, hE3.st, hE3.mv, hE3.it.move (by omega) (World.grownBy.refl _ none) (by simp), hE3.ap.1, hE3.ap.2⟩
end Go.Proofs.Ytofdpccjpodbhaa
