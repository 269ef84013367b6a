/-
  The stream's All: what its iterator asks of a caller, and does. Conditions: the stream lies in a block of its own; the chunk lies elsewhere.
-/
import Derived.Test.YtofdpccjpodbhaaStr7
namespace Go.Proofs.Ytofdpccjpodbhaa
open Go.RowKit
set_option linter.unusedVariables false

attribute [local go_sem] Oper.semAt_some

theorem calls_of_wp_marks {P : Program} {f : FuncId} {fn : Func} {c : Code} {args : Array Value} {w : World} {R : Ending → World → Prop}
    (hf : P.funcs[f]? = some fn) (hb : fn.body = some c)
    (h : c.wp P (bodyPostM Fence.wide 5 P fn R) { tmps := args ++ Array.replicate (fn.ntmps - args.size) undef, defers := [] } w) : Calls P f args w R :=
  (callsIn_wide (n := 5)).1 (callsIn_of_wp_marks hf hb trivial ((wpIn_wide (n := 5)).2 h))

theorem items_any (w : World) (b : Nat) (p : Option Addr) (n c : Nat) :
    Calls Try.prog 61 #[.pointer (some ⟨b, 0, none⟩), .slice p n c] w fun e w' =>
      e = .returned (.func (.func 70) #[] #[.pointer (some ⟨w.heap.size + 1, 0, none⟩), .pointer (some ⟨w.heap.size, 0, none⟩)]) ∧
      w' = (w.alloc (.cells #[.pointer (some ⟨b, 0, none⟩)] 56)).alloc (.cells #[.slice p n c] 22) := by
  have hmf : ∀ (fn : Fn) (first cap : Array Value) (w : World), (Instr.makeFunc fn first cap).run Try.prog w = .ok (.func fn first cap) w := fun _ _ _ _ => rfl
  go_enter Try.func61, Try.ntmps61
  go_wp2_with fail
  go_ret
  exact ⟨rfl, rfl⟩

/-- what a loop's body keeps: all but what its owner has, the stream, what it holds -/
structure KeepO (N : Nat) (O : Nat → Prop) (b : Nat) (hv : Value) (W : World) (O2 : Nat → Prop) (hv2 : Value) (W2 : World) : Prop where
  os : W2.os = W.os
  tape : W2.tape = W.tape
  output : W2.output = W.output
  size : W.heap.size ≤ W2.heap.size
  block : ∀ j, j < W.heap.size → ¬ O j → j ≠ b → hv.ownBlock ≠ some j → W2.heap[j]? = W.heap[j]?
  own : ∀ j, O2 j → O j ∨ N ≤ j
  held : ∀ j, hv2.ownBlock = some j → hv.ownBlock = some j ∨ N ≤ j

/-- what All's iterator asks of a caller's invariant J: O are the blocks that its body may write -/
structure RidesA (n0 l b B : Nat) (pa : Option Addr) (n c : Nat) (ch : List UInt8) (J : Nat → SM → Value → (Nat → Prop) → World → Prop) (Jx : SM → Value → (Nat → Prop) → World → Prop) : Prop where
  fresh : ∀ k s hv O W, J k s hv O W → ∀ j, O j → j < W.heap.size
  reads : ∀ k s hv O W, J k s hv O W → BytesIn W pa n c ch
  turn : ∀ k s hv O W W' d, J k s hv O W → n0 ≤ d → ¬ O d → d ≠ b → hv.ownBlock ≠ some d → W.grownBy W' (some d) → J k s hv O W'
  turnX : ∀ s hv O W W' d, Jx s hv O W → n0 ≤ d → ¬ O d → d ≠ b → hv.ownBlock ≠ some d → W.grownBy W' (some d) → Jx s hv O W'
  quiet : ∀ k s hv O W hv' W', k < n → J k s hv O W → StS W b B s hv → s.err = 0 → (step s (ch.getD k 0)).2 = .no → Mv b hv W hv' W' → StS W' b B (step s (ch.getD k 0)).1 hv' → J (k + 1) (step s (ch.getD k 0)).1 hv' O W'
  yields : ∀ k s hv O W hv' W' ve vb, k < n → J k s hv O W → StS W b B s hv → s.err = 0 → (step s (ch.getD k 0)).2.kind ≠ 0 → Mv b hv W hv' W' → StS W' b B (step s (ch.getD k 0)).1 hv' →
    ItO W.heap.size W' (step s (ch.getD k 0)).2 ve vb → Apart ve hv' → Apart vb hv' →
    YieldAt Fence.wide 3 Try.prog l #[(step s (ch.getD k 0)).2.val ve vb] W' fun e W2 =>
      (e = .returned (.bool true) ∧ ∃ s2 hv2 O2, StS W2 b B s2 hv2 ∧ J (k + 1) s2 hv2 O2 W2 ∧ KeepO W.heap.size O b hv' W' O2 hv2 W2) ∨
      (e = .returned (.bool false) ∧ ∃ s2 hv2 O2, StS W2 b B s2 hv2 ∧ Jx s2 hv2 O2 W2 ∧ KeepO W.heap.size O b hv' W' O2 hv2 W2)

/-- what it leaves -/
def ItEndA (b B n : Nat) (J : Nat → SM → Value → (Nat → Prop) → World → Prop) (Jx : SM → Value → (Nat → Prop) → World → Prop) (e : Ending) (W : World) : Prop :=
  (∃ v, e = .returned v) ∧ ((∃ k s' hv' O, k ≤ n ∧ (k = n ∨ s'.err ≠ 0) ∧ J k s' hv' O W ∧ StS W b B s' hv') ∨ ∃ s' hv' O, Jx s' hv' O W ∧ StS W b B s' hv')

/-- the iterator's own blocks: n0 the yield, n0+1 the stream's address, n0+2 the chunk; n0+3, n0+4 the inner loop's -/
structure InA (n0 l b n c : Nat) (pa : Option Addr) (O : Nat → Prop) (hv : Value) (W : World) : Prop where
  fr : ∀ j, n0 ≤ j → j < n0 + 5 → ¬ O j ∧ j ≠ b ∧ hv.ownBlock ≠ some j
  size : n0 + 5 ≤ W.heap.size
  cy : W.heap[n0]? = some (.cells #[.func (.yield l) #[] #[]] 102 (0, 0))
  cS : W.heap[n0 + 1]? = some (.cells #[.pointer (some ⟨b, 0, none⟩)] 56 (0, 0))
  cC : W.heap[n0 + 2]? = some (.cells #[.slice pa n c] 22 (0, 0))

theorem InA.keep {N n0 l b n c : Nat} {pa : Option Addr} {O O2 : Nat → Prop} {hv hv2 : Value} {W W2 : World} (h : InA n0 l b n c pa O hv W) (hk : KeepO N O b hv W O2 hv2 W2) (hN : n0 + 5 ≤ N) : InA n0 l b n c pa O2 hv2 W2 := by
  have hz := h.size
  have hb : ∀ j, n0 ≤ j → j < n0 + 5 → W2.heap[j]? = W.heap[j]? := fun j h1 h2 => hk.block j (by omega) (h.fr j h1 h2).1 (h.fr j h1 h2).2.1 (h.fr j h1 h2).2.2
  refine ⟨fun j h1 h2 => ⟨fun ho => ?_, (h.fr j h1 h2).2.1, fun hq => ?_⟩, Nat.le_trans hz hk.size, (hb n0 (by omega) (by omega)).trans h.cy, (hb (n0 + 1) (by omega) (by omega)).trans h.cS, (hb (n0 + 2) (by omega) (by omega)).trans h.cC⟩
  · rcases hk.own j ho with h3 | h3
    · exact (h.fr j h1 h2).1 h3
    · omega
  · rcases hk.held j hq with h3 | h3
    · exact (h.fr j h1 h2).2.2 h3
    · omega

theorem Mv.keepO {N b : Nat} {hv hv' : Value} {W W' : World} (O : Nat → Prop) (h : Mv b hv W hv' W') (hN : N ≤ W.heap.size) : KeepO N O b hv W O hv' W' :=
  ⟨h.os, h.tape, h.output, h.size, fun j h1 _ h3 h4 => h.block j h1 h3 h4, fun j h => .inl h, fun j hq => by
    rcases h.hv with h1 | h1 | ⟨g, h1, h2⟩
    · rw [h1] at hq; simp at hq
    · exact .inl (h1 ▸ hq)
    · rw [h1] at hq
      have : g = j := Option.some.inj hq
      exact .inr (by omega)⟩

theorem StS.held_lt {W : World} {b B : Nat} {s : SM} {hv : Value} (h : StS W b B s hv) : ∀ j, hv.ownBlock = some j → j < W.heap.size := by
  intro j hq
  rcases h.ins.held.row.2 with ⟨hz, _⟩ | ⟨g', cap, cur, hz, _, hh, _⟩
  · rw [hz] at hq; simp [Value.ownBlock] at hq
  · rw [hz] at hq
    simp only [Value.ownBlock, Option.some.injEq] at hq
    subst hq
    exact (Array.getElem?_eq_some_iff.1 hh).1

theorem StS.grown {W W' : World} {b B d : Nat} {s : SM} {hv : Value} (h : StS W b B s hv) (hg : W.grownBy W' (some d)) (hb : d ≠ b) (hd : hv.ownBlock ≠ some d) : StS W' b B s hv :=
  ⟨⟨(hg.block b (Array.getElem?_eq_some_iff.1 h.ins.row).1 (fun e => hb (Option.some.inj e).symm)).trans h.ins.row, h.ins.held.kept hg (.inr hd), h.ins.lt, Nat.le_trans h.ins.le hg.size⟩, h.ok⟩

/-- the first range over a function in a code: its assign code, its body -/
def rfOf : Code → Option (Code × Code)
  | .seq a b => match rfOf a with | some r => some r | none => rfOf b
  | .cond _ a b => match rfOf a with | some r => some r | none => rfOf b
  | .block _ c => rfOf c
  | .loop c => rfOf c
  | .scope c => rfOf c
  | .rangeFunc _ _ a b => some (a, b)
  | _ => none

theorem roundIn_any {P : Program} {l lp m f : Nat} {tmps : Array Value} {assign body : Code} {w : World} {R : Ending → World → Prop} (h : RoundIn Fence.wide 3 P l f tmps assign body w R) : RoundIn (Fence.wide.inRound lp) m P l f tmps assign body w R :=
  ⟨trivial, fun c cs _ => h.2 c cs (room_wide _)⟩

/-- how All's loop body stands behind its assign code -/
def MidA (D lp : Nat) (tm : Array Value) (W : World) (x0 x1 x2 x3 : Int) (pe : Option Addr) (ne ce : Nat) (pb : Option Addr) (nb cb : Nat) (e : Exit) (a : Act) (Wa : World) : Prop :=
  e = .normal ∧ a = { tmps := tm, defers := [] } ∧ W.grownBy Wa none ∧ Wa.heap[W.heap.size]? = some (.cells #[.int .i64 x0, .int .i64 x1, .int .i64 x2, .int .i64 x3, .slice pe ne ce, .slice pb nb cb] 71 (0, 0))

set_option maxHeartbeats 1000000 in
theorem round_A {D lp : Nat} (K : LoopBook D lp) (W : World) (l n0 gS gC b : Nat) (pa : Option Addr) (n c : Nat) (i x0 x1 x2 x3 : Int) (pe : Option Addr) (ne ce : Nat) (pb : Option Addr) (nb cb : Nat) (I : World → Prop) (Ix : Code → World → Prop) (asg bdy : Code) (hrf : (Try.f60.body.bind rfOf) = some (asg, bdy))
    (hy : W.cell? ⟨n0, 0, none⟩ = some (.func (.yield l) #[] #[])) (hrd : K.rdy W) (hln : n0 ≠ lp)
    (hyl : ∀ Wa Wb, W.grownBy Wa none → Turn lp Wa Wb → K.busy Wb → YieldAt Fence.wide 3 Try.prog l #[.agg #[.int .i64 x0, .int .i64 x1, .int .i64 x2, .int .i64 x3, .slice pe ne ce, .slice pb nb cb]] Wb (fun e W2 =>
      (e = .returned (.bool true) ∧ K.busy W2 ∧ I W2) ∨ (e = .returned (.bool false) ∧ K.busy W2 ∧ Ix .ret W2))) :
    RoundOf Try.prog K #[.func (.yield l) #[] #[], .pointer (some ⟨gS, 0, none⟩), .pointer (some ⟨gC, 0, none⟩), .pointer (some ⟨n0, 0, none⟩), undef, undef, .pointer (some ⟨b, 0, none⟩), .slice pa n c,
      .func (.func 70) #[] #[.pointer (some ⟨n0 + 2, 0, none⟩), .pointer (some ⟨n0 + 1, 0, none⟩)], undef, undef, undef, undef, undef, undef] #[9, 10] asg bdy
      #[.int .i64 i, .agg #[.int .i64 x0, .int .i64 x1, .int .i64 x2, .int .i64 x3, .slice pe ne ce, .slice pb nb cb]] W I Ix := by
  simp only [Try.f60, Option.bind_some, rfOf, Option.some.injEq, Prod.mk.injEq] at hrf
  obtain ⟨rfl, rfl⟩ := hrf
  unfold RoundOf
  have HYL := Lib.hid hyl
  clear hyl
  refine wpIn_mono (Q := MidA D lp #[.func (.yield l) #[] #[], .pointer (some ⟨gS, 0, none⟩), .pointer (some ⟨gC, 0, none⟩), .pointer (some ⟨n0, 0, none⟩), undef, .pointer (some ⟨W.heap.size, 0, none⟩), .pointer (some ⟨b, 0, none⟩), .slice pa n c,
      .func (.func 70) #[] #[.pointer (some ⟨n0 + 2, 0, none⟩), .pointer (some ⟨n0 + 1, 0, none⟩)], .int .i64 i, .agg #[.int .i64 x0, .int .i64 x1, .int .i64 x2, .int .i64 x3, .slice pe ne ce, .slice pb nb cb], undef, undef, undef, undef] W x0 x1 x2 x3 pe ne ce pb nb cb) ?_ ?_
  · gi_wp2
    exact ⟨rfl, rfl, grown_alloc _ _ _, heap_alloc_new _ _⟩
  · rintro e a' Wa ⟨rfl, rfl, hg, hi⟩
    obtain ⟨⟨oD, hD, hDc⟩, ⟨ol, hl, hlc⟩⟩ := K.rdyN W hrd
    have hDlt := (Array.getElem?_eq_some_iff.1 hD).1
    have hllt := (Array.getElem?_eq_some_iff.1 hl).1
    refine ⟨K.keepR W Wa hrd (hg.block D hDlt (by simp)) (hg.block lp hllt (by simp)), ?_⟩
    intro Wb ht hb
    have hyy := HYL.out Wa Wb hg ht hb
    obtain ⟨fn, tmps, assign, body, hyy, hRd⟩ := hyy
    have hnl := cell_lt hy
    have cy : Wb.cell? ⟨n0, 0, none⟩ = some (.func (.yield l) #[] #[]) := by
      rw [World.cell?_of_block (ht.1.block n0 (Nat.lt_of_lt_of_le hnl hg.size) (fun h => hln (Option.some.inj h))), World.cell?_of_block (hg.block n0 hnl (by simp))]
      exact hy
    have hib : Wb.heap[W.heap.size]? = some (.cells #[.int .i64 x0, .int .i64 x1, .int .i64 x2, .int .i64 x3, .slice pe ne ce, .slice pb nb cb] 71 (0, 0)) :=
      (ht.1.block W.heap.size (Array.getElem?_eq_some_iff.1 hi).1 (fun h => by have := Option.some.inj h; omega)).trans hi
    obtain ⟨x, hx⟩ : ∃ x, W.heap.size = x := ⟨_, rfl⟩
    rw [hx] at hib ⊢
    have v0 : Wb.cell? ⟨x, 0, none⟩ = some (.int .i64 x0) := (cell_of_row _ _ 0 _ _ _ hib).trans rfl
    have v1 : Wb.cell? ⟨x, 1, none⟩ = some (.int .i64 x1) := (cell_of_row _ _ 1 _ _ _ hib).trans rfl
    have v2 : Wb.cell? ⟨x, 2, none⟩ = some (.int .i64 x2) := (cell_of_row _ _ 2 _ _ _ hib).trans rfl
    have v3 : Wb.cell? ⟨x, 3, none⟩ = some (.int .i64 x3) := (cell_of_row _ _ 3 _ _ _ hib).trans rfl
    have v4 : Wb.cell? ⟨x, 4, none⟩ = some (.slice pe ne ce) := (cell_of_row _ _ 4 _ _ _ hib).trans rfl
    have v5 : Wb.cell? ⟨x, 5, none⟩ = some (.slice pb nb cb) := (cell_of_row _ _ 5 _ _ _ hib).trans rfl
    clear hib hi hx
    gi_wp2
    refine (roundIn_any hRd).mono ?_
    rintro e W2 (⟨rfl, hb2, hI2⟩ | ⟨rfl, hb2, hI2⟩)
    · gi_wp2
      exact ⟨hb2, hI2⟩
    · gi_wp2
      exact ⟨hb2, hI2⟩

/-- All's iterator, as an invariant for the inner iterator -/
def JA {D lp : Nat} (K : LoopBook D lp) (n0 l b n c : Nat) (pa : Option Addr) (J : Nat → SM → Value → (Nat → Prop) → World → Prop) (k : Nat) (s : SM) (hv : Value) (W : World) : Prop :=
  ∃ O, K.rdy W ∧ J k s hv O W ∧ InA n0 l b n c pa O hv W
def JXA {D lp : Nat} (K : LoopBook D lp) (n0 l b B n c : Nat) (pa : Option Addr) (Jx : SM → Value → (Nat → Prop) → World → Prop) (W : World) : Prop :=
  K.fin .ret W ∧ ∃ s hv O, Jx s hv O W ∧ StS W b B s hv ∧ InA n0 l b n c pa O hv W

theorem grownBy_none {W W' : World} (h : W.grownBy W' none) (d : Nat) : W.grownBy W' (some d) := ⟨h.os, h.tape, h.output, h.size, fun k hk _ => h.block k hk (by simp)⟩

theorem InA.grown {n0 l b n c d : Nat} {pa : Option Addr} {O : Nat → Prop} {hv : Value} {W W2 : World} (h : InA n0 l b n c pa O hv W) (hg : W.grownBy W2 (some d)) (hd : d = n0 + 3 ∨ d = n0 + 4 ∨ n0 + 5 ≤ d ∨ d < n0) : InA n0 l b n c pa O hv W2 :=
  ⟨h.fr, Nat.le_trans h.size hg.size, (hg.block n0 (by have := h.size; omega) (fun e => by have := Option.some.inj e; omega)).trans h.cy,
   (hg.block (n0 + 1) (by have := h.size; omega) (fun e => by have := Option.some.inj e; omega)).trans h.cS, (hg.block (n0 + 2) (by have := h.size; omega) (fun e => by have := Option.some.inj e; omega)).trans h.cC⟩

set_option maxHeartbeats 1000000 in
theorem rides_A {n0 l b B n c gS gC : Nat} {pa : Option Addr} {ch : List UInt8} {J : Nat → SM → Value → (Nat → Prop) → World → Prop} {Jx : SM → Value → (Nat → Prop) → World → Prop} (hR : RidesA n0 l b B pa n c ch J Jx) (K : LoopBook (n0 + 3) (n0 + 3 + 1)) (asg bdy : Code) (hrf : (Try.f60.body.bind rfOf) = some (asg, bdy))
    (hyield : ∀ (xs : Array Value) (W : World) (I : World → Prop) (Ix : Code → World → Prop), xs.size = 2 → K.rdy W →
      RoundOf Try.prog K #[.func (.yield l) #[] #[], .pointer (some ⟨gS, 0, none⟩), .pointer (some ⟨gC, 0, none⟩), .pointer (some ⟨n0, 0, none⟩), undef, undef, .pointer (some ⟨b, 0, none⟩), .slice pa n c,
        .func (.func 70) #[] #[.pointer (some ⟨n0 + 2, 0, none⟩), .pointer (some ⟨n0 + 1, 0, none⟩)], undef, undef, undef, undef, undef, undef] #[9, 10] asg bdy xs W I Ix →
      YieldAt Fence.wide 3 Try.prog (n0 + 3 + 1) xs W (YieldOf K I Ix)) :
    Rides (n0 + 3 + 1) b B (n0 + 1) pa n c ch (JA K n0 l b n c pa J) (JXA K n0 l b B n c pa Jx) := by
  refine ⟨?_, ?_, ?_⟩
  · rintro k s hv W ⟨O, hrd, hJ, hI⟩
    have hf := hI.fr (n0 + 1) (by omega) (by omega)
    exact ⟨(cell_of_row _ _ 0 _ _ _ hI.cS).trans rfl, hR.reads k s hv O W hJ, hf.2.1, hf.2.2⟩
  · rintro k s hv W hv' W' hk ⟨O, hrd, hJ, hI⟩ hS he hno hm hS'
    have hI' := hI.keep (hm.keepO O (Nat.le_refl _)) hI.size
    have h3 := hI.fr (n0 + 3) (by omega) (by omega)
    have h4 := hI.fr (n0 + 4) (by omega) (by omega)
    have hz := hI.size
    exact ⟨O, K.keepR W W' hrd (hm.block _ (by omega) h3.2.1 h3.2.2) (hm.block _ (by omega) h4.2.1 h4.2.2), hR.quiet k s hv O W hv' W' hk hJ hS he hno hm hS', hI'⟩
  · rintro k s hv W hv' W' ve vb hk ⟨O, hrd, hJ, hI⟩ hS he hne hm hS' hit ha1 ha2
    have hI' := hI.keep (hm.keepO O (Nat.le_refl _)) hI.size
    have h3 := hI.fr (n0 + 3) (by omega) (by omega)
    have h4 := hI.fr (n0 + 4) (by omega) (by omega)
    have hz := hI.size
    have hrd' := K.keepR W W' hrd (hm.block _ (by omega) h3.2.1 h3.2.2) (hm.block _ (by omega) h4.2.1 h4.2.2)
    have hln : n0 ≠ n0 + 3 + 1 := by omega
    have hcy : W'.cell? ⟨n0, 0, none⟩ = some (.func (.yield l) #[] #[]) := (cell_of_row _ _ 0 _ _ _ hI'.cy).trans rfl
    have hyl := hR.yields k s hv O
    obtain ⟨st, hst⟩ : ∃ st, step s (ch.getD k 0) = st := ⟨_, rfl⟩
    rw [hst] at hyl hne hS' hit ⊢
    obtain ⟨s', it⟩ := st
    simp only at hyl hne hS' hit ⊢
    obtain ⟨pe, ce, rfl, _⟩ := hit.ext.bytes
    obtain ⟨pb, cb, rfl, _⟩ := hit.body.bytes
    have hro := round_A (gS := gS) (gC := gC) (b := b) (pa := pa) (n := n) (c := c) K W' l n0 ((k : Int) + 1) it.kind it.proto it.T it.ch pe it.ext.length ce pb it.body.length cb
      (fun W3 => ∃ s2 hv2 O2, StS W3 b B s2 hv2 ∧ J (k + 1) s2 hv2 O2 W3 ∧ InA n0 l b n c pa O2 hv2 W3) (fun c' W3 => c' = .ret ∧ ∃ s2 hv2 O2, StS W3 b B s2 hv2 ∧ Jx s2 hv2 O2 W3 ∧ InA n0 l b n c pa O2 hv2 W3) asg bdy hrf hcy hrd' hln (by
        intro Wa Wb hga htu hbu
        obtain ⟨_, ⟨o, ho, _⟩⟩ := K.busyN Wb hbu
        have hz' := hI'.size
        have hlpW : n0 + 3 + 1 < W.heap.size := by omega
        have ht0 := turn_putObj W (n0 + 3 + 1) o
        have hSt := hS.grown ht0.1 h4.2.1 h4.2.2
        have hJt := hR.turn k s hv O W _ (n0 + 3 + 1) hJ (by omega) h4.1 h4.2.1 h4.2.2 ht0.1
        have f4 := hI'.fr (n0 + 4) (by omega) (by omega)
        have f3 := hI'.fr (n0 + 3) (by omega) (by omega)
        have hSb := (hS'.grown (grownBy_none hga (n0 + 3 + 1)) f4.2.1 f4.2.2).grown htu.1 f4.2.1 f4.2.2
        have hMv : Mv b hv (W.putObj (n0 + 3 + 1) o) hv' Wb := by
          refine ⟨htu.1.os.trans (hga.os.trans (hm.os.trans ht0.1.os.symm)), htu.1.tape.trans (hga.tape.trans (hm.tape.trans ht0.1.tape.symm)), htu.1.output.trans (hga.output.trans (hm.output.trans ht0.1.output.symm)),
            by rw [ht0.2, htu.2]; exact Nat.le_trans hm.size hga.size, fun j hj hjb hjh => ?_, by rw [ht0.2]; exact hm.hv⟩
          rw [ht0.2] at hj
          by_cases hjl : j = n0 + 3 + 1
          · subst hjl
            rw [ho, World.putObj_heap_same hlpW]
          · have e1 : (n0 + 3 + 1) ≠ j := fun e => hjl e.symm
            rw [World.putObj_heap_other hjl, ← hm.block j hj hjb hjh, ← hga.block j (Nat.lt_of_lt_of_le hj hm.size) (by simp)]
            exact htu.1.block j (Nat.lt_of_lt_of_le hj (Nat.le_trans hm.size hga.size)) (fun e => hjl (Option.some.inj e))
        have hIt : ItO (W.putObj (n0 + 3 + 1) o).heap.size Wb it (.slice pe it.ext.length ce) (.slice pb it.body.length cb) := by
          rw [ht0.2]
          exact (hit.move (Nat.le_refl _) hga (by simp)).move (Nat.le_refl _) htu.1 (fun k hk => by cases hk; exact hlpW)
        have hIb : InA n0 l b n c pa O hv' Wb := (hI'.grown (grownBy_none hga (n0 + 4)) (.inr (.inl rfl))).grown htu.1 (.inr (.inl rfl))
        refine (hyl _ hv' Wb _ _ hk hJt hSt he hne hMv hSb hIt ha1 ha2).mono ?_
        have hbz : Wb.heap.size = Wa.heap.size := htu.2
        have hzb := hIb.size
        rintro e W2 (⟨rfl, s2, hv2, O2, hs2, hj2, hk2⟩ | ⟨rfl, s2, hv2, O2, hs2, hj2, hk2⟩)
        · exact .inl ⟨rfl, K.keepB Wb W2 hbu (hk2.block _ (by omega) f3.1 f3.2.1 f3.2.2) (hk2.block _ (by omega) f4.1 f4.2.1 f4.2.2), s2, hv2, O2, hs2, hj2, hIb.keep hk2 (by rw [ht0.2]; exact hI.size)⟩
        · exact .inr ⟨rfl, K.keepB Wb W2 hbu (hk2.block _ (by omega) f3.1 f3.2.1 f3.2.2) (hk2.block _ (by omega) f4.1 f4.2.1 f4.2.2), rfl, s2, hv2, O2, hs2, hj2, hIb.keep hk2 (by rw [ht0.2]; exact hI.size)⟩)
    refine (hyield _ W' _ _ rfl hrd' hro).mono ?_
    rintro e W'' (⟨rfl, hr2, W3, ⟨s2, hv2, O2, hs2, hj2, hi2⟩, ht2⟩ | ⟨rfl, c', hf2, W3, ⟨rfl, s2, hv2, O2, hs2, hj2, hi2⟩, ht2⟩)
    · have f4 := hi2.fr (n0 + 4) (by omega) (by omega)
      exact .inl ⟨rfl, s2, hv2, hs2.grown ht2.1 f4.2.1 f4.2.2, O2, hr2, hR.turn _ _ _ _ _ _ _ hj2 (by omega) f4.1 f4.2.1 f4.2.2 ht2.1, hi2.grown ht2.1 (.inr (.inl rfl))⟩
    · have f4 := hi2.fr (n0 + 4) (by omega) (by omega)
      exact .inr ⟨rfl, hf2, s2, hv2, O2, hR.turnX _ _ _ _ _ _ hj2 (by omega) f4.1 f4.2.1 f4.2.2 ht2.1, hs2.grown ht2.1 f4.2.1 f4.2.2, hi2.grown ht2.1 (.inr (.inl rfl))⟩


set_option maxHeartbeats 1000000 in
theorem all1_in (w : World) (l b B gS gC : Nat) (pa : Option Addr) (n c : Nat) (ch : List UInt8) (J : Nat → SM → Value → (Nat → Prop) → World → Prop) (Jx : SM → Value → (Nat → Prop) → World → Prop) (hR : RidesA w.heap.size l b B pa n c ch J Jx)
    (s : SM) (hv : Value) (O : Nat → Prop) (h0 : J 0 s hv O w) (hS : StS w b B s hv) (hs : w.cell? ⟨gS, 0, none⟩ = some (.pointer (some ⟨b, 0, none⟩))) (hc : w.cell? ⟨gC, 0, none⟩ = some (.slice pa n c)) :
    Calls Try.prog 60 #[.func (.yield l) #[] #[], .pointer (some ⟨gS, 0, none⟩), .pointer (some ⟨gC, 0, none⟩)] w (ItEndA b B n J Jx) := by
  have HR := Lib.hid hR
  have H0 := Lib.hid h0
  have HS := Lib.hid hS
  clear hR h0 hS
  refine calls_of_wp_marks Try.func60 rfl ?_
  simp only [Try.ntmps60, List.size_toArray, List.length_cons, List.length_nil, Nat.reduceAdd, Nat.reduceSub, Array.replicate_succ, Array.replicate_zero, List.push_toArray, List.append_toArray, List.nil_append, List.cons_append]
  go_upto_region 1 with fail
  have hs1 : (w.alloc (.cells #[.func (.yield l) #[] #[]] 102)).cell? ⟨gS, 0, none⟩ = some (.pointer (some ⟨b, 0, none⟩)) := (World.cell?_of_block (heap_alloc_old w _ (cell_lt hs))).trans hs
  have hc1 : (w.alloc (.cells #[.func (.yield l) #[] #[]] 102)).cell? ⟨gC, 0, none⟩ = some (.slice pa n c) := (World.cell?_of_block (heap_alloc_old w _ (cell_lt hc))).trans hc
  have a1 : (w.alloc (.cells #[.func (.yield l) #[] #[]] 102)).heap[w.heap.size]? = some (.cells #[.func (.yield l) #[] #[]] 102 (0, 0)) := heap_alloc_new _ _
  have g1 : w.grownBy (w.alloc (.cells #[.func (.yield l) #[] #[]] 102)) none := grown_alloc _ _ _
  have z1 : (w.alloc (.cells #[.func (.yield l) #[] #[]] 102)).heap.size = w.heap.size + 1 := by simp
  generalize (w.alloc (.cells #[.func (.yield l) #[] #[]] 102)) = w1 at *
  have hit := items_any w1 b pa n c
  go_wp2_with fail
  refine hit.mono ?_
  clear hit
  rintro e w2 ⟨rfl, rfl⟩
  go_wp2_with fail
  have y2 : ((w1.alloc (.cells #[.pointer (some ⟨b, 0, none⟩)] 56)).alloc (.cells #[.slice pa n c] 22)).heap[w.heap.size]? = some (.cells #[.func (.yield l) #[] #[]] 102 (0, 0)) := (heap_alloc_old _ _ (by simp; omega)).trans ((heap_alloc_old _ _ (by omega)).trans a1)
  have S2 : ((w1.alloc (.cells #[.pointer (some ⟨b, 0, none⟩)] 56)).alloc (.cells #[.slice pa n c] 22)).heap[w.heap.size + 1]? = some (.cells #[.pointer (some ⟨b, 0, none⟩)] 56 (0, 0)) := (heap_alloc_old _ _ (by simp; omega)).trans (by rw [← z1]; exact heap_alloc_new _ _)
  have C2 : ((w1.alloc (.cells #[.pointer (some ⟨b, 0, none⟩)] 56)).alloc (.cells #[.slice pa n c] 22)).heap[w.heap.size + 2]? = some (.cells #[.slice pa n c] 22 (0, 0)) := by
    have := heap_alloc_new (w1.alloc (.cells #[.pointer (some ⟨b, 0, none⟩)] 56)) (.cells #[.slice pa n c] 22)
    rwa [World.size_alloc, z1] at this
  have g2 : w.grownBy ((w1.alloc (.cells #[.pointer (some ⟨b, 0, none⟩)] 56)).alloc (.cells #[.slice pa n c] 22)) none := grown_trans g1 (grown_trans (grown_alloc _ _ _) (grown_alloc _ _ _))
  have z2 : ((w1.alloc (.cells #[.pointer (some ⟨b, 0, none⟩)] 56)).alloc (.cells #[.slice pa n c] 22)).heap.size = w.heap.size + 3 := by simp; omega
  generalize ((w1.alloc (.cells #[.pointer (some ⟨b, 0, none⟩)] 56)).alloc (.cells #[.slice pa n c] 22)) = w2 at *
  clear hs1 hc1 a1 g1 z1
  obtain ⟨n0, hn0⟩ : ∃ n0, w.heap.size = n0 := ⟨_, rfl⟩
  rw [hn0] at y2 S2 C2 z2 HR ⊢
  refine wp_rangeFunc_any (gf := 70) (lb := #[.pointer (some ⟨n0 + 2, 0, none⟩), .pointer (some ⟨n0 + 1, 0, none⟩)]) rfl (enters_of Try.func70 (by kernel_rfl) rfl) ?_
  rw [z2]
  intro K W1 hg1 hz1 hrd hyield
  have hRi := rides_A HR.out K _ _ (by kernel_rfl) hyield
  have hbn : b < n0 := by rw [← hn0]; exact (Array.getElem?_eq_some_iff.1 HS.out.ins.row).1
  have hOn : ∀ j, O j → j < n0 := by rw [← hn0]; exact HR.out.fresh 0 s hv O w H0.out
  have hhn : ∀ j, hv.ownBlock = some j → j < n0 := by rw [← hn0]; exact HS.out.held_lt
  have hgw : w.grownBy W1 none := grown_trans g2 hg1
  have hJ0 : JA K n0 l b n c pa J 0 s hv W1 := by
    refine ⟨O, hrd, HR.out.turn 0 s hv O w W1 n0 H0.out (Nat.le_refl _) (fun h => by have := hOn _ h; omega) (by omega) (fun h => by have := hhn _ h; omega) (grownBy_none hgw n0), ?_⟩
    exact ⟨fun j h1 h2 => ⟨fun h => by have := hOn _ h; omega, by omega, fun h => by have := hhn _ h; omega⟩, by omega,
      (hg1.block n0 (by omega) (by simp)).trans y2, (hg1.block (n0 + 1) (by omega) (by simp)).trans S2, (hg1.block (n0 + 2) (by omega) (by simp)).trans C2⟩
  have hS1 : StS W1 b B s hv := HS.out.grown (grownBy_none hgw n0) (by omega) (fun h => by have := hhn _ h; omega)
  have hC1 : W1.cell? ⟨n0 + 2, 0, none⟩ = some (.slice pa n c) := (World.cell?_of_block (hg1.block (n0 + 2) (by omega) (by simp))).trans ((cell_of_row _ _ 0 _ _ _ C2).trans rfl)
  simp only [List.append_toArray, List.cons_append, List.nil_append]
  refine (items1_in W1 (n0 + 3 + 1) b B (n0 + 1) (n0 + 2) pa n c ch _ _ hRi s hv hJ0 hS1 hC1).mono ?_
  have hfin : ∀ {W W3 : World} {o : Obj} {s' : SM} {hv' : Value} {O' : Nat → Prop}, StS W b B s' hv' → InA n0 l b n c pa O' hv' W → Turn (n0 + 3 + 1) W W3 →
      StS (W3.putObj (n0 + 3) o) b B s' hv' ∧ (∀ k, J k s' hv' O' W → J k s' hv' O' (W3.putObj (n0 + 3) o)) ∧ (Jx s' hv' O' W → Jx s' hv' O' (W3.putObj (n0 + 3) o)) := by
    intro W W3 o s' hv' O' hs' hi ht
    have f4 := hi.fr (n0 + 4) (by omega) (by omega)
    have f3 := hi.fr (n0 + 3) (by omega) (by omega)
    have gp := grownBy_putObj' W3 (n0 + 3) o
    refine ⟨(hs'.grown ht.1 f4.2.1 f4.2.2).grown gp f3.2.1 f3.2.2, fun k hj => ?_, fun hj => ?_⟩
    · exact HR.out.turn _ _ _ _ _ _ _ (HR.out.turn _ _ _ _ _ _ _ hj (by omega) f4.1 f4.2.1 f4.2.2 ht.1) (by omega) f3.1 f3.2.1 f3.2.2 gp
    · exact HR.out.turnX _ _ _ _ _ _ (HR.out.turnX _ _ _ _ _ _ hj (by omega) f4.1 f4.2.1 f4.2.2 ht.1) (by omega) f3.1 f3.2.1 f3.2.2 gp
  rintro e W2 ⟨⟨v, rfl⟩, h⟩
  refine ⟨⟨v, rfl⟩, ?_⟩
  rcases h with ⟨k, s', hv', hk, hor, ⟨O', hr2, hJ2, hi2⟩, hs2⟩ | ⟨hf2, s', hv', O', hJ2, hs2, hi2⟩
  · refine .inl ⟨hr2, fun W3 ht hD => ?_⟩
    obtain ⟨q1, q2, q3⟩ := hfin (o := .deferred none) hs2 hi2 ht
    refine ⟨by simp, .inl ⟨_, _, rfl, run_takeDeferred hD, ?_⟩⟩
    refine ⟨.tuple #[], results_none (by kernel_rfl) _ _ _, ?_⟩
    exact ⟨⟨_, rfl⟩, .inl ⟨k, s', hv', O', hk, hor, q2 k hJ2, q1⟩⟩
  · refine .inr ⟨.ret, hf2, fun W3 ht hD => ?_⟩
    obtain ⟨q1, q2, q3⟩ := hfin (o := .deferred none) hs2 hi2 ht
    refine (wpIn_wide (n := 5)).1 (wpIn_ret ?_)
    refine ⟨by simp, .inl ⟨_, _, rfl, run_takeDeferred hD, ?_⟩⟩
    refine ⟨.tuple #[], results_none (by kernel_rfl) _ _ _, ?_⟩
    exact ⟨⟨_, rfl⟩, .inr ⟨s', hv', O', q3 hJ2, q1⟩⟩

theorem KeepO.refl (N : Nat) (O : Nat → Prop) (b : Nat) (hv : Value) (W : World) : KeepO N O b hv W O hv W := ⟨rfl, rfl, rfl, Nat.le_refl _, fun _ _ _ _ _ => rfl, fun _ h => .inl h, fun _ h => .inl h⟩
theorem KeepO.trans {N N2 : Nat} {O O2 O3 : Nat → Prop} {b : Nat} {hv hv2 hv3 : Value} {W W2 W3 : World} (h : KeepO N O b hv W O2 hv2 W2) (k : KeepO N2 O2 b hv2 W2 O3 hv3 W3) (hN : W.heap.size ≤ N) (hN2 : N ≤ N2) : KeepO N O b hv W O3 hv3 W3 := by
  refine ⟨k.os.trans h.os, k.tape.trans h.tape, k.output.trans h.output, Nat.le_trans h.size k.size, fun j hj hO hb hh => ?_, fun j hj => ?_, fun j hj => ?_⟩
  · rw [k.block j (Nat.lt_of_lt_of_le hj h.size) (fun ho => ?_) hb (fun hq => ?_), h.block j hj hO hb hh]
    · rcases h.own j ho with h1 | h1
      · exact hO h1
      · omega
    · rcases h.held j hq with h1 | h1
      · exact hh h1
      · omega
  · rcases k.own j hj with h1 | h1
    · exact h.own j h1
    · exact .inr (Nat.le_trans hN2 h1)
  · rcases k.held j hj with h1 | h1
    · exact h.held j h1
    · exact .inr (Nat.le_trans hN2 h1)
/-- a world in which one block of the owner's alone has turned, or none -/
theorem KeepO.grown {N : Nat} {O : Nat → Prop} {b d : Nat} {hv : Value} {W W' : World} (h : W.grownBy W' (some d)) (hd : O d ∨ W.heap.size ≤ d ∨ d = b ∨ hv.ownBlock = some d) : KeepO N O b hv W O hv W' :=
  ⟨h.os, h.tape, h.output, h.size, fun j hj ho hb hh => h.block j hj (fun e => by
    have := Option.some.inj e
    subst this
    rcases hd with h1 | h1 | h1 | h1
    · exact ho h1
    · omega
    · exact hb h1
    · exact hh h1), fun _ h => .inl h, fun _ h => .inl h⟩
end Go.Proofs.Ytofdpccjpodbhaa
