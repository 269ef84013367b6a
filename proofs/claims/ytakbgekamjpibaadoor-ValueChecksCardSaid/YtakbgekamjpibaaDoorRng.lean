/-
  A range over a function whose iterator keeps state of its own in cells: one law, which leaves the invariant to the caller. It speaks of no program. No conditions.
-/
import Derived.RangeFuncNested
import Derived.RangeFuncBound
import Derived.RangeFuncCalls
import Derived.RangeFuncLeaves
import Derived.Shelf.Abstract
import Derived.Shelf.RegionOpen
import Derived.WalkKit
import Derived.OwnWalkIn
import Derived.TacticsInMore
import Derived.LoopNIn
import Derived.LoopIn
namespace Go.Proofs.YtakbgekamjpibaaDoor
open Go.RowKit
set_option linter.unusedVariables false

/-- one block alone may have turned, none has come -/
def Turn (l : Nat) (W W' : World) : Prop := W.grownBy W' (some l) ∧ W'.heap.size = W.heap.size

theorem turn_putObj (W : World) (l : Nat) (o : Obj) : Turn l W (W.putObj l o) := ⟨grownBy_putObj' W l o, by simp [World.putObj]⟩

/-- the loop's own two blocks: its record l, its deferred calls D -/
structure LoopBook (D l : Nat) where
  rdy : World → Prop
  busy : World → Prop
  fin : Code → World → Prop
  keepR : ∀ A B, rdy A → B.heap[D]? = A.heap[D]? → B.heap[l]? = A.heap[l]? → rdy B
  keepB : ∀ A B, busy A → B.heap[D]? = A.heap[D]? → B.heap[l]? = A.heap[l]? → busy B
  keepF : ∀ c A B, fin c A → B.heap[D]? = A.heap[D]? → B.heap[l]? = A.heap[l]? → fin c B
  rdyN : ∀ A, rdy A → (∃ o, A.heap[D]? = some o ∧ o.isCells = false) ∧ (∃ o, A.heap[l]? = some o ∧ o.isCells = false)
  busyN : ∀ A, busy A → (∃ o, A.heap[D]? = some o ∧ o.isCells = false) ∧ (∃ o, A.heap[l]? = some o ∧ o.isCells = false)
  finN : ∀ c A, fin c A → (∃ o, A.heap[D]? = some o ∧ o.isCells = false) ∧ (∃ o, A.heap[l]? = some o ∧ o.isCells = false)

/-- how the body of a round may be left -/
def bodyP {D l : Nat} (K : LoopBook D l) (I : World → Prop) (Ix : Code → World → Prop) : Exit → Act → World → Prop
  | .normal, _, W => K.busy W ∧ I W
  | .ret, _, W => K.busy W ∧ Ix .ret W
  | .exit id, _, W => K.busy W ∧ Ix (.exit id) W
  | .goto t, _, W => K.busy W ∧ Ix (.goto t) W
  | .panic _, _, _ => False
  | .outgrown, _, _ => False

/-- a round, out of its body's walk -/
def RoundOf {D l : Nat} (P : Program) (K : LoopBook D l) (tmps : Array Value) (ps : Array Tmp) (assign body : Code) (xs : Array Value) (W : World) (I : World → Prop) (Ix : Code → World → Prop) : Prop :=
  assign.wpIn (Fence.wide.inRound l) 3 P (Exit.then (fun a' Wa => K.rdy Wa ∧ ∀ Wb, Turn l Wa Wb → K.busy Wb → body.wpIn (Fence.wide.inRound l) 3 P (bodyP K I Ix) a' Wb) (fun _ _ _ => False))
    { tmps := (ps.zip xs).foldl (fun t (p, v) => t.setIfInBounds p v) tmps, defers := [] } W

/-- what a call of yield leaves -/
def YieldOf {D l : Nat} (K : LoopBook D l) (I : World → Prop) (Ix : Code → World → Prop) (e : Ending) (W' : World) : Prop :=
  (e = .returned (.bool true) ∧ K.rdy W' ∧ ∃ W3, I W3 ∧ Turn l W3 W') ∨ (e = .returned (.bool false) ∧ ∃ c, K.fin c W' ∧ ∃ W3, Ix c W3 ∧ Turn l W3 W')

theorem wp_rangeFunc_any {P : Program} {g : Operand} {ps : Array Tmp} {assign body : Code} {Q : Exit → Act → World → Prop} {a : Act} {w : World} {gf : Nat} {lb : Array Value}
    (hg : a.eval g = .func (.func gf) #[] lb) (eg : ∀ args w, (callFunc gf args).run P w = .ok (.enter gf args) w)
    (hseq : ∀ (K : LoopBook w.heap.size (w.heap.size + 1)) (W1 : World), w.grownBy W1 none → W1.heap.size = w.heap.size + 2 → K.rdy W1 →
      (∀ (xs : Array Value) (W : World) (I : World → Prop) (Ix : Code → World → Prop), xs.size = ps.size → K.rdy W → RoundOf P K a.tmps ps assign body xs W I Ix →
        YieldAt Fence.wide 3 P (w.heap.size + 1) xs W (YieldOf K I Ix)) →
      Calls P gf (#[.func (.yield (w.heap.size + 1)) #[] #[]] ++ lb) W1 fun e W2 => (∃ v, e = .returned v) ∧
        ((K.rdy W2 ∧ ∀ W3, Turn (w.heap.size + 1) W2 W3 → W3.heap[w.heap.size]? = some (.deferred (some [])) → Q .normal { a with defers := { target := .collected w.heap.size, args := #[] } :: a.defers } W3) ∨
         (∃ c, K.fin c W2 ∧ ∀ W3, Turn (w.heap.size + 1) W2 W3 → W3.heap[w.heap.size]? = some (.deferred (some [])) → c.wp P Q { a with defers := { target := .collected w.heap.size, args := #[] } :: a.defers } W3))) :
    (Code.rangeFunc g ps assign body).wp P Q a w := by
  refine (wpIn_wide (n := 5)).1 ?_
  refine wpIn_rangeFunc ?_
  intro fn hfn
  obtain ⟨rec, hrec⟩ : ∃ rec : LoopState → Option Code → Loop, rec = fun st pe => { state := st, pending := pe, fn, tmps := a.tmps, params := ps, assign, body, defers := w.heap.size } := ⟨_, rfl⟩
  obtain ⟨W1, hW1⟩ : ∃ W1, (w.alloc (.deferred (some []))).alloc (.loop (rec .ready none)) = W1 := ⟨_, rfl⟩
  have hL1 : W1.heap[w.heap.size + 1]? = some (.loop (rec .ready none)) := by
    rw [← hW1]; have := World.alloc_heap_new (w.alloc (.deferred (some []))) (.loop (rec .ready none)); rwa [World.size_alloc] at this
  have hK1 : W1.heap[w.heap.size]? = some (.deferred (some [])) := by
    rw [← hW1]; exact (Below.heap_alloc _ _ _ (by simp)).trans (World.alloc_heap_new w _)
  have hg1 : w.grownBy W1 none := by
    have hb : Below w.heap.size w W1 := by rw [← hW1]; exact ((Below.refl _ w).alloc (Nat.le_refl _) _).alloc (by simp) _
    exact ⟨hb.os, hb.tape, hb.output, hb.size, fun k hk _ => hb.block k hk⟩
  have hs1 : W1.heap.size = w.heap.size + 2 := by rw [← hW1]; simp
  refine ⟨w.heap.size + 1, [{ target := .collected w.heap.size, args := #[] }], W1, { target := .fn (.func gf) lb, args := #[.func (.yield (w.heap.size + 1)) #[] #[]] }, W1, gf,
    #[.func (.yield (w.heap.size + 1)) #[] #[]] ++ lb, W1, ?_, ?_, ?_, ?_, fun _ => by omega, ?_⟩
  · rw [← hW1, hrec]; exact run_enterLoop_outer _ _ _ _ _
  · simp only [resolve, hg]
    simp [go_sem]
  · intro f' hf'; trivial
  · simp [invoke, go_sem, eg]
  · obtain ⟨Rd, hRd⟩ : ∃ Rd : World → Prop, Rd = fun W => W.heap[w.heap.size + 1]? = some (.loop (rec .ready none)) ∧ W.heap[w.heap.size]? = some (.deferred (some [])) := ⟨_, rfl⟩
    obtain ⟨Bs, hBs⟩ : ∃ Bs : World → Prop, Bs = fun W => W.heap[w.heap.size + 1]? = some (.loop { rec .ready none with state := .busy }) ∧ W.heap[w.heap.size]? = some (.deferred (some [])) := ⟨_, rfl⟩
    obtain ⟨Fn_, hFn⟩ : ∃ Fn_ : Code → World → Prop, Fn_ = fun c W => W.heap[w.heap.size + 1]? = some (.loop (rec .done (some c))) ∧ W.heap[w.heap.size]? = some (.deferred (some [])) := ⟨_, rfl⟩
    let K : LoopBook w.heap.size (w.heap.size + 1) := {
      rdy := Rd, busy := Bs, fin := Fn_
      keepR := fun A B h h1 h2 => by subst hRd; exact ⟨h2.trans h.1, h1.trans h.2⟩
      keepB := fun A B h h1 h2 => by subst hBs; exact ⟨h2.trans h.1, h1.trans h.2⟩
      keepF := fun c A B h h1 h2 => by subst hFn; exact ⟨h2.trans h.1, h1.trans h.2⟩
      rdyN := fun A h => by subst hRd; exact ⟨⟨_, h.2, rfl⟩, ⟨_, h.1, rfl⟩⟩
      busyN := fun A h => by subst hBs; exact ⟨⟨_, h.2, rfl⟩, ⟨_, h.1, rfl⟩⟩
      finN := fun c A h => by subst hFn; exact ⟨⟨_, h.2, rfl⟩, ⟨_, h.1, rfl⟩⟩ }
    have hcall := hseq K W1 hg1 hs1 (by show Rd W1; subst hRd; exact ⟨hL1, hK1⟩) (by
      intro xs W I Ix hxs hrd hro
      have hrd' : Rd W := hrd
      rw [hRd] at hrd'
      obtain ⟨hl, hk⟩ := hrd'
      have hy := run_yield (P := P) (args := xs) hl (by rw [hrec]; exact hxs)
      rw [hrec] at hy
      refine ⟨fn, _, assign, body, hy, roundIn_of_wpIn trivial (wpIn_mono hro ?_)⟩
      rintro e a3 W3 hp
      cases e with
      | normal =>
        obtain ⟨hrd3, hb3⟩ := hp
        have hrd3' : Rd W3 := hrd3
        rw [hRd] at hrd3'
        obtain ⟨hl3, hk3⟩ := hrd3'
        have hlt : w.heap.size + 1 < W3.heap.size := (Array.getElem?_eq_some_iff.1 hl3).1
        refine ⟨_, run_beginRound hl3 (by rw [hrec]), ?_⟩
        have hl4 : (W3.putObj (w.heap.size + 1) (.loop { rec .ready none with state := .busy })).heap[w.heap.size + 1]? = some (.loop { rec .ready none with state := .busy }) := World.putObj_heap_same hlt
        have hk4 : (W3.putObj (w.heap.size + 1) (.loop { rec .ready none with state := .busy })).heap[w.heap.size]? = some (.deferred (some [])) := (World.putObj_heap_other (by omega)).trans hk3
        refine wpIn_mono (hb3 _ (turn_putObj _ _ _) (by show Bs _; subst hBs; exact ⟨hl4, hk4⟩)) ?_
        have fin : ∀ (jump : Option Code) (W5 : World), Bs W5 →
            (Instr.endRound (w.heap.size + 1) jump).run P W5 = .ok (.bool jump.isNone) (W5.putObj (w.heap.size + 1) (.loop (rec (if jump.isNone then .ready else .done) jump))) ∧
            (W5.putObj (w.heap.size + 1) (.loop (rec (if jump.isNone then .ready else .done) jump))).heap[w.heap.size + 1]? = some (.loop (rec (if jump.isNone then .ready else .done) jump)) ∧
            (W5.putObj (w.heap.size + 1) (.loop (rec (if jump.isNone then .ready else .done) jump))).heap[w.heap.size]? = some (.deferred (some [])) := fun jump W5 hb5 => by
          rw [hBs] at hb5
          obtain ⟨hl5, hk5⟩ := hb5
          have := run_endRound (P := P) jump hl5
          rw [hrec] at this ⊢
          exact ⟨this, World.putObj_heap_same (Array.getElem?_eq_some_iff.1 hl5).1, (World.putObj_heap_other (by omega)).trans hk5⟩
        rintro e a5 W5 hp
        cases e with
        | normal =>
          obtain ⟨hb5, hi5⟩ := hp
          obtain ⟨hr, hl6, hk6⟩ := fin none W5 hb5
          exact ⟨_, _, hr, .inl ⟨rfl, by show Rd _; subst hRd; exact ⟨hl6, hk6⟩, W5, hi5, turn_putObj _ _ _⟩⟩
        | ret =>
          obtain ⟨hb5, hi5⟩ := hp
          obtain ⟨hr, hl6, hk6⟩ := fin (some .ret) W5 hb5
          exact ⟨_, _, hr, .inr ⟨rfl, .ret, by show Fn_ _ _; subst hFn; exact ⟨hl6, hk6⟩, W5, hi5, turn_putObj _ _ _⟩⟩
        | exit id =>
          obtain ⟨hb5, hi5⟩ := hp
          obtain ⟨hr, hl6, hk6⟩ := fin (some (.exit id)) W5 hb5
          exact ⟨_, _, hr, .inr ⟨rfl, .exit id, by show Fn_ _ _; subst hFn; exact ⟨hl6, hk6⟩, W5, hi5, turn_putObj _ _ _⟩⟩
        | goto t =>
          obtain ⟨hb5, hi5⟩ := hp
          obtain ⟨hr, hl6, hk6⟩ := fin (some (.goto t)) W5 hb5
          exact ⟨_, _, hr, .inr ⟨rfl, .goto t, by show Fn_ _ _; subst hFn; exact ⟨hl6, hk6⟩, W5, hi5, turn_putObj _ _ _⟩⟩
        | panic ch => exact hp.elim
        | outgrown => exact hp.elim
      | ret => exact hp.elim
      | exit id => exact hp.elim
      | goto t => exact hp.elim
      | panic ch => exact hp.elim
      | outgrown => exact hp.elim)
    refine (callsIn_wide.2 hcall).mono ?_
    rintro e W2 ⟨⟨v, rfl⟩, (⟨hrd, hq⟩ | ⟨c, hfi, hq⟩)⟩
    · have hrd' : Rd W2 := hrd
      rw [hRd] at hrd'
      obtain ⟨hl, hk⟩ := hrd'
      exact ⟨none, _, by have := run_endLoop (P := P) hl (by rw [hrec]; simp); rw [hrec] at this; exact this, hq _ (turn_putObj _ _ _) ((World.putObj_heap_other (by omega)).trans hk)⟩
    · have hfi' : Fn_ c W2 := hfi
      rw [hFn] at hfi'
      obtain ⟨hl, hk⟩ := hfi'
      exact ⟨some c, _, by have := run_endLoop (P := P) hl (by rw [hrec]; simp); rw [hrec] at this; exact this, (wpIn_wide (n := 5)).2 (hq _ (turn_putObj _ _ _) ((World.putObj_heap_other (by omega)).trans hk))⟩
end Go.Proofs.YtakbgekamjpibaaDoor
