/-
  A range over All(v) within a round of another range over a function. Conditions: the value lies in memory and is no greater than a million.
-/
import Derived.Test.YtakbgekamjpibaaDoorMg22
namespace Go.Proofs.YtakbgekamjpibaaDoor
open Go.RowKit
set_option linter.unusedVariables false

/-- .. the body is told that its loop's record stands -/
theorem wp_rangeFunc_anyL {P : Program} {g : Operand} {ps : Array Tmp} {assign body : Code} {Q : Exit → Act → World → Prop} {a : Act} {w : World} {gf : Nat} {lb : Array Value}
    (hg : a.eval g = .func (.func gf) #[] lb) (eg : ∀ args w, (callFunc gf args).run P w = .ok (.enter gf args) w)
    (hseq : ∀ (K : LoopBook w.heap.size (w.heap.size + 1)) (W1 : World), w.grownBy W1 none → W1.heap.size = w.heap.size + 2 → K.rdy W1 → (∀ W, K.busy W → ∃ r, W.heap[w.heap.size + 1]? = some (.loop r)) →
      (∀ (xs : Array Value) (W : World) (I : World → Prop) (Ix : Code → World → Prop), xs.size = ps.size → K.rdy W → RoundOf P K a.tmps ps assign body xs W I Ix →
        YieldAt Fence.wide 3 P (w.heap.size + 1) xs W (YieldOf K I Ix)) →
      Calls P gf (#[.func (.yield (w.heap.size + 1)) #[] #[]] ++ lb) W1 fun e W2 => (∃ v, e = .returned v) ∧
        ((K.rdy W2 ∧ ∀ W3, Turn (w.heap.size + 1) W2 W3 → W3.heap[w.heap.size]? = some (.deferred (some [])) → Q .normal { a with defers := { target := .collected w.heap.size, args := #[] } :: a.defers } W3) ∨
         (∃ c, K.fin c W2 ∧ ∀ W3, Turn (w.heap.size + 1) W2 W3 → W3.heap[w.heap.size]? = some (.deferred (some [])) → c.wp P Q { a with defers := { target := .collected w.heap.size, args := #[] } :: a.defers } W3))) :
    (Code.rangeFunc g ps assign body).wp P Q a w := by
  refine (wpIn_wide (n := 5)).1 ?_
  refine wpIn_rangeFunc ?_
  intro fn hfn
  obtain ⟨rec, hrec⟩ : ∃ rec : LoopState → Option Code → Loop, rec = fun st pe => { state := st, pending := pe, fn, tmps := a.tmps, params := ps, assign, body, defers := w.heap.size } := ⟨_, rfl⟩
  obtain ⟨W1, hW1⟩ : ∃ W1, (w.alloc (.deferred (some []))).alloc (.loop (rec .ready none)) = W1 := ⟨_, rfl⟩
  have hL1 : W1.heap[w.heap.size + 1]? = some (.loop (rec .ready none)) := by
    rw [← hW1]; have := World.alloc_heap_new (w.alloc (.deferred (some []))) (.loop (rec .ready none)); rwa [World.size_alloc] at this
  have hK1 : W1.heap[w.heap.size]? = some (.deferred (some [])) := by
    rw [← hW1]; exact (Below.heap_alloc _ _ _ (by simp)).trans (World.alloc_heap_new w _)
  have hg1 : w.grownBy W1 none := by
    have hb : Below w.heap.size w W1 := by rw [← hW1]; exact ((Below.refl _ w).alloc (Nat.le_refl _) _).alloc (by simp) _
    exact ⟨hb.os, hb.tape, hb.output, hb.size, fun k hk _ => hb.block k hk⟩
  have hs1 : W1.heap.size = w.heap.size + 2 := by rw [← hW1]; simp
  refine ⟨w.heap.size + 1, [{ target := .collected w.heap.size, args := #[] }], W1, { target := .fn (.func gf) lb, args := #[.func (.yield (w.heap.size + 1)) #[] #[]] }, W1, gf,
    #[.func (.yield (w.heap.size + 1)) #[] #[]] ++ lb, W1, ?_, ?_, ?_, ?_, fun _ => by omega, ?_⟩
  · rw [← hW1, hrec]; exact run_enterLoop_outer _ _ _ _ _
  · simp only [resolve, hg]
    simp [go_sem]
  · intro f' hf'; trivial
  · simp [invoke, go_sem, eg]
  · obtain ⟨Rd, hRd⟩ : ∃ Rd : World → Prop, Rd = fun W => W.heap[w.heap.size + 1]? = some (.loop (rec .ready none)) ∧ W.heap[w.heap.size]? = some (.deferred (some [])) := ⟨_, rfl⟩
    obtain ⟨Bs, hBs⟩ : ∃ Bs : World → Prop, Bs = fun W => W.heap[w.heap.size + 1]? = some (.loop { rec .ready none with state := .busy }) ∧ W.heap[w.heap.size]? = some (.deferred (some [])) := ⟨_, rfl⟩
    obtain ⟨Fn_, hFn⟩ : ∃ Fn_ : Code → World → Prop, Fn_ = fun c W => W.heap[w.heap.size + 1]? = some (.loop (rec .done (some c))) ∧ W.heap[w.heap.size]? = some (.deferred (some [])) := ⟨_, rfl⟩
    let K : LoopBook w.heap.size (w.heap.size + 1) := {
      rdy := Rd, busy := Bs, fin := Fn_
      keepR := fun A B h h1 h2 => by subst hRd; exact ⟨h2.trans h.1, h1.trans h.2⟩
      keepB := fun A B h h1 h2 => by subst hBs; exact ⟨h2.trans h.1, h1.trans h.2⟩
      keepF := fun c A B h h1 h2 => by subst hFn; exact ⟨h2.trans h.1, h1.trans h.2⟩
      rdyN := fun A h => by subst hRd; exact ⟨⟨_, h.2, rfl⟩, ⟨_, h.1, rfl⟩⟩
      busyN := fun A h => by subst hBs; exact ⟨⟨_, h.2, rfl⟩, ⟨_, h.1, rfl⟩⟩
      finN := fun c A h => by subst hFn; exact ⟨⟨_, h.2, rfl⟩, ⟨_, h.1, rfl⟩⟩ }
    have hcall := hseq K W1 hg1 hs1 (by show Rd W1; subst hRd; exact ⟨hL1, hK1⟩) (fun W h => by have h' : Bs W := h; rw [hBs] at h'; exact ⟨_, h'.1⟩) (by
      intro xs W I Ix hxs hrd hro
      have hrd' : Rd W := hrd
      rw [hRd] at hrd'
      obtain ⟨hl, hk⟩ := hrd'
      have hy := run_yield (P := P) (args := xs) hl (by rw [hrec]; exact hxs)
      rw [hrec] at hy
      refine ⟨fn, _, assign, body, hy, roundIn_of_wpIn trivial (wpIn_mono hro ?_)⟩
      rintro e a3 W3 hp
      cases e with
      | normal =>
        obtain ⟨hrd3, hb3⟩ := hp
        have hrd3' : Rd W3 := hrd3
        rw [hRd] at hrd3'
        obtain ⟨hl3, hk3⟩ := hrd3'
        have hlt : w.heap.size + 1 < W3.heap.size := (Array.getElem?_eq_some_iff.1 hl3).1
        refine ⟨_, run_beginRound hl3 (by rw [hrec]), ?_⟩
        have hl4 : (W3.putObj (w.heap.size + 1) (.loop { rec .ready none with state := .busy })).heap[w.heap.size + 1]? = some (.loop { rec .ready none with state := .busy }) := World.putObj_heap_same hlt
        have hk4 : (W3.putObj (w.heap.size + 1) (.loop { rec .ready none with state := .busy })).heap[w.heap.size]? = some (.deferred (some [])) := (World.putObj_heap_other (by omega)).trans hk3
        refine wpIn_mono (hb3 _ (turn_putObj _ _ _) (by show Bs _; subst hBs; exact ⟨hl4, hk4⟩)) ?_
        have fin : ∀ (jump : Option Code) (W5 : World), Bs W5 →
            (Instr.endRound (w.heap.size + 1) jump).run P W5 = .ok (.bool jump.isNone) (W5.putObj (w.heap.size + 1) (.loop (rec (if jump.isNone then .ready else .done) jump))) ∧
            (W5.putObj (w.heap.size + 1) (.loop (rec (if jump.isNone then .ready else .done) jump))).heap[w.heap.size + 1]? = some (.loop (rec (if jump.isNone then .ready else .done) jump)) ∧
            (W5.putObj (w.heap.size + 1) (.loop (rec (if jump.isNone then .ready else .done) jump))).heap[w.heap.size]? = some (.deferred (some [])) := fun jump W5 hb5 => by
          rw [hBs] at hb5
          obtain ⟨hl5, hk5⟩ := hb5
          have := run_endRound (P := P) jump hl5
          rw [hrec] at this ⊢
          exact ⟨this, World.putObj_heap_same (Array.getElem?_eq_some_iff.1 hl5).1, (World.putObj_heap_other (by omega)).trans hk5⟩
        rintro e a5 W5 hp
        cases e with
        | normal =>
          obtain ⟨hb5, hi5⟩ := hp
          obtain ⟨hr, hl6, hk6⟩ := fin none W5 hb5
          exact ⟨_, _, hr, .inl ⟨rfl, by show Rd _; subst hRd; exact ⟨hl6, hk6⟩, W5, hi5, turn_putObj _ _ _⟩⟩
        | ret =>
          obtain ⟨hb5, hi5⟩ := hp
          obtain ⟨hr, hl6, hk6⟩ := fin (some .ret) W5 hb5
          exact ⟨_, _, hr, .inr ⟨rfl, .ret, by show Fn_ _ _; subst hFn; exact ⟨hl6, hk6⟩, W5, hi5, turn_putObj _ _ _⟩⟩
        | exit id =>
          obtain ⟨hb5, hi5⟩ := hp
          obtain ⟨hr, hl6, hk6⟩ := fin (some (.exit id)) W5 hb5
          exact ⟨_, _, hr, .inr ⟨rfl, .exit id, by show Fn_ _ _; subst hFn; exact ⟨hl6, hk6⟩, W5, hi5, turn_putObj _ _ _⟩⟩
        | goto t =>
          obtain ⟨hb5, hi5⟩ := hp
          obtain ⟨hr, hl6, hk6⟩ := fin (some (.goto t)) W5 hb5
          exact ⟨_, _, hr, .inr ⟨rfl, .goto t, by show Fn_ _ _; subst hFn; exact ⟨hl6, hk6⟩, W5, hi5, turn_putObj _ _ _⟩⟩
        | panic ch => exact hp.elim
        | outgrown => exact hp.elim
      | ret => exact hp.elim
      | exit id => exact hp.elim
      | goto t => exact hp.elim
      | panic ch => exact hp.elim
      | outgrown => exact hp.elim)
    refine (callsIn_wide.2 hcall).mono ?_
    rintro e W2 ⟨⟨v, rfl⟩, (⟨hrd, hq⟩ | ⟨c, hfi, hq⟩)⟩
    · have hrd' : Rd W2 := hrd
      rw [hRd] at hrd'
      obtain ⟨hl, hk⟩ := hrd'
      exact ⟨none, _, by have := run_endLoop (P := P) hl (by rw [hrec]; simp); rw [hrec] at this; exact this, hq _ (turn_putObj _ _ _) ((World.putObj_heap_other (by omega)).trans hk)⟩
    · have hfi' : Fn_ c W2 := hfi
      rw [hFn] at hfi'
      obtain ⟨hl, hk⟩ := hfi'
      exact ⟨some c, _, by have := run_endLoop (P := P) hl (by rw [hrec]; simp); rw [hrec] at this; exact this, (wpIn_wide (n := 5)).2 (hq _ (turn_putObj _ _ _) ((World.putObj_heap_other (by omega)).trans hk))⟩

/-- a range over a function within a round of another one -/
theorem wpIn_rangeFunc_anyN {P : Program} {g : Operand} {ps : Array Tmp} {assign body : Code} {Q : Exit → Act → World → Prop} {a : Act} {w : World} {gf lp : Nat} {lb : Array Value} {r₀ : Loop}
    (hg : a.eval g = .func (.func gf) #[] lb) (eg : ∀ args w, (callFunc gf args).run P w = .ok (.enter gf args) w) (hl₀ : w.heap[lp]? = some (.loop r₀))
    (hseq : ∀ (K : LoopBook w.heap.size w.heap.size) (W1 : World), w.grownBy W1 none → W1.heap.size = w.heap.size + 1 → K.rdy W1 →
      (∀ (xs : Array Value) (W : World) (I : World → Prop) (Ix : Code → World → Prop), xs.size = ps.size → K.rdy W → RoundOf P K a.tmps ps assign body xs W I Ix →
        YieldAt Fence.wide 3 P w.heap.size xs W (YieldOf K I Ix)) →
      Calls P gf (#[.func (.yield w.heap.size) #[] #[]] ++ lb) W1 fun e W2 => (∃ v, e = .returned v) ∧
        ((K.rdy W2 ∧ ∀ W3, Turn w.heap.size W2 W3 → Q .normal a W3) ∨
         (∃ c, K.fin c W2 ∧ ∀ W3, Turn w.heap.size W2 W3 → c.wpIn (Fence.wide.inRound lp) 3 P Q a W3))) :
    (Code.rangeFunc g ps assign body).wpIn (Fence.wide.inRound lp) 3 P Q a w := by
  refine wpIn_rangeFunc ?_
  intro fn hfn
  obtain ⟨rec, hrec⟩ : ∃ rec : LoopState → Option Code → Loop, rec = fun st pe => { state := st, pending := pe, fn, tmps := a.tmps, params := ps, assign, body, defers := r₀.defers } := ⟨_, rfl⟩
  obtain ⟨W1, hW1⟩ : ∃ W1, w.alloc (.loop (rec .ready none)) = W1 := ⟨_, rfl⟩
  have hL1 : W1.heap[w.heap.size]? = some (.loop (rec .ready none)) := by rw [← hW1]; exact World.alloc_heap_new w _
  have hg1 : w.grownBy W1 none := by
    have hb : Below w.heap.size w W1 := by rw [← hW1]; exact (Below.refl _ w).alloc (Nat.le_refl _) _
    exact ⟨hb.os, hb.tape, hb.output, hb.size, fun k hk _ => hb.block k hk⟩
  have hs1 : W1.heap.size = w.heap.size + 1 := by rw [← hW1]; simp
  refine ⟨w.heap.size, [], W1, { target := .fn (.func gf) lb, args := #[.func (.yield w.heap.size) #[] #[]] }, W1, gf,
    #[.func (.yield w.heap.size) #[] #[]] ++ lb, W1, ?_, ?_, ?_, ?_, fun _ => by omega, ?_⟩
  · rw [← hW1, hrec]; exact run_enterLoop_inner hl₀ _ _ _ _ _
  · simp only [resolve, hg]
    simp [go_sem]
  · intro f' hf'; trivial
  · simp [invoke, go_sem, eg]
  · obtain ⟨Rd, hRd⟩ : ∃ Rd : World → Prop, Rd = fun W => W.heap[w.heap.size]? = some (.loop (rec .ready none)) := ⟨_, rfl⟩
    obtain ⟨Bs, hBs⟩ : ∃ Bs : World → Prop, Bs = fun W => W.heap[w.heap.size]? = some (.loop { rec .ready none with state := .busy }) := ⟨_, rfl⟩
    obtain ⟨Fn_, hFn⟩ : ∃ Fn_ : Code → World → Prop, Fn_ = fun c W => W.heap[w.heap.size]? = some (.loop (rec .done (some c))) := ⟨_, rfl⟩
    let K : LoopBook w.heap.size w.heap.size := {
      rdy := Rd, busy := Bs, fin := Fn_
      keepR := fun A B h h1 h2 => by subst hRd; exact h2.trans h
      keepB := fun A B h h1 h2 => by subst hBs; exact h2.trans h
      keepF := fun c A B h h1 h2 => by subst hFn; exact h2.trans h
      rdyN := fun A h => by subst hRd; exact ⟨⟨_, h, rfl⟩, ⟨_, h, rfl⟩⟩
      busyN := fun A h => by subst hBs; exact ⟨⟨_, h, rfl⟩, ⟨_, h, rfl⟩⟩
      finN := fun c A h => by subst hFn; exact ⟨⟨_, h, rfl⟩, ⟨_, h, rfl⟩⟩ }
    have hcall := hseq K W1 hg1 hs1 (by show Rd W1; subst hRd; exact hL1) (by
      intro xs W I Ix hxs hrd hro
      have hl : Rd W := hrd
      rw [hRd] at hl
      have hy := run_yield (P := P) (args := xs) hl (by rw [hrec]; exact hxs)
      rw [hrec] at hy
      refine ⟨fn, _, assign, body, hy, roundIn_of_wpIn trivial (wpIn_mono hro ?_)⟩
      rintro e a3 W3 hp
      cases e with
      | normal =>
        obtain ⟨hrd3, hb3⟩ := hp
        have hl3 : Rd W3 := hrd3
        rw [hRd] at hl3
        have hlt : w.heap.size < W3.heap.size := (Array.getElem?_eq_some_iff.1 hl3).1
        refine ⟨_, run_beginRound hl3 (by rw [hrec]), ?_⟩
        have hl4 : (W3.putObj w.heap.size (.loop { rec .ready none with state := .busy })).heap[w.heap.size]? = some (.loop { rec .ready none with state := .busy }) := World.putObj_heap_same hlt
        refine wpIn_mono (hb3 _ (turn_putObj _ _ _) (by show Bs _; subst hBs; exact hl4)) ?_
        have fin : ∀ (jump : Option Code) (W5 : World), Bs W5 →
            (Instr.endRound w.heap.size jump).run P W5 = .ok (.bool jump.isNone) (W5.putObj w.heap.size (.loop (rec (if jump.isNone then .ready else .done) jump))) ∧
            (W5.putObj w.heap.size (.loop (rec (if jump.isNone then .ready else .done) jump))).heap[w.heap.size]? = some (.loop (rec (if jump.isNone then .ready else .done) jump)) := fun jump W5 hb5 => by
          rw [hBs] at hb5
          have := run_endRound (P := P) jump hb5
          rw [hrec] at this ⊢
          exact ⟨this, World.putObj_heap_same (Array.getElem?_eq_some_iff.1 hb5).1⟩
        rintro e a5 W5 hp
        cases e with
        | normal =>
          obtain ⟨hb5, hi5⟩ := hp
          obtain ⟨hr, hl6⟩ := fin none W5 hb5
          exact ⟨_, _, hr, .inl ⟨rfl, by show Rd _; subst hRd; exact hl6, W5, hi5, turn_putObj _ _ _⟩⟩
        | ret =>
          obtain ⟨hb5, hi5⟩ := hp
          obtain ⟨hr, hl6⟩ := fin (some .ret) W5 hb5
          exact ⟨_, _, hr, .inr ⟨rfl, .ret, by show Fn_ _ _; subst hFn; exact hl6, W5, hi5, turn_putObj _ _ _⟩⟩
        | exit id =>
          obtain ⟨hb5, hi5⟩ := hp
          obtain ⟨hr, hl6⟩ := fin (some (.exit id)) W5 hb5
          exact ⟨_, _, hr, .inr ⟨rfl, .exit id, by show Fn_ _ _; subst hFn; exact hl6, W5, hi5, turn_putObj _ _ _⟩⟩
        | goto t =>
          obtain ⟨hb5, hi5⟩ := hp
          obtain ⟨hr, hl6⟩ := fin (some (.goto t)) W5 hb5
          exact ⟨_, _, hr, .inr ⟨rfl, .goto t, by show Fn_ _ _; subst hFn; exact hl6, W5, hi5, turn_putObj _ _ _⟩⟩
        | panic ch => exact hp.elim
        | outgrown => exact hp.elim
      | ret => exact hp.elim
      | exit id => exact hp.elim
      | goto t => exact hp.elim
      | panic ch => exact hp.elim
      | outgrown => exact hp.elim)
    refine (CallsIn.inRound lp (callsIn_wide.2 hcall)).mono ?_
    rintro e W2 ⟨⟨v, rfl⟩, (⟨hrd, hq⟩ | ⟨c, hfi, hq⟩)⟩
    · have hl : Rd W2 := hrd
      rw [hRd] at hl
      exact ⟨none, _, by have := run_endLoop (P := P) hl (by rw [hrec]; simp); rw [hrec] at this; exact this, hq _ (turn_putObj _ _ _)⟩
    · have hl : Fn_ c W2 := hfi
      rw [hFn] at hl
      exact ⟨some c, _, by have := run_endLoop (P := P) hl (by rw [hrec]; simp); rw [hrec] at this; exact this, hq _ (turn_putObj _ _ _)⟩

/-- .. the body is told that its loop's record stands -/
theorem wp_range_allL {a : Act} {w : World} {g : Operand} {ps : Array Tmp} {assign body : Code} {Q : Exit → Act → World → Prop} {x B : Nat} {v : V} {s : Value} {F0 : Nat → Prop}
    (hg : a.eval g = .func (.func 53) #[] #[.pointer (some ⟨x, 0, none⟩)]) (hps : ps.size = 2)
    (hx : w.heap[x]? = some (.cells #[.int .i64 v.kind, .int .u64 v.num, .string v.text, s, .int .i64 v.elem] 25 (0, 0))) (hvo : VO w B v s F0) (hwt : v.wt ≤ 1000000)
    (I : Nat → (Nat → Prop) → World → Prop) (Ix : Code → (Nat → Prop) → World → Prop) (O : Nat → Prop)
    (hrd : ∀ k O W, I k O W → ∀ j, F0 j → W.heap[j]? = w.heap[j]?) (hfr : ∀ k O W, I k O W → ∀ j, O j → j < W.heap.size)
    (hturn : ∀ k O W W' d, I k O W → W.grownBy W' (some d) → w.heap.size ≤ d → ¬ O d → I k O W')
    (hturnX : ∀ c O W W' d, Ix c O W → W.grownBy W' (some d) → w.heap.size ≤ d → ¬ O d → Ix c O W')
    (hI0 : I 0 O w)
    (hround : ∀ (K : LoopBook w.heap.size (w.heap.size + 1)) k O d z t F W W', (∀ W, K.busy W → ∃ r, W.heap[w.heap.size + 1]? = some (.loop r)) → K.rdy W' → I k O W → ¬ O w.heap.size → ¬ O (w.heap.size + 1) → w.heap.size + 2 ≤ W.heap.size → (v.pre 1)[k]? = some (d, z) → Below W.heap.size W W' → VO W' W.heap.size z t F →
      RoundOf Tryd.prog K a.tmps ps assign body #[.int .i64 d, .agg #[.int .i64 z.kind, .int .u64 z.num, .string z.text, t, .int .i64 z.elem]] W' (fun W3 => ∃ O2, I (k + 1) O2 W3 ∧ KeepR (w.heap.size + 1) (fun j => O j ∨ F j) W' O2 W3) (fun c W3 => ∃ O2, Ix c O2 W3 ∧ KeepR (w.heap.size + 1) (fun j => O j ∨ F j) W' O2 W3))
    (hdone : ∀ O W, I (v.pre 1).length O W → W.heap[w.heap.size]? = some (.deferred (some [])) → ¬ O w.heap.size → Q .normal { a with defers := { target := .collected w.heap.size, args := #[] } :: a.defers } W)
    (hexit : ∀ c O W, Ix c O W → W.heap[w.heap.size]? = some (.deferred (some [])) → ¬ O w.heap.size → c.wp Tryd.prog Q { a with defers := { target := .collected w.heap.size, args := #[] } :: a.defers } W) :
    (Code.rangeFunc g ps assign body).wp Tryd.prog Q a w := by
  refine wp_rangeFunc_anyL (gf := 53) (lb := #[.pointer (some ⟨x, 0, none⟩)]) hg (enters_of Tryd.func53 (by kernel_rfl) rfl) ?_
  intro K W1 hg1 hz1 hrd1 hbl hyield
  have hxlt := (Array.getElem?_eq_some_iff.1 hx).1
  have hx1 := (hg1.block x hxlt (by simp)).trans hx
  have hfr0 := hfr 0 O w hI0
  have hOD : ¬ O w.heap.size := fun q => by have := hfr0 _ q; omega
  have hOl : ¬ O (w.heap.size + 1) := fun q => by have := hfr0 _ q; omega
  let J : Nat → (Nat → Prop) → World → Prop := fun k O' W => ∃ O, (O' = fun j => O j ∨ j = w.heap.size + 1) ∧ K.rdy W ∧ I k O W ∧ ¬ O w.heap.size ∧ ¬ O (w.heap.size + 1) ∧ w.heap.size + 2 ≤ W.heap.size
  let Jx : (Nat → Prop) → World → Prop := fun O' W => ∃ O c, (O' = fun j => O j ∨ j = w.heap.size + 1) ∧ K.fin c W ∧ Ix c O W ∧ ¬ O w.heap.size ∧ ¬ O (w.heap.size + 1) ∧ w.heap.size + 2 ≤ W.heap.size
  have hswap : ∀ (O F : Nat → Prop), (fun j => (O j ∨ F j) ∨ j = w.heap.size + 1) = fun j => (O j ∨ j = w.heap.size + 1) ∨ F j := fun O F => by
    funext j
    simp only [or_assoc, or_comm, or_left_comm]
  have hR : RidesA (w.heap.size + 2) (w.heap.size + 1) w F0 (v.pre 1) J Jx := by
    refine ⟨?_, ?_, ?_, ?_, ?_⟩
    · rintro k O' W ⟨O, rfl, _, hI, _⟩
      exact hrd k O W hI
    · rintro k O' W ⟨O, rfl, _, hI, _, _, hz⟩ j (hj | hj)
      · exact hfr k O W hI j hj
      · omega
    · rintro k O' W W' d ⟨O, rfl, hr, hI, h1, h2, hz⟩ hb hd hO
      exact ⟨O, rfl, K.keepR W W' hr (hb.block _ (by omega) (fun e => by have := Option.some.inj e; omega)) (hb.block _ (by omega) (fun e => by have := Option.some.inj e; omega)), hturn k O W W' d hI hb (by omega) (fun q => hO (.inl q)), h1, h2, Nat.le_trans hz hb.size⟩
    · rintro O' W W' d ⟨O, c, rfl, hf, hI, h1, h2, hz⟩ hb hd hO
      exact ⟨O, c, rfl, K.keepF c W W' hf (hb.block _ (by omega) (fun e => by have := Option.some.inj e; omega)) (hb.block _ (by omega) (fun e => by have := Option.some.inj e; omega)), hturnX c O W W' d hI hb (by omega) (fun q => hO (.inl q)), h1, h2, Nat.le_trans hz hb.size⟩
    · rintro k O' W W0 d z t F ⟨O, rfl, hr, hI, h1, h2, hz⟩ hL hbw hz0
      have hr0 := K.keepR W W0 hr (hbw.block _ (by omega)) (hbw.block _ (by omega))
      have hFlt := fun j (q : F j) => (hz0.lt j q).1
      have hzw := hbw.size
      have hyl := hyield #[.int .i64 d, .agg #[.int .i64 z.kind, .int .u64 z.num, .string z.text, t, .int .i64 z.elem]] W0 _ _ (by rw [hps]; rfl) hr0 (hround K k O d z t F W W0 hbl hr0 hI h1 h2 hz hL hbw hz0)
      obtain ⟨fn, tmps, asg, bd, hyy, hRd⟩ := hyl
      refine ⟨fn, tmps, asg, bd, hyy, hRd.mono ?_⟩
      rintro e W' (⟨rfl, hr', W3, ⟨O2, hI2, hk2⟩, ht⟩ | ⟨rfl, c, hf', W3, ⟨O2, hI2, hk2⟩, ht⟩)
      · have n1 : ¬ O2 w.heap.size := fun q => by rcases hk2.own _ q with (r | r) | r; exact h1 r; have := hFlt _ r; omega; omega
        have n2 : ¬ O2 (w.heap.size + 1) := fun q => by rcases hk2.own _ q with (r | r) | r; exact h2 r; have := hFlt _ r; omega; omega
        have hkt := hk2.turn ht
        rw [hswap] at hkt
        exact .inl ⟨rfl, _, ⟨O2, rfl, hr', hturn _ _ _ _ _ hI2 ht.1 (by omega) n2, n1, n2, Nat.le_trans hz (Nat.le_trans hzw (Nat.le_trans hk2.size ht.1.size))⟩, hkt⟩
      · have n1 : ¬ O2 w.heap.size := fun q => by rcases hk2.own _ q with (r | r) | r; exact h1 r; have := hFlt _ r; omega; omega
        have n2 : ¬ O2 (w.heap.size + 1) := fun q => by rcases hk2.own _ q with (r | r) | r; exact h2 r; have := hFlt _ r; omega; omega
        have hkt := hk2.turn ht
        rw [hswap] at hkt
        exact .inr ⟨rfl, _, ⟨O2, c, rfl, hf', hturnX _ _ _ _ _ hI2 ht.1 (by omega) n2, n1, n2, Nat.le_trans hz (Nat.le_trans hzw (Nat.le_trans hk2.size ht.1.size))⟩, hkt⟩
  have hJ1 : J 0 (fun j => O j ∨ j = w.heap.size + 1) W1 := ⟨O, rfl, hrd1, hturn 0 O w W1 w.heap.size hI0 (grownN hg1 _) (Nat.le_refl _) hOD, hOD, hOl, by omega⟩
  refine (all1_in hR hJ1 hvo hwt hx1 (by omega)).mono ?_
  rintro e W2 ⟨⟨u, rfl⟩, (⟨O2, O3, rfl, hr, hI, h1, h2, hz⟩ | ⟨O2, O3, c, rfl, hf, hI, h1, h2, hz⟩)⟩
  · exact ⟨⟨_, rfl⟩, .inl ⟨hr, fun W3 ht hD => hdone O3 W3 (hturn _ _ _ _ _ hI ht.1 (by omega) h2) hD h1⟩⟩
  · exact ⟨⟨_, rfl⟩, .inr ⟨c, hf, fun W3 ht hD => hexit c O3 W3 (hturnX _ _ _ _ _ hI ht.1 (by omega) h2) hD h1⟩⟩

/-- .. within a round of another range -/
theorem wpIn_range_allN {a : Act} {w : World} {g : Operand} {ps : Array Tmp} {assign body : Code} {Q : Exit → Act → World → Prop} {x B : Nat} {v : V} {s : Value} {F0 : Nat → Prop} {lp : Nat} {r₀ : Loop} (hl₀ : w.heap[lp]? = some (.loop r₀))
    (hg : a.eval g = .func (.func 53) #[] #[.pointer (some ⟨x, 0, none⟩)]) (hps : ps.size = 2)
    (hx : w.heap[x]? = some (.cells #[.int .i64 v.kind, .int .u64 v.num, .string v.text, s, .int .i64 v.elem] 25 (0, 0))) (hvo : VO w B v s F0) (hwt : v.wt ≤ 1000000)
    (I : Nat → (Nat → Prop) → World → Prop) (Ix : Code → (Nat → Prop) → World → Prop) (O : Nat → Prop)
    (hrd : ∀ k O W, I k O W → ∀ j, F0 j → W.heap[j]? = w.heap[j]?) (hfr : ∀ k O W, I k O W → ∀ j, O j → j < W.heap.size)
    (hturn : ∀ k O W W' d, I k O W → W.grownBy W' (some d) → w.heap.size ≤ d → ¬ O d → I k O W')
    (hturnX : ∀ c O W W' d, Ix c O W → W.grownBy W' (some d) → w.heap.size ≤ d → ¬ O d → Ix c O W')
    (hI0 : I 0 O w)
    (hround : ∀ (K : LoopBook w.heap.size w.heap.size) k O d z t F W W', K.rdy W' → I k O W → ¬ O w.heap.size → ¬ O w.heap.size → w.heap.size + 1 ≤ W.heap.size → (v.pre 1)[k]? = some (d, z) → Below W.heap.size W W' → VO W' W.heap.size z t F →
      RoundOf Tryd.prog K a.tmps ps assign body #[.int .i64 d, .agg #[.int .i64 z.kind, .int .u64 z.num, .string z.text, t, .int .i64 z.elem]] W' (fun W3 => ∃ O2, I (k + 1) O2 W3 ∧ KeepR w.heap.size (fun j => O j ∨ F j) W' O2 W3) (fun c W3 => ∃ O2, Ix c O2 W3 ∧ KeepR w.heap.size (fun j => O j ∨ F j) W' O2 W3))
    (hdone : ∀ O W, I (v.pre 1).length O W → Q .normal a W)
    (hexit : ∀ c O W, Ix c O W → c.wpIn (Fence.wide.inRound lp) 3 Tryd.prog Q a W) :
    (Code.rangeFunc g ps assign body).wpIn (Fence.wide.inRound lp) 3 Tryd.prog Q a w := by
  refine wpIn_rangeFunc_anyN (gf := 53) (lb := #[.pointer (some ⟨x, 0, none⟩)]) hg (enters_of Tryd.func53 (by kernel_rfl) rfl) hl₀ ?_
  intro K W1 hg1 hz1 hrd1 hyield
  have hxlt := (Array.getElem?_eq_some_iff.1 hx).1
  have hx1 := (hg1.block x hxlt (by simp)).trans hx
  have hfr0 := hfr 0 O w hI0
  have hOD : ¬ O w.heap.size := fun q => by have := hfr0 _ q; omega
  have hOl : ¬ O w.heap.size := fun q => by have := hfr0 _ q; omega
  let J : Nat → (Nat → Prop) → World → Prop := fun k O' W => ∃ O, (O' = fun j => O j ∨ j = w.heap.size) ∧ K.rdy W ∧ I k O W ∧ ¬ O w.heap.size ∧ ¬ O w.heap.size ∧ w.heap.size + 1 ≤ W.heap.size
  let Jx : (Nat → Prop) → World → Prop := fun O' W => ∃ O c, (O' = fun j => O j ∨ j = w.heap.size) ∧ K.fin c W ∧ Ix c O W ∧ ¬ O w.heap.size ∧ ¬ O w.heap.size ∧ w.heap.size + 1 ≤ W.heap.size
  have hswap : ∀ (O F : Nat → Prop), (fun j => (O j ∨ F j) ∨ j = w.heap.size) = fun j => (O j ∨ j = w.heap.size) ∨ F j := fun O F => by
    funext j
    simp only [or_assoc, or_comm, or_left_comm]
  have hR : RidesA (w.heap.size + 1) w.heap.size w F0 (v.pre 1) J Jx := by
    refine ⟨?_, ?_, ?_, ?_, ?_⟩
    · rintro k O' W ⟨O, rfl, _, hI, _⟩
      exact hrd k O W hI
    · rintro k O' W ⟨O, rfl, _, hI, _, _, hz⟩ j (hj | hj)
      · exact hfr k O W hI j hj
      · omega
    · rintro k O' W W' d ⟨O, rfl, hr, hI, h1, h2, hz⟩ hb hd hO
      exact ⟨O, rfl, K.keepR W W' hr (hb.block _ (by omega) (fun e => by have := Option.some.inj e; omega)) (hb.block _ (by omega) (fun e => by have := Option.some.inj e; omega)), hturn k O W W' d hI hb (by omega) (fun q => hO (.inl q)), h1, h2, Nat.le_trans hz hb.size⟩
    · rintro O' W W' d ⟨O, c, rfl, hf, hI, h1, h2, hz⟩ hb hd hO
      exact ⟨O, c, rfl, K.keepF c W W' hf (hb.block _ (by omega) (fun e => by have := Option.some.inj e; omega)) (hb.block _ (by omega) (fun e => by have := Option.some.inj e; omega)), hturnX c O W W' d hI hb (by omega) (fun q => hO (.inl q)), h1, h2, Nat.le_trans hz hb.size⟩
    · rintro k O' W W0 d z t F ⟨O, rfl, hr, hI, h1, h2, hz⟩ hL hbw hz0
      have hr0 := K.keepR W W0 hr (hbw.block _ (by omega)) (hbw.block _ (by omega))
      have hFlt := fun j (q : F j) => (hz0.lt j q).1
      have hzw := hbw.size
      have hyl := hyield #[.int .i64 d, .agg #[.int .i64 z.kind, .int .u64 z.num, .string z.text, t, .int .i64 z.elem]] W0 _ _ (by rw [hps]; rfl) hr0 (hround K k O d z t F W W0 hr0 hI h1 h2 hz hL hbw hz0)
      obtain ⟨fn, tmps, asg, bd, hyy, hRd⟩ := hyl
      refine ⟨fn, tmps, asg, bd, hyy, hRd.mono ?_⟩
      rintro e W' (⟨rfl, hr', W3, ⟨O2, hI2, hk2⟩, ht⟩ | ⟨rfl, c, hf', W3, ⟨O2, hI2, hk2⟩, ht⟩)
      · have n1 : ¬ O2 w.heap.size := fun q => by rcases hk2.own _ q with (r | r) | r; exact h1 r; have := hFlt _ r; omega; omega
        have n2 : ¬ O2 w.heap.size := fun q => by rcases hk2.own _ q with (r | r) | r; exact h2 r; have := hFlt _ r; omega; omega
        have hkt := hk2.turn ht
        rw [hswap] at hkt
        exact .inl ⟨rfl, _, ⟨O2, rfl, hr', hturn _ _ _ _ _ hI2 ht.1 (by omega) n2, n1, n2, Nat.le_trans hz (Nat.le_trans hzw (Nat.le_trans hk2.size ht.1.size))⟩, hkt⟩
      · have n1 : ¬ O2 w.heap.size := fun q => by rcases hk2.own _ q with (r | r) | r; exact h1 r; have := hFlt _ r; omega; omega
        have n2 : ¬ O2 w.heap.size := fun q => by rcases hk2.own _ q with (r | r) | r; exact h2 r; have := hFlt _ r; omega; omega
        have hkt := hk2.turn ht
        rw [hswap] at hkt
        exact .inr ⟨rfl, _, ⟨O2, c, rfl, hf', hturnX _ _ _ _ _ hI2 ht.1 (by omega) n2, n1, n2, Nat.le_trans hz (Nat.le_trans hzw (Nat.le_trans hk2.size ht.1.size))⟩, hkt⟩
  have hJ1 : J 0 (fun j => O j ∨ j = w.heap.size) W1 := ⟨O, rfl, hrd1, hturn 0 O w W1 w.heap.size hI0 (grownN hg1 _) (Nat.le_refl _) hOD, hOD, hOl, by omega⟩
  refine (all1_in hR hJ1 hvo hwt hx1 (by omega)).mono ?_
  rintro e W2 ⟨⟨u, rfl⟩, (⟨O2, O3, rfl, hr, hI, h1, h2, hz⟩ | ⟨O2, O3, c, rfl, hf, hI, h1, h2, hz⟩)⟩
  · exact ⟨⟨_, rfl⟩, .inl ⟨hr, fun W3 ht => hdone O3 W3 (hturn _ _ _ _ _ hI ht.1 (by omega) h2)⟩⟩
  · exact ⟨⟨_, rfl⟩, .inr ⟨c, hf, fun W3 ht => hexit c O3 W3 (hturnX _ _ _ _ _ hI ht.1 (by omega) h2)⟩⟩
end Go.Proofs.YtakbgekamjpibaaDoor
