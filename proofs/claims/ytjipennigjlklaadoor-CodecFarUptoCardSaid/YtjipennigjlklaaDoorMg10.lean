/-
  isArray. Conditions: the value lies in memory.
  A range over a function whose iterator keeps state of its own in cells: one law, which leaves the invariant to the caller. It speaks of no program. No conditions.
-/
import Derived.Test.YtjipennigjlklaaDoorVi
import Derived.RangeFuncNested
import Derived.RangeFuncBound
import Derived.RangeFuncCalls
import Derived.RangeFuncLeaves
import Derived.Shelf.Abstract
import Derived.Shelf.RegionOpen
import Derived.WalkKit
import Derived.OwnWalkIn
import Derived.TacticsInMore
import Derived.LoopNIn
import Derived.LoopIn
namespace Go.Proofs.YtjipennigjlklaaDoor
open Go.RowKit
set_option linter.unusedVariables false

def Alike (v : V) (el : Int) : Prop := ∀ x ∈ v.list, x.kind = el
instance (v : V) (el : Int) : Decidable (Alike v el) := by unfold Alike; infer_instance
def arrOk (v : V) : Bool := decide (0 < v.elem ∧ v.elem < 24 ∧ Alike v v.elem)

set_option maxRecDepth 20000 in
set_option maxHeartbeats 4000000 in
theorem unlike_any (x : V) (t : Value) (w : World) (b : Nat) (el : Int) (h : VIn w x t) (hc : w.cell? ⟨b, 4, none⟩ = some (.int .i64 el)) :
    Calls Tryd.prog 59 #[.agg #[.int .i64 x.kind, .int .u64 x.num, .string x.text, t, .int .i64 x.elem], .pointer (some ⟨b, 0, none⟩)] w fun e w' => e = .returned (.bool (x.kind != el)) ∧ Below w.heap.size w w' := by
  obtain ⟨p, c, hs, h1, h2, h3⟩ := h.slice
  obtain ⟨N, hN⟩ : ∃ N, x.list.length = N := ⟨_, rfl⟩
  rw [hN] at hs
  subst hs
  have HC := Lib.hid hc
  clear h1 h2 h3 h hN hc
  go_enter Tryd.func59, Tryd.ntmps59
  go_upto_region 1 with fail
  have hb0 : Below w.heap.size w (w.alloc (.cells #[.int .i64 x.kind, .int .u64 x.num, .string x.text, (.slice p N c), .int .i64 x.elem] 25)) := ((Below.refl _ _).alloc (Nat.le_refl _) _)
  have oy : (w.alloc (.cells #[.int .i64 x.kind, .int .u64 x.num, .string x.text, (.slice p N c), .int .i64 x.elem] 25)).heap[w.heap.size]? = some (.cells #[.int .i64 x.kind, .int .u64 x.num, .string x.text, (.slice p N c), .int .i64 x.elem] 25 (0, 0)) := _root_.Go.heap_alloc_new _ _
  generalize (w.alloc (.cells #[.int .i64 x.kind, .int .u64 x.num, .string x.text, (.slice p N c), .int .i64 x.elem] 25)) = w0 at *
  obtain ⟨y, hy⟩ : ∃ x, w.heap.size = x := ⟨_, rfl⟩
  rw [hy] at oy ⊢
  have HB0 := Lib.hid hb0
  have HOy := Lib.hid oy
  clear hb0 oy hy
  have y0 : w0.cell? ⟨y, 0, none⟩ = some (.int .i64 x.kind) := (cell_of_row _ _ 0 _ _ _ HOy.out).trans rfl
  have hb0 := HB0.out
  have c4 := bs_cellV hb0 HC.out
  clear hb0
  go_wp2_with fail
  all_goals
    go_ret
    exact ⟨rfl, HB0.out⟩

set_option maxRecDepth 20000 in
set_option maxHeartbeats 4000000 in
theorem index_any (v : V) (w : World) (s : Value) (bx : Nat) (el : Int) (h : VIn w v s) (hc : w.cell? ⟨bx, 4, none⟩ = some (.int .i64 el)) :
    Calls Tryd.prog 74 #[s, .func (.func 59) #[] #[.pointer (some ⟨bx, 0, none⟩)]] w fun e w' => ∃ m : Int, e = .returned (.int .i64 m) ∧ (0 ≤ m ↔ ¬ Alike v el) ∧ Below w.heap.size w w' := by
  obtain ⟨p, c, hs, h1, h2, h3⟩ := h.slice
  obtain ⟨N, hN⟩ : ∃ N, v.list.length = N := ⟨_, rfl⟩
  rw [hN] at hs h1 h3
  subst hs
  unfold maxLen at h2
  have HN := Lib.hid hN
  have HV := Lib.hid h
  have HC := Lib.hid hc
  clear h hN hc
  have eg : ∀ args w, (callFunc 59 args).run Tryd.prog w = .ok (.enter 59 args) w := enters_of Tryd.func59 (by kernel_rfl) rfl
  go_enter Tryd.func74, Tryd.ntmps74
  go_wp2_with fail
  go_loopw [8] (fun v5 wr => ∃ k : Nat, k ≤ N ∧ v5 = .int .i64 k ∧ (∀ j (j1 : j < v.list.length), j < k → v.list[j].kind = el) ∧ Below w.heap.size w wr) (fun v5 _ => N - (intOf v5).toNat)
  case atStart => exact ⟨0, Nat.zero_le _, rfl, fun j _ h => by omega, Below.refl _ _⟩
  case round =>
    obtain ⟨k, hk', rfl, hsame, hbw⟩ := hrel
    have HR := Lib.hid (And.intro hsame hbw)
    clear hsame hbw
    by_cases hkN : (k : Int) < N
    · have ka : k < v.list.length := by rw [HN.out]; omega
      obtain ⟨b1, o1, rfl⟩ := h3 (by omega)
      obtain ⟨ta, hta, hia⟩ := (HV.out.blw HR.out.2).part rfl ka
      obtain ⟨c0, c1, c2, c3, c4⟩ := part_cells hta
      have hcl := unlike_any v.list[k] ta wr bx el hia (bs_cellV HR.out.2 HC.out)
      have HS := Lib.hid (show v.list[k].kind = el → ∀ j (j1 : j < v.list.length), j < k + 1 → v.list[j].kind = el from fun he j j1 hj => by
        by_cases e : j = k
        · subst e; exact he
        · exact HR.out.1 j j1 (by omega))
      have HF := Lib.hid (show v.list[k].kind ≠ el → ¬ Alike v el from fun he q => he (q _ (List.getElem_mem ka)))
      generalize v.list[k] = y at *
      obtain ⟨pa, ca, hsa, _⟩ := hia.slice
      subst hsa
      obtain ⟨na, hna⟩ : ∃ na, y.list.length = na := ⟨_, rfl⟩
      rw [hna] at c3 hcl
      clear hta hia hna
      by_cases hz : y.kind = el
      · have hzz : (y.kind != el) = false := by simpa using hz
        rw [hzz] at hcl
        have HS2 := Lib.hid (HS.out hz)
        clear hzz hz
        have HCL := Lib.hid hcl
        clear hcl
        go_wp2_with fail
        refine HCL.out.mono ?_
        rintro e w1 ⟨rfl, hb1⟩
        have HB1 := Lib.hid (HR.out.2.trans (hb1.mono HR.out.2.size))
        clear hb1 c0 c1 c2 c3 c4
        go_wp2_with fail
        go_roundw
        case rel => exact ⟨k + 1, by omega, by go_num, HS2.out, HB1.out⟩
        case measure => simp [intOf]; omega
      · have hzz : (y.kind != el) = true := by simpa using hz
        rw [hzz] at hcl
        have HF2 := Lib.hid (HF.out hz)
        clear hzz hz
        have HCL := Lib.hid hcl
        clear hcl
        go_wp2_with fail
        refine HCL.out.mono ?_
        rintro e w1 ⟨rfl, hb1⟩
        have HB1 := Lib.hid (HR.out.2.trans (hb1.mono HR.out.2.size))
        clear hb1 c0 c1 c2 c3 c4
        go_wp2_with fail
        go_ret
        exact ⟨k, rfl, ⟨fun _ => HF2.out, fun _ => by omega⟩, HB1.out⟩
    · have HE := Lib.hid (show Alike v el from fun x hx => by
        obtain ⟨j, hj, rfl⟩ := List.getElem_of_mem hx
        exact HR.out.1 j hj (by have := HN.out; omega))
      go_wp2_with fail
      go_ret
      exact ⟨-1, rfl, ⟨fun q => by omega, fun q => (q HE.out).elim⟩, HR.out.2⟩

set_option maxRecDepth 20000 in
set_option maxHeartbeats 4000000 in
theorem contains_any (v : V) (w : World) (s : Value) (bx : Nat) (el : Int) (h : VIn w v s) (hc : w.cell? ⟨bx, 4, none⟩ = some (.int .i64 el)) :
    Calls Tryd.prog 58 #[s, .func (.func 59) #[] #[.pointer (some ⟨bx, 0, none⟩)]] w fun e w' => e = .returned (.bool (decide (¬ Alike v el))) ∧ Below w.heap.size w w' := by
  have hc := index_any v w s bx el h hc
  obtain ⟨p, c, hs, h1, h2, h3⟩ := h.slice
  subst hs
  clear h
  go_enter Tryd.func58, Tryd.ntmps58
  go_wp2_with fail
  refine hc.mono ?_
  clear hc
  rintro e w1 ⟨m, rfl, hm, hb1⟩
  have HM := Lib.hid (And.intro hm hb1)
  clear hm hb1
  go_wp2_with fail
  all_goals
    go_ret
    refine ⟨ret_boolV ?_, HM.out.2⟩
    rw [Bool.eq_iff_iff]
    simp only [decide_eq_true_eq, ← HM.out.1]

set_option maxRecDepth 20000 in
set_option maxHeartbeats 4000000 in
theorem isArray_any (v : V) (w : World) (s : Value) (h : VIn w v s) :
    Calls Tryd.prog 41 #[.agg #[.int .i64 v.kind, .int .u64 v.num, .string v.text, s, .int .i64 v.elem]] w fun e w' => e = .returned (.bool (arrOk v)) ∧ Below w.heap.size w w' := by
  obtain ⟨p, c, hs, h1, h2, h3⟩ := h.slice
  obtain ⟨N, hN⟩ : ∃ N, v.list.length = N := ⟨_, rfl⟩
  rw [hN] at hs h1 h3
  subst hs
  unfold maxLen at h2
  obtain ⟨D, hD⟩ : ∃ D, arrOk v = D := ⟨_, rfl⟩
  rw [hD]
  have HD := Lib.hid hD
  have HV := Lib.hid h
  have HN := Lib.hid hN
  have hmf : ∀ (fn : Fn) (first cap : Array Value) (w : World), (Instr.makeFunc fn first cap).run Tryd.prog w = .ok (.func fn first cap) w := fun _ _ _ _ => rfl
  clear h hN hD
  go_enter Tryd.func41, Tryd.ntmps41
  go_upto_region 1 with fail
  have hb0 : Below w.heap.size w (w.alloc (.cells #[.int .i64 v.kind, .int .u64 v.num, .string v.text, (.slice p N c), .int .i64 v.elem] 25)) := ((Below.refl _ _).alloc (Nat.le_refl _) _)
  have ox : (w.alloc (.cells #[.int .i64 v.kind, .int .u64 v.num, .string v.text, (.slice p N c), .int .i64 v.elem] 25)).heap[w.heap.size]? = some (.cells #[.int .i64 v.kind, .int .u64 v.num, .string v.text, (.slice p N c), .int .i64 v.elem] 25 (0, 0)) := _root_.Go.heap_alloc_new _ _
  generalize (w.alloc (.cells #[.int .i64 v.kind, .int .u64 v.num, .string v.text, (.slice p N c), .int .i64 v.elem] 25)) = w0 at *
  obtain ⟨x, hx⟩ : ∃ x, w.heap.size = x := ⟨_, rfl⟩
  rw [hx] at ox ⊢
  have HB0 := Lib.hid hb0
  have HOx := Lib.hid ox
  clear hb0 ox hx
  have x3 : w0.cell? ⟨x, 3, none⟩ = some (.slice p N c) := (cell_of_row _ _ 3 _ _ _ HOx.out).trans rfl
  have x4 : w0.cell? ⟨x, 4, none⟩ = some (.int .i64 v.elem) := (cell_of_row _ _ 4 _ _ _ HOx.out).trans rfl
  have hcon := contains_any v w0 _ x v.elem (HV.out.blw HB0.out) x4
  have HC := Lib.hid hcon
  clear hcon
  by_cases e1 : v.elem ≤ 0
  · have HDX := Lib.hid (show D = false by rw [← HD.out]; exact decide_eq_false (fun q => by omega))
    go_wp2_with fail
    all_goals
      go_ret
      exact ⟨by rw [HDX.out]; rfl, HB0.out⟩
  · by_cases e2 : 24 ≤ v.elem
    · have HDX := Lib.hid (show D = false by rw [← HD.out]; exact decide_eq_false (fun q => by omega))
      go_wp2_with fail
      all_goals
        go_ret
        exact ⟨by rw [HDX.out]; rfl, HB0.out⟩
    · have HDX := Lib.hid (show D = !(decide (¬ Alike v v.elem)) by
        rw [← HD.out, Bool.eq_iff_iff]
        simp only [arrOk, decide_eq_true_eq, Bool.not_eq_true', decide_eq_false_iff_not, Classical.not_not]
        exact ⟨fun q => q.2.2, fun q => ⟨by omega, by omega, q⟩⟩)
      have hz : ∃ z, decide (¬ Alike v v.elem) = z := ⟨_, rfl⟩
      obtain ⟨z, hz⟩ := hz
      have HZ := Lib.hid hz
      have hcon := HC.out
      rw [hz] at hcon
      have HC2 := Lib.hid hcon
      clear hz hcon
      go_wp2_with fail
      refine HC2.out.mono ?_
      rintro e w1 ⟨rfl, hb1⟩
      have HB1 := Lib.hid (HB0.out.trans (hb1.mono HB0.out.size))
      clear hb1 x3 x4
      go_wp2_with fail
      all_goals
        go_ret
        exact ⟨by rw [HDX.out, HZ.out]; first | rfl | simp_all, HB1.out⟩


def Turn (l : Nat) (W W' : World) : Prop := W.grownBy W' (some l) ∧ W'.heap.size = W.heap.size

theorem turn_putObj (W : World) (l : Nat) (o : Obj) : Turn l W (W.putObj l o) := ⟨grownBy_putObj' W l o, by simp [World.putObj]⟩

structure LoopBook (D l : Nat) where
  rdy : World → Prop
  busy : World → Prop
  fin : Code → World → Prop
  keepR : ∀ A B, rdy A → B.heap[D]? = A.heap[D]? → B.heap[l]? = A.heap[l]? → rdy B
  keepB : ∀ A B, busy A → B.heap[D]? = A.heap[D]? → B.heap[l]? = A.heap[l]? → busy B
  keepF : ∀ c A B, fin c A → B.heap[D]? = A.heap[D]? → B.heap[l]? = A.heap[l]? → fin c B
  rdyN : ∀ A, rdy A → (∃ o, A.heap[D]? = some o ∧ o.isCells = false) ∧ (∃ o, A.heap[l]? = some o ∧ o.isCells = false)
  busyN : ∀ A, busy A → (∃ o, A.heap[D]? = some o ∧ o.isCells = false) ∧ (∃ o, A.heap[l]? = some o ∧ o.isCells = false)
  finN : ∀ c A, fin c A → (∃ o, A.heap[D]? = some o ∧ o.isCells = false) ∧ (∃ o, A.heap[l]? = some o ∧ o.isCells = false)

def bodyP {D l : Nat} (K : LoopBook D l) (I : World → Prop) (Ix : Code → World → Prop) : Exit → Act → World → Prop
  | .normal, _, W => K.busy W ∧ I W
  | .ret, _, W => K.busy W ∧ Ix .ret W
  | .exit id, _, W => K.busy W ∧ Ix (.exit id) W
  | .goto t, _, W => K.busy W ∧ Ix (.goto t) W
  | .panic _, _, _ => False
  | .outgrown, _, _ => False

def RoundOf {D l : Nat} (P : Program) (K : LoopBook D l) (tmps : Array Value) (ps : Array Tmp) (assign body : Code) (xs : Array Value) (W : World) (I : World → Prop) (Ix : Code → World → Prop) : Prop :=
  assign.wpIn (Fence.wide.inRound l) 3 P (Exit.then (fun a' Wa => K.rdy Wa ∧ ∀ Wb, Turn l Wa Wb → K.busy Wb → body.wpIn (Fence.wide.inRound l) 3 P (bodyP K I Ix) a' Wb) (fun _ _ _ => False))
    { tmps := (ps.zip xs).foldl (fun t (p, v) => t.setIfInBounds p v) tmps, defers := [] } W

def YieldOf {D l : Nat} (K : LoopBook D l) (I : World → Prop) (Ix : Code → World → Prop) (e : Ending) (W' : World) : Prop :=
  (e = .returned (.bool true) ∧ K.rdy W' ∧ ∃ W3, I W3 ∧ Turn l W3 W') ∨ (e = .returned (.bool false) ∧ ∃ c, K.fin c W' ∧ ∃ W3, Ix c W3 ∧ Turn l W3 W')

theorem wp_rangeFunc_any {P : Program} {g : Operand} {ps : Array Tmp} {assign body : Code} {Q : Exit → Act → World → Prop} {a : Act} {w : World} {gf : Nat} {lb : Array Value}
    (hg : a.eval g = .func (.func gf) #[] lb) (eg : ∀ args w, (callFunc gf args).run P w = .ok (.enter gf args) w)
    (hseq : ∀ (K : LoopBook w.heap.size (w.heap.size + 1)) (W1 : World), w.grownBy W1 none → W1.heap.size = w.heap.size + 2 → K.rdy W1 →
      (∀ (xs : Array Value) (W : World) (I : World → Prop) (Ix : Code → World → Prop), xs.size = ps.size → K.rdy W → RoundOf P K a.tmps ps assign body xs W I Ix →
        YieldAt Fence.wide 3 P (w.heap.size + 1) xs W (YieldOf K I Ix)) →
      Calls P gf (#[.func (.yield (w.heap.size + 1)) #[] #[]] ++ lb) W1 fun e W2 => (∃ v, e = .returned v) ∧
        ((K.rdy W2 ∧ ∀ W3, Turn (w.heap.size + 1) W2 W3 → W3.heap[w.heap.size]? = some (.deferred (some [])) → Q .normal { a with defers := { target := .collected w.heap.size, args := #[] } :: a.defers } W3) ∨
         (∃ c, K.fin c W2 ∧ ∀ W3, Turn (w.heap.size + 1) W2 W3 → W3.heap[w.heap.size]? = some (.deferred (some [])) → c.wp P Q { a with defers := { target := .collected w.heap.size, args := #[] } :: a.defers } W3))) :
    (Code.rangeFunc g ps assign body).wp P Q a w := by
  refine (wpIn_wide (n := 5)).1 ?_
  refine wpIn_rangeFunc ?_
  intro fn hfn
  obtain ⟨rec, hrec⟩ : ∃ rec : LoopState → Option Code → Loop, rec = fun st pe => { state := st, pending := pe, fn, tmps := a.tmps, params := ps, assign, body, defers := w.heap.size } := ⟨_, rfl⟩
  obtain ⟨W1, hW1⟩ : ∃ W1, (w.alloc (.deferred (some []))).alloc (.loop (rec .ready none)) = W1 := ⟨_, rfl⟩
  have hL1 : W1.heap[w.heap.size + 1]? = some (.loop (rec .ready none)) := by
    rw [← hW1]; have := World.alloc_heap_new (w.alloc (.deferred (some []))) (.loop (rec .ready none)); rwa [World.size_alloc] at this
  have hK1 : W1.heap[w.heap.size]? = some (.deferred (some [])) := by
    rw [← hW1]; exact (Below.heap_alloc _ _ _ (by simp)).trans (World.alloc_heap_new w _)
  have hg1 : w.grownBy W1 none := by
    have hb : Below w.heap.size w W1 := by rw [← hW1]; exact ((Below.refl _ w).alloc (Nat.le_refl _) _).alloc (by simp) _
    exact ⟨hb.os, hb.tape, hb.output, hb.size, fun k hk _ => hb.block k hk⟩
  have hs1 : W1.heap.size = w.heap.size + 2 := by rw [← hW1]; simp
  refine ⟨w.heap.size + 1, [{ target := .collected w.heap.size, args := #[] }], W1, { target := .fn (.func gf) lb, args := #[.func (.yield (w.heap.size + 1)) #[] #[]] }, W1, gf,
    #[.func (.yield (w.heap.size + 1)) #[] #[]] ++ lb, W1, ?_, ?_, ?_, ?_, fun _ => by omega, ?_⟩
  · rw [← hW1, hrec]; exact run_enterLoop_outer _ _ _ _ _
  · simp only [resolve, hg]
    simp [go_sem]
  · intro f' hf'; trivial
  · simp [invoke, go_sem, eg]
  · obtain ⟨Rd, hRd⟩ : ∃ Rd : World → Prop, Rd = fun W => W.heap[w.heap.size + 1]? = some (.loop (rec .ready none)) ∧ W.heap[w.heap.size]? = some (.deferred (some [])) := ⟨_, rfl⟩
    obtain ⟨Bs, hBs⟩ : ∃ Bs : World → Prop, Bs = fun W => W.heap[w.heap.size + 1]? = some (.loop { rec .ready none with state := .busy }) ∧ W.heap[w.heap.size]? = some (.deferred (some [])) := ⟨_, rfl⟩
    obtain ⟨Fn_, hFn⟩ : ∃ Fn_ : Code → World → Prop, Fn_ = fun c W => W.heap[w.heap.size + 1]? = some (.loop (rec .done (some c))) ∧ W.heap[w.heap.size]? = some (.deferred (some [])) := ⟨_, rfl⟩
    let K : LoopBook w.heap.size (w.heap.size + 1) := {
      rdy := Rd, busy := Bs, fin := Fn_
      keepR := fun A B h h1 h2 => by subst hRd; exact ⟨h2.trans h.1, h1.trans h.2⟩
      keepB := fun A B h h1 h2 => by subst hBs; exact ⟨h2.trans h.1, h1.trans h.2⟩
      keepF := fun c A B h h1 h2 => by subst hFn; exact ⟨h2.trans h.1, h1.trans h.2⟩
      rdyN := fun A h => by subst hRd; exact ⟨⟨_, h.2, rfl⟩, ⟨_, h.1, rfl⟩⟩
      busyN := fun A h => by subst hBs; exact ⟨⟨_, h.2, rfl⟩, ⟨_, h.1, rfl⟩⟩
      finN := fun c A h => by subst hFn; exact ⟨⟨_, h.2, rfl⟩, ⟨_, h.1, rfl⟩⟩ }
    have hcall := hseq K W1 hg1 hs1 (by show Rd W1; subst hRd; exact ⟨hL1, hK1⟩) (by
      intro xs W I Ix hxs hrd hro
      have hrd' : Rd W := hrd
      rw [hRd] at hrd'
      obtain ⟨hl, hk⟩ := hrd'
      have hy := run_yield (P := P) (args := xs) hl (by rw [hrec]; exact hxs)
      rw [hrec] at hy
      refine ⟨fn, _, assign, body, hy, roundIn_of_wpIn trivial (wpIn_mono hro ?_)⟩
      rintro e a3 W3 hp
      cases e with
      | normal =>
        obtain ⟨hrd3, hb3⟩ := hp
        have hrd3' : Rd W3 := hrd3
        rw [hRd] at hrd3'
        obtain ⟨hl3, hk3⟩ := hrd3'
        have hlt : w.heap.size + 1 < W3.heap.size := (Array.getElem?_eq_some_iff.1 hl3).1
        refine ⟨_, run_beginRound hl3 (by rw [hrec]), ?_⟩
        have hl4 : (W3.putObj (w.heap.size + 1) (.loop { rec .ready none with state := .busy })).heap[w.heap.size + 1]? = some (.loop { rec .ready none with state := .busy }) := World.putObj_heap_same hlt
        have hk4 : (W3.putObj (w.heap.size + 1) (.loop { rec .ready none with state := .busy })).heap[w.heap.size]? = some (.deferred (some [])) := (World.putObj_heap_other (by omega)).trans hk3
        refine wpIn_mono (hb3 _ (turn_putObj _ _ _) (by show Bs _; subst hBs; exact ⟨hl4, hk4⟩)) ?_
        have fin : ∀ (jump : Option Code) (W5 : World), Bs W5 →
            (Instr.endRound (w.heap.size + 1) jump).run P W5 = .ok (.bool jump.isNone) (W5.putObj (w.heap.size + 1) (.loop (rec (if jump.isNone then .ready else .done) jump))) ∧
            (W5.putObj (w.heap.size + 1) (.loop (rec (if jump.isNone then .ready else .done) jump))).heap[w.heap.size + 1]? = some (.loop (rec (if jump.isNone then .ready else .done) jump)) ∧
            (W5.putObj (w.heap.size + 1) (.loop (rec (if jump.isNone then .ready else .done) jump))).heap[w.heap.size]? = some (.deferred (some [])) := fun jump W5 hb5 => by
          rw [hBs] at hb5
          obtain ⟨hl5, hk5⟩ := hb5
          have := run_endRound (P := P) jump hl5
          rw [hrec] at this ⊢
          exact ⟨this, World.putObj_heap_same (Array.getElem?_eq_some_iff.1 hl5).1, (World.putObj_heap_other (by omega)).trans hk5⟩
        rintro e a5 W5 hp
        cases e with
        | normal =>
          obtain ⟨hb5, hi5⟩ := hp
          obtain ⟨hr, hl6, hk6⟩ := fin none W5 hb5
          exact ⟨_, _, hr, .inl ⟨rfl, by show Rd _; subst hRd; exact ⟨hl6, hk6⟩, W5, hi5, turn_putObj _ _ _⟩⟩
        | ret =>
          obtain ⟨hb5, hi5⟩ := hp
          obtain ⟨hr, hl6, hk6⟩ := fin (some .ret) W5 hb5
          exact ⟨_, _, hr, .inr ⟨rfl, .ret, by show Fn_ _ _; subst hFn; exact ⟨hl6, hk6⟩, W5, hi5, turn_putObj _ _ _⟩⟩
        | exit id =>
          obtain ⟨hb5, hi5⟩ := hp
          obtain ⟨hr, hl6, hk6⟩ := fin (some (.exit id)) W5 hb5
          exact ⟨_, _, hr, .inr ⟨rfl, .exit id, by show Fn_ _ _; subst hFn; exact ⟨hl6, hk6⟩, W5, hi5, turn_putObj _ _ _⟩⟩
        | goto t =>
          obtain ⟨hb5, hi5⟩ := hp
          obtain ⟨hr, hl6, hk6⟩ := fin (some (.goto t)) W5 hb5
          exact ⟨_, _, hr, .inr ⟨rfl, .goto t, by show Fn_ _ _; subst hFn; exact ⟨hl6, hk6⟩, W5, hi5, turn_putObj _ _ _⟩⟩
        | panic ch => exact hp.elim
        | outgrown => exact hp.elim
      | ret => exact hp.elim
      | exit id => exact hp.elim
      | goto t => exact hp.elim
      | panic ch => exact hp.elim
      | outgrown => exact hp.elim)
    refine (callsIn_wide.2 hcall).mono ?_
    rintro e W2 ⟨⟨v, rfl⟩, (⟨hrd, hq⟩ | ⟨c, hfi, hq⟩)⟩
    · have hrd' : Rd W2 := hrd
      rw [hRd] at hrd'
      obtain ⟨hl, hk⟩ := hrd'
      exact ⟨none, _, by have := run_endLoop (P := P) hl (by rw [hrec]; simp); rw [hrec] at this; exact this, hq _ (turn_putObj _ _ _) ((World.putObj_heap_other (by omega)).trans hk)⟩
    · have hfi' : Fn_ c W2 := hfi
      rw [hFn] at hfi'
      obtain ⟨hl, hk⟩ := hfi'
      exact ⟨some c, _, by have := run_endLoop (P := P) hl (by rw [hrec]; simp); rw [hrec] at this; exact this, (wpIn_wide (n := 5)).2 (hq _ (turn_putObj _ _ _) ((World.putObj_heap_other (by omega)).trans hk))⟩
end Go.Proofs.YtjipennigjlklaaDoor
