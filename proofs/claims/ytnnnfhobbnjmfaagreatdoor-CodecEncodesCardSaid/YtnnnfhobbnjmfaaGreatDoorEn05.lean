/-
  Lemmas on the codec. Conditions: as each says.
-/
import Derived.Test.YtnnnfhobbnjmfaaGreatDoorEn04
import Derived.RangeFuncNested
import Derived.RangeFuncBound
import Derived.RangeFuncCalls
import Derived.RangeFuncLeaves
import Derived.Shelf.Abstract
import Derived.Shelf.RegionOpen
import Derived.WalkKit
import Derived.OwnWalkIn
import Derived.TacticsInMore
import Derived.LoopNIn
import Derived.LoopIn
import Derived.Test.YtnnnfhobbnjmfaaGreatDoorEn02
import Derived.Test.YtnnnfhobbnjmfaaGreatDoorRows
import Derived.ProofKit
import Derived.OpenShut
import Derived.ChangeArms
import Derived.Deep.Slices
import Derived.Test.YtnnnfhobbnjmfaaGreatDoorEn03
namespace Go.Proofs.YtnnnfhobbnjmfaaGreatDoor
open Go.RowKit
set_option linter.all false

def Alike (v : V) (el : Int) : Prop := ∀ x ∈ v.list, x.kind = el
instance (v : V) (el : Int) : Decidable (Alike v el) := by unfold Alike; infer_instance
def arrOk (v : V) : Bool := decide (0 < v.elem ∧ v.elem < 24 ∧ Alike v v.elem)

set_option maxRecDepth 20000 in
set_option maxHeartbeats 4000000 in
theorem unlike_any (x : V) (t : Value) (w : World) (b : Nat) (el : Int) (h : VIn w x t) (hc : w.cell? ⟨b, 4, none⟩ = some (.int .i64 el)) :
    Calls Tryz.prog 105 #[.agg #[.int .i64 x.kind, .int .u64 x.num, .string x.text, t, .int .i64 x.elem], .pointer (some ⟨b, 0, none⟩)] w fun e w' => e = .returned (.bool (x.kind != el)) ∧ Below w.heap.size w w' := by
  obtain ⟨p, c, hs, h1, h2, h3⟩ := h.slice
  obtain ⟨N, hN⟩ : ∃ N, x.list.length = N := ⟨_, rfl⟩
  rw [hN] at hs
  subst hs
  have HC := Lib.hid hc
  clear h1 h2 h3 h hN hc
  go_enter Tryz.func105, Tryz.ntmps105
  go_upto_region 1 with fail
  have hb0 : Below w.heap.size w (w.alloc (.cells #[.int .i64 x.kind, .int .u64 x.num, .string x.text, (.slice p N c), .int .i64 x.elem] 25)) := ((Below.refl _ _).alloc (Nat.le_refl _) _)
  have oy := _root_.Go.heap_alloc_new w (.cells #[.int .i64 x.kind, .int .u64 x.num, .string x.text, (.slice p N c), .int .i64 x.elem] 25)
  generalize (w.alloc (.cells #[.int .i64 x.kind, .int .u64 x.num, .string x.text, (.slice p N c), .int .i64 x.elem] 25)) = w0 at *
  obtain ⟨y, hy⟩ : ∃ x, w.heap.size = x := ⟨_, rfl⟩
  rw [hy] at oy ⊢
  have HB0 := Lib.hid hb0
  have HOy := Lib.hid oy
  clear hb0 oy hy
  have y0 : w0.cell? ⟨y, 0, none⟩ = some (.int .i64 x.kind) := (cell_of_row _ _ 0 _ _ _ HOy.out).trans rfl
  have hb0 := HB0.out
  have c4 := bs_cellV hb0 HC.out
  clear hb0
  go_wp2_with fail
  all_goals
    go_ret
    exact ⟨rfl, HB0.out⟩

set_option maxRecDepth 20000 in
set_option maxHeartbeats 4000000 in
theorem index_any (v : V) (w : World) (s : Value) (bx : Nat) (el : Int) (h : VIn w v s) (hc : w.cell? ⟨bx, 4, none⟩ = some (.int .i64 el)) :
    Calls Tryz.prog 127 #[s, .func (.func 105) #[] #[.pointer (some ⟨bx, 0, none⟩)]] w fun e w' => ∃ m : Int, e = .returned (.int .i64 m) ∧ (0 ≤ m ↔ ¬ Alike v el) ∧ Below w.heap.size w w' := by
  obtain ⟨p, c, hs, h1, h2, h3⟩ := h.slice
  obtain ⟨N, hN⟩ : ∃ N, v.list.length = N := ⟨_, rfl⟩
  rw [hN] at hs h1 h3
  subst hs
  unfold maxLen at h2
  have HN := Lib.hid hN
  have HV := Lib.hid h
  have HC := Lib.hid hc
  clear h hN hc
  have eg : ∀ args w, (callFunc 105 args).run Tryz.prog w = .ok (.enter 105 args) w := enters_of Tryz.func105 (by kernel_rfl) rfl
  go_enter Tryz.func127, Tryz.ntmps127
  go_wp2_with fail
  go_loopw [8] (fun v5 wr => ∃ k : Nat, k ≤ N ∧ v5 = .int .i64 k ∧ (∀ j (j1 : j < v.list.length), j < k → v.list[j].kind = el) ∧ Below w.heap.size w wr) (fun v5 _ => N - (intOf v5).toNat)
  case atStart => exact ⟨0, Nat.zero_le _, rfl, fun j _ h => by omega, Below.refl _ _⟩
  case round =>
    obtain ⟨k, hk', rfl, hsame, hbw⟩ := hrel
    have HR := Lib.hid (And.intro hsame hbw)
    clear hsame hbw
    by_cases hkN : (k : Int) < N
    · have ka : k < v.list.length := by rw [HN.out]; omega
      obtain ⟨b1, o1, rfl⟩ := h3 (by omega)
      obtain ⟨ta, hta, hia⟩ := (HV.out.blw HR.out.2).part rfl ka
      obtain ⟨c0, c1, c2, c3, c4⟩ := part_cells hta
      have hcl := unlike_any v.list[k] ta wr bx el hia (bs_cellV HR.out.2 HC.out)
      have HS := Lib.hid (show v.list[k].kind = el → ∀ j (j1 : j < v.list.length), j < k + 1 → v.list[j].kind = el from fun he j j1 hj => by
        by_cases e : j = k
        · subst e; exact he
        · exact HR.out.1 j j1 (by omega))
      have HF := Lib.hid (show v.list[k].kind ≠ el → ¬ Alike v el from fun he q => he (q _ (List.getElem_mem ka)))
      generalize v.list[k] = y at *
      obtain ⟨pa, ca, hsa, _⟩ := hia.slice
      subst hsa
      obtain ⟨na, hna⟩ : ∃ na, y.list.length = na := ⟨_, rfl⟩
      rw [hna] at c3 hcl
      clear hta hia hna
      by_cases hz : y.kind = el
      · have hzz : (y.kind != el) = false := by simpa using hz
        rw [hzz] at hcl
        have HS2 := Lib.hid (HS.out hz)
        clear hzz hz
        have HCL := Lib.hid hcl
        clear hcl
        go_wp2_with fail
        refine HCL.out.mono ?_
        rintro e w1 ⟨rfl, hb1⟩
        have HB1 := Lib.hid (HR.out.2.trans (hb1.mono HR.out.2.size))
        clear hb1 c0 c1 c2 c3 c4
        go_wp2_with fail
        go_roundw
        case rel => exact ⟨k + 1, by omega, by go_num, HS2.out, HB1.out⟩
        case measure => simp [intOf]; omega
      · have hzz : (y.kind != el) = true := by simpa using hz
        rw [hzz] at hcl
        have HF2 := Lib.hid (HF.out hz)
        clear hzz hz
        have HCL := Lib.hid hcl
        clear hcl
        go_wp2_with fail
        refine HCL.out.mono ?_
        rintro e w1 ⟨rfl, hb1⟩
        have HB1 := Lib.hid (HR.out.2.trans (hb1.mono HR.out.2.size))
        clear hb1 c0 c1 c2 c3 c4
        go_wp2_with fail
        go_ret
        exact ⟨k, rfl, ⟨fun _ => HF2.out, fun _ => by omega⟩, HB1.out⟩
    · have HE := Lib.hid (show Alike v el from fun x hx => by
        obtain ⟨j, hj, rfl⟩ := List.getElem_of_mem hx
        exact HR.out.1 j hj (by have := HN.out; omega))
      go_wp2_with fail
      go_ret
      exact ⟨-1, rfl, ⟨fun q => by omega, fun q => (q HE.out).elim⟩, HR.out.2⟩

set_option maxRecDepth 20000 in
set_option maxHeartbeats 4000000 in
theorem contains_any (v : V) (w : World) (s : Value) (bx : Nat) (el : Int) (h : VIn w v s) (hc : w.cell? ⟨bx, 4, none⟩ = some (.int .i64 el)) :
    Calls Tryz.prog 104 #[s, .func (.func 105) #[] #[.pointer (some ⟨bx, 0, none⟩)]] w fun e w' => e = .returned (.bool (decide (¬ Alike v el))) ∧ Below w.heap.size w w' := by
  have hc := index_any v w s bx el h hc
  obtain ⟨p, c, hs, h1, h2, h3⟩ := h.slice
  subst hs
  clear h
  go_enter Tryz.func104, Tryz.ntmps104
  go_wp2_with fail
  refine hc.mono ?_
  clear hc
  rintro e w1 ⟨m, rfl, hm, hb1⟩
  have HM := Lib.hid (And.intro hm hb1)
  clear hm hb1
  go_wp2_with fail
  all_goals
    go_ret
    refine ⟨ret_boolV ?_, HM.out.2⟩
    rw [Bool.eq_iff_iff]
    simp only [decide_eq_true_eq, ← HM.out.1]

set_option maxRecDepth 20000 in
set_option maxHeartbeats 4000000 in
theorem isArray_any (v : V) (w : World) (s : Value) (h : VIn w v s) :
    Calls Tryz.prog 74 #[.agg #[.int .i64 v.kind, .int .u64 v.num, .string v.text, s, .int .i64 v.elem]] w fun e w' => e = .returned (.bool (arrOk v)) ∧ Below w.heap.size w w' := by
  obtain ⟨p, c, hs, h1, h2, h3⟩ := h.slice
  obtain ⟨N, hN⟩ : ∃ N, v.list.length = N := ⟨_, rfl⟩
  rw [hN] at hs h1 h3
  subst hs
  unfold maxLen at h2
  obtain ⟨D, hD⟩ : ∃ D, arrOk v = D := ⟨_, rfl⟩
  rw [hD]
  have HD := Lib.hid hD
  have HV := Lib.hid h
  have HN := Lib.hid hN
  have hmf : ∀ (fn : Fn) (first cap : Array Value) (w : World), (Instr.makeFunc fn first cap).run Tryz.prog w = .ok (.func fn first cap) w := fun _ _ _ _ => rfl
  clear h hN hD
  go_enter Tryz.func74, Tryz.ntmps74
  go_upto_region 1 with fail
  have hb0 : Below w.heap.size w (w.alloc (.cells #[.int .i64 v.kind, .int .u64 v.num, .string v.text, (.slice p N c), .int .i64 v.elem] 25)) := ((Below.refl _ _).alloc (Nat.le_refl _) _)
  have ox := _root_.Go.heap_alloc_new w (.cells #[.int .i64 v.kind, .int .u64 v.num, .string v.text, (.slice p N c), .int .i64 v.elem] 25)
  generalize (w.alloc (.cells #[.int .i64 v.kind, .int .u64 v.num, .string v.text, (.slice p N c), .int .i64 v.elem] 25)) = w0 at *
  obtain ⟨x, hx⟩ : ∃ x, w.heap.size = x := ⟨_, rfl⟩
  rw [hx] at ox ⊢
  have HB0 := Lib.hid hb0
  have HOx := Lib.hid ox
  clear hb0 ox hx
  have x3 : w0.cell? ⟨x, 3, none⟩ = some (.slice p N c) := (cell_of_row _ _ 3 _ _ _ HOx.out).trans rfl
  have x4 : w0.cell? ⟨x, 4, none⟩ = some (.int .i64 v.elem) := (cell_of_row _ _ 4 _ _ _ HOx.out).trans rfl
  have hcon := contains_any v w0 _ x v.elem (HV.out.blw HB0.out) x4
  have HC := Lib.hid hcon
  clear hcon
  by_cases e1 : v.elem ≤ 0
  · have HDX := Lib.hid (show D = false by rw [← HD.out]; exact decide_eq_false (fun q => by omega))
    go_wp2_with fail
    all_goals
      go_ret
      exact ⟨by rw [HDX.out]; rfl, HB0.out⟩
  · by_cases e2 : 24 ≤ v.elem
    · have HDX := Lib.hid (show D = false by rw [← HD.out]; exact decide_eq_false (fun q => by omega))
      go_wp2_with fail
      all_goals
        go_ret
        exact ⟨by rw [HDX.out]; rfl, HB0.out⟩
    · have HDX := Lib.hid (show D = !(decide (¬ Alike v v.elem)) by
        rw [← HD.out, Bool.eq_iff_iff]
        simp only [arrOk, decide_eq_true_eq, Bool.not_eq_true', decide_eq_false_iff_not, Classical.not_not]
        exact ⟨fun q => q.2.2, fun q => ⟨by omega, by omega, q⟩⟩)
      have hz : ∃ z, decide (¬ Alike v v.elem) = z := ⟨_, rfl⟩
      obtain ⟨z, hz⟩ := hz
      have HZ := Lib.hid hz
      have hcon := HC.out
      rw [hz] at hcon
      have HC2 := Lib.hid hcon
      clear hz hcon
      go_wp2_with fail
      refine HC2.out.mono ?_
      rintro e w1 ⟨rfl, hb1⟩
      have HB1 := Lib.hid (HB0.out.trans (hb1.mono HB0.out.size))
      clear hb1 x3 x4
      go_wp2_with fail
      all_goals
        go_ret
        exact ⟨by rw [HDX.out, HZ.out]; first | rfl | simp_all, HB1.out⟩


def Turn (l : Nat) (W W' : World) : Prop := W.grownBy W' (some l) ∧ W'.heap.size = W.heap.size

theorem turn_putObj (W : World) (l : Nat) (o : Obj) : Turn l W (W.putObj l o) := ⟨grownBy_putObj' W l o, by simp [World.putObj]⟩

structure LoopBook (D l : Nat) where
  rdy : World → Prop
  busy : World → Prop
  fin : Code → World → Prop
  keepR : ∀ A B, rdy A → B.heap[D]? = A.heap[D]? → B.heap[l]? = A.heap[l]? → rdy B
  keepB : ∀ A B, busy A → B.heap[D]? = A.heap[D]? → B.heap[l]? = A.heap[l]? → busy B
  keepF : ∀ c A B, fin c A → B.heap[D]? = A.heap[D]? → B.heap[l]? = A.heap[l]? → fin c B
  rdyN : ∀ A, rdy A → (∃ o, A.heap[D]? = some o ∧ o.isCells = false) ∧ (∃ o, A.heap[l]? = some o ∧ o.isCells = false)
  busyN : ∀ A, busy A → (∃ o, A.heap[D]? = some o ∧ o.isCells = false) ∧ (∃ o, A.heap[l]? = some o ∧ o.isCells = false)
  finN : ∀ c A, fin c A → (∃ o, A.heap[D]? = some o ∧ o.isCells = false) ∧ (∃ o, A.heap[l]? = some o ∧ o.isCells = false)

def bodyP {D l : Nat} (K : LoopBook D l) (I : World → Prop) (Ix : Code → World → Prop) : Exit → Act → World → Prop
  | .normal, _, W => K.busy W ∧ I W
  | .ret, _, W => K.busy W ∧ Ix .ret W
  | .exit id, _, W => K.busy W ∧ Ix (.exit id) W
  | .goto t, _, W => K.busy W ∧ Ix (.goto t) W
  | .panic _, _, _ => False
  | .outgrown, _, _ => False

def RoundOf {D l : Nat} (P : Program) (K : LoopBook D l) (tmps : Array Value) (ps : Array Tmp) (assign body : Code) (xs : Array Value) (W : World) (I : World → Prop) (Ix : Code → World → Prop) : Prop :=
  assign.wpIn (Fence.wide.inRound l) 3 P (Exit.then (fun a' Wa => K.rdy Wa ∧ ∀ Wb, Turn l Wa Wb → K.busy Wb → body.wpIn (Fence.wide.inRound l) 3 P (bodyP K I Ix) a' Wb) (fun _ _ _ => False))
    { tmps := (ps.zip xs).foldl (fun t (p, v) => t.setIfInBounds p v) tmps, defers := [] } W

def YieldOf {D l : Nat} (K : LoopBook D l) (I : World → Prop) (Ix : Code → World → Prop) (e : Ending) (W' : World) : Prop :=
  (e = .returned (.bool true) ∧ K.rdy W' ∧ ∃ W3, I W3 ∧ Turn l W3 W') ∨ (e = .returned (.bool false) ∧ ∃ c, K.fin c W' ∧ ∃ W3, Ix c W3 ∧ Turn l W3 W')

theorem wp_rangeFunc_any {P : Program} {g : Operand} {ps : Array Tmp} {assign body : Code} {Q : Exit → Act → World → Prop} {a : Act} {w : World} {gf : Nat} {lb : Array Value}
    (hg : a.eval g = .func (.func gf) #[] lb) (eg : ∀ args w, (callFunc gf args).run P w = .ok (.enter gf args) w)
    (hseq : ∀ (K : LoopBook w.heap.size (w.heap.size + 1)) (W1 : World), w.grownBy W1 none → W1.heap.size = w.heap.size + 2 → K.rdy W1 →
      (∀ (xs : Array Value) (W : World) (I : World → Prop) (Ix : Code → World → Prop), xs.size = ps.size → K.rdy W → RoundOf P K a.tmps ps assign body xs W I Ix →
        YieldAt Fence.wide 3 P (w.heap.size + 1) xs W (YieldOf K I Ix)) →
      Calls P gf (#[.func (.yield (w.heap.size + 1)) #[] #[]] ++ lb) W1 fun e W2 => (∃ v, e = .returned v) ∧
        ((K.rdy W2 ∧ ∀ W3, Turn (w.heap.size + 1) W2 W3 → W3.heap[w.heap.size]? = some (.deferred (some [])) → Q .normal { a with defers := { target := .collected w.heap.size, args := #[] } :: a.defers } W3) ∨
         (∃ c, K.fin c W2 ∧ ∀ W3, Turn (w.heap.size + 1) W2 W3 → W3.heap[w.heap.size]? = some (.deferred (some [])) → c.wp P Q { a with defers := { target := .collected w.heap.size, args := #[] } :: a.defers } W3))) :
    (Code.rangeFunc g ps assign body).wp P Q a w := by
  refine (wpIn_wide (n := 5)).1 ?_
  refine wpIn_rangeFunc ?_
  intro fn hfn
  obtain ⟨rec, hrec⟩ : ∃ rec : LoopState → Option Code → Loop, rec = fun st pe => { state := st, pending := pe, fn, tmps := a.tmps, params := ps, assign, body, defers := w.heap.size } := ⟨_, rfl⟩
  obtain ⟨W1, hW1⟩ : ∃ W1, (w.alloc (.deferred (some []))).alloc (.loop (rec .ready none)) = W1 := ⟨_, rfl⟩
  have hL1 : W1.heap[w.heap.size + 1]? = some (.loop (rec .ready none)) := by
    rw [← hW1]; have := World.alloc_heap_new (w.alloc (.deferred (some []))) (.loop (rec .ready none)); rwa [World.size_alloc] at this
  have hK1 : W1.heap[w.heap.size]? = some (.deferred (some [])) := by
    rw [← hW1]; exact (Below.heap_alloc _ _ _ (by simp)).trans (World.alloc_heap_new w _)
  have hg1 : w.grownBy W1 none := by
    have hb : Below w.heap.size w W1 := by rw [← hW1]; exact ((Below.refl _ w).alloc (Nat.le_refl _) _).alloc (by simp) _
    exact ⟨hb.os, hb.tape, hb.output, hb.size, fun k hk _ => hb.block k hk⟩
  have hs1 : W1.heap.size = w.heap.size + 2 := by rw [← hW1]; simp
  refine ⟨w.heap.size + 1, [{ target := .collected w.heap.size, args := #[] }], W1, { target := .fn (.func gf) lb, args := #[.func (.yield (w.heap.size + 1)) #[] #[]] }, W1, gf,
    #[.func (.yield (w.heap.size + 1)) #[] #[]] ++ lb, W1, ?_, ?_, ?_, ?_, fun _ => by omega, ?_⟩
  · rw [← hW1, hrec]; exact run_enterLoop_outer _ _ _ _ _
  · simp only [resolve, hg]
    simp [go_sem]
  · intro f' hf'; trivial
  · simp [invoke, go_sem, eg]
  · obtain ⟨Rd, hRd⟩ : ∃ Rd : World → Prop, Rd = fun W => W.heap[w.heap.size + 1]? = some (.loop (rec .ready none)) ∧ W.heap[w.heap.size]? = some (.deferred (some [])) := ⟨_, rfl⟩
    obtain ⟨Bs, hBs⟩ : ∃ Bs : World → Prop, Bs = fun W => W.heap[w.heap.size + 1]? = some (.loop { rec .ready none with state := .busy }) ∧ W.heap[w.heap.size]? = some (.deferred (some [])) := ⟨_, rfl⟩
    obtain ⟨Fn_, hFn⟩ : ∃ Fn_ : Code → World → Prop, Fn_ = fun c W => W.heap[w.heap.size + 1]? = some (.loop (rec .done (some c))) ∧ W.heap[w.heap.size]? = some (.deferred (some [])) := ⟨_, rfl⟩
    let K : LoopBook w.heap.size (w.heap.size + 1) := {
      rdy := Rd, busy := Bs, fin := Fn_
      keepR := fun A B h h1 h2 => by subst hRd; exact ⟨h2.trans h.1, h1.trans h.2⟩
      keepB := fun A B h h1 h2 => by subst hBs; exact ⟨h2.trans h.1, h1.trans h.2⟩
      keepF := fun c A B h h1 h2 => by subst hFn; exact ⟨h2.trans h.1, h1.trans h.2⟩
      rdyN := fun A h => by subst hRd; exact ⟨⟨_, h.2, rfl⟩, ⟨_, h.1, rfl⟩⟩
      busyN := fun A h => by subst hBs; exact ⟨⟨_, h.2, rfl⟩, ⟨_, h.1, rfl⟩⟩
      finN := fun c A h => by subst hFn; exact ⟨⟨_, h.2, rfl⟩, ⟨_, h.1, rfl⟩⟩ }
    have hcall := hseq K W1 hg1 hs1 (by show Rd W1; subst hRd; exact ⟨hL1, hK1⟩) (by
      intro xs W I Ix hxs hrd hro
      have hrd' : Rd W := hrd
      rw [hRd] at hrd'
      obtain ⟨hl, hk⟩ := hrd'
      have hy := run_yield (P := P) (args := xs) hl (by rw [hrec]; exact hxs)
      rw [hrec] at hy
      refine ⟨fn, _, assign, body, hy, roundIn_of_wpIn trivial (wpIn_mono hro ?_)⟩
      rintro e a3 W3 hp
      cases e with
      | normal =>
        obtain ⟨hrd3, hb3⟩ := hp
        have hrd3' : Rd W3 := hrd3
        rw [hRd] at hrd3'
        obtain ⟨hl3, hk3⟩ := hrd3'
        have hlt : w.heap.size + 1 < W3.heap.size := (Array.getElem?_eq_some_iff.1 hl3).1
        refine ⟨_, run_beginRound hl3 (by rw [hrec]), ?_⟩
        have hl4 : (W3.putObj (w.heap.size + 1) (.loop { rec .ready none with state := .busy })).heap[w.heap.size + 1]? = some (.loop { rec .ready none with state := .busy }) := World.putObj_heap_same hlt
        have hk4 : (W3.putObj (w.heap.size + 1) (.loop { rec .ready none with state := .busy })).heap[w.heap.size]? = some (.deferred (some [])) := (World.putObj_heap_other (by omega)).trans hk3
        refine wpIn_mono (hb3 _ (turn_putObj _ _ _) (by show Bs _; subst hBs; exact ⟨hl4, hk4⟩)) ?_
        have fin : ∀ (jump : Option Code) (W5 : World), Bs W5 →
            (Instr.endRound (w.heap.size + 1) jump).run P W5 = .ok (.bool jump.isNone) (W5.putObj (w.heap.size + 1) (.loop (rec (if jump.isNone then .ready else .done) jump))) ∧
            (W5.putObj (w.heap.size + 1) (.loop (rec (if jump.isNone then .ready else .done) jump))).heap[w.heap.size + 1]? = some (.loop (rec (if jump.isNone then .ready else .done) jump)) ∧
            (W5.putObj (w.heap.size + 1) (.loop (rec (if jump.isNone then .ready else .done) jump))).heap[w.heap.size]? = some (.deferred (some [])) := fun jump W5 hb5 => by
          rw [hBs] at hb5
          obtain ⟨hl5, hk5⟩ := hb5
          have := run_endRound (P := P) jump hl5
          rw [hrec] at this ⊢
          exact ⟨this, World.putObj_heap_same (Array.getElem?_eq_some_iff.1 hl5).1, (World.putObj_heap_other (by omega)).trans hk5⟩
        rintro e a5 W5 hp
        cases e with
        | normal =>
          obtain ⟨hb5, hi5⟩ := hp
          obtain ⟨hr, hl6, hk6⟩ := fin none W5 hb5
          exact ⟨_, _, hr, .inl ⟨rfl, by show Rd _; subst hRd; exact ⟨hl6, hk6⟩, W5, hi5, turn_putObj _ _ _⟩⟩
        | ret =>
          obtain ⟨hb5, hi5⟩ := hp
          obtain ⟨hr, hl6, hk6⟩ := fin (some .ret) W5 hb5
          exact ⟨_, _, hr, .inr ⟨rfl, .ret, by show Fn_ _ _; subst hFn; exact ⟨hl6, hk6⟩, W5, hi5, turn_putObj _ _ _⟩⟩
        | exit id =>
          obtain ⟨hb5, hi5⟩ := hp
          obtain ⟨hr, hl6, hk6⟩ := fin (some (.exit id)) W5 hb5
          exact ⟨_, _, hr, .inr ⟨rfl, .exit id, by show Fn_ _ _; subst hFn; exact ⟨hl6, hk6⟩, W5, hi5, turn_putObj _ _ _⟩⟩
        | goto t =>
          obtain ⟨hb5, hi5⟩ := hp
          obtain ⟨hr, hl6, hk6⟩ := fin (some (.goto t)) W5 hb5
          exact ⟨_, _, hr, .inr ⟨rfl, .goto t, by show Fn_ _ _; subst hFn; exact ⟨hl6, hk6⟩, W5, hi5, turn_putObj _ _ _⟩⟩
        | panic ch => exact hp.elim
        | outgrown => exact hp.elim
      | ret => exact hp.elim
      | exit id => exact hp.elim
      | goto t => exact hp.elim
      | panic ch => exact hp.elim
      | outgrown => exact hp.elim)
    refine (callsIn_wide.2 hcall).mono ?_
    rintro e W2 ⟨⟨v, rfl⟩, (⟨hrd, hq⟩ | ⟨c, hfi, hq⟩)⟩
    · have hrd' : Rd W2 := hrd
      rw [hRd] at hrd'
      obtain ⟨hl, hk⟩ := hrd'
      exact ⟨none, _, by have := run_endLoop (P := P) hl (by rw [hrec]; simp); rw [hrec] at this; exact this, hq _ (turn_putObj _ _ _) ((World.putObj_heap_other (by omega)).trans hk)⟩
    · have hfi' : Fn_ c W2 := hfi
      rw [hFn] at hfi'
      obtain ⟨hl, hk⟩ := hfi'
      exact ⟨some c, _, by have := run_endLoop (P := P) hl (by rw [hrec]; simp); rw [hrec] at this; exact this, (wpIn_wide (n := 5)).2 (hq _ (turn_putObj _ _ _) ((World.putObj_heap_other (by omega)).trans hk))⟩

mutual
def V.pre : V → Int → List (Int × V)
  | .mk k n t l e, d => (d, .mk k n t l e) :: pres l (d + 1)
def pres : List V → Int → List (Int × V)
  | [], _ => []
  | v :: r, d => v.pre d ++ pres r d
end
theorem V.pre_eq (v : V) (d : Int) : v.pre d = (d, v) :: pres v.list (d + 1) := by cases v; rw [V.pre]; rfl
theorem pres_take (l : List V) (d : Int) {i : Nat} (h : i < l.length) : pres (l.take (i + 1)) d = pres (l.take i) d ++ l[i].pre d := by
  induction l generalizing i with
  | nil => simp at h
  | cons a r ih =>
    cases i with
    | zero => simp [pres]
    | succ i =>
      have h2 : i < r.length := by simpa using h
      simp only [List.take_succ_cons, pres, List.getElem_cons_succ, List.append_assoc, ih h2]
theorem pres_split (l : List V) (d : Int) (i : Nat) : pres l d = pres (l.take i) d ++ pres (l.drop i) d := by
  induction l generalizing i with
  | nil => simp [pres]
  | cons a r ih =>
    cases i with
    | zero => simp [pres]
    | succ i => simp only [List.take_succ_cons, List.drop_succ_cons, pres, List.append_assoc, ← ih]

def Rd (w W : World) : Prop := ∀ (b i : Nat) (u : Value), w.cell? ⟨b, i, none⟩ = some u → W.cell? ⟨b, i, none⟩ = some u
theorem VIn.rd {w W : World} {v : V} {s : Value} (h : VIn w v s) (hr : Rd w W) : VIn W v s := by
  induction h with
  | mk v p c ss wf hc hm ha hcell hin ih =>
    exact .mk v p c ss wf hc hm ha (fun b o e i hi j u hu => hr _ _ _ (hcell b o e i hi j u hu)) ih
theorem rd_below {w W : World} (h : Below w.heap.size w W) : Rd w W := fun b i u hc => bs_cellV h hc
theorem Rd.trans {w W W' : World} (h : Rd w W) (h' : Rd W W') : Rd w W' := fun b i u hc => h' b i u (h b i u hc)
theorem rangeAt_rd {w W : World} {b o : Nat} {l : List Value} (h : w.rangeAt b o l) (hr : Rd w W) : W.rangeAt b o l := fun j u hu => hr _ _ _ (h j u hu)

structure KeepW (O : Nat → Prop) (W : World) (O2 : Nat → Prop) (W2 : World) : Prop where
  os : W2.os = W.os
  tape : W2.tape = W.tape
  output : W2.output = W.output
  size : W.heap.size ≤ W2.heap.size
  block : ∀ j, j < W.heap.size → ¬ O j → W2.heap[j]? = W.heap[j]?
  own : ∀ j, O2 j → O j ∨ W.heap.size ≤ j
theorem KeepW.trans {O O2 O3 : Nat → Prop} {W W2 W3 : World} (h : KeepW O W O2 W2) (h' : KeepW O2 W2 O3 W3) : KeepW O W O3 W3 := by
  refine ⟨h'.os.trans h.os, h'.tape.trans h.tape, h'.output.trans h.output, Nat.le_trans h.size h'.size, fun j hj ho => (h'.block j (Nat.lt_of_lt_of_le hj h.size) (fun q => ?_)).trans (h.block j hj ho), fun j hj => ?_⟩
  · rcases h.own j q with r | r
    · exact ho r
    · omega
  · have := h.size
    rcases h'.own j hj with r | r
    · exact h.own j r
    · exact .inr (by omega)
theorem keepW_below {O : Nat → Prop} {W W2 : World} (h : Below W.heap.size W W2) : KeepW O W O W2 := ⟨h.os, h.tape, h.output, h.size, fun j hj _ => h.block j hj, fun j hj => .inl hj⟩

structure RidesW (l : Nat) (w : World) (L : List (Int × V)) (J : Nat → (Nat → Prop) → World → Prop) (Jx : (Nat → Prop) → World → Prop) : Prop where
  reads : ∀ k O W, J k O W → Rd w W
  fresh : ∀ k O W, J k O W → ∀ j, O j → j < W.heap.size
  turn : ∀ k O W W', J k O W → Below W.heap.size W W' → J k O W'
  yields : ∀ k O W d x t, J k O W → L[k]? = some (d, x) → VIn w x t → YieldAt Fence.wide 3 Tryz.prog l #[.int .i64 d, .agg #[.int .i64 x.kind, .int .u64 x.num, .string x.text, t, .int .i64 x.elem]] W fun e W2 =>
    (e = .returned (.bool true) ∧ ∃ O2, J (k + 1) O2 W2 ∧ KeepW O W O2 W2) ∨ (e = .returned (.bool false) ∧ ∃ O2, Jx O2 W2 ∧ KeepW O W O2 W2)
def WalkEnd (J : Nat → (Nat → Prop) → World → Prop) (Jx : (Nat → Prop) → World → Prop) (k : Nat) (O : Nat → Prop) (W : World) (e : Ending) (W' : World) : Prop :=
  (e = .returned (.bool true) ∧ ∃ O2, J k O2 W' ∧ KeepW O W O2 W') ∨ (e = .returned (.bool false) ∧ ∃ O2, Jx O2 W' ∧ KeepW O W O2 W')

set_option maxRecDepth 20000 in
set_option maxHeartbeats 4000000 in
theorem walk_in {l : Nat} {w : World} {L : List (Int × V)} {J : Nat → (Nat → Prop) → World → Prop} {Jx : (Nat → Prop) → World → Prop} (hR : RidesW l w L J Jx) : ∀ (v : V) (d : Int) (s : Value) (k : Nat) (O : Nat → Prop) (W : World),
    VIn w v s → J k O W → (∀ i, i < (v.pre d).length → L[k + i]? = (v.pre d)[i]?) → 0 ≤ d → d + v.wt ≤ 4611686018427387904 →
    Calls Tryz.prog 69 #[.agg #[.int .i64 v.kind, .int .u64 v.num, .string v.text, s, .int .i64 v.elem], .int .i64 d, .func (.yield l) #[] #[]] W (WalkEnd J Jx (k + (v.pre d).length) O W) := by
  refine V.ind (fun v ih d s k O W h hJ hL hd0 hd1 => ?_)
  obtain ⟨p, c, hs, h1, h2, h3⟩ := h.slice
  obtain ⟨N, hN⟩ : ∃ N, v.list.length = N := ⟨_, rfl⟩
  rw [hN] at hs h1 h3
  subst hs
  unfold maxLen at h2
  have HI := Lib.hid ih
  have HN := Lib.hid hN
  have HV := Lib.hid h
  have HJ := Lib.hid hJ
  have HL := Lib.hid hL
  have HD := Lib.hid hd1
  have HR := Lib.hid hR
  have hd2 : d + 1 ≤ 9223372036854775807 := by omega
  obtain ⟨K, hK⟩ : ∃ K, k + (v.pre d).length = K := ⟨_, rfl⟩
  have HK := Lib.hid hK
  rw [hK]
  clear ih h hN hJ hL hd1 hR hK
  go_enter Tryz.func69, Tryz.ntmps69
  go_upto_region 1 with fail
  have hb0 : Below W.heap.size W (W.alloc (.cells #[.int .i64 v.kind, .int .u64 v.num, .string v.text, (.slice p N c), .int .i64 v.elem] 25)) := ((Below.refl _ _).alloc (Nat.le_refl _) _)
  have ox := _root_.Go.heap_alloc_new W (.cells #[.int .i64 v.kind, .int .u64 v.num, .string v.text, (.slice p N c), .int .i64 v.elem] 25)
  generalize (W.alloc (.cells #[.int .i64 v.kind, .int .u64 v.num, .string v.text, (.slice p N c), .int .i64 v.elem] 25)) = w0 at *
  obtain ⟨x, hx⟩ : ∃ x, W.heap.size = x := ⟨_, rfl⟩
  have HX0 := Lib.hid hx
  rw [hx] at ox ⊢
  have HB0 := Lib.hid hb0
  have HOx := Lib.hid ox
  clear hb0 ox hx
  have x0 : w0.cell? ⟨x, 0, none⟩ = some (.int .i64 v.kind) := (cell_of_row _ _ 0 _ _ _ HOx.out).trans rfl
  have x1 : w0.cell? ⟨x, 1, none⟩ = some (.int .u64 v.num) := (cell_of_row _ _ 1 _ _ _ HOx.out).trans rfl
  have x2 : w0.cell? ⟨x, 2, none⟩ = some (.string v.text) := (cell_of_row _ _ 2 _ _ _ HOx.out).trans rfl
  have x3 : w0.cell? ⟨x, 3, none⟩ = some (.slice p N c) := (cell_of_row _ _ 3 _ _ _ HOx.out).trans rfl
  have x4 : w0.cell? ⟨x, 4, none⟩ = some (.int .i64 v.elem) := (cell_of_row _ _ 4 _ _ _ HOx.out).trans rfl
  have HX : Hid (W.heap.size = x ∧ x < w0.heap.size) := Lib.hid ⟨HX0.out, (Array.getElem?_eq_some_iff.1 HOx.out).1⟩
  have hJ0 := HR.out.turn k O W w0 HJ.out HB0.out
  have h0 : L[k]? = some (d, v) := by
    have := HL.out 0 (by rw [V.pre_eq]; simp)
    rw [V.pre_eq] at this
    simpa using this
  have hyl := HR.out.yields k O w0 d v _ hJ0 h0 HV.out
  obtain ⟨fn, tmps, assign, body, hyy, hRd⟩ := hyl
  have HRd := Lib.hid hRd
  clear hRd hJ0 h0
  refine (wpIn_wide (n := 4)).1 ?_
  gi_wp2
  refine HRd.out.mono ?_
  rintro e W2 (⟨rfl, O2, hj2, hk2⟩ | ⟨rfl, O2, hj2, hk2⟩)
  · have HK2 := Lib.hid ((keepW_below (O := O) HB0.out).trans hk2)
    have HJ2 := Lib.hid hj2
    have hxo : ¬ O2 x := fun q => by
      have h1 := HX.out
      rcases HK2.out.own x q with r | r
      · have := HR.out.fresh k O W HJ.out x r; omega
      · rcases hk2.own x q with r2 | r2
        · have := HR.out.fresh k O W HJ.out x r2; omega
        · omega
    have hxb : W2.heap[x]? = _ := (hk2.block x HX.out.2 (fun q => by have := HR.out.fresh k O W HJ.out x q; have := HX.out.1; omega)).trans HOx.out
    have c3 : W2.cell? ⟨x, 3, none⟩ = some (.slice p N c) := (cell_of_row _ _ 3 _ _ _ hxb).trans rfl
    clear hj2 hk2 hxb hxo x0 x1 x2 x3 x4 hyy
    gi_wp2
    go_wp2_with fail
    go_loopw [17] (fun v5 wr => ∃ (i : Nat) (O3 : Nat → Prop), i ≤ N ∧ v5 = .int .i64 i ∧ J (k + 1 + (pres (v.list.take i) (d + 1)).length) O3 wr ∧ KeepW O W O3 wr) (fun v5 _ => N - (intOf v5).toNat)
    case atStart => exact ⟨0, O2, Nat.zero_le _, rfl, by rw [List.take_zero]; exact HJ2.out, HK2.out⟩
    case round =>
      obtain ⟨i, O3, hi, rfl, hj3, hk3⟩ := hrel
      have HR3 := Lib.hid (And.intro hj3 hk3)
      clear hj3 hk3 c3
      by_cases hkN : (i : Int) < N
      · have ka : i < v.list.length := by rw [HN.out]; omega
        obtain ⟨b1, o1, rfl⟩ := h3 (by omega)
        obtain ⟨ta, hta, hia⟩ := HV.out.part rfl ka
        obtain ⟨pa, ca, hsa, _⟩ := hia.slice
        subst hsa
        obtain ⟨c0, c1, c2, c3, c4⟩ := part_cells (rangeAt_rd hta (HR.out.reads _ _ _ HR3.out.1))
        have htk := pres_take v.list (d + 1) ka
        have hwt := V.wt_lt (List.getElem_mem ka)
        have hIH := HI.out _ (List.getElem_mem ka) (d + 1) (.slice pa v.list[i].list.length ca) (k + 1 + (pres (v.list.take i) (d + 1)).length) O3
        have hseg : ∀ j, j < (v.list[i].pre (d + 1)).length → L[k + 1 + (pres (v.list.take i) (d + 1)).length + j]? = (v.list[i].pre (d + 1))[j]? := by
          intro j hj
          have hsp := pres_split v.list (d + 1) (i + 1)
          rw [htk] at hsp
          have hlen : (v.pre d).length = 1 + ((pres (v.list.take i) (d + 1)).length + (v.list[i].pre (d + 1)).length + (pres (v.list.drop (i + 1)) (d + 1)).length) := by
            rw [V.pre_eq, hsp]; simp only [List.length_cons, List.length_append]; omega
          have := HL.out (1 + (pres (v.list.take i) (d + 1)).length + j) (by omega)
          rw [show k + 1 + (pres (v.list.take i) (d + 1)).length + j = k + (1 + (pres (v.list.take i) (d + 1)).length + j) by omega, this, V.pre_eq, hsp,
            show 1 + (pres (v.list.take i) (d + 1)).length + j = ((pres (v.list.take i) (d + 1)).length + j) + 1 by omega, List.getElem?_cons_succ, List.append_assoc,
            List.getElem?_append_right (by omega), Nat.add_sub_cancel_left, List.getElem?_append_left hj]
        have hnext : k + 1 + (pres (v.list.take i) (d + 1)).length + (v.list[i].pre (d + 1)).length = k + 1 + (pres (v.list.take (i + 1)) (d + 1)).length := by rw [htk, List.length_append]; omega
        obtain ⟨ya, hya⟩ : ∃ ya, v.list[i] = ya := ⟨_, rfl⟩
        rw [hya] at c0 c1 c2 c3 c4 hia hIH hseg hnext hwt
        have hIH2 := fun W hJ => hIH W hia hJ hseg (by omega) (by have := HD.out; omega)
        rw [hnext] at hIH2
        obtain ⟨na, hna⟩ : ∃ na, ya.list.length = na := ⟨_, rfl⟩
        rw [hna] at c3 hIH2
        have HIH := Lib.hid hIH2
        clear hta hia hya hna htk hIH hseg hnext hwt hIH2
        go_upto_region 6 with (refine wpList_store_rowTo rfl 25 (.tmp 8) (.tmp 20) rfl rfl wr.heap.size #[.int .i64 ya.kind, .int .u64 ya.num, .string ya.text, (.slice pa na ca), .int .i64 ya.elem] rfl rfl 25 zR (_root_.Go.heap_alloc_new wr _) (by as_aux_lemma => kernel_rfl) (by as_aux_lemma => kernel_rfl) (by simp [Value.oneCell']) ?_)
        have hb_w1 : Below wr.heap.size wr ((wr.alloc (.cells zR 25)).setRow wr.heap.size #[.int .i64 ya.kind, .int .u64 ya.num, .string ya.text, (.slice pa na ca), .int .i64 ya.elem]) := below_setRow ((Below.refl _ _).alloc (Nat.le_refl _) _) (Nat.le_refl _) _
        have oy := setRow_heap (wr.alloc (.cells zR 25)) wr.heap.size _ #[.int .i64 ya.kind, .int .u64 ya.num, .string ya.text, (.slice pa na ca), .int .i64 ya.elem] _ _ (_root_.Go.heap_alloc_new wr _)
        change Code.wp _ _ _ _ ((wr.alloc (.cells zR 25)).setRow wr.heap.size #[.int .i64 ya.kind, .int .u64 ya.num, .string ya.text, (.slice pa na ca), .int .i64 ya.elem])
        generalize ((wr.alloc (.cells zR 25)).setRow wr.heap.size #[.int .i64 ya.kind, .int .u64 ya.num, .string ya.text, (.slice pa na ca), .int .i64 ya.elem]) = w1 at *
        obtain ⟨y, hx_y⟩ : ∃ x, wr.heap.size = x := ⟨_, rfl⟩
        rw [hx_y] at oy ⊢
        clear hx_y
        have y0 : w1.cell? ⟨y, 0, none⟩ = some (.int .i64 ya.kind) := (cell_of_row _ _ 0 _ _ _ oy).trans rfl
        have y1 : w1.cell? ⟨y, 1, none⟩ = some (.int .u64 ya.num) := (cell_of_row _ _ 1 _ _ _ oy).trans rfl
        have y2 : w1.cell? ⟨y, 2, none⟩ = some (.string ya.text) := (cell_of_row _ _ 2 _ _ _ oy).trans rfl
        have y3 : w1.cell? ⟨y, 3, none⟩ = some (.slice pa na ca) := (cell_of_row _ _ 3 _ _ _ oy).trans rfl
        have y4 : w1.cell? ⟨y, 4, none⟩ = some (.int .i64 ya.elem) := (cell_of_row _ _ 4 _ _ _ oy).trans rfl
        have hc := HIH.out w1 (HR.out.turn _ _ _ _ HR3.out.1 hb_w1)
        have HB1 := Lib.hid hb_w1
        have HC := Lib.hid hc
        clear hb_w1 oy hc c0 c1 c2 c3 c4
        go_wp2_with fail
        refine HC.out.mono ?_
        rintro e w2 (⟨rfl, O4, hj4, hk4⟩ | ⟨rfl, O4, hj4, hk4⟩)
        · have HR4 := Lib.hid (And.intro hj4 ((HR3.out.2.trans (keepW_below HB1.out)).trans hk4))
          clear hj4 hk4 y0 y1 y2 y3 y4
          go_wp2_with fail
          go_roundw
          case rel => exact ⟨i + 1, O4, by omega, by go_num, HR4.out.1, HR4.out.2⟩
          case measure => simp [intOf]; omega
        · have HR4 := Lib.hid (And.intro hj4 ((HR3.out.2.trans (keepW_below HB1.out)).trans hk4))
          clear hj4 hk4 y0 y1 y2 y3 y4
          go_wp2_with fail
          go_ret
          exact .inr ⟨rfl, O4, HR4.out.1, HR4.out.2⟩
      · have hJK : J K O3 wr := by
          have h1 := HR3.out.1
          rw [List.take_of_length_le (by rw [HN.out]; omega)] at h1
          rw [← HK.out, V.pre_eq, List.length_cons, show k + ((pres v.list (d + 1)).length + 1) = k + 1 + (pres v.list (d + 1)).length by omega]
          exact h1
        have HJK := Lib.hid hJK
        clear hJK
        go_wp2_with fail
        go_ret
        exact .inl ⟨rfl, O3, HJK.out, HR3.out.2⟩
  · have HK2 := Lib.hid (And.intro hj2 ((keepW_below (O := O) HB0.out).trans hk2))
    clear hj2 hk2 x0 x1 x2 x3 x4 hyy
    gi_wp2
    go_wp2_with fail
    go_ret
    exact .inr ⟨rfl, O2, HK2.out.1, HK2.out.2⟩


end Go.Proofs.YtnnnfhobbnjmfaaGreatDoor

namespace Go.Proofs.YtnnnfhobbnjmfaaGreatDoor
open Go.RowKit Go.ChangeShapes Go.WideShapes Go.ChangeAt Go.Deep
set_option linter.all false

theorem vlist5v {l : List Value} (h : l.length = 5) : ∃ a b c d e, l = [a, b, c, d, e] := by
  match l, h with
  | [a, b, c, d, e], _ => exact ⟨a, b, c, d, e, rfl⟩
theorem wf_i64V {n : Int} (h : (Lit.int .i64 n).wf = true) : IsI64 n := by
  obtain ⟨h1, h2⟩ := bd_i64 h
  exact ⟨h1, by omega⟩
theorem wf_u64V {n : Int} (h : (Lit.int .u64 n).wf = true) : IsU64 n := by
  obtain ⟨m, rfl, hm⟩ := bd_u64 h
  exact ⟨by omega, by omega⟩
theorem choose_ltV {α : Type} (d : α) {n : Nat} {p : Nat → α → Prop} (h : ∀ i, i < n → ∃ x, p i x) : ∃ F : Nat → α, ∀ i, i < n → p i (F i) := by
  refine ⟨fun i => if hi : i < n then (h i hi).choose else d, fun i hi => ?_⟩
  simp only [dif_pos hi]
  exact (h i hi).choose_spec

section
variable {H : Type} {enc : TypeId × Value → H} {w : World}

theorem parts_openV {fuel : Nat} {v : Value} {x : DataW H × List MemPlace} (h : DataW.trod enc Tryz.prog w 0 (fun _ => true) true fuel 23 [v] = some x)
    (ih : ∀ n, n < fuel → ∀ cs x, DataW.trod enc Tryz.prog w 0 (fun _ => true) true n 25 cs = some x → ∃ v s, cs = vcells v s ∧ VIn w v s) :
    ∃ (p : Option Addr) (n c : Nat) (l : List V) (ss : Nat → Value), v = .slice p n c ∧ l.length = n ∧ n ≤ c ∧ c ≤ maxLen ∧ (0 < n → ∃ b o, p = some ⟨b, o, none⟩) ∧ (∀ b o, p = some ⟨b, o, none⟩ → ∀ i (hi : i < l.length), w.rangeAt b (o + i * 5) (vcells l[i] (ss i))) ∧ ∀ i (hi : i < l.length), VIn w l[i] (ss i) := by
  rcases DataW.trod_slice Tryz.underlying23 h with ⟨e, _⟩ | ⟨a, len, cap, elems, rest, n, rfl, hcs, _, _, hl, hm, hlen, hel, _, _⟩
  · simp only [List.cons.injEq, and_true] at e
    subst e
    exact ⟨none, 0, 0, [], fun _ => undef, rfl, rfl, Nat.le_refl _, Nat.zero_le _, fun q => by omega, (fun b o e => by cases e), fun i hi => by simp at hi⟩
  · simp only [List.cons.injEq, and_true] at hcs
    subst hcs
    have hc5 : Tryz.prog.cellsOf 25 = 5 := by kernel_rfl
    rw [hc5] at hel
    obtain ⟨F, hF⟩ := choose_ltV (α := V × Value) (default, undef) (n := len) (p := fun i f => w.cells? 0 (a.add (i * 5)) 5 = some (vcells f.1 f.2) ∧ VIn w f.1 f.2) (fun i hi => by
      have hb := hel i hi
      rw [List.getElem?_eq_getElem (by omega)] at hb
      obtain ⟨cs', h1, h2⟩ := Option.bind_eq_some_iff.1 hb
      obtain ⟨v, s, rfl, h3⟩ := ih n (Nat.lt_succ_self n) cs' _ h2
      exact ⟨(v, s), h1, h3⟩)
    have hadd : ∀ (b o' i : Nat), (⟨b, o', none⟩ : Addr).add i = ⟨b, o' + i, none⟩ := fun b o' i => by unfold Addr.add; split <;> simp_all
    refine ⟨some a, len, cap, (List.range len).map fun i => (F i).1, fun i => (F i).2, rfl, by simp, hl, hm, fun hpos => ?_, fun b o e i hi j u hu => ?_, fun i hi => ?_⟩
    · obtain ⟨b, o, spot⟩ := a
      obtain ⟨h1, _⟩ := hF 0 hpos
      obtain ⟨_, _, h0c⟩ := World.cells?_some h1
      have h00 := h0c 0 (by omega)
      have hspot : spot = none := by simpa [Addr.add] using World.cell?_spot (h00.trans rfl)
      subst hspot
      exact ⟨b, o, rfl⟩
    · simp only [Option.some.injEq] at e
      subst e
      have hil : i < len := by simpa using hi
      obtain ⟨h1, _⟩ := hF i hil
      obtain ⟨_, _, h1c⟩ := World.cells?_some h1
      have hj : j < 5 := (List.getElem?_eq_some_iff.1 hu).1
      have := h1c j hj
      rw [hadd, hadd] at this
      rw [this, ← hu]
      simp
    · have hil : i < len := by simpa using hi
      have := (hF i hil).2
      simpa using this

theorem val_open : ∀ (fuel : Nat) (cs : List Value) (x : DataW H × List MemPlace), DataW.trod enc Tryz.prog w 0 (fun _ => true) true fuel 25 cs = some x → ∃ v s, cs = vcells v s ∧ VIn w v s := by
  intro fuel
  induction fuel using Nat.strongRecOn with
  | ind fuel ih =>
    intro cs x h
    obtain ⟨xs, n, rfl, rfl, hl, hlen, hf⟩ := DataW.trod_struct Tryz.underlying25 h
    have hc5 : Tryz.prog.cellsOf 25 = 5 := by kernel_rfl
    rw [hc5] at hl
    obtain ⟨v0, v1, v2, v3, v4, rfl⟩ := vlist5v hl
    have ci : Tryz.prog.cellsOf 3 = 1 := by kernel_rfl
    have cn : Tryz.prog.cellsOf 22 = 1 := by kernel_rfl
    have cs' : Tryz.prog.cellsOf 9 = 1 := by kernel_rfl
    have cl : Tryz.prog.cellsOf 23 = 1 := by kernel_rfl
    match xs, hlen with
    | [y0, y1, y2, y3, y4], _ =>
      have h0 : DataW.trod enc Tryz.prog w 0 (fun _ => true) true n 3 [v0] = some y0 := by simpa [ci] using hf 0 _ rfl
      have h1 : DataW.trod enc Tryz.prog w 0 (fun _ => true) true n 22 [v1] = some y1 := by simpa [cn] using hf 1 _ rfl
      have h2 : DataW.trod enc Tryz.prog w 0 (fun _ => true) true n 9 [v2] = some y2 := by simpa [cs'] using hf 2 _ rfl
      have h3 : DataW.trod enc Tryz.prog w 0 (fun _ => true) true n 23 [v3] = some y3 := by simpa [cl] using hf 3 _ rfl
      have h4 : DataW.trod enc Tryz.prog w 0 (fun _ => true) true n 3 [v4] = some y4 := by simpa [ci] using hf 4 _ rfl
      obtain ⟨k, e0, _, w0⟩ := DataW.trod_int Tryz.underlying3 h0
      obtain ⟨m, e1, _, w1⟩ := DataW.trod_int Tryz.underlying22 h1
      obtain ⟨t, e2, _, w2⟩ := DataW.trod_string Tryz.underlying9 h2
      obtain ⟨p, n3, c3, l, ss, e3, hll, q1, q2, q3, q4, q5⟩ := parts_openV h3 (fun m hm => ih m (by omega))
      obtain ⟨e, e4, _, w4⟩ := DataW.trod_int Tryz.underlying3 h4
      simp only [List.cons.injEq, and_true] at e0 e1 e2 e4
      subst e0 e1 e2 e3 e4
      subst hll
      exact ⟨.mk k m t l e, _, rfl, .mk (.mk k m t l e) p c3 ss ⟨wf_i64V w0, wf_u64V w1, w2, wf_i64V w4⟩ q1 q2 q3 q4 q5⟩

end

structure KeepF (F : Nat → Prop) (W W2 : World) : Prop where
  os : W2.os = W.os
  tape : W2.tape = W.tape
  output : W2.output = W.output
  size : W.heap.size ≤ W2.heap.size
  block : ∀ j, j < W.heap.size → ¬ F j → W2.heap[j]? = W.heap[j]?
theorem KeepF.refl (F : Nat → Prop) (W : World) : KeepF F W W := ⟨rfl, rfl, rfl, Nat.le_refl _, fun _ _ _ => rfl⟩
theorem KeepF.trans {F : Nat → Prop} {W W2 W3 : World} (h : KeepF F W W2) (h' : KeepF F W2 W3) : KeepF F W W3 :=
  ⟨h'.os.trans h.os, h'.tape.trans h.tape, h'.output.trans h.output, Nat.le_trans h.size h'.size, fun j hj ho => (h'.block j (Nat.lt_of_lt_of_le hj h.size) ho).trans (h.block j hj ho)⟩
theorem KeepF.wide {F G : Nat → Prop} {W W2 : World} (h : KeepF F W W2) (hg : ∀ j, F j → G j) : KeepF G W W2 := ⟨h.os, h.tape, h.output, h.size, fun j hj ho => h.block j hj (fun q => ho (hg j q))⟩
theorem KeepF.of_below {F : Nat → Prop} {W W2 : World} (h : Below W.heap.size W W2) : KeepF F W W2 := ⟨h.os, h.tape, h.output, h.size, fun j hj _ => h.block j hj⟩
theorem KeepF.below {F : Nat → Prop} {n : Nat} {w W W2 : World} (hb : Below n w W) (h : KeepF F W W2) (hF : ∀ j, F j → n ≤ j) (hn : n ≤ W.heap.size) : Below n w W2 :=
  ⟨h.os.trans hb.os, h.tape.trans hb.tape, h.output.trans hb.output, Nat.le_trans hb.size h.size, fun j hj => (h.block j (by omega) (fun q => by have := hF j q; omega)).trans (hb.block j hj)⟩
theorem KeepF.setCells {F : Nat → Prop} {w W : World} {b : Nat} (h : KeepF F w W) (hb : F b) (o : Nat) (vs : List Value) : KeepF F w (W.setCells b o vs) := by
  have g := setCells_grown W b o vs
  exact h.trans ⟨g.os, g.tape, g.output, g.size, fun j hj ho => g.block j hj (fun e => by have := Option.some.inj e; subst this; exact ho hb)⟩
theorem KeepF.grown {F : Nat → Prop} {w W W' : World} {d : Nat} (h : KeepF F w W) (hg : W.grownBy W' (some d)) (hd : w.heap.size ≤ d) : KeepF F w W' :=
  ⟨hg.os.trans h.os, hg.tape.trans h.tape, hg.output.trans h.output, Nat.le_trans h.size hg.size, fun j hj ho => (hg.block j (Nat.lt_of_lt_of_le hj h.size) (fun e => by have := Option.some.inj e; omega)).trans (h.block j hj ho)⟩
theorem KeepF.drew {F : Nat → Prop} {w W : World} (h : KeepF F w W) : KeepF F w W.drew := ⟨h.os, h.tape, h.output, h.size, h.block⟩

/-! ### rows of five cells each, by number -/
def rowsF : Nat → (Nat → List Value) → List Value
  | 0, _ => []
  | n + 1, c => rowsF n c ++ c n
def updF (c : Nat → List Value) (k : Nat) (m : List Value) : Nat → List Value := fun i => if i = k then m else c i
theorem updF_same (c : Nat → List Value) (k : Nat) (m : List Value) : updF c k m k = m := if_pos rfl
theorem updF_other {c : Nat → List Value} {k i : Nat} {m : List Value} (h : i ≠ k) : updF c k m i = c i := if_neg h
theorem updF_len {c : Nat → List Value} {k : Nat} {m : List Value} (hc : ∀ i, (c i).length = 5) (hm : m.length = 5) (i : Nat) : (updF c k m i).length = 5 := by
  unfold updF; split
  · exact hm
  · exact hc i
theorem rowsF_len {c : Nat → List Value} (hc : ∀ i, (c i).length = 5) : ∀ n, (rowsF n c).length = n * 5
  | 0 => rfl
  | n + 1 => by rw [rowsF, List.length_append, rowsF_len hc n, hc n]; omega
theorem rowsF_get {c : Nat → List Value} (hc : ∀ i, (c i).length = 5) : ∀ (n i j : Nat), i < n → j < 5 → (rowsF n c)[i * 5 + j]? = (c i)[j]?
  | 0, i, j, h, _ => by omega
  | n + 1, i, j, h, hj => by
    rw [rowsF]
    by_cases e : i < n
    · rw [List.getElem?_append_left (by rw [rowsF_len hc]; omega)]
      exact rowsF_get hc n i j e hj
    · obtain rfl : i = n := by omega
      rw [List.getElem?_append_right (by rw [rowsF_len hc]; omega), rowsF_len hc]
      congr 1
      omega
theorem rowsF_set {c : Nat → List Value} (hc : ∀ i, (c i).length = 5) {m : List Value} (hm : m.length = 5) {n k : Nat} (hk : k < n) : splice (rowsF n c) (k * 5) m = rowsF n (updF c k m) := by
  apply List.ext_getElem?
  intro q
  have hu := updF_len (k := k) hc hm
  have hl := rowsF_len hc n
  have hl2 := rowsF_len hu n
  have hs := splice_length (rowsF n c) (k * 5) m (by rw [hl, hm]; omega)
  by_cases hq : q < n * 5
  · have hq2 : q = q / 5 * 5 + q % 5 := by omega
    have h5 : q % 5 < 5 := by omega
    have hqn : q / 5 < n := by omega
    generalize q / 5 = i at *
    generalize q % 5 = j at *
    subst hq2
    rw [rowsF_get hu n i j hqn h5]
    have t1 : ((rowsF n c).take (k * 5)).length = k * 5 := by rw [List.length_take, hl]; omega
    unfold splice
    rw [List.append_assoc]
    by_cases e : i = k
    · subst e
      rw [updF_same, List.getElem?_append_right (by omega), t1, List.getElem?_append_left (by omega)]
      congr 1
      omega
    · rw [updF_other e]
      by_cases e2 : i < k
      · rw [List.getElem?_append_left (by omega), List.getElem?_take_of_lt (by omega)]
        exact rowsF_get hc n i j hqn h5
      · rw [List.getElem?_append_right (by omega), t1, List.getElem?_append_right (by omega), List.getElem?_drop, hm, ← rowsF_get hc n i j hqn h5]
        congr 1
        omega
  · rw [List.getElem?_eq_none (by omega), List.getElem?_eq_none (by omega)]

def RowF (w : World) (B b n : Nat) (c : Nat → List Value) : Prop := w.ownsRow B 25 5 (.slice (some ⟨b, 0, none⟩) n n) n (rowsF n c)
section
variable {w w' : World} {B b n : Nat} {c : Nat → List Value}
theorem RowF.lt (h : RowF w B b n c) : B ≤ b ∧ b < w.heap.size := World.ownsRow.lt h b rfl
theorem RowF.keep (h : RowF w B b n c) (e : w'.heap[b]? = w.heap[b]?) : RowF w' B b n c := ownsRow_keep h (fun j hj => by
  have : b = j := by simpa [Value.ownBlock] using hj
  subst this; exact e)
theorem RowF.cell (h : RowF w B b n c) (hc : ∀ i, (c i).length = 5) {i j : Nat} {u : Value} (hi : i < n) (hu : (c i)[j]? = some u) : w.cell? ⟨b, i * 5 + j, none⟩ = some u := by
  have hj : j < 5 := by rw [← hc i]; exact (List.getElem?_eq_some_iff.1 hu).1
  exact ownsRow_cell h (by rw [rowsF_get hc n i j hi hj]; exact hu)
theorem RowF.there (h : RowF w B b n c) {k : Nat} (hk : k < n) : w.there b (k * 5) 5 := ownsRow_there h hk
theorem RowF.set (h : RowF w B b n c) (hc : ∀ i, (c i).length = 5) {k : Nat} (hk : k < n) {m : List Value} (hm : m.length = 5) : RowF (w.setCells b (k * 5) m) B b n (updF c k m) := by
  have := ownsRow_set h hk hm
  rwa [rowsF_set hc hm hk] at this
theorem RowF.cap (h : RowF w B b n c) : n ≤ maxLen := by
  rcases h.2 with ⟨q, _⟩ | ⟨g, cap, cur, q, _, _, h1, h2, _⟩
  · simp at q
  · simp only [Value.slice.injEq] at q
    omega
theorem RowF.base (h : RowF w B b n c) {B' : Nat} (hB : B' ≤ B) : RowF w B' b n c := ownsRow_base h (fun j hj => by
  have : b = j := by simpa [Value.ownBlock] using hj
  subst this; exact Nat.le_trans hB h.lt.1)
end

/-! ### lent -/
def mkV (i : Nat) : V := .mk (-7) i ⟨#[]⟩ [] 0
def nilS : Value := .slice none 0 0
inductive VL (w : World) (B : Nat) : V → Value → (Nat → Prop) → Prop
  | mk (v : V) (b : Nat) (F : Nat → Prop) (c : Nat → List Value) (ss : Nat → Value) (Fs : Nat → Nat → Prop) (wf : v.Wf) (hc : ∀ i, (c i).length = 5) (hrow : RowF w B b (v.list.length + 3) c)
      (h1 : ∀ i (h : i < v.list.length), c i = vcells v.list[i] (ss i)) (h2 : ∀ i, v.list.length ≤ i → i < v.list.length + 3 → c i = vcells (mkV i) nilS) (hin : ∀ i (h : i < v.list.length), VL w B v.list[i] (ss i) (Fs i))
      (hd : ∀ i j, i < v.list.length → j < v.list.length → i ≠ j → ∀ g, Fs i g → ¬ Fs j g) (hs : ∀ i, i < v.list.length → ¬ Fs i b) (hF : ∀ g, F g ↔ (g = b ∨ ∃ i, i < v.list.length ∧ Fs i g)) : VL w B v (.slice (some ⟨b, 0, none⟩) v.list.length (v.list.length + 3)) F
section
variable {w w' : World} {v : V} {s : Value} {B B' : Nat} {F : Nat → Prop}
theorem VL.wf (h : VL w B v s F) : v.Wf := by cases h; assumption
theorem VL.lt (h : VL w B v s F) : ∀ b, F b → B ≤ b ∧ b < w.heap.size := by
  induction h with
  | mk v b F c ss Fs wf hc hrow h1 h2 hin hd hs hF ih =>
    intro g hg
    rcases (hF g).1 hg with rfl | ⟨i, hi, q⟩
    · exact hrow.lt
    · exact ih i hi g q
theorem VL.keep (h : VL w B v s F) (e : ∀ b, F b → w'.heap[b]? = w.heap[b]?) : VL w' B v s F := by
  induction h with
  | mk v b F c ss Fs wf hc hrow h1 h2 hin hd hs hF ih =>
    exact .mk v b F c ss Fs wf hc (hrow.keep (e b ((hF b).2 (.inl rfl)))) h1 h2 (fun i hi => ih i hi (fun g hg => e g ((hF g).2 (.inr ⟨i, hi, hg⟩)))) hd hs hF
theorem VL.blw (h : VL w B v s F) (hb : Below w.heap.size w w') : VL w' B v s F := h.keep (fun b q => hb.block b (h.lt b q).2)
theorem VL.keepF {G : Nat → Prop} (h : VL w B v s F) (hk : KeepF G w w') (hd : ∀ b, F b → ¬ G b) : VL w' B v s F := h.keep (fun b q => hk.block b (h.lt b q).2 (hd b q))
theorem VL.mono (h : VL w B v s F) (hB : B' ≤ B) : VL w B' v s F := by
  induction h with
  | mk v b F c ss Fs wf hc hrow h1 h2 hin hd hs hF ih =>
    exact .mk v b F c ss Fs wf hc (hrow.base hB) h1 h2 (fun i hi => ih i hi) hd hs hF
theorem VL.as {v' : V} (h : VL w B v s F) (hl : v'.list = v.list) (hw : v'.Wf) : VL w B v' s F := by
  cases h with
  | mk _ b _ c ss Fs wf hc hrow h1 h2 hin hd hs hF =>
    have key : ∀ (L : List V) (e : L = v.list), v'.list = L → VL w B v' (.slice (some ⟨b, 0, none⟩) L.length (L.length + 3)) F := by
      intro L e e2
      subst e2
      have hln : v'.list.length = v.list.length := by rw [e]
      refine .mk v' b F c ss Fs hw hc (by rw [hln]; exact hrow) (fun i hi => ?_) (fun i q1 q2 => h2 i (hln ▸ q1) (hln ▸ q2)) (fun i hi => ?_) (fun i j hi hj => hd i j (hln ▸ hi) (hln ▸ hj)) (fun i hi => hs i (hln ▸ hi)) (fun g => by rw [hF g, hln])
      · rw [h1 i (hln ▸ hi)]
        simp only [e]
      · have := hin i (hln ▸ hi)
        simpa only [e] using this
    exact key v.list rfl hl
theorem VL.slice (h : VL w B v s F) : ∃ b, s = .slice (some ⟨b, 0, none⟩) v.list.length (v.list.length + 3) ∧ F b ∧ v.list.length + 3 ≤ maxLen := by
  cases h with
  | mk _ b _ c ss Fs wf hc hrow h1 h2 hin hd hs hF => exact ⟨b, rfl, (hF b).2 (.inl rfl), hrow.cap⟩
theorem VL.vin (h : VL w B v s F) : VIn w v s := by
  induction h with
  | mk v b F c ss Fs wf hc hrow h1 h2 hin hd hs hF ih =>
    refine .mk v (some ⟨b, 0, none⟩) _ ss wf (by omega) hrow.cap (fun _ => ⟨b, 0, rfl⟩) (fun b' o e i hi j u hu => ?_) ih
    simp only [Option.some.injEq, Addr.mk.injEq] at e
    obtain ⟨rfl, rfl, _⟩ := e
    rw [Nat.zero_add]
    exact hrow.cell hc (by omega) (by rw [h1 i hi]; exact hu)
end
def OutVL (w : World) (a : V) (e : Ending) (w' : World) : Prop := ∃ t F, e = .returned (.agg #[.int .i64 a.kind, .int .u64 a.num, .string a.text, t, .int .i64 a.elem]) ∧ VL w' w.heap.size a t F ∧ Below w.heap.size w w'
def OutLL (w : World) (a : V) (e : Ending) (w' : World) : Prop := ∃ t F, e = .returned t ∧ VL w' w.heap.size a t F ∧ Below w.heap.size w w'

/-! ### turned -/
def xor1 (n : Int) : Int := bits BinOp.xor IntKind.u64 n 1
theorem xor1_u64 (n : Int) : IsU64 (xor1 n) := wf_u64V (wf_bits _ _ _ _)
mutual
def V.turned : V → V
  | .mk k n t l e => .mk k (xor1 n) t (turneds l) e
def turneds : List V → List V
  | [] => []
  | v :: r => v.turned :: turneds r
end
theorem turneds_map (l : List V) : turneds l = l.map V.turned := by
  induction l with
  | nil => rfl
  | cons a r ih => rw [turneds, ih]; rfl
theorem V.turned_eq (v : V) : v.turned = .mk v.kind (xor1 v.num) v.text (v.list.map V.turned) v.elem := by cases v; rw [V.turned, turneds_map]; rfl
theorem turned_list (v : V) : v.turned.list = v.list.map V.turned := by rw [V.turned_eq]; rfl
theorem V.Wf.turned {v : V} (h : v.Wf) : v.turned.Wf := by
  rw [V.turned_eq]
  exact ⟨h.k, xor1_u64 _, h.t, h.e⟩
end Go.Proofs.YtnnnfhobbnjmfaaGreatDoor
