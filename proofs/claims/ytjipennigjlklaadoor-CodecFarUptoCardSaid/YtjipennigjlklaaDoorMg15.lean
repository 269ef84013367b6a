/-
  Check. Conditions: the value lies in memory and is no greater than a million; the tables stand.
  A region that draws its order, within a round of a range over a function: it is enough to walk it plainly. It speaks of no program. No conditions.
  A region of All's body: it draws its order, and yields. No conditions.
  All's iterator: a copy of each part is told. Conditions: the value is its own, no greater than a million.
  All, its iterator, and a range over it. Conditions: the value lies in memory and is no greater than a million.
  Depth. Conditions: the value lies in memory and is no greater than a million.
  The reference's Depth. Conditions: the value lies in memory.
-/
import Derived.Test.YtjipennigjlklaaDoorMg11
import Derived.Test.YtjipennigjlklaaDoorVr
import Derived.Test.YtjipennigjlklaaDoorMg10
import Derived.Test.YtjipennigjlklaaDoorMg04
import Derived.Orders
import Derived.OrdersIn
import Derived.OrdersHeld
import Derived.Deep.RegionHeld
import Derived.RangeFuncCalls
import Derived.Laws.Rows
import Derived.Laws.Tables
import Derived.Sort.CutIn
import Derived.Test.YtjipennigjlklaaDoorMg06
namespace Go.Proofs.YtjipennigjlklaaDoor
open Go.RowKit
set_option linter.unusedVariables false

attribute [local go_sem] Oper.semAt_some

theorem calls_of_wp_marks {P : Program} {f : FuncId} {fn : Func} {c : Code} {args : Array Value} {w : World} {R : Ending → World → Prop}
    (hf : P.funcs[f]? = some fn) (hb : fn.body = some c)
    (h : c.wp P (bodyPostM Fence.wide 5 P fn R) { tmps := args ++ Array.replicate (fn.ntmps - args.size) undef, defers := [] } w) : Calls P f args w R :=
  (callsIn_wide (n := 5)).1 (callsIn_of_wp_marks hf hb trivial ((wpIn_wide (n := 5)).2 h))
theorem Tabs.rd {w W : World} (h : Tabs w) (hr : Rd w W) : Tabs W := by
  obtain ⟨h1, h2⟩ := h
  exact ⟨fun c hc => hr _ _ _ (h1 c hc), fun i hi => ⟨hr _ _ _ (h2 i hi).1, hr _ _ _ (h2 i hi).2⟩⟩
structure InBody (lp : Nat) (W Wb : World) : Prop where
  rest : ∀ j, j < W.heap.size → j ≠ lp → Wb.heap[j]? = W.heap[j]?
  size : W.heap.size ≤ Wb.heap.size
  os : Wb.os = W.os
  tape : Wb.tape = W.tape
  output : Wb.output = W.output
theorem inBody_of {lp : Nat} {W Wa Wb : World} (hg : Below W.heap.size W Wa) (ht : Turn lp Wa Wb) : InBody lp W Wb :=
  ⟨fun j h1 h2 => (ht.1.block j (Nat.lt_of_lt_of_le h1 hg.size) (fun h => h2 (Option.some.inj h))).trans (hg.block j h1), Nat.le_trans hg.size ht.1.size, ht.1.os.trans hg.os, ht.1.tape.trans hg.tape, ht.1.output.trans hg.output⟩
theorem InBody.rd {lp : Nat} {W Wb : World} (h : InBody lp W Wb) (hl : ∃ o, W.heap[lp]? = some o ∧ o.isCells = false) : Rd W Wb := by
  obtain ⟨ol, hl, hlc⟩ := hl
  intro b' i' u' hc
  refine (World.cell?_of_block (h.rest b' (World.block_lt_of_cell? W _ hc) ?_)).trans hc
  rintro rfl
  rw [World.cell?, hl] at hc
  cases ol <;> simp [Obj.isCells] at hlc <;> simp at hc
theorem InBody.keepR {lp : Nat} {W Wb w1 : World} (h : InBody lp W Wb) (hb : Below Wb.heap.size Wb w1) (O : Nat → Prop) : KeepR lp O W O w1 :=
  ⟨hb.os.trans h.os, hb.tape.trans h.tape, hb.output.trans h.output, Nat.le_trans h.size hb.size, fun j h1 h2 h3 => (hb.block j (Nat.lt_of_lt_of_le h1 h.size)).trans (h.rest j h1 h3), fun j hj => .inl hj⟩
theorem InBody.below {lp : Nat} {wE W Wb : World} (h : InBody lp W Wb) (hb : Below wE.heap.size wE W) (hlp : wE.heap.size ≤ lp) : Below wE.heap.size wE Wb :=
  ⟨h.os.trans hb.os, h.tape.trans hb.tape, h.output.trans hb.output, Nat.le_trans hb.size h.size, fun j hj => (h.rest j (Nat.lt_of_lt_of_le hj hb.size) (by omega)).trans (hb.block j hj)⟩
def rfOf : Code → Option (Code × Code)
  | .seq a b => match rfOf a with | some r => some r | none => rfOf b
  | .cond _ a b => match rfOf a with | some r => some r | none => rfOf b
  | .block _ c => rfOf c
  | .loop c => rfOf c
  | .scope c => rfOf c
  | .rangeFunc _ _ a b => some (a, b)
  | _ => none

def MidC (tm : Array Value) (W : World) (x : V) (t : Value) (e : Exit) (a : Act) (Wa : World) : Prop :=
  e = .normal ∧ a = { tmps := tm, defers := [] } ∧ Below W.heap.size W Wa ∧ Wa.heap[W.heap.size]? = some (.cells #[.int .i64 x.kind, .int .u64 x.num, .string x.text, t, .int .i64 x.elem] 25 (0, 0))

noncomputable def firstBad : List (Int × V) → Int
  | [] => 0
  | (d, x) :: r => if aloneC x d = 0 then firstBad r else aloneC x d

def CkI (wE : World) (r : Nat) (L : List (Int × V)) (k : Nat) (O : Nat → Prop) (W : World) : Prop :=
  (O = fun j => j = r) ∧ Below wE.heap.size wE W ∧ W.heap[r]? = some (.cells #[.int .i64 0] 29 (0, 0)) ∧ wE.heap.size ≤ r ∧ firstBad L = firstBad (L.drop k)
def CkX (wE : World) (r : Nat) (L : List (Int × V)) (c : Code) (O : Nat → Prop) (W : World) : Prop :=
  c = .ret ∧ (O = fun j => j = r) ∧ Below wE.heap.size wE W ∧ W.heap[r]? = some (.cells #[.int .i64 (firstBad L)] 29 (0, 0)) ∧ wE.heap.size ≤ r

set_option maxRecDepth 20000 in
set_option maxHeartbeats 4000000 in
theorem round_check {D lp : Nat} (K : LoopBook D lp) (wE W : World) (r : Nat) (L : List (Int × V)) (k : Nat) (d : Int) (x : V) (t v0 v1 v6 v7 : Value) (asg bdy : Code) (hrf : (Tryd.f13.body.bind rfOf) = some (asg, bdy))
    (hrd : K.rdy W) (hI : CkI wE r L k (fun j => j = r) W) (hL : L[k]? = some (d, x)) (hx : VIn W x t) (hT : Tabs W) (hts : x.text.size ≤ 9223372036854775800) (hDz : D + 2 ≤ W.heap.size) (hlp : lp = D + 1) (hrD : r < D) :
    RoundOf Tryd.prog K #[v0, v1, .pointer (some ⟨r, 0, none⟩), undef, undef, undef, v6, v7, undef, undef, undef, undef, undef, undef, undef, undef] #[8, 9] asg bdy #[.int .i64 d, .agg #[.int .i64 x.kind, .int .u64 x.num, .string x.text, t, .int .i64 x.elem]] W
      (fun W3 => ∃ O2, CkI wE r L (k + 1) O2 W3 ∧ KeepR lp (fun j => j = r) W O2 W3) (fun c W3 => ∃ O2, CkX wE r L c O2 W3 ∧ KeepR lp (fun j => j = r) W O2 W3) := by
  simp only [Tryd.f13, Option.bind_some, rfOf, Option.some.injEq, Prod.mk.injEq] at hrf
  obtain ⟨rfl, rfl⟩ := hrf
  unfold RoundOf
  obtain ⟨p, c, hs, _⟩ := hx.slice
  subst hs
  obtain ⟨N, hN⟩ : ∃ N, x.list.length = N := ⟨_, rfl⟩
  rw [hN] at hx ⊢
  have HI := Lib.hid hI
  have HX := Lib.hid hx
  clear hI hx hN
  refine wpIn_mono (Q := MidC #[v0, v1, .pointer (some ⟨r, 0, none⟩), .int .i64 d, .pointer (some ⟨W.heap.size, 0, none⟩), undef, v6, v7, .int .i64 d, .agg #[.int .i64 x.kind, .int .u64 x.num, .string x.text, (.slice p N c), .int .i64 x.elem], undef, undef, undef, undef, undef, undef] W x (.slice p N c)) ?_ ?_
  · gi_wp2
    exact ⟨rfl, rfl, (Below.refl _ _).alloc (Nat.le_refl _) _, _root_.Go.heap_alloc_new _ _⟩
  · rintro e a' Wa ⟨rfl, rfl, hg, hi⟩
    obtain ⟨⟨oD, hD, hDc⟩, ⟨ol, hl, hlc⟩⟩ := K.rdyN W hrd
    have hDlt := (Array.getElem?_eq_some_iff.1 hD).1
    have hllt := (Array.getElem?_eq_some_iff.1 hl).1
    refine ⟨K.keepR W Wa hrd (hg.block D hDlt) (hg.block lp hllt), ?_⟩
    intro Wb ht hb
    have hib : Wb.heap[W.heap.size]? = some (.cells #[.int .i64 x.kind, .int .u64 x.num, .string x.text, (.slice p N c), .int .i64 x.elem] 25 (0, 0)) :=
      (ht.1.block W.heap.size (Array.getElem?_eq_some_iff.1 hi).1 (fun h => by have := Option.some.inj h; omega)).trans hi
    have hib2 := inBody_of hg ht
    have hrdW := hib2.rd ⟨ol, hl, hlc⟩
    obtain ⟨hO, hB, hr0, hrE, hfb⟩ := HI.out
    have hrW := (Array.getElem?_eq_some_iff.1 hr0).1
    have hrl : r ≠ lp := by omega
    have hrb := (hib2.rest r hrW hrl).trans hr0
    have HL := Lib.hid (And.intro hL hfb)
    have HBE := Lib.hid (hib2.below hB (by omega))
    have HIB := Lib.hid hib2
    have hc := alone_any x d Wb _ (HX.out.rd hrdW) (hT.rd hrdW) hts
    obtain ⟨z, hz⟩ : ∃ z, aloneC x d = z := ⟨_, rfl⟩
    rw [hz] at hc
    have HZ := Lib.hid hz
    have HKB := Lib.hid hb
    have HDL := Lib.hid (And.intro (Nat.lt_of_lt_of_le hDlt hib2.size) (Nat.lt_of_lt_of_le hllt hib2.size))
    have HRB := Lib.hid (And.intro hrb (And.intro hrE hrD))
    have v0' : Wb.cell? ⟨W.heap.size, 0, none⟩ = some (.int .i64 x.kind) := (cell_of_row _ _ 0 _ _ _ hib).trans rfl
    have v1' : Wb.cell? ⟨W.heap.size, 1, none⟩ = some (.int .u64 x.num) := (cell_of_row _ _ 1 _ _ _ hib).trans rfl
    have v2' : Wb.cell? ⟨W.heap.size, 2, none⟩ = some (.string x.text) := (cell_of_row _ _ 2 _ _ _ hib).trans rfl
    have v3' : Wb.cell? ⟨W.heap.size, 3, none⟩ = some (.slice p N c) := (cell_of_row _ _ 3 _ _ _ hib).trans rfl
    have v4' : Wb.cell? ⟨W.heap.size, 4, none⟩ = some (.int .i64 x.elem) := (cell_of_row _ _ 4 _ _ _ hib).trans rfl
    obtain ⟨y, hy⟩ : ∃ y, W.heap.size = y := ⟨_, rfl⟩
    rw [hy] at v0' v1' v2' v3' v4' ⊢
    clear hz hL hB hfb hrdW hb hD hl hDc hlc hDlt hllt hrb hrE hrW hrl hib hi hg ht hr0 hO hrd hT hts hDz hrD hy hib2
    gi_wp2
    refine ⟨trivial, (CallsIn.inRound lp (callsIn_wide.2 hc)).mono ?_⟩
    clear hc v0' v1' v2' v3' v4'
    rintro e w1 ⟨rfl, hb1⟩
    have hr1 := (hb1.block r (Array.getElem?_eq_some_iff.1 HRB.out.1).1).trans HRB.out.1
    have HF := Lib.hid (And.intro (K.keepB Wb w1 HKB.out (hb1.block D HDL.out.1) (hb1.block lp HDL.out.2)) (And.intro (HIB.out.keepR hb1 (fun j => j = r)) (And.intro (HBE.out.trans (hb1.mono HBE.out.size)) hr1)))
    clear hb1
    by_cases hz0 : z = 0
    · have hzt : (z != 0) = false := by simpa using hz0
      have HZ0 := Lib.hid hz0
      clear hr1 hz0
      gi_wp2
      obtain ⟨f1, f2, f3, f4⟩ := HF.out
      refine ⟨f1, _, ⟨rfl, f3, f4, HRB.out.2.1, ?_⟩, f2⟩
      rw [HL.out.2, List.drop_eq_getElem_cons (List.getElem?_eq_some_iff.1 HL.out.1).1, (List.getElem?_eq_some_iff.1 HL.out.1).2, firstBad, if_pos (by rw [HZ.out]; exact HZ0.out)]
    · have hzt : (z != 0) = true := by simpa using hz0
      have c1 : w1.cell? ⟨r, 0, none⟩ = some (.int .i64 0) := (cell_of_row _ _ 0 _ _ _ hr1).trans rfl
      have f1 : w1.frozen? ⟨r, 0, none⟩ = false := by simp [World.frozen?, hr1]
      have HZ0 := Lib.hid hz0
      clear hr1 hz0
      gi_wp2
      obtain ⟨f1, f2, f3, f4⟩ := HF.out
      have hrD := HRB.out.2.2
      have s4 : (w1.setCell ⟨r, 0, none⟩ (.int .i64 z)).heap[r]? = some (.cells #[.int .i64 z] 29 (0, 0)) := heap_setCell_same w1 r 0 _ _ (.int .i64 z) f4
      have hfar : ∀ j, j ≠ r → (w1.setCell ⟨r, 0, none⟩ (.int .i64 z)).heap[j]? = w1.heap[j]? := fun j hj => set_farV hj
      have hsz : (w1.setCell ⟨r, 0, none⟩ (.int .i64 z)).heap.size = w1.heap.size := by simp
      have hfz : firstBad L = z := by
        rw [HL.out.2, List.drop_eq_getElem_cons (List.getElem?_eq_some_iff.1 HL.out.1).1, (List.getElem?_eq_some_iff.1 HL.out.1).2, firstBad, if_neg (by rw [HZ.out]; exact HZ0.out), HZ.out]
      refine ⟨K.keepB _ _ f1 (hfar D (by omega)) (hfar lp (by omega)), fun j => j = r, ⟨rfl, rfl, f3.setCell (p := ⟨r, 0, none⟩) HRB.out.2.1 _, by rw [hfz]; exact s4, HRB.out.2.1⟩, ⟨f2.os, f2.tape, f2.output, by rw [hsz]; exact f2.size, fun j h1 h2 h3 => (hfar j h2).trans (f2.block j h1 h2 h3), f2.own⟩⟩

theorem pre_wt : ∀ (v : V) (d : Int) (p : Int × V), p ∈ v.pre d → p.2.wt ≤ v.wt := by
  refine V.ind (fun v ih d p hp => ?_)
  rw [V.pre_eq] at hp
  rcases List.mem_cons.1 hp with rfl | hp
  · exact Nat.le_refl _
  · have key : ∀ (l : List V), (∀ x ∈ l, ∀ d p, p ∈ x.pre d → p.2.wt ≤ x.wt) → ∀ d, p ∈ pres l d → p.2.wt ≤ wts l := by
      intro l
      induction l with
      | nil => intro _ d hp; simp [pres] at hp
      | cons a r ihl =>
        intro h d hp
        rw [pres, List.mem_append] at hp
        rw [wts]
        rcases hp with hp | hp
        · have := h a (List.mem_cons_self ..) d p hp; omega
        · have := ihl (fun x hx => h x (List.mem_cons_of_mem _ hx)) d hp; omega
    have := key v.list ih _ hp
    rw [v.wt_eq]
    omega
theorem each_any (v : V) (s : Value) (W : World) (p : Option Addr) (n c : Nat) (hs : s = .slice p n c) :
    Calls Tryd.prog 23 #[.agg #[.int .i64 v.kind, .int .u64 v.num, .string v.text, s, .int .i64 v.elem]] W fun e w' => e = .returned (.func (.func 35) #[] #[.pointer (some ⟨W.heap.size, 0, none⟩)]) ∧ w' = W.alloc (.cells #[.int .i64 v.kind, .int .u64 v.num, .string v.text, s, .int .i64 v.elem] 25) := by
  subst hs
  have hmf : ∀ (fn : Fn) (first cap : Array Value) (w : World), (Instr.makeFunc fn first cap).run Tryd.prog w = .ok (.func fn first cap) w := fun _ _ _ _ => rfl
  go_enter Tryd.func23, Tryd.ntmps23
  go_wp2_with fail
  go_ret
  exact ⟨rfl, rfl⟩

theorem below_putObj {B D : Nat} {w W : World} (h : Below B w W) (hD : B ≤ D) (o : Obj) : Below B w (W.putObj D o) :=
  ⟨h.os, h.tape, h.output, by have := h.size; simpa [World.putObj] using this, fun j hj => (World.putObj_heap_other (by omega)).trans (h.block j hj)⟩
theorem leaves_one {P : Program} {fn : Func} {tm : Array Value} {R : Ending → World → Prop} {D : Nat} {W : World} {u : Value} (hD : W.heap[D]? = some (.deferred (some [])))
    (hr : (results fn tm).run P (W.putObj D (.deferred none)) = .ok u (W.putObj D (.deferred none))) (h : R (.returned u) (W.putObj D (.deferred none))) :
    LeavesInM Fence.wide 5 P fn tm R [{ target := .collected D, args := #[] }] .returning W :=
  ⟨by simp, .inl ⟨D, _, rfl, run_takeDeferred hD, ⟨u, hr, h⟩⟩⟩

set_option maxRecDepth 20000 in
set_option maxHeartbeats 4000000 in
theorem check_any (v : V) (w : World) (s : Value) (h : VIn w v s) (hT : Tabs w) (hwt : v.wt ≤ 2000000) :
    Calls Tryd.prog 13 #[.agg #[.int .i64 v.kind, .int .u64 v.num, .string v.text, s, .int .i64 v.elem]] w fun e w' => e = .returned (.int .i64 (firstBad (v.pre 1))) ∧ Below w.heap.size w w' := by
  obtain ⟨p, c, hs, h1, h2, h3⟩ := h.slice
  obtain ⟨N, hN⟩ : ∃ N, v.list.length = N := ⟨_, rfl⟩
  rw [hN] at hs h1 h3
  subst hs
  unfold maxLen at h2
  have HV := Lib.hid h
  have HN := Lib.hid hN
  have HT := Lib.hid hT
  have HW := Lib.hid hwt
  clear h hN hT hwt
  refine calls_of_wp_marks Tryd.func13 rfl ?_
  simp only [Tryd.ntmps13, List.size_toArray, List.length_cons, List.length_nil, Nat.reduceAdd, Nat.reduceSub, Array.replicate_succ, Array.replicate_zero, List.push_toArray, List.append_toArray, List.nil_append, List.cons_append]
  go_upto_region 1 with fail
  have hb0 : Below w.heap.size w ((w.alloc (.cells #[.int .i64 v.kind, .int .u64 v.num, .string v.text, (.slice p N c), .int .i64 v.elem] 25)).alloc (.cells #[.int .i64 0] 29)) := ((Below.refl _ _).alloc (Nat.le_refl _) _).alloc (by simp) _
  have ox : ((w.alloc (.cells #[.int .i64 v.kind, .int .u64 v.num, .string v.text, (.slice p N c), .int .i64 v.elem] 25)).alloc (.cells #[.int .i64 0] 29)).heap[w.heap.size]? = some (.cells #[.int .i64 v.kind, .int .u64 v.num, .string v.text, (.slice p N c), .int .i64 v.elem] 25 (0, 0)) := (_root_.Go.heap_alloc_old _ _ (by simp)).trans (_root_.Go.heap_alloc_new _ _)
  have oy : ((w.alloc (.cells #[.int .i64 v.kind, .int .u64 v.num, .string v.text, (.slice p N c), .int .i64 v.elem] 25)).alloc (.cells #[.int .i64 0] 29)).heap[w.heap.size + 1]? = some (.cells #[.int .i64 0] 29 (0, 0)) := by have := _root_.Go.heap_alloc_new (w.alloc (.cells #[.int .i64 v.kind, .int .u64 v.num, .string v.text, (.slice p N c), .int .i64 v.elem] 25)) (.cells #[.int .i64 0] 29); rwa [World.size_alloc] at this
  generalize ((w.alloc (.cells #[.int .i64 v.kind, .int .u64 v.num, .string v.text, (.slice p N c), .int .i64 v.elem] 25)).alloc (.cells #[.int .i64 0] 29)) = w0 at *
  obtain ⟨x, hx⟩ : ∃ x, w.heap.size = x := ⟨_, rfl⟩
  rw [hx] at ox oy ⊢
  obtain ⟨r, hr⟩ : ∃ r, x + 1 = r := ⟨_, rfl⟩
  rw [hr] at oy ⊢
  have x0 : w0.cell? ⟨x, 0, none⟩ = some (.int .i64 v.kind) := (cell_of_row _ _ 0 _ _ _ ox).trans rfl
  have x1 : w0.cell? ⟨x, 1, none⟩ = some (.int .u64 v.num) := (cell_of_row _ _ 1 _ _ _ ox).trans rfl
  have x2 : w0.cell? ⟨x, 2, none⟩ = some (.string v.text) := (cell_of_row _ _ 2 _ _ _ ox).trans rfl
  have x3 : w0.cell? ⟨x, 3, none⟩ = some (.slice p N c) := (cell_of_row _ _ 3 _ _ _ ox).trans rfl
  have x4 : w0.cell? ⟨x, 4, none⟩ = some (.int .i64 v.elem) := (cell_of_row _ _ 4 _ _ _ ox).trans rfl
  have HB0 := Lib.hid hb0
  have HX := Lib.hid (show w.heap.size ≤ r by omega)
  have HOY := Lib.hid oy
  clear hb0 ox oy hx hr
  have hc := each_any v _ w0 p N c rfl
  go_wp2_with fail
  refine hc.mono ?_
  clear hc x0 x1 x2 x3 x4
  rintro e w1 ⟨rfl, rfl⟩
  have hb1 : Below w.heap.size w (w0.alloc (.cells #[.int .i64 v.kind, .int .u64 v.num, .string v.text, (.slice p N c), .int .i64 v.elem] 25)) := HB0.out.alloc HB0.out.size _
  have oy1 : (w0.alloc (.cells #[.int .i64 v.kind, .int .u64 v.num, .string v.text, (.slice p N c), .int .i64 v.elem] 25)).heap[r]? = _ := (_root_.Go.heap_alloc_old w0 (.cells #[.int .i64 v.kind, .int .u64 v.num, .string v.text, (.slice p N c), .int .i64 v.elem] 25) (Array.getElem?_eq_some_iff.1 HOY.out).1).trans HOY.out
  have oy2 : (w0.alloc (.cells #[.int .i64 v.kind, .int .u64 v.num, .string v.text, (.slice p N c), .int .i64 v.elem] 25)).heap[w0.heap.size]? = some (.cells #[.int .i64 v.kind, .int .u64 v.num, .string v.text, (.slice p N c), .int .i64 v.elem] 25 (0, 0)) := _root_.Go.heap_alloc_new _ _
  have hrl := (Array.getElem?_eq_some_iff.1 oy1).1
  generalize w0.alloc (.cells #[.int .i64 v.kind, .int .u64 v.num, .string v.text, (.slice p N c), .int .i64 v.elem] 25) = w1 at *
  obtain ⟨y, hy⟩ : ∃ y, w0.heap.size = y := ⟨_, rfl⟩
  rw [hy] at oy2 ⊢
  have HB1 := Lib.hid hb1
  have HO1 := Lib.hid (And.intro oy1 (And.intro oy2 hrl))
  clear hb1 oy1 oy2 hrl hy
  go_wp2_with fail
  refine wp_range_each (wv := w) (v := v) (s := .slice p N c) (y := y) rfl rfl HO1.out.2.1 HV.out (by have := HW.out; omega) (CkI w r (v.pre 1)) (CkX w r (v.pre 1)) (fun j => j = r) ?_ ?_ ?_ ?_ ?_ ?_ ?_ ?_
  · rintro k O W ⟨_, hB, _⟩
    exact rd_below hB
  · rintro k O W ⟨rfl, hB, hc, _⟩ j hj
    have : j = r := hj
    rw [this]
    exact (Array.getElem?_eq_some_iff.1 hc).1
  · rintro k O W W' d ⟨rfl, hB, hc, h1, h2⟩ hg hd hO
    have := HB1.out.size
    exact ⟨rfl, ⟨hg.os.trans hB.os, hg.tape.trans hB.tape, hg.output.trans hB.output, Nat.le_trans hB.size hg.size, fun j hj => (hg.block j (Nat.lt_of_lt_of_le hj hB.size) (fun e => by have := Option.some.inj e; omega)).trans (hB.block j hj)⟩,
      (hg.block r (Array.getElem?_eq_some_iff.1 hc).1 (fun e => hO (Option.some.inj e).symm)).trans hc, h1, h2⟩
  · rintro cc O W W' d ⟨rfl, rfl, hB, hc, h1⟩ hg hd hO
    have := HB1.out.size
    exact ⟨rfl, rfl, ⟨hg.os.trans hB.os, hg.tape.trans hB.tape, hg.output.trans hB.output, Nat.le_trans hB.size hg.size, fun j hj => (hg.block j (Nat.lt_of_lt_of_le hj hB.size) (fun e => by have := Option.some.inj e; omega)).trans (hB.block j hj)⟩,
      (hg.block r (Array.getElem?_eq_some_iff.1 hc).1 (fun e => hO (Option.some.inj e).symm)).trans hc, h1⟩
  · exact ⟨rfl, HB1.out, HO1.out.1, HX.out, by rw [List.drop_zero]⟩
  · intro K k O d z t W hrd hI n1 n2 hz hL hzin
    obtain ⟨rfl, hI2⟩ := hI
    have hI : CkI w r (v.pre 1) k (fun j => j = r) W := ⟨rfl, hI2⟩
    have hzt := pre_wt v 1 (d, z) (List.mem_of_getElem? hL)
    have hzw := z.text_le
    refine round_check K w W r (v.pre 1) k d z t _ _ _ _ _ _ (by kernel_rfl) hrd hI hL hzin (HT.out.below hI2.1) ?_ hz rfl HO1.out.2.2
    have := HW.out
    simp only at hzt
    omega
  · rintro O W ⟨rfl, hB, hc, hw1, hf⟩ hD hO
    have c0 : W.cell? ⟨r, 0, none⟩ = some (.int .i64 0) := (cell_of_row _ _ 0 _ _ _ hc).trans rfl
    have f0 : W.frozen? ⟨r, 0, none⟩ = false := by simp [World.frozen?, hc]
    have hO2 : w1.heap.size ≠ r := hO
    have H := Lib.hid (And.intro hB (And.intro hc (And.intro hw1 (And.intro hf (And.intro hD hO2)))))
    clear hB hc hw1 hf hD hO hO2
    simp only [Exit.inBlock, Exit.then]
    go_at_K
    go_wp2_with fail
    obtain ⟨hB, hc, hw1, hf, hD, hO2⟩ := H.out
    have s4 : (W.setCell ⟨r, 0, none⟩ (.int .i64 0)).heap[r]? = some (.cells #[.int .i64 0] 29 (0, 0)) := heap_setCell_same W r 0 _ _ (.int .i64 0) hc
    have hD4 := (set_farV (w := W) (i := 0) (v := .int .i64 0) hO2).trans hD
    have hB4 := hB.setCell (p := ⟨r, 0, none⟩) hw1 (.int .i64 0)
    rw [List.drop_length, firstBad] at hf
    have s5 := (World.putObj_heap_other (w := W.setCell ⟨r, 0, none⟩ (.int .i64 0)) (o := .deferred none) hO2.symm).trans s4
    have k0 := (cell_of_row _ _ 0 _ _ _ s5).trans rfl
    refine leaves_one (u := .int .i64 0) hD4 (by simp [results, Tryd.f13, go_sem, k0]) ⟨by rw [hf], below_putObj hB4 HB1.out.size _⟩
  · rintro cc O W ⟨rfl, rfl, hB, hc, hw1⟩ hD hO
    have hO2 : w1.heap.size ≠ r := hO
    refine (wpIn_wide (n := 5)).1 (wpIn_ret ?_)
    have s5 := (World.putObj_heap_other (w := W) (o := .deferred none) hO2.symm).trans hc
    have k0 := (cell_of_row _ _ 0 _ _ _ s5).trans rfl
    refine leaves_one (u := .int .i64 _) hD (by simp [results, Tryd.f13, go_sem, k0]) ⟨rfl, below_putObj hB HB1.out.size _⟩



attribute [local go_sem] Oper.semAt_some

section
end


attribute [local go_sem] Oper.semAt_some

noncomputable def only (w : World) (F : Nat → Prop) : World := by
  classical
  exact { w with heap := w.heap.mapIdx fun i o => if F i then o else .deferred none }
theorem only_heap {w : World} {F : Nat → Prop} {b : Nat} (h : F b) : (only w F).heap[b]? = w.heap[b]? := by
  simp only [only, Array.getElem?_mapIdx]
  cases w.heap[b]? <;> simp [h]
theorem VO.only {w : World} {B : Nat} {v : V} {s : Value} {F : Nat → Prop} (h : VO w B v s F) : VIn (only w F) v s := (h.keep (w' := Proofs.YtjipennigjlklaaDoor.only w F) (fun b hb => only_heap hb)).vin

structure RidesA (n0 l : Nat) (wA : World) (F0 : Nat → Prop) (L : List (Int × V)) (J : Nat → (Nat → Prop) → World → Prop) (Jx : (Nat → Prop) → World → Prop) : Prop where
  reads : ∀ k O W, J k O W → ∀ j, F0 j → W.heap[j]? = wA.heap[j]?
  fresh : ∀ k O W, J k O W → ∀ j, O j → j < W.heap.size
  turn : ∀ k O W W' d, J k O W → W.grownBy W' (some d) → n0 ≤ d → ¬ O d → J k O W'
  turnX : ∀ O W W' d, Jx O W → W.grownBy W' (some d) → n0 ≤ d → ¬ O d → Jx O W'
  yields : ∀ k O W W' d x t F, J k O W → L[k]? = some (d, x) → Below W.heap.size W W' → VO W' W.heap.size x t F → YieldAt Fence.wide 3 Tryd.prog l #[.int .i64 d, .agg #[.int .i64 x.kind, .int .u64 x.num, .string x.text, t, .int .i64 x.elem]] W' fun e W2 =>
    (e = .returned (.bool true) ∧ ∃ O2, J (k + 1) O2 W2 ∧ KeepW (fun j => O j ∨ F j) W' O2 W2) ∨ (e = .returned (.bool false) ∧ ∃ O2, Jx O2 W2 ∧ KeepW (fun j => O j ∨ F j) W' O2 W2)



attribute [local go_sem] Oper.semAt_some

def foldD (g : Int → Int → Int) : Int → List (Int × V) → Int
  | m, [] => m
  | m, (d, _) :: r => foldD g (g m d) r
def CellI (wE : World) (r : Nat) (g : Int → Int → Int) (P : Int → Prop) (L : List (Int × V)) (k : Nat) (O : Nat → Prop) (W : World) : Prop :=
  (O = fun j => j = r) ∧ Below wE.heap.size wE W ∧ wE.heap.size ≤ r ∧ ∃ m : Int, P m ∧ W.heap[r]? = some (.cells #[.int .i64 m] 3 (0, 0)) ∧ foldD g m (L.drop k) = foldD g 0 L
theorem CellI.turn {wE W W' : World} {r d : Nat} {g : Int → Int → Int} {P : Int → Prop} {L : List (Int × V)} {k : Nat} {O : Nat → Prop} (h : CellI wE r g P L k O W) (hg : W.grownBy W' (some d)) (hd : wE.heap.size ≤ d) (hO : ¬ O d) : CellI wE r g P L k O W' := by
  obtain ⟨rfl, hB, h1, m, hm, hc, hf⟩ := h
  exact ⟨rfl, ⟨hg.os.trans hB.os, hg.tape.trans hB.tape, hg.output.trans hB.output, Nat.le_trans hB.size hg.size, fun j hj => (hg.block j (Nat.lt_of_lt_of_le hj hB.size) (fun e => by have := Option.some.inj e; omega)).trans (hB.block j hj)⟩, h1, m, hm,
      (hg.block r (Array.getElem?_eq_some_iff.1 hc).1 (fun e => hO (Option.some.inj e).symm)).trans hc, hf⟩
theorem CellI.fresh {wE W : World} {r : Nat} {g : Int → Int → Int} {P : Int → Prop} {L : List (Int × V)} {k : Nat} {O : Nat → Prop} (h : CellI wE r g P L k O W) : ∀ j, O j → j < W.heap.size := by
  obtain ⟨rfl, hB, h1, m, hm, hc, hf⟩ := h
  intro j hj
  have : j = r := hj
  rw [this]
  exact (Array.getElem?_eq_some_iff.1 hc).1

mutual
def V.dep : V → Int
  | .mk _ _ _ l _ => deps l 0 + 1
def deps : List V → Int → Int
  | [], n => n
  | v :: r, n => deps r (max n v.dep)
end
theorem V.dep_eq (v : V) : v.dep = deps v.list 0 + 1 := by cases v; rw [V.dep]; rfl
theorem dep_bd : ∀ v : V, 1 ≤ v.dep ∧ v.dep ≤ v.wt := by
  refine V.ind (fun v ih => ?_)
  have key : ∀ (l : List V), (∀ x ∈ l, 1 ≤ x.dep ∧ x.dep ≤ x.wt) → ∀ n : Int, n ≤ deps l n ∧ deps l n ≤ max n (wts l) := by
    intro l
    induction l with
    | nil => intro _ n; rw [deps]; omega
    | cons a r ihl =>
      intro h n
      obtain ⟨h1, h2⟩ := h a (List.mem_cons_self ..)
      obtain ⟨q1, q2⟩ := ihl (fun x hx => h x (List.mem_cons_of_mem _ hx)) (max n a.dep)
      rw [deps, wts]
      omega
  have h0 := key v.list ih 0
  rw [V.dep_eq, V.wt_eq]
  omega
theorem deps_mono (l : List V) : ∀ n : Int, 0 ≤ n → deps l n = max n (deps l 0) := by
  induction l with
  | nil => intro n hn; rw [deps, deps]; omega
  | cons a r ih =>
    intro n hn
    have h1 := (dep_bd a).1
    rw [deps, deps, ih (max n a.dep) (by omega), ih (max 0 a.dep) (by omega)]
    omega
end Go.Proofs.YtjipennigjlklaaDoor
