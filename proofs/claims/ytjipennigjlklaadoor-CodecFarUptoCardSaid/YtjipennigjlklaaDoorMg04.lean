/-
  Values in memory: as they came in (VIn), and as one's own, each list in a block of its own (VO). Plain lemmas. No conditions.
  The reference's weigh, Great, GreatAll. Conditions: the value lies in memory.
  A region that draws its order, walked by hand: reads that are taken first, steps. It speaks of no program. No conditions.
  The reference's Equal, Order. Conditions: the values lie in memory.
-/
import Derived.Test.YtjipennigjlklaaDoorMg01
import Derived.Test.YtjipennigjlklaaDoorGbA
import Derived.Test.YtjipennigjlklaaDoorRows
import Derived.WalkKit
import Derived.Deep.Draws
import Derived.Deep.DeepCutAuto
import Derived.StillTailTactics
import Derived.Deep.QuietTactic
import Derived.BigQuiet
import Derived.Laws.CopyOwn
import Derived.Laws.Tables
import Derived.Laws.Rows
import Derived.Great.BuildSlice
import Derived.Deep.RegionHeld3
import Derived.Orders
import Derived.OrdersHeld
import Derived.Deep.RegionHeld
namespace Go.Proofs.YtjipennigjlklaaDoor
open Go.RowKit
set_option linter.unusedVariables false

def IsI64 (a : Int) : Prop := -9223372036854775808 ≤ a ∧ a ≤ 9223372036854775807
def IsU64 (a : Int) : Prop := 0 ≤ a ∧ a ≤ 18446744073709551615
structure V.Wf (v : V) : Prop where
  k : IsI64 v.kind
  n : IsU64 v.num
  t : v.text.size ≤ maxLen
  e : IsI64 v.elem

def vcells (v : V) (s : Value) : List Value := [.int .i64 v.kind, .int .u64 v.num, .string v.text, s, .int .i64 v.elem]
theorem vcells_len (v : V) (s : Value) : (vcells v s).length = 5 := rfl
def vrow : List V → (Nat → Value) → List Value
  | [], _ => []
  | v :: r, ss => vcells v (ss 0) ++ vrow r (fun i => ss (i + 1))
theorem vrow_len : ∀ (l : List V) (ss : Nat → Value), (vrow l ss).length = l.length * 5
  | [], _ => rfl
  | v :: r, ss => by rw [vrow, List.length_append, vrow_len r, vcells_len, List.length_cons]; omega
theorem vrow_get : ∀ (l : List V) (ss : Nat → Value) (i j : Nat) (h : i < l.length), j < 5 → (vrow l ss)[i * 5 + j]? = (vcells l[i] (ss i))[j]?
  | [], _, i, _, h, _ => by simp at h
  | v :: r, ss, i, j, h, hj => by
    rw [vrow]
    cases i with
    | zero => rw [List.getElem?_append_left (by rw [vcells_len]; omega)]; simp
    | succ i =>
      rw [List.getElem?_append_right (by rw [vcells_len]; omega), vcells_len, show (i + 1) * 5 + j - 5 = i * 5 + j by omega]
      have := vrow_get r (fun i => ss (i + 1)) i j (by simpa using h) hj
      simpa using this
theorem vrow_congr : ∀ (l : List V) (ss tt : Nat → Value), (∀ i, i < l.length → ss i = tt i) → vrow l ss = vrow l tt
  | [], _, _, _ => rfl
  | v :: r, ss, tt, h => by
    rw [vrow, vrow, h 0 (by simp), vrow_congr r _ (fun i => tt (i + 1)) (fun i hi => h (i + 1) (by simpa using hi))]
theorem vrow_snoc : ∀ (l : List V) (x : V) (ss : Nat → Value), vrow (l ++ [x]) ss = vrow l ss ++ vcells x (ss l.length)
  | [], x, ss => by simp [vrow]
  | v :: r, x, ss => by rw [List.cons_append, vrow, vrow, vrow_snoc r x, List.append_assoc]; rfl

theorem bs_cellV {w w' : World} {a : Addr} {u : Value} (hb : Below w.heap.size w w') (h : w.cell? a = some u) : w'.cell? a = some u := (World.cell?_of_block (hb.block _ (World.block_lt_of_cell? w a h))).trans h

inductive VIn (w : World) : V → Value → Prop
  | mk (v : V) (p : Option Addr) (c : Nat) (ss : Nat → Value) (wf : v.Wf) (hc : v.list.length ≤ c) (hm : c ≤ maxLen) (ha : 0 < v.list.length → ∃ b o, p = some ⟨b, o, none⟩)
      (hcell : ∀ b o, p = some ⟨b, o, none⟩ → ∀ i (h : i < v.list.length), w.rangeAt b (o + i * 5) (vcells v.list[i] (ss i))) (hin : ∀ i (h : i < v.list.length), VIn w v.list[i] (ss i)) : VIn w v (.slice p v.list.length c)

section
variable {w w' : World} {v : V} {s : Value} {B B' : Nat} {F : Nat → Prop}

theorem VIn.wf (h : VIn w v s) : v.Wf := by cases h; assumption
theorem VIn.slice (h : VIn w v s) : ∃ p c, s = .slice p v.list.length c ∧ v.list.length ≤ c ∧ c ≤ maxLen ∧ (0 < v.list.length → ∃ b o, p = some ⟨b, o, none⟩) := by
  cases h with
  | mk _ p c ss wf hc hm ha hcell hin => exact ⟨p, c, rfl, hc, hm, ha⟩
theorem VIn.part (h : VIn w v s) {b o n c : Nat} (hs : s = .slice (some ⟨b, o, none⟩) n c) {i : Nat} (hi : i < v.list.length) : ∃ t, w.rangeAt b (o + i * 5) (vcells v.list[i] t) ∧ VIn w v.list[i] t := by
  cases h with
  | mk _ p c' ss wf hc hm ha hcell hin =>
    simp only [Value.slice.injEq] at hs
    exact ⟨ss i, hcell b o hs.1 i hi, hin i hi⟩
theorem VIn.blw (h : VIn w v s) (hb : Below w.heap.size w w') : VIn w' v s := by
  induction h with
  | mk v p c ss wf hc hm ha hcell hin ih =>
    exact .mk v p c ss wf hc hm ha (fun b o e i hi j u hu => bs_cellV hb (hcell b o e i hi j u hu)) ih

inductive VO (w : World) (B : Nat) : V → Value → (Nat → Prop) → Prop
  | mk (v : V) (s : Value) (F : Nat → Prop) (ss : Nat → Value) (Fs : Nat → Nat → Prop) (wf : v.Wf) (hrow : w.ownsRow B 25 5 s v.list.length (vrow v.list ss)) (hin : ∀ i (h : i < v.list.length), VO w B v.list[i] (ss i) (Fs i))
      (hd : ∀ i j, i < v.list.length → j < v.list.length → i ≠ j → ∀ b, Fs i b → ¬ Fs j b) (hs : ∀ g, s.ownBlock = some g → ∀ i, i < v.list.length → ¬ Fs i g) (hF : ∀ b, F b ↔ (s.ownBlock = some b ∨ ∃ i, i < v.list.length ∧ Fs i b)) : VO w B v s F

theorem VO.wf (h : VO w B v s F) : v.Wf := by cases h; assumption
theorem VO.lt (h : VO w B v s F) : ∀ b, F b → B ≤ b ∧ b < w.heap.size := by
  induction h with
  | mk v s F ss Fs wf hrow hin hd hs hF ih =>
    intro b hb
    rcases (hF b).1 hb with q | ⟨i, hi, q⟩
    · exact hrow.lt b q
    · exact ih i hi b q
theorem VO.keep (h : VO w B v s F) (e : ∀ b, F b → w'.heap[b]? = w.heap[b]?) : VO w' B v s F := by
  induction h with
  | mk v s F ss Fs wf hrow hin hd hs hF ih =>
    exact .mk v s F ss Fs wf (ownsRow_keep hrow (fun j hj => e j ((hF j).2 (.inl hj)))) (fun i hi => ih i hi (fun b hb => e b ((hF b).2 (.inr ⟨i, hi, hb⟩)))) hd hs hF
theorem VO.blw (h : VO w B v s F) (hb : Below w.heap.size w w') : VO w' B v s F := h.keep (fun b q => hb.block b (h.lt b q).2)
theorem ownsRow_base {B B' n e K : Nat} {u : Value} {xs : List Value} (h : w.ownsRow B e K u n xs) (hB : ∀ b, u.ownBlock = some b → B' ≤ b) : w.ownsRow B' e K u n xs := by
  refine ⟨h.1, ?_⟩
  rcases h.2 with hn | ⟨g, cap, cur, hv, hbg, hb, rest⟩
  · exact .inl hn
  · exact .inr ⟨g, cap, cur, hv, hB g (by rw [hv]; rfl), hb, rest⟩
theorem VO.base (h : VO w B v s F) (hB : ∀ b, F b → B' ≤ b) : VO w B' v s F := by
  induction h with
  | mk v s F ss Fs wf hrow hin hd hs hF ih =>
    exact .mk v s F ss Fs wf (ownsRow_base hrow (fun b hb => hB b ((hF b).2 (.inl hb)))) (fun i hi => ih i hi (fun b hb => hB b ((hF b).2 (.inr ⟨i, hi, hb⟩)))) hd hs hF
theorem VO.mono (h : VO w B v s F) (hB : B' ≤ B) : VO w B' v s F := h.base (fun b hb => Nat.le_trans hB (h.lt b hb).1)
theorem VO.vin (h : VO w B v s F) : VIn w v s := by
  induction h with
  | mk v s F ss Fs wf hrow hin hd hs hF ih =>
    obtain ⟨p, c, rfl, h1, h2, h3⟩ := ownsRow_form hrow
    refine .mk v p c ss wf h1 h2 (fun q => by obtain ⟨g, e, _⟩ := h3 q; exact ⟨g, 0, e⟩) (fun b o e i hi j u hu => ?_) ih
    obtain ⟨g, e2, _⟩ := h3 (by omega)
    have : b = g ∧ o = 0 := by rw [e] at e2; simp only [Option.some.injEq, Addr.mk.injEq] at e2; exact ⟨e2.1, e2.2.1⟩
    obtain ⟨rfl, rfl⟩ := this
    have hj : j < 5 := (List.getElem?_eq_some_iff.1 hu).1
    rw [e] at hrow
    rw [Nat.zero_add]
    exact ownsRow_cell hrow (by rw [vrow_get _ _ _ _ hi hj]; exact hu)
theorem VO.nil (w : World) (B : Nat) (hw : v.Wf) (hl : v.list = []) : VO w B v (.slice none 0 0) (fun _ => False) := by
  have h0 : v.list.length = 0 := by rw [hl]; rfl
  refine .mk v _ _ (fun _ => undef) (fun _ _ => False) hw ?_ (fun i hi => by omega) (fun _ _ _ _ _ _ h => h.elim) (fun _ _ _ _ h => h) (fun b => ⟨fun h => h.elim, fun h => ?_⟩)
  · rw [hl]; exact World.ownsRow_nil _ _ _ _
  · rcases h with h | ⟨_, _, h⟩
    · cases h
    · exact h
end

def V.with (v : V) (l : List V) : V := .mk v.kind v.num v.text l v.elem
theorem V.with_list (v : V) (l : List V) : (v.with l).list = l := rfl
section
variable {w w' wr : World} {v x : V} {s s' t : Value} {B : Nat} {F Fx : Nat → Prop} {l : List V}
end

theorem part_cells {w : World} {b o i : Nat} {x : V} {t : Value} (h : w.rangeAt b (o + i * 5) (vcells x t)) : w.cell? ⟨b, o + i * 5, none⟩ = some (.int .i64 x.kind) ∧ w.cell? ⟨b, o + i * 5 + 1, none⟩ = some (.int .u64 x.num) ∧ w.cell? ⟨b, o + i * 5 + 2, none⟩ = some (.string x.text) ∧ w.cell? ⟨b, o + i * 5 + 3, none⟩ = some t ∧ w.cell? ⟨b, o + i * 5 + 4, none⟩ = some (.int .i64 x.elem) :=
  ⟨h 0 _ rfl, h 1 _ rfl, h 2 _ rfl, h 3 _ rfl, h 4 _ rfl⟩

theorem takeD {P : Program} {ops : Array Oper} {Q : Exit → Act → World → Prop} {md : Region.Mode} {S : World → Prop} {i : Nat} {oi : Oper} {v : Value} {fuel : Nat} {listed : Array Bool} {a : Act} {w : World} (d : Option Tmp) (hi : ops[i]? = some oi) (hd : oi.dst = d)
    (hs : Region.noSelect ops = true) (hf : Region.free md ops listed i = true) (hr : (Region.ready md ops listed).contains i = true)
    (hQ : ∀ c a w, Q (.panic c) (a.put oi.dst v) w → Q (.panic c) a w) (hy : YieldsIf P ops S oi v a) (hS : S w)
    (h : wpAnyH P md ops Q S fuel (listed.setIfInBounds i true) (a.put d v) w) : wpAnyH P md ops Q S (fuel + 1) listed a w := by
  subst hd
  exact wpAnyH_take hi hs hf hr hQ hy hS h

theorem yieldsIf_load_row {P : Program} {ops : Array Oper} {S : World → Prop} {o : Oper} {a : Act} (ty : TypeId) (x : Operand) (ho : o.op = .load ty x) (hw : Region.wanted o (yielded ops a.tmps) = true) (g : Nat) (hx : a.eval x = .pointer (some ⟨g, 0, none⟩)) (t : TypeId) (cs : Array Value) (fr : Nat × Nat) (d : TypeDesc) (hg : ∀ V, S V → V.heap[g]? = some (.cells cs t fr))
    (hu : P.underlying ty = some d) (hd : (match d with | .struct _ | .array _ _ => true | _ => false) = true) (hi : (P.info? ty).map (·.size) = some cs.size) : YieldsIf P ops S o (.agg cs) a := by
  refine .inl ⟨hw, fun V hV => ?_⟩
  unfold execOp
  simp only [ho, hx, Instr.loadAt, Instr.sureAddr, Sem.run_bind, Sem.run_pure, Result.andThen_ok, run_loadVar_row V g t ty cs fr d (hg V hV) hu hd hi]

theorem stepD {P : Program} {ops : Array Oper} {Q : Exit → Act → World → Prop} {md : Region.Mode} {S : World → Prop} {fuel : Nat} {listed : Array Bool} {a : Act} {w : World} {i : Nat} {o : Oper} (ho : ops[i]? = some o) (hw : Region.wanted o (yielded ops a.tmps) = true)
    (h : ∀ K' : Act → World → Prop, Shut (∀ a w, S w → wpAnyH P md ops Q S fuel (listed.setIfInBounds i true) a w → K' a w) → Oper.wp P o a w K' Q) : wpOp P ops Q i (fun a' w' => S w' ∧ wpAnyH P md ops Q S fuel (listed.setIfInBounds i true) a' w') a w := by
  unfold wpOp
  simp only [ho]
  rw [if_pos hw]
  exact .inl (h _ (fun a w h1 h2 => ⟨h1, h2⟩))

theorem wp_region_heldN {P : Program} {ops : Array Oper} {Q : Exit → Act → World → Prop} {id : Nat} {a : Act} {w : World} (S : World → Prop) (f : Nat) (hf : ops.size = f) (hm : P.follows .mixedOrders = true)
    (h : wpAnyH P .any ops Q S f (Array.replicate f false) a w.drew) : (Code.region id ops true).wp P Q a w := by
  subst hf
  exact wp_region_held hm h
theorem sA {α : Type} (l : List α) (i : Nat) (a : α) : l.toArray.setIfInBounds i a = (l.set i a).toArray := List.setIfInBounds_toArray ..
theorem sB {α : Type} {x : α} {xs : List α} {a : α} : (x :: xs).set 0 a = a :: xs := List.set_cons_zero
theorem sC {α : Type} {x : α} {xs : List α} {i : Nat} {a : α} : (x :: xs).set (i + 1) a = x :: xs.set i a := List.set_cons_succ
theorem tkD {P : Program} {ops : Array Oper} {Q : Exit → Act → World → Prop} {md : Region.Mode} {S : World → Prop} {i : Nat} {oi : Oper} {v : Value} {fuel : Nat} {listed : Array Bool} {a : Act} {w : World} (d : Option Tmp) (hi : ops[i]? = some oi) (hd : oi.dst = d)
    (hh : (Region.noSelect ops && (Region.free md ops listed i && (Region.ready md ops listed).contains i)) = true)
    (hQ : ∀ c a w, Q (.panic c) (a.put oi.dst v) w → Q (.panic c) a w) (hy : YieldsIf P ops S oi v a) (hS : S w)
    (h : wpAnyH P md ops Q S fuel (listed.setIfInBounds i true) (a.put d v) w) : wpAnyH P md ops Q S (fuel + 1) listed a w := by
  rw [Bool.and_eq_true, Bool.and_eq_true] at hh
  exact takeD d hi hd hh.1 hh.2.1 hh.2.2 hQ hy hS h
theorem oneH {P : Program} {ops : Array Oper} {Q : Exit → Act → World → Prop} {md : Region.Mode} {S : World → Prop} {fuel : Nat} {listed : Array Bool} {a : Act} {w : World} {i : Nat} (hr : Region.ready md ops listed = [i])
    (h : wpOp P ops Q i (fun a' w' => S w' ∧ wpAnyH P md ops Q S fuel (listed.setIfInBounds i true) a' w') a w) : wpAnyH P md ops Q S (fuel + 1) listed a w :=
  wpAnyH_all hr (by simp) (fun j hj => by
    simp only [List.mem_cons, List.not_mem_nil, or_false] at hj
    subst hj
    exact h)

theorem teq (a b : ByteArray) : (a.toList == b.toList) = decide (a = b) := by
  rw [ByteArray.toList_eq, ByteArray.toList_eq, Bool.eq_iff_iff]
  simp only [beq_iff_eq, decide_eq_true_eq]
  exact ⟨fun h => by cases a; cases b; congr 1; exact Array.toList_inj.1 h, fun h => by rw [h]⟩
theorem list_ext_k {a b : List V} (hl : a.length = b.length) (h : ∀ j (h1 : j < a.length) (h2 : j < b.length), a[j] = b[j]) : a = b := List.ext_getElem hl h
end Go.Proofs.YtjipennigjlklaaDoor
