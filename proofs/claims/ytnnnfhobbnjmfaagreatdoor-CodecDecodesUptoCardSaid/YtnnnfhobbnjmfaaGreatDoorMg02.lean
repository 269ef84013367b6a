/-
  Lemmas on the codec. Conditions: as each says.
-/
import Derived.Test.YtnnnfhobbnjmfaaGreatDoorMg01
import Derived.Test.YtnnnfhobbnjmfaaGreatDoorProg
import Derived.Great.BuildSlice
import Derived.Laws.CopyOwn
import Derived.Laws.Tables
import Derived.Test.YtnnnfhobbnjmfaaGreatDoorRows
import Derived.WalkKit
import Derived.Deep.Draws
import Derived.Deep.DeepCutAuto
import Derived.StillTailTactics
import Derived.Deep.QuietTactic
import Derived.BigQuiet
import Derived.Laws.Rows
import Derived.Deep.RegionHeld3
import Derived.Orders
import Derived.OrdersHeld
import Derived.Deep.RegionHeld
import Derived.Shelf.Small.Bits
import Derived.Shelf.Small.Strs
import Derived.Shelf.Small.Wraps
import Derived.Shelf.Strconv.Itoa0
import Derived.Shelf.Unicode.DecodeSlow
import Derived.Shelf.Unicode.DecodeAny
import Derived.Ground.Names2Prog
import Derived.Shelf.Slices.SearchI
namespace Go.Proofs.YtnnnfhobbnjmfaaGreatDoor
open Go.RowKit Go.Proofs.Tryz
set_option linter.all false
set_option maxHeartbeats 40000000
set_option maxRecDepth 20000
theorem zH {p : Prop} (h : p) : Hid p := Lib.hid h
theorem zN (w : World) (o : Obj) : (w.alloc o).heap[w.heap.size]? = some o := _root_.Go.heap_alloc_new w o
abbrev zR : Array Value := #[.int .i64 0, .int .u64 0, .string ⟨#[]⟩, .slice none 0 0, .int .i64 0]
theorem stV {ops : Array Oper} {rest : List Oper} {o : Oper} {a : Act} {w : World} {Q : Exit → Act → World → Prop} (x y : Operand) (hgd : o.guard = none) (ho : o.op = .store 25 x y) (hd : o.dst = none) {g : Nat} {k n e : Int} {s : ByteArray} {p : Option Addr} {m c : Nat} {old : Array Value}
  (hx : a.eval x = .pointer (some ⟨g, 0, none⟩)) (hy : a.eval y = .agg #[.int .i64 k, .int .u64 n, .string s, .slice p m c, .int .i64 e]) (hg : w.heap[g]? = some (.cells old 25 (0, 0))) (hold : old.size = 5)
  (h : wpList Tryz.prog ops Q rest a (w.setRow g #[.int .i64 k, .int .u64 n, .string s, .slice p m c, .int .i64 e])) : wpList Tryz.prog ops Q (o :: rest) a w :=
 wpList_store_rowTo hgd 25 x y ho hd g _ hx hy 25 old hg (by as_aux_lemma => kernel_rfl) hold (by simp [Value.oneCell']) h
theorem layW {P : Program} {c : Code} {Q : Exit → Act → World → Prop} {a : Act} (A : World) {R : Array Value} (h : ∀ B : World, Below A.heap.size A B → B.heap[A.heap.size]? = some (.cells R 25 (0, 0)) → Code.wp P c Q a B) : Code.wp P c Q a ((A.alloc (.cells zR 25)).setRow A.heap.size R) :=
 h _ (below_setRow ((Below.refl _ _).alloc (Nat.le_refl _) _) (Nat.le_refl _) _) (setRow_heap _ _ _ _ _ _ (_root_.Go.heap_alloc_new A _))
theorem c3 {w : World} {g : Nat} {a b c : Value} {t : TypeId} {fr : Nat × Nat} (h : w.heap[g]? = some (.cells #[a, b, c] t fr)) : w.cell? ⟨g, 0, none⟩ = some a ∧ w.cell? ⟨g, 1, none⟩ = some b ∧ w.cell? ⟨g, 2, none⟩ = some c :=
 ⟨(cell_of_row _ _ 0 _ _ _ h).trans rfl, (cell_of_row _ _ 1 _ _ _ h).trans rfl, (cell_of_row _ _ 2 _ _ _ h).trans rfl⟩
theorem c5 {w : World} {g : Nat} {a b c d e : Value} {t : TypeId} {fr : Nat × Nat} (h : w.heap[g]? = some (.cells #[a, b, c, d, e] t fr)) : w.cell? ⟨g, 0, none⟩ = some a ∧ w.cell? ⟨g, 1, none⟩ = some b ∧ w.cell? ⟨g, 2, none⟩ = some c ∧ w.cell? ⟨g, 3, none⟩ = some d ∧ w.cell? ⟨g, 4, none⟩ = some e :=
 ⟨(cell_of_row _ _ 0 _ _ _ h).trans rfl, (cell_of_row _ _ 1 _ _ _ h).trans rfl, (cell_of_row _ _ 2 _ _ _ h).trans rfl, (cell_of_row _ _ 3 _ _ _ h).trans rfl, (cell_of_row _ _ 4 _ _ _ h).trans rfl⟩

def IsI64 (a : Int) : Prop := -9223372036854775808 ≤ a ∧ a ≤ 9223372036854775807
def IsU64 (a : Int) : Prop := 0 ≤ a ∧ a ≤ 18446744073709551615
structure V.Wf (v : V) : Prop where
 k : IsI64 v.kind
 n : IsU64 v.num
 t : v.text.size ≤ maxLen
 e : IsI64 v.elem

def vcells (v : V) (s : Value) : List Value := [.int .i64 v.kind, .int .u64 v.num, .string v.text, s, .int .i64 v.elem]
theorem vcells_len (v : V) (s : Value) : (vcells v s).length = 5 := rfl
def vrow : List V → (Nat → Value) → List Value
 | [], _ => []
 | v :: r, ss => vcells v (ss 0) ++ vrow r (fun i => ss (i + 1))
theorem vrow_len : ∀ (l : List V) (ss : Nat → Value), (vrow l ss).length = l.length * 5
 | [], _ => rfl
 | v :: r, ss => by rw [vrow, List.length_append, vrow_len r, vcells_len, List.length_cons]; omega
theorem vrow_get : ∀ (l : List V) (ss : Nat → Value) (i j : Nat) (h : i < l.length), j < 5 → (vrow l ss)[i * 5 + j]? = (vcells l[i] (ss i))[j]?
 | [], _, i, _, h, _ => by simp at h
 | v :: r, ss, i, j, h, hj => by
  rw [vrow]
  cases i with
  | zero => rw [List.getElem?_append_left (by rw [vcells_len]; omega)]; simp
  | succ i =>
   rw [List.getElem?_append_right (by rw [vcells_len]; omega), vcells_len, show (i + 1) * 5 + j - 5 = i * 5 + j by omega]
   have := vrow_get r (fun i => ss (i + 1)) i j (by simpa using h) hj
   simpa using this
theorem vrow_congr : ∀ (l : List V) (ss tt : Nat → Value), (∀ i, i < l.length → ss i = tt i) → vrow l ss = vrow l tt
 | [], _, _, _ => rfl
 | v :: r, ss, tt, h => by
  rw [vrow, vrow, h 0 (by simp), vrow_congr r _ (fun i => tt (i + 1)) (fun i hi => h (i + 1) (by simpa using hi))]
theorem vrow_snoc : ∀ (l : List V) (x : V) (ss : Nat → Value), vrow (l ++ [x]) ss = vrow l ss ++ vcells x (ss l.length)
 | [], x, ss => by simp [vrow]
 | v :: r, x, ss => by rw [List.cons_append, vrow, vrow, vrow_snoc r x, List.append_assoc]; rfl

theorem bs_cellV {w w' : World} {a : Addr} {u : Value} (hb : Below w.heap.size w w') (h : w.cell? a = some u) : w'.cell? a = some u := (World.cell?_of_block (hb.block _ (World.block_lt_of_cell? w a h))).trans h

inductive VIn (w : World) : V → Value → Prop
 | mk (v : V) (p : Option Addr) (c : Nat) (ss : Nat → Value) (wf : v.Wf) (hc : v.list.length ≤ c) (hm : c ≤ maxLen) (ha : 0 < v.list.length → ∃ b o, p = some ⟨b, o, none⟩)
   (hcell : ∀ b o, p = some ⟨b, o, none⟩ → ∀ i (h : i < v.list.length), w.rangeAt b (o + i * 5) (vcells v.list[i] (ss i))) (hin : ∀ i (h : i < v.list.length), VIn w v.list[i] (ss i)) : VIn w v (.slice p v.list.length c)

section
variable {w w' : World} {v : V} {s : Value} {B B' : Nat} {F : Nat → Prop}

theorem VIn.wf (h : VIn w v s) : v.Wf := by cases h; assumption
theorem VIn.slice (h : VIn w v s) : ∃ p c, s = .slice p v.list.length c ∧ v.list.length ≤ c ∧ c ≤ maxLen ∧ (0 < v.list.length → ∃ b o, p = some ⟨b, o, none⟩) := by
 cases h with
 | mk _ p c ss wf hc hm ha hcell hin => exact ⟨p, c, rfl, hc, hm, ha⟩
theorem VIn.part (h : VIn w v s) {b o n c : Nat} (hs : s = .slice (some ⟨b, o, none⟩) n c) {i : Nat} (hi : i < v.list.length) : ∃ t, w.rangeAt b (o + i * 5) (vcells v.list[i] t) ∧ VIn w v.list[i] t := by
 cases h with
 | mk _ p c' ss wf hc hm ha hcell hin =>
  simp only [Value.slice.injEq] at hs
  exact ⟨ss i, hcell b o hs.1 i hi, hin i hi⟩
theorem VIn.blw (h : VIn w v s) (hb : Below w.heap.size w w') : VIn w' v s := by
 induction h with
 | mk v p c ss wf hc hm ha hcell hin ih =>
  exact .mk v p c ss wf hc hm ha (fun b o e i hi j u hu => bs_cellV hb (hcell b o e i hi j u hu)) ih

inductive VO (w : World) (B : Nat) : V → Value → (Nat → Prop) → Prop
 | mk (v : V) (s : Value) (F : Nat → Prop) (ss : Nat → Value) (Fs : Nat → Nat → Prop) (wf : v.Wf) (hrow : w.ownsRow B 25 5 s v.list.length (vrow v.list ss)) (hin : ∀ i (h : i < v.list.length), VO w B v.list[i] (ss i) (Fs i))
   (hd : ∀ i j, i < v.list.length → j < v.list.length → i ≠ j → ∀ b, Fs i b → ¬ Fs j b) (hs : ∀ g, s.ownBlock = some g → ∀ i, i < v.list.length → ¬ Fs i g) (hF : ∀ b, F b ↔ (s.ownBlock = some b ∨ ∃ i, i < v.list.length ∧ Fs i b)) : VO w B v s F

theorem VO.wf (h : VO w B v s F) : v.Wf := by cases h; assumption
theorem VO.lt (h : VO w B v s F) : ∀ b, F b → B ≤ b ∧ b < w.heap.size := by
 induction h with
 | mk v s F ss Fs wf hrow hin hd hs hF ih =>
  intro b hb
  rcases (hF b).1 hb with q | ⟨i, hi, q⟩
  ·exact hrow.lt b q
  ·exact ih i hi b q
theorem VO.keep (h : VO w B v s F) (e : ∀ b, F b → w'.heap[b]? = w.heap[b]?) : VO w' B v s F := by
 induction h with
 | mk v s F ss Fs wf hrow hin hd hs hF ih =>
  exact .mk v s F ss Fs wf (ownsRow_keep hrow (fun j hj => e j ((hF j).2 (.inl hj)))) (fun i hi => ih i hi (fun b hb => e b ((hF b).2 (.inr ⟨i, hi, hb⟩)))) hd hs hF
theorem VO.blw (h : VO w B v s F) (hb : Below w.heap.size w w') : VO w' B v s F := h.keep (fun b q => hb.block b (h.lt b q).2)
theorem ownsRow_base {B B' n e K : Nat} {u : Value} {xs : List Value} (h : w.ownsRow B e K u n xs) (hB : ∀ b, u.ownBlock = some b → B' ≤ b) : w.ownsRow B' e K u n xs := by
 refine ⟨h.1, ?_⟩
 rcases h.2 with hn | ⟨g, cap, cur, hv, hbg, hb, rest⟩
 ·exact .inl hn
 ·exact .inr ⟨g, cap, cur, hv, hB g (by rw [hv]; rfl), hb, rest⟩
theorem VO.base (h : VO w B v s F) (hB : ∀ b, F b → B' ≤ b) : VO w B' v s F := by
 induction h with
 | mk v s F ss Fs wf hrow hin hd hs hF ih =>
  exact .mk v s F ss Fs wf (ownsRow_base hrow (fun b hb => hB b ((hF b).2 (.inl hb)))) (fun i hi => ih i hi (fun b hb => hB b ((hF b).2 (.inr ⟨i, hi, hb⟩)))) hd hs hF
theorem VO.mono (h : VO w B v s F) (hB : B' ≤ B) : VO w B' v s F := h.base (fun b hb => Nat.le_trans hB (h.lt b hb).1)
theorem VO.vin (h : VO w B v s F) : VIn w v s := by
 induction h with
 | mk v s F ss Fs wf hrow hin hd hs hF ih =>
  obtain ⟨p, c, rfl, h1, h2, h3⟩ := ownsRow_form hrow
  refine .mk v p c ss wf h1 h2 (fun q => by obtain ⟨g, e, _⟩ := h3 q; exact ⟨g, 0, e⟩) (fun b o e i hi j u hu => ?_) ih
  obtain ⟨g, e2, _⟩ := h3 (by omega)
  have : b = g ∧ o = 0 := by rw [e] at e2; simp only [Option.some.injEq, Addr.mk.injEq] at e2; exact ⟨e2.1, e2.2.1⟩
  obtain ⟨rfl, rfl⟩ := this
  have hj : j < 5 := (List.getElem?_eq_some_iff.1 hu).1
  rw [e] at hrow
  rw [Nat.zero_add]
  exact ownsRow_cell hrow (by rw [vrow_get _ _ _ _ hi hj]; exact hu)
theorem VO.nil (w : World) (B : Nat) (hw : v.Wf) (hl : v.list = []) : VO w B v (.slice none 0 0) (fun _ => False) := by
 have h0 : v.list.length = 0 := by rw [hl]; rfl
 refine .mk v _ _ (fun _ => undef) (fun _ _ => False) hw ?_ (fun i hi => by omega) (fun _ _ _ _ _ _ h => h.elim) (fun _ _ _ _ h => h) (fun b => ⟨fun h => h.elim, fun h => ?_⟩)
 ·rw [hl]; exact World.ownsRow_nil _ _ _ _
 ·rcases h with h | ⟨_, _, h⟩
  ·cases h
  ·exact h
end

def V.with (v : V) (l : List V) : V := .mk v.kind v.num v.text l v.elem
theorem V.with_list (v : V) (l : List V) : (v.with l).list = l := rfl
section
variable {w w' wr : World} {v x : V} {s s' t : Value} {B : Nat} {F Fx : Nat → Prop} {l : List V}
theorem VO.push (h : VO w B (v.with l) s F) (hx : VO w B x t Fx) (hdj : ∀ b, F b → ¬ Fx b) (hB : B ≤ w.heap.size) :
  ∃ xs, w.ownsRow B 25 5 s l.length xs ∧ ∀ w' s', App1 w w' B 25 5 l.length s s' (xs ++ vcells x t) → ∃ F', VO w' B (v.with (l ++ [x])) s' F' ∧ ∀ b, F' b → F b ∨ Fx b ∨ w.heap.size ≤ b := by
 obtain ⟨_, _, _, ss, Fs, wf, hrow, hin, hd, hs, hF⟩ := h
 simp only [V.with_list] at hrow hin hd hs hF
 refine ⟨_, hrow, fun w' s' hA => ?_⟩
 have hg := hA.grown
 have hown := hA.owns hB
 refine ⟨fun b => s'.ownBlock = some b ∨ ∃ i, i < (l ++ [x]).length ∧ (if i < l.length then Fs i else Fx) b, .mk _ _ _ (fun i => if i < l.length then ss i else t) (fun i => if i < l.length then Fs i else Fx) ⟨wf.k, wf.n, wf.t, wf.e⟩ ?_ ?_ ?_ ?_ (fun b => Iff.rfl), fun b hb => ?_⟩
 ·simp only [V.with_list]
  rw [List.length_append, List.length_singleton, vrow_snoc, if_neg (Nat.lt_irrefl _), vrow_congr l _ ss (fun i hi => if_pos hi)]
  exact hown
 ·intro i hi
  simp only [V.with_list] at hi ⊢
  by_cases hil : i < l.length
  ·simp only [if_pos hil, List.getElem_append_left hil]
   refine (hin i hil).keep (fun b hb => hg.block b ((hin i hil).lt b hb).2 (fun q => hs b q.symm i hil hb))
  ·have hie : i = l.length := by simp at hi; omega
   subst hie
   simp only [if_neg hil, List.getElem_append_right (Nat.le_refl _), Nat.sub_self, List.getElem_cons_zero]
   exact hx.keep (fun b hb => hg.block b (hx.lt b hb).2 (fun q => hdj b ((hF b).2 (.inl q.symm)) hb))
 ·intro i j hi hj hij b hbi hbj
  simp only [V.with_list, List.length_append, List.length_singleton] at hi hj
  by_cases hil : i < l.length
  ·rw [if_pos hil] at hbi
   by_cases hjl : j < l.length
   ·rw [if_pos hjl] at hbj
    exact hd i j hil hjl hij b hbi hbj
   ·rw [if_neg hjl] at hbj
    exact hdj b ((hF b).2 (.inr ⟨i, hil, hbi⟩)) hbj
  ·rw [if_neg hil] at hbi
   have hjl : j < l.length := by omega
   rw [if_pos hjl] at hbj
   exact hdj b ((hF b).2 (.inr ⟨j, hjl, hbj⟩)) hbi
 ·intro g hgs i hi hb
  simp only [V.with_list, List.length_append, List.length_singleton] at hi
  rcases hA.own hgs with q | q
  ·by_cases hil : i < l.length
   ·rw [if_pos hil] at hb
    exact hs g q i hil hb
   ·rw [if_neg hil] at hb
    exact hdj g ((hF g).2 (.inl q)) hb
  ·by_cases hil : i < l.length
   ·rw [if_pos hil] at hb
    have := ((hin i hil).lt g hb).2; omega
   ·rw [if_neg hil] at hb
    have := (hx.lt g hb).2; omega
 ·rcases hb with hb | ⟨i, hi, hb⟩
  ·rcases hA.own hb with q | q
   ·exact .inl ((hF b).2 (.inl q))
   ·exact .inr (.inr (by omega))
  ·by_cases hil : i < l.length
   ·rw [if_pos hil] at hb
    exact .inl ((hF b).2 (.inr ⟨i, hil, hb⟩))
   ·rw [if_neg hil] at hb
    exact .inr (.inl hb)
end

theorem part_cells {w : World} {b o i : Nat} {x : V} {t : Value} (h : w.rangeAt b (o + i * 5) (vcells x t)) : w.cell? ⟨b, o + i * 5, none⟩ = some (.int .i64 x.kind) ∧ w.cell? ⟨b, o + i * 5 + 1, none⟩ = some (.int .u64 x.num) ∧ w.cell? ⟨b, o + i * 5 + 2, none⟩ = some (.string x.text) ∧ w.cell? ⟨b, o + i * 5 + 3, none⟩ = some t ∧ w.cell? ⟨b, o + i * 5 + 4, none⟩ = some (.int .i64 x.elem) :=
 ⟨h 0 _ rfl, h 1 _ rfl, h 2 _ rfl, h 3 _ rfl, h 4 _ rfl⟩

theorem takeD {P : Program} {ops : Array Oper} {Q : Exit → Act → World → Prop} {md : Region.Mode} {S : World → Prop} {i : Nat} {oi : Oper} {v : Value} {fuel : Nat} {listed : Array Bool} {a : Act} {w : World} (d : Option Tmp) (hi : ops[i]? = some oi) (hd : oi.dst = d)
  (hs : Region.noSelect ops = true) (hf : Region.free md ops listed i = true) (hr : (Region.ready md ops listed).contains i = true)
  (hQ : ∀ c a w, Q (.panic c) (a.put oi.dst v) w → Q (.panic c) a w) (hy : YieldsIf P ops S oi v a) (hS : S w)
  (h : wpAnyH P md ops Q S fuel (listed.setIfInBounds i true) (a.put d v) w) : wpAnyH P md ops Q S (fuel + 1) listed a w := by
 subst hd
 exact wpAnyH_take hi hs hf hr hQ hy hS h

theorem yieldsIf_load_row {P : Program} {ops : Array Oper} {S : World → Prop} {o : Oper} {a : Act} (ty : TypeId) (x : Operand) (ho : o.op = .load ty x) (hw : Region.wanted o (yielded ops a.tmps) = true) (g : Nat) (hx : a.eval x = .pointer (some ⟨g, 0, none⟩)) (t : TypeId) (cs : Array Value) (fr : Nat × Nat) (d : TypeDesc) (hg : ∀ V, S V → V.heap[g]? = some (.cells cs t fr))
  (hu : P.underlying ty = some d) (hd : (match d with | .struct _ | .array _ _ => true | _ => false) = true) (hi : (P.info? ty).map (·.size) = some cs.size) : YieldsIf P ops S o (.agg cs) a := by
 refine .inl ⟨hw, fun V hV => ?_⟩
 unfold execOp
 simp only [ho, hx, Instr.loadAt, Instr.sureAddr, Sem.run_bind, Sem.run_pure, Result.andThen_ok, run_loadVar_row V g t ty cs fr d (hg V hV) hu hd hi]

theorem stepD {P : Program} {ops : Array Oper} {Q : Exit → Act → World → Prop} {md : Region.Mode} {S : World → Prop} {fuel : Nat} {listed : Array Bool} {a : Act} {w : World} {i : Nat} {o : Oper} (ho : ops[i]? = some o) (hw : Region.wanted o (yielded ops a.tmps) = true)
  (h : ∀ K' : Act → World → Prop, Shut (∀ a w, S w → wpAnyH P md ops Q S fuel (listed.setIfInBounds i true) a w → K' a w) → Oper.wp P o a w K' Q) : wpOp P ops Q i (fun a' w' => S w' ∧ wpAnyH P md ops Q S fuel (listed.setIfInBounds i true) a' w') a w := by
 unfold wpOp
 simp only [ho]
 rw [if_pos hw]
 exact .inl (h _ (fun a w h1 h2 => ⟨h1, h2⟩))

theorem wp_region_heldN {P : Program} {ops : Array Oper} {Q : Exit → Act → World → Prop} {id : Nat} {a : Act} {w : World} (S : World → Prop) (f : Nat) (hf : ops.size = f) (hm : P.follows .mixedOrders = true)
  (h : wpAnyH P .any ops Q S f (Array.replicate f false) a w.drew) : (Code.region id ops true).wp P Q a w := by
 subst hf
 exact wp_region_held hm h
theorem sA {α : Type} (l : List α) (i : Nat) (a : α) : l.toArray.setIfInBounds i a = (l.set i a).toArray := List.setIfInBounds_toArray ..
theorem sB {α : Type} {x : α} {xs : List α} {a : α} : (x :: xs).set 0 a = a :: xs := List.set_cons_zero
theorem sC {α : Type} {x : α} {xs : List α} {i : Nat} {a : α} : (x :: xs).set (i + 1) a = x :: xs.set i a := List.set_cons_succ
theorem tkD {P : Program} {ops : Array Oper} {Q : Exit → Act → World → Prop} {md : Region.Mode} {S : World → Prop} {i : Nat} {oi : Oper} {v : Value} {fuel : Nat} {listed : Array Bool} {a : Act} {w : World} (d : Option Tmp) (hi : ops[i]? = some oi) (hd : oi.dst = d)
  (hh : (Region.noSelect ops && (Region.free md ops listed i && (Region.ready md ops listed).contains i)) = true)
  (hQ : ∀ c a w, Q (.panic c) (a.put oi.dst v) w → Q (.panic c) a w) (hy : YieldsIf P ops S oi v a) (hS : S w)
  (h : wpAnyH P md ops Q S fuel (listed.setIfInBounds i true) (a.put d v) w) : wpAnyH P md ops Q S (fuel + 1) listed a w := by
 rw [Bool.and_eq_true, Bool.and_eq_true] at hh
 exact takeD d hi hd hh.1 hh.2.1 hh.2.2 hQ hy hS h
theorem oneH {P : Program} {ops : Array Oper} {Q : Exit → Act → World → Prop} {md : Region.Mode} {S : World → Prop} {fuel : Nat} {listed : Array Bool} {a : Act} {w : World} {i : Nat} (hr : Region.ready md ops listed = [i])
  (h : wpOp P ops Q i (fun a' w' => S w' ∧ wpAnyH P md ops Q S fuel (listed.setIfInBounds i true) a' w') a w) : wpAnyH P md ops Q S (fuel + 1) listed a w :=
 wpAnyH_all hr (by simp) (fun j hj => by
  simp only [List.mem_cons, List.not_mem_nil, or_false] at hj
  subst hj
  exact h)

theorem teq (a b : ByteArray) : (a.toList == b.toList) = decide (a = b) := by
 rw [ByteArray.toList_eq, ByteArray.toList_eq, Bool.eq_iff_iff]
 simp only [beq_iff_eq, decide_eq_true_eq]
 exact ⟨fun h => by cases a; cases b; congr 1; exact Array.toList_inj.1 h, fun h => by rw [h]⟩
theorem list_ext_k {a b : List V} (hl : a.length = b.length) (h : ∀ j (h1 : j < a.length) (h2 : j < b.length), a[j] = b[j]) : a = b := List.ext_getElem hl h
theorem requal_any : ∀ (a : V) (w : World) (s : Value) (b : V) (t : Value), VIn w a s -> VIn w b t →
  Calls Tryz.prog 27 #[.agg #[.int .i64 a.kind, .int .u64 a.num, .string a.text, s, .int .i64 a.elem], .agg #[.int .i64 b.kind, .int .u64 b.num, .string b.text, t, .int .i64 b.elem]] w fun e w' => e = .returned (.bool (decide (a = b))) ∧ Below w.heap.size w w' := by
 refine V.ind (fun a ih w s b t h hb => ?_)
 obtain ⟨p, c, hs, h1, h2, h3⟩ := h.slice
 obtain ⟨q, d, ht, k1, k2, k3⟩ := hb.slice
 obtain ⟨N, hN⟩ : ∃ N, a.list.length = N := ⟨_, rfl⟩
 obtain ⟨M, hM⟩ : ∃ M, b.list.length = M := ⟨_, rfl⟩
 rw [hN] at hs h1 h3
 rw [hM] at ht k1 k3
 subst hs ht
 unfold maxLen at h2 k2
 obtain ⟨D, hD⟩ : ∃ D, decide (a = b) = D := ⟨_, rfl⟩
 rw [hD]
 have HD := zH hD
 clear hD
 have HI := zH ih
 have HN := zH (And.intro hN hM)
 have HV := zH (And.intro h hb)
 clear ih h hb hN hM
 go_enter Tryz.func27, Tryz.ntmps27
 go_upto_region 1 with fail
 have hb0 : Below w.heap.size w ((w.alloc (.cells #[.int .i64 a.kind, .int .u64 a.num, .string a.text, (.slice p N c), .int .i64 a.elem] 25)).alloc (.cells #[.int .i64 b.kind, .int .u64 b.num, .string b.text, (.slice q M d), .int .i64 b.elem] 25)) := (((Below.refl _ _).alloc (Nat.le_refl _) _).alloc (by simp) _)
 have ox : ((w.alloc (.cells #[.int .i64 a.kind, .int .u64 a.num, .string a.text, (.slice p N c), .int .i64 a.elem] 25)).alloc (.cells #[.int .i64 b.kind, .int .u64 b.num, .string b.text, (.slice q M d), .int .i64 b.elem] 25)).heap[w.heap.size]? = some (.cells #[.int .i64 a.kind, .int .u64 a.num, .string a.text, (.slice p N c), .int .i64 a.elem] 25 (0, 0)) := (_root_.Go.heap_alloc_old _ _ (by simp)).trans (zN _ _)
 have oy : ((w.alloc (.cells #[.int .i64 a.kind, .int .u64 a.num, .string a.text, (.slice p N c), .int .i64 a.elem] 25)).alloc (.cells #[.int .i64 b.kind, .int .u64 b.num, .string b.text, (.slice q M d), .int .i64 b.elem] 25)).heap[w.heap.size + 1]? = some (.cells #[.int .i64 b.kind, .int .u64 b.num, .string b.text, (.slice q M d), .int .i64 b.elem] 25 (0, 0)) := by have := zN (w.alloc (.cells #[.int .i64 a.kind, .int .u64 a.num, .string a.text, (.slice p N c), .int .i64 a.elem] 25)) (.cells #[.int .i64 b.kind, .int .u64 b.num, .string b.text, (.slice q M d), .int .i64 b.elem] 25); rwa [World.size_alloc] at this
 generalize ((w.alloc (.cells #[.int .i64 a.kind, .int .u64 a.num, .string a.text, (.slice p N c), .int .i64 a.elem] 25)).alloc (.cells #[.int .i64 b.kind, .int .u64 b.num, .string b.text, (.slice q M d), .int .i64 b.elem] 25)) = w0 at *
 obtain ⟨x, hx⟩ : ∃ x, w.heap.size = x := ⟨_, rfl⟩
 rw [hx] at ox oy ⊢
 obtain ⟨y, hy⟩ : ∃ y, x + 1 = y := ⟨_, rfl⟩
 rw [hy] at oy ⊢
 have HB0 := zH hb0
 have HOx := zH ox
 have HOy := zH oy
 clear hb0 ox oy hx hy
 obtain ⟨x0, x1, x2, x3, x4⟩ := c5 HOx.out
 obtain ⟨y0, y1, y2, y3, y4⟩ := c5 HOy.out
 by_cases hk : a.kind = b.kind
 ·have hk_t : (a.kind == b.kind) = true := by simpa using hk
  have Hhk := zH hk
  clear hk
  by_cases hn : a.num = b.num
  ·have hn_t : (a.num == b.num) = true := by simpa using hn
   have Hhn := zH hn
   clear hn
   by_cases htx : a.text = b.text
   ·have htx_t : (a.text.toList == b.text.toList) = true := by rw [teq]; exact decide_eq_true htx
    have Hhtx := zH htx
    clear htx
    by_cases he : a.elem = b.elem
    ·have he_t : (a.elem == b.elem) = true := by simpa using he
     have Hhe := zH he
     clear he
     have HE := zH (And.intro Hhk.out (And.intro Hhn.out (And.intro Hhtx.out Hhe.out)))
     by_cases hNM : N = M
     ·have hNMi : (N : Int) = M := by omega
      have HNM := zH hNM
      go_wp2_with fail
      go_loopw [5] (fun v5 wr => ∃ k : Nat, k <= N ∧ v5 = .int .i64 k ∧ (∀ j (j1 : j < a.list.length) (j2 : j < b.list.length), j < k -> a.list[j] = b.list[j]) ∧ Below w0.heap.size w0 wr) (fun v5 _ => N - (intOf v5).toNat)
      case atStart => exact ⟨0, Nat.zero_le _, rfl, fun j _ _ h => by omega, Below.refl _ _⟩
      case round =>
       obtain ⟨k, hk', rfl, hsame, hbw⟩ := hrel
       have HR := zH (And.intro hsame hbw)
       have x3 := bs_cellV hbw x3
       have y3 := bs_cellV hbw y3
       clear hsame hbw
       by_cases hkN : (k : Int) < N
       ·have ka : k < a.list.length := by rw [HN.out.1]; omega
        have kb : k < b.list.length := by rw [HN.out.2]; omega
        obtain ⟨b1, o1, rfl⟩ := h3 (by omega)
        obtain ⟨b2, o2, rfl⟩ := k3 (by omega)
        have hB := HB0.out.trans (HR.out.2.mono HB0.out.size)
        obtain ⟨ta, hta, hia⟩ := (HV.out.1.blw hB).part rfl ka
        obtain ⟨tb, htb, hib⟩ := (HV.out.2.blw hB).part rfl kb
        obtain ⟨c0, c1, c2, c3, c4⟩ := part_cells hta
        obtain ⟨d0, d1, d2, d3, d4⟩ := part_cells htb
        have hd : Below wr.heap.size wr wr.drew := ⟨rfl, rfl, rfl, Nat.le_refl _, fun _ _ => rfl⟩
        have hc := HI.out _ (List.getElem_mem ka) wr.drew ta _ tb (hia.blw hd) (hib.blw hd)
        have HS := zH (show ∀ j (j1 : j < a.list.length) (j2 : j < b.list.length), j < k + 1 -> (decide (a.list[k] = b.list[k])) = true -> a.list[j] = b.list[j] from fun j j1 j2 hj he => by
         by_cases e : j = k
         ·subst e; exact of_decide_eq_true he
         ·exact HR.out.1 j j1 j2 (by omega))
        have HF := zH (show (decide (a.list[k] = b.list[k])) = false -> D = false from fun he => by
         rw [← HD.out]
         exact decide_eq_false (fun q => of_decide_eq_false he (by simp only [q])))
        generalize decide (a.list[k] = b.list[k]) = z at hc HS HF
        generalize a.list[k] = ya at *
        generalize b.list[k] = yb at *
        clear hB hta htb hia hib hd
        have HC := zH hc
        clear hc
        go_wp2_with fail
        go_still_tail 10, (by kernel_rfl)
        change wpList _ _ _ _ _ wr.drew
        have HDR : Hid (Below w0.heap.size w0 wr.drew) := zH ⟨HR.out.2.os, HR.out.2.tape, HR.out.2.output, HR.out.2.size, HR.out.2.block⟩
        generalize wr.drew = wd at *
        go_wp2_with fail
        refine HC.out.mono ?_
        rintro e w1 ⟨rfl, hb1⟩
        have HB1 := zH (HDR.out.trans (hb1.mono HDR.out.size))
        clear hb1
        cases z
        ·have hDf := HF.out rfl
         subst hDf
         go_wp2_with fail
         go_ret
         exact ⟨rfl, HB0.out.trans (HB1.out.mono HB0.out.size)⟩
        ·go_wp2_with fail
         go_roundw
         case rel => exact ⟨k + 1, by omega, by go_num, fun j j1 j2 hj => HS.out j j1 j2 hj (by first | rfl | trivial), HB1.out⟩
         case measure => simp [intOf]; omega
       ·have hDt : D = true := by
         rw [← HD.out]
         exact decide_eq_true (V.ext HE.out.1 HE.out.2.1 HE.out.2.2.1 (list_ext_k (by rw [HN.out.1, HN.out.2, HNM.out]) (fun j j1 j2 => HR.out.1 j j1 j2 (by have := HN.out.1; omega))) HE.out.2.2.2)
        subst hDt
        go_wp2_with fail
        go_ret
        exact ⟨rfl, HB0.out.trans (HR.out.2.mono HB0.out.size)⟩
     ·have HNM := zH hNM
      have hNM2 : ¬ (N : Int) = M := by omega
      have hDf : D = false := by rw [← HD.out]; exact decide_eq_false (fun q => hNM (by rw [← HN.out.1, ← HN.out.2, q]))
      subst hDf
      clear hNM
      go_wp2_with fail
      all_goals
       go_ret
       exact ⟨rfl, HB0.out⟩
    ·have he_t : (a.elem == b.elem) = false := by simpa using he
     have hDf : D = false := by rw [← HD.out]; exact decide_eq_false (fun q => he (by rw [q]))
     subst hDf
     clear he
     go_wp2_with fail
     all_goals
      go_ret
      exact ⟨rfl, HB0.out⟩
   ·have htx_t : (a.text.toList == b.text.toList) = false := by rw [teq]; exact decide_eq_false htx
    have hDf : D = false := by rw [← HD.out]; exact decide_eq_false (fun q => htx (by rw [q]))
    subst hDf
    clear htx
    go_wp2_with fail
    all_goals
     go_ret
     exact ⟨rfl, HB0.out⟩
  ·have hn_t : (a.num == b.num) = false := by simpa using hn
   have hDf : D = false := by rw [← HD.out]; exact decide_eq_false (fun q => hn (by rw [q]))
   subst hDf
   clear hn
   go_wp2_with fail
   all_goals
    go_ret
    exact ⟨rfl, HB0.out⟩
 ·have hk_t : (a.kind == b.kind) = false := by simpa using hk
  have hDf : D = false := by rw [← HD.out]; exact decide_eq_false (fun q => hk (by rw [q]))
  subst hDf
  clear hk
  go_wp2_with fail
  all_goals
   go_ret
   exact ⟨rfl, HB0.out⟩

end Go.Proofs.YtnnnfhobbnjmfaaGreatDoor

namespace Go.Proofs
open Go.Shelf
def Tryz.lays128_ren : Go.Shelf.Ren := ⟨fun | 128 => 144 | n => n, fun | 51 => 150 | 3 => 3 | 4 => 4 | 46 => 119 | 5 => 5 | 9 => 9 | n => n, fun | n => n⟩
theorem Tryz.lays128 : Go.Proofs.Lays.n128 Tryz.prog Tryz.lays128_ren := {
 mixed := by kernel_rfl
 f128 := Tryz.func144.trans (congrArg some (by kernel_rfl))
 t3 := Tryz.underlying3
 a3 := Tryz.isAgg3
 z3 := Tryz.sizeOf3
 v3 := Tryz.zeroValue3
 t4 := Tryz.underlying4
 a4 := Tryz.isAgg4
 z4 := Tryz.sizeOf4
 v4 := Tryz.zeroValue4
 t5 := Tryz.underlying5
 a5 := Tryz.isAgg5
 z5 := Tryz.sizeOf5
 v5 := Tryz.zeroValue5
 t9 := Tryz.underlying9
 a9 := Tryz.isAgg9
 z9 := Tryz.sizeOf9
 v9 := Tryz.zeroValue9
 t46 := Tryz.underlying119
 a46 := Tryz.isAgg119
 z46 := Tryz.sizeOf119
 v46 := Tryz.zeroValue119
 t51 := Tryz.underlying150
 a51 := Tryz.isAgg150
 z51 := Tryz.sizeOf150
 v51 := Tryz.zeroValue150 }
theorem Tryz.bits_Len32 (x : Int) (w : World) (h0 : 0 ≤ x) (h1 : x ≤ 4294967295) :
  Calls Tryz.prog 144 #[.int .u32 x] w fun e w' => e = .returned (.int .i64 (Lib.bitLen x.toNat)) ∧ w' = w := Any.bits_Len32 Tryz.lays128 x w h0 h1
def Tryz.lays125_ren : Go.Shelf.Ren := ⟨fun | 125 => 121 | 128 => 144 | 129 => 145 | n => n, fun | 46 => 119 | 3 => 3 | 51 => 150 | 53 => 22 | 4 => 4 | 5 => 5 | 9 => 9 | n => n, fun | n => n⟩
theorem Tryz.lays125 : Go.Proofs.Lays.n125 Tryz.prog Tryz.lays125_ren := {
 mixed := by kernel_rfl
 f125 := Tryz.func121.trans (congrArg some (by kernel_rfl))
 f128 := Tryz.func144.trans (congrArg some (by kernel_rfl))
 f129 := Tryz.func145.trans (congrArg some (by kernel_rfl))
 t3 := Tryz.underlying3
 a3 := Tryz.isAgg3
 z3 := Tryz.sizeOf3
 v3 := Tryz.zeroValue3
 t4 := Tryz.underlying4
 a4 := Tryz.isAgg4
 z4 := Tryz.sizeOf4
 v4 := Tryz.zeroValue4
 t5 := Tryz.underlying5
 a5 := Tryz.isAgg5
 z5 := Tryz.sizeOf5
 v5 := Tryz.zeroValue5
 t9 := Tryz.underlying9
 a9 := Tryz.isAgg9
 z9 := Tryz.sizeOf9
 v9 := Tryz.zeroValue9
 t46 := Tryz.underlying119
 a46 := Tryz.isAgg119
 z46 := Tryz.sizeOf119
 v46 := Tryz.zeroValue119
 t51 := Tryz.underlying150
 a51 := Tryz.isAgg150
 z51 := Tryz.sizeOf150
 v51 := Tryz.zeroValue150
 t53 := Tryz.underlying22
 a53 := Tryz.isAgg22
 z53 := Tryz.sizeOf22
 v53 := Tryz.zeroValue22 }
theorem Tryz.bits_Len (x : Int) (w : World) (h0 : 0 ≤ x) (h1 : x ≤ 18446744073709551615) :
  Calls Tryz.prog 121 #[.int .u64 x] w fun e w' => e = .returned (.int .i64 (Lib.bitLen x.toNat)) ∧ w' = w := Any.bits_Len Tryz.lays125 x w h0 h1
def Tryz.lays213_ren : Go.Shelf.Ren := ⟨fun | 213 => 148 | 265 => 155 | n => n, fun | 9 => 9 | 3 => 3 | n => n, fun | n => n⟩
theorem Tryz.lays213 : Go.Proofs.Lays.n213 Tryz.prog Tryz.lays213_ren := {
 mixed := by kernel_rfl
 f213 := Tryz.func148.trans (congrArg some (by kernel_rfl))
 f265 := Tryz.func155.trans (congrArg some (by kernel_rfl))
 t3 := Tryz.underlying3
 a3 := Tryz.isAgg3
 z3 := Tryz.sizeOf3
 v3 := Tryz.zeroValue3
 t9 := Tryz.underlying9
 a9 := Tryz.isAgg9
 z9 := Tryz.sizeOf9
 v9 := Tryz.zeroValue9 }
open Go.RowKit Go.Proofs.Tryz in
theorem Tryz.bytealg_CompareString (a b : ByteArray) (w : World) :
  Calls Tryz.prog 148 #[.string a, .string b] w fun e w' => e = .returned (.int .i64 (Lib.compareBytes a.data.toList b.data.toList)) ∧ w' = w := Any.bytealg_CompareString Tryz.lays213 a b w
def Tryz.lays106_ren : Go.Shelf.Ren := ⟨fun | 106 => 125 | 213 => 148 | 265 => 155 | n => n, fun | 9 => 9 | 3 => 3 | n => n, fun | n => n⟩
theorem Tryz.lays106 : Go.Proofs.Lays.n106 Tryz.prog Tryz.lays106_ren := {
 mixed := by kernel_rfl
 f106 := Tryz.func125.trans (congrArg some (by kernel_rfl))
 f213 := Tryz.func148.trans (congrArg some (by kernel_rfl))
 f265 := Tryz.func155.trans (congrArg some (by kernel_rfl))
 t3 := Tryz.underlying3
 a3 := Tryz.isAgg3
 z3 := Tryz.sizeOf3
 v3 := Tryz.zeroValue3
 t9 := Tryz.underlying9
 a9 := Tryz.isAgg9
 z9 := Tryz.sizeOf9
 v9 := Tryz.zeroValue9 }
open Go.RowKit Go.Proofs.Tryz in
theorem Tryz.strings_Compare (a b : ByteArray) (w : World) :
  Calls Tryz.prog 125 #[.string a, .string b] w fun e w' => e = .returned (.int .i64 (Lib.compareBytes a.data.toList b.data.toList)) ∧ w' = w := Any.strings_Compare Tryz.lays106 a b w
def Tryz.lays215_ren : Go.Shelf.Ren := ⟨fun | 215 => 146 | n => n, fun | 3 => 3 | 4 => 4 | n => n, fun | n => n⟩
theorem Tryz.lays215 : Go.Proofs.Lays.n215 Tryz.prog Tryz.lays215_ren := {
 mixed := by kernel_rfl
 f215 := Tryz.func146.trans (congrArg some (by kernel_rfl))
 t3 := Tryz.underlying3
 a3 := Tryz.isAgg3
 z3 := Tryz.sizeOf3
 v3 := Tryz.zeroValue3
 t4 := Tryz.underlying4
 a4 := Tryz.isAgg4
 z4 := Tryz.sizeOf4
 v4 := Tryz.zeroValue4 }
open Go.RowKit Go.Proofs.Tryz in
theorem Tryz.cmp_isNaN_int (x : Int) (w : World) :
  Calls Tryz.prog 146 #[.int .i64 x] w fun e w' => e = .returned (.bool false) ∧ w' = w := Any.cmp_isNaN_int Tryz.lays215 x w
def Tryz.lays122_ren : Go.Shelf.Ren := ⟨fun | 122 => 123 | 215 => 146 | n => n, fun | 3 => 3 | 4 => 4 | n => n, fun | n => n⟩
theorem Tryz.lays122 : Go.Proofs.Lays.n122 Tryz.prog Tryz.lays122_ren := {
 mixed := by kernel_rfl
 f122 := Tryz.func123.trans (congrArg some (by kernel_rfl))
 f215 := Tryz.func146.trans (congrArg some (by kernel_rfl))
 t3 := Tryz.underlying3
 a3 := Tryz.isAgg3
 z3 := Tryz.sizeOf3
 v3 := Tryz.zeroValue3
 t4 := Tryz.underlying4
 a4 := Tryz.isAgg4
 z4 := Tryz.sizeOf4
 v4 := Tryz.zeroValue4 }
open Go.RowKit Go.Proofs.Tryz in
theorem Tryz.cmp_Compare_int (x y : Int) (w : World) :
  Calls Tryz.prog 123 #[.int .i64 x, .int .i64 y] w fun e w' => e = .returned (.int .i64 (Lib.compareInt x y)) ∧ w' = w := Any.cmp_Compare_int Tryz.lays122 x y w
def Tryz.lays129_ren : Go.Shelf.Ren := ⟨fun | 129 => 145 | n => n, fun | 53 => 22 | 3 => 3 | 4 => 4 | 46 => 119 | 5 => 5 | 9 => 9 | n => n, fun | n => n⟩
theorem Tryz.lays129 : Go.Proofs.Lays.n129 Tryz.prog Tryz.lays129_ren := {
 mixed := by kernel_rfl
 f129 := Tryz.func145.trans (congrArg some (by kernel_rfl))
 t3 := Tryz.underlying3
 a3 := Tryz.isAgg3
 z3 := Tryz.sizeOf3
 v3 := Tryz.zeroValue3
 t4 := Tryz.underlying4
 a4 := Tryz.isAgg4
 z4 := Tryz.sizeOf4
 v4 := Tryz.zeroValue4
 t5 := Tryz.underlying5
 a5 := Tryz.isAgg5
 z5 := Tryz.sizeOf5
 v5 := Tryz.zeroValue5
 t9 := Tryz.underlying9
 a9 := Tryz.isAgg9
 z9 := Tryz.sizeOf9
 v9 := Tryz.zeroValue9
 t46 := Tryz.underlying119
 a46 := Tryz.isAgg119
 z46 := Tryz.sizeOf119
 v46 := Tryz.zeroValue119
 t53 := Tryz.underlying22
 a53 := Tryz.isAgg22
 z53 := Tryz.sizeOf22
 v53 := Tryz.zeroValue22 }
theorem Tryz.bits_Len64 (x : Int) (w : World) (h0 : 0 ≤ x) (h1 : x ≤ 18446744073709551615) :
  Calls Tryz.prog 145 #[.int .u64 x] w fun e w' => e = .returned (.int .i64 (Lib.bitLen x.toNat)) ∧ w' = w := Any.bits_Len64 Tryz.lays129 x w h0 h1
def Tryz.lays260_ren : Go.Shelf.Ren := ⟨fun | 260 => 135 | n => n, fun | 9 => 9 | 21 => 21 | 3 => 3 | 4 => 4 | 5 => 5 | 119 => 153 | 0 => 0 | 46 => 119 | 139 => 156 | 138 => 155 | n => n, fun | 3 => 0 | 4 => 1 | n => n⟩
theorem Tryz.lays260 : Go.Proofs.Lays.n260 Tryz.prog Tryz.lays260_ren := {
 mixed := by kernel_rfl
 f260 := Tryz.func135.trans (congrArg some (by kernel_rfl))
 t0 := Tryz.underlying0
 a0 := Tryz.isAgg0
 z0 := Tryz.sizeOf0
 v0 := Tryz.zeroValue0
 t3 := Tryz.underlying3
 a3 := Tryz.isAgg3
 z3 := Tryz.sizeOf3
 v3 := Tryz.zeroValue3
 t4 := Tryz.underlying4
 a4 := Tryz.isAgg4
 z4 := Tryz.sizeOf4
 v4 := Tryz.zeroValue4
 t5 := Tryz.underlying5
 a5 := Tryz.isAgg5
 z5 := Tryz.sizeOf5
 v5 := Tryz.zeroValue5
 t9 := Tryz.underlying9
 a9 := Tryz.isAgg9
 z9 := Tryz.sizeOf9
 v9 := Tryz.zeroValue9
 t21 := Tryz.underlying21
 a21 := Tryz.isAgg21
 z21 := Tryz.sizeOf21
 v21 := Tryz.zeroValue21
 t46 := Tryz.underlying119
 a46 := Tryz.isAgg119
 z46 := Tryz.sizeOf119
 v46 := Tryz.zeroValue119
 t119 := Tryz.underlying153
 a119 := Tryz.isAgg153
 z119 := Tryz.sizeOf153
 t138 := Tryz.underlying155
 a138 := Tryz.isAgg155
 z138 := Tryz.sizeOf155
 v138 := Tryz.zeroValue155
 t139 := Tryz.underlying156
 a139 := Tryz.isAgg156
 z139 := Tryz.sizeOf156
 v139 := Tryz.zeroValue156
 g3 := by kernel_rfl
 g4 := by kernel_rfl }
open Go.RowKit Go.Proofs.Tryz Go.Lib in
theorem Tryz.utf8_decodeRuneInStringSlow (s : ByteArray) (w : World) (hT : Lib.Utf8Tabs 0 1 w) :
  Calls Tryz.prog 135 #[.string s] w fun e w' => e = .returned (.tuple #[.int .i32 (Lib.decodeGo s).1, .int .i64 (Lib.decodeGo s).2]) ∧ Below w.heap.size w w' := Any.utf8_decodeRuneInStringSlow Tryz.lays260 s w hT
def Tryz.lays197_ren : Go.Shelf.Ren := ⟨fun | 197 => 119 | 260 => 135 | n => n, fun | 9 => 9 | 21 => 21 | 3 => 3 | 4 => 4 | 5 => 5 | 105 => 125 | 119 => 153 | 0 => 0 | 46 => 119 | 139 => 156 | 138 => 155 | n => n, fun | 3 => 0 | 4 => 1 | n => n⟩
theorem Tryz.lays197 : Go.Proofs.Lays.n197 Tryz.prog Tryz.lays197_ren := {
 mixed := by kernel_rfl
 f197 := Tryz.func119.trans (congrArg some (by kernel_rfl))
 f260 := Tryz.func135.trans (congrArg some (by kernel_rfl))
 t0 := Tryz.underlying0
 a0 := Tryz.isAgg0
 z0 := Tryz.sizeOf0
 v0 := Tryz.zeroValue0
 t3 := Tryz.underlying3
 a3 := Tryz.isAgg3
 z3 := Tryz.sizeOf3
 v3 := Tryz.zeroValue3
 t4 := Tryz.underlying4
 a4 := Tryz.isAgg4
 z4 := Tryz.sizeOf4
 v4 := Tryz.zeroValue4
 t5 := Tryz.underlying5
 a5 := Tryz.isAgg5
 z5 := Tryz.sizeOf5
 v5 := Tryz.zeroValue5
 t9 := Tryz.underlying9
 a9 := Tryz.isAgg9
 z9 := Tryz.sizeOf9
 v9 := Tryz.zeroValue9
 t21 := Tryz.underlying21
 a21 := Tryz.isAgg21
 z21 := Tryz.sizeOf21
 v21 := Tryz.zeroValue21
 t46 := Tryz.underlying119
 a46 := Tryz.isAgg119
 z46 := Tryz.sizeOf119
 v46 := Tryz.zeroValue119
 t105 := Tryz.underlying125
 a105 := Tryz.isAgg125
 z105 := Tryz.sizeOf125
 v105 := Tryz.zeroValue125
 t119 := Tryz.underlying153
 a119 := Tryz.isAgg153
 z119 := Tryz.sizeOf153
 t138 := Tryz.underlying155
 a138 := Tryz.isAgg155
 z138 := Tryz.sizeOf155
 v138 := Tryz.zeroValue155
 t139 := Tryz.underlying156
 a139 := Tryz.isAgg156
 z139 := Tryz.sizeOf156
 v139 := Tryz.zeroValue156
 g3 := by kernel_rfl
 g4 := by kernel_rfl }
open Go.RowKit Go.Proofs.Tryz Go.Lib in
theorem Tryz.utf8_DecodeRuneInString (s : ByteArray) (w : World) (hT : Lib.Utf8Tabs 0 1 w) :
  Calls Tryz.prog 119 #[.string s] w fun e w' => e = .returned (.tuple #[.int .i32 (Lib.decodeGo s).1, .int .i64 (Lib.decodeGo s).2]) ∧ Below w.heap.size w w' := Any.utf8_DecodeRuneInString Tryz.lays197 s w hT
def Tryz.laysNm237_ren : Go.Shelf.Ren := ⟨fun | 37 => 146 | n => n, fun | 3 => 3 | 4 => 4 | n => n, fun | n => n⟩
theorem Tryz.laysNm237 : Go.Proofs.Lays2.n37 Tryz.prog Tryz.laysNm237_ren := {
 mixed := by kernel_rfl
 f37 := Tryz.func146.trans (congrArg some (by kernel_rfl))
 t3 := Tryz.underlying3
 a3 := Tryz.isAgg3
 z3 := Tryz.sizeOf3
 v3 := Tryz.zeroValue3
 t4 := Tryz.underlying4
 a4 := Tryz.isAgg4
 z4 := Tryz.sizeOf4
 v4 := Tryz.zeroValue4 }
open Go.RowKit Go.Proofs.Tryz Go.Lib in
theorem Tryz.cmp_isNaN_int2 (x : Int) (w : World) :
  Calls Tryz.prog 146 #[.int .i64 x] w fun e w' => e = .returned (.bool false) ∧ w' = w := Any.cmp_isNaN_int2 Tryz.laysNm237 x w
end Go.Proofs

namespace Go.Proofs.YtnnnfhobbnjmfaaGreatDoor
open Go.RowKit Go.Proofs.Tryz
set_option linter.all false
set_option maxHeartbeats 40000000
set_option maxRecDepth 20000

theorem isNaN_int (a : Int) (w : World) : Calls prog 146 #[.int .i64 a] w fun e w' => e = .returned (.bool false) ∧ w' = w := by
 go_enter func146, ntmps146
 go_wp2_with fail
 go_ret
 exact ⟨by simp, rfl⟩
theorem compare_int (a b : Int) (w : World) : Calls prog 123 #[.int .i64 a, .int .i64 b] w fun e w' => e = .returned (.int .i64 (sgnZ a b)) ∧ w' = w := by
 by_cases h1 : a < b
 ·rw [show sgnZ a b = -1 from by simp [sgnZ, h1]]
  have n1 := isNaN_int a w
  have n2 := isNaN_int b w
  go_enter func123, ntmps123
  go_wp2_with fail
  refine n1.mono ?_
  rintro e w' ⟨rfl, rfl⟩
  go_wp2_with fail
  refine n2.mono ?_
  rintro e w' ⟨rfl, rfl⟩
  go_wp2_with fail
  go_ret
  exact ⟨rfl, rfl⟩
 by_cases h2 : b < a
 ·rw [show sgnZ a b = 1 from by simp [sgnZ, h1, h2]]
  have n1 := isNaN_int a w
  have n2 := isNaN_int b w
  go_enter func123, ntmps123
  go_wp2_with fail
  refine n1.mono ?_
  rintro e w' ⟨rfl, rfl⟩
  go_wp2_with fail
  refine n2.mono ?_
  rintro e w' ⟨rfl, rfl⟩
  go_wp2_with fail
  go_ret
  exact ⟨rfl, rfl⟩
 rw [show sgnZ a b = 0 from by simp [sgnZ, h1, h2]]
 have n1 := isNaN_int a w
 have n2 := isNaN_int b w
 go_enter func123, ntmps123
 go_wp2_with fail
 refine n1.mono ?_
 rintro e w' ⟨rfl, rfl⟩
 go_wp2_with fail
 refine n2.mono ?_
 rintro e w' ⟨rfl, rfl⟩
 go_wp2_with fail
 go_ret
 exact ⟨rfl, rfl⟩
theorem isNaN_uint64 (a : Int) (w : World) : Calls prog 147 #[.int .u64 a] w fun e w' => e = .returned (.bool false) ∧ w' = w := by
 go_enter func147, ntmps147
 go_wp2_with fail
 go_ret
 exact ⟨by simp, rfl⟩
theorem compare_uint64 (a b : Int) (w : World) : Calls prog 124 #[.int .u64 a, .int .u64 b] w fun e w' => e = .returned (.int .i64 (sgnZ a b)) ∧ w' = w := by
 by_cases h1 : a < b
 ·rw [show sgnZ a b = -1 from by simp [sgnZ, h1]]
  have n1 := isNaN_uint64 a w
  have n2 := isNaN_uint64 b w
  go_enter func124, ntmps124
  go_wp2_with fail
  refine n1.mono ?_
  rintro e w' ⟨rfl, rfl⟩
  go_wp2_with fail
  refine n2.mono ?_
  rintro e w' ⟨rfl, rfl⟩
  go_wp2_with fail
  go_ret
  exact ⟨rfl, rfl⟩
 by_cases h2 : b < a
 ·rw [show sgnZ a b = 1 from by simp [sgnZ, h1, h2]]
  have n1 := isNaN_uint64 a w
  have n2 := isNaN_uint64 b w
  go_enter func124, ntmps124
  go_wp2_with fail
  refine n1.mono ?_
  rintro e w' ⟨rfl, rfl⟩
  go_wp2_with fail
  refine n2.mono ?_
  rintro e w' ⟨rfl, rfl⟩
  go_wp2_with fail
  go_ret
  exact ⟨rfl, rfl⟩
 rw [show sgnZ a b = 0 from by simp [sgnZ, h1, h2]]
 have n1 := isNaN_uint64 a w
 have n2 := isNaN_uint64 b w
 go_enter func124, ntmps124
 go_wp2_with fail
 refine n1.mono ?_
 rintro e w' ⟨rfl, rfl⟩
 go_wp2_with fail
 refine n2.mono ?_
 rintro e w' ⟨rfl, rfl⟩
 go_wp2_with fail
 go_ret
 exact ⟨rfl, rfl⟩
theorem strcmp_any (a b : ByteArray) (w : World) : Calls prog 125 #[.string a, .string b] w fun e w' => e = .returned (.int .i64 (cmpT a b)) ∧ w' = w := Tryz.strings_Compare a b w

def orL : List Int -> Int
 | [] => 0
 | x :: r => thenZ x (orL r)
theorem orL_drop {l : List Int} {k : Nat} (h : k < l.length) : orL (l.drop k) = thenZ l[k] (orL (l.drop (k + 1))) := by rw [List.drop_eq_getElem_cons h, orL]

theorem or_any (w : World) (g c N : Nat) (l : List Int) (hN : l.length = N) (hc : N <= c) (hc2 : c <= 1000) (h : ∀ k (hk : k < l.length), w.cell? ⟨g, k, none⟩ = some (.int .i64 l[k])) :
  Calls prog 122 #[.slice (some ⟨g, 0, none⟩) N c] w fun e w' => e = .returned (.int .i64 (orL l)) ∧ w' = w := by
 obtain ⟨D, hD⟩ : ∃ D, orL l = D := ⟨_, rfl⟩
 rw [hD]
 have HD := zH (show orL (l.drop 0) = D by rw [List.drop_zero, hD])
 have HN := zH hN
 have HC := zH h
 clear hN hD h
 go_enter func122, ntmps122
 go_wp2_with fail
 go_loopw [8] (fun v wr => ∃ k : Nat, k <= N ∧ v = .int .i64 k ∧ wr = w ∧ orL (l.drop k) = D) (fun v _ => N - (intOf v).toNat)
 case atStart => exact ⟨0, Nat.zero_le _, rfl, rfl, HD.out⟩
 obtain ⟨k, hk, rfl, rfl, hr⟩ := hrel
 have HR := zH hr
 clear hr
 by_cases hkN : (k : Int) < N
 ·have hkl : k < l.length := by rw [HN.out]; omega
  have c0 := HC.out k hkl
  have hs := orL_drop hkl
  rw [HR.out] at hs
  generalize l[k] = y at c0 hs
  by_cases hy : y = 0
  ·have HS := zH (show orL (l.drop (k + 1)) = D by rw [hs, hy]; simp [thenZ])
   have hyt : (y == 0) = true := by simpa using hy
   clear hs hy
   go_wp2_with fail
   go_roundw
   case rel => exact ⟨k + 1, by omega, by go_num, by first | rfl | trivial, HS.out⟩
   case measure => simp [intOf]; omega
  ·have HS := zH (show D = y by rw [hs]; simp [thenZ, hy])
   have hyt : (y == 0) = false := by simpa using hy
   clear hs
   go_wp2_with fail
   go_ret
   exact ⟨by rw [HS.out]; rfl, by first | rfl | trivial⟩
 have HS := zH (show D = 0 by rw [← HR.out, List.drop_eq_nil_of_le (by rw [HN.out]; omega)]; rfl)
 go_wp2_with fail
 go_ret
 exact ⟨by rw [HS.out]; rfl, by first | rfl | trivial⟩
end Go.Proofs.YtnnnfhobbnjmfaaGreatDoor
