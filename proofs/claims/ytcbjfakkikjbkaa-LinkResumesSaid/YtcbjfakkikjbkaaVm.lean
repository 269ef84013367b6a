/-
  Values in memory: as they came in (VIn), and as one's own, each list in a block of its own (VO). Plain lemmas. No conditions.
-/
import Derived.Test.YtcbjfakkikjbkaaVp
import Derived.Test.YtcbjfakkikjbkaaGbA
namespace Go.Proofs.Ytcbjfakkikjbkaa
open Go.RowKit
set_option linter.all false

def IsI64 (a : Int) : Prop := -9223372036854775808 ≤ a ∧ a ≤ 9223372036854775807
def IsU64 (a : Int) : Prop := 0 ≤ a ∧ a ≤ 18446744073709551615
/-- a value's own fields -/
structure V.Wf (v : V) : Prop where
  k : IsI64 v.kind
  n : IsU64 v.num
  t : v.text.size ≤ maxLen
  e : IsI64 v.elem

def vcells (v : V) (s : Value) : List Value := [.int .i64 v.kind, .int .u64 v.num, .string v.text, s, .int .i64 v.elem]
theorem vcells_len (v : V) (s : Value) : (vcells v s).length = 5 := rfl
def vrow : List V → (Nat → Value) → List Value
  | [], _ => []
  | v :: r, ss => vcells v (ss 0) ++ vrow r (fun i => ss (i + 1))
theorem vrow_len : ∀ (l : List V) (ss : Nat → Value), (vrow l ss).length = l.length * 5
  | [], _ => rfl
  | v :: r, ss => by rw [vrow, List.length_append, vrow_len r, vcells_len, List.length_cons]; omega
theorem vrow_get : ∀ (l : List V) (ss : Nat → Value) (i j : Nat) (h : i < l.length), j < 5 → (vrow l ss)[i * 5 + j]? = (vcells l[i] (ss i))[j]?
  | [], _, i, _, h, _ => by simp at h
  | v :: r, ss, i, j, h, hj => by
    rw [vrow]
    cases i with
    | zero => rw [List.getElem?_append_left (by rw [vcells_len]; omega)]; simp
    | succ i =>
      rw [List.getElem?_append_right (by rw [vcells_len]; omega), vcells_len, show (i + 1) * 5 + j - 5 = i * 5 + j by omega]
      have := vrow_get r (fun i => ss (i + 1)) i j (by simpa using h) hj
      simpa using this
theorem vrow_congr : ∀ (l : List V) (ss tt : Nat → Value), (∀ i, i < l.length → ss i = tt i) → vrow l ss = vrow l tt
  | [], _, _, _ => rfl
  | v :: r, ss, tt, h => by
    rw [vrow, vrow, h 0 (by simp), vrow_congr r _ (fun i => tt (i + 1)) (fun i hi => h (i + 1) (by simpa using hi))]
theorem vrow_snoc : ∀ (l : List V) (x : V) (ss : Nat → Value), vrow (l ++ [x]) ss = vrow l ss ++ vcells x (ss l.length)
  | [], x, ss => by simp [vrow]
  | v :: r, x, ss => by rw [List.cons_append, vrow, vrow, vrow_snoc r x, List.append_assoc]; rfl

theorem bs_cellV {w w' : World} {a : Addr} {u : Value} (hb : Below w.heap.size w w') (h : w.cell? a = some u) : w'.cell? a = some u := (World.cell?_of_block (hb.block _ (World.block_lt_of_cell? w a h))).trans h

/-- a value that lies in memory; s: what its List's cell holds -/
inductive VIn (w : World) : V → Value → Prop
  | mk (v : V) (p : Option Addr) (c : Nat) (ss : Nat → Value) (wf : v.Wf) (hc : v.list.length ≤ c) (hm : c ≤ maxLen) (ha : 0 < v.list.length → ∃ b o, p = some ⟨b, o, none⟩)
      (hcell : ∀ b o, p = some ⟨b, o, none⟩ → ∀ i (h : i < v.list.length), w.rangeAt b (o + i * 5) (vcells v.list[i] (ss i))) (hin : ∀ i (h : i < v.list.length), VIn w v.list[i] (ss i)) : VIn w v (.slice p v.list.length c)

section
variable {w w' : World} {v : V} {s : Value} {B B' : Nat} {F : Nat → Prop}

theorem VIn.wf (h : VIn w v s) : v.Wf := by cases h; assumption
theorem VIn.slice (h : VIn w v s) : ∃ p c, s = .slice p v.list.length c ∧ v.list.length ≤ c ∧ c ≤ maxLen ∧ (0 < v.list.length → ∃ b o, p = some ⟨b, o, none⟩) := by
  cases h with
  | mk _ p c ss wf hc hm ha hcell hin => exact ⟨p, c, rfl, hc, hm, ha⟩
theorem VIn.part (h : VIn w v s) {b o n c : Nat} (hs : s = .slice (some ⟨b, o, none⟩) n c) {i : Nat} (hi : i < v.list.length) : ∃ t, w.rangeAt b (o + i * 5) (vcells v.list[i] t) ∧ VIn w v.list[i] t := by
  cases h with
  | mk _ p c' ss wf hc hm ha hcell hin =>
    simp only [Value.slice.injEq] at hs
    exact ⟨ss i, hcell b o hs.1 i hi, hin i hi⟩
theorem VIn.blw (h : VIn w v s) (hb : Below w.heap.size w w') : VIn w' v s := by
  induction h with
  | mk v p c ss wf hc hm ha hcell hin ih =>
    exact .mk v p c ss wf hc hm ha (fun b o e i hi j u hu => bs_cellV hb (hcell b o e i hi j u hu)) ih

/-- a value of one's own: F: its blocks -/
inductive VO (w : World) (B : Nat) : V → Value → (Nat → Prop) → Prop
  | mk (v : V) (s : Value) (F : Nat → Prop) (ss : Nat → Value) (Fs : Nat → Nat → Prop) (wf : v.Wf) (hrow : w.ownsRow B 28 5 s v.list.length (vrow v.list ss)) (hin : ∀ i (h : i < v.list.length), VO w B v.list[i] (ss i) (Fs i))
      (hd : ∀ i j, i < v.list.length → j < v.list.length → i ≠ j → ∀ b, Fs i b → ¬ Fs j b) (hs : ∀ g, s.ownBlock = some g → ∀ i, i < v.list.length → ¬ Fs i g) (hF : ∀ b, F b ↔ (s.ownBlock = some b ∨ ∃ i, i < v.list.length ∧ Fs i b)) : VO w B v s F

theorem VO.wf (h : VO w B v s F) : v.Wf := by cases h; assumption
theorem VO.lt (h : VO w B v s F) : ∀ b, F b → B ≤ b ∧ b < w.heap.size := by
  induction h with
  | mk v s F ss Fs wf hrow hin hd hs hF ih =>
    intro b hb
    rcases (hF b).1 hb with q | ⟨i, hi, q⟩
    · exact hrow.lt b q
    · exact ih i hi b q
theorem VO.keep (h : VO w B v s F) (e : ∀ b, F b → w'.heap[b]? = w.heap[b]?) : VO w' B v s F := by
  induction h with
  | mk v s F ss Fs wf hrow hin hd hs hF ih =>
    exact .mk v s F ss Fs wf (ownsRow_keep hrow (fun j hj => e j ((hF j).2 (.inl hj)))) (fun i hi => ih i hi (fun b hb => e b ((hF b).2 (.inr ⟨i, hi, hb⟩)))) hd hs hF
theorem VO.blw (h : VO w B v s F) (hb : Below w.heap.size w w') : VO w' B v s F := h.keep (fun b q => hb.block b (h.lt b q).2)
theorem ownsRow_base {B B' n e K : Nat} {u : Value} {xs : List Value} (h : w.ownsRow B e K u n xs) (hB : ∀ b, u.ownBlock = some b → B' ≤ b) : w.ownsRow B' e K u n xs := by
  refine ⟨h.1, ?_⟩
  rcases h.2 with hn | ⟨g, cap, cur, hv, hbg, hb, rest⟩
  · exact .inl hn
  · exact .inr ⟨g, cap, cur, hv, hB g (by rw [hv]; rfl), hb, rest⟩
theorem VO.base (h : VO w B v s F) (hB : ∀ b, F b → B' ≤ b) : VO w B' v s F := by
  induction h with
  | mk v s F ss Fs wf hrow hin hd hs hF ih =>
    exact .mk v s F ss Fs wf (ownsRow_base hrow (fun b hb => hB b ((hF b).2 (.inl hb)))) (fun i hi => ih i hi (fun b hb => hB b ((hF b).2 (.inr ⟨i, hi, hb⟩)))) hd hs hF
theorem VO.mono (h : VO w B v s F) (hB : B' ≤ B) : VO w B' v s F := h.base (fun b hb => Nat.le_trans hB (h.lt b hb).1)
theorem VO.vin (h : VO w B v s F) : VIn w v s := by
  induction h with
  | mk v s F ss Fs wf hrow hin hd hs hF ih =>
    obtain ⟨p, c, rfl, h1, h2, h3⟩ := ownsRow_form hrow
    refine .mk v p c ss wf h1 h2 (fun q => by obtain ⟨g, e, _⟩ := h3 q; exact ⟨g, 0, e⟩) (fun b o e i hi j u hu => ?_) ih
    obtain ⟨g, e2, _⟩ := h3 (by omega)
    have : b = g ∧ o = 0 := by rw [e] at e2; simp only [Option.some.injEq, Addr.mk.injEq] at e2; exact ⟨e2.1, e2.2.1⟩
    obtain ⟨rfl, rfl⟩ := this
    have hj : j < 5 := (List.getElem?_eq_some_iff.1 hu).1
    rw [e] at hrow
    rw [Nat.zero_add]
    exact ownsRow_cell hrow (by rw [vrow_get _ _ _ _ hi hj]; exact hu)
/-- nothing yet -/
theorem VO.nil (w : World) (B : Nat) (hw : v.Wf) (hl : v.list = []) : VO w B v (.slice none 0 0) (fun _ => False) := by
  have h0 : v.list.length = 0 := by rw [hl]; rfl
  refine .mk v _ _ (fun _ => undef) (fun _ _ => False) hw ?_ (fun i hi => by omega) (fun _ _ _ _ _ _ h => h.elim) (fun _ _ _ _ h => h) (fun b => ⟨fun h => h.elim, fun h => ?_⟩)
  · rw [hl]; exact World.ownsRow_nil _ _ _ _
  · rcases h with h | ⟨_, _, h⟩
    · cases h
    · exact h
end

/-- a value with another list -/
def V.with (v : V) (l : List V) : V := .mk v.kind v.num v.text l v.elem
theorem V.with_list (v : V) (l : List V) : (v.with l).list = l := rfl
theorem V.Wf.with_ {v : V} (h : v.Wf) (l : List V) : (v.with l).Wf := ⟨h.k, h.n, h.t, h.e⟩
theorem V.with_same (v : V) : v.with v.list = v := by cases v; rfl

section
variable {w w' wr : World} {v x : V} {s s' t : Value} {B : Nat} {F Fx : Nat → Prop} {l : List V}
/-- one more -/
theorem VO.push (h : VO w B (v.with l) s F) (hx : VO w B x t Fx) (hdj : ∀ b, F b → ¬ Fx b) (hB : B ≤ w.heap.size) :
    ∃ xs, w.ownsRow B 28 5 s l.length xs ∧ ∀ w' s', App1 w w' B 28 5 l.length s s' (xs ++ vcells x t) → ∃ F', VO w' B (v.with (l ++ [x])) s' F' ∧ ∀ b, F' b → F b ∨ Fx b ∨ w.heap.size ≤ b := by
  obtain ⟨_, _, _, ss, Fs, wf, hrow, hin, hd, hs, hF⟩ := h
  simp only [V.with_list] at hrow hin hd hs hF
  refine ⟨_, hrow, fun w' s' hA => ?_⟩
  have hg := hA.grown
  have hown := hA.owns hB
  refine ⟨fun b => s'.ownBlock = some b ∨ ∃ i, i < (l ++ [x]).length ∧ (if i < l.length then Fs i else Fx) b, .mk _ _ _ (fun i => if i < l.length then ss i else t) (fun i => if i < l.length then Fs i else Fx) ⟨wf.k, wf.n, wf.t, wf.e⟩ ?_ ?_ ?_ ?_ (fun b => Iff.rfl), fun b hb => ?_⟩
  · simp only [V.with_list]
    rw [List.length_append, List.length_singleton, vrow_snoc, if_neg (Nat.lt_irrefl _), vrow_congr l _ ss (fun i hi => if_pos hi)]
    exact hown
  · intro i hi
    simp only [V.with_list] at hi ⊢
    by_cases hil : i < l.length
    · simp only [if_pos hil, List.getElem_append_left hil]
      refine (hin i hil).keep (fun b hb => hg.block b ((hin i hil).lt b hb).2 (fun q => hs b q.symm i hil hb))
    · have hie : i = l.length := by simp at hi; omega
      subst hie
      simp only [if_neg hil, List.getElem_append_right (Nat.le_refl _), Nat.sub_self, List.getElem_cons_zero]
      exact hx.keep (fun b hb => hg.block b (hx.lt b hb).2 (fun q => hdj b ((hF b).2 (.inl q.symm)) hb))
  · intro i j hi hj hij b hbi hbj
    simp only [V.with_list, List.length_append, List.length_singleton] at hi hj
    by_cases hil : i < l.length
    · rw [if_pos hil] at hbi
      by_cases hjl : j < l.length
      · rw [if_pos hjl] at hbj
        exact hd i j hil hjl hij b hbi hbj
      · rw [if_neg hjl] at hbj
        exact hdj b ((hF b).2 (.inr ⟨i, hil, hbi⟩)) hbj
    · rw [if_neg hil] at hbi
      have hjl : j < l.length := by omega
      rw [if_pos hjl] at hbj
      exact hdj b ((hF b).2 (.inr ⟨j, hjl, hbj⟩)) hbi
  · intro g hgs i hi hb
    simp only [V.with_list, List.length_append, List.length_singleton] at hi
    rcases hA.own hgs with q | q
    · by_cases hil : i < l.length
      · rw [if_pos hil] at hb
        exact hs g q i hil hb
      · rw [if_neg hil] at hb
        exact hdj g ((hF g).2 (.inl q)) hb
    · by_cases hil : i < l.length
      · rw [if_pos hil] at hb
        have := ((hin i hil).lt g hb).2; omega
      · rw [if_neg hil] at hb
        have := (hx.lt g hb).2; omega
  · rcases hb with hb | ⟨i, hi, hb⟩
    · rcases hA.own hb with q | q
      · exact .inl ((hF b).2 (.inl q))
      · exact .inr (.inr (by omega))
    · by_cases hil : i < l.length
      · rw [if_pos hil] at hb
        exact .inl ((hF b).2 (.inr ⟨i, hil, hb⟩))
      · rw [if_neg hil] at hb
        exact .inr (.inl hb)
end
end Go.Proofs.Ytcbjfakkikjbkaa
