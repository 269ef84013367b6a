/-
  Values that were lent: each list in a block of one's own with three marked places behind it; what keeps all but some blocks; a value turned. Plain lemmas. No conditions.
-/
import Derived.Test.YtjipennigjlklaaDoorMg11
import Derived.Test.YtjipennigjlklaaDoorMg07
import Derived.Test.YtjipennigjlklaaDoorMg24
namespace Go.Proofs.YtjipennigjlklaaDoor
open Go.RowKit
set_option linter.unusedVariables false

structure KeepF (F : Nat → Prop) (W W2 : World) : Prop where
  os : W2.os = W.os
  tape : W2.tape = W.tape
  output : W2.output = W.output
  size : W.heap.size ≤ W2.heap.size
  block : ∀ j, j < W.heap.size → ¬ F j → W2.heap[j]? = W.heap[j]?
theorem KeepF.refl (F : Nat → Prop) (W : World) : KeepF F W W := ⟨rfl, rfl, rfl, Nat.le_refl _, fun _ _ _ => rfl⟩
theorem KeepF.trans {F : Nat → Prop} {W W2 W3 : World} (h : KeepF F W W2) (h' : KeepF F W2 W3) : KeepF F W W3 :=
  ⟨h'.os.trans h.os, h'.tape.trans h.tape, h'.output.trans h.output, Nat.le_trans h.size h'.size, fun j hj ho => (h'.block j (Nat.lt_of_lt_of_le hj h.size) ho).trans (h.block j hj ho)⟩
theorem KeepF.wide {F G : Nat → Prop} {W W2 : World} (h : KeepF F W W2) (hg : ∀ j, F j → G j) : KeepF G W W2 := ⟨h.os, h.tape, h.output, h.size, fun j hj ho => h.block j hj (fun q => ho (hg j q))⟩
theorem KeepF.of_below {F : Nat → Prop} {W W2 : World} (h : Below W.heap.size W W2) : KeepF F W W2 := ⟨h.os, h.tape, h.output, h.size, fun j hj _ => h.block j hj⟩
theorem KeepF.below {F : Nat → Prop} {n : Nat} {w W W2 : World} (hb : Below n w W) (h : KeepF F W W2) (hF : ∀ j, F j → n ≤ j) (hn : n ≤ W.heap.size) : Below n w W2 :=
  ⟨h.os.trans hb.os, h.tape.trans hb.tape, h.output.trans hb.output, Nat.le_trans hb.size h.size, fun j hj => (h.block j (by omega) (fun q => by have := hF j q; omega)).trans (hb.block j hj)⟩
theorem KeepF.setCells {F : Nat → Prop} {w W : World} {b : Nat} (h : KeepF F w W) (hb : F b) (o : Nat) (vs : List Value) : KeepF F w (W.setCells b o vs) := by
  have g := setCells_grown W b o vs
  exact h.trans ⟨g.os, g.tape, g.output, g.size, fun j hj ho => g.block j hj (fun e => by have := Option.some.inj e; subst this; exact ho hb)⟩
theorem KeepF.grown {F : Nat → Prop} {w W W' : World} {d : Nat} (h : KeepF F w W) (hg : W.grownBy W' (some d)) (hd : w.heap.size ≤ d) : KeepF F w W' :=
  ⟨hg.os.trans h.os, hg.tape.trans h.tape, hg.output.trans h.output, Nat.le_trans h.size hg.size, fun j hj ho => (hg.block j (Nat.lt_of_lt_of_le hj h.size) (fun e => by have := Option.some.inj e; omega)).trans (h.block j hj ho)⟩
theorem KeepF.drew {F : Nat → Prop} {w W : World} (h : KeepF F w W) : KeepF F w W.drew := ⟨h.os, h.tape, h.output, h.size, h.block⟩

/-! ### rows of five cells each, by number -/
def rowsF : Nat → (Nat → List Value) → List Value
  | 0, _ => []
  | n + 1, c => rowsF n c ++ c n
def updF (c : Nat → List Value) (k : Nat) (m : List Value) : Nat → List Value := fun i => if i = k then m else c i
theorem updF_same (c : Nat → List Value) (k : Nat) (m : List Value) : updF c k m k = m := if_pos rfl
theorem updF_other {c : Nat → List Value} {k i : Nat} {m : List Value} (h : i ≠ k) : updF c k m i = c i := if_neg h
theorem updF_len {c : Nat → List Value} {k : Nat} {m : List Value} (hc : ∀ i, (c i).length = 5) (hm : m.length = 5) (i : Nat) : (updF c k m i).length = 5 := by
  unfold updF; split
  · exact hm
  · exact hc i
theorem rowsF_len {c : Nat → List Value} (hc : ∀ i, (c i).length = 5) : ∀ n, (rowsF n c).length = n * 5
  | 0 => rfl
  | n + 1 => by rw [rowsF, List.length_append, rowsF_len hc n, hc n]; omega
theorem rowsF_get {c : Nat → List Value} (hc : ∀ i, (c i).length = 5) : ∀ (n i j : Nat), i < n → j < 5 → (rowsF n c)[i * 5 + j]? = (c i)[j]?
  | 0, i, j, h, _ => by omega
  | n + 1, i, j, h, hj => by
    rw [rowsF]
    by_cases e : i < n
    · rw [List.getElem?_append_left (by rw [rowsF_len hc]; omega)]
      exact rowsF_get hc n i j e hj
    · obtain rfl : i = n := by omega
      rw [List.getElem?_append_right (by rw [rowsF_len hc]; omega), rowsF_len hc]
      congr 1
      omega
theorem rowsF_set {c : Nat → List Value} (hc : ∀ i, (c i).length = 5) {m : List Value} (hm : m.length = 5) {n k : Nat} (hk : k < n) : splice (rowsF n c) (k * 5) m = rowsF n (updF c k m) := by
  apply List.ext_getElem?
  intro q
  have hu := updF_len (k := k) hc hm
  have hl := rowsF_len hc n
  have hl2 := rowsF_len hu n
  have hs := splice_length (rowsF n c) (k * 5) m (by rw [hl, hm]; omega)
  by_cases hq : q < n * 5
  · have hq2 : q = q / 5 * 5 + q % 5 := by omega
    have h5 : q % 5 < 5 := by omega
    have hqn : q / 5 < n := by omega
    generalize q / 5 = i at *
    generalize q % 5 = j at *
    subst hq2
    rw [rowsF_get hu n i j hqn h5]
    have t1 : ((rowsF n c).take (k * 5)).length = k * 5 := by rw [List.length_take, hl]; omega
    unfold splice
    rw [List.append_assoc]
    by_cases e : i = k
    · subst e
      rw [updF_same, List.getElem?_append_right (by omega), t1, List.getElem?_append_left (by omega)]
      congr 1
      omega
    · rw [updF_other e]
      by_cases e2 : i < k
      · rw [List.getElem?_append_left (by omega), List.getElem?_take_of_lt (by omega)]
        exact rowsF_get hc n i j hqn h5
      · rw [List.getElem?_append_right (by omega), t1, List.getElem?_append_right (by omega), List.getElem?_drop, hm, ← rowsF_get hc n i j hqn h5]
        congr 1
        omega
  · rw [List.getElem?_eq_none (by omega), List.getElem?_eq_none (by omega)]

def RowF (w : World) (B b n : Nat) (c : Nat → List Value) : Prop := w.ownsRow B 25 5 (.slice (some ⟨b, 0, none⟩) n n) n (rowsF n c)
section
variable {w w' : World} {B b n : Nat} {c : Nat → List Value}
theorem RowF.lt (h : RowF w B b n c) : B ≤ b ∧ b < w.heap.size := World.ownsRow.lt h b rfl
theorem RowF.keep (h : RowF w B b n c) (e : w'.heap[b]? = w.heap[b]?) : RowF w' B b n c := ownsRow_keep h (fun j hj => by have : b = j := by simpa [Value.ownBlock] using hj
                                                                                                                          subst this; exact e)
theorem RowF.cell (h : RowF w B b n c) (hc : ∀ i, (c i).length = 5) {i j : Nat} {u : Value} (hi : i < n) (hu : (c i)[j]? = some u) : w.cell? ⟨b, i * 5 + j, none⟩ = some u := by
  have hj : j < 5 := by rw [← hc i]; exact (List.getElem?_eq_some_iff.1 hu).1
  exact ownsRow_cell h (by rw [rowsF_get hc n i j hi hj]; exact hu)
theorem RowF.there (h : RowF w B b n c) {k : Nat} (hk : k < n) : w.there b (k * 5) 5 := ownsRow_there h hk
theorem RowF.set (h : RowF w B b n c) (hc : ∀ i, (c i).length = 5) {k : Nat} (hk : k < n) {m : List Value} (hm : m.length = 5) : RowF (w.setCells b (k * 5) m) B b n (updF c k m) := by
  have := ownsRow_set h hk hm
  rwa [rowsF_set hc hm hk] at this
theorem RowF.cap (h : RowF w B b n c) : n ≤ maxLen := by
  rcases h.2 with ⟨q, _⟩ | ⟨g, cap, cur, q, _, _, h1, h2, _⟩
  · simp at q
  · simp only [Value.slice.injEq] at q
    omega
theorem RowF.base (h : RowF w B b n c) {B' : Nat} (hB : B' ≤ B) : RowF w B' b n c := ownsRow_base h (fun j hj => by have : b = j := by simpa [Value.ownBlock] using hj
                                                                                                                    subst this; exact Nat.le_trans hB h.lt.1)
end

/-! ### lent -/
def mkV (i : Nat) : V := .mk (-7) i ⟨#[]⟩ [] 0
def nilS : Value := .slice none 0 0
inductive VL (w : World) (B : Nat) : V → Value → (Nat → Prop) → Prop
  | mk (v : V) (b : Nat) (F : Nat → Prop) (c : Nat → List Value) (ss : Nat → Value) (Fs : Nat → Nat → Prop) (wf : v.Wf) (hc : ∀ i, (c i).length = 5) (hrow : RowF w B b (v.list.length + 3) c)
      (h1 : ∀ i (h : i < v.list.length), c i = vcells v.list[i] (ss i)) (h2 : ∀ i, v.list.length ≤ i → i < v.list.length + 3 → c i = vcells (mkV i) nilS) (hin : ∀ i (h : i < v.list.length), VL w B v.list[i] (ss i) (Fs i))
      (hd : ∀ i j, i < v.list.length → j < v.list.length → i ≠ j → ∀ g, Fs i g → ¬ Fs j g) (hs : ∀ i, i < v.list.length → ¬ Fs i b) (hF : ∀ g, F g ↔ (g = b ∨ ∃ i, i < v.list.length ∧ Fs i g)) : VL w B v (.slice (some ⟨b, 0, none⟩) v.list.length (v.list.length + 3)) F
section
variable {w w' : World} {v : V} {s : Value} {B B' : Nat} {F : Nat → Prop}
theorem VL.wf (h : VL w B v s F) : v.Wf := by cases h; assumption
theorem VL.lt (h : VL w B v s F) : ∀ b, F b → B ≤ b ∧ b < w.heap.size := by
  induction h with
  | mk v b F c ss Fs wf hc hrow h1 h2 hin hd hs hF ih =>
    intro g hg
    rcases (hF g).1 hg with rfl | ⟨i, hi, q⟩
    · exact hrow.lt
    · exact ih i hi g q
theorem VL.keep (h : VL w B v s F) (e : ∀ b, F b → w'.heap[b]? = w.heap[b]?) : VL w' B v s F := by
  induction h with
  | mk v b F c ss Fs wf hc hrow h1 h2 hin hd hs hF ih =>
    exact .mk v b F c ss Fs wf hc (hrow.keep (e b ((hF b).2 (.inl rfl)))) h1 h2 (fun i hi => ih i hi (fun g hg => e g ((hF g).2 (.inr ⟨i, hi, hg⟩)))) hd hs hF
theorem VL.blw (h : VL w B v s F) (hb : Below w.heap.size w w') : VL w' B v s F := h.keep (fun b q => hb.block b (h.lt b q).2)
theorem VL.keepF {G : Nat → Prop} (h : VL w B v s F) (hk : KeepF G w w') (hd : ∀ b, F b → ¬ G b) : VL w' B v s F := h.keep (fun b q => hk.block b (h.lt b q).2 (hd b q))
theorem VL.mono (h : VL w B v s F) (hB : B' ≤ B) : VL w B' v s F := by
  induction h with
  | mk v b F c ss Fs wf hc hrow h1 h2 hin hd hs hF ih =>
    exact .mk v b F c ss Fs wf hc (hrow.base hB) h1 h2 (fun i hi => ih i hi) hd hs hF
theorem VL.as {v' : V} (h : VL w B v s F) (hl : v'.list = v.list) (hw : v'.Wf) : VL w B v' s F := by
  cases h with
  | mk _ b _ c ss Fs wf hc hrow h1 h2 hin hd hs hF =>
    have key : ∀ (L : List V) (e : L = v.list), v'.list = L → VL w B v' (.slice (some ⟨b, 0, none⟩) L.length (L.length + 3)) F := by
      intro L e e2
      subst e2
      have hln : v'.list.length = v.list.length := by rw [e]
      refine .mk v' b F c ss Fs hw hc (by rw [hln]; exact hrow) (fun i hi => ?_) (fun i q1 q2 => h2 i (hln ▸ q1) (hln ▸ q2)) (fun i hi => ?_) (fun i j hi hj => hd i j (hln ▸ hi) (hln ▸ hj)) (fun i hi => hs i (hln ▸ hi)) (fun g => by rw [hF g, hln])
      · rw [h1 i (hln ▸ hi)]
        simp only [e]
      · have := hin i (hln ▸ hi)
        simpa only [e] using this
    exact key v.list rfl hl
theorem VL.slice (h : VL w B v s F) : ∃ b, s = .slice (some ⟨b, 0, none⟩) v.list.length (v.list.length + 3) ∧ F b ∧ v.list.length + 3 ≤ maxLen := by
  cases h with
  | mk _ b _ c ss Fs wf hc hrow h1 h2 hin hd hs hF => exact ⟨b, rfl, (hF b).2 (.inl rfl), hrow.cap⟩
theorem VL.vin (h : VL w B v s F) : VIn w v s := by
  induction h with
  | mk v b F c ss Fs wf hc hrow h1 h2 hin hd hs hF ih =>
    refine .mk v (some ⟨b, 0, none⟩) _ ss wf (by omega) hrow.cap (fun _ => ⟨b, 0, rfl⟩) (fun b' o e i hi j u hu => ?_) ih
    simp only [Option.some.injEq, Addr.mk.injEq] at e
    obtain ⟨rfl, rfl, _⟩ := e
    rw [Nat.zero_add]
    exact hrow.cell hc (by omega) (by rw [h1 i hi]; exact hu)
end
/-! ### turned -/
def xor1 (n : Int) : Int := bits BinOp.xor IntKind.u64 n 1
theorem xor1_u64 (n : Int) : IsU64 (xor1 n) := wf_u64V (wf_bits _ _ _ _)
mutual
def V.turned : V → V
  | .mk k n t l e => .mk k (xor1 n) t (turneds l) e
def turneds : List V → List V
  | [] => []
  | v :: r => v.turned :: turneds r
end
theorem turneds_map (l : List V) : turneds l = l.map V.turned := by
  induction l with
  | nil => rfl
  | cons a r ih => rw [turneds, ih]; rfl
theorem V.turned_eq (v : V) : v.turned = .mk v.kind (xor1 v.num) v.text (v.list.map V.turned) v.elem := by cases v; rw [V.turned, turneds_map]; rfl
theorem V.Wf.turned {v : V} (h : v.Wf) : v.turned.Wf := by
  rw [V.turned_eq]
  exact ⟨h.k, xor1_u64 _, h.t, h.e⟩
end Go.Proofs.YtjipennigjlklaaDoor
