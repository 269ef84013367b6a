/-
  Rows of elements of several cells that one owns: stores into them, marks, rows that are kept while others are grown. They speak of no program. No conditions.
-/
import Derived.Test.YtcbjfakkikjbkaaApp2
import Derived.Deep.MidRow
import Derived.Deep.Upon
import Derived.Deep.Draws
import Derived.Deep.AppendLies
import Derived.Laws.OwnMore
namespace Go.Proofs.Ytcbjfakkikjbkaa
open Go.RowKit
set_option linter.all false

/-! ### a store of several cells -/
def splice (l : List Value) (o : Nat) (vs : List Value) : List Value := l.take o ++ vs ++ l.drop (o + vs.length)
theorem splice_length (l : List Value) (o : Nat) (vs : List Value) (h : o + vs.length ≤ l.length) : (splice l o vs).length = l.length := by
  simp [splice]; omega
theorem splice_cons (l : List Value) (o : Nat) (v : Value) (vs : List Value) (h : o + (vs.length + 1) ≤ l.length) : splice (l.set o v) (o + 1) vs = splice l o (v :: vs) := by
  apply List.ext_getElem?
  intro i
  unfold splice
  have h1 : ((l.set o v).take (o + 1)).length = o + 1 := by simp; omega
  have h2 : (l.take o).length = o := by simp; omega
  by_cases a : i < o
  · rw [List.append_assoc, List.append_assoc, List.getElem?_append_left (by omega), List.getElem?_append_left (by omega), List.getElem?_take_of_lt (by omega), List.getElem?_take_of_lt a, List.getElem?_set_ne (by omega)]
  · by_cases b : i = o
    · subst b
      rw [List.append_assoc, List.getElem?_append_left (by omega), List.getElem?_take_of_lt (by omega), List.getElem?_set_self (by omega), List.append_assoc, List.getElem?_append_right (by omega), h2]
      simp
    · rw [List.append_assoc, List.append_assoc, List.getElem?_append_right (l₁ := (l.set o v).take (o + 1)) (by omega), List.getElem?_append_right (l₁ := l.take o) (by omega), h1, h2]
      by_cases c : i < o + 1 + vs.length
      · rw [List.getElem?_append_left (by omega), List.getElem?_append_left (by simp; omega), show i - o = (i - (o + 1)) + 1 by omega, List.getElem?_cons_succ]
      · rw [List.getElem?_append_right (by omega), List.getElem?_append_right (by simp; omega), List.getElem?_drop, List.getElem?_drop, List.getElem?_set_ne (by omega)]
        congr 1
        simp
        omega
theorem heap_setCells (g : Nat) (t : TypeId) : ∀ (vs : List Value) (o : Nat) (w : World) (C : Array Value), w.heap[g]? = some (.cells C t (0, 0)) → o + vs.length ≤ C.size → (w.setCells g o vs).heap[g]? = some (.cells (splice C.toList o vs).toArray t (0, 0))
  | [], o, w, C, h, _ => by
    simp only [World.setCells, splice, List.append_nil, List.length_nil, Nat.add_zero, List.take_append_drop]
    exact h
  | v :: vs, o, w, C, h, hl => by
    simp only [World.setCells]
    rw [List.length_cons] at hl
    have h1 := heap_setCell_same w g o C t v h
    have h2 := heap_setCells g t vs (o + 1) _ _ h1 (by simp; omega)
    rw [h2]
    congr 2
    rw [Array.toList_setIfInBounds, splice_cons _ _ _ _ (by simp; omega)]
theorem size_setCells (g : Nat) (vs : List Value) (o : Nat) (w : World) : (w.setCells g o vs).heap.size = w.heap.size := by
  induction vs generalizing o w with
  | nil => rfl
  | cons v vs ih => simp only [World.setCells]; rw [ih]; simp [World.setCell]
theorem tape_setCells (g : Nat) (vs : List Value) (o : Nat) (w : World) : (w.setCells g o vs).tape = w.tape := by
  induction vs generalizing o w with
  | nil => rfl
  | cons v vs ih => simp only [World.setCells]; rw [ih]; rfl
theorem setCells_grown (w : World) (g o : Nat) (vs : List Value) : w.grownBy (w.setCells g o vs) (some g) :=
  ⟨World.os_setCells w g o vs, tape_setCells g vs o w, World.output_setCells w g o vs, by rw [size_setCells]; exact Nat.le_refl _, fun k hk hne => World.heap_setCells_other w g o vs hk (fun e => hne (by rw [e]))⟩

/-! ### a row of n elements of K cells each -/
section
variable {e K : Nat}

theorem ownsRow_there {w : World} {B g n cap : Nat} {xs : List Value} (h : w.ownsRow B e K (.slice (some ⟨g, 0, none⟩) n cap) n xs) {k : Nat} (hk : k < n) : w.there g (k * K) K := by
  rcases h.2 with ⟨q, _⟩ | ⟨g', cap', cur, q, _, hb, h1, _, h3, _⟩
  · simp at q
  · simp only [Value.slice.injEq, Option.some.injEq, Addr.mk.injEq] at q
    obtain ⟨⟨rfl, _⟩, _, rfl⟩ := q
    intro j hj
    have : k * K + j < cur.size := by
      have : (k + 1) * K ≤ cap * K := Nat.mul_le_mul_right _ (by omega)
      rw [Nat.succ_mul] at this
      omega
    refine ⟨?_, by simp [World.frozen?, hb]⟩
    rw [cell_of_row _ _ _ _ _ _ hb, Array.getElem?_eq_getElem this]
    rfl

/-- one element written over -/
theorem ownsRow_set {w : World} {B g n cap : Nat} {xs ms : List Value} (h : w.ownsRow B e K (.slice (some ⟨g, 0, none⟩) n cap) n xs) {k : Nat} (hk : k < n) (hm : ms.length = K) :
    (w.setCells g (k * K) ms).ownsRow B e K (.slice (some ⟨g, 0, none⟩) n cap) n (splice xs (k * K) ms) := by
  have hx := h.1
  have hkn : k * K + K ≤ n * K := by rw [← Nat.succ_mul]; exact Nat.mul_le_mul_right _ hk
  rcases h.2 with ⟨q, _⟩ | ⟨g', cap', cur, q, hB, hb, h1, h2, h3, h4⟩
  · simp at q
  · simp only [Value.slice.injEq, Option.some.injEq, Addr.mk.injEq] at q
    obtain ⟨⟨rfl, _⟩, _, rfl⟩ := q
    have hcn : n * K ≤ cap * K := Nat.mul_le_mul_right _ h1
    refine ⟨by rw [splice_length _ _ _ (by rw [hx, hm]; exact hkn)]; exact hx, .inr ⟨g, cap, _, rfl, hB, heap_setCells g e ms (k * K) w cur hb (by rw [hm]; omega), h1, h2, ?_, ?_⟩⟩
    · rw [List.size_toArray, splice_length cur.toList (k * K) ms (by simp; omega), Array.length_toList]; exact h3
    · rw [← h4]
      have hc : cur.toList.length = cap * K := by rw [Array.length_toList, h3]
      have h5 : (cur.toList.take (k * K)).length = k * K := by simp; omega
      show (splice cur.toList (k * K) ms).take (n * K) = splice (cur.toList.take (n * K)) (k * K) ms
      unfold splice
      rw [List.take_take, Nat.min_eq_left (by omega), List.take_append, List.length_append, h5, hm, List.take_of_length_le (by rw [List.length_append, h5, hm]; omega), List.drop_take]

/-- the cells of one element -/
theorem ownsRow_cell {w : World} {B g n cap : Nat} {xs : List Value} (h : w.ownsRow B e K (.slice (some ⟨g, 0, none⟩) n cap) n xs) {i : Nat} {u : Value} (hu : xs[i]? = some u) : w.cell? ⟨g, i, none⟩ = some u := by
  rcases h.2 with ⟨q, _⟩ | ⟨g', cap', cur, q, _, hb, h1, _, h3, h4⟩
  · simp at q
  · simp only [Value.slice.injEq, Option.some.injEq, Addr.mk.injEq] at q
    obtain ⟨⟨rfl, _⟩, _, rfl⟩ := q
    rw [cell_of_row _ _ _ _ _ _ hb, ← hu, ← h4]
    have hi : i < n * K := by rw [← h.1]; exact (List.getElem?_eq_some_iff.1 hu).1
    rw [List.getElem?_take_of_lt hi, Array.getElem?_toList]

theorem ownsRow_form {w : World} {B n : Nat} {v : Value} {xs : List Value} (h : w.ownsRow B e K v n xs) : ∃ p c, v = .slice p n c ∧ n ≤ c ∧ c ≤ maxLen ∧ (0 < n → ∃ g, p = some ⟨g, 0, none⟩ ∧ B ≤ g ∧ g < w.heap.size) := by
  rcases h.2 with ⟨rfl, rfl⟩ | ⟨g, cap, cur, rfl, hB, hb, h1, h2, _⟩
  · exact ⟨none, 0, rfl, by omega, Nat.zero_le _, fun q => by omega⟩
  · exact ⟨_, cap, rfl, h1, h2, fun _ => ⟨g, rfl, hB, (Array.getElem?_eq_some_iff.1 hb).1⟩⟩

theorem ownsRow_keep {w w' : World} {B n : Nat} {v : Value} {xs : List Value} (h : w.ownsRow B e K v n xs) (hk : ∀ j, v.ownBlock = some j → w'.heap[j]? = w.heap[j]?) : w'.ownsRow B e K v n xs := by
  refine ⟨h.1, ?_⟩
  rcases h.2 with hn | ⟨g, cap, cur, hv, hbg, hb, rest⟩
  · exact .inl hn
  · exact .inr ⟨g, cap, cur, hv, hbg, (hk g (by rw [hv]; rfl)).trans hb, rest⟩
theorem ownsRow_grown {w w' : World} {B n : Nat} {v : Value} {xs : List Value} {row : Option Nat} (h : w.ownsRow B e K v n xs) (hg : w.grownBy w' row) (hne : v.ownBlock = none ∨ v.ownBlock ≠ row) : w'.ownsRow B e K v n xs :=
  ownsRow_keep h (fun j hj => hg.block j (h.lt j hj).2 (fun q => by
    rcases hne with h1 | h1
    · rw [h1] at hj; cases hj
    · exact h1 (hj.trans q)))
theorem ownsRow_off {w : World} {B n : Nat} {v : Value} {xs : List Value} (h : w.ownsRow B e K v n xs) {b T : Nat} {cs : Array Value} {fr : Nat × Nat} (hv : w.heap[b]? = some (.cells cs T fr)) (hT : e ≠ T) : v.ownBlock ≠ some b := by
  intro q
  rcases h.2 with ⟨rfl, _⟩ | ⟨g, cap, cur, rfl, _, hb, _⟩
  · cases q
  · simp only [Value.ownBlock, Option.some.injEq] at q
    subst q
    rw [hb] at hv
    simp only [Option.some.injEq, Obj.cells.injEq] at hv
    exact hT hv.2.1
theorem ownsRow_apart {w : World} {B B' e' K' n n' : Nat} {u v : Value} {xs ys : List Value} (hu : w.ownsRow B e K u n xs) (hv : w.ownsRow B' e' K' v n' ys) (hT : e ≠ e') : u.ownBlock = none ∨ u.ownBlock ≠ v.ownBlock := by
  rcases hv.2 with ⟨rfl, _⟩ | ⟨g, cap, cur, rfl, _, hb, _⟩
  · cases hub : u.ownBlock with
    | none => exact .inl rfl
    | some b => exact .inr (fun q => by cases q)
  · exact .inr (ownsRow_off hu hb hT)

/-! ### marks -/
def mkRow (ms : List Value) : Nat → List Value
  | 0 => []
  | n + 1 => mkRow ms n ++ ms
theorem mkRow_length {ms : List Value} (hm : ms.length = K) : ∀ n, (mkRow ms n).length = n * K
  | 0 => by simp [mkRow]
  | n + 1 => by rw [mkRow, List.length_append, mkRow_length hm n, hm, Nat.succ_mul]
theorem mkRow_get {ms : List Value} (hm : ms.length = K) : ∀ (n k c : Nat), k < n → c < K → (mkRow ms n)[k * K + c]? = ms[c]?
  | 0, k, c, h, _ => by omega
  | n + 1, k, c, h, hc => by
    rw [mkRow]
    by_cases hk : k < n
    · have : (k + 1) * K ≤ n * K := Nat.mul_le_mul_right _ hk
      rw [Nat.succ_mul] at this
      rw [List.getElem?_append_left (by rw [mkRow_length hm]; omega)]
      exact mkRow_get hm n k c hk hc
    · obtain rfl : k = n := by omega
      rw [List.getElem?_append_right (by rw [mkRow_length hm]; omega), mkRow_length hm]
      congr 1
      omega
theorem mkRow_take {ms : List Value} (hm : ms.length = K) {m n : Nat} (h : m ≤ n) : (mkRow ms n).take (m * K) = mkRow ms m := by
  induction n with
  | zero => obtain rfl : m = 0 := by omega
            simp [mkRow]
  | succ n ih =>
    by_cases e : m = n + 1
    · subst e
      rw [List.take_of_length_le (by rw [mkRow_length hm]; exact Nat.le_refl _)]
    · have hmn : m ≤ n := by omega
      have := Nat.mul_le_mul_right K hmn
      rw [mkRow, List.take_append_of_le_length (by rw [mkRow_length hm]; exact this)]
      exact ih hmn

/-- rows that are kept, each with its number and its length -/
def KeptG (e K : Nat) (mk : Nat → List Value) (w : World) (B : Nat) (F : List (Value × Nat × Nat)) : Prop := ∀ u ∈ F, w.ownsRow B e K u.1 u.2.2 (mkRow (mk u.2.1) u.2.2)
/-- each of them lies elsewhere than v, or is a beginning of it -/
def AptG (F : List (Value × Nat × Nat)) (v : Value) (i n : Nat) : Prop := ∀ u ∈ F, u.1.ownBlock = none ∨ u.1.ownBlock ≠ v.ownBlock ∨ (u.2.1 = i ∧ u.2.2 ≤ n)

variable {mk : Nat → List Value}
theorem KeptG.lt {w : World} {B : Nat} {F : List (Value × Nat × Nat)} (h : KeptG e K mk w B F) {u : Value × Nat × Nat} (hu : u ∈ F) {g : Nat} (hg : u.1.ownBlock = some g) : g < w.heap.size := ((h u hu).lt g hg).2

theorem KeptG.step {w w' : World} {B i n : Nat} {v v' : Value} {F : List (Value × Nat × Nat)} (hK : 0 < K) (hm : ∀ i, (mk i).length = K) (h : KeptG e K mk w B F) (ha : AptG F v i n) (ho : w.ownsRow B e K v n (mkRow (mk i) n)) (hA : App1 w w' B e K n v v' (mkRow (mk i) n ++ mk i)) :
    KeptG e K mk w' B F ∧ AptG F v' i (n + 1) := by
  have hg := hA.grown
  refine ⟨fun u hu => ?_, fun u hu => ?_⟩
  · rcases ha u hu with h1 | h1 | ⟨h1, h2⟩
    · exact ownsRow_grown (h u hu) hg (.inl h1)
    · exact ownsRow_grown (h u hu) hg (.inr h1)
    · by_cases hb : u.1.ownBlock = v.ownBlock
      · rcases hA with ⟨g, cap, rfl, rfl, hc1, hc2, ho', hg'⟩ | ⟨cap, rfl, _, _, _, hg'⟩
        · have hu' := h u hu
          refine ⟨hu'.1, ?_⟩
          rcases hu'.2 with hn | ⟨g2, cap2, cur2, hv2, hB2, hh2, a1, a2, a3, a4⟩
          · exact .inl hn
          · rw [hv2] at hb
            simp only [Value.ownBlock, Option.some.injEq] at hb
            subst hb
            rcases ho.2 with ⟨q, _⟩ | ⟨g3, cap3, cur3, q, _, hh3, b1, b2, b3, b4⟩
            · simp at q
            simp only [Value.slice.injEq, Option.some.injEq, Addr.mk.injEq] at q
            obtain ⟨⟨rfl, _⟩, _, rfl⟩ := q
            rw [hh3] at hh2
            simp only [Option.some.injEq, Obj.cells.injEq, and_true] at hh2
            subst hh2
            obtain rfl : cap = cap2 := Nat.eq_of_mul_eq_mul_right hK (b3.symm.trans a3)
            rcases ho'.2 with ⟨q, _⟩ | ⟨g4, cap4, cur4, q, _, hh4, d1, d2, d3, d4⟩
            · simp at q
            simp only [Value.slice.injEq, Option.some.injEq, Addr.mk.injEq] at q
            obtain ⟨⟨rfl, _⟩, _, rfl⟩ := q
            refine .inr ⟨g2, cap, cur4, hv2, hB2, hh4, a1, a2, d3, ?_⟩
            have hle : u.2.2 * K ≤ (n + 1) * K := Nat.mul_le_mul_right _ (by omega)
            have : (cur4.toList.take ((n + 1) * K)).take (u.2.2 * K) = (mkRow (mk i) (n + 1)).take (u.2.2 * K) := by rw [d4]; rfl
            rw [List.take_take, Nat.min_eq_left hle, mkRow_take (hm i) (by omega)] at this
            rw [this, h1]
        · exact ownsRow_keep (h u hu) (fun j hj => hg'.block j ((h u hu).lt j hj).2 (by simp))
      · exact ownsRow_grown (h u hu) hg (.inr hb)
  · rcases hA with ⟨g, cap, rfl, rfl, _⟩ | ⟨cap, rfl, _⟩
    · rcases ha u hu with h1 | h1 | ⟨h1, h2⟩
      · exact .inl h1
      · exact .inr (.inl h1)
      · exact .inr (.inr ⟨h1, by omega⟩)
    · refine .inr (.inl (fun he => ?_))
      have := h.lt hu (g := w.heap.size) (by rw [he]; rfl)
      omega
theorem KeptG.other {w w' : World} {B : Nat} {row : Option Nat} {F : List (Value × Nat × Nat)} (h : KeptG e K mk w B F) (hg : w.grownBy w' row) (hne : ∀ u ∈ F, u.1.ownBlock = none ∨ u.1.ownBlock ≠ row) : KeptG e K mk w' B F :=
  fun u hu => ownsRow_grown (h u hu) hg (hne u hu)

/-- nothing but these rows has changed, and new blocks -/
structure OnlyG (vs : List Value) (w w' : World) : Prop where
  os : w'.os = w.os
  tape : w'.tape = w.tape
  output : w'.output = w.output
  size : w.heap.size ≤ w'.heap.size
  block : ∀ k, k < w.heap.size → (∀ v ∈ vs, v.ownBlock ≠ some k) → w'.heap[k]? = w.heap[k]?

theorem OnlyG.refl (vs : List Value) (w : World) : OnlyG vs w w := ⟨rfl, rfl, rfl, Nat.le_refl _, fun _ _ _ => rfl⟩
theorem OnlyG.drewN {vs : List Value} {w w' : World} (h : OnlyG vs w w') (m : Nat) : OnlyG vs w (w'.drewN m) := ⟨h.os, h.tape, h.output, h.size, h.block⟩
theorem OnlyG.grown {vs : List Value} {w wr w' : World} {row : Option Nat} (h : OnlyG vs w wr) (hg : wr.grownBy w' row) (hr : ∀ k, row = some k → w.heap.size ≤ k ∨ ∃ v ∈ vs, v.ownBlock = some k) : OnlyG vs w w' := by
  refine ⟨hg.os.trans h.os, hg.tape.trans h.tape, hg.output.trans h.output, Nat.le_trans h.size hg.size, fun k hk hn => ?_⟩
  have hs := h.size
  rw [hg.block k (by omega) (fun he => ?_)]
  · exact h.block k hk hn
  · rcases hr k he.symm with h1 | ⟨v, hv, h1⟩
    · omega
    · exact hn v hv h1
theorem OnlyG.below {vs : List Value} {B : Nat} {w w' : World} (h : OnlyG vs w w') (hB : B ≤ w.heap.size) (hv : ∀ v ∈ vs, ∀ k, v.ownBlock = some k → B ≤ k) : Below B w w' := by
  refine ⟨h.os, h.tape, h.output, h.size, fun k hk => h.block k (by omega) (fun v hv' he => ?_)⟩
  have := hv v hv' k he
  omega
theorem OnlyG.then_ {vs : List Value} {w w1 w2 : World} (h : OnlyG vs w w1) (hb : Below w1.heap.size w1 w2) : OnlyG vs w w2 :=
  ⟨hb.os.trans h.os, hb.tape.trans h.tape, hb.output.trans h.output, Nat.le_trans h.size hb.size, fun k hk hn => (hb.block k (Nat.lt_of_lt_of_le hk h.size)).trans (h.block k hk hn)⟩
theorem OnlyG.trans {vs : List Value} {w w1 w2 : World} (h : OnlyG vs w w1) (k : OnlyG vs w1 w2) : OnlyG vs w w2 :=
  ⟨k.os.trans h.os, k.tape.trans h.tape, k.output.trans h.output, Nat.le_trans h.size k.size, fun j hj hn => (k.block j (Nat.lt_of_lt_of_le hj h.size) hn).trans (h.block j hj hn)⟩
theorem OnlyG.keep {vs : List Value} {w w' : World} (h : OnlyG vs w w') {B n e' K' : Nat} {u : Value} {xs : List Value} (hu : w.ownsRow B e' K' u n xs) (hne : ∀ v ∈ vs, v.ownBlock = none ∨ u.ownBlock ≠ v.ownBlock) : w'.ownsRow B e' K' u n xs :=
  ownsRow_keep hu (fun j hj => h.block j (hu.lt j hj).2 (fun v hv q => by
    rcases hne v hv with h1 | h1
    · rw [h1] at q; cases q
    · exact h1 (hj.trans q.symm)))

/-- no two rows lie in one block -/
def DistG (vs : List Value) : Prop := ∀ i j, i < vs.length → j < vs.length → i ≠ j → (vs.getD i default).ownBlock = none ∨ (vs.getD i default).ownBlock ≠ (vs.getD j default).ownBlock

/-- the rows are written as far as the k-th element of the i-th -/
def FillG (e K : Nat) (mk : Nat → List Value) (w : World) (B : Nat) (vs : List Value) (nn : Nat → Nat) (i k : Nat) : Prop :=
  ∀ j, j < vs.length → ∃ l : List Value, w.ownsRow B e K (vs.getD j default) (nn j) l ∧ ∀ m c, m < nn j → c < K → (j < i ∨ (j = i ∧ m < k)) → l[m * K + c]? = (mk j)[c]?

theorem FillG.next {w : World} {B : Nat} {vs : List Value} {nn : Nat → Nat} {i : Nat} (h : FillG e K mk w B vs nn i (nn i)) : FillG e K mk w B vs nn (i + 1) 0 := fun j hj => by
  obtain ⟨l, h2, h3⟩ := h j hj
  refine ⟨l, h2, fun m c hm hc hq => h3 m c hm hc ?_⟩
  rcases hq with hq | ⟨_, hq⟩
  · by_cases e : j = i
    · exact .inr ⟨e, by rw [← e]; exact hm⟩
    · exact .inl (by omega)
  · omega
theorem FillG.done {w : World} {B : Nat} {vs : List Value} {nn : Nat → Nat} (hK : 0 < K) (hmk : ∀ i, (mk i).length = K) (h : FillG e K mk w B vs nn vs.length 0) (j : Nat) (hj : j < vs.length) : w.ownsRow B e K (vs.getD j default) (nn j) (mkRow (mk j) (nn j)) := by
  obtain ⟨l, h2, h3⟩ := h j hj
  have : l = mkRow (mk j) (nn j) := by
    apply List.ext_getElem?
    intro p
    by_cases hp : p < nn j * K
    · have e : p = (p / K) * K + p % K := by rw [Nat.mul_comm]; exact (Nat.div_add_mod p K).symm
      have h4 : p / K < nn j := (Nat.div_lt_iff_lt_mul hK).2 hp
      rw [e, h3 _ _ h4 (Nat.mod_lt _ hK) (.inl hj), mkRow_get (hmk j) _ _ _ h4 (Nat.mod_lt _ hK)]
    · rw [List.getElem?_eq_none (by rw [h2.1]; omega), List.getElem?_eq_none (by rw [mkRow_length (hmk j)]; omega)]
  rw [← this]; exact h2
theorem splice_get (l ms : List Value) (K k m c : Nat) (hl : k * K + K ≤ l.length) (hm : ms.length = K) (hc : c < K) : (splice l (k * K) ms)[m * K + c]? = if m = k then ms[c]? else l[m * K + c]? := by
  have h2 : (l.take (k * K)).length = k * K := by simp; omega
  unfold splice
  by_cases e : m = k
  · subst e
    rw [if_pos rfl, List.append_assoc, List.getElem?_append_right (by omega), h2, List.getElem?_append_left (by omega)]
    congr 1
    omega
  · rw [if_neg e]
    by_cases h : m < k
    · have : (m + 1) * K ≤ k * K := Nat.mul_le_mul_right _ h
      rw [Nat.succ_mul] at this
      rw [List.append_assoc, List.getElem?_append_left (by omega), List.getElem?_take_of_lt (by omega)]
    · have : (k + 1) * K ≤ m * K := Nat.mul_le_mul_right _ (by omega)
      rw [Nat.succ_mul] at this
      rw [List.getElem?_append_right (by rw [List.length_append]; omega), List.getElem?_drop, List.length_append, h2, hm]
      congr 1
      omega
theorem FillG.set {w : World} {B : Nat} {vs : List Value} {nn : Nat → Nat} {i k g cap : Nat} (hmk : ∀ i, (mk i).length = K) (h : FillG e K mk w B vs nn i k) (hd : DistG vs) (hi : i < vs.length) (hk : k < nn i) (hv : vs.getD i default = .slice (some ⟨g, 0, none⟩) (nn i) cap) :
    FillG e K mk (w.setCells g (k * K) (mk i)) B vs nn i (k + 1) := fun j hj => by
  obtain ⟨l, h2, h3⟩ := h j hj
  by_cases e : j = i
  · subst e
    rw [hv] at h2
    have hl := h2.1
    have hkn : k * K + K ≤ l.length := by rw [hl, ← Nat.succ_mul]; exact Nat.mul_le_mul_right _ hk
    refine ⟨_, by rw [hv]; exact ownsRow_set h2 hk (hmk j), fun m c hm hc hq => ?_⟩
    rw [splice_get _ _ K k m c hkn (hmk j) hc]
    by_cases e : m = k
    · rw [if_pos e]
    · rw [if_neg e]
      exact h3 m c hm hc (by omega)
  · refine ⟨l, ownsRow_grown h2 (setCells_grown w g _ _) ?_, fun m c hm hc hq => h3 m c hm hc (by omega)⟩
    have := hd j i hj hi e
    rw [hv] at this
    exact this

/-- the rows as a list of kept ones -/
def rowsG (vs : List Value) (nn : Nat → Nat) : List (Value × Nat × Nat) := (List.range vs.length).map fun j => (vs.getD j default, j, nn j)
theorem mem_rowsG {vs : List Value} {nn : Nat → Nat} {u : Value × Nat × Nat} (h : u ∈ rowsG vs nn) : ∃ j, j < vs.length ∧ u = (vs.getD j default, j, nn j) := by
  simp only [rowsG, List.mem_map, List.mem_range] at h
  obtain ⟨j, hj, rfl⟩ := h
  exact ⟨j, hj, rfl⟩
theorem rowsG_mem {vs : List Value} {nn : Nat → Nat} {j : Nat} (hj : j < vs.length) : (vs.getD j default, j, nn j) ∈ rowsG vs nn := by
  simp only [rowsG, List.mem_map, List.mem_range]; exact ⟨j, hj, rfl⟩

/-- where a grown row may lie -/
def FromG (vs : List Value) (S : Nat) (v : Value) (i : Nat) : Prop := v.ownBlock = (vs.getD i default).ownBlock ∨ ∃ g, v.ownBlock = some g ∧ S ≤ g

/-- the lists that have been grown so far (st: their type; per: so many of each list) -/
structure GSG (e K st per : Nat) (mk : Nat → List Value) (w wr : World) (B : Nat) (vs : List Value) (nn : Nat → Nat) (gv : Value) (G : List (Value × Nat × Nat)) (i : Nat) : Prop where
  only : OnlyG vs w wr
  kept : KeptG e K mk wr B (rowsG vs nn ++ G)
  row : wr.ownsRow w.heap.size st 1 gv G.length (G.map (·.1))
  idx : ∀ t, t < G.length → (G.getD t default).2.1 = t / per
  from_ : ∀ u ∈ G, u.2.1 ≤ i ∧ FromG vs w.heap.size u.1 u.2.1

/-- .. and the one that is being grown -/
structure GKG (e K st per : Nat) (mk : Nat → List Value) (w wr : World) (B : Nat) (vs : List Value) (nn : Nat → Nat) (gv : Value) (G : List (Value × Nat × Nat)) (i n : Nat) (v : Value) : Prop extends GSG e K st per mk w wr B vs nn gv G i where
  own : wr.ownsRow B e K v n (mkRow (mk i) n)
  apt : AptG (rowsG vs nn ++ G) v i n
  vfrom : FromG vs w.heap.size v i

variable {st per : Nat}
theorem GSG.start {w wr : World} {B : Nat} {vs : List Value} {nn : Nat → Nat} (hK : 0 < K) (hmk : ∀ i, (mk i).length = K) (ho : OnlyG vs w wr) (hf : FillG e K mk wr B vs nn vs.length 0) : GSG e K st per mk w wr B vs nn (.slice none 0 0) [] 0 :=
  ⟨ho, fun u hu => by
    rw [List.append_nil] at hu
    obtain ⟨j, hj, rfl⟩ := mem_rowsG hu
    exact hf.done hK hmk j hj, World.ownsRow_nil _ _ _ _, fun t ht => absurd ht (Nat.not_lt_zero _), fun u hu => by simp at hu⟩

/-- a round begins: the i-th list, as it was taken; the grown ones are of lists ahead of it -/
theorem GSG.begin {w wr : World} {B : Nat} {vs : List Value} {nn : Nat → Nat} {gv : Value} {G : List (Value × Nat × Nat)} {i : Nat} (h : GSG e K st per mk w wr B vs nn gv G i) (hG : ∀ u ∈ G, u.2.1 < i) (hi : i < vs.length) (hd : DistG vs)
    (hlt : ∀ j, j < vs.length → ∀ g, (vs.getD j default).ownBlock = some g → g < w.heap.size) : GKG e K st per mk w wr B vs nn gv G i (nn i) (vs.getD i default) := by
  refine { h with own := ?_, apt := fun u hu => ?_, vfrom := .inl rfl }
  · exact h.kept (vs.getD i default, i, nn i) (List.mem_append_left _ (rowsG_mem hi))
  · rcases List.mem_append.1 hu with hu | hu
    · obtain ⟨j, hj, rfl⟩ := mem_rowsG hu
      by_cases e : j = i
      · exact .inr (.inr ⟨e, by subst e; exact Nat.le_refl _⟩)
      · rcases hd j i hj hi e with h1 | h1
        · exact .inl h1
        · exact .inr (.inl h1)
    · have hj := hG u hu
      rcases (h.from_ u hu).2 with h1 | ⟨g, h1, h2⟩
      · rcases hd u.2.1 i (by omega) hi (by omega) with h3 | h3
        · exact .inl (h1.trans h3)
        · exact .inr (.inl (by rw [h1]; exact h3))
      · refine .inr (.inl (fun he => ?_))
        have := hlt i hi g (by rw [← he, h1])
        omega

theorem GSG.below {w wr w' : World} {B : Nat} {vs : List Value} {nn : Nat → Nat} {gv : Value} {G : List (Value × Nat × Nat)} {i : Nat} (h : GSG e K st per mk w wr B vs nn gv G i) (hb : Below wr.heap.size wr w') : GSG e K st per mk w w' B vs nn gv G i :=
  ⟨h.only.then_ hb, fun u hu => ownsRow_keep (h.kept u hu) (fun j hj => hb.block j ((h.kept u hu).lt j hj).2), ownsRow_keep h.row (fun j hj => hb.block j (h.row.lt j hj).2), h.idx, h.from_⟩
theorem GKG.below {w wr w' : World} {B : Nat} {vs : List Value} {nn : Nat → Nat} {gv v : Value} {G : List (Value × Nat × Nat)} {i n : Nat} (h : GKG e K st per mk w wr B vs nn gv G i n v) (hb : Below wr.heap.size wr w') : GKG e K st per mk w w' B vs nn gv G i n v :=
  { h.toGSG.below hb with own := ownsRow_keep h.own (fun j hj => hb.block j (h.own.lt j hj).2), apt := h.apt, vfrom := h.vfrom }

/-- an element is put behind it -/
theorem GKG.put {w wr w' : World} {B : Nat} {vs : List Value} {nn : Nat → Nat} {gv v v' : Value} {G : List (Value × Nat × Nat)} {i n : Nat} (hK : 0 < K) (hmk : ∀ i, (mk i).length = K) (hst : e ≠ st) (h : GKG e K st per mk w wr B vs nn gv G i n v) (hi : i < vs.length) (hB : B ≤ wr.heap.size)
    (hA : App1 wr w' B e K n v v' (mkRow (mk i) n ++ mk i)) : GKG e K st per mk w w' B vs nn gv G i (n + 1) v' := by
  obtain ⟨hk, ha⟩ := h.kept.step hK hmk h.apt h.own hA
  have hg := hA.grown
  have hvm : vs.getD i default ∈ vs := by
    rw [List.getD_eq_getElem?_getD, List.getElem?_eq_getElem hi]; exact List.getElem_mem hi
  refine { only := h.only.grown hg ?_, kept := hk, row := ?_, idx := h.idx, from_ := h.from_, own := hA.owns hB, apt := ha, vfrom := ?_ }
  · intro k hk
    rcases h.vfrom with h1 | ⟨g, h1, h2⟩
    · exact .inr ⟨_, hvm, by rw [← h1, hk]⟩
    · rw [h1] at hk
      simp only [Option.some.injEq] at hk
      exact .inl (by omega)
  · exact ownsRow_grown h.row hg (ownsRow_apart h.row h.own hst.symm)
  · rcases hA with ⟨g, cap, rfl, rfl, _⟩ | ⟨cap, rfl, _⟩
    · exact h.vfrom
    · exact .inr ⟨_, rfl, h.only.size⟩

/-- the list of the grown ones takes a row that is kept -/
theorem GSG.note {w wr w' : World} {B : Nat} {vs : List Value} {nn : Nat → Nat} {gv gv' u : Value} {G : List (Value × Nat × Nat)} {i n : Nat} (hst : e ≠ st) (h : GSG e K st per mk w wr B vs nn gv G i) (hu : wr.ownsRow B e K u n (mkRow (mk i) n)) (huf : FromG vs w.heap.size u i) (hi : G.length / per = i)
    (hr : w'.ownsRow w.heap.size st 1 gv' (G.length + 1) (G.map (·.1) ++ [u])) (hg : wr.grownBy w' gv.ownBlock) : GSG e K st per mk w w' B vs nn gv' (G ++ [(u, i, n)]) i := by
  have hty : ∀ {u : Value} {m : Nat} {l : List Value}, wr.ownsRow B e K u m l → u.ownBlock = none ∨ u.ownBlock ≠ gv.ownBlock := fun hu => ownsRow_apart hu h.row hst
  have hk : ∀ x ∈ rowsG vs nn ++ (G ++ [(u, i, n)]), x ∈ rowsG vs nn ++ G ∨ x = (u, i, n) := fun x hx => by
    rw [← List.append_assoc] at hx
    rcases List.mem_append.1 hx with hx | hx
    · exact .inl hx
    · exact .inr (by simpa using hx)
  refine { only := h.only.grown hg ?_, kept := fun x hx => ?_, row := ?_, idx := fun t ht => ?_, from_ := fun x hx => ?_ }
  · intro k hk
    exact .inl (h.row.lt k hk).1
  · rcases hk x hx with hx | rfl
    · exact ownsRow_grown (h.kept x hx) hg (hty (h.kept x hx))
    · exact ownsRow_grown hu hg (hty hu)
  · rw [List.length_append, List.length_singleton, List.map_append]; exact hr
  · rw [List.length_append, List.length_singleton] at ht
    by_cases e : t < G.length
    · rw [List.getD_eq_getElem?_getD, List.getElem?_append_left e, ← List.getD_eq_getElem?_getD]; exact h.idx t e
    · have : t = G.length := by omega
      subst this
      simp [hi]
  · rcases List.mem_append.1 hx with hx | hx
    · exact h.from_ x hx
    · obtain rfl : x = (u, i, n) := by simpa using hx
      exact ⟨Nat.le_refl _, huf⟩
/-- .. it takes the one that is being grown -/
theorem GKG.note {w wr w' : World} {B : Nat} {vs : List Value} {nn : Nat → Nat} {gv gv' v : Value} {G : List (Value × Nat × Nat)} {i n : Nat} (hst : e ≠ st) (h : GKG e K st per mk w wr B vs nn gv G i n v) (hi : G.length / per = i)
    (hr : w'.ownsRow w.heap.size st 1 gv' (G.length + 1) (G.map (·.1) ++ [v])) (hg : wr.grownBy w' gv.ownBlock) : GKG e K st per mk w w' B vs nn gv' (G ++ [(v, i, n)]) i n v := by
  refine { h.toGSG.note hst h.own h.vfrom hi hr hg with own := ownsRow_grown h.own hg (ownsRow_apart h.own h.row hst), apt := fun x hx => ?_, vfrom := h.vfrom }
  rw [← List.append_assoc] at hx
  rcases List.mem_append.1 hx with hx | hx
  · exact h.apt x hx
  · obtain rfl : x = (v, i, n) := by simpa using hx
    exact .inr (.inr ⟨rfl, Nat.le_refl _⟩)
theorem GSG.next {w wr : World} {B : Nat} {vs : List Value} {nn : Nat → Nat} {gv : Value} {G : List (Value × Nat × Nat)} {i : Nat} (h : GSG e K st per mk w wr B vs nn gv G i) : GSG e K st per mk w wr B vs nn gv G (i + 1) :=
  { h with from_ := fun u hu => ⟨Nat.le_succ_of_le (h.from_ u hu).1, (h.from_ u hu).2⟩ }
/-- a list that was taken -/
theorem GSG.list {w wr : World} {B : Nat} {vs : List Value} {nn : Nat → Nat} {gv : Value} {G : List (Value × Nat × Nat)} {i : Nat} (h : GSG e K st per mk w wr B vs nn gv G i) {j : Nat} (hj : j < vs.length) : wr.ownsRow B e K (vs.getD j default) (nn j) (mkRow (mk j) (nn j)) :=
  h.kept _ (List.mem_append_left _ (rowsG_mem hj))
/-- a list that was grown -/
theorem GSG.item {w wr : World} {B : Nat} {vs : List Value} {nn : Nat → Nat} {gv : Value} {G : List (Value × Nat × Nat)} {i : Nat} (h : GSG e K st per mk w wr B vs nn gv G i) {t : Nat} (ht : t < G.length) :
    ∃ g c u n, gv = .slice (some ⟨g, 0, none⟩) G.length c ∧ wr.cell? ⟨g, t, none⟩ = some u ∧ wr.ownsRow B e K u n (mkRow (mk (t / per)) n) := by
  obtain ⟨g, c, rfl, _, _⟩ := h.row.form (by omega)
  have hm : G.getD t default ∈ G := by
    rw [List.getD_eq_getElem?_getD, List.getElem?_eq_getElem ht]; exact List.getElem_mem ht
  have h2 := h.kept _ (List.mem_append_right _ hm)
  rw [h.idx t ht] at h2
  refine ⟨g, c, _, _, rfl, ?_, h2⟩
  rw [h.row.cellAt t (by omega), List.getElem?_map, List.getD_eq_getElem?_getD, List.getElem?_eq_getElem ht]
  rfl
end
end Go.Proofs.Ytcbjfakkikjbkaa
