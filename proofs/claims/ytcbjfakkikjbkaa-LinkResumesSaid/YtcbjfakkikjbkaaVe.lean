/-
  The program's Order. Conditions: the values lie in memory.
-/
import Derived.Test.YtcbjfakkikjbkaaVd
namespace Go.Proofs.Ytcbjfakkikjbkaa
open Go.RowKit
set_option linter.all false

theorem ordV_self (a : V) : ordV a a = 0 := ordV_zero.2 rfl
theorem ordL_same : ∀ (p r s : List V), ordL (p ++ r) (p ++ s) = ordL r s
  | [], _, _ => rfl
  | a :: p, r, s => by rw [List.cons_append, List.cons_append, ordL, ordV_self, ordL_same p]; simp [thenZ]
theorem ordL_take {a b : List V} {k : Nat} (h : a.take k = b.take k) : ordL a b = ordL (a.drop k) (b.drop k) := by
  have e1 := List.take_append_drop k a
  have e2 := List.take_append_drop k b
  rw [← h] at e2
  rw [← e1, ← e2, ordL_same, e1, e2]
theorem ordL_at {a b : List V} {k : Nat} (h : a.take k = b.take k) (ha : k < a.length) (hb : k < b.length) : ordL a b = thenZ (ordV a[k] b[k]) (ordL (a.drop (k + 1)) (b.drop (k + 1))) := by
  rw [ordL_take h, List.drop_eq_getElem_cons ha, List.drop_eq_getElem_cons hb, ordL]
theorem take_next {a b : List V} {k : Nat} (h : a.take k = b.take k) (ha : k < a.length) (hb : k < b.length) (e : a[k] = b[k]) : a.take (k + 1) = b.take (k + 1) := by
  rw [List.take_add_one, List.take_add_one, h, List.getElem?_eq_getElem ha, List.getElem?_eq_getElem hb, e]
theorem ordL_longer {a b : List V} {k : Nat} (h : a.take k = b.take k) (ha : k < a.length) (hb : b.length ≤ k) : ordL a b = 1 := by
  rw [ordL_take h, List.drop_eq_getElem_cons ha, List.drop_eq_nil_of_le hb, ordL]
theorem ordL_end {a b : List V} {k : Nat} (h : a.take k = b.take k) (ha : a.length ≤ k) (hk : k ≤ a.length) : ordL a b = if a.length < b.length then -1 else (if b.length < a.length then 1 else 0) := by
  have hka : k = a.length := by omega
  subst hka
  rw [List.take_length] at h
  have hl : a.length ≤ b.length := by have := congrArg List.length h; rw [List.length_take] at this; omega
  rw [ordL_take (k := a.length) (by rw [List.take_length]; exact h), List.drop_length]
  by_cases hlt : a.length < b.length
  · rw [if_pos hlt, List.drop_eq_getElem_cons hlt, ordL]
  · rw [if_neg hlt, if_neg (by omega), List.drop_eq_nil_of_le (by omega), ordL]

theorem or_cells {w : World} {T : Nat} (l : List Int) : ∀ k (hk : k < l.length), ((w.alloc (.cells (l.map fun z => Value.int .i64 z).toArray T)).drew).cell? ⟨w.heap.size, k, none⟩ = some (.int .i64 l[k]) := fun k hk => by
  show (w.alloc _).cell? _ = _
  rw [cell_of_row _ _ _ _ _ _ (_root_.Go.heap_alloc_new _ _)]
  simp [List.getElem?_eq_getElem hk]
theorem or_cells' {w : World} {T : Nat} (l : List Int) : ∀ k (hk : k < l.length), (w.alloc (.cells (l.map fun z => Value.int .i64 z).toArray T)).cell? ⟨w.heap.size, k, none⟩ = some (.int .i64 l[k]) := fun k hk => by
  rw [cell_of_row _ _ _ _ _ _ (_root_.Go.heap_alloc_new _ _)]
  simp [List.getElem?_eq_getElem hk]
theorem orL_pos {z1 z2 z3 r : Int} (h : orL [z1, z2, z3] ≠ 0) : thenZ z1 (thenZ z2 (thenZ z3 r)) = orL [z1, z2, z3] := by
  simp only [orL, thenZ] at *
  by_cases h1 : z1 = 0 <;> by_cases h2 : z2 = 0 <;> by_cases h3 : z3 = 0 <;> simp_all
theorem orL_zero {z1 z2 z3 r : Int} (h : orL [z1, z2, z3] = 0) : thenZ z1 (thenZ z2 (thenZ z3 r)) = r := by
  simp only [orL, thenZ] at *
  by_cases h1 : z1 = 0 <;> by_cases h2 : z2 = 0 <;> by_cases h3 : z3 = 0 <;> simp_all

end Go.Proofs.Ytcbjfakkikjbkaa
