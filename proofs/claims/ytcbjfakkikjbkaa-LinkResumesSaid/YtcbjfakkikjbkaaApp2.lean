/-
  An append of one element onto a row that one owns: in place, or in a new block. It speaks of no program. Conditions: the row is no longer than Go bears.
-/
import Derived.Test.YtcbjfakkikjbkaaLib
import Derived.Laws.AppendOwn
namespace Go.Proofs.Ytcbjfakkikjbkaa
open Go.RowKit
set_option linter.all false

/-- what an append of one element does -/
def App1 (w w' : World) (base e size n : Nat) (v v' : Value) (xs : List Value) : Prop :=
  (∃ g cap, v = .slice (some ⟨g, 0, none⟩) n cap ∧ v' = .slice (some ⟨g, 0, none⟩) (n + 1) cap ∧ n + 1 ≤ cap ∧ cap ≤ maxLen ∧ w'.ownsRow base e size v' (n + 1) xs ∧ w.grownBy w' (some g)) ∨
  (∃ cap, v' = .slice (some ⟨w.heap.size, 0, none⟩) (n + 1) cap ∧ n + 1 ≤ cap ∧ cap ≤ maxLen ∧ w'.ownsRow w.heap.size e size v' (n + 1) xs ∧ w.grownBy w' none)

section
variable {P : Program}

theorem new_row (w : World) (e : TypeId) (z : Value) (size : Nat) (hzs : z.cells.size = size) (ys : List Value) (k cap : Nat) (hl : ys.length = k * size) (hk : k ≤ cap) (hc : cap ≤ maxLen) :
    (w.drew.alloc (.cells (ys.toArray ++ Builtin.zeroCells z.cells (cap - k)) e)).ownsRow w.heap.size e size (.slice (some ⟨w.heap.size, 0, none⟩) k cap) k ys ∧ w.grownBy (w.drew.alloc (.cells (ys.toArray ++ Builtin.zeroCells z.cells (cap - k)) e)) none := by
  refine ⟨⟨hl, .inr ⟨w.heap.size, cap, _, rfl, Nat.le_refl _, _root_.Go.heap_alloc_new w.drew _, hk, hc, ?_, ?_⟩⟩, ⟨rfl, rfl, rfl, by simp, fun j hj _ => Below.heap_alloc w.drew _ j hj⟩⟩
  · rw [Array.size_append, List.size_toArray, size_zeroCells, hzs, hl, ← Nat.add_mul]
    congr 1
    omega
  · rw [Array.toList_append, ← hl]
    exact List.take_left

theorem run_append_two (w : World) (base : Nat) (t ty e : TypeId) (i : TypeInfo) (z : Value) (size bytes : Nat) (ht : P.underlying t = some (.slice e)) (hi : P.info? e = some i) (hz : i.zero = some z)
    (hsize : i.size = size) (hby : i.bytes = bytes) (hzs : z.cells.size = size)
    (v : Value) (n : Nat) (xs : List Value) (hown : w.ownsRow base e size v n xs) (a : Addr) (c : Nat) (news : List Value) (hl : news.length = size) (hnews : ∀ j u, news[j]? = some u → w.cell? (a.add j) = some u) (h1 : ∀ u ∈ news, u.oneCell' = true)
    (h63 : n + 1 ≤ maxLen) (hbytes : (n + 1) * bytes ≤ 140737488355328) :
    ∃ v' w', (Builtin.append_ #[t, t] ty #[v, .slice (some a) 1 c]).run P w = .ok v' w' ∧ App1 w w' base e size n v v' (xs ++ news) := by
  have h64 : n + 1 ≤ 9223372036854775807 := by unfold maxLen at h63; omega
  have hl1 : news.length = 1 * i.size := by rw [hl, hsize, Nat.one_mul]
  have hys : (xs ++ news).length = (n + 1) * size := by rw [List.length_append, hown.1, hl, Nat.succ_mul]
  rcases hown.2 with ⟨rfl, rfl⟩ | ⟨g, cap, cur, rfl, hB, hb, hn, hc, hz2, htk⟩
  · have hx : xs = [] := List.eq_nil_of_length_eq_zero (by have := hown.1; simpa using this)
    subst hx
    have hr := run_append_nil (P := P) w t ty e i z ht hi hz a 1 c news hl1 hnews (by omega) (by omega) (by rw [hby]; omega)
    refine ⟨_, _, hr, .inr ⟨_, rfl, grownCap_ge w 1 0 e, grownCap_le_maxLen w 1 0 e h63, ?_⟩⟩
    have hnr := new_row w e z size hzs news 1 (grownCap w 1 0 e) (by rw [hl, Nat.one_mul]) (grownCap_ge w 1 0 e) (grownCap_le_maxLen w 1 0 e h63)
    exact hnr
  · by_cases hroom : n + 1 ≤ cap
    · have hfit : n * i.size + news.length ≤ cur.size := by
        rw [hl, hsize, hz2, ← Nat.succ_mul]
        exact Nat.mul_le_mul_right _ hroom
      have hr := run_append_room (P := P) w t ty e i ht hi g n cap cur hb a 1 c news hl1 hnews h1 hroom hfit
      refine ⟨_, _, hr, .inl ⟨g, cap, rfl, rfl, hroom, hc, ⟨hys, .inr ⟨g, cap, _, rfl, hB, setRow_heap w g cur _ e _ hb, hroom, hc, ?_, ?_⟩⟩, ⟨rfl, rfl, rfl, by simp, fun k _ hk => setRow_other w g k _ (fun e => hk (by rw [e]))⟩⟩⟩
      · simp only [List.size_toArray, List.length_append, List.length_take, List.length_drop, Array.length_toList, hsize]
        rw [hsize] at hfit
        omega
      · rw [hsize, htk]
        have : (n + 1) * size = (xs ++ news).length := hys.symm
        rw [this]
        exact List.take_left
    · have holds : ∀ j u, xs[j]? = some u → w.cell? ((⟨g, 0, none⟩ : Addr).add j) = some u := hown.cells (g := g) rfl
      have hr := run_append_grow (P := P) w t ty e i z ht hi hz ⟨g, 0, none⟩ n cap xs (by rw [hsize]; exact hown.1) holds a 1 c news hl1 hnews (by omega) (by omega) (growslice_fits (by omega) (by rw [hby]; exact hbytes))
      refine ⟨_, _, hr, .inr ⟨_, rfl, grownCap_ge w (n + 1) cap e, grownCap_le_maxLen w (n + 1) cap e h63, ?_⟩⟩
      have hnr := new_row w e z size hzs (xs ++ news) (n + 1) (grownCap w (n + 1) cap e) hys (grownCap_ge w (n + 1) cap e) (grownCap_le_maxLen w (n + 1) cap e h63)
      rw [← List.append_toArray xs news] at hnr
      exact hnr

theorem wpList_append_two (w : World) {ops : Array Oper} {rest : List Oper} {o : Oper} {a : Act} {Q : Exit → Act → World → Prop} (hgd : o.guard = none) (s x : Operand) (t : TypeId)
    (ho : o.op = .call { callee := .builtin .append, args := #[s, x], argTypes := #[t, t] }) (base : Nat) (e : TypeId) (i : TypeInfo) (z : Value) (size bytes : Nat) (ht : P.underlying t = some (.slice e)) (hi : P.info? e = some i) (hz : i.zero = some z)
    (hsize : i.size = size) (hby : i.bytes = bytes) (hzs : z.cells.size = size) (v : Value) (n : Nat) (xs : List Value) (hs : a.eval s = v) (hown : w.ownsRow base e size v n xs)
    (ad : Addr) (c : Nat) (news : List Value) (hx : a.eval x = .slice (some ad) 1 c) (hl : news.length = size) (hnews : ∀ j u, news[j]? = some u → w.cell? (ad.add j) = some u) (h1 : ∀ u ∈ news, u.oneCell' = true)
    (h63 : n + 1 ≤ maxLen) (hbytes : (n + 1) * bytes ≤ 140737488355328)
    (h : ∀ v' w', App1 w w' base e size n v v' (xs ++ news) → wpList P ops Q rest (a.put o.dst v') w') : wpList P ops Q (o :: rest) a w := by
  refine wpList_plain hgd fun K hK => ?_
  obtain ⟨v', w', hr, h2⟩ := run_append_two w base t o.type e i z size bytes ht hi hz hsize hby hzs v n xs hown ad c news hl hnews h1 h63 hbytes
  unfold Oper.wp execOp
  simp only [ho, resolve, invoke, builtin, Sem.run_bind, Sem.run_pure, Result.andThen_ok, List.map_toArray, List.map_cons, List.map_nil, hs, hx, hr]
  exact hK _ _ (h v' w' h2)
end

theorem App1.slice {w w' : World} {base e size n : Nat} {v v' : Value} {xs : List Value} (h : App1 w w' base e size n v v' xs) : ∃ p c, v' = .slice p (n + 1) c := by
  rcases h with ⟨g, cap, _, h, _⟩ | ⟨cap, h, _⟩
  · exact ⟨_, _, h⟩
  · exact ⟨_, _, h⟩
theorem App1.owns {w w' : World} {base e size n : Nat} {v v' : Value} {xs : List Value} (h : App1 w w' base e size n v v' xs) (hb : base ≤ w.heap.size) : w'.ownsRow base e size v' (n + 1) xs := by
  rcases h with ⟨g, cap, _, _, _, _, h, _⟩ | ⟨cap, _, _, _, h, _⟩
  · exact h
  · refine ⟨h.1, ?_⟩
    rcases h.2 with hn | ⟨g, cap, cur, hv, hbg, rest⟩
    · exact .inl hn
    · exact .inr ⟨g, cap, cur, hv, Nat.le_trans hb hbg, rest⟩
theorem App1.grown {w w' : World} {base e size n : Nat} {v v' : Value} {xs : List Value} (h : App1 w w' base e size n v v' xs) : w.grownBy w' v.ownBlock := by
  rcases h with ⟨g, cap, rfl, _, _, _, _, h⟩ | ⟨cap, _, _, _, _, h⟩
  · exact h
  · exact ⟨h.os, h.tape, h.output, h.size, fun j hj _ => h.block j hj (by simp)⟩
theorem App1.own {w w' : World} {base e size n : Nat} {v v' : Value} {xs : List Value} (h : App1 w w' base e size n v v' xs) {j : Nat} (hj : v'.ownBlock = some j) : v.ownBlock = some j ∨ j = w.heap.size := by
  rcases h with ⟨g, cap, rfl, rfl, _⟩ | ⟨cap, rfl, _⟩
  · exact .inl hj
  · simp only [Value.ownBlock, Option.some.injEq] at hj
    exact .inr hj.symm
end Go.Proofs.Ytcbjfakkikjbkaa
