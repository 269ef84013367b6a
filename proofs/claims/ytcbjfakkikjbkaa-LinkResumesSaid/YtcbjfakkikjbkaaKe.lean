/-
  A map with string keys in memory, as a list of keys and elements; a range over it. Plain lemmas. No conditions.
-/
import Derived.Test.YtcbjfakkikjbkaaSr
import Derived.Test.YtcbjfakkikjbkaaVm
import Derived.Maps.OwnSet
import Derived.Maps.OwnOps
import Derived.Maps.RangeWalk
namespace Go.Proofs.Ytcbjfakkikjbkaa
open Go.RowKit Go.Maps
set_option linter.all false

instance : LawfulBEq ByteArray where
  eq_of_beq {a b} h := by cases a; cases b; exact congrArg ByteArray.mk (eq_of_beq (α := Array UInt8) h)
  rfl {a} := by show (a.data == a.data) = true; exact beq_self_eq_true _
/-- a key, as a map reads it -/
def skey (i : ByteArray) : Lit := .string i.data.toList
theorem skey_inj {i j : ByteArray} (h : skey i = skey j) : i = j := by
  unfold skey at h
  injection h with h
  cases i; cases j
  rw [ByteArray.mk.injEq]
  exact Array.toList_inj.1 h
/-- an element is held as it is -/
def holdV (v : Value) : Option (DataW Value × List MemPlace) := some (.held v, [])
def keysL (l : List (ByteArray × Value)) : List ByteArray := l.map Prod.fst

/-- what a map holds -/
structure MapIs (D : DataW Value) (l : List (ByteArray × Value)) : Prop where
  tidy : Maps.Tidy D
  nd : (keysL l).Nodup
  has : ∀ i : ByteArray, Maps.has D (skey i) = decide (i ∈ keysL l)
  at_ : ∀ p ∈ l, ∀ z, D.atKey (skey p.1) z = .held p.2
  size : Maps.size D = l.length
  ok : ∀ i ∈ keysL l, i.size ≤ maxLen

theorem MapIs.nil : MapIs (.map []) [] := ⟨Maps.tidy_empty, List.nodup_nil, fun i => by simp [Maps.has, keysL], fun p hp => by simp at hp, rfl, fun i hi => by simp [keysL] at hi⟩

theorem lit_ne {i j : ByteArray} (h : i ≠ j) : (skey i) ≠ skey j := fun e => h (skey_inj e)
theorem isKey (i : ByteArray) : WideAt.IsKeyLit (skey i) := trivial
theorem mem_keys {l : List (ByteArray × Value)} {p : ByteArray × Value} (h : p ∈ l) : p.1 ∈ keysL l := List.mem_map.2 ⟨p, h, rfl⟩

theorem MapIs.put {D : DataW Value} {l : List (ByteArray × Value)} (h : MapIs D l) {i : ByteArray} (hi : i.size ≤ maxLen) (hn : i ∉ keysL l) (v : Value) : MapIs (D.put (skey i) (.held v)) (l ++ [(i, v)]) := by
  have hh : Maps.has D (skey i) = false := by rw [h.has]; simpa using hn
  refine ⟨h.tidy.put (isKey i) _, ?_, fun j => ?_, fun p hp z => ?_, ?_, fun j hj => ?_⟩
  · unfold keysL at *
    rw [List.map_append, List.nodup_append]
    refine ⟨h.nd, by simp, fun a ha b hb e => ?_⟩
    simp only [List.map_cons, List.map_nil, List.mem_cons, List.not_mem_nil, or_false] at hb
    subst hb e
    exact hn ha
  · by_cases e : j = i
    · subst e
      rw [Maps.has_put_same h.tidy.isMap (isKey _)]
      simp [keysL]
    · rw [Maps.has_put_other (lit_ne e), h.has]
      exact decide_eq_decide.2 (by simp [keysL, e])
  · rcases List.mem_append.1 hp with hp | hp
    · rw [Maps.atKey_put_other (lit_ne (fun e => hn (by rw [← e]; exact mem_keys hp)))]
      exact h.at_ p hp z
    · obtain rfl : p = (i, v) := by simpa using hp
      exact Maps.atKey_put_same h.tidy.isMap (isKey _) _ _
  · rw [Maps.size_put h.tidy, hh, h.size]
    simp
  · simp only [keysL, List.map_append, List.map_cons, List.map_nil, List.mem_append, List.mem_cons, List.not_mem_nil, or_false] at hj
    rcases hj with hj | rfl
    · exact h.ok j hj
    · exact hi

theorem MapIs.set {D : DataW Value} {l : List (ByteArray × Value)} (h : MapIs D l) {i : ByteArray} (hn : i ∈ keysL l) (v : Value) : MapIs (D.put (skey i) (.held v)) (l.map fun p => if p.1 = i then (i, v) else p) := by
  have hh : Maps.has D (skey i) = true := by rw [h.has]; simpa using hn
  have hk : keysL (l.map fun p => if p.1 = i then (i, v) else p) = keysL l := by
    unfold keysL
    rw [List.map_map]
    refine List.map_congr_left (fun p hp => ?_)
    simp only [Function.comp]
    split
    · simp_all
    · rfl
  refine ⟨h.tidy.put (isKey i) _, by rw [hk]; exact h.nd, fun j => ?_, fun p hp z => ?_, ?_, by rw [hk]; exact h.ok⟩
  · rw [hk]
    by_cases e : j = i
    · subst e
      rw [Maps.has_put_same h.tidy.isMap (isKey _)]
      simpa using hn
    · rw [Maps.has_put_other (lit_ne e), h.has]
  · obtain ⟨q, hq, rfl⟩ := List.mem_map.1 hp
    by_cases e : q.1 = i
    · rw [if_pos e]
      exact Maps.atKey_put_same h.tidy.isMap (isKey _) _ _
    · rw [if_neg e, Maps.atKey_put_other (lit_ne e)]
      exact h.at_ q hq z
  · rw [Maps.size_put h.tidy, hh, h.size]
    simp

theorem MapIs.del {D : DataW Value} {l : List (ByteArray × Value)} (h : MapIs D l) (i : ByteArray) : MapIs (D.del (skey i)) (l.filter fun p => decide (p.1 ≠ i)) := by
  have hk : keysL (l.filter fun p => decide (p.1 ≠ i)) = (keysL l).filter fun j => decide (j ≠ i) := by
    unfold keysL
    rw [List.filter_map]
    rfl
  have hmem : ∀ j, j ∈ (keysL l).filter (fun j => decide (j ≠ i)) ↔ j ∈ keysL l ∧ j ≠ i := fun j => by simp [List.mem_filter]
  have hlen : ∀ (l : List (ByteArray × Value)), (keysL l).Nodup → (l.filter fun p => decide (p.1 ≠ i)).length + (if i ∈ keysL l then 1 else 0) = l.length := by
    intro l
    induction l with
    | nil => intro _; simp [keysL]
    | cons p r ih =>
      intro hnd
      simp only [keysL, List.map_cons, List.nodup_cons] at hnd
      have := ih hnd.2
      by_cases e : p.1 = i
      · subst e
        have hr : p.1 ∉ keysL r := hnd.1
        have hf : (decide (p.1 ≠ p.1)) = false := by simp
        rw [List.filter_cons_of_neg (by simp)]
        rw [if_neg hr] at this
        rw [if_pos (by simp [keysL]), List.length_cons]
        omega
      · rw [List.filter_cons_of_pos (by simp [e]), List.length_cons, List.length_cons]
        have hiff : (i ∈ keysL (p :: r)) ↔ i ∈ keysL r := by
          simp only [keysL, List.map_cons, List.mem_cons]
          exact ⟨fun h => h.resolve_left (fun q => e q.symm), .inr⟩
        simp only [hiff]
        omega
  refine ⟨h.tidy.del _, by rw [hk]; exact h.nd.filter _, fun j => ?_, fun p hp z => ?_, ?_, fun j hj => ?_⟩
  · rw [hk]
    by_cases e : j = i
    · subst e
      rw [Maps.has_del_same]
      simp
    · rw [Maps.has_del_other (lit_ne e), h.has]
      simp [e]
  · obtain ⟨hp1, hp2⟩ := List.mem_filter.1 hp
    have hp2' : p.1 ≠ i := by simpa using hp2
    rw [Maps.atKey_del_other (lit_ne hp2')]
    exact h.at_ p hp1 z
  · have h1 := Maps.size_del (k := skey i) h.tidy
    have h2 := hlen l h.nd
    rw [h.has, h.size] at h1
    by_cases e : i ∈ keysL l
    · simp only [e, decide_true, if_true] at h1 h2
      omega
    · simp only [e, decide_false, Bool.false_eq_true, if_false] at h1 h2
      omega
  · rw [hk] at hj
    exact h.ok j ((hmem j).1 hj).1

/-- a map in block m -/
def MapOf (w : World) (m : Nat) (l : List (ByteArray × Value)) : Prop := ∃ D, w.ownsMap Try.prog 9 holdV m l.length D ∧ MapIs D l

theorem keyOf_str {i : ByteArray} (hi : i.size ≤ maxLen) : keyOf Try.prog 9 (.string i) = some (skey i) := WideMaps.keyOf_string_mk Try.underlying9 hi

theorem MapOf.lt {w : World} {m : Nat} {l : List (ByteArray × Value)} (h : MapOf w m l) : m < w.heap.size := by obtain ⟨D, h1, _⟩ := h; exact h1.lt
theorem MapOf.same {w w' : World} {m : Nat} {l : List (ByteArray × Value)} (h : MapOf w m l) (e : w'.heap[m]? = w.heap[m]?) : MapOf w' m l := by
  obtain ⟨D, ⟨es, clock, hb, r⟩, h2⟩ := h
  exact ⟨D, ⟨es, clock, e.trans hb, r⟩, h2⟩
theorem MapOf.obj {w : World} {m : Nat} {l : List (ByteArray × Value)} (h : MapOf w m l) : ∃ es clock, w.heap[m]? = some (.map es clock) := by
  obtain ⟨D, ⟨es, clock, hb, r⟩, h2⟩ := h
  exact ⟨es, clock, hb⟩
theorem MapOf.made (w : World) : MapOf (w.alloc (.map #[] 0)) w.heap.size [] := ⟨_, World.ownsMap_made _ _ _ _, MapIs.nil⟩

theorem ownsMap_fit {P : Program} {k : TypeId} {R : Value → Option (DataW Value × List MemPlace)} {w : World} {b n : Nat} {D : DataW Value} (h : w.ownsMap P k R b n D) : w.ownsMap P k R b (Maps.size D) D := by
  obtain ⟨es, clock, hb, F, hs, rfl⟩ := h
  exact ⟨es, clock, hb, F, by simp [Maps.size, length_sorted], rfl⟩

/-- 'v, ok := m[k]' -/
theorem MapOf.look {w : World} {m : Nat} {l : List (ByteArray × Value)} (h : MapOf w m l) {t e : TypeId} (ht : Try.prog.underlying t = some (.map 9 e)) {z : Value} (hz : (zeroValue e).run Try.prog w = .ok z w) {i : ByteArray} (hi : i.size ≤ maxLen) :
    ∃ v, (Instr.lookup t (.map (some m)) (.string i) true).run Try.prog w = .ok (.tuple #[v, .bool (decide (i ∈ keysL l))]) w ∧ ((i, v) ∈ l ∨ (i ∉ keysL l ∧ v = z)) := by
  obtain ⟨D, h1, h2⟩ := h
  obtain ⟨v, ps, hr, hv⟩ := h1.look_ok (string_keyed Try.underlying9) ht hz (show holdV z = some (.held z, []) from rfl) (keyOf_str hi)
  rw [h2.has] at hr
  refine ⟨v, hr, ?_⟩
  simp only [holdV, Option.some.injEq, Prod.mk.injEq] at hv
  by_cases hm : i ∈ keysL l
  · obtain ⟨p, hp, rfl⟩ := List.mem_map.1 hm
    rw [h2.at_ p hp] at hv
    have := hv.1
    injection this with this
    subst this
    exact .inl hp
  · rw [Maps.atKey_of_not_has (by rw [h2.has]; simpa using hm)] at hv
    have := hv.1
    injection this with this
    exact .inr ⟨hm, this⟩

/-- 'm[k]' -/
theorem MapOf.get {w : World} {m : Nat} {l : List (ByteArray × Value)} (h : MapOf w m l) {t e : TypeId} (ht : Try.prog.underlying t = some (.map 9 e)) {z : Value} (hz : (zeroValue e).run Try.prog w = .ok z w) {i : ByteArray} (hi : i.size ≤ maxLen) :
    ∃ v, (Instr.lookup t (.map (some m)) (.string i) false).run Try.prog w = .ok v w ∧ ((i, v) ∈ l ∨ (i ∉ keysL l ∧ v = z)) := by
  obtain ⟨D, h1, h2⟩ := h
  obtain ⟨v, ps, hr, hv⟩ := h1.lookup (string_keyed Try.underlying9) ht hz (show holdV z = some (.held z, []) from rfl) (keyOf_str hi)
  refine ⟨v, hr, ?_⟩
  simp only [holdV, Option.some.injEq, Prod.mk.injEq] at hv
  by_cases hm : i ∈ keysL l
  · obtain ⟨p, hp, rfl⟩ := List.mem_map.1 hm
    rw [h2.at_ p hp] at hv
    have := hv.1
    injection this with this
    subst this
    exact .inl hp
  · rw [Maps.atKey_of_not_has (by rw [h2.has]; simpa using hm)] at hv
    have := hv.1
    injection this with this
    exact .inr ⟨hm, this⟩

theorem MapOf.len {w : World} {m : Nat} {l : List (ByteArray × Value)} (h : MapOf w m l) {t e : TypeId} (ht : Try.prog.underlying t = some (.map 9 e)) (ty : TypeId) : (Builtin.len_ #[t] ty #[.map (some m)]).run Try.prog w = .ok (.int .i64 l.length) w := by
  obtain ⟨D, h1, h2⟩ := h
  rw [h1.len ht ty, h2.size]

/-- 'm[k] = v' at a new key -/
theorem MapOf.put {w : World} {m : Nat} {l : List (ByteArray × Value)} (h : MapOf w m l) {t e : TypeId} (ht : Try.prog.underlying t = some (.map 9 e)) {i : ByteArray} (hi : i.size ≤ maxLen) (hn : i ∉ keysL l) (hl : l.length < maxLen) (v : Value) :
    ∃ w', (Instr.mapUpdate t (.map (some m)) (.string i) v).run Try.prog w = .ok () w' ∧ MapOf w' m (l ++ [(i, v)]) ∧ w.grownBy w' (some m) := by
  obtain ⟨D, h1, h2⟩ := h
  obtain ⟨w', hr, h3, h4⟩ := h1.update (string_keyed Try.underlying9) ht hl (keyOf_str hi) (show holdV v = some (.held v, []) from rfl)
  refine ⟨w', hr, ⟨_, ?_, h2.put hi hn v⟩, h4⟩
  have h5 := ownsMap_fit h3
  rw [(h2.put hi hn v).size] at h5
  exact h5

/-- 'm[k] = v' at a key that is there -/
theorem MapOf.set {w : World} {m : Nat} {l : List (ByteArray × Value)} (h : MapOf w m l) {t e : TypeId} (ht : Try.prog.underlying t = some (.map 9 e)) {i : ByteArray} (hn : i ∈ keysL l) (hl : l.length < maxLen) (v : Value) :
    ∃ w', (Instr.mapUpdate t (.map (some m)) (.string i) v).run Try.prog w = .ok () w' ∧ MapOf w' m (l.map fun p => if p.1 = i then (i, v) else p) ∧ w.grownBy w' (some m) := by
  obtain ⟨D, h1, h2⟩ := h
  obtain ⟨w', hr, h3, h4⟩ := h1.update (string_keyed Try.underlying9) ht hl (keyOf_str (h2.ok i hn)) (show holdV v = some (.held v, []) from rfl)
  refine ⟨w', hr, ⟨_, ?_, h2.set hn v⟩, h4⟩
  have h5 := ownsMap_fit h3
  rw [(h2.set hn v).size] at h5
  exact h5

/-- 'delete(m, k)' -/
theorem MapOf.del {w : World} {m : Nat} {l : List (ByteArray × Value)} (h : MapOf w m l) {t e : TypeId} (ht : Try.prog.underlying t = some (.map 9 e)) {i : ByteArray} (hi : i.size ≤ maxLen) (ty : TypeId) :
    ∃ w', (Builtin.delete_ #[t, 9] ty #[.map (some m), .string i]).run Try.prog w = .ok (.tuple #[]) w' ∧ MapOf w' m (l.filter fun p => decide (p.1 ≠ i)) ∧ w.grownBy w' (some m) := by
  obtain ⟨D, h1, h2⟩ := h
  obtain ⟨w', hr, h3, h4⟩ := h1.drop (string_keyed Try.underlying9) ht (keyOf_str hi) ty
  refine ⟨w', hr, ⟨_, ?_, h2.del i⟩, h4.grown⟩
  have h5 := ownsMap_fit h3
  rw [(h2.del i).size] at h5
  exact h5

/-- a range over a map is under way: these keys are still to come -/
def RangeOf (w : World) (m r : Nat) (l : List (ByteArray × Value)) (todo : List ByteArray) : Prop :=
  ∃ D left cnt, w.ranges Try.prog 9 holdV m r l.length D left cnt ∧ MapIs D l ∧ (∀ k, left (skey k) = decide (k ∈ todo)) ∧ todo.Nodup ∧ (∀ k ∈ todo, k ∈ keysL l)
theorem RangeOf.map {w : World} {m r : Nat} {l : List (ByteArray × Value)} {todo : List ByteArray} (h : RangeOf w m r l todo) : MapOf w m l := by
  obtain ⟨D, left, cnt, h1, h2, _⟩ := h
  exact ⟨D, h1.owns, h2⟩
theorem RangeOf.lt {w : World} {m r : Nat} {l : List (ByteArray × Value)} {todo : List ByteArray} (h : RangeOf w m r l todo) : r < w.heap.size := by
  obtain ⟨D, left, cnt, h1, h2, _⟩ := h
  exact h1.lt
theorem RangeOf.ne {w : World} {m r : Nat} {l : List (ByteArray × Value)} {todo : List ByteArray} (h : RangeOf w m r l todo) : r ≠ m := by
  obtain ⟨D, left, cnt, h1, h2, _⟩ := h
  exact h1.ne
theorem RangeOf.same {w w' : World} {m r : Nat} {l : List (ByteArray × Value)} {todo : List ByteArray} (h : RangeOf w m r l todo) (e : w'.heap[m]? = w.heap[m]?) (e' : w'.heap[r]? = w.heap[r]?) : RangeOf w' m r l todo := by
  obtain ⟨D, left, cnt, ⟨es, clock, since, seen, c0, hb, F, hs, hD, hr, rest⟩, h2⟩ := h
  exact ⟨D, left, cnt, ⟨es, clock, since, seen, c0, e.trans hb, F, hs, hD, e'.trans hr, rest⟩, h2⟩
/-- 'range m' -/
theorem MapOf.range {w : World} {m : Nat} {l : List (ByteArray × Value)} (h : MapOf w m l) {t e : TypeId} (ht : Try.prog.underlying t = some (.map 9 e)) :
    ∃ w', (Instr.range t (.map (some m))).run Try.prog w = .ok (.pointer (some ⟨w.heap.size, 0, none⟩)) w' ∧ RangeOf w' m w.heap.size l (keysL l) ∧ w.grownBy w' none ∧ w'.heap.size = w.heap.size + 1 := by
  obtain ⟨D, h1, h2⟩ := h
  obtain ⟨w', hr, h3, h4, h5⟩ := h1.range (string_keyed Try.underlying9) ht
  exact ⟨w', hr, ⟨D, _, _, h3, h2, h2.has, h2.nd, fun k hk => hk⟩, h4, h5⟩
theorem string_of_key {v : Value} {kl : Lit} (h : keyOf Try.prog 9 v = some kl) : ∃ k : ByteArray, v = .string k ∧ kl = skey k := by
  obtain ⟨s, h1, rfl, h2⟩ := WideMaps.string_of_keyOf Try.underlying9 h
  exact ⟨s, h1, rfl⟩
/-- the step -/
theorem RangeOf.next {w : World} {m r : Nat} {l : List (ByteArray × Value)} {todo : List ByteArray} (h : RangeOf w m r l todo) (ty : TypeId) :
    (todo = [] ∧ (Instr.next (.pointer (some ⟨r, 0, none⟩)) false ty).run Try.prog w = .ok (.tuple #[.bool false]) w) ∨
    ∃ k v w', k ∈ todo ∧ (k, v) ∈ l ∧ (Instr.next (.pointer (some ⟨r, 0, none⟩)) false ty).run Try.prog w = .ok (.tuple #[.bool true, .string k, v]) w' ∧ RangeOf w' m r l (todo.erase k) ∧
      w.grownBy w' (some r) ∧ w'.heap.size = w.heap.size ∧ (Instr.entry (.pointer (some ⟨r, 0, none⟩))).run Try.prog w' = .ok (.tuple #[.string k, v]) w' := by
  obtain ⟨D, left, cnt, h1, h2, h3, h4, h5⟩ := h
  rcases h1.next (string_keyed Try.underlying9) ty with ⟨_, hl, hrun⟩ | ⟨key, v, kl, y, w', cnt', hk, hlk, hv, hat, hrun, hrg, _, hg, hz, hen⟩
  · refine .inl ⟨?_, hrun⟩
    cases todo with
    | nil => rfl
    | cons k r => have := hl (skey k); rw [h3] at this; simp at this
  · obtain ⟨k, rfl, rfl⟩ := string_of_key hk
    have hkt : k ∈ todo := by rw [h3] at hlk; simpa using hlk
    obtain ⟨p, hp, rfl⟩ := List.mem_map.1 (h5 _ hkt)
    have e1 := h2.at_ p hp (.lit .nil)
    rw [hat] at e1
    simp only [holdV, Option.some.injEq] at hv
    rw [← hv] at e1
    injection e1 with e1
    refine .inr ⟨p.1, v, w', hkt, by rw [e1]; exact hp, hrun, ⟨D, _, cnt', hrg, h2, fun j => ?_, h4.erase _, fun j hj => h5 j (List.mem_of_mem_erase hj)⟩, hg, hz, hen⟩
    have hm := h4.mem_erase_iff (a := p.1) (b := j)
    simp only [hm, h3]
    by_cases e : j = p.1
    · subst e
      have : (skey p.1).sameKey (skey p.1) = true := WideAt.sameKey_self trivial
      have hn : p.1 ∉ todo.erase p.1 := fun q => (h4.mem_erase_iff.1 q).1 rfl
      simp [this, hn]
    · have : (skey j).sameKey (skey p.1) = false := Maps.sameKey_ne (fun q => e (skey_inj q))
      simp [this, e]
end Go.Proofs.Ytcbjfakkikjbkaa
