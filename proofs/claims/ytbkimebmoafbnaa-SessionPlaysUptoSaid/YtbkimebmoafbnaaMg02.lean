/-
  A map in memory as a list of keys and elements; a session's memory. Plain lemmas. No conditions.
  A perform's cells; the first Begin, a Begin of a step. No conditions.
  A session in memory. Plain lemmas; the contracts of word, begins, four, newTable. No conditions.
-/
import Derived.Test.YtbkimebmoafbnaaMg01
import Derived.Maps.OwnSet
import Derived.Maps.OwnOps
import Derived.Test.YtbkimebmoafbnaaRows
import Derived.Deep.DeepCutAuto
import Derived.StillTailTactics
import Derived.Deep.QuietTactic
import Derived.BigQuiet
import Derived.Laws.CopyOwn
import Derived.Laws.Tables
import Derived.Laws.Rows
import Derived.Great.BuildSlice
namespace Go.Proofs.Ytbkimebmoafbnaa
open Go.RowKit Go.Maps
set_option linter.unusedVariables false

/-- an element is held as it is -/
def holdV (v : Value) : Option (DataW Value × List MemPlace) := some (.held v, [])
def keysL (l : List (Int × Value)) : List Int := l.map Prod.fst

/-- what a map holds -/
structure MapIs (D : DataW Value) (l : List (Int × Value)) : Prop where
  tidy : Maps.Tidy D
  nd : (keysL l).Nodup
  has : ∀ i : Int, Maps.has D (.int .i64 i) = decide (i ∈ keysL l)
  at_ : ∀ p ∈ l, ∀ z, D.atKey (.int .i64 p.1) z = .held p.2
  size : Maps.size D = l.length
  ok : ∀ i ∈ keysL l, IsI64 i

theorem MapIs.nil : MapIs (.map []) [] := ⟨Maps.tidy_empty, List.nodup_nil, fun i => by simp [Maps.has, keysL], fun p hp => by simp at hp, rfl, fun i hi => by simp [keysL] at hi⟩

theorem lit_ne {i j : Int} (h : i ≠ j) : (Lit.int .i64 i) ≠ .int .i64 j := fun e => h (by injection e)
theorem isKey (i : Int) : WideAt.IsKeyLit (.int .i64 i) := trivial
theorem mem_keys {l : List (Int × Value)} {p : Int × Value} (h : p ∈ l) : p.1 ∈ keysL l := List.mem_map.2 ⟨p, h, rfl⟩

theorem MapIs.put {D : DataW Value} {l : List (Int × Value)} (h : MapIs D l) {i : Int} (hi : IsI64 i) (hn : i ∉ keysL l) (v : Value) : MapIs (D.put (.int .i64 i) (.held v)) (l ++ [(i, v)]) := by
  have hh : Maps.has D (.int .i64 i) = false := by rw [h.has]; simpa using hn
  refine ⟨h.tidy.put (isKey i) _, ?_, fun j => ?_, fun p hp z => ?_, ?_, fun j hj => ?_⟩
  · unfold keysL at *
    rw [List.map_append, List.nodup_append]
    refine ⟨h.nd, by simp, fun a ha b hb e => ?_⟩
    simp only [List.map_cons, List.map_nil, List.mem_cons, List.not_mem_nil, or_false] at hb
    subst hb e
    exact hn ha
  · by_cases e : j = i
    · subst e
      rw [Maps.has_put_same h.tidy.isMap (isKey _)]
      simp [keysL]
    · rw [Maps.has_put_other (lit_ne e), h.has]
      exact decide_eq_decide.2 (by simp [keysL, e])
  · rcases List.mem_append.1 hp with hp | hp
    · rw [Maps.atKey_put_other (lit_ne (fun e => hn (by rw [← e]; exact mem_keys hp)))]
      exact h.at_ p hp z
    · obtain rfl : p = (i, v) := by simpa using hp
      exact Maps.atKey_put_same h.tidy.isMap (isKey _) _ _
  · rw [Maps.size_put h.tidy, hh, h.size]
    simp
  · simp only [keysL, List.map_append, List.map_cons, List.map_nil, List.mem_append, List.mem_cons, List.not_mem_nil, or_false] at hj
    rcases hj with hj | rfl
    · exact h.ok j hj
    · exact hi

theorem MapIs.set {D : DataW Value} {l : List (Int × Value)} (h : MapIs D l) {i : Int} (hn : i ∈ keysL l) (v : Value) : MapIs (D.put (.int .i64 i) (.held v)) (l.map fun p => if p.1 = i then (i, v) else p) := by
  have hh : Maps.has D (.int .i64 i) = true := by rw [h.has]; simpa using hn
  have hk : keysL (l.map fun p => if p.1 = i then (i, v) else p) = keysL l := by
    unfold keysL
    rw [List.map_map]
    refine List.map_congr_left (fun p hp => ?_)
    simp only [Function.comp]
    split
    · simp_all
    · rfl
  refine ⟨h.tidy.put (isKey i) _, by rw [hk]; exact h.nd, fun j => ?_, fun p hp z => ?_, ?_, by rw [hk]; exact h.ok⟩
  · rw [hk]
    by_cases e : j = i
    · subst e
      rw [Maps.has_put_same h.tidy.isMap (isKey _)]
      simpa using hn
    · rw [Maps.has_put_other (lit_ne e), h.has]
  · obtain ⟨q, hq, rfl⟩ := List.mem_map.1 hp
    by_cases e : q.1 = i
    · rw [if_pos e]
      exact Maps.atKey_put_same h.tidy.isMap (isKey _) _ _
    · rw [if_neg e, Maps.atKey_put_other (lit_ne e)]
      exact h.at_ q hq z
  · rw [Maps.size_put h.tidy, hh, h.size]
    simp

theorem MapIs.del {D : DataW Value} {l : List (Int × Value)} (h : MapIs D l) (i : Int) : MapIs (D.del (.int .i64 i)) (l.filter fun p => decide (p.1 ≠ i)) := by
  have hk : keysL (l.filter fun p => decide (p.1 ≠ i)) = (keysL l).filter fun j => decide (j ≠ i) := by
    unfold keysL
    rw [List.filter_map]
    rfl
  have hmem : ∀ j, j ∈ (keysL l).filter (fun j => decide (j ≠ i)) ↔ j ∈ keysL l ∧ j ≠ i := fun j => by simp [List.mem_filter]
  have hlen : ∀ (l : List (Int × Value)), (keysL l).Nodup → (l.filter fun p => decide (p.1 ≠ i)).length + (if i ∈ keysL l then 1 else 0) = l.length := by
    intro l
    induction l with
    | nil => intro _; simp [keysL]
    | cons p r ih =>
      intro hnd
      simp only [keysL, List.map_cons, List.nodup_cons] at hnd
      have := ih hnd.2
      by_cases e : p.1 = i
      · subst e
        have hr : p.1 ∉ keysL r := hnd.1
        have hf : (decide (p.1 ≠ p.1)) = false := by simp
        rw [List.filter_cons_of_neg (by simp)]
        rw [if_neg hr] at this
        rw [if_pos (by simp [keysL]), List.length_cons]
        omega
      · rw [List.filter_cons_of_pos (by simp [e]), List.length_cons, List.length_cons]
        have hiff : (i ∈ keysL (p :: r)) ↔ i ∈ keysL r := by
          simp only [keysL, List.map_cons, List.mem_cons]
          exact ⟨fun h => h.resolve_left (fun q => e q.symm), .inr⟩
        simp only [hiff]
        omega
  refine ⟨h.tidy.del _, by rw [hk]; exact h.nd.filter _, fun j => ?_, fun p hp z => ?_, ?_, fun j hj => ?_⟩
  · rw [hk]
    by_cases e : j = i
    · subst e
      rw [Maps.has_del_same]
      simp
    · rw [Maps.has_del_other (lit_ne e), h.has]
      simp [e]
  · obtain ⟨hp1, hp2⟩ := List.mem_filter.1 hp
    have hp2' : p.1 ≠ i := by simpa using hp2
    rw [Maps.atKey_del_other (lit_ne hp2')]
    exact h.at_ p hp1 z
  · have h1 := Maps.size_del (k := .int .i64 i) h.tidy
    have h2 := hlen l h.nd
    rw [h.has, h.size] at h1
    by_cases e : i ∈ keysL l
    · simp only [e, decide_true, if_true] at h1 h2
      omega
    · simp only [e, decide_false, Bool.false_eq_true, if_false] at h1 h2
      omega
  · rw [hk] at hj
    exact h.ok j ((hmem j).1 hj).1

/-- a map in block m -/
def MapOf (w : World) (m : Nat) (l : List (Int × Value)) : Prop := ∃ D, w.ownsMap Try.prog 3 holdV m l.length D ∧ MapIs D l

theorem keyOf_i64 {i : Int} (hi : IsI64 i) : keyOf Try.prog 3 (.int .i64 i) = some (.int .i64 i) := keyOf_int_mk Try.underlying3 (WalkArith.wf_i64 hi)

theorem MapOf.lt {w : World} {m : Nat} {l : List (Int × Value)} (h : MapOf w m l) : m < w.heap.size := by obtain ⟨D, h1, _⟩ := h; exact h1.lt
theorem MapOf.same {w w' : World} {m : Nat} {l : List (Int × Value)} (h : MapOf w m l) (e : w'.heap[m]? = w.heap[m]?) : MapOf w' m l := by
  obtain ⟨D, ⟨es, clock, hb, r⟩, h2⟩ := h
  exact ⟨D, ⟨es, clock, e.trans hb, r⟩, h2⟩
theorem MapOf.obj {w : World} {m : Nat} {l : List (Int × Value)} (h : MapOf w m l) : ∃ es clock, w.heap[m]? = some (.map es clock) := by
  obtain ⟨D, ⟨es, clock, hb, r⟩, h2⟩ := h
  exact ⟨es, clock, hb⟩
theorem MapOf.made (w : World) : MapOf (w.alloc (.map #[] 0)) w.heap.size [] := ⟨_, World.ownsMap_made _ _ _ _, MapIs.nil⟩

theorem ownsMap_fit {P : Program} {k : TypeId} {R : Value → Option (DataW Value × List MemPlace)} {w : World} {b n : Nat} {D : DataW Value} (h : w.ownsMap P k R b n D) : w.ownsMap P k R b (Maps.size D) D := by
  obtain ⟨es, clock, hb, F, hs, rfl⟩ := h
  exact ⟨es, clock, hb, F, by simp [Maps.size, length_sorted], rfl⟩

/-- 'v, ok := m[k]' -/
theorem MapOf.look {w : World} {m : Nat} {l : List (Int × Value)} (h : MapOf w m l) {t e : TypeId} (ht : Try.prog.underlying t = some (.map 3 e)) {z : Value} (hz : (zeroValue e).run Try.prog w = .ok z w) {i : Int} (hi : IsI64 i) :
    ∃ v, (Instr.lookup t (.map (some m)) (.int .i64 i) true).run Try.prog w = .ok (.tuple #[v, .bool (decide (i ∈ keysL l))]) w ∧ ((i, v) ∈ l ∨ (i ∉ keysL l ∧ v = z)) := by
  obtain ⟨D, h1, h2⟩ := h
  obtain ⟨v, ps, hr, hv⟩ := h1.look_ok (int_keyed Try.underlying3) ht hz (show holdV z = some (.held z, []) from rfl) (keyOf_i64 hi)
  rw [h2.has] at hr
  refine ⟨v, hr, ?_⟩
  simp only [holdV, Option.some.injEq, Prod.mk.injEq] at hv
  by_cases hm : i ∈ keysL l
  · obtain ⟨p, hp, rfl⟩ := List.mem_map.1 hm
    rw [h2.at_ p hp] at hv
    have := hv.1
    injection this with this
    subst this
    exact .inl hp
  · rw [Maps.atKey_of_not_has (by rw [h2.has]; simpa using hm)] at hv
    have := hv.1
    injection this with this
    exact .inr ⟨hm, this⟩

/-- 'm[k]' -/
theorem MapOf.get {w : World} {m : Nat} {l : List (Int × Value)} (h : MapOf w m l) {t e : TypeId} (ht : Try.prog.underlying t = some (.map 3 e)) {z : Value} (hz : (zeroValue e).run Try.prog w = .ok z w) {i : Int} (hi : IsI64 i) :
    ∃ v, (Instr.lookup t (.map (some m)) (.int .i64 i) false).run Try.prog w = .ok v w ∧ ((i, v) ∈ l ∨ (i ∉ keysL l ∧ v = z)) := by
  obtain ⟨D, h1, h2⟩ := h
  obtain ⟨v, ps, hr, hv⟩ := h1.lookup (int_keyed Try.underlying3) ht hz (show holdV z = some (.held z, []) from rfl) (keyOf_i64 hi)
  refine ⟨v, hr, ?_⟩
  simp only [holdV, Option.some.injEq, Prod.mk.injEq] at hv
  by_cases hm : i ∈ keysL l
  · obtain ⟨p, hp, rfl⟩ := List.mem_map.1 hm
    rw [h2.at_ p hp] at hv
    have := hv.1
    injection this with this
    subst this
    exact .inl hp
  · rw [Maps.atKey_of_not_has (by rw [h2.has]; simpa using hm)] at hv
    have := hv.1
    injection this with this
    exact .inr ⟨hm, this⟩

theorem MapOf.len {w : World} {m : Nat} {l : List (Int × Value)} (h : MapOf w m l) {t e : TypeId} (ht : Try.prog.underlying t = some (.map 3 e)) (ty : TypeId) : (Builtin.len_ #[t] ty #[.map (some m)]).run Try.prog w = .ok (.int .i64 l.length) w := by
  obtain ⟨D, h1, h2⟩ := h
  rw [h1.len ht ty, h2.size]

/-- 'm[k] = v' at a new key -/
theorem MapOf.put {w : World} {m : Nat} {l : List (Int × Value)} (h : MapOf w m l) {t e : TypeId} (ht : Try.prog.underlying t = some (.map 3 e)) {i : Int} (hi : IsI64 i) (hn : i ∉ keysL l) (hl : l.length < maxLen) (v : Value) :
    ∃ w', (Instr.mapUpdate t (.map (some m)) (.int .i64 i) v).run Try.prog w = .ok () w' ∧ MapOf w' m (l ++ [(i, v)]) ∧ w.grownBy w' (some m) := by
  obtain ⟨D, h1, h2⟩ := h
  obtain ⟨w', hr, h3, h4⟩ := h1.update (int_keyed Try.underlying3) ht hl (keyOf_i64 hi) (show holdV v = some (.held v, []) from rfl)
  refine ⟨w', hr, ⟨_, ?_, h2.put hi hn v⟩, h4⟩
  have h5 := ownsMap_fit h3
  rw [(h2.put hi hn v).size] at h5
  exact h5

/-- 'm[k] = v' at a key that is there -/
theorem MapOf.set {w : World} {m : Nat} {l : List (Int × Value)} (h : MapOf w m l) {t e : TypeId} (ht : Try.prog.underlying t = some (.map 3 e)) {i : Int} (hn : i ∈ keysL l) (hl : l.length < maxLen) (v : Value) :
    ∃ w', (Instr.mapUpdate t (.map (some m)) (.int .i64 i) v).run Try.prog w = .ok () w' ∧ MapOf w' m (l.map fun p => if p.1 = i then (i, v) else p) ∧ w.grownBy w' (some m) := by
  obtain ⟨D, h1, h2⟩ := h
  obtain ⟨w', hr, h3, h4⟩ := h1.update (int_keyed Try.underlying3) ht hl (keyOf_i64 (h2.ok i hn)) (show holdV v = some (.held v, []) from rfl)
  refine ⟨w', hr, ⟨_, ?_, h2.set hn v⟩, h4⟩
  have h5 := ownsMap_fit h3
  rw [(h2.set hn v).size] at h5
  exact h5

/-- 'delete(m, k)' -/
theorem MapOf.del {w : World} {m : Nat} {l : List (Int × Value)} (h : MapOf w m l) {t e : TypeId} (ht : Try.prog.underlying t = some (.map 3 e)) {i : Int} (hi : IsI64 i) (ty : TypeId) :
    ∃ w', (Builtin.delete_ #[t, 3] ty #[.map (some m), .int .i64 i]).run Try.prog w = .ok (.tuple #[]) w' ∧ MapOf w' m (l.filter fun p => decide (p.1 ≠ i)) ∧ w.grownBy w' (some m) := by
  obtain ⟨D, h1, h2⟩ := h
  obtain ⟨w', hr, h3, h4⟩ := h1.drop (int_keyed Try.underlying3) ht (keyOf_i64 hi) ty
  refine ⟨w', hr, ⟨_, ?_, h2.del i⟩, h4.grown⟩
  have h5 := ownsMap_fit h3
  rw [(h2.del i).size] at h5
  exact h5
end Go.Proofs.Ytbkimebmoafbnaa

namespace Go.Proofs.Ytbkimebmoafbnaa
open Go.RowKit
set_option linter.unusedVariables false

def valL : List Value := [.int .i64 0, .int .u64 0, .string ⟨#[]⟩, .slice none 0 0, .int .i64 0]
def faultL : List Value := [.string ⟨#[]⟩, .string ⟨#[]⟩] ++ valL
def stateL : List Value := [.int .i64 0, .int .i64 0, .int .i64 0] ++ faultL ++ [.bool false, .bool false] ++ valL ++ [.string ⟨#[]⟩, .slice none 0 0]
def termL : List Value := [.int .i64 0, .string ⟨#[]⟩, .int .i64 0, .int .i64 0, .int .i64 0, .bool false, .int .i64 0, .string ⟨#[]⟩] ++ stateL ++ [.slice none 0 0, .slice none 0 0]
/-- a perform that tells a session's fields; all else is nought -/
def perfL (k re ni iw no ow hm hd ct cr av : Int) (dr : Bool) : List Value :=
  [.int .i64 k, .string ⟨#[]⟩, .string ⟨#[]⟩, .int .i64 0, .int .i64 0, .int .i64 0] ++ valL ++ [.int .i64 re, .int .i64 ni, .int .i64 iw, .int .i64 no, .int .i64 ow, .int .i64 hm, .string ⟨#[]⟩, .int .i64 hd, .bool false, .int .i64 0, .int .i64 0] ++ termL ++ termL ++
    [.slice none 0 0, .bool false, .int .i64 0, .int .i64 0, .int .i64 ct, .int .i64 cr, .int .i64 av, .bool dr, .bool false, .int .i64 0, .bool false, .string ⟨#[]⟩, .int .i64 0, .bool false, .bool false, .bool false, .bool false, .bool false, .bool false] ++ stateL ++
    [.int .i64 0, .int .i64 0, .bool false] ++ faultL
def perfC (k re ni iw no ow hm hd ct cr av : Int) (dr : Bool) : Array Value := (perfL k re ni iw no ow hm hd ct cr av dr).toArray
def perfZ : Array Value := perfC 0 0 0 0 0 0 0 0 0 0 0 false
theorem perf_size (k re ni iw no ow hm hd ct cr av : Int) (dr : Bool) : (perfC k re ni iw no ow hm hd ct cr av dr).size = 128 := by
  simp [perfC, perfL, valL, faultL, stateL, termL]

/-- the first Begin -/
def firstC : Array Value := perfC 17 0 0 2 5 10 1 0 0 0 0 false

set_option maxRecDepth 20000 in
set_option maxHeartbeats 4000000 in
theorem first_any (w : World) :
    Calls Try.prog 17 #[] w fun e w' => e = .returned (.agg firstC) ∧ Below w.heap.size w w' := by
  go_enter Try.func17, Try.ntmps17
  go_upto_region 1 with fail
  change Code.wp _ _ _ _ (w.alloc (.cells perfZ 39))
  have h0 : (w.alloc (.cells perfZ 39)).heap[w.heap.size]? = some (.cells perfZ 39 (0, 0)) := heap_alloc_new _ _
  have hb : Below w.heap.size w (w.alloc (.cells perfZ 39)) := (Below.refl _ _).alloc (Nat.le_refl _) _
  generalize (w.alloc (.cells perfZ 39)) = w0 at *
  obtain ⟨x, hx⟩ : ∃ x, w.heap.size = x := ⟨_, rfl⟩
  have HX := Lib.hid hx
  rw [hx] at h0 ⊢
  clear hx
  go_wp2_with (first
    | (refine wpList_buildTo rfl 39 _ rfl (some 1) rfl firstC (by as_aux_lemma => kernel_rfl) ?_)
    | (refine wpList_store_rowTo rfl 39 (.tmp 0) (.tmp 1) rfl rfl x firstC rfl rfl 39 perfZ h0 (by as_aux_lemma => kernel_rfl) (by as_aux_lemma => kernel_rfl) (by as_aux_lemma => kernel_rfl) ?_))
  have hh := setRow_heap w0 x _ firstC _ _ h0
  have hB := below_setRow hb (show w.heap.size ≤ x by rw [HX.out]; exact Nat.le_refl _) firstC
  refine bodyPost_ret (results_cell_row (p := 0) (ty := 39) (by kernel_rfl) _ _ x 39 firstC (0, 0) _ rfl hh Try.underlying39 rfl (by as_aux_lemma => kernel_rfl)) rfl ?_
  exact ⟨rfl, hB⟩
end Go.Proofs.Ytbkimebmoafbnaa

namespace Go.Proofs.Ytbkimebmoafbnaa
open Go.RowKit Go.Maps
set_option linter.unusedVariables false

/-- a delivery that is not settled -/
structure Pnd where
  id : Int
  h : Int
  tag : ByteArray

def Pnd.val (p : Pnd) : Value := .agg #[.int .i64 p.id, .int .i64 p.h, .string p.tag]
def pend (l : List Pnd) : List (Int × Value) := l.map fun p => (p.id, p.val)
def rems (l : List (Int × Int)) : List (Int × Value) := l.map fun p => (p.1, .int .i64 p.2)

/-- how a session stands -/
structure SS where
  first : Int
  peer : Bool
  no : Int
  ow : Int
  ni : Int
  iw : Int
  ri : Int
  ro : Int
  nd : Int
  hm : Int
  rh : Int
  rem : List (Int × Int)
  snd : List Pnd
  arr : List Pnd

def Word (n : Int) : Prop := 0 ≤ n ∧ n ≤ 4294967295
instance (n : Int) : Decidable (Word n) := inferInstanceAs (Decidable (0 ≤ n ∧ n ≤ 4294967295))

theorem word0 : Word 0 := by decide

structure SS.ok (s : SS) : Prop where
  first : Word s.first
  no : Word s.no
  ow : Word s.ow
  ni : Word s.ni
  iw : Word s.iw
  ri : 0 ≤ s.ri ∧ s.ri ≤ 2147483647
  ro : Word s.ro
  nd : Word s.nd
  hm : Word s.hm
  rh : Word s.rh

def SS.new (no iw ow hm : Int) : SS := ⟨no, false, no, ow, 0, iw, 0, 0, 0, hm, 0, [], [], []⟩
theorem SS.new_ok {no iw ow hm : Int} (h1 : Word no) (h2 : Word iw) (h3 : Word ow) (h4 : Word hm) : (SS.new no iw ow hm).ok := ⟨h1, h1, h3, word0, h2, ⟨Int.le_refl 0, by show (0 : Int) ≤ 2147483647; decide⟩, word0, word0, h4, word0⟩

/-- where a session lies -/
structure SK where
  b : Nat
  tS : Nat
  tA : Nat
  mR : Nat
  mS : Nat
  mA : Nat
  B : Nat

def SK.has (K : SK) (j : Nat) : Prop := j = K.b ∨ j = K.tS ∨ j = K.tA ∨ j = K.mR ∨ j = K.mS ∨ j = K.mA

def SS.cells (s : SS) (K : SK) : Array Value := #[.int .i64 s.first, .bool s.peer, .int .i64 s.no, .int .i64 s.ow, .int .i64 s.ni, .int .i64 s.iw, .int .i64 s.ri, .int .i64 s.ro, .int .i64 s.nd, .int .i64 0, .int .i64 0, .int .i64 s.hm, .int .i64 s.rh, .map (some K.mR), .pointer (some ⟨K.tS, 0, none⟩), .pointer (some ⟨K.tA, 0, none⟩)]

structure SesIn (w : World) (K : SK) (s : SS) : Prop where
  row : w.heap[K.b]? = some (.cells (s.cells K) 85 (0, 0))
  rowS : w.heap[K.tS]? = some (.cells #[.map (some K.mS)] 92 (0, 0))
  rowA : w.heap[K.tA]? = some (.cells #[.map (some K.mA)] 92 (0, 0))
  rem : MapOf w K.mR (rems s.rem)
  snd : MapOf w K.mS (pend s.snd)
  arr : MapOf w K.mA (pend s.arr)
  lo : ∀ j, K.has j → K.B ≤ j
  ne : K.tS ≠ K.tA ∧ K.mR ≠ K.mS ∧ K.mR ≠ K.mA ∧ K.mS ≠ K.mA
  ok : s.ok

theorem SesIn.lt {w : World} {K : SK} {s : SS} (h : SesIn w K s) : ∀ j, K.has j → j < w.heap.size := by
  rintro j (rfl | rfl | rfl | rfl | rfl | rfl)
  · exact (Array.getElem?_eq_some_iff.1 h.row).1
  · exact (Array.getElem?_eq_some_iff.1 h.rowS).1
  · exact (Array.getElem?_eq_some_iff.1 h.rowA).1
  · exact h.rem.lt
  · exact h.snd.lt
  · exact h.arr.lt

theorem SesIn.keep {w w' : World} {K : SK} {s : SS} (h : SesIn w K s) (e : ∀ j, K.has j → w'.heap[j]? = w.heap[j]?) : SesIn w' K s :=
  ⟨(e _ (.inl rfl)).trans h.row, (e _ (.inr (.inl rfl))).trans h.rowS, (e _ (.inr (.inr (.inl rfl)))).trans h.rowA, h.rem.same (e _ (.inr (.inr (.inr (.inl rfl))))), h.snd.same (e _ (.inr (.inr (.inr (.inr (.inl rfl)))))), h.arr.same (e _ (.inr (.inr (.inr (.inr (.inr rfl)))))), h.lo, h.ne, h.ok⟩

theorem SesIn.below {w w' : World} {K : SK} {s : SS} (h : SesIn w K s) (hb : Below w.heap.size w w') : SesIn w' K s := h.keep (fun j hj => hb.block j (h.lt j hj))

/-- a move of a session -/
structure SMv (K : SK) (w w' : World) : Prop where
  os : w'.os = w.os
  tape : w'.tape = w.tape
  output : w'.output = w.output
  size : w.heap.size ≤ w'.heap.size
  block : ∀ j, j < w.heap.size → ¬ K.has j → w'.heap[j]? = w.heap[j]?

theorem SMv.refl (K : SK) (w : World) : SMv K w w := ⟨rfl, rfl, rfl, Nat.le_refl _, fun _ _ _ => rfl⟩
theorem SMv.trans {K : SK} {w w1 w2 : World} (h : SMv K w w1) (k : SMv K w1 w2) : SMv K w w2 :=
  ⟨k.os.trans h.os, k.tape.trans h.tape, k.output.trans h.output, Nat.le_trans h.size k.size, fun j hj hn => (k.block j (Nat.lt_of_lt_of_le hj h.size) hn).trans (h.block j hj hn)⟩
theorem SMv.of_below {K : SK} {w w' : World} (h : Below w.heap.size w w') : SMv K w w' := ⟨h.os, h.tape, h.output, h.size, fun j hj _ => h.block j hj⟩
theorem SMv.of_grown {K : SK} {w w' : World} {d : Nat} (h : w.grownBy w' (some d)) (hd : K.has d) : SMv K w w' := ⟨h.os, h.tape, h.output, h.size, fun j hj hn => h.block j hj (fun e => hn (by cases e; exact hd))⟩
theorem SMv.below {K : SK} {w w' : World} {n : Nat} (h : SMv K w w') (hB : ∀ j, K.has j → n ≤ j) (hn : n ≤ w.heap.size) : Below n w w' := ⟨h.os, h.tape, h.output, h.size, fun j hj => h.block j (Nat.lt_of_lt_of_le hj hn) (fun hk => by have := hB j hk; omega)⟩

theorem word_any (n : Int) (w : World) : Calls Try.prog 37 #[.int .i64 n] w fun e w' => e = .returned (.bool (decide (Word n))) ∧ w' = w := by
  by_cases h1 : 0 ≤ n
  · by_cases h2 : n ≤ 4294967295
    · rw [decide_eq_true (show Word n from ⟨h1, h2⟩)]
      go_enter Try.func37, Try.ntmps37
      go_wp2_with fail
      go_ret
      exact ⟨by simp <;> omega, rfl⟩
    · rw [decide_eq_false (show ¬ Word n from fun h => h2 h.2)]
      go_enter Try.func37, Try.ntmps37
      go_wp2_with fail
      go_ret
      exact ⟨by simp <;> omega, rfl⟩
  · rw [decide_eq_false (show ¬ Word n from fun h => h1 h.1)]
    go_enter Try.func37, Try.ntmps37
    go_wp2_with fail
    go_ret
    exact ⟨by simp <;> omega, rfl⟩

/-- a Begin that may be -/
def BeginOk (k no iw ow hm : Int) : Prop := k = 17 ∧ Word no ∧ Word iw ∧ Word ow ∧ Word hm
instance (k no iw ow hm : Int) : Decidable (BeginOk k no iw ow hm) := inferInstanceAs (Decidable (k = 17 ∧ Word no ∧ Word iw ∧ Word ow ∧ Word hm))

/-- the cells of a perform that are looked at -/
theorem perf_cells {w : World} {x : Nat} {k re ni iw no ow hm hd ct cr av : Int} {dr : Bool} (h : w.heap[x]? = some (.cells (perfC k re ni iw no ow hm hd ct cr av dr) 39 (0, 0))) :
    w.cell? ⟨x, 0, none⟩ = some (.int .i64 k) ∧ w.cell? ⟨x, 12, none⟩ = some (.int .i64 ni) ∧ w.cell? ⟨x, 13, none⟩ = some (.int .i64 iw) ∧ w.cell? ⟨x, 14, none⟩ = some (.int .i64 no) ∧ w.cell? ⟨x, 15, none⟩ = some (.int .i64 ow) ∧ w.cell? ⟨x, 16, none⟩ = some (.int .i64 hm) :=
  ⟨(cell_of_row _ _ 0 _ _ _ h).trans rfl, (cell_of_row _ _ 12 _ _ _ h).trans rfl, (cell_of_row _ _ 13 _ _ _ h).trans rfl, (cell_of_row _ _ 14 _ _ _ h).trans rfl, (cell_of_row _ _ 15 _ _ _ h).trans rfl, (cell_of_row _ _ 16 _ _ _ h).trans rfl⟩

set_option maxHeartbeats 4000000 in
theorem begins_any (w : World) (k re ni iw no ow hm hd ct cr av : Int) (dr : Bool) :
    Calls Try.prog 32 #[.agg (perfC k re ni iw no ow hm hd ct cr av dr)] w fun e w' => e = .returned (.bool (decide (BeginOk k no iw ow hm))) ∧ Below w.heap.size w w' := by
  obtain ⟨P, hP⟩ : ∃ P, perfC k re ni iw no ow hm hd ct cr av dr = P := ⟨_, rfl⟩
  rw [hP]
  go_enter Try.func32, Try.ntmps32
  go_upto_region 1 with fail
  have hb : Below w.heap.size w (w.alloc (.cells P 39)) := (Below.refl _ _).alloc (Nat.le_refl _) _
  have h0 : (w.alloc (.cells P 39)).heap[w.heap.size]? = some (.cells P 39 (0, 0)) := heap_alloc_new _ _
  generalize (w.alloc (.cells P 39)) = w0 at *
  obtain ⟨x, hx⟩ : ∃ x, w.heap.size = x := ⟨_, rfl⟩
  rw [hx] at h0 ⊢
  rw [← hP] at h0
  obtain ⟨c0, _, c13, c14, c15, c16⟩ := perf_cells h0
  have HB := Lib.hid hb
  clear hb h0 hP hx
  have i1 := word_any no w0
  have i2 := word_any iw w0
  have i3 := word_any ow w0
  have i4 := word_any hm w0
  by_cases hk : k = 17
  · by_cases h1 : Word no
    · rw [decide_eq_true h1] at i1
      by_cases h2 : Word iw
      · rw [decide_eq_true h2] at i2
        by_cases h3 : Word ow
        · rw [decide_eq_true h3] at i3
          by_cases h4 : Word hm
          · rw [decide_eq_true h4] at i4
            have H := Lib.hid (And.intro h1 (And.intro h2 (And.intro h3 h4)))
            clear h1 h2 h3 h4
            go_wp2_with fail
            refine i1.mono ?_
            rintro e w' ⟨rfl, rfl⟩
            go_wp2_with fail
            refine i2.mono ?_
            rintro e w' ⟨rfl, rfl⟩
            go_wp2_with fail
            refine i3.mono ?_
            rintro e w' ⟨rfl, rfl⟩
            go_wp2_with fail
            refine i4.mono ?_
            rintro e w' ⟨rfl, rfl⟩
            go_wp2_with fail
            go_ret
            have hB : BeginOk k no iw ow hm := ⟨hk, H.out⟩
            exact ⟨by simp [hB], HB.out⟩
          · rw [decide_eq_false h4] at i4
            have H := Lib.hid h4
            clear h1 h2 h3 h4
            go_wp2_with fail
            refine i1.mono ?_
            rintro e w' ⟨rfl, rfl⟩
            go_wp2_with fail
            refine i2.mono ?_
            rintro e w' ⟨rfl, rfl⟩
            go_wp2_with fail
            refine i3.mono ?_
            rintro e w' ⟨rfl, rfl⟩
            go_wp2_with fail
            refine i4.mono ?_
            rintro e w' ⟨rfl, rfl⟩
            go_wp2_with fail
            go_ret
            have hB : ¬ BeginOk k no iw ow hm := fun h => H.out h.2.2.2.2
            exact ⟨by simp [hB], HB.out⟩
        · rw [decide_eq_false h3] at i3
          have H := Lib.hid h3
          clear h1 h2 h3
          go_wp2_with fail
          refine i1.mono ?_
          rintro e w' ⟨rfl, rfl⟩
          go_wp2_with fail
          refine i2.mono ?_
          rintro e w' ⟨rfl, rfl⟩
          go_wp2_with fail
          refine i3.mono ?_
          rintro e w' ⟨rfl, rfl⟩
          go_wp2_with fail
          go_ret
          have hB : ¬ BeginOk k no iw ow hm := fun h => H.out h.2.2.2.1
          exact ⟨by simp [hB], HB.out⟩
      · rw [decide_eq_false h2] at i2
        have H := Lib.hid h2
        clear h1 h2
        go_wp2_with fail
        refine i1.mono ?_
        rintro e w' ⟨rfl, rfl⟩
        go_wp2_with fail
        refine i2.mono ?_
        rintro e w' ⟨rfl, rfl⟩
        go_wp2_with fail
        go_ret
        have hB : ¬ BeginOk k no iw ow hm := fun h => H.out h.2.2.1
        exact ⟨by simp [hB], HB.out⟩
    · rw [decide_eq_false h1] at i1
      have H := Lib.hid h1
      clear h1
      go_wp2_with fail
      refine i1.mono ?_
      rintro e w' ⟨rfl, rfl⟩
      go_wp2_with fail
      go_ret
      have hB : ¬ BeginOk k no iw ow hm := fun h => H.out h.2.1
      exact ⟨by simp [hB], HB.out⟩
  · have hk' : (k == 17) = false := by simpa using hk
    go_wp2_with fail
    go_ret
    have hB : ¬ BeginOk k no iw ow hm := fun h => hk h.1
    exact ⟨by simp [hB], HB.out⟩

theorem newTable_any (w : World) :
    Calls Try.prog 33 #[] w fun e w' => e = .returned (.pointer (some ⟨w.heap.size + 1, 0, none⟩)) ∧ w' = (w.alloc (.map #[] 0)).alloc (.cells #[.map (some w.heap.size)] 92) := by
  have hmm := @run_makeMap Try.prog
  go_enter Try.func33, Try.ntmps33
  go_wp2_with fail
  go_ret
  exact ⟨rfl, rfl⟩
end Go.Proofs.Ytbkimebmoafbnaa
