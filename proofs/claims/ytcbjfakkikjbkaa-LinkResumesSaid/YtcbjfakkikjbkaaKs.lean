/-
  What becomes of deliveries: what is told, under way. Plain lemmas. No conditions.
-/
import Derived.Test.YtcbjfakkikjbkaaKr
namespace Go.Proofs.Ytcbjfakkikjbkaa
open Go.RowKit Go.Maps Go.Sort
set_option linter.all false

/-- what the peer has left, as a map holds it -/
def lefts (a : List (ByteArray × (St × Sl))) : List (ByteArray × Value) := a.map fun p => (p.1, .agg (sarr p.2.1 p.2.2))
def ltags (a : List (ByteArray × (St × Sl))) : List ByteArray := a.map Prod.fst
theorem keys_lefts (a : List (ByteArray × (St × Sl))) : keysL (lefts a) = ltags a := by simp [keysL, lefts, ltags]
theorem lefts_len (a : List (ByteArray × (St × Sl))) : (lefts a).length = a.length := by simp [lefts]
theorem mem_lefts {a : List (ByteArray × (St × Sl))} {k : ByteArray} {v : Value} (h : (k, v) ∈ lefts a) : ∃ x, (k, x) ∈ a ∧ v = .agg (sarr x.1 x.2) := by
  obtain ⟨p, hp, e⟩ := List.mem_map.1 h
  simp only [Prod.mk.injEq] at e
  obtain ⟨rfl, rfl⟩ := e
  exact ⟨p.2, hp, rfl⟩
def leftAt (a : List (ByteArray × (St × Sl))) (k : ByteArray) : St × Sl := ((a.find? fun p => decide (p.1 = k)).map Prod.snd).getD (zS, default)
theorem leftAt_mem {a : List (ByteArray × (St × Sl))} {k : ByteArray} (h : k ∈ ltags a) : (k, leftAt a k) ∈ a := by
  obtain ⟨p, hp, rfl⟩ := List.mem_map.1 h
  unfold leftAt
  cases hf : a.find? (fun x => decide (x.1 = p.1)) with
  | none => have := List.find?_eq_none.1 hf p hp; simp at this
  | some x =>
    have h1 := List.mem_of_find?_eq_some hf
    have h2 := List.find?_some hf
    simp only [decide_eq_true_eq] at h2
    simp only [Option.map_some, Option.getD_some]
    rw [← h2]
    exact h1
theorem leftAt_none {a : List (ByteArray × (St × Sl))} {k : ByteArray} (h : k ∉ ltags a) : leftAt a k = (zS, default) := by
  unfold leftAt
  rw [List.find?_eq_none.2 (fun p hp => by simp only [decide_eq_true_eq]; exact fun e => h (List.mem_map.2 ⟨p, hp, e⟩))]
  rfl
theorem left_unique {a : List (ByteArray × (St × Sl))} (nd : (ltags a).Nodup) {k : ByteArray} {e f : St × Sl} (he : (k, e) ∈ a) (hf : (k, f) ∈ a) : e = f := by
  induction a with
  | nil => cases he
  | cons p r ih =>
    simp only [ltags, List.map_cons, List.nodup_cons] at nd
    rcases List.mem_cons.1 he with he1 | he1 <;> rcases List.mem_cons.1 hf with hf1 | hf1
    · rw [← he1] at hf1; cases hf1; rfl
    · exact absurd (List.mem_map.2 ⟨_, hf1, rfl⟩) (by rw [← he1] at nd; exact nd.1)
    · exact absurd (List.mem_map.2 ⟨_, he1, rfl⟩) (by rw [← hf1] at nd; exact nd.1)
    · exact ih nd.2 he1 hf1
theorem zero_state (w : World) : (zeroValue 33).run Try.prog w = .ok (.agg (sarr zS default)) w := by kernel_rfl
/-- 's, there := left[tag]' -/
theorem left_look {w : World} {mm : Nat} {a : List (ByteArray × (St × Sl))} (h : MapOf w mm (lefts a)) {tag : ByteArray} (ht : tag.size ≤ maxLen) :
    (Instr.lookup 72 (.map (some mm)) (.string tag) true).run Try.prog w = .ok (.tuple #[.agg (sarr (leftAt a tag).1 (leftAt a tag).2), .bool (decide (tag ∈ ltags a))]) w := by
  obtain ⟨v, hr, hv⟩ := h.look Try.underlying72 (zero_state w) ht
  rw [hr]
  have hd : decide (tag ∈ keysL (lefts a)) = decide (tag ∈ ltags a) := by simp only [keys_lefts]
  have hnd : (ltags a).Nodup := by rw [← keys_lefts]; exact h.nd
  rw [hd]
  rcases hv with hv | ⟨hn, rfl⟩
  · obtain ⟨x, hx, rfl⟩ := mem_lefts hv
    have hk : tag ∈ ltags a := List.mem_map.2 ⟨_, hx, rfl⟩
    rw [left_unique hnd hx (leftAt_mem hk)]
  · rw [keys_lefts] at hn
    rw [leftAt_none hn]

/-- what is told so far: D: the tags that are there; T: those still to come; F: what each becomes -/
structure ReI (F : ByteArray → Int) (D T : ByteArray → Prop) (rs : List (ByteArray × Int)) : Prop where
  nd : (rs.map Prod.fst).Nodup
  el : ∀ x ∈ rs, D x.1 ∧ ¬ T x.1 ∧ x.2 = F x.1
  all : ∀ k, D k → k ∈ rs.map Prod.fst ∨ T k
theorem ReI.push {F : ByteArray → Int} {D T T' : ByteArray → Prop} {rs : List (ByteArray × Int)} (h : ReI F D T rs) {k : ByteArray} (hd : D k) (ht : T k) (e : ∀ j, T' j ↔ T j ∧ j ≠ k) : ReI F D T' (rs ++ [(k, F k)]) := by
  have hn : k ∉ rs.map Prod.fst := fun q => by
    obtain ⟨x, hx, rfl⟩ := List.mem_map.1 q
    exact (h.el x hx).2.1 ht
  refine ⟨?_, fun x hx => ?_, fun j hj => ?_⟩
  · rw [List.map_append, List.nodup_append]
    refine ⟨h.nd, by simp, fun a ha b hb e2 => ?_⟩
    simp only [List.map_cons, List.map_nil, List.mem_cons, List.not_mem_nil, or_false] at hb
    rw [e2, hb] at ha
    exact hn ha
  · rcases List.mem_append.1 hx with hx | hx
    · exact ⟨(h.el x hx).1, fun q => (h.el x hx).2.1 ((e _).1 q).1, (h.el x hx).2.2⟩
    · obtain rfl : x = (k, F k) := by simpa using hx
      exact ⟨hd, fun q => ((e _).1 q).2 rfl, rfl⟩
  · by_cases hjk : j = k
    · subst hjk; left; simp
    · rcases h.all j hj with q | q
      · left; simp only [List.map_append, List.mem_append]; exact .inl q
      · exact .inr ((e j).2 ⟨q, hjk⟩)
theorem ReI.turn {F : ByteArray → Int} {D D' T T' : ByteArray → Prop} {rs : List (ByteArray × Int)} (h : ReI F D T rs) (hd : ∀ k, D k → D' k) (ht : ∀ k, D k → T' k → T k) (ha : ∀ k, D' k → (D k ∧ (T k → T' k)) ∨ T' k) : ReI F D' T' rs :=
  ⟨h.nd, fun x hx => ⟨hd _ (h.el x hx).1, fun q => (h.el x hx).2.1 (ht _ (h.el x hx).1 q), (h.el x hx).2.2⟩, fun k hk => by
    rcases ha k hk with ⟨q1, q2⟩ | q
    · rcases h.all k q1 with q | q
      · exact .inl q
      · exact .inr (q2 q)
    · exact .inr q⟩

/-- what lies in memory meanwhile: a map (in block M) is ranged over -/
structure ReS (w wr : World) (m mm r M : Nat) (l : Lk) (a : List (ByteArray × (St × Sl))) (lst : List (ByteArray × Value)) (todo : List ByteArray) (rs : List (ByteArray × Int)) (v : Value) : Prop where
  rng : RangeOf wr M r lst todo
  la : MapOf wr m (ents l.all)
  le : MapOf wr mm (lefts a)
  row : wr.ownsRow w.heap.size 46 2 v rs.length (flat rcells rs)
  blw : Below w.heap.size w wr
  lr : w.heap.size ≤ r
  lmm : w.heap.size ≤ mm
  nmm : mm ≠ r
  nm : m ≠ r
  offr : v.ownBlock ≠ some r
  offm : v.ownBlock ≠ some mm
  offa : v.ownBlock ≠ some m
  MM : M = m ∨ M = mm
  nil : rs = [] → v = .slice none 0 0
section
variable {w wr w1 w2 w9 : World} {m mm r M : Nat} {l : Lk} {a : List (ByteArray × (St × Sl))} {lst : List (ByteArray × Value)} {todo : List ByteArray} {rs : List (ByteArray × Int)} {v v' : Value} {k : ByteArray}
/-- a round that tells nothing -/
theorem ReS.skip (h : ReS w wr m mm r M l a lst todo rs v) (hrg : RangeOf w1 M r lst (todo.erase k)) (hg : wr.grownBy w1 (some r)) (hz : w1.heap.size = wr.heap.size) (hb : Below w1.heap.size w1 w2) : ReS w w2 m mm r M l a lst (todo.erase k) rs v := by
  have hwz := h.blw.size
  have e : ∀ b, b < wr.heap.size → b ≠ r → w2.heap[b]? = wr.heap[b]? := fun b q1 q2 => (hb.block b (by omega)).trans (hg.block b q1 (fun e => q2 (Option.some.inj e)))
  have e1 : ∀ b, b < wr.heap.size → w2.heap[b]? = w1.heap[b]? := fun b q1 => hb.block b (by omega)
  have hM : M < wr.heap.size := by rcases h.MM with rfl | rfl; exact h.la.lt; exact h.le.lt
  refine ⟨hrg.same (e1 _ hM) (e1 _ h.rng.lt), h.la.same (e _ h.la.lt h.nm), h.le.same (e _ h.le.lt h.nmm), ownsRow_keep h.row (fun j hj => e j (h.row.lt j hj).2 (fun q => h.offr (by rw [hj, q]))), ?_, h.lr, h.lmm, h.nmm, h.nm, h.offr, h.offm, h.offa, h.MM, h.nil⟩
  exact (h.blw.grown hg hwz (fun j hj => by cases hj; exact h.lr)).trans (hb.mono (by omega))
/-- a round that tells of one -/
theorem ReS.push (h : ReS w wr m mm r M l a lst todo rs v) (hrg : RangeOf w1 M r lst (todo.erase k)) (hg : wr.grownBy w1 (some r)) (hz : w1.heap.size = wr.heap.size) (hb : Below w1.heap.size w1 w2) {x : ByteArray × Int}
    (hA : App1 w2 w9 w.heap.size 46 2 rs.length v v' (flat rcells rs ++ rcells x)) : ReS w w9 m mm r M l a lst (todo.erase k) (rs ++ [x]) v' := by
  have hs := h.skip hrg hg hz hb
  have hgA := hA.grown
  have hwz := hs.blw.size
  have hM : M < w2.heap.size := by rcases h.MM with rfl | rfl; exact hs.la.lt; exact hs.le.lt
  have hvl : ∀ j, v.ownBlock = some j → w.heap.size ≤ j ∧ j < w2.heap.size := hs.row.lt
  have hown : ∀ b, b < w2.heap.size → v.ownBlock ≠ some b → v'.ownBlock ≠ some b := fun b hbl hne q => by
    rcases hA.own q with q | q
    · exact hne q
    · omega
  have e : ∀ b, b < w2.heap.size → v.ownBlock ≠ some b → w9.heap[b]? = w2.heap[b]? := fun b q1 q2 => hgA.block b q1 (fun e => q2 e.symm)
  have oM : v.ownBlock ≠ some M := by rcases h.MM with rfl | rfl; exact h.offa; exact h.offm
  refine ⟨hs.rng.same (e _ hM oM) (e _ hs.rng.lt h.offr), hs.la.same (e _ hs.la.lt h.offa), hs.le.same (e _ hs.le.lt h.offm), ?_, ?_, h.lr, h.lmm, h.nmm, h.nm, hown _ hs.rng.lt h.offr, hown _ hs.le.lt h.offm, hown _ hs.la.lt h.offa, h.MM, fun q => by simp at q⟩
  · rw [List.length_append, List.length_singleton, flat_snoc]
    exact hA.owns hwz
  · exact hs.blw.grown hgA hwz (fun j hj => (hvl j hj).1)
end
end Go.Proofs.Ytcbjfakkikjbkaa
