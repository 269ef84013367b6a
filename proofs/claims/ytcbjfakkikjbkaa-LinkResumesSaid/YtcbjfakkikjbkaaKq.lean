/-
  A link's unsettled deliveries. Conditions: the link lies in memory, its deliveries are not too many.
-/
import Derived.Test.YtcbjfakkikjbkaaKp

namespace Go.Proofs.Ytcbjfakkikjbkaa
open Go.RowKit Go.Maps Go.Sort
set_option linter.all false

instance : Inhabited (Un × Sl) := ⟨(default, default)⟩
def encU (p : Un × Sl) : List Value := ucells p.1 p.2
theorem encU_len (p : Un × Sl) : (encU p).length = 20 := by simp [encU, ucells, scells_len]
theorem info_un : (Try.prog.info? 52).map (fun i => (i.zero, i.size, i.bytes)) = some (some (.agg (encU (⟨⟨#[]⟩, zS⟩, default)).toArray), 20, 248) := by kernel_rfl
theorem info_parts3 {P : Program} {t : TypeId} {z : Value} {s b : Nat} (h : (P.info? t).map (fun i => (i.zero, i.size, i.bytes)) = some (some z, s, b)) : ∃ i, P.info? t = some i ∧ i.zero = some z ∧ i.size = s ∧ i.bytes = b := by
  cases hi : P.info? t with
  | none => rw [hi] at h; cases h
  | some i =>
    rw [hi] at h
    simp only [Option.map_some, Option.some.injEq, Prod.mk.injEq] at h
    exact ⟨i, rfl, h.1, h.2.1, h.2.2⟩

/-- a slice's row of elements -/
def RowOf {α : Type} (w : World) (enc : α → List Value) (K : Nat) (v : Value) (l : List α) : Prop :=
  ∃ p c, v = .slice p l.length c ∧ l.length ≤ c ∧ c ≤ maxLen ∧ (0 < l.length → ∃ g, p = some ⟨g, 0, none⟩ ∧ ∀ i (hi : i < l.length), w.rangeAt g (i * K) (enc l[i]))

/-- the deliveries that are told, under way -/
structure UnS (w wr : World) (q m r : Nat) (l : Lk) (todo : List ByteArray) (ps : List (Un × Sl)) (v : Value) : Prop where
  rng : RangeOf wr m r (ents l.all) todo
  row : wr.ownsRow w.heap.size 52 20 v ps.length (flat encU ps)
  els : ∀ p ∈ ps, (∃ en, (p.1.tag, en) ∈ l.all ∧ p.1.st = en.own) ∧ SI wr (fun b => w.heap.size ≤ b ∧ b < wr.heap.size ∧ b ≠ r ∧ v.ownBlock ≠ some b) p.1.st p.2
  perm : ((ps.map fun p => p.1.tag) ++ todo).Perm (tagsL l.all)
  blw : Below w.heap.size w wr
  lr : w.heap.size ≤ r
  offr : v.ownBlock ≠ some r
  nil : ps = [] → v = .slice none 0 0

theorem UnS.push {w wr w1 w2 w9 : World} {q m r : Nat} {l : Lk} {todo : List ByteArray} {ps : List (Un × Sl)} {v v' : Value} {k : ByteArray} {en : Ent} {t : Sl} (h : UnS w wr q m r l todo ps v) (hk : k ∈ todo) (hm : m < w.heap.size) (he : (k, en) ∈ l.all)
    (hrg : RangeOf w1 m r (ents l.all) (todo.erase k)) (hg : wr.grownBy w1 (some r)) (hz : w1.heap.size = wr.heap.size) (hb : Below w1.heap.size w1 w2) (hs : SI w2 (fun b => w1.heap.size ≤ b ∧ b < w2.heap.size) en.own t)
    (hA : App1 w2 w9 w.heap.size 52 20 ps.length v v' (flat encU ps ++ encU (⟨k, en.own⟩, t))) : UnS w w9 q m r l (todo.erase k) (ps ++ [(⟨k, en.own⟩, t)]) v' := by
  have hgA := hA.grown
  have hwz := h.blw.size
  have hrl := h.rng.lt
  have hml := h.rng.map.lt
  have hrm := h.rng.ne
  have hz2 := hb.size
  have hz9 := hgA.size
  have hvl : ∀ j, v.ownBlock = some j → w.heap.size ≤ j ∧ j < wr.heap.size := h.row.lt
  have hown : ∀ b, b < w2.heap.size → v.ownBlock ≠ some b → v'.ownBlock ≠ some b := fun b hbl hne q => by
    rcases hA.own q with q | q
    · exact hne q
    · omega
  have hkeep : ∀ b, b < wr.heap.size → b ≠ r → v.ownBlock ≠ some b → w9.heap[b]? = wr.heap[b]? := fun b q1 q2 q3 =>
    (hgA.block b (by omega) (fun e => q3 e.symm)).trans ((hb.block b (by omega)).trans (hg.block b q1 (fun e => q2 (Option.some.inj e))))
  refine ⟨?_, ?_, fun p hp => ?_, ?_, ?_, h.lr, hown r (by omega) h.offr, fun e => by simp at e⟩
  · refine hrg.same ?_ ?_
    · exact (hgA.block m (by omega) (fun e => by have := hvl m e.symm; omega)).trans (hb.block m (by omega))
    · exact (hgA.block r (by omega) (fun e => h.offr e.symm)).trans (hb.block r (by omega))
  · rw [List.length_append, List.length_singleton, flat_snoc]
    exact hA.owns (by omega)
  · rcases List.mem_append.1 hp with hp | hp
    · refine ⟨(h.els p hp).1, ((h.els p hp).2.keep (fun b q => hkeep b q.2.1 q.2.2.1 q.2.2.2)).wide (fun b q => ⟨q.1, by omega, q.2.2.1, hown b (by omega) q.2.2.2⟩)⟩
    · obtain rfl : p = (⟨k, en.own⟩, t) := by simpa using hp
      refine ⟨⟨en, he, rfl⟩, (hs.keep (fun b q => hgA.block b q.2 (fun e => by have := (hvl b e.symm).2; omega))).wide (fun b q => ⟨by omega, by omega, by omega, fun e => ?_⟩)⟩
      rcases hA.own e with e | e
      · have := (hvl b e).2; omega
      · omega
  · rw [List.map_append, List.map_singleton, List.append_assoc]
    exact (List.Perm.append_left _ (List.perm_cons_erase hk).symm).trans h.perm
  · have h1 : Below w.heap.size w w1 := h.blw.grown hg hwz (fun j hj => by cases hj; exact h.lr)
    exact (h1.trans (hb.mono (by omega))).grown hgA (by omega) (fun j hj => (hvl j hj).1)

theorem wpList_append_twoN {P : Program} (w : World) {ops : Array Oper} {rest : List Oper} {o : Oper} {a : Act} {Q : Exit → Act → World → Prop} (hgd : o.guard = none) (d : Option Tmp) (hd : o.dst = d) (s x : Operand) (t : TypeId)
    (ho : o.op = .call { callee := .builtin .append, args := #[s, x], argTypes := #[t, t] }) (base : Nat) (e : TypeId) (i : TypeInfo) (z : Value) (size bytes : Nat) (ht : P.underlying t = some (.slice e)) (hi : P.info? e = some i) (hz : i.zero = some z)
    (hsize : i.size = size) (hby : i.bytes = bytes) (hzs : z.cells.size = size) (v : Value) (n : Nat) (xs : List Value) (hs : a.eval s = v) (hown : w.ownsRow base e size v n xs)
    (ad : Addr) (c : Nat) (news : List Value) (hx : a.eval x = .slice (some ad) 1 c) (hl : news.length = size) (hnews : ∀ j u, news[j]? = some u → w.cell? (ad.add j) = some u) (h1 : ∀ u ∈ news, u.oneCell' = true)
    (h63 : n + 1 ≤ maxLen) (hbytes : (n + 1) * bytes ≤ 140737488355328)
    (h : ∀ v' w', App1 w w' base e size n v v' (xs ++ news) → wpList P ops Q rest (a.put d v') w') : wpList P ops Q (o :: rest) a w :=
  wpList_plain hgd fun K hK => wp_append_twoN w d hd s x t ho base e i z size bytes ht hi hz hsize hby hzs v n xs hs hown ad c news hx hl hnews h1 h63 hbytes (fun v' w' hA => hK _ _ (h v' w' hA))
theorem wpList_buildU {ops : Array Oper} {rest : List Oper} {o : Oper} {a : Act} {w : World} {Q : Exit → Act → World → Prop} (hgd : o.guard = none) (d : Option Tmp) (hd : o.dst = d) (x : Operand) (ho : o.op = .buildSlice 22 1 #[(0, x)]) (k : ByteArray) (s : St) (t : Sl)
    (hx : a.eval x = .agg (ucells ⟨k, s⟩ t).toArray)
    (h : wpList Try.prog ops Q rest (a.put d (.slice (some ⟨w.heap.size, 0, none⟩) 1 1)) (w.alloc (.cells (ucells ⟨k, s⟩ t).toArray 52))) : wpList Try.prog ops Q (o :: rest) a w := by
  subst hd
  obtain ⟨i0, hi, hz0, hz1, hz2⟩ := info_parts3 info_un
  refine wpList_buildSlice hgd 22 52 1 _ ho _ i0 _ Try.underlying22 hi hz0 (by rw [hz1]; decide) (by rw [hz1]; decide) ?_ h
  rw [hz1]
  simp only [List.map_toArray, List.map_cons, List.map_nil, hx]
  kernel_rfl

/-- a delivery whose cells are cells -/
abbrev UnP := { p : Un × Sl // ∀ v ∈ encU p, v.oneCell' = true }
theorem encU_one {w : World} {p : Un × Sl} (h : SIn w p.1.st p.2) : ∀ v ∈ encU p, v.oneCell' = true := fun v hv => by
  rcases List.mem_cons.1 hv with rfl | hv
  · rfl
  · exact Array.all_eq_true_iff_forall_mem.1 (sarr_one h) v (by simpa [scells] using hv)
instance : Inhabited UnP := ⟨⟨(⟨⟨#[]⟩, zS⟩, default), encU_one (w := default) (zS_in _)⟩⟩
def encP (x : UnP) : List Value := encU x.1
theorem pmap_fst : ∀ (l : List (Un × Sl)) (h : ∀ p ∈ l, ∀ v ∈ encU p, v.oneCell' = true), ((l.pmap (fun p hp => (⟨p, hp⟩ : UnP)) h).map fun x => x.1) = l
  | [], _ => rfl
  | p :: r, h => by simp only [List.pmap, List.map_cons]; rw [pmap_fst r]
theorem flat_pmap : ∀ (l : List (Un × Sl)) (h : ∀ p ∈ l, ∀ v ∈ encU p, v.oneCell' = true), flat encP (l.pmap (fun p hp => (⟨p, hp⟩ : UnP)) h) = flat encU l
  | [], _ => rfl
  | p :: r, h => by
    have := flat_pmap r (fun q hq => h q (List.mem_cons_of_mem _ hq))
    simp only [flat, List.pmap, List.flatMap_cons] at this ⊢
    rw [this]
    rfl
/-- texts that do not fall -/
def SortT (l : List ByteArray) : Prop := ∀ i j (hi : i < l.length) (hj : j < l.length), i < j → ¬ cmpT l[j] l[i] < 0
theorem sortU_any {w : World} {B b cap : Nat} {l : List (Un × Sl)} (hone : ∀ p ∈ l, ∀ v ∈ encU p, v.oneCell' = true) (hr : w.ownsRow B 52 20 (.slice (some ⟨b, 0, none⟩) l.length cap) l.length (flat encU l)) (hl : l.length < 4611686018427387904) :
    Calls Try.prog 29 #[.slice (some ⟨b, 0, none⟩) l.length cap, .func (.func 30) #[] #[]] w fun e w' => e = .returned (.tuple #[]) ∧ ∃ l' : List (Un × Sl), l'.Perm l ∧
      SortT (l'.map fun p => p.1.tag) ∧ (∀ i (hi : i < l'.length), w'.rangeAt b (i * 20) (encU l'[i])) ∧ w.grownBy w' (some b) := by
  have eg : ∀ args w, (callFunc 30 args).run Try.prog w = .ok (.enter 30 args) w := enters_of Try.func30 (by kernel_rfl) rfl
  have hlen : (l.pmap (fun p hp => (⟨p, hp⟩ : UnP)) hone).length = l.length := by simp
  have h1 := sort_rows Try.sortU (enc := encP) (K := 20) (fun x => encU_len x.1) (by decide) (fun x v hv => x.2 v hv) (fun x => x.1.1.tag) Try.isAgg52 Try.sizeOf52 30 eg 52 (fun x y W => ordU_any x.1 y.1 W) (w := w) (B := B) (e := 52) (b := b) (cap := cap) (l := l.pmap (fun p hp => (⟨p, hp⟩ : UnP)) hone) (by rw [hlen, flat_pmap]; exact hr) (by rw [hlen]; exact hl)
  rw [hlen] at h1
  change Calls Try.prog 29 _ _ _ at h1
  refine h1.mono ?_
  rintro e w' ⟨rfl, l', hp, hs, hr, hg⟩
  have hget : ∀ i (hi : i < (l'.map fun x => x.1).length), (l'.map fun x => x.1)[i] = (l'[i]'(by simpa using hi)).1 := fun i hi => by simp
  refine ⟨rfl, l'.map fun x => x.1, ?_, (fun i j hi hj hij => ?_ : SortT _), fun i hi => ?_, hg⟩
  · have := hp.map (fun x : UnP => x.1)
    rwa [pmap_fst] at this
  · have := hs i j (by simpa using hi) (by simpa using hj) hij
    simpa using this
  · rw [hget i hi]
    exact hr i (by simpa using hi)
theorem sortR_any {w : World} {B b cap : Nat} {l : List (ByteArray × Int)} (hr : w.ownsRow B 46 2 (.slice (some ⟨b, 0, none⟩) l.length cap) l.length (flat rcells l)) (hl : l.length < 4611686018427387904) :
    Calls Try.prog 25 #[.slice (some ⟨b, 0, none⟩) l.length cap, .func (.func 26) #[] #[]] w fun e w' => e = .returned (.tuple #[]) ∧ ∃ l' : List (ByteArray × Int), l'.Perm l ∧
      SortT (l'.map Prod.fst) ∧ (∀ i (hi : i < l'.length), w'.rangeAt b (i * 2) (rcells l'[i])) ∧ w.grownBy w' (some b) := by
  have eg : ∀ args w, (callFunc 26 args).run Try.prog w = .ok (.enter 26 args) w := enters_of Try.func26 (by kernel_rfl) rfl
  have h1 := sort_rows Try.sortR (enc := rcells) (K := 2) (fun x => rfl) (by decide) (fun x v hv => by simp only [rcells, List.mem_cons, List.not_mem_nil, or_false] at hv; rcases hv with rfl | rfl <;> rfl) (fun x => x.1) Try.isAgg46 Try.sizeOf46 26 eg 46 (fun x y W => ordR_any x y W) (w := w) (B := B) (e := 46) (b := b) (cap := cap) (l := l) hr hl
  change Calls Try.prog 25 _ _ _ at h1
  refine h1.mono ?_
  rintro e w' ⟨rfl, l', hp, hs, hr, hg⟩
  refine ⟨rfl, l', hp, (fun i j hi hj hij => ?_ : SortT _), hr, hg⟩
  have := hs i j (by simpa using hi) (by simpa using hj) hij
  simpa using this
end Go.Proofs.Ytcbjfakkikjbkaa
