/-
  What owned of the statements of layer 5 keeps, loop by loop, continued. No conditions.
  The contracts of filled and (*book).owned of the statements of layer 5: owned returns true, and changes nothing but the rows of the book. Conditions: the rows are the caller's own, each in a block of its own.
-/
import Derived.Test.YtofdpccjpodbhaaMg02
namespace Go.Proofs.Ytofdpccjpodbhaa
open Go.RowKit
set_option linter.unusedVariables false

theorem setCell_grown (w : World) (b j : Nat) (v : Value) : w.grownBy (w.setCell ⟨b, j, none⟩ v) (some b) :=
  ⟨rfl, rfl, rfl, by simp [World.setCell], fun k hk hne => by
    have : b ≠ k := fun h => hne (by rw [h])
    simp [World.setCell, Array.getElem?_modify, this]⟩

theorem RowB.bytes {w : World} {B : Nat} {v : Value} {l : List UInt8} (h : RowB w B v l) : ∃ a c, v = .slice a l.length c ∧ BytesIn w a l.length c l := by
  obtain ⟨T, h⟩ := h.own
  exact h.bytes
theorem RowB.some_ {w : World} {B : Nat} {v : Value} {l : List UInt8} (h : RowB w B v l) (hl : 0 < l.length) : ∃ g cap, v = .slice (some ⟨g, 0, none⟩) l.length cap ∧ B ≤ g ∧ g < w.heap.size ∧ l.length ≤ cap ∧ cap ≤ maxLen := by
  obtain ⟨T, h⟩ := h.own
  exact h.some_ hl
theorem RowB.cell {w : World} {B g n cap : Nat} {l : List UInt8} (h : RowB w B (.slice (some ⟨g, 0, none⟩) n cap) l) (hn : l.length = n) (j : Nat) (hj : j < n) : w.cell? ⟨g, j, none⟩ = some (.int .u8 ((l.getD j 0).toNat : Int)) := by
  obtain ⟨T, h⟩ := h.own
  exact h.cell hn j hj
theorem RowB.frozen {w : World} {B g n cap : Nat} {l : List UInt8} (h : RowB w B (.slice (some ⟨g, 0, none⟩) n cap) l) (hn : l.length = n) (j : Nat) : w.frozen? ⟨g, j, none⟩ = false := by
  obtain ⟨T, h⟩ := h.own
  exact h.frozen hn j
theorem RowB.not_block {w : World} {B b : Nat} {u : Value} {l : List UInt8} {T : Nat} {cs : Array Value} {fr : Nat × Nat} (hu : RowB w B u l) (hv : w.heap[b]? = some (.cells cs T fr)) (hT : 5 ≠ T ∧ 85 ≠ T) : u.ownBlock ≠ some b := by
  rcases hu with hu | ⟨hu, _⟩
  · exact apart_of_cells hu hv hT.1
  · exact apart_of_cells hu hv hT.2

/-- a book: its block, the row of its lists -/
structure Book5 (w : World) (B bp : Nat) (vl : Value) (vs : List Value) : Prop where
  at_ : w.heap[bp]? = some (.cells #[vl] 31 (0, 0))
  row : w.ownsRow B 22 1 vl vs.length vs
theorem Book5.cell {w : World} {B bp : Nat} {vl : Value} {vs : List Value} (h : Book5 w B bp vl vs) : w.cell? ⟨bp, 0, none⟩ = some vl := by
  simp [World.cell?, h.at_]
theorem Book5.lt {w : World} {B bp : Nat} {vl : Value} {vs : List Value} (h : Book5 w B bp vl vs) : bp < w.heap.size := (Array.getElem?_eq_some_iff.1 h.at_).1
theorem info_row5 : (Try.prog.info? 22).map (fun i => (i.zero, i.size, i.bytes)) = some (some (.slice none 0 0), 1, 24) := by kernel_rfl

/-- rows that are kept, each with its number and its length -/
def Kept5 (w : World) (B : Nat) (F : List (Value × Nat × Nat)) : Prop := ∀ u ∈ F, RowB w B u.1 (mk5 u.2.1 u.2.2)
theorem Kept5.lt {w : World} {B : Nat} {F : List (Value × Nat × Nat)} (h : Kept5 w B F) {u : Value × Nat × Nat} (hu : u ∈ F) {g : Nat} (hg : u.1.ownBlock = some g) : g < w.heap.size := ((h u hu).lt g hg).2
theorem Kept5.step {w w' : World} {B i n : Nat} {v v' : Value} {y : UInt8} {F : List (Value × Nat × Nat)} (h : Kept5 w B F) (ha : AptTo F v i n) (ho : RowB w B v (mk5 i n)) (ho' : OwnBytes w' B 5 v' (mk5 i n ++ [y]))
    (hg : w.grownBy w' v.ownBlock) (hf : Grew w w' v v') : Kept5 w' B F ∧ AptTo F v' i (n + 1) := by
  refine ⟨fun u hu => ho.grew ho' hg hf (h u hu) ?_, fun u hu => ?_⟩
  · rcases ha u hu with h1 | h1 | ⟨h1, h2⟩
    · exact .inl h1
    · exact .inr (.inl h1)
    · exact .inr (.inr (by rw [h1]; exact mk5_prefix i h2))
  · rcases hf with ⟨g, m, cap, e1, e2⟩ | ⟨g, e1, e2, _⟩
    · rcases ha u hu with h1 | h1 | ⟨h1, h2⟩
      · exact .inl h1
      · refine .inr (.inl ?_)
        rw [e2]; rw [e1] at h1; exact h1
      · exact .inr (.inr ⟨h1, by omega⟩)
    · refine .inr (.inl (fun he => ?_))
      have := h.lt hu (g := g) (by rw [he, e1])
      omega

/-- nothing but these rows has changed, and new blocks -/
structure Only5 (vs : List Value) (w w' : World) : Prop where
  os : w'.os = w.os
  tape : w'.tape = w.tape
  output : w'.output = w.output
  size : w.heap.size ≤ w'.heap.size
  block : ∀ k, k < w.heap.size → (∀ v ∈ vs, v.ownBlock ≠ some k) → w'.heap[k]? = w.heap[k]?

theorem Only5.refl (vs : List Value) (w : World) : Only5 vs w w := ⟨rfl, rfl, rfl, Nat.le_refl _, fun _ _ _ => rfl⟩
theorem Only5.drewN {vs : List Value} {w w' : World} (h : Only5 vs w w') (m : Nat) : Only5 vs w (w'.drewN m) := ⟨h.os, h.tape, h.output, h.size, h.block⟩
theorem Only5.grown {vs : List Value} {w wr w' : World} {row : Option Nat} (h : Only5 vs w wr) (hg : wr.grownBy w' row) (hr : ∀ k, row = some k → w.heap.size ≤ k ∨ ∃ v ∈ vs, v.ownBlock = some k) : Only5 vs w w' := by
  refine ⟨hg.os.trans h.os, hg.tape.trans h.tape, hg.output.trans h.output, Nat.le_trans h.size hg.size, fun k hk hn => ?_⟩
  have hs := h.size
  rw [hg.block k (by omega) (fun he => ?_)]
  · exact h.block k hk hn
  · rcases hr k he.symm with h1 | ⟨v, hv, h1⟩
    · omega
    · exact hn v hv h1
theorem Only5.below {vs : List Value} {B : Nat} {w w' : World} (h : Only5 vs w w') (hB : B ≤ w.heap.size) (hv : ∀ v ∈ vs, ∀ k, v.ownBlock = some k → B ≤ k) : Below B w w' := by
  refine ⟨h.os, h.tape, h.output, h.size, fun k hk => h.block k (by omega) (fun v hv' he => ?_)⟩
  have := hv v hv' k he
  omega

theorem Book5.only {w w' : World} {B bp : Nat} {vl : Value} {vs : List Value} (h : Book5 w B bp vl vs) (hv : ∀ v ∈ vs, ∃ l, RowB w B v l) (ho : Only5 vs w w') : Book5 w' B bp vl vs := by
  refine ⟨?_, ?_⟩
  · rw [ho.block bp h.lt (fun v hv' => by obtain ⟨l, hl⟩ := hv v hv'; exact hl.not_block h.at_ (by decide))]
    exact h.at_
  · obtain ⟨h1, h2⟩ := h.row
    refine ⟨h1, ?_⟩
    rcases h2 with h2 | ⟨g, cap, cur, e, hg, hh, r⟩
    · exact .inl h2
    · refine .inr ⟨g, cap, cur, e, hg, ?_, r⟩
      rw [ho.block g (Array.getElem?_eq_some_iff.1 hh).1 (fun v hv' => by obtain ⟨l, hl⟩ := hv v hv'; exact hl.not_block hh (by decide))]
      exact hh

/-- no two rows lie in one block -/
def Dist5 (vs : List Value) : Prop := ∀ i j, i < vs.length → j < vs.length → i ≠ j → (vs.getD i default).ownBlock = none ∨ (vs.getD i default).ownBlock ≠ (vs.getD j default).ownBlock

/-- the rows are written as far as the k-th byte of the i-th -/
def Fill5 (w : World) (B : Nat) (vs : List Value) (nn : Nat → Nat) (i k : Nat) : Prop :=
  ∀ j, j < vs.length → ∃ l : List UInt8, l.length = nn j ∧ RowB w B (vs.getD j default) l ∧ ∀ m, m < nn j → (j < i ∨ (j = i ∧ m < k)) → l.getD m 0 = UInt8.ofNat (j + 1)

theorem Fill5.next {w : World} {B : Nat} {vs : List Value} {nn : Nat → Nat} {i : Nat} (h : Fill5 w B vs nn i (nn i)) : Fill5 w B vs nn (i + 1) 0 := fun j hj => by
  obtain ⟨l, h1, h2, h3⟩ := h j hj
  refine ⟨l, h1, h2, fun m hm hc => h3 m hm ?_⟩
  rcases hc with hc | ⟨_, hc⟩
  · by_cases e : j = i
    · exact .inr ⟨e, by rw [← e]; exact hm⟩
    · exact .inl (by omega)
  · omega
theorem Fill5.done {w : World} {B : Nat} {vs : List Value} {nn : Nat → Nat} (h : Fill5 w B vs nn vs.length 0) (j : Nat) (hj : j < vs.length) : RowB w B (vs.getD j default) (mk5 j (nn j)) := by
  obtain ⟨l, h1, h2, h3⟩ := h j hj
  have : l = mk5 j (nn j) := by
    apply List.ext_getElem
    · rw [h1, mk5_length]
    · intro m h4 h5
      have := h3 m (by omega) (.inl hj)
      rw [List.getD_eq_getElem?_getD, List.getElem?_eq_getElem h4] at this
      simp only [Option.getD_some] at this
      rw [this]
      simp [mk5]
  rw [← this]; exact h2
theorem Fill5.set {w : World} {B : Nat} {vs : List Value} {nn : Nat → Nat} {i k g cap : Nat} (h : Fill5 w B vs nn i k) (hd : Dist5 vs) (hi : i < vs.length) (hk : k < nn i) (hv : vs.getD i default = .slice (some ⟨g, 0, none⟩) (nn i) cap) :
    Fill5 (w.setCell ⟨g, k, none⟩ (.int .u8 (((i + 1) % 256 : Nat) : Int))) B vs nn i (k + 1) := fun j hj => by
  have hy : (((i + 1) % 256 : Nat) : Int) = ((UInt8.ofNat (i + 1)).toNat : Int) := by simp
  obtain ⟨l, h1, h2, h3⟩ := h j hj
  by_cases e : j = i
  · subst e
    rw [hv] at h2
    refine ⟨l.set k (UInt8.ofNat (j + 1)), by rw [List.length_set, h1], ?_, fun m hm hc => ?_⟩
    · rw [hy, hv]
      exact h2.set h1 k _
    · by_cases hmk : m = k
      · subst hmk
        simp [List.getD_eq_getElem?_getD, h1, hm]
      · rw [List.getD_eq_getElem?_getD, List.getElem?_set_ne (by omega), ← List.getD_eq_getElem?_getD]
        exact h3 m hm (by omega)
  · refine ⟨l, h1, h2.kept (setCell_grown w g k _) ?_, fun m hm hc => h3 m hm (by omega)⟩
    have := hd j i hj hi e
    rw [hv] at this
    exact this

/-- the rows as a list of kept ones -/
def rows5 (vs : List Value) (nn : Nat → Nat) : List (Value × Nat × Nat) := (List.range vs.length).map fun j => (vs.getD j default, j, nn j)
theorem mem_rows5 {vs : List Value} {nn : Nat → Nat} {u : Value × Nat × Nat} (h : u ∈ rows5 vs nn) : ∃ j, j < vs.length ∧ u = (vs.getD j default, j, nn j) := by
  simp only [rows5, List.mem_map, List.mem_range] at h
  obtain ⟨j, hj, rfl⟩ := h
  exact ⟨j, hj, rfl⟩

/-- where a grown row may lie -/
def From5 (vs : List Value) (S : Nat) (v : Value) (i : Nat) : Prop := v.ownBlock = (vs.getD i default).ownBlock ∨ ∃ g, v.ownBlock = some g ∧ S ≤ g

/-- the lists that have been grown so far -/
structure GS5 (w wr : World) (B : Nat) (vs : List Value) (nn : Nat → Nat) (gv : Value) (G : List (Value × Nat × Nat)) (i : Nat) : Prop where
  only : Only5 vs w wr
  kept : Kept5 wr B (rows5 vs nn ++ G)
  row : wr.ownsRow w.heap.size 22 1 gv G.length (G.map (·.1))
  idx : ∀ t, t < G.length → (G.getD t default).2.1 = t / 24
  from_ : ∀ u ∈ G, u.2.1 ≤ i ∧ From5 vs w.heap.size u.1 u.2.1

/-- .. and the one that is being grown -/
structure GK5 (w wr : World) (B : Nat) (vs : List Value) (nn : Nat → Nat) (gv : Value) (G : List (Value × Nat × Nat)) (i n : Nat) (v : Value) : Prop extends GS5 w wr B vs nn gv G i where
  own : RowB wr B v (mk5 i n)
  apt : AptTo (rows5 vs nn ++ G) v i n
  vfrom : From5 vs w.heap.size v i

theorem GS5.start {w wr : World} {B : Nat} {vs : List Value} {nn : Nat → Nat} (ho : Only5 vs w wr) (hf : Fill5 wr B vs nn vs.length 0) : GS5 w wr B vs nn (.slice none 0 0) [] 0 :=
  ⟨ho, fun u hu => by
    rw [List.append_nil] at hu
    obtain ⟨j, hj, rfl⟩ := mem_rows5 hu
    exact hf.done j hj, World.ownsRow_nil _ _ _ _, fun t ht => absurd ht (Nat.not_lt_zero _), fun u hu => by simp at hu⟩

/-- a round begins: the i-th list, as it was taken; the grown ones are of lists ahead of it -/
theorem GS5.begin {w wr : World} {B : Nat} {vs : List Value} {nn : Nat → Nat} {gv : Value} {G : List (Value × Nat × Nat)} {i : Nat} (h : GS5 w wr B vs nn gv G i) (hG : ∀ u ∈ G, u.2.1 < i) (hi : i < vs.length) (hd : Dist5 vs)
    (hlt : ∀ j, j < vs.length → ∀ g, (vs.getD j default).ownBlock = some g → g < w.heap.size) : GK5 w wr B vs nn gv G i (nn i) (vs.getD i default) := by
  refine { h with own := ?_, apt := fun u hu => ?_, vfrom := .inl rfl }
  · exact h.kept (vs.getD i default, i, nn i) (List.mem_append_left _ (by simp only [rows5, List.mem_map, List.mem_range]; exact ⟨i, hi, rfl⟩))
  · rcases List.mem_append.1 hu with hu | hu
    · obtain ⟨j, hj, rfl⟩ := mem_rows5 hu
      by_cases e : j = i
      · exact .inr (.inr ⟨e, by subst e; exact Nat.le_refl _⟩)
      · rcases hd j i hj hi e with h1 | h1
        · exact .inl h1
        · exact .inr (.inl h1)
    · have hj := hG u hu
      rcases (h.from_ u hu).2 with h1 | ⟨g, h1, h2⟩
      · rcases hd u.2.1 i (by omega) hi (by omega) with h3 | h3
        · exact .inl (h1.trans h3)
        · exact .inr (.inl (by rw [h1]; exact h3))
      · refine .inr (.inl (fun he => ?_))
        have := hlt i hi g (by rw [← he, h1])
        omega

/-- a byte is put behind it -/
theorem GK5.put {w wr w' : World} {B : Nat} {vs : List Value} {nn : Nat → Nat} {gv v v' : Value} {G : List (Value × Nat × Nat)} {i n : Nat} (h : GK5 w wr B vs nn gv G i n v) (hi : i < vs.length)
    (ho' : OwnBytes w' B 5 v' (mk5 i n ++ [UInt8.ofNat (i + 1)])) (hg : wr.grownBy w' v.ownBlock) (hf : Grew wr w' v v') : GK5 w w' B vs nn gv G i (n + 1) v' := by
  obtain ⟨hk, ha⟩ := h.kept.step h.apt h.own ho' hg hf
  have hvm : vs.getD i default ∈ vs := by
    rw [List.getD_eq_getElem?_getD, List.getElem?_eq_getElem hi]; exact List.getElem_mem hi
  refine { only := h.only.grown hg ?_, kept := hk, row := h.row.kept hg ?_, idx := h.idx, from_ := h.from_, own := by rw [mk5_snoc]; exact .inl ho', apt := ha, vfrom := ?_ }
  · intro k hk
    rcases h.vfrom with h1 | ⟨g, h1, h2⟩
    · exact .inr ⟨_, hvm, by rw [← h1, hk]⟩
    · rw [h1] at hk
      simp only [Option.some.injEq] at hk
      exact .inl (by omega)
  · rcases h.own.apart h.row with h1 | h1
    · rw [h1]
      cases hb : gv.ownBlock with
      | none => exact .inl rfl
      | some b => exact .inr (fun h => by cases h)
    · exact .inr (fun h => h1 h.symm)
  · rcases hf with ⟨g, m, cap, e1, e2⟩ | ⟨g, e1, e2, _⟩
    · rcases h.vfrom with h1 | ⟨g', h1, h2⟩
      · refine .inl ?_
        rw [← h1, e1, e2]; rfl
      · refine .inr ⟨g', ?_, h2⟩
        rw [← h1, e1, e2]; rfl
    · exact .inr ⟨g, e1, Nat.le_trans h.only.size e2⟩

/-- .. and the list of the grown ones takes it -/
theorem GK5.note {w wr w' : World} {B : Nat} {vs : List Value} {nn : Nat → Nat} {gv gv' v : Value} {G : List (Value × Nat × Nat)} {i n : Nat} (h : GK5 w wr B vs nn gv G i n v) (hi : G.length / 24 = i)
    (hr : w'.ownsRow w.heap.size 22 1 gv' (G.length + 1) (G.map (·.1) ++ [v])) (hg : wr.grownBy w' gv.ownBlock) : GK5 w w' B vs nn gv' (G ++ [(v, i, n)]) i n v := by
  have hty : ∀ {u : Value} {l : List UInt8}, RowB wr B u l → u.ownBlock = none ∨ u.ownBlock ≠ gv.ownBlock := fun hu => hu.apart h.row
  have hk : ∀ u ∈ rows5 vs nn ++ (G ++ [(v, i, n)]), u ∈ rows5 vs nn ++ G ∨ u = (v, i, n) := fun u hu => by
    rw [← List.append_assoc] at hu
    rcases List.mem_append.1 hu with hu | hu
    · exact .inl hu
    · exact .inr (by simpa using hu)
  refine { only := h.only.grown hg ?_, kept := fun u hu => ?_, row := ?_, idx := fun t ht => ?_, from_ := fun u hu => ?_, own := h.own.kept hg (hty h.own), apt := fun u hu => ?_, vfrom := h.vfrom }
  · intro k hk
    exact .inl (h.row.lt k hk).1
  · rcases hk u hu with hu | rfl
    · exact (h.kept u hu).kept hg (hty (h.kept u hu))
    · exact h.own.kept hg (hty h.own)
  · rw [List.length_append, List.length_singleton, List.map_append]; exact hr
  · rw [List.length_append, List.length_singleton] at ht
    by_cases e : t < G.length
    · rw [List.getD_eq_getElem?_getD, List.getElem?_append_left e, ← List.getD_eq_getElem?_getD]; exact h.idx t e
    · have : t = G.length := by omega
      subst this
      simp [hi]
  · rcases List.mem_append.1 hu with hu | hu
    · exact h.from_ u hu
    · have : u = (v, i, n) := by simpa using hu
      subst this
      exact ⟨Nat.le_refl _, h.vfrom⟩
  · rcases hk u hu with hu | rfl
    · exact h.apt u hu
    · exact .inr (.inr ⟨rfl, Nat.le_refl _⟩)
theorem GK5.next {w wr : World} {B : Nat} {vs : List Value} {nn : Nat → Nat} {gv v : Value} {G : List (Value × Nat × Nat)} {i n : Nat} (h : GK5 w wr B vs nn gv G i n v) : GS5 w wr B vs nn gv G (i + 1) :=
  { h.toGS5 with from_ := fun u hu => ⟨Nat.le_succ_of_le (h.from_ u hu).1, (h.from_ u hu).2⟩ }
theorem GS5.bytes {w wr : World} {B : Nat} {vs : List Value} {nn : Nat → Nat} {gv : Value} {G : List (Value × Nat × Nat)} {i j : Nat} (h : GS5 w wr B vs nn gv G i) (hj : j < vs.length) (m : Nat) :
    ∃ p c, vs.getD j default = .slice p (nn j) c ∧ BytesIn (wr.drewN m) p (nn j) c (mk5 j (nn j)) := by
  have := h.kept (vs.getD j default, j, nn j) (List.mem_append_left _ (by simp only [rows5, List.mem_map, List.mem_range]; exact ⟨j, hj, rfl⟩))
  obtain ⟨p, c, h1, h2⟩ := this.bytes
  rw [mk5_length] at h1 h2
  exact ⟨p, c, h1, h2.below ⟨rfl, rfl, rfl, Nat.le_refl _, fun _ _ => rfl⟩⟩
theorem GS5.item {w wr : World} {B : Nat} {vs : List Value} {nn : Nat → Nat} {gv : Value} {G : List (Value × Nat × Nat)} {i t : Nat} (h : GS5 w wr B vs nn gv G i) (ht : t < G.length) (m : Nat) :
    ∃ g c p n cc, gv = .slice (some ⟨g, 0, none⟩) G.length c ∧ (wr.drewN m).cell? ⟨g, t, none⟩ = some (.slice p n cc) ∧ BytesIn (wr.drewN m) p n cc (mk5 (t / 24) n) := by
  obtain ⟨g, c, rfl, _, _⟩ := h.row.form (by omega)
  have hm : G.getD t default ∈ G := by
    rw [List.getD_eq_getElem?_getD, List.getElem?_eq_getElem ht]; exact List.getElem_mem ht
  obtain ⟨p, cc, h1, h2⟩ := (h.kept _ (List.mem_append_right _ hm)).bytes
  rw [mk5_length] at h1 h2
  rw [h.idx t ht] at h2
  refine ⟨g, c, p, _, cc, rfl, ?_, h2.below ⟨rfl, rfl, rfl, Nat.le_refl _, fun _ _ => rfl⟩⟩
  show wr.cell? ⟨g, t, none⟩ = _
  rw [h.row.cellAt t (by omega), List.getElem?_map, ← h1, List.getD_eq_getElem?_getD, List.getElem?_eq_getElem ht]
  rfl
theorem GS5.form {w wr : World} {B : Nat} {vs : List Value} {nn : Nat → Nat} {gv : Value} {G : List (Value × Nat × Nat)} {i : Nat} (h : GS5 w wr B vs nn gv G i) : ∃ a c, gv = .slice a G.length c ∧ G.length ≤ c ∧ c ≤ 9223372036854775807 := by
  rcases h.row.2 with ⟨e1, e2⟩ | ⟨g, cap, cur, e1, _, _, e3, e4, _⟩
  · exact ⟨none, 0, by rw [e1, e2], by omega, by omega⟩
  · exact ⟨_, cap, e1, e3, by unfold maxLen at e4; omega⟩
end Go.Proofs.Ytofdpccjpodbhaa

namespace Go.Proofs.Ytofdpccjpodbhaa
open Go.RowKit
set_option linter.unusedVariables false

theorem filled_any (w : World) (a : Option Addr) (n c i : Nat) (hi : i ≤ 1152921504606846976) (h : BytesIn w a n c (mk5 i n)) :
    Calls Try.prog 41 #[.slice a n c, .int .i64 i] w fun e w' => e = .returned (.bool true) ∧ ∃ m, w' = w.drewN m := by
  have hn := h.le
  have hc := h.cap
  unfold maxLen at hc
  go_enter Try.func41, Try.ntmps41
  go_wp2_with fail
  go_loopw [5] (fun s5 wr => ∃ k m : Nat, k ≤ n ∧ s5 = .int .i64 k ∧ wr = w.drewN m) (fun s5 _ => n - (intOf s5).toNat)
  case atStart => exact ⟨0, 0, by omega, rfl, by rw [World.drewN_zero]⟩
  case round =>
    obtain ⟨k, m, hk, rfl, rfl⟩ := hrel
    by_cases hlt : k < n
    · obtain ⟨b, o, rfl, hb, hcell⟩ := h.at_ (by omega)
      have hcl := hcell k hlt
      rw [mk5_getD i n k hlt] at hcl
      have hcl' : (w.drewN m).cell? ⟨b, o + k, none⟩ = some (.int .u8 (((i + 1) % 256 : Nat) : Int)) := by
        have e : (UInt8.ofNat (i + 1)).toNat = (i + 1) % 256 := by simp
        rw [← e]; exact hcl
      clear hcl hcell
      go_wp2_with fail
      go_roundw
      case rel => exact ⟨k + 1, m, by omega, by go_num, rfl⟩
      case measure => simp [intOf]; omega
    · obtain rfl : k = n := by omega
      go_wp2_with fail
      go_ret
      exact ⟨rfl, _, rfl⟩

set_option maxHeartbeats 4000000 in
theorem owned5_any (w : World) (B bp : Nat) (vl : Value) (vs : List Value) (nn : Nat → Nat) (hbk : Book5 w B bp vl vs) (hB : B ≤ w.heap.size) (hd : Dist5 vs)
    (hv : ∀ j, j < vs.length → ∃ l : List UInt8, l.length = nn j ∧ RowB w B (vs.getD j default) l) (hN : vs.length ≤ 1000000) (hnn : ∀ j, nn j ≤ 140737488355200) :
    Calls Try.prog 17 #[.pointer (some ⟨bp, 0, none⟩)] w fun e w' => e = .returned (.bool true) ∧ Only5 vs w w' := by
  have hvm : ∀ v ∈ vs, ∃ l, RowB w B v l := fun v hv' => by
    obtain ⟨j, hj, rfl⟩ := List.mem_iff_getElem.1 hv'
    obtain ⟨l, _, h2⟩ := hv j hj
    rw [List.getD_eq_getElem?_getD, List.getElem?_eq_getElem hj] at h2
    exact ⟨l, h2⟩
  have hmem : ∀ j, j < vs.length → vs.getD j default ∈ vs := fun j hj => by
    rw [List.getD_eq_getElem?_getD, List.getElem?_eq_getElem hj]; exact List.getElem_mem hj
  have hlt : ∀ j, j < vs.length → ∀ g, (vs.getD j default).ownBlock = some g → g < w.heap.size := fun j hj g hg => by
    obtain ⟨l, _, h2⟩ := hv j hj
    exact (h2.lt g hg).2
  have hf0 : Fill5 w B vs nn 0 0 := fun j hj => by
    obtain ⟨l, h1, h2⟩ := hv j hj
    exact ⟨l, h1, h2, fun m _ hc => by omega⟩
  -- the list of the lists, in any later world
  have hbook : ∀ wr, Only5 vs w wr → Book5 wr B bp vl vs := fun wr ho => hbk.only hvm ho
  obtain ⟨la, lc, hvl, hlc⟩ : ∃ la lc, vl = .slice la vs.length lc ∧ (0 < vs.length → ∃ g, la = some ⟨g, 0, none⟩) := by
    rcases hbk.row.2 with ⟨e1, e2⟩ | ⟨g, cap, cur, e1, _⟩
    · exact ⟨none, 0, by rw [e1, e2], fun h => by omega⟩
    · exact ⟨_, cap, e1, fun _ => ⟨g, rfl⟩⟩
  subst hvl
  have hitem : ∀ wr, Only5 vs w wr → ∀ i, i < vs.length → ∀ g, la = some ⟨g, 0, none⟩ → wr.cell? ⟨g, i, none⟩ = some (vs.getD i default) := fun wr ho i hi g hg => by
    have h := (hbook wr ho).row
    subst hg
    rw [h.cellAt i (by omega), List.getD_eq_getElem?_getD, List.getElem?_eq_getElem hi]
    rfl
  obtain ⟨N, hNN⟩ : ∃ N, vs.length = N := ⟨_, rfl⟩
  rw [hNN] at hlc
  have HN := Lib.hid hNN
  have HB := Lib.hid hbook
  have HI := Lib.hid hitem
  have HF := Lib.hid hf0
  have HL := Lib.hid hlt
  have HM := Lib.hid hmem
  have HV := Lib.hid hvm
  have hN' : N ≤ 1000000 := by omega
  have hc0 := hbk.cell
  rw [hNN] at hc0
  have hcells : ∀ wr, Only5 vs w wr → wr.cell? ⟨bp, 0, none⟩ = some (.slice la N lc) := fun wr ho => by
    have := (hbook wr ho).cell
    rw [hNN] at this
    exact this
  have HC := Lib.hid hcells
  clear hcells hbook hitem hf0 hlt hmem hvm hNN hv hbk hc0
  have hn63 : lc ≤ lc := Nat.le_refl _
  go_enter Try.func17, Try.ntmps17
  go_wp2_with fail
  go_loopw [3] (fun s3 wr => ∃ i : Nat, i ≤ N ∧ s3 = .int .i64 i ∧ Only5 vs w wr ∧ Fill5 wr B vs nn i 0) (fun s3 _ => N - (intOf s3).toNat)
  case atStart => exact ⟨0, by omega, rfl, Only5.refl _ _, HF.out⟩
  case round =>
    obtain ⟨i, hi, rfl, hO, hF⟩ := hrel
    have hcb := HC.out wr hO
    by_cases hlt : i < N
    · obtain ⟨g, rfl⟩ := hlc (by omega)
      have hcell := HI.out wr hO i (by rw [HN.out]; exact hlt) g rfl
      obtain ⟨l, hll, hl, _⟩ := hF i (by rw [HN.out]; exact hlt)
      obtain ⟨p, c, hpc, hby⟩ := hl.bytes
      rw [hll] at hpc
      have hnni := hnn i
      rw [hpc] at hcell
      have hcc : nn i ≤ c ∧ c ≤ 9223372036854775807 := ⟨by have := hby.le; omega, by have := hby.cap; unfold maxLen at this; omega⟩
      obtain ⟨n, hn⟩ : ∃ n, nn i = n := ⟨_, rfl⟩
      have hpp : 0 < n → ∃ g', p = some ⟨g', 0, none⟩ := fun h0 => by
        obtain ⟨g', cap', e, _⟩ := hl.some_ (by omega)
        rw [hpc] at e
        simp only [Value.slice.injEq] at e
        exact ⟨g', e.1⟩
      rw [hn] at hpc hcell hnni hcc
      have HP := Lib.hid hpc
      have HNI := Lib.hid hn
      have hF' := Lib.hid hF
      clear hpc hn hll hl hby hF
      go_wp2_with fail
      go_loopw [4] (fun s5 wq => ∃ k : Nat, k ≤ n ∧ s5 = .int .i64 k ∧ Only5 vs w wq ∧ Fill5 wq B vs nn i k) (fun s5 _ => n - (intOf s5).toNat)
      case atStart => exact ⟨0, by omega, rfl, hO, hF'.out⟩
      case round =>
        obtain ⟨k, hk, rfl, hO2, hF2⟩ := hrel
        have hcb2 := HC.out _ hO2
        have hcell3 := HI.out _ hO2 i (by rw [HN.out]; exact hlt) g rfl
        rw [HP.out] at hcell3
        by_cases hkt : k < n
        · obtain ⟨g', rfl⟩ := hpp (by omega)
          obtain ⟨l, hll, hl, _⟩ := hF2 i (by rw [HN.out]; exact hlt)
          rw [HP.out] at hl
          rw [HNI.out] at hll
          have hcell2 := hl.cell hll k hkt
          have hfr := hl.frozen hll k
          have hset := hF2.set hd (by rw [HN.out]; exact hlt) (by rw [HNI.out]; exact hkt) (by rw [HP.out, HNI.out])
          have hgr := hO2.grown (setCell_grown wr g' k (.int .u8 (((i + 1) % 256 : Nat) : Int))) (fun k' hk' => by
            simp only [Option.some.injEq] at hk'
            exact .inr ⟨_, HM.out i (by rw [HN.out]; exact hlt), by rw [HP.out, ← hk']; rfl⟩)
          have HS := Lib.hid hset
          have HG := Lib.hid hgr
          clear hset hgr hl hll hF2
          go_wp2_with fail
          go_roundw
          case rel => exact ⟨k + 1, by omega, by go_num, HG.out, HS.out⟩
          case measure => simp [intOf]; omega
        · obtain rfl : k = n := by omega
          go_wp2_with fail
          go_roundw
          case rel => exact ⟨i + 1, by omega, by go_num, hO2, Fill5.next (by rw [HNI.out]; exact hF2)⟩
          case measure => simp [intOf]; omega
    · obtain rfl : i = N := by omega
      have hG0 := GS5.start hO (by rw [HN.out]; exact hF)
      have HG0 := Lib.hid hG0
      clear hG0 hF HF
      go_wp2_with fail
      go_loopw [5, 6] (fun s6 s7 wr => ∃ (j : Nat) (G : List (Value × Nat × Nat)), j ≤ i ∧ s7 = .int .i64 j ∧ GS5 w wr B vs nn s6 G j ∧ G.length = 24 * j ∧ ∀ u ∈ G, u.2.1 < j) (fun _ s7 _ => i - (intOf s7).toNat)
      case atStart => exact ⟨0, [], by omega, rfl, HG0.out, rfl, fun u hu => by simp at hu⟩
      case round =>
        obtain ⟨j, G, hj, rfl, hG, hGl, hGi⟩ := hrel
        have hcb := HC.out wr hG.only
        by_cases hjt : j < i
        · obtain ⟨g, rfl⟩ := hlc (by omega)
          have hcell := HI.out wr hG.only j (by rw [HN.out]; exact hjt) g rfl
          have hK := hG.begin hGi (by rw [HN.out]; exact hjt) hd HL.out
          have hnni := hnn j
          obtain ⟨n, hn⟩ : ∃ n, nn j = n := ⟨_, rfl⟩
          rw [hn] at hnni hK
          obtain ⟨v0, hv0⟩ : ∃ v0, vs.getD j default = v0 := ⟨_, rfl⟩
          rw [hv0] at hcell hK
          have HK := Lib.hid hK
          clear hn hv0 hK hG hGi
          go_wp2_with fail
          go_loopw [5, 7, 8] (fun s6 s8 s9 wq => ∃ (k : Nat) (G : List (Value × Nat × Nat)), k ≤ 24 ∧ s9 = .int .i64 k ∧ GK5 w wq B vs nn s6 G j (n + k) s8 ∧ G.length = 24 * j + k) (fun _ _ s9 _ => 24 - (intOf s9).toNat)
          case atStart => exact ⟨0, G, by omega, rfl, HK.out, hGl⟩
          case round =>
            obtain ⟨k, G, hk, rfl, hK, hGl⟩ := hrel
            by_cases hkt : k < 24
            · obtain ⟨m, hm⟩ : ∃ m, n + k = m := ⟨_, rfl⟩
              have hmb : m ≤ 140737488355224 := by omega
              rw [hm] at hK
              obtain ⟨p, c, hpc, _⟩ := hK.own.bytes
              rw [mk5_length] at hpc
              subst hpc
              have hown := hK.own
              have HM2 := Lib.hid hm
              have hBq : B ≤ wr.heap.size := Nat.le_trans hB hK.only.size
              clear hm
              go_wp2_with (at_builtin; refine wpList_append_rowB rfl (.tmp 66) (.tmp 70) 22 rfl B Try.underlying22 info_u8 _ (mk5 j m) (UInt8.ofNat (j + 1)) _ rfl rfl ?hyv hown ?hlen ?hbase ?_)
              case hyv => simp
              case hlen => rw [mk5_length]; omega
              case hbase => exact hBq
              intro v' w' ho' hg' hf'
              have ho2 : OwnBytes w' B 5 v' (mk5 j m ++ [UInt8.ofNat (j + 1)]) := by simpa using ho'
              have hP := hK.put (by rw [HN.out]; exact hjt) ho2 hg' hf'
              obtain ⟨g2, c2, hv2, _⟩ := ho'.some_ (by simp)
              rw [List.length_append, mk5_length, List.length_singleton] at hv2
              subst hv2
              have hSz : w.heap.size ≤ w'.heap.size := hP.only.size
              have hrw := hP.row
              have HP := Lib.hid hP
              clear hK hown ho' ho2 hg' hf' hP
              go_wp2_with (at_builtin; refine wpList_append_val rfl (.tmp 72) (.tmp 74) 29 rfl w.heap.size 22 (.slice none 0 0) 24 Try.underlying29 info_row5 rfl _ _ _ (.slice (some ⟨g2, 0, none⟩) (m + 1) c2) rfl rfl rfl hrw ?h63 ?hbytes hSz ?_)
              case h63 => unfold maxLen; omega
              case hbytes => omega
              intro gv' w2 hr2 hg2 _ _
              rw [← hGl] at hr2
              have hQ := HP.out.note (by omega) hr2 hg2
              have HQ := Lib.hid hQ
              clear hQ hr2 hg2
              go_wp2_with fail
              go_roundw
              case rel => exact ⟨k + 1, _, by omega, by go_num, by rw [← Nat.add_assoc, HM2.out]; exact HQ.out, by rw [List.length_append, List.length_singleton]; omega⟩
              case measure => simp [intOf]; omega
            · obtain rfl : k = 24 := by omega
              go_wp2_with fail
              go_roundw
              case rel => exact ⟨j + 1, G, by omega, by go_num, hK.next, by omega, fun u hu => by have := (hK.from_ u hu).1; omega⟩
              case measure => simp [intOf]; omega
        · obtain rfl : j = i := by omega
          have HG := Lib.hid hG
          have hON := hG.only
          obtain ⟨ga, gc, hgv, hgc1, hgc2⟩ := hG.form
          obtain ⟨q, hq⟩ : ∃ q, G.length = q := ⟨_, rfl⟩
          rw [hq] at hgv hgc1 hGl
          have HQ := Lib.hid hq
          have HGV := Lib.hid hgv
          subst hgv
          clear hG hGi hq HG0
          go_wp2_with fail
          go_loopw [9] (fun s10 wq => ∃ (t m : Nat), t ≤ j ∧ s10 = .int .i64 t ∧ wq = wr.drewN m) (fun s10 _ => j - (intOf s10).toNat)
          case atStart => exact ⟨0, 0, by omega, rfl, by rw [World.drewN_zero]⟩
          case round =>
            obtain ⟨t, m, ht, rfl, rfl⟩ := hrel
            have hcb2 := HC.out _ (hON.drewN m)
            by_cases htt : t < j
            · obtain ⟨g, rfl⟩ := hlc (by omega)
              have hcell := HI.out _ (hON.drewN m) t (by rw [HN.out]; exact htt) g rfl
              obtain ⟨p, c, hpc, hby⟩ := HG.out.bytes (j := t) (by rw [HN.out]; exact htt) m
              rw [hpc] at hcell
              have hmk := filled_any _ p _ c t (by omega) hby
              have HMK := Lib.hid hmk
              clear hmk hby hpc
              go_wp2_with fail
              refine HMK.out.mono ?_
              rintro e w2 ⟨rfl, m2, rfl⟩
              go_wp2_with fail
              go_roundw
              case rel => exact ⟨t + 1, _, by omega, by go_num, rfl⟩
              case measure => simp [intOf]; omega
            · obtain rfl : t = j := by omega
              have hON2 := hON.drewN m
              go_wp2_with fail
              go_loopw [11] (fun s12 wq => ∃ (s m : Nat), s ≤ q ∧ s12 = .int .i64 s ∧ wq = wr.drewN m) (fun s12 _ => q - (intOf s12).toNat)
              case atStart => exact ⟨0, m, by omega, rfl, rfl⟩
              case round =>
                obtain ⟨s, m, hs, rfl, rfl⟩ := hrel
                by_cases hst : s < q
                · obtain ⟨g', c', p, n, cc, e, hcell, hby⟩ := HG.out.item (t := s) (by rw [HQ.out]; exact hst) m
                  simp only [Value.slice.injEq] at e
                  obtain ⟨rfl, _, rfl⟩ := e
                  have hmk := filled_any _ p _ cc (s / 24) (by omega) hby
                  have HMK := Lib.hid hmk
                  clear hmk hby
                  go_wp2_with fail
                  refine HMK.out.mono ?_
                  rintro e w2 ⟨rfl, m2, rfl⟩
                  go_wp2_with fail
                  go_roundw
                  case rel => exact ⟨s + 1, _, by omega, by go_num, rfl⟩
                  case measure => simp [intOf]; omega
                · obtain rfl : s = q := by omega
                  go_wp2_with fail
                  go_ret
                  exact ⟨rfl, hON.drewN m⟩
end Go.Proofs.Ytofdpccjpodbhaa
