/-
  Lists of deliveries in memory; samePending; a range is its two parts (plain law). No conditions.
-/
import Derived.Test.YtbkimebmoafbnaaSsI
namespace Go.Proofs.Ytbkimebmoafbnaa
open Go.RowKit Go.Maps
set_option linter.unusedVariables false

/-! ### lists in memory -/
structure PndRd (W : World) (p : Option Addr) (c : Nat) (out : List Pnd) : Prop where
  cap : out.length ≤ c ∧ c ≤ maxLen
  at_ : 0 < out.length → ∃ g, p = some ⟨g, 0, none⟩
  cell : ∀ g, p = some ⟨g, 0, none⟩ → ∀ k (hk : k < out.length), W.cell? ⟨g, k * 3, none⟩ = some (.int .i64 out[k].id) ∧ W.cell? ⟨g, k * 3 + 1, none⟩ = some (.int .i64 out[k].h) ∧ W.cell? ⟨g, k * 3 + 2, none⟩ = some (.string out[k].tag)

theorem pndRow_len (l : List Pnd) : (pndRow l).length = l.length * 3 := by
  induction l with
  | nil => rfl
  | cons a t ih =>
    show ([Value.int .i64 a.id, .int .i64 a.h, .string a.tag] ++ pndRow t).length = _
    rw [List.length_append, ih]
    simp
    omega

theorem pndRow_get : ∀ (L : List Pnd) (k : Nat) (hk : k < L.length) (j : Nat), j < 3 → (pndRow L)[k * 3 + j]? = ([Value.int .i64 L[k].id, .int .i64 L[k].h, .string L[k].tag])[j]? := by
  intro L
  induction L with
  | nil => intro k hk; simp at hk
  | cons a t ih =>
    intro k hk j hj
    show ([Value.int .i64 a.id, .int .i64 a.h, .string a.tag] ++ pndRow t)[k * 3 + j]? = _
    cases k with
    | zero =>
      rw [List.getElem?_append_left (by simp; omega)]
      simp
    | succ k =>
      rw [List.getElem?_append_right (by simp; omega)]
      have := ih k (by simpa using hk) j hj
      simp only [List.getElem_cons_succ] at this ⊢
      rw [← this]
      congr 1
      simp
      omega

theorem PndRd.of_row {W : World} {B : Nat} {v : Value} {out : List Pnd} (h : W.ownsRow B 59 3 v out.length (pndRow out)) : ∃ p c, v = .slice p out.length c ∧ PndRd W p c out ∧ ∀ g, p = some ⟨g, 0, none⟩ → B ≤ g := by
  rcases h.2 with ⟨rfl, h0⟩ | ⟨g, cap, cur, rfl, hB, hb, h1, h2, _, h4⟩
  · exact ⟨none, 0, by rw [h0], ⟨by rw [h0]; exact ⟨Nat.le_refl _, Nat.zero_le _⟩, fun q => by omega, fun g q => by cases q⟩, fun g q => by cases q⟩
  · refine ⟨_, cap, rfl, ⟨⟨h1, h2⟩, fun _ => ⟨g, rfl⟩, fun g' hg k hk => ?_⟩, fun g' hg => by cases hg; exact hB⟩
    obtain rfl : g = g' := by cases hg; rfl
    have hc : ∀ j, j < 3 → W.cell? ⟨g, k * 3 + j, none⟩ = ([Value.int .i64 out[k].id, .int .i64 out[k].h, .string out[k].tag])[j]? := fun j hj => by
      rw [cell_of_row _ _ _ _ _ _ hb, ← pndRow_get out k hk j hj, ← h4, List.getElem?_take_of_lt (by omega), Array.getElem?_toList]
    exact ⟨hc 0 (by omega), hc 1 (by omega), hc 2 (by omega)⟩

theorem PndRd.below {w w' : World} {p : Option Addr} {c : Nat} {out : List Pnd} (h : PndRd w p c out) (hb : Below w.heap.size w w') : PndRd w' p c out :=
  ⟨h.cap, h.at_, fun g hg k hk => by
    obtain ⟨h1, h2, h3⟩ := h.cell g hg k hk
    exact ⟨bs_cell hb h1, bs_cell hb h2, bs_cell hb h3⟩⟩

theorem PndRd.smv {K : SK} {w w' : World} {p : Option Addr} {c : Nat} {out : List Pnd} (h : PndRd w p c out) (hb : SMv K w w') (hp : ∀ g, p = some ⟨g, 0, none⟩ → ¬ K.has g) : PndRd w' p c out :=
  ⟨h.cap, h.at_, fun g hg k hk => by
    obtain ⟨h1, h2, h3⟩ := h.cell g hg k hk
    have e := hb.block g (cell_lt' h1) (hp g hg)
    exact ⟨(World.cell?_of_block e).trans h1, (World.cell?_of_block e).trans h2, (World.cell?_of_block e).trans h3⟩⟩

set_option maxRecDepth 20000 in
set_option maxHeartbeats 4000000 in
theorem samep_any (w : World) (p p' : Option Addr) (c c' : Nat) (L : List Pnd) (n : Nat) (hn : L.length = n) (hl : PndRd w p c L) (hl' : PndRd w p' c' L) :
    Calls Try.prog 22 #[.slice p n c, .slice p' n c'] w fun e w' => e = .returned (.bool true) ∧ Below w.heap.size w w' := by
  have HL := Lib.hid hl
  have HL' := Lib.hid hl'
  have HN := Lib.hid hn
  obtain ⟨hc, hcm⟩ := hl.cap
  obtain ⟨hc', hcm'⟩ := hl'.cap
  unfold maxLen at hcm hcm'
  rw [hn] at hc hc'
  have hp := hl.at_
  have hp' := hl'.at_
  rw [hn] at hp hp'
  clear hl hl' hn
  go_enter Try.func22, Try.ntmps22
  go_wp2_with fail
  go_loopw [5] (fun i wr => ∃ (k : Nat), k ≤ n ∧ i = .int .i64 k ∧ Below w.heap.size w wr) (fun i _ => n - (intOf i).toNat)
  case atStart => exact ⟨0, Nat.zero_le _, rfl, Below.refl _ _⟩
  case round =>
    obtain ⟨k, hk, rfl, hb⟩ := hrel
    by_cases hkN : (k : Int) < n
    · have hk' : k < n := by omega
      obtain ⟨g, rfl⟩ := hp (by omega)
      obtain ⟨g', rfl⟩ := hp' (by omega)
      have hkL : k < L.length := by rw [HN.out]; exact hk'
      obtain ⟨c0, c1, c2⟩ := (HL.out.below hb).cell g rfl k hkL
      obtain ⟨e0, e1, e2⟩ := (HL'.out.below hb).cell g' rfl k hkL
      generalize L[k] = q at *
      obtain ⟨qi, qh, qt⟩ := q
      simp only at c0 c1 c2 e0 e1 e2
      have HB := Lib.hid hb
      clear hb
      go_upto_region 6 with fail
      go_quiet (fail)
      go_wp2_with fail
      go_roundw
      case rel => exact ⟨k + 1, by omega, by go_num, below_drewN HB.out _⟩
      case measure => simp [intOf]; omega
    · have HB := Lib.hid hb
      clear hb
      go_wp2_with fail
      go_ret
      exact ⟨rfl, HB.out⟩

/-! ### the plain law -/
theorem pos_eq_of_sorted {α : Type} {R : α → α → Prop} (hasym : ∀ a b, R a b → R b a → False) : ∀ (l m : List α), l.Perm m → l.Pairwise R → m.Pairwise R → l = m := by
  intro l
  induction l with
  | nil => intro m hp _ _; exact hp.symm.eq_nil.symm
  | cons a t ih =>
    intro m hp hl hm
    cases m with
    | nil => exact absurd hp.length_eq (by simp)
    | cons b u =>
      have hab : a = b := by
        have h1 : a ∈ b :: u := hp.subset (List.mem_cons_self ..)
        have h2 : b ∈ a :: t := hp.symm.subset (List.mem_cons_self ..)
        rcases List.mem_cons.1 h1 with h | h
        · exact h
        · rcases List.mem_cons.1 h2 with h' | h'
          · exact h'.symm
          · exact (hasym _ _ ((List.pairwise_cons.1 hm).1 a h) ((List.pairwise_cons.1 hl).1 b h')).elim
      subst hab
      rw [ih u hp.cons_inv (List.pairwise_cons.1 hl).2 (List.pairwise_cons.1 hm).2]

theorem FromL.one {l : List Pnd} {first many : Int} {a b : List Pnd} (h : FromL l first many a) (h' : FromL l first many b) : a = b :=
  pos_eq_of_sorted (fun x y h1 h2 => by omega) a b (h.1.trans h'.1.symm) h.2 h'.2

theorem perm_split {α : Type} {P Q R : α → Bool} : ∀ (l : List α), (∀ p ∈ l, P p = (Q p || R p)) → (∀ p ∈ l, ¬ (Q p = true ∧ R p = true)) → (l.filter P).Perm (l.filter Q ++ l.filter R) := by
  intro l
  induction l with
  | nil => intro _ _; exact List.Perm.refl _
  | cons a t ih =>
    intro h1 h2
    have := ih (fun p hp => h1 p (List.mem_cons_of_mem _ hp)) (fun p hp => h2 p (List.mem_cons_of_mem _ hp))
    have ha := h1 a (List.mem_cons_self ..)
    have hb := h2 a (List.mem_cons_self ..)
    simp only [List.filter_cons]
    cases hq : Q a <;> cases hr : R a <;> simp only [hq, hr, Bool.or_self, Bool.or_false, Bool.or_true] at ha <;> rw [ha] <;> simp only [if_true, if_false, Bool.false_eq_true]
    · exact this
    · exact (this.cons a).trans List.perm_middle.symm
    · exact this.cons a
    · exact (hb ⟨hq, hr⟩).elim

theorem FromL.mem {l : List Pnd} {first many : Int} {out : List Pnd} (h : FromL l first many out) {p : Pnd} (hp : p ∈ out) : p ∈ l ∧ 0 ≤ gapS first p.id ∧ gapS first p.id ≤ many := by
  obtain ⟨h1, h2⟩ := List.mem_filter.1 (h.1.subset hp)
  refine ⟨h1, ?_⟩
  unfold outR at h2
  simp at h2
  omega

theorem outR_not (f m x : Int) : (!outR f m x) = true ↔ 0 ≤ gapS f x ∧ gapS f x ≤ m := by
  unfold outR
  simp
/-- a range is its two parts -/
theorem range_split {l : List Pnd} {begun one two : Int} (ho : 0 ≤ one) (ho2 : one ≤ 1000000000) (ht : 0 ≤ two) (ht2 : two ≤ 1000000000) (hw : ∀ p ∈ l, Word p.id) {all left right : List Pnd}
    (ha : FromL l begun (one + 1 + two) all) (hl : FromL l begun one left) (hr : FromL l (((begun + one) % 4294967296 + 1) % 4294967296) two right) : all = left ++ right := by
  refine FromL.one ha ⟨?_, ?_⟩
  · refine List.Perm.trans (hl.1.append hr.1) (perm_split l (fun p hp => ?_) (fun p hp => ?_)).symm
    · have := hw p hp
      unfold Word at this
      rw [Bool.eq_iff_iff, Bool.or_eq_true, outR_not, outR_not, outR_not]
      unfold gapS
      omega
    · have := hw p hp
      unfold Word at this
      rw [outR_not, outR_not]
      unfold gapS
      omega
  · refine List.pairwise_append.2 ⟨hl.2, ?_, ?_⟩
    · refine List.Pairwise.imp_of_mem (fun {a b} ha' hb' h => ?_) hr.2
      have h1 := hr.mem ha'
      have h2 := hr.mem hb'
      unfold gapS at *
      omega
    · intro a ha' b hb'
      have h1 := hl.mem ha'
      have h2 := hr.mem hb'
      unfold gapS at *
      omega

theorem gap_last {begun one two : Int} (ho : 0 ≤ one) (ho2 : one ≤ 1000000000) (ht : 0 ≤ two) (ht2 : two ≤ 1000000000) : gapS begun (((begun + one) % 4294967296 + 1 + two) % 4294967296) = one + 1 + two := by unfold gapS; omega
theorem gap_mid {begun one : Int} (ho : 0 ≤ one) (ho2 : one ≤ 1000000000) : gapS begun ((begun + one) % 4294967296) = one := by unfold gapS; omega
theorem gap_next {m two : Int} (ht : 0 ≤ two) (ht2 : two ≤ 1000000000) : gapS ((m + 1) % 4294967296) ((m + 1 + two) % 4294967296) = two := by unfold gapS; omega
theorem mod_word (a : Int) : Word (a % 4294967296) := by unfold Word; omega

/-- what is left behind the first k are taken away -/
def leftBy (l all : List Pnd) (k : Nat) : List Pnd := l.filter fun p => decide (p.id ∉ (all.take k).map Pnd.id)
theorem leftBy_zero (l all : List Pnd) : leftBy l all 0 = l := by simp [leftBy]
theorem leftBy_succ (l all : List Pnd) (k : Nat) (hk : k < all.length) : (leftBy l all k).filter (fun p => decide (p.id ≠ all[k].id)) = leftBy l all (k + 1) := by
  unfold leftBy
  rw [List.filter_filter]
  refine List.filter_congr (fun p _ => ?_)
  rw [List.take_add_one, List.getElem?_eq_getElem hk, Option.toList_some, List.map_append, List.map_cons, List.map_nil]
  simp only [List.mem_append, List.mem_cons, List.not_mem_nil, or_false, not_or, Bool.decide_and]
  rw [Bool.and_comm]
theorem leftBy_word {l all : List Pnd} {k : Nat} (h : ∀ p ∈ l, Word p.id) : ∀ p ∈ leftBy l all k, Word p.id := fun p hp => h p (List.mem_filter.1 hp).1
theorem FromL.ids {l : List Pnd} {first many : Int} {out : List Pnd} (h : FromL l first many out) : (out.map Pnd.id).Nodup := by
  unfold List.Nodup
  rw [List.pairwise_map]
  exact h.2.imp (fun {a b} hab e => by rw [e] at hab; omega)
theorem leftBy_has {l all : List Pnd} {first many : Int} (h : FromL l first many all) {k : Nat} (hk : k < all.length) : all[k].id ∈ (leftBy l all k).map Pnd.id := by
  refine List.mem_map.2 ⟨all[k], List.mem_filter.2 ⟨(h.mem (List.getElem_mem hk)).1, ?_⟩, rfl⟩
  refine decide_eq_true (fun q => ?_)
  rw [List.map_take] at q
  obtain ⟨i, hi, he⟩ := List.mem_iff_getElem.1 q
  simp only [List.length_take, List.length_map] at hi
  rw [List.getElem_take, List.getElem_map] at he
  have h1 := List.pairwise_iff_getElem.1 h.ids i k (by simp; omega) (by simpa using hk) (by omega)
  simp only [List.getElem_map] at h1
  exact h1 he
theorem leftBy_all {l all : List Pnd} {first many : Int} (h : FromL l first many all) : leftBy l all all.length = l.filter fun p => outR first many p.id := by
  unfold leftBy
  rw [List.take_of_length_le (Nat.le_refl _)]
  refine List.filter_congr (fun p hp => ?_)
  by_cases hq : p.id ∈ all.map Pnd.id
  · obtain ⟨q, hq1, hq2⟩ := List.mem_map.1 hq
    have := (List.mem_filter.1 (h.1.subset hq1)).2
    rw [hq2] at this
    simp only [hq, not_true, decide_false]
    simpa using this.symm
  · have : outR first many p.id = true := by
      refine Classical.byContradiction fun hc => hq (List.mem_map.2 ⟨p, h.1.symm.subset (List.mem_filter.2 ⟨hp, by simpa using hc⟩), rfl⟩)
    rw [this]
    simpa using hq
theorem leftBy_len {l all : List Pnd} {first many : Int} (h : FromL l first many all) : (leftBy l all all.length).length + all.length = l.length := by
  rw [leftBy_all h, h.1.length_eq]
  have := perm_split (P := fun _ => true) (Q := fun p : Pnd => outR first many p.id) (R := fun p => !outR first many p.id) l (fun p _ => by simp) (fun p _ => by simp)
  have := this.length_eq
  rw [List.length_append, List.filter_eq_self.2 (fun _ _ => rfl)] at this
  exact this.symm
theorem leftBy_none {l all rest : List Pnd} {first many : Int} (h : FromL l first many all) (hr : FromL (leftBy l all all.length) first many rest) : rest = [] := by
  have := hr.1
  rw [leftBy_all h, List.filter_filter, List.filter_eq_nil_iff.2 (by intro p _; simp)] at this
  exact this.eq_nil
end Go.Proofs.Ytbkimebmoafbnaa
