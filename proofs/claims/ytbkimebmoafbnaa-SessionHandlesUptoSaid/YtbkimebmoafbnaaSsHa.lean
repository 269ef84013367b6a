/-
  SessionHandles: how a session stands in its loop (plain law), the list of what is in use. No conditions.
-/
import Derived.Test.YtbkimebmoafbnaaSsZ
import Derived.Laws.OwnMore
import Derived.Deep.OwnRows
namespace Go.Proofs.Ytbkimebmoafbnaa
open Go.RowKit Go.Maps
set_option linter.unusedVariables false

/-- how it stands ahead of round i -/
structure HOk (Q : Int) (i : Nat) (s : SS) : Prop where
  peer : s.peer = true
  hm : s.hm = 100
  rh : s.rh = Q
  keys : ∀ p ∈ s.rem, 0 ≤ p.1 ∧ p.1 < 64 ∧ p.2 = p.1 + 10
  len : s.rem.length ≤ 64
  arr : ∀ p ∈ s.arr, p.h ∈ s.rem.map Prod.fst ∧ 0 ≤ p.id ∧ p.id < i
  cnt : s.arr.length ≤ i

theorem HOk.skip {Q : Int} {i : Nat} {s : SS} (h : HOk Q i s) : HOk Q (i + 1) s :=
  ⟨h.peer, h.hm, h.rh, h.keys, h.len, fun p hp => by have := h.arr p hp; exact ⟨this.1, this.2.1, by omega⟩, by have := h.cnt; omega⟩

theorem mem_fst_filter {l : List (Int × Int)} {n x : Int} : x ∈ (l.filter fun p => decide (p.1 ≠ n)).map Prod.fst ↔ x ∈ l.map Prod.fst ∧ x ≠ n := by
  constructor
  · intro h
    obtain ⟨p, hp, rfl⟩ := List.mem_map.1 h
    obtain ⟨h1, h2⟩ := List.mem_filter.1 hp
    exact ⟨List.mem_map.2 ⟨p, h1, rfl⟩, of_decide_eq_true h2⟩
  · rintro ⟨h, hn⟩
    obtain ⟨p, hp, rfl⟩ := List.mem_map.1 h
    exact List.mem_map.2 ⟨p, List.mem_filter.2 ⟨hp, decide_eq_true hn⟩, rfl⟩

theorem HOk.free {Q : Int} {i : Nat} {s : SS} (h : HOk Q i s) (n : Int) : HOk Q (i + 1) (s.free n) :=
  ⟨h.peer, h.hm, h.rh, fun p hp => h.keys p (List.mem_filter.1 hp).1, Nat.le_trans (List.length_filter_le _ _) h.len, fun p hp => by
    obtain ⟨h1, h2⟩ := List.mem_filter.1 hp
    have := h.arr p h1
    exact ⟨mem_fst_filter.2 ⟨this.1, of_decide_eq_true h2⟩, this.2.1, by omega⟩, Nat.le_trans (List.length_filter_le _ _) (by have := h.cnt; omega)⟩

theorem free_len {l : List (Int × Int)} (hnd : (l.map Prod.fst).Nodup) {n : Int} (hn : n ∈ l.map Prod.fst) : (l.filter fun p => decide (p.1 ≠ n)).length + 1 = l.length := by
  induction l with
  | nil => simp at hn
  | cons a t ih =>
    simp only [List.map_cons, List.nodup_cons] at hnd
    by_cases e : a.1 = n
    · have ht : (t.filter fun p => decide (p.1 ≠ n)) = t := List.filter_eq_self.2 (fun p hp => decide_eq_true (fun q => hnd.1 (by rw [e, ← q]; exact List.mem_map.2 ⟨p, hp, rfl⟩)))
      rw [List.filter_cons_of_neg (by simp [e]), ht, List.length_cons]
    · rw [List.filter_cons_of_pos (by simp [e]), List.length_cons, List.length_cons, ih hnd.2 (by simpa [Ne.symm e, eq_comm, e] using hn)]

/-- a handle more, bound, with a delivery -/
def SS.more (s : SS) (k i : Nat) : SS := ((s.addH k).bind ((k : Int) + 10) k).putA ⟨i, k, tagT⟩ false
theorem more_rem {s : SS} {k : Nat} (hk : (k : Int) ∉ s.rem.map Prod.fst) : ((s.addH k).bind ((k : Int) + 10) k).rem = s.rem ++ [((k : Int), (k : Int) + 10)] := by
  show (s.rem ++ [((k : Int), (-1 : Int))]).map _ = _
  rw [List.map_append]
  congr 1
  · have : ∀ p ∈ s.rem, (if p.1 = (k : Int) then ((k : Int), (k : Int) + 10) else p) = p := fun p hp => if_neg (fun q => hk (by rw [← q]; exact List.mem_map.2 ⟨p, hp, rfl⟩))
    rw [List.map_congr_left this, List.map_id']
  · simp
theorem HOk.more {Q : Int} {i : Nat} {s : SS} (h : HOk Q i s) {k : Nat} (hk : Least s.rem k) (hl : s.rem.length < 64) : HOk Q (i + 1) (s.more k i) := by
  have hr : (s.more k i).rem = s.rem ++ [((k : Int), (k : Int) + 10)] := more_rem hk.2
  have hkl := least_le hk.1
  refine ⟨h.peer, h.hm, h.rh, ?_, ?_, ?_, ?_⟩
  · rw [hr]
    intro p hp
    rcases List.mem_append.1 hp with hp | hp
    · exact h.keys p hp
    · obtain rfl : p = ((k : Int), (k : Int) + 10) := by simpa using hp
      exact ⟨by simp, by simp; omega, rfl⟩
  · rw [hr, List.length_append, List.length_singleton]
    omega
  · rw [hr]
    show ∀ p ∈ s.arr ++ [⟨i, k, tagT⟩], _
    intro p hp
    rcases List.mem_append.1 hp with hp | hp
    · have := h.arr p hp
      exact ⟨by rw [List.map_append]; exact List.mem_append_left _ this.1, this.2.1, by omega⟩
    · obtain rfl : p = ⟨i, k, tagT⟩ := by simpa using hp
      exact ⟨by simp, by simp, by simp; omega⟩
  · show (s.arr ++ [_]).length ≤ _
    rw [List.length_append, List.length_singleton]
    have := h.cnt
    omega
theorem HOk.good {Q : Int} {i : Nat} {s : SS} (h : HOk Q i s) {k : Nat} (hk : Least s.rem k) (hl : s.rem.length < 64) : ¬ remBad (s.addH k) ((k : Int) + 10) k := by
  have hkl := least_le hk.1
  rintro (q | q | ⟨p, hp, q⟩ | q | ⟨p, hp, e, q⟩)
  · omega
  · have : (s.addH k).hm = 100 := h.hm
    omega
  · rcases List.mem_append.1 (show p ∈ s.rem ++ [((k : Int), (-1 : Int))] from hp) with hp | hp
    · have := (h.keys p hp).2.2
      exact hk.2 (List.mem_map.2 ⟨p, hp, by omega⟩)
    · obtain rfl : p = ((k : Int), (-1 : Int)) := by simpa using hp
      simp only at q
      omega
  · exact q (show (k : Int) ∈ (s.rem ++ [((k : Int), (-1 : Int))]).map Prod.fst by simp)
  · rcases List.mem_append.1 (show p ∈ s.rem ++ [((k : Int), (-1 : Int))] from hp) with hp | hp
    · exact hk.2 (List.mem_map.2 ⟨p, hp, e⟩)
    · obtain rfl : p = ((k : Int), (-1 : Int)) := by simpa using hp
      simp only at q
      omega
theorem HOk.arrive {Q : Int} {i : Nat} {s : SS} (h : HOk Q i s) {k : Nat} (hk : Least s.rem k) (hi : i ≤ 4294967295) : arriveS ((s.addH k).bind ((k : Int) + 10) k) i k tagT false = (s.more k i, 0) := by
  unfold arriveS
  rw [if_neg (fun q => q (show Word (i : Int) from ⟨by omega, by omega⟩)), if_neg (fun q => q (by rw [more_rem hk.2]; simp)), if_neg (fun q => ?_)]
  · rfl
  · obtain ⟨p, hp, e⟩ := List.mem_map.1 (show (i : Int) ∈ s.arr.map Pnd.id from q)
    have := h.arr p hp
    omega

/-- the list of what is in use -/
def UsedIn (W : World) (ub : Nat) (l : List (Int × Int)) : Prop := ∃ U, W.heap[ub]? = some (.cells U 4 (0, 0)) ∧ U.size = 65 ∧ ∀ j : Nat, j < 65 → U[j]? = some (.bool (decide ((j : Int) ∈ l.map Prod.fst)))
theorem UsedIn.cell {W : World} {ub : Nat} {l : List (Int × Int)} (h : UsedIn W ub l) {j : Nat} (hj : j < 65) : W.cell? ⟨ub, j, none⟩ = some (.bool (decide ((j : Int) ∈ l.map Prod.fst))) := by
  obtain ⟨U, h1, _, h3⟩ := h
  exact (cell_of_row _ _ j _ _ _ h1).trans (h3 j hj)
theorem UsedIn.lt {W : World} {ub : Nat} {l : List (Int × Int)} (h : UsedIn W ub l) : ub < W.heap.size := by
  obtain ⟨U, h1, _⟩ := h
  exact (Array.getElem?_eq_some_iff.1 h1).1
theorem UsedIn.fz {W : World} {ub : Nat} {l : List (Int × Int)} (h : UsedIn W ub l) (i : Nat) : W.frozen? ⟨ub, i, none⟩ = false := by
  obtain ⟨U, h1, _⟩ := h
  simp [World.frozen?, h1]
theorem UsedIn.same {W W' : World} {ub : Nat} {l : List (Int × Int)} (h : UsedIn W ub l) (e : W'.heap[ub]? = W.heap[ub]?) : UsedIn W' ub l := by
  obtain ⟨U, h1, r⟩ := h
  exact ⟨U, e.trans h1, r⟩
theorem UsedIn.set {W : World} {ub : Nat} {l l' : List (Int × Int)} (h : UsedIn W ub l) {j : Nat} (hj : j < 65) (b : Bool) (hb : b = decide ((j : Int) ∈ l'.map Prod.fst)) (ho : ∀ i : Nat, i ≠ j → ((i : Int) ∈ l'.map Prod.fst ↔ (i : Int) ∈ l.map Prod.fst)) : UsedIn (W.setCell ⟨ub, j, none⟩ (.bool b)) ub l' := by
  obtain ⟨U, h1, h2, h3⟩ := h
  refine ⟨_, heap_setCell_same W ub j _ _ (.bool b) h1, by simp [h2], fun i hi => ?_⟩
  by_cases e : i = j
  · subst e
    rw [Array.getElem?_setIfInBounds_self_of_lt (by omega), hb]
  · rw [Array.getElem?_setIfInBounds_ne (by omega), h3 i hi]
    exact congrArg (fun b => some (Value.bool b)) (decide_eq_decide.2 (ho i e).symm)
theorem info_bool : (Try.prog.info? 4).map (fun i => (i.zero, i.size, i.bytes)) = some (some (.bool false), 1, 1) := by kernel_rfl
theorem UsedIn.made (w : World) : UsedIn (w.alloc (.cells (madeCells #[.bool false] 65) 4)) w.heap.size [] := by
  refine ⟨_, _root_.Go.heap_alloc_new _ _, size_madeCells _ _, fun j hj => ?_⟩
  have h : (madeCells #[Value.bool false] 65).toList[j]? = some (.bool false) := by rw [toList_madeCells_one, List.getElem?_replicate, if_pos hj]
  rw [Array.getElem?_toList] at h
  rw [h]
  simp
end Go.Proofs.Ytbkimebmoafbnaa
