/-
  A table's from: the deliveries of a range, in order. Conditions: the table lies in memory, holds something; its numbers are words.
-/
import Derived.Test.YtbkimebmoafbnaaSsC
import Derived.Sort.OwnSortedInts
import Derived.Laws.AppendOwn
namespace Go.Proofs.Ytbkimebmoafbnaa
open Go.RowKit Go.Maps
set_option linter.unusedVariables false

/-- what is told -/
def FromL (l : List Pnd) (first many : Int) (out : List Pnd) : Prop := out.Perm (l.filter fun p => !outR first many p.id) ∧ out.Pairwise fun p q => gapS first p.id < gapS first q.id
def pndRow (out : List Pnd) : List Value := out.flatMap fun p => [.int .i64 p.id, .int .i64 p.h, .string p.tag]

theorem perm_map_inv {α β : Type} {f : α → β} : ∀ (ns : List β) (L : List α), ns.Perm (L.map f) → ∃ out : List α, out.Perm L ∧ out.map f = ns := by
  intro ns
  induction ns with
  | nil =>
    intro L h
    have := h.symm.eq_nil
    obtain rfl : L = [] := by simpa using this
    exact ⟨[], List.Perm.refl _, rfl⟩
  | cons n ns ih =>
    intro L h
    have hm : n ∈ L.map f := h.subset (List.mem_cons_self ..)
    obtain ⟨p, hp, rfl⟩ := List.mem_map.1 hm
    obtain ⟨s, t, rfl⟩ := List.append_of_mem hp
    rw [List.map_append, List.map_cons] at h
    have h2 := (h.trans List.perm_middle).cons_inv
    rw [← List.map_append] at h2
    obtain ⟨out, h3, h4⟩ := ih (s ++ t) h2
    exact ⟨p :: out, (h3.cons p).trans List.perm_middle.symm, by rw [List.map_cons, h4]⟩

theorem gap_inj {f a b : Int} (ha : Word a) (hb : Word b) (h : gapS f a = gapS f b) : a = b := by
  unfold gapS at h
  obtain ⟨_, _⟩ := ha
  obtain ⟨_, _⟩ := hb
  omega

def cmpG (first x y : Int) : Int := cmpZ (gapS first x) (gapS first y)
theorem ltG (first x y : Int) : Go.Proofs.ltOf (cmpG first) x y = decide (gapS first x < gapS first y) := by
  unfold Go.Proofs.ltOf cmpG cmpZ
  by_cases h1 : gapS first x < gapS first y
  · simp [h1]
  · by_cases h2 : gapS first y < gapS first x <;> simp [h1, h2]
theorem swoG (first : Int) : Go.Sort.SWO (Go.Proofs.ltOf (cmpG first)) where
  irrefl x := by rw [ltG]; simp
  trans x y z h1 h2 := by rw [ltG] at *; simp at *; omega
  ntrans x y z h1 h2 := by rw [ltG] at *; simp at *; omega

/-- the numbers that are told, as deliveries -/
theorem from_list {l : List Pnd} {first many : Int} (hw : ∀ p ∈ l, Word p.id) (hnd : (l.map Pnd.id).Nodup) {ss : List Int} (hs : ss.Perm (l.map Pnd.id)) {d : Array Int}
    (hp : Go.Sort.PermIn 0 (ss.filter fun x => !outR first many x).toArray.size (ss.filter fun x => !outR first many x).toArray d) (ho : Go.Sort.SortedIn (Go.Proofs.ltOf (cmpG first)) 0 (ss.filter fun x => !outR first many x).toArray.size d) :
    ∃ out, FromL l first many out ∧ out.map Pnd.id = d.toList := by
  have h1 : d.toList.Perm (ss.filter fun x => !outR first many x) := by
    have h2 := hp.2.2
    have h3 := hp.1
    rw [← h3] at h2
    simp only [Array.extract_size] at h2
    rw [h3] at h2
    simpa using h2
  have h2 : (ss.filter fun x => !outR first many x).Perm ((l.filter fun p => !outR first many p.id).map Pnd.id) := by
    rw [show (l.filter fun p => !outR first many p.id).map Pnd.id = (l.map Pnd.id).filter fun x => !outR first many x by rw [List.filter_map]; rfl]
    exact hs.filter _
  obtain ⟨out, h3, h4⟩ := perm_map_inv d.toList _ (h1.trans h2)
  refine ⟨out, ⟨h3, ?_⟩, h4⟩
  have hsub : ∀ p ∈ out, p ∈ l := fun p hp => (List.mem_filter.1 (h3.subset hp)).1
  have hndo : (out.map Pnd.id).Nodup := by
    rw [h4]
    exact (h1.trans h2).symm.nodup ((List.Sublist.map _ (List.filter_sublist)).nodup hnd)
  have hlen : out.length = d.size := by have := congrArg List.length h4; simpa using this
  rw [List.pairwise_iff_getElem]
  intro i j hi hj hij
  have ei : out[i].id = d[i]! := by
    have := congrArg (fun l => l[i]?) h4
    simp only [List.getElem?_map, List.getElem?_eq_getElem hi, Option.map_some, Array.getElem?_toList] at this
    rw [getElem!_pos d i (by omega)]
    rw [Array.getElem?_eq_getElem (by omega)] at this
    exact Option.some.inj this
  have ej : out[j].id = d[j]! := by
    have := congrArg (fun l => l[j]?) h4
    simp only [List.getElem?_map, List.getElem?_eq_getElem hj, Option.map_some, Array.getElem?_toList] at this
    rw [getElem!_pos d j (by omega)]
    rw [Array.getElem?_eq_getElem (by omega)] at this
    exact Option.some.inj this
  have h5 := ho i j (Nat.zero_le _) hij (by have := hp.1; omega)
  rw [ltG] at h5
  have h6 : ¬ gapS first d[j]! < gapS first d[i]! := by simpa using h5
  rw [ei, ej]
  have hne : out[i].id ≠ out[j].id := by
    have := List.pairwise_iff_getElem.1 hndo i j (by simpa using hi) (by simpa using hj) hij
    simpa using this
  have hg : gapS first d[i]! ≠ gapS first d[j]! := by
    rw [← ei, ← ej]
    exact fun e => hne (gap_inj (hw _ (hsub _ (List.getElem_mem _))) (hw _ (hsub _ (List.getElem_mem _))) e)
  omega
end Go.Proofs.Ytbkimebmoafbnaa
