/-
  Rows sorted by their first cell, a text; the two orders that are handed on. Conditions: the row lies in memory.
-/
import Derived.Test.YtcbjfakkikjbkaaKn
import Derived.Test.YtcbjfakkikjbkaaKc
import Derived.Test.YtcbjfakkikjbkaaShL
import Derived.Test.YtcbjfakkikjbkaaUo
namespace Go.Proofs.Ytcbjfakkikjbkaa
open Go.RowKit Go.Maps Go.Sort
set_option linter.all false

theorem cmpT_swo {α : Type} (key : α → ByteArray) : SWO (ltOf (fun x y : α => cmpT (key x) (key y))) := by
  refine ⟨fun x => ?_, fun x y z h1 h2 => ?_, fun x y z h1 h2 => ?_⟩
  · have : cmpT (key x) (key x) = 0 := cmpT_zero.2 rfl
    simp [ltOf, this]
  · have h1 : cmpT (key x) (key y) < 0 := of_decide_eq_true h1
    have h2 : cmpT (key y) (key z) < 0 := of_decide_eq_true h2
    refine decide_eq_true (show cmpT (key x) (key z) < 0 from ?_)
    obtain ⟨q1, q2⟩ := cmpB_tri (key x).data.toList (key y).data.toList (key z).data.toList (by unfold cmpT at h1; omega) (by unfold cmpT at h2; omega)
    unfold cmpT at *
    have : Lib.compareBytes (key x).data.toList (key z).data.toList ≠ 0 := fun q => by have := q2.1 q; omega
    omega
  · have h1 : ¬ cmpT (key x) (key y) < 0 := of_decide_eq_false h1
    have h2 : ¬ cmpT (key y) (key z) < 0 := of_decide_eq_false h2
    refine decide_eq_false (show ¬ cmpT (key x) (key z) < 0 from ?_)
    have n1 := cmpB_neg (key x).data.toList (key y).data.toList
    have n2 := cmpB_neg (key y).data.toList (key z).data.toList
    have n3 := cmpB_neg (key x).data.toList (key z).data.toList
    unfold cmpT at *
    obtain ⟨q1, q2⟩ := cmpB_tri (key z).data.toList (key y).data.toList (key x).data.toList (by omega) (by omega)
    omega

section
variable {α : Type} [Inhabited α] {enc : α → List Value} {K : Nat}
/-- rows, one behind the other -/
def flat (enc : α → List Value) (l : List α) : List Value := l.flatMap enc
theorem flat_len (hk : ∀ x, (enc x).length = K) : ∀ l : List α, (flat enc l).length = l.length * K
  | [] => by simp [flat]
  | x :: r => by
    have := flat_len hk r
    simp only [flat, List.flatMap_cons, List.length_append, List.length_cons] at this ⊢
    rw [this, hk, Nat.add_mul]
    omega
theorem flat_get (hk : ∀ x, (enc x).length = K) : ∀ (l : List α) (i j : Nat) (hi : i < l.length), j < K → (flat enc l)[i * K + j]? = (enc l[i])[j]?
  | [], i, _, hi, _ => by simp at hi
  | x :: r, i, j, hi, hj => by
    have e : flat enc (x :: r) = enc x ++ flat enc r := by simp [flat]
    rw [e]
    cases i with
    | zero => rw [List.getElem?_append_left (by rw [hk]; omega)]; simp
    | succ i =>
      rw [List.getElem?_append_right (by rw [hk, Nat.add_mul]; omega), hk, show (i + 1) * K + j - K = i * K + j by rw [Nat.add_mul]; omega]
      have := flat_get hk r i j (by simpa using hi) hj
      simpa using this
theorem flat_snoc (l : List α) (x : α) : flat enc (l ++ [x]) = flat enc l ++ enc x := by simp [flat]

theorem holds_flat (hk : ∀ x, (enc x).length = K) (hK : 0 < K) {w : World} {B e g cap : Nat} {l : List α} (hr : w.ownsRow B e K (.slice (some ⟨g, 0, none⟩) l.length cap) l.length (flat enc l)) : HoldsK enc K w g 0 l.toArray ∧ B ≤ g ∧ g < w.heap.size := by
  have hcell := hr
  rcases hr.2 with hn | ⟨g', cap', cur, hv, hbg, hh, _⟩
  · simp at hn
  simp only [Value.slice.injEq, Option.some.injEq, Addr.mk.injEq] at hv
  obtain ⟨⟨rfl, _⟩, _, rfl⟩ := hv
  refine ⟨?_, hbg, (Array.getElem?_eq_some_iff.1 hh).1⟩
  intro j hj
  rw [size_flatK] at hj
  have hjl : j / K < l.length := by
    have : l.toArray.size = l.length := by simp
    rw [this] at hj
    exact Nat.div_lt_of_lt_mul (by rw [Nat.mul_comm]; exact hj)
  refine ⟨?_, by simp [World.frozen?, hh]⟩
  rw [Nat.zero_add, get_flatK _ _ _ _ hj]
  have h1 := flat_get hk l (j / K) (j % K) hjl (Nat.mod_lt _ hK)
  have h2 : l.toArray[j / K]! = l[j / K] := by rw [getElem!_pos _ _ (by simpa using hjl)]; simp
  rw [h2]
  have h4 : (enc l[j / K])[j % K]? = some (enc l[j / K])[j % K]! := by
    have : j % K < (enc l[j / K]).length := by rw [hk]; exact Nat.mod_lt _ hK
    rw [List.getElem?_eq_getElem this, getElem!_pos (enc l[j / K]) (j % K) this]
  rw [h4] at h1
  have h5 := ownsRow_cell hcell (i := j / K * K + j % K) h1
  rw [show j / K * K + j % K = j by rw [Nat.mul_comm]; exact Nat.div_add_mod j K] at h5
  exact h5

/-- rows sorted by their texts -/
theorem sort_rows {ρ : Go.Shelf.Ren} (L : Go.Proofs.SlLaysF0.n6 Try.prog ρ) (hk : ∀ x, (enc x).length = K) (hK : 0 < K) (h1 : ∀ x, ∀ v ∈ enc x, v.oneCell' = true) (key : α → ByteArray) (aE : ∀ w, (isAgg (ρ.t 24)).run Try.prog w = .ok true w) (zE : ∀ w, (Go.sizeOf (ρ.t 24)).run Try.prog w = .ok K w)
    (g : FuncId) (eg : ∀ args w, (callFunc g args).run Try.prog w = .ok (.enter g args) w) (T : TypeId)
    (hcmp : ∀ (x y : α) (W : World), Calls Try.prog g #[.agg (enc x).toArray, .agg (enc y).toArray] W fun e w' => e = .returned (.int .i64 (cmpT (key x) (key y))) ∧ w' = (W.alloc (.cells (enc x).toArray T)).alloc (.cells (enc y).toArray T))
    {w : World} {B e b cap : Nat} {l : List α} (hr : w.ownsRow B e K (.slice (some ⟨b, 0, none⟩) l.length cap) l.length (flat enc l)) (hl : l.length < 4611686018427387904) :
    Calls Try.prog (ρ.f 6) #[.slice (some ⟨b, 0, none⟩) l.length cap, .func (.func g) #[] #[]] w fun e w' => e = .returned (.tuple #[]) ∧ ∃ l' : List α, l'.Perm l ∧ (∀ i j (hi : i < l'.length) (hj : j < l'.length), i < j → ¬ cmpT (key l'[j]) (key l'[i]) < 0) ∧
      (∀ i (hi : i < l'.length), w'.rangeAt b (i * K) (enc l'[i])) ∧ w.grownBy w' (some b) := by
  obtain ⟨hH, hBb, hbl⟩ := holds_flat hk hK hr
  have hcon := AnyQ.slices_SortFunc L K aE zE enc hk h1 (fun x y : α => cmpT (key x) (key y)) (cmpT_swo key) g #[] b 0 cap l.toArray w eg (fun m os dk hs x y => by
    refine (hcmp x y (sortWorldK enc K w b 0 m dk os)).mono ?_
    rintro e w' ⟨rfl, rfl⟩
    exact ⟨rfl, 0, #[.cells (enc x).toArray T, .cells (enc y).toArray T], by rw [alloc_eq_grow, alloc_eq_grow, grow_grow]; rfl⟩) hH hbl (by simpa using hl)
  have hsz : l.toArray.size = l.length := by simp
  rw [hsz] at hcon
  refine hcon.mono ?_
  rintro e w' ⟨rfl, d', n, os, hp, hs, rfl⟩
  obtain ⟨p1, _, p3⟩ := hp
  rw [hsz] at p1
  have e1 : d'.extract 0 l.length = d' := by rw [← p1]; exact Array.extract_size
  have e2 : l.toArray.extract 0 l.length = l.toArray := by
    have := Array.extract_size (xs := l.toArray)
    rwa [hsz] at this
  rw [e1, e2] at p3
  have hH2 := holdsK_sortWorldK_c enc K w b 0 _ d' n os hH hbl (by rw [p1, hsz])
  have hget : ∀ i (hi : i < d'.toList.length), d'.toList[i] = d'[i]! := fun i hi => by
    have hi2 : i < d'.size := by simpa using hi
    rw [getElem!_pos _ i hi2]
    simp
  refine ⟨rfl, d'.toList, p3, fun i j hi hj hij => ?_, fun i hi => ?_, ?_⟩
  · rw [hget i hi, hget j hj]
    exact of_decide_eq_false (hs i j (Nat.zero_le _) hij (by rw [Array.length_toList, p1] at hj; exact hj))
  · have hi2 : i < d'.size := by simpa using hi
    rw [hget i hi]
    intro j u hj
    have hjK : j < K := by have := (List.getElem?_eq_some_iff.1 hj).1; rwa [hk] at this
    have h3 := (hH2.cell hi2 hjK).1
    rw [Nat.zero_add] at h3
    rw [h3]
    obtain ⟨q, e⟩ := List.getElem?_eq_some_iff.1 hj
    rw [getElem!_pos (enc d'[i]!) j q, e]
  · refine ⟨rfl, rfl, rfl, size_sortWorldK_c _ _ _ _ _ _ _ _, fun j hj hne => ?_⟩
    show ((w.heap.modify b _) ++ os)[j]? = _
    rw [Array.getElem?_append_left (by simp; omega), Array.getElem?_modify, if_neg (fun q => hne (by rw [q]))]
end
end Go.Proofs.Ytcbjfakkikjbkaa
