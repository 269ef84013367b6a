/-
  A map's keys: which may be; the sort of keys in memory. Conditions: the values lie in memory.
-/
import Derived.Test.YtakbgekamjpibaaDoorVk
import Derived.Test.YtakbgekamjpibaaDoorShfV
import Derived.OwnWalk
namespace Go.Proofs.YtakbgekamjpibaaDoor
open Go.RowKit
set_option linter.unusedVariables false

open Go.Sort
/-- a map's keys -/
def evens : List V → List V
  | [] => []
  | [a] => [a]
  | a :: _ :: r => a :: evens r
theorem evens_len : ∀ l : List V, (evens l).length = (l.length + 1) / 2
  | [] => rfl
  | [_] => by simp [evens]
  | a :: b :: r => by rw [evens, List.length_cons, evens_len r, List.length_cons, List.length_cons]; omega
theorem evens_get : ∀ (l : List V) (i : Nat) (h : 2 * i < l.length) (h2 : i < (evens l).length), (evens l)[i] = l[2 * i]
  | [], i, h, _ => by simp at h
  | [_], i, h, _ => by
    have : i = 0 := by simp at h; omega
    subst this
    rfl
  | a :: b :: r, 0, h, _ => rfl
  | a :: b :: r, i + 1, h, h2 => by
    have h3 : 2 * i < r.length := by simp only [List.length_cons] at h; omega
    have h4 : i < (evens r).length := by rw [evens_len]; omega
    have := evens_get r i h3 h4
    simp only [evens, List.getElem_cons_succ, this, show 2 * (i + 1) = 2 * i + 1 + 1 by omega]
theorem evens_take (l : List V) (i : Nat) (h : 2 * i < l.length) : (evens l).take (i + 1) = (evens l).take i ++ [l[2 * i]] := by
  have h2 : i < (evens l).length := by rw [evens_len]; omega
  rw [List.take_add_one, List.getElem?_eq_getElem h2, evens_get l i h h2, Option.toList_some]
noncomputable def mapOk (l : List V) : Bool := decide (l.length % 2 = 0 ∧ l.length ≤ 2048 ∧ (evens l).Nodup)

theorem VIn.parts {w : World} {v : V} {p : Option Addr} {n c : Nat} (h : VIn w v (.slice p n c)) : ∃ ss : Nat → Value, ∀ i (hi : i < v.list.length), VIn w v.list[i] (ss i) ∧ ∀ b o, p = some ⟨b, o, none⟩ → w.rangeAt b (o + i * 5) (vcells v.list[i] (ss i)) := by
  cases h with
  | mk _ _ _ ss wf hc hm ha hcell hin => exact ⟨ss, fun i hi => ⟨hin i hi, fun b o e => hcell b o e i hi⟩⟩

/-- a value with its cell, in a world -/
abbrev VP (w : World) := { p : V × Value // VIn w p.1 p.2 }
theorem vin_nil (w : World) : VIn w default (.slice none 0 0) := (VO.nil w 0 (v := default) ⟨⟨by decide, by decide⟩, ⟨by decide, by decide⟩, Nat.zero_le _, ⟨by decide, by decide⟩⟩ rfl).vin
instance (w : World) : Inhabited (VP w) := ⟨⟨(default, .slice none 0 0), vin_nil w⟩⟩
def encP {w : World} (x : VP w) : List Value := vcells x.1.1 x.1.2
def cfP {w : World} (x y : VP w) : Int := ordV x.1.1 y.1.1
theorem swoP (w : World) : SWO (ltOf (cfP (w := w))) := by
  refine ⟨fun x => ?_, fun x y z h1 h2 => ?_, fun x y z h1 h2 => ?_⟩
  · simp [ltOf, cfP, ordV_self]
  · have h1 : ordV x.1.1 y.1.1 < 0 := of_decide_eq_true h1
    have h2 : ordV y.1.1 z.1.1 < 0 := of_decide_eq_true h2
    refine decide_eq_true (show ordV x.1.1 z.1.1 < 0 from ?_)
    obtain ⟨q1, q2⟩ := ordV_tri x.1.1 y.1.1 z.1.1 (by omega) (by omega)
    have : ordV x.1.1 z.1.1 ≠ 0 := fun q => by have := q2.1 q; omega
    omega
  · have h1 : ¬ ordV x.1.1 y.1.1 < 0 := of_decide_eq_false h1
    have h2 : ¬ ordV y.1.1 z.1.1 < 0 := of_decide_eq_false h2
    refine decide_eq_false (show ¬ ordV x.1.1 z.1.1 < 0 from ?_)
    have n1 := ordV_neg x.1.1 y.1.1
    have n2 := ordV_neg y.1.1 z.1.1
    have n3 := ordV_neg x.1.1 z.1.1
    obtain ⟨q1, q2⟩ := ordV_tri z.1.1 y.1.1 x.1.1 (by omega) (by omega)
    omega
/-- a world of the sort's -/
theorem below_sort {w w1 : World} {blk m : Nat} {dk : Array (VP w)} {os : Array Obj} (hb : Below w.heap.size w w1) (hg : w.heap.size ≤ blk) : Below w.heap.size w (sortWorldK encP 5 w1 blk 0 m dk os) := by
  have hz := hb.size
  refine ⟨hb.os, hb.tape, hb.output, Nat.le_trans hz (size_sortWorldK_c _ _ _ _ _ _ _ _), fun j hj => ?_⟩
  have h1 := hb.block j hj
  rw [← h1]
  show ((w1.heap.modify blk _) ++ os)[j]? = _
  rw [Array.getElem?_append_left (by simp; omega), Array.getElem?_modify, if_neg (by omega)]
theorem cmpP {w w1 : World} {blk size : Nat} (hb : Below w.heap.size w w1) (hg : w.heap.size ≤ blk) : CmpLays Tryd.prog 22 #[] (encP (w := w)) 5 cfP blk 0 size w1 := by
  intro m os dk hs x y
  have hB := below_sort (m := m) (dk := dk) (os := os) hb hg
  refine (orderD_on x.1.1 (sortWorldK encP 5 w1 blk 0 m dk os) x.1.2 y.1.1 y.1.2 (x.2.blw hB) (y.2.blw hB)).mono ?_
  rintro e w' ⟨rfl, hbd⟩
  exact ⟨rfl, grow_of_below hbd⟩

/-- the row of keys as the sort sees it -/
def rowP (w : World) (l : List V) (ss : Nat → Value) (h : ∀ i (hi : i < l.length), VIn w l[i] (ss i)) : Array (VP w) := Array.ofFn (n := l.length) fun i => ⟨(l[i.1], ss i.1), h i.1 i.2⟩
theorem rowP_size (w : World) (l : List V) (ss : Nat → Value) (h) : (rowP w l ss h).size = l.length := by simp [rowP]
theorem rowP_get (w : World) (l : List V) (ss : Nat → Value) (h) (i : Nat) (hi : i < l.length) : ((rowP w l ss h)[i]!).1 = (l[i], ss i) := by
  rw [getElem!_pos _ i (by rw [rowP_size]; exact hi)]
  simp [rowP]
theorem holds_rowP {w w1 : World} {l : List V} {ss : Nat → Value} {h} {g cap : Nat} {B : Nat} (hr : w1.ownsRow B 25 5 (.slice (some ⟨g, 0, none⟩) l.length cap) l.length (vrow l ss)) : HoldsK encP 5 w1 g 0 (rowP w l ss h) := by
  have hcell := hr
  rcases hr.2 with hn | ⟨g', cap', cur, hv, hbg, hh, _⟩
  · simp at hn
  simp only [Value.slice.injEq, Option.some.injEq, Addr.mk.injEq] at hv
  obtain ⟨⟨rfl, _⟩, _, rfl⟩ := hv
  intro j hj
  rw [size_flatK, rowP_size] at hj
  have hj5 : j / 5 < l.length := by omega
  refine ⟨?_, by simp [World.frozen?, hh]⟩
  rw [Nat.zero_add, get_flatK _ _ _ _ (by rw [rowP_size]; exact hj)]
  have h1 := vrow_get l ss (j / 5) (j % 5) hj5 (Nat.mod_lt _ (by omega))
  have h2 := rowP_get w l ss h (j / 5) hj5
  have h3 : encP (rowP w l ss h)[j / 5]! = vcells l[j / 5] (ss (j / 5)) := by
    unfold encP
    rw [h2]
  rw [h3]
  have h4 : (vcells l[j / 5] (ss (j / 5)))[j % 5]? = some (vcells l[j / 5] (ss (j / 5)))[j % 5]! := by
    have : j % 5 < (vcells l[j / 5] (ss (j / 5))).length := by rw [vcells_len]; exact Nat.mod_lt _ (by omega)
    rw [List.getElem?_eq_getElem this, getElem!_pos (vcells l[j / 5] (ss (j / 5))) (j % 5) this]
  rw [h4] at h1
  have h5 := ownsRow_cell hcell (i := j / 5 * 5 + j % 5) h1
  rw [show j / 5 * 5 + j % 5 = j by omega] at h5
  exact h5

/-- what the sort leaves: the same keys, sorted -/
theorem sorted_keys {w : World} {l : List V} {ss : Nat → Value} {h} {d' : Array (VP w)} (hp : PermIn 0 l.length (rowP w l ss h) d') : d'.size = l.length ∧ (d'.toList.map fun x => x.1.1).Perm l := by
  obtain ⟨h1, _, h3⟩ := hp
  rw [rowP_size] at h1
  refine ⟨h1, ?_⟩
  have e1 : d'.extract 0 l.length = d' := by rw [← h1]; exact Array.extract_size
  have e2 : (rowP w l ss h).extract 0 l.length = rowP w l ss h := by
    have := Array.extract_size (xs := rowP w l ss h)
    rwa [rowP_size] at this
  rw [e1, e2] at h3
  have h4 := h3.map (fun x => x.1.1)
  have e3 : (rowP w l ss h).toList.map (fun x => x.1.1) = l := by
    apply List.ext_getElem?
    intro i
    by_cases hi : i < l.length
    · simp [rowP, hi]
    · rw [List.getElem?_eq_none (by simp [rowP]; omega), List.getElem?_eq_none (by omega)]
  rw [e3] at h4
  exact h4
/-- unlike neighbours in a sorted row: all are unlike -/
theorem nodup_sorted {ks : List V} (hs : ∀ i j (hi : i < ks.length) (hj : j < ks.length), i < j → ¬ ordV ks[j] ks[i] < 0) (hn : ∀ i (hi : i + 1 < ks.length), ordV ks[i] ks[i + 1] ≠ 0) : ks.Nodup := by
  have key : ∀ k i (hi : i < ks.length) (hj : i + k + 1 < ks.length), ordV ks[i] ks[i + k + 1] < 0 := by
    intro k
    induction k with
    | zero =>
      intro i hi hj
      have h1 := hs i (i + 1) hi hj (by omega)
      have h2 := hn i hj
      have h3 := ordV_neg ks[i] ks[i + 1]
      simp only [Nat.add_zero]
      omega
    | succ k ih =>
      intro i hi hj
      have h1 := ih i hi (by omega)
      have h2 := ih 0 (by omega) (by omega)
      have h4 := hs (i + k + 1) (i + k + 1 + 1) (by omega) (by omega) (by omega)
      have h5 := hn (i + k + 1) (by omega)
      have h6 := ordV_neg ks[i + k + 1] ks[i + k + 1 + 1]
      obtain ⟨q1, q2⟩ := ordV_tri ks[i] ks[i + k + 1] ks[i + k + 1 + 1] (by omega) (by omega)
      have : ordV ks[i] ks[i + k + 1 + 1] ≠ 0 := fun q => by have := q2.1 q; omega
      simp only [show i + (k + 1) + 1 = i + k + 1 + 1 by omega]
      omega
  rw [List.nodup_iff_pairwise_ne, List.pairwise_iff_getElem]
  intro i j hi hj hij e
  have h1 := key (j - i - 1) i hi (by omega)
  simp only [show i + (j - i - 1) + 1 = j by omega] at h1
  rw [e, ordV_self] at h1
  omega

end Go.Proofs.YtakbgekamjpibaaDoor
