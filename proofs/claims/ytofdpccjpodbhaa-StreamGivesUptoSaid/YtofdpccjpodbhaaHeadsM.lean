/-
  Header's answer as a row; the book that FrameHeads fills. No conditions.
-/
import Derived.Test.YtofdpccjpodbhaaBk5o
import Derived.Test.YtofdpccjpodbhaaRefHead
import Derived.Test.YtofdpccjpodbhaaTurn5
namespace Go.Proofs.Ytofdpccjpodbhaa
open Go.RowKit
set_option linter.unusedVariables false

def hdL (P : Int) : List UInt8 := if P = 0 ∨ P = 3 then headL P.toNat else []
def hdE (P : Int) : Int := if P = 0 ∨ P = 3 then 0 else 50
theorem hdL_le (P : Int) : (hdL P).length ≤ 8 := by
  unfold hdL
  split
  · exact Nat.le_refl _
  · exact Nat.zero_le _

theorem Header_row (w : World) (P : Int) :
    Calls Try.prog 21 #[.int .i64 P] w fun e w' => ∃ p k c, e = .returned (.tuple #[.slice p k c, .int .i64 (hdE P)]) ∧ Below w.heap.size w w' ∧ RowB w' w.heap.size (.slice p k c) (hdL P) := by
  unfold hdL hdE
  by_cases h : P = 0 ∨ P = 3
  · obtain ⟨q, rfl⟩ := Int.eq_ofNat_of_zero_le (show 0 ≤ P by omega)
    rw [if_pos h, if_pos h, Int.toNat_natCast]
    refine (Header_ok w q (by omega)).mono fun e w' hh => ?_
    obtain ⟨g, he, hg, hb, hk⟩ := hh
    exact ⟨_, _, _, he, hb, .inr ⟨hk.own hg rfl (by decide), g, rfl⟩⟩
  · rw [if_neg h, if_neg h]
    refine (Header_bad w P (by omega)).mono fun e w' hh => ?_
    exact ⟨none, 0, 0, hh.1, by rw [← hh.2]; exact Below.refl _ _, .inl (OwnBytes.nil _ _ _)⟩
theorem rHeader_row (w : World) (P : Int) :
    Calls Try.prog 22 #[.int .i64 P] w fun e w' => ∃ p k c, e = .returned (.tuple #[.slice p k c, .int .i64 (hdE P)]) ∧ Below w.heap.size w w' ∧ OwnBytes w' w.heap.size 5 (.slice p k c) (hdL P) := by
  unfold hdL hdE
  by_cases h : P = 0 ∨ P = 3
  · obtain ⟨q, rfl⟩ := Int.eq_ofNat_of_zero_le (show 0 ≤ P by omega)
    rw [if_pos h, if_pos h, Int.toNat_natCast]
    refine (rHeader_ok w q (by omega)).mono fun e w' hh => ?_
    obtain ⟨g, he, hg, hb, hk⟩ := hh
    exact ⟨_, _, _, he, hb, hk.own hg rfl (by decide)⟩
  · rw [if_neg h, if_neg h]
    refine (rHeader_bad w P (by omega)).mono fun e w' hh => ?_
    exact ⟨none, 0, 0, hh.1, by rw [← hh.2]; exact Below.refl _ _, OwnBytes.nil _ _ _⟩

theorem row_not_block5 {w : World} {B T T' k n b : Nat} {v : Value} {xs : List Value} {cs : Array Value} {fr : Nat × Nat} (hv : w.ownsRow B T k v n xs) (hb : w.heap[b]? = some (.cells cs T' fr)) (hT : T ≠ T') : some b ≠ v.ownBlock := by
  rcases hv.2 with ⟨rfl, _⟩ | ⟨g, cap, cur, rfl, _, hh, _⟩
  · simp [Value.ownBlock]
  · intro he
    simp only [Value.ownBlock, Option.some.injEq] at he
    subst he
    rw [hh] at hb
    simp only [Option.some.injEq, Obj.cells.injEq] at hb
    exact hT hb.2.1
theorem row_mono5 {w : World} {B B' T k n : Nat} {v : Value} {xs : List Value} (h : w.ownsRow B T k v n xs) (hb : B' ≤ B) : w.ownsRow B' T k v n xs := by
  obtain ⟨h1, h2⟩ := h
  refine ⟨h1, ?_⟩
  rcases h2 with h2 | ⟨g, cap, cur, e, hg, r⟩
  · exact .inl h2
  · exact .inr ⟨g, cap, cur, e, by omega, r⟩

/-- a book of rows: memory of the call's own from B on, its block, its list, its rows with what they read -/
structure Shelf5 (w0 wr : World) (bp B : Nat) (vl : Value) (vs : List Value) (ls : Nat → List UInt8) : Prop where
  bel : Below w0.heap.size w0 wr
  le1 : w0.heap.size ≤ bp
  le2 : bp < B
  size : B ≤ wr.heap.size
  book : Book5 wr B bp vl vs
  rows : ∀ j, j < vs.length → RowB wr B (vs.getD j default) (ls j)
  dist : Dist5 vs

theorem Book5.below {w w' : World} {B bp : Nat} {vl : Value} {vs : List Value} (h : Book5 w B bp vl vs) (hb : Below w.heap.size w w') : Book5 w' B bp vl vs := by
  have hg : w.grownBy w' none := ⟨hb.os, hb.tape, hb.output, hb.size, fun k hk _ => hb.block k hk⟩
  refine ⟨(hb.block bp h.lt).trans h.at_, h.row.kept hg ?_⟩
  cases h2 : vl.ownBlock with
  | none => exact .inl rfl
  | some g => exact .inr (fun h => by cases h)
theorem Shelf5.below {w0 wr w' : World} {bp B : Nat} {vl : Value} {vs : List Value} {ls : Nat → List UInt8} (h : Shelf5 w0 wr bp B vl vs ls) (hb : Below wr.heap.size wr w') : Shelf5 w0 w' bp B vl vs ls :=
  ⟨h.bel.trans (hb.mono h.bel.size), h.le1, h.le2, Nat.le_trans h.size hb.size, h.book.below hb, fun j hj => (h.rows j hj).of_below hb, h.dist⟩
theorem Shelf5.mono {w0 wr : World} {bp B : Nat} {vl : Value} {vs : List Value} {ls : Nat → List UInt8} (h : Shelf5 w0 wr bp B vl vs ls) (j : Nat) (hj : j < vs.length) : ∀ g, (vs.getD j default).ownBlock = some g → B ≤ g ∧ g < wr.heap.size := (h.rows j hj).lt

/-- a row that has just been made is put onto it -/
theorem Shelf5.put {w0 wr w2 w3 : World} {bp B : Nat} {vl vl' v : Value} {vs : List Value} {ls : Nat → List UInt8} {l : List UInt8} (h : Shelf5 w0 wr bp B vl vs ls) (hb : Below wr.heap.size wr w2) (hv : RowB w2 wr.heap.size v l)
    (hr : w3.ownsRow B 22 1 vl' (vs.length + 1) (vs ++ [v])) (hg : w2.grownBy w3 vl.ownBlock) : Shelf5 w0 (w3.setCell ⟨bp, 0, none⟩ vl') bp B vl' (vs ++ [v]) (fun j => if j < vs.length then ls j else l) := by
  have h2 := h.below hb
  have hbp := h2.book.lt
  have hbv : w3.heap[bp]? = some (.cells #[vl] 31 (0, 0)) := (hg.block bp hbp (row_not_block5 h2.book.row h2.book.at_ (by decide))).trans h2.book.at_
  have hB3 : Below w0.heap.size w0 w3 := h2.bel.grown hg h2.bel.size (fun k hk => Nat.le_trans h2.le1 (Nat.le_of_lt (Nat.lt_of_lt_of_le h2.le2 (h2.book.row.lt k hk).1)))
  have hset := setCell_grown w3 bp 0 vl'
  have hne : ∀ {u : Value} {r : List UInt8} {B' : Nat}, RowB w3 B' u r → u.ownBlock = none ∨ u.ownBlock ≠ some bp := fun hu => .inr (hu.not_block hbv ⟨by decide, by decide⟩)
  have hvB : RowB w2 B v l := by
    have hs := h.size
    rcases hv with hv | ⟨hv, hv2⟩
    · exact .inl ⟨row_mono5 hv.row hs⟩
    · exact .inr ⟨⟨row_mono5 hv.row hs⟩, hv2⟩
  have hv3 : RowB w3 B v l := hvB.kept hg (hvB.apart h2.book.row)
  have hlen : (vs ++ [v]).length = vs.length + 1 := by simp
  refine ⟨hB3.setCell h2.le1 _, h2.le1, h2.le2, by rw [World.size_setCell]; exact Nat.le_trans h2.size hg.size, ⟨?_, ?_⟩, fun j hj => ?_, ?_⟩
  · have := heap_setCell_same w3 bp 0 _ _ vl' hbv
    simpa using this
  · rw [hlen]
    refine hr.kept hset ?_
    cases e : vl'.ownBlock with
    | none => exact .inl rfl
    | some g' =>
      refine .inr (fun he => ?_)
      have := row_not_block5 hr hbv (by decide)
      rw [e] at this
      exact this he.symm
  · rw [hlen] at hj
    by_cases hjl : j < vs.length
    · rw [if_pos hjl, List.getD_eq_getElem?_getD, List.getElem?_append_left hjl, ← List.getD_eq_getElem?_getD]
      have hu := h2.rows j hjl
      have hu3 := hu.kept hg (hu.apart h2.book.row)
      exact hu3.kept hset (hne hu3)
    · obtain rfl : j = vs.length := by omega
      rw [if_neg (Nat.lt_irrefl _)]
      have e : (vs ++ [v]).getD vs.length default = v := by simp
      rw [e]
      exact hv3.kept hset (hne hv3)
  · have hnew : ∀ j, j < vs.length → (vs.getD j default).ownBlock = none ∨ v.ownBlock = none ∨ (vs.getD j default).ownBlock ≠ v.ownBlock := fun j hj => by
      cases e1 : (vs.getD j default).ownBlock with
      | none => exact .inl rfl
      | some g1 =>
        cases e2 : v.ownBlock with
        | none => exact .inr (.inl rfl)
        | some g2 =>
          refine .inr (.inr (fun he => ?_))
          simp only [Option.some.injEq] at he
          have x1 := (h.rows j hj).lt g1 e1
          have x2 := hv.lt g2 e2
          omega
    have hgl : ∀ j, j < vs.length → (vs ++ [v]).getD j default = vs.getD j default := fun j hj => by
      rw [List.getD_eq_getElem?_getD, List.getElem?_append_left hj, ← List.getD_eq_getElem?_getD]
    have hgv : (vs ++ [v]).getD vs.length default = v := by simp
    intro i j hi hj hij
    rw [hlen] at hi hj
    by_cases hi' : i < vs.length
    · by_cases hj' : j < vs.length
      · rw [hgl i hi', hgl j hj']; exact h.dist i j hi' hj' hij
      · obtain rfl : j = vs.length := by omega
        rw [hgl i hi', hgv]
        rcases hnew i hi' with e | e | e
        · exact .inl e
        · cases e1 : (vs.getD i default).ownBlock with
          | none => exact .inl rfl
          | some g => rw [e]; exact .inr (fun h => by cases h)
        · exact .inr e
    · obtain rfl : i = vs.length := by omega
      have hj' : j < vs.length := by omega
      rw [hgl j hj', hgv]
      rcases hnew j hj' with e | e | e
      · cases e1 : v.ownBlock with
        | none => exact .inl rfl
        | some g => rw [e]; exact .inr (fun h => by cases h)
      · exact .inl e
      · exact .inr (fun h => e h.symm)
end Go.Proofs.Ytofdpccjpodbhaa
