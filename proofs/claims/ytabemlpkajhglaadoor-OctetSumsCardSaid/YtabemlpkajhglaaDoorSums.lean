/-
  The walk of OctetSums: it returns true. Conditions: the parts lie in memory, each of at most 2^47 bytes, the list takes at most 2^47 bytes; the decoder's tables stand.
-/
import Derived.Test.YtabemlpkajhglaaDoorJoined
import Derived.Test.YtabemlpkajhglaaDoorMem
import Derived.Test.YtabemlpkajhglaaDoorCrcRef
namespace Go.Proofs.YtabemlpkajhglaaDoor
open Go.RowKit
set_option linter.unusedVariables false

def pV (g : Nat) (l : List UInt8) : Value := .slice (some ⟨g, 0, none⟩) l.length (l.length + 2)
def qV (g : Nat) (l : List UInt8) : Value := .slice (some ⟨g, 0, none⟩) (l.length + 2) (l.length + 2)

/-- two rows of the call's own do not share their block -/
def Apart (v u : Value) : Prop := v.ownBlock = none ∨ u.ownBlock = none ∨ v.ownBlock ≠ u.ownBlock

/-- so many parts have been lent: their blocks gs, both lists of them -/
structure Lents (wr : World) (B : Nat) (L : List (List UInt8)) (k : Nat) (vl va : Value) (gs : List Nat) : Prop where
  glen : gs.length = k
  kle : k ≤ L.length
  rl : wr.ownsRow B 24 1 vl k (List.zipWith pV gs (L.take k))
  ra : wr.ownsRow B 24 1 va k (List.zipWith qV gs (L.take k))
  blk : ∀ j, j < k → Blk wr (gs.getD j 0) 5 (L.getD j [] ++ [71, 72]) ∧ B ≤ gs.getD j 0 ∧ vl.ownBlock ≠ some (gs.getD j 0) ∧ va.ownBlock ≠ some (gs.getD j 0)
  ap : Apart vl va

theorem Lents.start (w : World) (B : Nat) (L : List (List UInt8)) : Lents w B L 0 (.slice none 0 0) (.slice none 0 0) [] :=
  ⟨rfl, Nat.zero_le _, World.ownsRow_nil _ _ _ _, World.ownsRow_nil _ _ _ _, fun j hj => absurd hj (Nat.not_lt_zero _), .inl rfl⟩

theorem Lents.below {w w' : World} {B k : Nat} {L : List (List UInt8)} {vl va : Value} {gs : List Nat} (h : Lents w B L k vl va gs) (hb : Below w.heap.size w w') : Lents w' B L k vl va gs := by
  have hk : ∀ {v : Value} {xs : List Value}, w.ownsRow B 24 1 v k xs → w'.ownsRow B 24 1 v k xs := fun {v xs} h => by
    obtain ⟨h1, h2⟩ := h
    refine ⟨h1, ?_⟩
    rcases h2 with h2 | ⟨g, cap, cur, e, hg, hh, r⟩
    · exact .inl h2
    · exact .inr ⟨g, cap, cur, e, hg, by rw [hb.block g (Array.getElem?_eq_some_iff.1 hh).1]; exact hh, r⟩
  exact ⟨h.glen, h.kle, hk h.rl, hk h.ra, fun j hj => by obtain ⟨b1, b2⟩ := h.blk j hj; exact ⟨b1.below hb, b2⟩, h.ap⟩

theorem zip_snoc (f : Nat → List UInt8 → Value) (gs : List Nat) (L : List (List UInt8)) (k G : Nat) (hg : gs.length = k) (hk : k < L.length) :
    List.zipWith f (gs ++ [G]) (L.take (k + 1)) = List.zipWith f gs (L.take k) ++ [f G (L.getD k [])] := by
  rw [List.take_succ_eq_append_getElem hk, List.zipWith_append (by rw [List.length_take]; omega)]
  simp [List.getD_eq_getElem?_getD, hk]
theorem getD_snoc_lt (gs : List Nat) (G j : Nat) (h : j < gs.length) : (gs ++ [G]).getD j 0 = gs.getD j 0 := by
  simp [List.getD_eq_getElem?_getD, List.getElem?_append_left h]
theorem getD_snoc_eq (gs : List Nat) (G : Nat) : (gs ++ [G]).getD gs.length 0 = G := by simp

/-- a round: one part more has been lent (block G), and both lists have been appended to -/
theorem Lents.step {w w2 w3 w4 : World} {B k G : Nat} {L : List (List UInt8)} {vl va vl' va' : Value} {gs : List Nat} (h : Lents w B L k vl va gs) (hk : k < L.length)
    (hG : G = w.heap.size) (hBw : B ≤ w.heap.size) (hb2 : Below w.heap.size w w2) (hG2 : Blk w2 G 5 (L.getD k [] ++ [71, 72]))
    (r3 : w3.ownsRow B 24 1 vl' (k + 1) (List.zipWith pV gs (L.take k) ++ [pV G (L.getD k [])])) (g3 : w2.grownBy w3 vl.ownBlock) (n3 : SameOrNew w2 vl vl')
    (r4 : w4.ownsRow B 24 1 va' (k + 1) (List.zipWith qV gs (L.take k) ++ [qV G (L.getD k [])])) (g4 : w3.grownBy w4 va.ownBlock) (n4 : SameOrNew w3 va va') :
    Lents w4 B L (k + 1) vl' va' (gs ++ [G]) := by
  have hlt : ∀ b, vl.ownBlock = some b → b < w.heap.size := fun b hb => (h.rl.lt b hb).2
  have hat : ∀ b, va.ownBlock = some b → b < w.heap.size := fun b hb => (h.ra.lt b hb).2
  have s2 := hb2.size
  have sG := hG2.lt
  have s3 := g3.size
  have s4 := g4.size
  have b34 : ∀ b l', Blk w2 b 5 l' → vl.ownBlock ≠ some b → va.ownBlock ≠ some b → Blk w4 b 5 l' := fun b l' hb h1 h2 => by
    have e3 : Blk w3 b 5 l' := hb.of_block (g3.block b hb.lt (fun e => h1 e.symm))
    exact e3.of_block (g4.block b e3.lt (fun e => h2 e.symm))
  have ap3 : vl'.ownBlock = none ∨ vl'.ownBlock ≠ va.ownBlock := by
    rcases n3 with e | ⟨g, e, hg⟩
    · rw [e]
      rcases h.ap with a1 | a1 | a1
      · exact .inl a1
      · cases hv : vl.ownBlock with
        | none => exact .inl rfl
        | some b => exact .inr (by rw [a1]; exact fun h => by cases h)
      · exact .inr a1
    · refine .inr (fun he => ?_)
      have := hat g (by rw [← he, e])
      omega
  refine ⟨by simp [h.glen], hk, ?_, by rw [zip_snoc _ _ _ _ _ h.glen hk]; exact r4, fun j hj => ?_, ?_⟩
  · rw [zip_snoc _ _ _ _ _ h.glen hk]
    exact r3.kept g4 ap3
  · by_cases hj' : j < k
    · rw [getD_snoc_lt _ _ _ (by rw [h.glen]; exact hj')]
      obtain ⟨b1, b2, b3, b4⟩ := h.blk j hj'
      refine ⟨b34 _ _ (b1.below hb2) b3 b4, b2, ?_, ?_⟩
      · rcases n3 with e | ⟨g, e, hg⟩
        · rw [e]; exact b3
        · rw [e]; intro he; have := b1.lt; simp only [Option.some.injEq] at he; omega
      · rcases n4 with e | ⟨g, e, hg⟩
        · rw [e]; exact b4
        · rw [e]; intro he; have := b1.lt; simp only [Option.some.injEq] at he; omega
    · obtain rfl : j = k := by omega
      have e : (gs ++ [G]).getD j 0 = G := by rw [← h.glen]; exact getD_snoc_eq gs G
      rw [e]
      have hvl : vl.ownBlock ≠ some G := fun he => by have := hlt G he; omega
      have hva : va.ownBlock ≠ some G := fun he => by have := hat G he; omega
      refine ⟨b34 _ _ hG2 hvl hva, by omega, ?_, ?_⟩
      · rcases n3 with e | ⟨g, e, hg⟩
        · rw [e]; exact hvl
        · rw [e]; intro he; simp only [Option.some.injEq] at he; omega
      · rcases n4 with e | ⟨g, e, hg⟩
        · rw [e]; exact hva
        · rw [e]; intro he; simp only [Option.some.injEq] at he; omega
  · rcases n4 with e | ⟨g, e, hg⟩
    · unfold Apart
      rw [e]
      rcases ap3 with a | a
      · exact .inl a
      · exact .inr (.inr a)
    · refine .inr (.inr (fun he => ?_))
      have := (r3.lt g (by rw [he, e])).2
      omega

theorem Lents.cast {w : World} {B k : Nat} {L : List (List UInt8)} {vl va : Value} {gs : List Nat} (h : Lents w B L k vl va gs) (e : L.length = k) : Lents w B L L.length vl va gs := by subst e; exact h

theorem Lents.vals {w : World} {B : Nat} {L : List (List UInt8)} {vl va : Value} {gs : List Nat} (h : Lents w B L L.length vl va gs) (hsz : ∀ i, i < L.length → (L.getD i []).length ≤ 140737488351232) :
    Vals w (List.zipWith pV gs (L.take L.length)) L := by
  have hg := h.glen
  rw [List.take_length]
  refine ⟨by simp [hg], fun i hi => ?_⟩
  obtain ⟨hb, _⟩ := h.blk i hi
  have := hsz i hi
  have hby := hb.bytes 0 (L.getD i []).length ((L.getD i []).length + 2) (by simp) (by omega) (by unfold maxLen; omega)
  rw [List.drop_zero, List.take_left' rfl] at hby
  refine ⟨_, _, ?_, hby⟩
  rw [List.getElem?_zipWith]
  have e1 : gs[i]? = some (gs.getD i 0) := by rw [List.getD_eq_getElem?_getD, List.getElem?_eq_getElem (by omega)]; rfl
  have e2 : L[i]? = some (L.getD i []) := by rw [List.getD_eq_getElem?_getD, List.getElem?_eq_getElem hi]; rfl
  rw [e1, e2]
  rfl
theorem Lents.allcell {w : World} {B g cap k : Nat} {L : List (List UInt8)} {vl : Value} {gs : List Nat} (hk : L.length = k) (h : Lents w B L k vl (.slice (some ⟨g, 0, none⟩) k cap) gs) (i : Nat) (hi : i < k) :
    w.cell? ⟨g, i, none⟩ = some (qV (gs.getD i 0) (L.getD i [])) := by
  subst hk
  have hg := h.glen
  rw [h.ra.cellAt i (by omega), List.take_length, List.getElem?_zipWith]
  have e1 : gs[i]? = some (gs.getD i 0) := by rw [List.getD_eq_getElem?_getD, List.getElem?_eq_getElem (by omega)]; rfl
  have e2 : L[i]? = some (L.getD i []) := by rw [List.getD_eq_getElem?_getD, List.getElem?_eq_getElem hi]; rfl
  rw [e1, e2]
theorem below_drew {B : Nat} {w w' : World} (h : Below B w w') : Below B w w'.drew := ⟨h.os, h.tape, h.output, h.size, h.block⟩
theorem Lents.raShape {w : World} {B k : Nat} {L : List (List UInt8)} {vl va : Value} {gs : List Nat} (h : Lents w B L k vl va gs) : ∃ aa ac, va = .slice aa k ac ∧ k ≤ ac ∧ ac ≤ 9223372036854775807 := by
  rcases h.ra.2 with ⟨e1, e2⟩ | ⟨g, cap, cur, e1, _, _, e3, e4, _⟩
  · exact ⟨none, 0, by rw [e1, e2], by omega, by omega⟩
  · exact ⟨_, cap, e1, by omega, by unfold maxLen at e4; omega⟩
end Go.Proofs.YtabemlpkajhglaaDoor
