/-
  What FrameSeals keeps from round to round. No conditions.
-/
import Derived.Test.YtofdpccjpodbhaaSealsM
namespace Go.Proofs.Ytofdpccjpodbhaa
open Go.RowKit
set_option linter.unusedVariables false

/-- below B, but for one block, memory is as it was -/
def SameB (wE wr : World) (B bp : Nat) : Prop := ∀ k, k < B → k ≠ bp → wr.heap[k]? = wE.heap[k]?
theorem SameB.refl (w : World) (B bp : Nat) : SameB w w B bp := fun _ _ _ => rfl
theorem SameB.grown {wE wr w' : World} {B bp : Nat} {row : Option Nat} (h : SameB wE wr B bp) (hB : B ≤ wr.heap.size) (hg : wr.grownBy w' row) (hr : ∀ k, row = some k → B ≤ k ∨ k = bp) : SameB wE w' B bp := fun k hk hne => by
  rw [hg.block k (by omega) (fun he => by rcases hr k he.symm with h1 | h1 <;> omega)]
  exact h k hk hne
theorem SameB.below {wE wr w' : World} {B bp : Nat} (h : SameB wE wr B bp) (hB : B ≤ wr.heap.size) (hb : Below wr.heap.size wr w') : SameB wE w' B bp := fun k hk hne => by
  rw [hb.block k (by omega)]
  exact h k hk hne
theorem SameB.setCell {wE wr : World} {B bp j : Nat} {v : Value} (h : SameB wE wr B bp) (hB : B ≤ wr.heap.size) : SameB wE (wr.setCell ⟨bp, j, none⟩ v) B bp :=
  h.grown hB (setCell_grown wr bp j v) (fun k hk => .inr (by simpa using hk.symm))

theorem Shelf5.kept {w0 wr w' : World} {bp B : Nat} {vl : Value} {vs : List Value} {ls : Nat → List UInt8} {row : Option Nat} (h : Shelf5 w0 wr bp B vl vs ls) (hg : wr.grownBy w' row) (hbel : ∀ k, row = some k → w0.heap.size ≤ k)
    (h1 : some bp ≠ row) (h2 : vl.ownBlock = none ∨ vl.ownBlock ≠ row) (h3 : ∀ j, j < vs.length → (vs.getD j default).ownBlock = none ∨ (vs.getD j default).ownBlock ≠ row) : Shelf5 w0 w' bp B vl vs ls :=
  ⟨h.bel.grown hg h.bel.size hbel, h.le1, h.le2, Nat.le_trans h.size hg.size, ⟨(hg.block bp h.book.lt h1).trans h.book.at_, h.book.row.kept hg h2⟩, fun j hj => (h.rows j hj).kept hg (h3 j hj), h.dist⟩

/-- another row of the call's own grows -/
theorem Shelf5.other {w0 wr w' : World} {bp B n T k : Nat} {vl vc : Value} {vs xs : List Value} {ls : Nat → List UInt8} (h : Shelf5 w0 wr bp B vl vs ls) (hc : wr.ownsRow B T k vc n xs) (hg : wr.grownBy w' vc.ownBlock)
    (hT : 31 ≠ T ∧ 22 ≠ T ∧ 5 ≠ T ∧ 85 ≠ T) : Shelf5 w0 w' bp B vl vs ls := by
  obtain ⟨t1, t2, t3, t4⟩ := hT
  refine h.kept hg (fun k hk => Nat.le_trans h.le1 (Nat.le_of_lt (Nat.lt_of_lt_of_le h.le2 (hc.lt k hk).1))) (row_not_block5 hc h.book.at_ (fun e => t1 e.symm)) (rows_apart h.book.row hc t2) (fun j hj => ?_)
  rcases h.rows j hj with hu | ⟨hu, _⟩
  · exact rows_apart hu.row hc t3
  · exact rows_apart hu.row hc t4

def FrIn.out (f : FrIn) : List UInt8 := sealS f.T f.C f.ext f.body
def askS (f g t : FrIn) (j : Nat) : FrIn := [f, g, f, f, t].getD j f
/-- the answer's numbers, as far as they go -/
def codeL (f g t : FrIn) (i : Nat) : List Value := (List.range i).map fun j => .int .i64 (askS f g t j).err
theorem codeL_snoc (f g t : FrIn) (i : Nat) : codeL f g t (i + 1) = codeL f g t i ++ [.int .i64 (askS f g t i).err] := by
  simp [codeL, List.range_succ]
theorem codeL_length (f g t : FrIn) (i : Nat) : (codeL f g t i).length = i := by simp [codeL]
end Go.Proofs.Ytofdpccjpodbhaa
