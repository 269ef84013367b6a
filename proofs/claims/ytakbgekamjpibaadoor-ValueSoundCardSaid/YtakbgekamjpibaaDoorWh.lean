/-
  ValueSound: what holds while it runs, and how it ends. Plain lemmas over the function's frame.
-/
import Derived.Test.YtakbgekamjpibaaDoorWg
import Derived.Test.YtakbgekamjpibaaDoorWc
namespace Go.Proofs.YtakbgekamjpibaaDoor
open Go.RowKit
set_option linter.unusedVariables false

theorem setCell_grown (w : World) (b j : Nat) (v : Value) : w.grownBy (w.setCell ⟨b, j, none⟩ v) (some b) :=
  ⟨rfl, rfl, rfl, by simp [World.setCell], fun k hk hne => by
    have : b ≠ k := fun h => hne (by rw [h])
    simp [World.setCell, Array.getElem?_modify, this]⟩
theorem leaves_all {P : Program} {fn : Func} {tm : Array Value} {R : Ending → World → Prop} : ∀ (Ds : List Nat) (W : World), Ds.Nodup → (∀ D ∈ Ds, W.heap[D]? = some (.deferred (some []))) →
    (∀ W', W'.heap.size = W.heap.size → (∀ j, j ∉ Ds → W'.heap[j]? = W.heap[j]?) → W'.os = W.os → W'.tape = W.tape → W'.output = W.output → LeavesInM Fence.wide 5 P fn tm R [] .returning W') →
    LeavesInM Fence.wide 5 P fn tm R (Ds.map fun D => { target := .collected D, args := #[] }) .returning W
  | [], W, _, _, h => h W rfl (fun _ _ => rfl) rfl rfl rfl
  | D :: Ds, W, hn, hd, h => by
    have hD := hd D (by simp)
    have gp := grownBy_putObj' W D (.deferred none)
    have hsz : (W.putObj D (.deferred none)).heap.size = W.heap.size := by simp [World.putObj]
    have hoth : ∀ j, j ≠ D → (W.putObj D (.deferred none)).heap[j]? = W.heap[j]? := fun j hj => World.putObj_heap_other hj
    obtain ⟨hn1, hn2⟩ := List.nodup_cons.1 hn
    refine ⟨by simp, .inl ⟨D, _, rfl, run_takeDeferred hD, leaves_all Ds _ hn2 (fun D' hD' => (hoth D' (fun e => hn1 (e ▸ hD'))).trans (hd D' (List.mem_cons_of_mem _ hD'))) ?_⟩⟩
    intro W' h1 h2 h3 h4 h5
    exact h W' (h1.trans hsz) (fun j hj => (h2 j (fun hm => hj (List.mem_cons_of_mem _ hm))).trans (hoth j (fun e => hj (e ▸ List.mem_cons_self)))) (h3.trans gp.os) (h4.trans gp.tape) (h5.trans gp.output)

/-- the rest of a code behind so many parts -/
def tailAt : Nat → Code → Option Code
  | 0, c => some c
  | n + 1, .seq _ b => tailAt n b
  | _ + 1, _ => none

/-- three boxes and a result's cell, and the ranges' marks -/
structure SdA (w : World) (x y z r : Nat) (A B C : Array Value) (Ds : List Nat) (W : World) : Prop where
  bel : Below w.heap.size w W
  ge : w.heap.size ≤ r
  ox : W.heap[x]? = some (.cells A 25 (0, 0))
  oy : W.heap[y]? = some (.cells B 25 (0, 0))
  oz : W.heap[z]? = some (.cells C 25 (0, 0))
  or : W.heap[r]? = some (.cells #[.bool false] 4 (0, 0))
  ds : ∀ D ∈ Ds, W.heap[D]? = some (.deferred (some [])) ∧ w.heap.size ≤ D
theorem SdA.below {w : World} {x y z r : Nat} {A B C : Array Value} {Ds : List Nat} {W W' : World} (h : SdA w x y z r A B C Ds W) (hb : Below W.heap.size W W') : SdA w x y z r A B C Ds W' :=
  ⟨h.bel.trans (hb.mono h.bel.size), h.ge, (hb.block _ (Array.getElem?_eq_some_iff.1 h.ox).1).trans h.ox, (hb.block _ (Array.getElem?_eq_some_iff.1 h.oy).1).trans h.oy, (hb.block _ (Array.getElem?_eq_some_iff.1 h.oz).1).trans h.oz, (hb.block _ (Array.getElem?_eq_some_iff.1 h.or).1).trans h.or,
    fun D hD => ⟨(hb.block _ (Array.getElem?_eq_some_iff.1 (h.ds D hD).1).1).trans (h.ds D hD).1, (h.ds D hD).2⟩⟩
/-- the function ends with its result's cell written -/
theorem SdA.leaves {w : World} {x y z r : Nat} {A B C : Array Value} {Ds : List Nat} {W : World} {fn : Func} (h : SdA w x y z r A B C Ds W) (hn : Ds.Nodup) (k : Nat) (tm : Array Value) (ht : tm.getD k undef = .pointer (some ⟨r, 0, none⟩)) (hfn : fn.results = #[ResultVar.cell k 4]) :
    LeavesInM Fence.wide 5 Tryd.prog fn tm (fun e w' => e = .returned (.bool true) ∧ Below w.heap.size w w') (Ds.map fun D => { target := .collected D, args := #[] }) .returning (W.setCell ⟨r, 0, none⟩ (.bool true)) := by
  have g := setCell_grown W r 0 (.bool true)
  have s2 := heap_setCell_same W r 0 _ _ (.bool true) h.or
  refine leaves_all Ds _ hn (fun D hD => ?_) ?_
  · obtain ⟨h1, h2⟩ := h.ds D hD
    exact (g.block D (Array.getElem?_eq_some_iff.1 h1).1 (fun e => by have e2 := Option.some.inj e; have h3 := h.or; rw [e2] at h1; rw [h1] at h3; simp at h3)).trans h1
  · intro W' q1 q2 q3 q4 q5
    have hnin : ∀ j, j < w.heap.size ∨ j = r → j ∉ Ds := fun j hj hm => by
      obtain ⟨h1, h2⟩ := h.ds j hm
      rcases hj with hj | rfl
      · omega
      · have h3 := h.or; rw [h1] at h3; simp at h3
    have s3 := (q2 r (hnin _ (.inr rfl))).trans s2
    have c3 : W'.cell? ⟨r, 0, none⟩ = some (.bool true) := (cell_of_row _ _ 0 _ _ _ s3).trans rfl
    have ht' : tm[k]?.getD undef = .pointer (some ⟨r, 0, none⟩) := by simpa using ht
    refine ⟨.bool true, by simp [results, hfn, go_sem, c3, ht'], rfl, ?_⟩
    have hb := h.bel
    have hge := h.ge
    exact ⟨q3.trans (g.os.trans hb.os), q4.trans (g.tape.trans hb.tape), q5.trans (g.output.trans hb.output), Nat.le_trans hb.size (by rw [q1]; exact g.size), fun k hk => (q2 k (hnin k (.inl hk))).trans ((g.block k (by have := hb.size; omega) (fun e => by have := Option.some.inj e; omega)).trans (hb.block k hk))⟩


end Go.Proofs.YtakbgekamjpibaaDoor
