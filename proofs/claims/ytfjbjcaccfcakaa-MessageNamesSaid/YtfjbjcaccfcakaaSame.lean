/-
  longshoreref11.Same of two blank messages. No conditions but that their Data lies in memory.
-/
import Derived.Test.YtfjbjcaccfcakaaBlank
import Derived.Deep.DeepCutAuto
namespace Go.Proofs.Ytfjbjcaccfcakaa
open Go.RowKit
set_option linter.unusedVariables false

/-- a load of a part of a block -/
theorem wpList_load_part {P : Program} {ops : Array Oper} {rest : List Oper} {o : Oper} {a : Act} {w : World} {Q : Exit → Act → World → Prop} (hgd : o.guard = none) (ty : TypeId) (x : Operand) (ho : o.op = .load ty x)
    (g off : Nat) (hx : a.eval x = .pointer (some ⟨g, off, none⟩)) (t : TypeId) (cs part : Array Value) (fr : Nat × Nat) (d : TypeDesc) (hg : w.heap[g]? = some (.cells cs t fr)) (hp : ∀ (j : Nat) v, part.toList[j]? = some v → cs[off + j]? = some v)
    (hu : P.underlying ty = some d) (hd : (match d with | .struct _ | .array _ _ => true | _ => false) = true) (hi : (P.info? ty).map (·.size) = some part.size)
    (h : wpList P ops Q rest (a.put o.dst (.agg part)) w) : wpList P ops Q (o :: rest) a w := by
  have hl : (loadCells ⟨g, off, none⟩ part.toList.length).run P w = .ok part.toList.toArray w :=
    run_loadCells_list (P := P) w ⟨g, off, none⟩ part.toList (fun j v hv => by
      have hadd : (⟨g, off, none⟩ : Addr).add j = ⟨g, off + j, none⟩ := by unfold Addr.add; split <;> simp_all
      rw [hadd, cell_of_row w g (off + j) cs t fr hg]
      exact hp j v hv)
  have hlv : (loadVar ty ⟨g, off, none⟩).run P w = .ok (.agg part) w := by
    cases hq : P.info? ty with
    | none => simp [hq] at hi
    | some i =>
      have hs : i.size = part.size := by simpa [hq] using hi
      have hagg : (isAgg ty).run P w = .ok true w := by
        unfold isAgg
        rw [Sem.run_bind, run_underlying hu w]
        cases d <;> simp_all
      simp only [Array.length_toList, Array.toArray_toList] at hl
      simp [loadVar, Sem.run_bind, hagg, sizeOf, typeInfo, hq, hs, hl]
  refine wpList_plain hgd fun _ hK => ?_
  unfold Oper.wp execOp
  simp only [ho, hx, Instr.loadAt, Instr.sureAddr, Sem.run_bind, Sem.run_pure, Result.andThen_ok, hlv]
  exact hK _ _ h

def propB : Array Value := #[.bool false, .int .i64 0, .int .u64 0, .string ⟨#[]⟩, .slice none 0 0, .int .i64 0, .string ⟨#[]⟩, .string ⟨#[]⟩, .string ⟨#[]⟩, .string ⟨#[]⟩, .int .i64 0, .int .u64 0, .string ⟨#[]⟩, .slice none 0 0, .int .i64 0, .string ⟨#[]⟩, .string ⟨#[]⟩, .int .i64 (-1), .int .i64 (-1), .string ⟨#[]⟩, .int .i64 (-1), .string ⟨#[]⟩]
theorem prop_part (g : Nat) : ∀ (j : Nat) v, propB.toList[j]? = some v → (msgB g)[16 + j]? = some v := fun j v h => by
  have hj : j < 22 := (List.getElem?_eq_some_iff.1 h).1
  match j, hj with
  | 0, _ => exact h
  | 1, _ => exact h
  | 2, _ => exact h
  | 3, _ => exact h
  | 4, _ => exact h
  | 5, _ => exact h
  | 6, _ => exact h
  | 7, _ => exact h
  | 8, _ => exact h
  | 9, _ => exact h
  | 10, _ => exact h
  | 11, _ => exact h
  | 12, _ => exact h
  | 13, _ => exact h
  | 14, _ => exact h
  | 15, _ => exact h
  | 16, _ => exact h
  | 17, _ => exact h
  | 18, _ => exact h
  | 19, _ => exact h
  | 20, _ => exact h
  | 21, _ => exact h

def propZ : Array Value := #[.bool false, .int .i64 0, .int .u64 0, .string ⟨#[]⟩, .slice none 0 0, .int .i64 0, .string ⟨#[]⟩, .string ⟨#[]⟩, .string ⟨#[]⟩, .string ⟨#[]⟩, .int .i64 0, .int .u64 0, .string ⟨#[]⟩, .slice none 0 0, .int .i64 0, .string ⟨#[]⟩, .string ⟨#[]⟩, .int .i64 0, .int .i64 0, .string ⟨#[]⟩, .int .i64 0, .string ⟨#[]⟩]
def nulls8 : Array Value := #[.int .i64 0, .int .u64 0, .string ⟨#[]⟩, .slice none 0 0, .int .i64 0, .int .i64 0, .int .u64 0, .string ⟨#[]⟩, .slice none 0 0, .int .i64 0, .int .i64 0, .int .u64 0, .string ⟨#[]⟩, .slice none 0 0, .int .i64 0, .int .i64 0, .int .u64 0, .string ⟨#[]⟩, .slice none 0 0, .int .i64 0, .int .i64 0, .int .u64 0, .string ⟨#[]⟩, .slice none 0 0, .int .i64 0, .int .i64 0, .int .u64 0, .string ⟨#[]⟩, .slice none 0 0, .int .i64 0, .int .i64 0, .int .u64 0, .string ⟨#[]⟩, .slice none 0 0, .int .i64 0, .int .i64 0, .int .u64 0, .string ⟨#[]⟩, .slice none 0 0, .int .i64 0]
theorem nulls8_in (w : World) (g : Nat) (h : w.heap[g]? = some (.cells nulls8 28 (0, 0))) : NullsIn w (some ⟨g, 0, none⟩) 8 8 := by
  refine ⟨Nat.le_refl _, by decide, fun _ => ⟨g, 0, rfl, (Array.getElem?_eq_some_iff.1 h).1, fun i hi => ?_⟩⟩
  have hc : ∀ k, w.cell? ⟨g, k, none⟩ = nulls8[k]? := fun k => cell_of_row w g k _ _ _ h
  simp only [hc]
  match i, hi with
  | 0, _ => exact ⟨rfl, rfl, rfl, rfl, rfl⟩
  | 1, _ => exact ⟨rfl, rfl, rfl, rfl, rfl⟩
  | 2, _ => exact ⟨rfl, rfl, rfl, rfl, rfl⟩
  | 3, _ => exact ⟨rfl, rfl, rfl, rfl, rfl⟩
  | 4, _ => exact ⟨rfl, rfl, rfl, rfl, rfl⟩
  | 5, _ => exact ⟨rfl, rfl, rfl, rfl, rfl⟩
  | 6, _ => exact ⟨rfl, rfl, rfl, rfl, rfl⟩
  | 7, _ => exact ⟨rfl, rfl, rfl, rfl, rfl⟩

set_option maxHeartbeats 8000000 in
set_option maxRecDepth 20000 in
theorem same_blank (w : World) (g1 g2 : Nat) (h1 : w.heap[g1]? = some (.cells #[.string ⟨#[]⟩] 9 (0, 0))) (h2 : w.heap[g2]? = some (.cells #[.string ⟨#[]⟩] 9 (0, 0))) :
    Calls Try.prog 5 #[.agg (msgB g1), .agg (msgB g2)] w fun e w' => e = .returned (.bool true) ∧ Below w.heap.size w w' := by
  go_enter Try.func5, Try.ntmps5
  go_upto_region 1 with fail
  have a0 : ((w.alloc (.cells (msgB g1) 33)).alloc (.cells (msgB g2) 33)).heap[w.heap.size]? = some (.cells (msgB g1) 33 (0, 0)) := heap_alloc2_old _ _ _
  have a1 : ((w.alloc (.cells (msgB g1) 33)).alloc (.cells (msgB g2) 33)).heap[w.heap.size + 1]? = some (.cells (msgB g2) 33 (0, 0)) := heap_alloc2_new _ _ _
  have hB : Below w.heap.size w ((w.alloc (.cells (msgB g1) 33)).alloc (.cells (msgB g2) 33)) := below_two _ _ _
  generalize ((w.alloc (.cells (msgB g1) 33)).alloc (.cells (msgB g2) 33)) = w2 at *
  obtain ⟨b2, hb2⟩ : ∃ b, w.heap.size = b := ⟨_, rfl⟩
  rw [hb2] at a0 a1 ⊢
  have HB2 := Lib.hid hb2
  clear hb2
  go_upto_region 2 with (first
    | (refine wpList_load_part rfl 30 (.tmp 12) rfl (b2) 16 rfl 33 (msgB g1) propB (0, 0) _ a0 (prop_part g1) Try.underlying30 rfl (by as_aux_lemma => kernel_rfl) ?_)
    | (refine wpList_store_row rfl 30 (.tmp 5) (.tmp 13) rfl w2.heap.size propB rfl rfl 30 _ (heap_alloc_new w2 _) (by as_aux_lemma => kernel_rfl) (by as_aux_lemma => kernel_rfl) (by as_aux_lemma => kernel_rfl) ?_))
  change Code.wp _ _ _ _ ((w2.alloc (.cells propZ 30)).setRow w2.heap.size propB)
  have c5 := setRow_heap (w2.alloc (.cells propZ 30)) w2.heap.size _ propB _ _ (heap_alloc_new w2 _)
  have hBn : Below w2.heap.size w2 ((w2.alloc (.cells propZ 30)).setRow w2.heap.size propB) := below_setRow ((Below.refl _ _).alloc (Nat.le_refl _) _) (Nat.le_refl _) propB
  have hsn : ((w2.alloc (.cells propZ 30)).setRow w2.heap.size propB).heap.size = w2.heap.size + 1 := by simp
  generalize ((w2.alloc (.cells propZ 30)).setRow w2.heap.size propB) = w3 at *
  have hB := hB.trans (hBn.mono hB.size)
  have a0 := (hBn.block _ (Array.getElem?_eq_some_iff.1 a0).1).trans a0
  have a1 := (hBn.block _ (Array.getElem?_eq_some_iff.1 a1).1).trans a1
  obtain ⟨x5, hx5⟩ : ∃ x, w2.heap.size = x := ⟨_, rfl⟩
  rw [hx5] at c5 hBn ⊢
  clear hx5 hsn
  go_upto_region 3 with (first
    | (refine wpList_load_part rfl 30 (.tmp 14) rfl (b2 + 1) 16 rfl 33 (msgB g2) propB (0, 0) _ a1 (prop_part g2) Try.underlying30 rfl (by as_aux_lemma => kernel_rfl) ?_)
    | (refine wpList_store_row rfl 30 (.tmp 6) (.tmp 15) rfl w3.heap.size propB rfl rfl 30 _ (heap_alloc_new w3 _) (by as_aux_lemma => kernel_rfl) (by as_aux_lemma => kernel_rfl) (by as_aux_lemma => kernel_rfl) ?_))
  change Code.wp _ _ _ _ ((w3.alloc (.cells propZ 30)).setRow w3.heap.size propB)
  have c6 := setRow_heap (w3.alloc (.cells propZ 30)) w3.heap.size _ propB _ _ (heap_alloc_new w3 _)
  have hBn : Below w3.heap.size w3 ((w3.alloc (.cells propZ 30)).setRow w3.heap.size propB) := below_setRow ((Below.refl _ _).alloc (Nat.le_refl _) _) (Nat.le_refl _) propB
  have hsn : ((w3.alloc (.cells propZ 30)).setRow w3.heap.size propB).heap.size = w3.heap.size + 1 := by simp
  generalize ((w3.alloc (.cells propZ 30)).setRow w3.heap.size propB) = w4 at *
  have c5 := (hBn.block _ (Array.getElem?_eq_some_iff.1 c5).1).trans c5
  have hB := hB.trans (hBn.mono hB.size)
  have a0 := (hBn.block _ (Array.getElem?_eq_some_iff.1 a0).1).trans a0
  have a1 := (hBn.block _ (Array.getElem?_eq_some_iff.1 a1).1).trans a1
  obtain ⟨x6, hx6⟩ : ∃ x, w3.heap.size = x := ⟨_, rfl⟩
  rw [hx6] at c6 hBn ⊢
  clear hx6 hsn
  have m6 : w4.cell? ⟨b2, 6, none⟩ = some (.int .i64 0) := (cell_of_row _ _ 6 _ _ _ a0).trans rfl
  have m7 : w4.cell? ⟨b2, 7, none⟩ = some (.int .u64 0) := (cell_of_row _ _ 7 _ _ _ a0).trans rfl
  have m8 : w4.cell? ⟨b2, 8, none⟩ = some (.string ⟨#[]⟩) := (cell_of_row _ _ 8 _ _ _ a0).trans rfl
  have m9 : w4.cell? ⟨b2, 9, none⟩ = some (.slice none 0 0) := (cell_of_row _ _ 9 _ _ _ a0).trans rfl
  have m10 : w4.cell? ⟨b2, 10, none⟩ = some (.int .i64 0) := (cell_of_row _ _ 10 _ _ _ a0).trans rfl
  have m11 : w4.cell? ⟨b2, 11, none⟩ = some (.int .i64 0) := (cell_of_row _ _ 11 _ _ _ a0).trans rfl
  have m12 : w4.cell? ⟨b2, 12, none⟩ = some (.int .u64 0) := (cell_of_row _ _ 12 _ _ _ a0).trans rfl
  have m13 : w4.cell? ⟨b2, 13, none⟩ = some (.string ⟨#[]⟩) := (cell_of_row _ _ 13 _ _ _ a0).trans rfl
  have m14 : w4.cell? ⟨b2, 14, none⟩ = some (.slice none 0 0) := (cell_of_row _ _ 14 _ _ _ a0).trans rfl
  have m15 : w4.cell? ⟨b2, 15, none⟩ = some (.int .i64 0) := (cell_of_row _ _ 15 _ _ _ a0).trans rfl
  have m38 : w4.cell? ⟨b2, 38, none⟩ = some (.int .i64 0) := (cell_of_row _ _ 38 _ _ _ a0).trans rfl
  have m39 : w4.cell? ⟨b2, 39, none⟩ = some (.int .u64 0) := (cell_of_row _ _ 39 _ _ _ a0).trans rfl
  have m40 : w4.cell? ⟨b2, 40, none⟩ = some (.string ⟨#[]⟩) := (cell_of_row _ _ 40 _ _ _ a0).trans rfl
  have m41 : w4.cell? ⟨b2, 41, none⟩ = some (.slice none 0 0) := (cell_of_row _ _ 41 _ _ _ a0).trans rfl
  have m42 : w4.cell? ⟨b2, 42, none⟩ = some (.int .i64 0) := (cell_of_row _ _ 42 _ _ _ a0).trans rfl
  have m45 : w4.cell? ⟨b2, 45, none⟩ = some (.slice none 0 0) := (cell_of_row _ _ 45 _ _ _ a0).trans rfl
  have m46 : w4.cell? ⟨b2, 46, none⟩ = some (.int .i64 0) := (cell_of_row _ _ 46 _ _ _ a0).trans rfl
  have m47 : w4.cell? ⟨b2, 47, none⟩ = some (.int .u64 0) := (cell_of_row _ _ 47 _ _ _ a0).trans rfl
  have m48 : w4.cell? ⟨b2, 48, none⟩ = some (.string ⟨#[]⟩) := (cell_of_row _ _ 48 _ _ _ a0).trans rfl
  have m49 : w4.cell? ⟨b2, 49, none⟩ = some (.slice none 0 0) := (cell_of_row _ _ 49 _ _ _ a0).trans rfl
  have m50 : w4.cell? ⟨b2, 50, none⟩ = some (.int .i64 0) := (cell_of_row _ _ 50 _ _ _ a0).trans rfl
  have m51 : w4.cell? ⟨b2, 51, none⟩ = some (.int .i64 0) := (cell_of_row _ _ 51 _ _ _ a0).trans rfl
  have m52 : w4.cell? ⟨b2, 52, none⟩ = some (.int .u64 0) := (cell_of_row _ _ 52 _ _ _ a0).trans rfl
  have m53 : w4.cell? ⟨b2, 53, none⟩ = some (.string ⟨#[]⟩) := (cell_of_row _ _ 53 _ _ _ a0).trans rfl
  have m54 : w4.cell? ⟨b2, 54, none⟩ = some (.slice none 0 0) := (cell_of_row _ _ 54 _ _ _ a0).trans rfl
  have m55 : w4.cell? ⟨b2, 55, none⟩ = some (.int .i64 0) := (cell_of_row _ _ 55 _ _ _ a0).trans rfl
  have p1 : w4.cell? ⟨x5, 1, none⟩ = some (.int .i64 0) := (cell_of_row _ _ 1 _ _ _ c5).trans rfl
  have p2 : w4.cell? ⟨x5, 2, none⟩ = some (.int .u64 0) := (cell_of_row _ _ 2 _ _ _ c5).trans rfl
  have p3 : w4.cell? ⟨x5, 3, none⟩ = some (.string ⟨#[]⟩) := (cell_of_row _ _ 3 _ _ _ c5).trans rfl
  have p4 : w4.cell? ⟨x5, 4, none⟩ = some (.slice none 0 0) := (cell_of_row _ _ 4 _ _ _ c5).trans rfl
  have p5 : w4.cell? ⟨x5, 5, none⟩ = some (.int .i64 0) := (cell_of_row _ _ 5 _ _ _ c5).trans rfl
  have p10 : w4.cell? ⟨x5, 10, none⟩ = some (.int .i64 0) := (cell_of_row _ _ 10 _ _ _ c5).trans rfl
  have p11 : w4.cell? ⟨x5, 11, none⟩ = some (.int .u64 0) := (cell_of_row _ _ 11 _ _ _ c5).trans rfl
  have p12 : w4.cell? ⟨x5, 12, none⟩ = some (.string ⟨#[]⟩) := (cell_of_row _ _ 12 _ _ _ c5).trans rfl
  have p13 : w4.cell? ⟨x5, 13, none⟩ = some (.slice none 0 0) := (cell_of_row _ _ 13 _ _ _ c5).trans rfl
  have p14 : w4.cell? ⟨x5, 14, none⟩ = some (.int .i64 0) := (cell_of_row _ _ 14 _ _ _ c5).trans rfl
  go_upto_region 4 with fail
  change Code.wp _ _ _ _ (w4.alloc (.cells nulls8 28))
  have c7 : (w4.alloc (.cells nulls8 28)).heap[w4.heap.size]? = some (.cells nulls8 28 (0, 0)) := heap_alloc_new _ _
  have hBn : Below w4.heap.size w4 (w4.alloc (.cells nulls8 28)) := (Below.refl _ _).alloc (Nat.le_refl _) _
  clear m6 m7 m8 m9 m10 m11 m12 m13 m14 m15 m38 m39 m40 m41 m42 m45 m46 m47 m48 m49 m50 m51 m52 m53 m54 m55 p1 p2 p3 p4 p5 p10 p11 p12 p13 p14
  generalize (w4.alloc (.cells nulls8 28)) = w5 at *
  obtain ⟨x7, hx7⟩ : ∃ x, w4.heap.size = x := ⟨_, rfl⟩
  rw [hx7] at c7 ⊢
  clear hx7
  have hB := hB.trans (hBn.mono hB.size)
  have a0 := (hBn.block _ (Array.getElem?_eq_some_iff.1 a0).1).trans a0
  have a1 := (hBn.block _ (Array.getElem?_eq_some_iff.1 a1).1).trans a1
  have c5 := (hBn.block _ (Array.getElem?_eq_some_iff.1 c5).1).trans c5
  have c6 := (hBn.block _ (Array.getElem?_eq_some_iff.1 c6).1).trans c6
  have m6 : w5.cell? ⟨b2 + 1, 6, none⟩ = some (.int .i64 0) := (cell_of_row _ _ 6 _ _ _ a1).trans rfl
  have m7 : w5.cell? ⟨b2 + 1, 7, none⟩ = some (.int .u64 0) := (cell_of_row _ _ 7 _ _ _ a1).trans rfl
  have m8 : w5.cell? ⟨b2 + 1, 8, none⟩ = some (.string ⟨#[]⟩) := (cell_of_row _ _ 8 _ _ _ a1).trans rfl
  have m9 : w5.cell? ⟨b2 + 1, 9, none⟩ = some (.slice none 0 0) := (cell_of_row _ _ 9 _ _ _ a1).trans rfl
  have m10 : w5.cell? ⟨b2 + 1, 10, none⟩ = some (.int .i64 0) := (cell_of_row _ _ 10 _ _ _ a1).trans rfl
  have m11 : w5.cell? ⟨b2 + 1, 11, none⟩ = some (.int .i64 0) := (cell_of_row _ _ 11 _ _ _ a1).trans rfl
  have m12 : w5.cell? ⟨b2 + 1, 12, none⟩ = some (.int .u64 0) := (cell_of_row _ _ 12 _ _ _ a1).trans rfl
  have m13 : w5.cell? ⟨b2 + 1, 13, none⟩ = some (.string ⟨#[]⟩) := (cell_of_row _ _ 13 _ _ _ a1).trans rfl
  have m14 : w5.cell? ⟨b2 + 1, 14, none⟩ = some (.slice none 0 0) := (cell_of_row _ _ 14 _ _ _ a1).trans rfl
  have m15 : w5.cell? ⟨b2 + 1, 15, none⟩ = some (.int .i64 0) := (cell_of_row _ _ 15 _ _ _ a1).trans rfl
  have m38 : w5.cell? ⟨b2 + 1, 38, none⟩ = some (.int .i64 0) := (cell_of_row _ _ 38 _ _ _ a1).trans rfl
  have m39 : w5.cell? ⟨b2 + 1, 39, none⟩ = some (.int .u64 0) := (cell_of_row _ _ 39 _ _ _ a1).trans rfl
  have m40 : w5.cell? ⟨b2 + 1, 40, none⟩ = some (.string ⟨#[]⟩) := (cell_of_row _ _ 40 _ _ _ a1).trans rfl
  have m41 : w5.cell? ⟨b2 + 1, 41, none⟩ = some (.slice none 0 0) := (cell_of_row _ _ 41 _ _ _ a1).trans rfl
  have m42 : w5.cell? ⟨b2 + 1, 42, none⟩ = some (.int .i64 0) := (cell_of_row _ _ 42 _ _ _ a1).trans rfl
  have m45 : w5.cell? ⟨b2 + 1, 45, none⟩ = some (.slice none 0 0) := (cell_of_row _ _ 45 _ _ _ a1).trans rfl
  have m46 : w5.cell? ⟨b2 + 1, 46, none⟩ = some (.int .i64 0) := (cell_of_row _ _ 46 _ _ _ a1).trans rfl
  have m47 : w5.cell? ⟨b2 + 1, 47, none⟩ = some (.int .u64 0) := (cell_of_row _ _ 47 _ _ _ a1).trans rfl
  have m48 : w5.cell? ⟨b2 + 1, 48, none⟩ = some (.string ⟨#[]⟩) := (cell_of_row _ _ 48 _ _ _ a1).trans rfl
  have m49 : w5.cell? ⟨b2 + 1, 49, none⟩ = some (.slice none 0 0) := (cell_of_row _ _ 49 _ _ _ a1).trans rfl
  have m50 : w5.cell? ⟨b2 + 1, 50, none⟩ = some (.int .i64 0) := (cell_of_row _ _ 50 _ _ _ a1).trans rfl
  have m51 : w5.cell? ⟨b2 + 1, 51, none⟩ = some (.int .i64 0) := (cell_of_row _ _ 51 _ _ _ a1).trans rfl
  have m52 : w5.cell? ⟨b2 + 1, 52, none⟩ = some (.int .u64 0) := (cell_of_row _ _ 52 _ _ _ a1).trans rfl
  have m53 : w5.cell? ⟨b2 + 1, 53, none⟩ = some (.string ⟨#[]⟩) := (cell_of_row _ _ 53 _ _ _ a1).trans rfl
  have m54 : w5.cell? ⟨b2 + 1, 54, none⟩ = some (.slice none 0 0) := (cell_of_row _ _ 54 _ _ _ a1).trans rfl
  have m55 : w5.cell? ⟨b2 + 1, 55, none⟩ = some (.int .i64 0) := (cell_of_row _ _ 55 _ _ _ a1).trans rfl
  have p1 : w5.cell? ⟨x6, 1, none⟩ = some (.int .i64 0) := (cell_of_row _ _ 1 _ _ _ c6).trans rfl
  have p2 : w5.cell? ⟨x6, 2, none⟩ = some (.int .u64 0) := (cell_of_row _ _ 2 _ _ _ c6).trans rfl
  have p3 : w5.cell? ⟨x6, 3, none⟩ = some (.string ⟨#[]⟩) := (cell_of_row _ _ 3 _ _ _ c6).trans rfl
  have p4 : w5.cell? ⟨x6, 4, none⟩ = some (.slice none 0 0) := (cell_of_row _ _ 4 _ _ _ c6).trans rfl
  have p5 : w5.cell? ⟨x6, 5, none⟩ = some (.int .i64 0) := (cell_of_row _ _ 5 _ _ _ c6).trans rfl
  have p10 : w5.cell? ⟨x6, 10, none⟩ = some (.int .i64 0) := (cell_of_row _ _ 10 _ _ _ c6).trans rfl
  have p11 : w5.cell? ⟨x6, 11, none⟩ = some (.int .u64 0) := (cell_of_row _ _ 11 _ _ _ c6).trans rfl
  have p12 : w5.cell? ⟨x6, 12, none⟩ = some (.string ⟨#[]⟩) := (cell_of_row _ _ 12 _ _ _ c6).trans rfl
  have p13 : w5.cell? ⟨x6, 13, none⟩ = some (.slice none 0 0) := (cell_of_row _ _ 13 _ _ _ c6).trans rfl
  have p14 : w5.cell? ⟨x6, 14, none⟩ = some (.int .i64 0) := (cell_of_row _ _ 14 _ _ _ c6).trans rfl
  go_upto_region 5 with fail
  change Code.wp _ _ _ _ (w5.alloc (.cells nulls8 28))
  have c8 : (w5.alloc (.cells nulls8 28)).heap[w5.heap.size]? = some (.cells nulls8 28 (0, 0)) := heap_alloc_new _ _
  have hBn : Below w5.heap.size w5 (w5.alloc (.cells nulls8 28)) := (Below.refl _ _).alloc (Nat.le_refl _) _
  clear m6 m7 m8 m9 m10 m11 m12 m13 m14 m15 m38 m39 m40 m41 m42 m45 m46 m47 m48 m49 m50 m51 m52 m53 m54 m55 p1 p2 p3 p4 p5 p10 p11 p12 p13 p14
  generalize (w5.alloc (.cells nulls8 28)) = w6 at *
  obtain ⟨x8, hx8⟩ : ∃ x, w5.heap.size = x := ⟨_, rfl⟩
  rw [hx8] at c8 ⊢
  clear hx8
  have hB := hB.trans (hBn.mono hB.size)
  have a0 := (hBn.block _ (Array.getElem?_eq_some_iff.1 a0).1).trans a0
  have a1 := (hBn.block _ (Array.getElem?_eq_some_iff.1 a1).1).trans a1
  have c5 := (hBn.block _ (Array.getElem?_eq_some_iff.1 c5).1).trans c5
  have c6 := (hBn.block _ (Array.getElem?_eq_some_iff.1 c6).1).trans c6
  have c7 := (hBn.block _ (Array.getElem?_eq_some_iff.1 c7).1).trans c7
  have heq := equalAll_nulls w6 (some ⟨x7, 0, none⟩) (some ⟨x8, 0, none⟩) 8 8 8 (nulls8_in w6 x7 c7) (nulls8_in w6 x8 c8)
  go_wp2_with fail
  refine heq.mono ?_
  rintro e w7 ⟨rfl, hb7⟩
  have hB := hB.trans (hb7.mono hB.size)
  have a0 := (hb7.block _ (Array.getElem?_eq_some_iff.1 a0).1).trans a0
  have a1 := (hb7.block _ (Array.getElem?_eq_some_iff.1 a1).1).trans a1
  have c5 := (hb7.block _ (Array.getElem?_eq_some_iff.1 c5).1).trans c5
  have c6 := (hb7.block _ (Array.getElem?_eq_some_iff.1 c6).1).trans c6
  have d1 := (hB.block g1 (Array.getElem?_eq_some_iff.1 h1).1).trans h1
  have d2 := (hB.block g2 (Array.getElem?_eq_some_iff.1 h2).1).trans h2
  have e1 : w7.cell? ⟨g1, 0, none⟩ = some (.string ⟨#[]⟩) := (cell_of_row _ _ 0 _ _ _ d1).trans rfl
  have e2 : w7.cell? ⟨g2, 0, none⟩ = some (.string ⟨#[]⟩) := (cell_of_row _ _ 0 _ _ _ d2).trans rfl
  have m0 : w7.cell? ⟨b2, 0, none⟩ = some (.bool false) := (cell_of_row _ _ 0 _ _ _ a0).trans rfl
  have m1 : w7.cell? ⟨b2, 1, none⟩ = some (.bool false) := (cell_of_row _ _ 1 _ _ _ a0).trans rfl
  have m2 : w7.cell? ⟨b2, 2, none⟩ = some (.int .i64 4) := (cell_of_row _ _ 2 _ _ _ a0).trans rfl
  have m3 : w7.cell? ⟨b2, 3, none⟩ = some (.int .i64 (-1)) := (cell_of_row _ _ 3 _ _ _ a0).trans rfl
  have m4 : w7.cell? ⟨b2, 4, none⟩ = some (.bool false) := (cell_of_row _ _ 4 _ _ _ a0).trans rfl
  have m5 : w7.cell? ⟨b2, 5, none⟩ = some (.int .i64 0) := (cell_of_row _ _ 5 _ _ _ a0).trans rfl
  have m43 : w7.cell? ⟨b2, 43, none⟩ = some (.int .i64 1) := (cell_of_row _ _ 43 _ _ _ a0).trans rfl
  have m44 : w7.cell? ⟨b2, 44, none⟩ = some (.slice (some ⟨g1, 0, none⟩) 1 1) := (cell_of_row _ _ 44 _ _ _ a0).trans rfl
  have n0 : w7.cell? ⟨b2 + 1, 0, none⟩ = some (.bool false) := (cell_of_row _ _ 0 _ _ _ a1).trans rfl
  have n1 : w7.cell? ⟨b2 + 1, 1, none⟩ = some (.bool false) := (cell_of_row _ _ 1 _ _ _ a1).trans rfl
  have n2 : w7.cell? ⟨b2 + 1, 2, none⟩ = some (.int .i64 4) := (cell_of_row _ _ 2 _ _ _ a1).trans rfl
  have n3 : w7.cell? ⟨b2 + 1, 3, none⟩ = some (.int .i64 (-1)) := (cell_of_row _ _ 3 _ _ _ a1).trans rfl
  have n4 : w7.cell? ⟨b2 + 1, 4, none⟩ = some (.bool false) := (cell_of_row _ _ 4 _ _ _ a1).trans rfl
  have n5 : w7.cell? ⟨b2 + 1, 5, none⟩ = some (.int .i64 0) := (cell_of_row _ _ 5 _ _ _ a1).trans rfl
  have n43 : w7.cell? ⟨b2 + 1, 43, none⟩ = some (.int .i64 1) := (cell_of_row _ _ 43 _ _ _ a1).trans rfl
  have n44 : w7.cell? ⟨b2 + 1, 44, none⟩ = some (.slice (some ⟨g2, 0, none⟩) 1 1) := (cell_of_row _ _ 44 _ _ _ a1).trans rfl
  have p0 : w7.cell? ⟨x5, 0, none⟩ = some (.bool false) := (cell_of_row _ _ 0 _ _ _ c5).trans rfl
  have p6 : w7.cell? ⟨x5, 6, none⟩ = some (.string ⟨#[]⟩) := (cell_of_row _ _ 6 _ _ _ c5).trans rfl
  have p7 : w7.cell? ⟨x5, 7, none⟩ = some (.string ⟨#[]⟩) := (cell_of_row _ _ 7 _ _ _ c5).trans rfl
  have p8 : w7.cell? ⟨x5, 8, none⟩ = some (.string ⟨#[]⟩) := (cell_of_row _ _ 8 _ _ _ c5).trans rfl
  have p9 : w7.cell? ⟨x5, 9, none⟩ = some (.string ⟨#[]⟩) := (cell_of_row _ _ 9 _ _ _ c5).trans rfl
  have p15 : w7.cell? ⟨x5, 15, none⟩ = some (.string ⟨#[]⟩) := (cell_of_row _ _ 15 _ _ _ c5).trans rfl
  have p16 : w7.cell? ⟨x5, 16, none⟩ = some (.string ⟨#[]⟩) := (cell_of_row _ _ 16 _ _ _ c5).trans rfl
  have p17 : w7.cell? ⟨x5, 17, none⟩ = some (.int .i64 (-1)) := (cell_of_row _ _ 17 _ _ _ c5).trans rfl
  have p18 : w7.cell? ⟨x5, 18, none⟩ = some (.int .i64 (-1)) := (cell_of_row _ _ 18 _ _ _ c5).trans rfl
  have p19 : w7.cell? ⟨x5, 19, none⟩ = some (.string ⟨#[]⟩) := (cell_of_row _ _ 19 _ _ _ c5).trans rfl
  have p20 : w7.cell? ⟨x5, 20, none⟩ = some (.int .i64 (-1)) := (cell_of_row _ _ 20 _ _ _ c5).trans rfl
  have p21 : w7.cell? ⟨x5, 21, none⟩ = some (.string ⟨#[]⟩) := (cell_of_row _ _ 21 _ _ _ c5).trans rfl
  have q0 : w7.cell? ⟨x6, 0, none⟩ = some (.bool false) := (cell_of_row _ _ 0 _ _ _ c6).trans rfl
  have q6 : w7.cell? ⟨x6, 6, none⟩ = some (.string ⟨#[]⟩) := (cell_of_row _ _ 6 _ _ _ c6).trans rfl
  have q7 : w7.cell? ⟨x6, 7, none⟩ = some (.string ⟨#[]⟩) := (cell_of_row _ _ 7 _ _ _ c6).trans rfl
  have q8 : w7.cell? ⟨x6, 8, none⟩ = some (.string ⟨#[]⟩) := (cell_of_row _ _ 8 _ _ _ c6).trans rfl
  have q9 : w7.cell? ⟨x6, 9, none⟩ = some (.string ⟨#[]⟩) := (cell_of_row _ _ 9 _ _ _ c6).trans rfl
  have q15 : w7.cell? ⟨x6, 15, none⟩ = some (.string ⟨#[]⟩) := (cell_of_row _ _ 15 _ _ _ c6).trans rfl
  have q16 : w7.cell? ⟨x6, 16, none⟩ = some (.string ⟨#[]⟩) := (cell_of_row _ _ 16 _ _ _ c6).trans rfl
  have q17 : w7.cell? ⟨x6, 17, none⟩ = some (.int .i64 (-1)) := (cell_of_row _ _ 17 _ _ _ c6).trans rfl
  have q18 : w7.cell? ⟨x6, 18, none⟩ = some (.int .i64 (-1)) := (cell_of_row _ _ 18 _ _ _ c6).trans rfl
  have q19 : w7.cell? ⟨x6, 19, none⟩ = some (.string ⟨#[]⟩) := (cell_of_row _ _ 19 _ _ _ c6).trans rfl
  have q20 : w7.cell? ⟨x6, 20, none⟩ = some (.int .i64 (-1)) := (cell_of_row _ _ 20 _ _ _ c6).trans rfl
  have q21 : w7.cell? ⟨x6, 21, none⟩ = some (.string ⟨#[]⟩) := (cell_of_row _ _ 21 _ _ _ c6).trans rfl
  have HBB := Lib.hid hB
  clear heq hB a0 a1 c5 c6 c7 c8 d1 d2 h1 h2 hb7 hBn
  go_upto_region 9 with fail
  clear m0 m1 m2 m3 m4 m5 m43 n0 n1 n2 n3 n4 n5 n43 p0 p6 p7 p8 p9 p15 p16 p17 p18 p19 p20 p21 q0 q6 q7 q8 q9 q15 q16 q17 q18 q19 q20 q21
  go_wp2_with fail
  go_loopw [11] (fun s11 wr => ∃ i : Nat, i ≤ 1 ∧ s11 = .int .i64 i ∧ ∃ t, wr = w7.drewN t) (fun s11 _ => 1 - (intOf s11).toNat)
  case atStart => exact ⟨0, by omega, rfl, 0, rfl⟩
  case round =>
    obtain ⟨i, hi, rfl, t, rfl⟩ := hrel
    by_cases hlt : i < 1
    · have H0 : Hid (i = 0) := Lib.hid (by omega)
      have hi1 : (i : Int) < 1 := by omega
      have e1' : w7.cell? ⟨g1, i, none⟩ = some (.string ⟨#[]⟩) := by rw [H0.out]; exact e1
      have e2' : w7.cell? ⟨g2, i, none⟩ = some (.string ⟨#[]⟩) := by rw [H0.out]; exact e2
      go_upto_region 12 with fail
      go_quiet (fail)
      go_wp2_with fail
      go_roundw
      case rel => exact ⟨i + 1, by omega, by go_num, _, rfl⟩
      case measure => simp [intOf]; omega
    · have hi1 : ¬ (i : Int) < 1 := by omega
      go_wp2_with fail
      go_ret
      exact ⟨rfl, below_drewN' HBB.out t⟩
end Go.Proofs.Ytfjbjcaccfcakaa
