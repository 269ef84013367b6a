/-
  MessageNames' walk as far as its last comparison.
-/
import Derived.Test.YtfjbjcaccfcakaaSame
import Derived.Deep.RegionLaw
namespace Go.Proofs.Ytfjbjcaccfcakaa
open Go.RowKit
set_option linter.unusedVariables false

theorem step_load_row {P : Program} {w : World} {ops : Array Oper} {o : Oper} {a : Act} {K : Act → World → Prop} {Q : Exit → Act → World → Prop} {E : Prop} (hgd : o.guard = none) (ty : TypeId) (x : Operand) (ho : o.op = .load ty x)
    (g : Nat) (hx : a.eval x = .pointer (some ⟨g, 0, none⟩)) (t : TypeId) (cs : Array Value) (fr : Nat × Nat) (d : TypeDesc) (hg : w.heap[g]? = some (.cells cs t fr))
    (hu : P.underlying ty = some d) (hd : (match d with | .struct _ | .array _ _ => true | _ => false) = true) (hi : (P.info? ty).map (·.size) = some cs.size)
    (h : K (a.put o.dst (.agg cs)) w) : if Region.wanted o (yielded ops a.tmps) = true then Oper.wp P o a w K Q else E := by
  have hw : Region.wanted o (yielded ops a.tmps) = true := by simp [Region.wanted, hgd]
  rw [if_pos hw]
  exact wp_load_row ty x ho g hx t cs fr d hg hu hd hi h

def secC : Array Value := #[.int .i64 112, .int .i64 113, .int .i64 114, .int .i64 115, .int .i64 116, .int .i64 117, .int .i64 118, .int .i64 119, .int .i64 120]
theorem sec_cell (w : World) (g : Nat) (h : w.heap[g]? = some (.cells secC 3 (0, 0))) (i : Nat) (hi : i < 9) : w.cell? ⟨g, i, none⟩ = some (.int .i64 ((112 + i : Nat) : Int)) := by
  rw [cell_of_row _ _ i _ _ _ h]
  match i, hi with
  | 0, _ => rfl
  | 1, _ => rfl
  | 2, _ => rfl
  | 3, _ => rfl
  | 4, _ => rfl
  | 5, _ => rfl
  | 6, _ => rfl
  | 7, _ => rfl
  | 8, _ => rfl

set_option maxHeartbeats 8000000 in
set_option maxRecDepth 20000 in
noncomputable def namesA (w : World) :
    (R0 : Prop) ×' (Hid R0 → Calls Try.prog 3 #[] w fun e w' => e = .returned (.bool true) ∧ Below w.heap.size w w') :=
  ⟨_, fun hR0 => by
  go_enter Try.func3, Try.ntmps3
  go_upto_region 2 with fail
  change Code.wp _ _ _ _ (w.alloc (.cells secC 3))
  have hs : (w.alloc (.cells secC 3)).heap[w.heap.size]? = some (.cells secC 3 (0, 0)) := heap_alloc_new _ _
  have hB : Below w.heap.size w (w.alloc (.cells secC 3)) := (Below.refl _ _).alloc (Nat.le_refl _) _
  generalize (w.alloc (.cells secC 3)) = w1 at *
  obtain ⟨x, hx⟩ : ∃ x, w.heap.size = x := ⟨_, rfl⟩
  rw [hx] at hs ⊢
  have HS := Lib.hid hs
  have HB := Lib.hid hB
  clear hx hs hB
  go_wp2_with fail
  go_loopw [2] (fun s2 wr => ∃ i : Nat, i ≤ 9 ∧ s2 = .int .i64 i ∧ wr = w1) (fun s2 _ => 9 - (intOf s2).toNat)
  case atStart => exact ⟨0, by omega, rfl, rfl⟩
  case round =>
    obtain ⟨i, hi, rfl, rfl⟩ := hrel
    by_cases hlt : i < 9
    · have hi9 : (i : Int) < 9 := by omega
      have hc := sec_cell _ x HS.out i hlt
      have e : ((112 + i : Nat) : Int) = 112 + (i : Int) := by omega
      rw [e] at hc
      clear e
      go_wp2_with fail
      go_roundw
      case rel => exact ⟨i + 1, by omega, by go_num, trivial⟩
      case measure => simp [intOf]; omega
    · have hi9 : ¬ (i : Int) < 9 := by omega
      go_wp2_with fail
      refine (blank_any wr).mono ?_
      rintro e w2 ⟨g1, rfl, hbg1, hlg1, hhg1⟩
      go_upto_region 8 with (refine wpList_store_row rfl 33 (.tmp 3) (.tmp 22) rfl w2.heap.size (msgB g1) rfl rfl 33 _ (heap_alloc_new w2 _) (by as_aux_lemma => kernel_rfl) (by as_aux_lemma => kernel_rfl) (by as_aux_lemma => kernel_rfl) ?_)
      change Code.wp _ _ _ _ ((w2.alloc (.cells msgZ 33)).setRow w2.heap.size (msgB g1))
      have hb3 := setRow_heap (w2.alloc (.cells msgZ 33)) w2.heap.size _ (msgB g1) _ _ (heap_alloc_new w2 _)
      have hBn : Below w2.heap.size w2 ((w2.alloc (.cells msgZ 33)).setRow w2.heap.size (msgB g1)) := below_setRow ((Below.refl _ _).alloc (Nat.le_refl _) _) (Nat.le_refl _) (msgB g1)
      generalize ((w2.alloc (.cells msgZ 33)).setRow w2.heap.size (msgB g1)) = w3 at *
      obtain ⟨b3, hb3x⟩ : ∃ x, w2.heap.size = x := ⟨_, rfl⟩
      have hhg1 := (hBn.block _ (Array.getElem?_eq_some_iff.1 hhg1).1).trans hhg1
      have hBb3 : Below wr.heap.size wr w3 := hbg1.trans (hBn.mono hbg1.size)
      rw [hb3x] at hb3 ⊢
      have HXb3 := Lib.hid hb3x
      clear hBn hb3x
      go_wp2_with fail
      refine (blank_any w3).mono ?_
      rintro e w4 ⟨g2, rfl, hbg2, hlg2, hhg2⟩
      go_upto_region 9 with (refine wpList_store_row rfl 33 (.tmp 4) (.tmp 23) rfl w4.heap.size (msgB g2) rfl rfl 33 _ (heap_alloc_new w4 _) (by as_aux_lemma => kernel_rfl) (by as_aux_lemma => kernel_rfl) (by as_aux_lemma => kernel_rfl) ?_)
      change Code.wp _ _ _ _ ((w4.alloc (.cells msgZ 33)).setRow w4.heap.size (msgB g2))
      have hb4 := setRow_heap (w4.alloc (.cells msgZ 33)) w4.heap.size _ (msgB g2) _ _ (heap_alloc_new w4 _)
      have hBn : Below w4.heap.size w4 ((w4.alloc (.cells msgZ 33)).setRow w4.heap.size (msgB g2)) := below_setRow ((Below.refl _ _).alloc (Nat.le_refl _) _) (Nat.le_refl _) (msgB g2)
      generalize ((w4.alloc (.cells msgZ 33)).setRow w4.heap.size (msgB g2)) = w5 at *
      obtain ⟨b4, hb4x⟩ : ∃ x, w4.heap.size = x := ⟨_, rfl⟩
      have hhg2 := (hBn.block _ (Array.getElem?_eq_some_iff.1 hhg2).1).trans hhg2
      have hBb4 : Below w3.heap.size w3 w5 := hbg2.trans (hBn.mono hbg2.size)
      rw [hb4x] at hb4 ⊢
      have HXb4 := Lib.hid hb4x
      clear hBn hb4x
      have c44 : w5.cell? ⟨b4, 44, none⟩ = some (.slice (some ⟨g2, 0, none⟩) 1 1) := (cell_of_row _ _ 44 _ _ _ hb4).trans rfl
      have e0 : w5.cell? ⟨g2, 0, none⟩ = some (.string ⟨#[]⟩) := (cell_of_row _ _ 0 _ _ _ hhg2).trans rfl
      have e0' : w5.frozen? ⟨g2, 0, none⟩ = false := frozen_of_row _ _ 0 _ _ hhg2
      have k3 := (hBb4.block b3 (Array.getElem?_eq_some_iff.1 hb3).1).trans hb3
      have k1 := (hBb4.block g1 (Array.getElem?_eq_some_iff.1 hhg1).1).trans hhg1
      have l3 := (Array.getElem?_eq_some_iff.1 hb3).1
      have l1 := (Array.getElem?_eq_some_iff.1 hhg1).1
      have hB5 : Below w.heap.size w w5 := (HB.out.trans (hBb3.mono HB.out.size)).trans (hBb4.mono (Nat.le_trans HB.out.size hBb3.size))
      have hw3 : w.heap.size ≤ w3.heap.size := Nat.le_trans HB.out.size hBb3.size
      have HK3 := Lib.hid k3
      have HK1 := Lib.hid k1
      have HB5 := Lib.hid hB5
      clear k3 k1 hB5 hb3 hb4 hhg1 hhg2 hBb3 hBb4 hbg1 hbg2
      go_upto_region 12 with fail
      have k3 := (heap_setCell_other w5 ⟨g2, 0, none⟩ b3 (.string ⟨#[111, 116, 104, 101, 114]⟩) (by show b3 ≠ g2; omega)).trans HK3.out
      have k1 := (heap_setCell_other w5 ⟨g2, 0, none⟩ g1 (.string ⟨#[111, 116, 104, 101, 114]⟩) (by show g1 ≠ g2; omega)).trans HK1.out
      have hB6 : Below w.heap.size w (w5.setCell ⟨g2, 0, none⟩ (.string ⟨#[111, 116, 104, 101, 114]⟩)) := HB5.out.setCell (by show w.heap.size ≤ g2; omega) _
      generalize (w5.setCell ⟨g2, 0, none⟩ (.string ⟨#[111, 116, 104, 101, 114]⟩)) = w6 at *
      have K3 := Lib.hid k3
      have K1 := Lib.hid k1
      have HB6 := Lib.hid hB6
      clear HK3 HK1 HB5 e0 e0' c44 k3 k1 hB6
      have hbd : Below w6.heap.size w6 w6.drew := ⟨rfl, rfl, rfl, Nat.le_refl _, fun _ _ => rfl⟩
      have K3d : Hid (w6.drew.heap[b3]? = some (.cells (msgB g1) 33 (0, 0))) := Lib.hid K3.out
      clear K3d HS HB HXb3 HXb4
      skip
      rename_i A1 A2 A3 A4 A5 A6 A7
      revert A1 A2 x wr u0 u9 u10 u11 u12 u13 u14 u15 u16 u17 u18 u19 u20 u21 i hi hlt A3 A4 A5 hi9 w2 g1 hlg1 hhg1 w3 b3 w4 g2 hlg2 hhg2 w5 b4 l3 l1 hw3 A6 A7 w6 K3 K1 HB6 hbd
      exact hR0.out⟩
end Go.Proofs.Ytfjbjcaccfcakaa
