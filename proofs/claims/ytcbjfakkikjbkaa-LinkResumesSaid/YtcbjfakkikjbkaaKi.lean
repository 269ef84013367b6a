/-
  A link's calls: made, its credit, what becomes of a delivery. Conditions: the link lies in memory.
-/
import Derived.Test.YtcbjfakkikjbkaaKh
import Derived.StillTailTactics
import Derived.Deep.QuietTactic
namespace Go.Proofs.Ytcbjfakkikjbkaa
open Go.RowKit Go.Maps
set_option linter.all false

/-- is a kind final? -/
def outK (k : Int) : Bool := decide (36 ≤ k ∧ k ≤ 39)
set_option maxRecDepth 20000 in
set_option maxHeartbeats 4000000 in
theorem outcome_any (w : World) (s : St) (t : Sl) : Calls Try.prog 40 #[.agg (sarr s t)] w fun e w' => e = .returned (.bool (outK s.kind)) ∧ Below w.heap.size w w' := by
  obtain ⟨D, hD⟩ : ∃ D, outK s.kind = D := ⟨_, rfl⟩
  rw [hD]
  have HD := Lib.hid hD
  clear hD
  obtain ⟨P, hP⟩ : ∃ P, sarr s t = P := ⟨_, rfl⟩
  rw [hP]
  have HP := Lib.hid hP
  clear hP
  go_enter Try.func40, Try.ntmps40
  go_upto_region 1 with fail
  have hb0 : Below w.heap.size w (w.alloc (.cells P 33)) := (Below.refl _ _).alloc (Nat.le_refl _) _
  have ox : (w.alloc (.cells P 33)).heap[w.heap.size]? = some (.cells P 33 (0, 0)) := _root_.Go.heap_alloc_new _ _
  generalize (w.alloc (.cells P 33)) = w0 at *
  obtain ⟨x, hx⟩ : ∃ x, w.heap.size = x := ⟨_, rfl⟩
  rw [hx] at ox ⊢
  rw [← HP.out] at ox
  have x0 : w0.cell? ⟨x, 0, none⟩ = some (.int .i64 s.kind) := (cell_of_row _ _ 0 _ _ _ ox).trans rfl
  have HB0 := Lib.hid hb0
  clear ox hx hb0
  generalize s.kind = k at *
  by_cases h36 : k = 36
  · have hDt : D = true := by rw [← HD.out, h36]; rfl
    subst hDt
    have e36 : (k == 36) = true := by simpa using h36
    clear h36
    go_wp2_with fail
    go_ret
    exact ⟨rfl, HB0.out⟩
  · have e36 : (k == 36) = false := by simpa using h36
    have N36 := Lib.hid h36
    clear h36
    by_cases h37 : k = 37
    · have hDt : D = true := by rw [← HD.out, h37]; rfl
      subst hDt
      have e37 : (k == 37) = true := by simpa using h37
      clear h37
      go_wp2_with fail
      go_ret
      exact ⟨rfl, HB0.out⟩
    · have e37 : (k == 37) = false := by simpa using h37
      have N37 := Lib.hid h37
      clear h37
      by_cases h38 : k = 38
      · have hDt : D = true := by rw [← HD.out, h38]; rfl
        subst hDt
        have e38 : (k == 38) = true := by simpa using h38
        clear h38
        go_wp2_with fail
        go_ret
        exact ⟨rfl, HB0.out⟩
      · have e38 : (k == 38) = false := by simpa using h38
        have N38 := Lib.hid h38
        clear h38
        by_cases h39 : k = 39
        · have hDt : D = true := by rw [← HD.out, h39]; rfl
          subst hDt
          have e39 : (k == 39) = true := by simpa using h39
          clear h39
          go_wp2_with fail
          go_ret
          exact ⟨rfl, HB0.out⟩
        · have e39 : (k == 39) = false := by simpa using h39
          have N39 := Lib.hid h39
          clear h39
          have hDf : D = false := by rw [← HD.out]; exact decide_eq_false (by have := N36.out; have := N37.out; have := N38.out; have := N39.out; omega)
          subst hDf
          go_wp2_with fail
          go_ret
          exact ⟨rfl, HB0.out⟩

theorem range_of_mid {w : World} {x : Nat} {A B : Array Value} {t : TypeId} {fr : Nat × Nat} (h : w.heap[x]? = some (.cells (A ++ B) t fr)) : w.rangeAt x A.size B.toList := fun j v hv => by
  rw [cell_of_row _ _ (A.size + j) _ _ _ h, Array.getElem?_append_right (by omega), Nat.add_sub_cancel_left]
  simpa using hv
theorem range_of_fst {w : World} {x : Nat} {A B : Array Value} {t : TypeId} {fr : Nat × Nat} (h : w.heap[x]? = some (.cells (A ++ B) t fr)) : w.rangeAt x 0 A.toList := fun j v hv => by
  have hj : j < A.size := by have := (List.getElem?_eq_some_iff.1 hv).1; simpa using this
  rw [Nat.zero_add, cell_of_row _ _ j _ _ _ h, Array.getElem?_append_left hj]
  simpa using hv

theorem wpList_load_midG {P : Program} {ops : Array Oper} {rest : List Oper} {op : Oper} {a : Act} {w : World} {Q : Exit → Act → World → Prop} (ty : TypeId) (x : Operand) (ho : op.op = .load ty x)
    (d : Option Tmp) (hd : op.dst = d) (b o : Nat) (hx : a.eval x = .pointer (some ⟨b, o, none⟩)) (cs : Array Value) (D : TypeDesc) (hw : Region.wanted op (yielded ops a.tmps) = true) (hc : w.rangeAt b o cs.toList)
    (hu : P.underlying ty = some D) (hD : D.isRow = true) (hi : (P.info? ty).map (·.size) = some cs.toList.length)
    (h : wpList P ops Q rest (a.put d (.agg cs)) w) : wpList P ops Q (op :: rest) a w := by
  subst hd
  exact wpList_step fun K hK => by rw [if_pos hw]; exact wp_load_mid ty x ho b o hx cs.toList D hc hu hD hi (hK _ _ (by simpa using h))
theorem sarr_size (s : St) (t : Sl) : (sarr s t).size = 19 := rfl
theorem said_mid {w : World} {x : Nat} {a b : St} {ta tb : Sl} {t : TypeId} {fr : Nat × Nat} (h : w.heap[x]? = some (.cells (sarr a ta ++ sarr b tb) t fr)) : w.rangeAt x 19 (scells b tb) := by
  have h1 := range_of_mid h
  rw [sarr_size] at h1
  exact h1
theorem said_fst {w : World} {x : Nat} {a b : St} {ta tb : Sl} {t : TypeId} {fr : Nat × Nat} (h : w.heap[x]? = some (.cells (sarr a ta ++ sarr b tb) t fr)) : w.rangeAt x 0 (scells a ta) := range_of_fst h
/-- what becomes of a delivery that is here -/
def becS (rc there : Bool) (kp kl : Int) : Int := if rc = true ∧ there = true then 4 else if rc = true then 1 else if there = true ∧ outK kl = true then 2 else if there = false ∧ outK kp = true then 1 else 3
set_option maxRecDepth 20000 in
set_option maxHeartbeats 4000000 in
theorem becomes_any (w : World) (q m : Nat) (G : Nat → Prop) (l : Lk) (a b s : St) (ta tb ts : Sl) (there : Bool) (h : LkIn w q m G l) :
    Calls Try.prog 24 #[.pointer (some ⟨q, 0, none⟩), .agg (sarr a ta ++ sarr b tb), .agg (sarr s ts), .bool there] w fun e w' => e = .returned (.int .i64 (becS l.rc there b.kind s.kind)) ∧ Below w.heap.size w w' := by
  have HO := Lib.hid (fun W => outcome_any W s ts)
  have HO2 := Lib.hid (fun W => outcome_any W b tb)
  have h1 := h.cs 1 _ rfl
  have HL := Lib.hid h.lq
  obtain ⟨D, hD⟩ : ∃ D, becS l.rc there b.kind s.kind = D := ⟨_, rfl⟩
  rw [hD]
  have HD := Lib.hid hD
  clear hD
  obtain ⟨A, hA⟩ : ∃ A, sarr a ta ++ sarr b tb = A := ⟨_, rfl⟩
  obtain ⟨B, hB⟩ : ∃ B, sarr s ts = B := ⟨_, rfl⟩
  rw [hA, hB]
  have HAB := Lib.hid (And.intro hA hB)
  clear hA hB
  have hq := h.row
  clear h
  go_enter Try.func24, Try.ntmps24
  go_upto_region 1 with fail
  obtain ⟨w0, x, y, e0, hx, hy, hz, hb0, ox, oy⟩ := box2 w A B 78 33
  change Code.wp _ _ _ _ ((w.alloc (.cells A 78)).alloc (.cells B 33))
  rw [e0, hx, hy]
  have HB0 := Lib.hid hb0
  have c1 : w0.cell? ⟨q, 1, none⟩ = some (.bool l.rc) := (World.cell?_of_block (hb0.block q HL.out)).trans h1
  rw [← HAB.out.1] at ox
  rw [← HAB.out.2] at oy
  have HX := Lib.hid (And.intro ox oy)
  clear e0 hx hy hz hb0 ox oy h1 hq
  cases hrc : l.rc
  · rw [hrc] at c1
    rw [hrc] at HD
    cases there
    · have hc := HO2.out w0
      have HRB := Lib.hid (said_mid HX.out.1)
      obtain ⟨z, hz⟩ : ∃ z, outK b.kind = z := ⟨_, rfl⟩
      rw [hz] at hc
      have HZ := Lib.hid hz
      clear hz
      go_wp2_with (refine wpList_load_midG 33 (.tmp 34) rfl (some 35) rfl x 19 rfl (sarr b tb) _ (by rfl) HRB.out Try.underlying33 rfl size_state ?_)
      refine hc.mono ?_
      clear hc
      rintro e w1 ⟨rfl, hb1⟩
      have HB1 := Lib.hid (HB0.out.trans (hb1.mono HB0.out.size))
      clear hb1
      have hd := HD.out
      unfold becS at hd
      rw [HZ.out] at hd
      cases z
      · have hDD : D = 3 := by rw [← hd]; simp
        subst hDD
        clear hd
        go_wp2_with fail
        go_ret
        exact ⟨rfl, HB1.out⟩
      · have hDD : D = 1 := by rw [← hd]; simp
        subst hDD
        clear hd
        go_wp2_with fail
        go_ret
        exact ⟨rfl, HB1.out⟩
    · have hc := HO.out w0
      have HRY := Lib.hid (range_of_row HX.out.2)
      obtain ⟨z, hz⟩ : ∃ z, outK s.kind = z := ⟨_, rfl⟩
      rw [hz] at hc
      have HZ := Lib.hid hz
      clear hz
      go_wp2_with (refine wpList_load_midG 33 (.tmp 6) rfl (some 27) rfl y 0 rfl (sarr s ts) _ (by rfl) HRY.out Try.underlying33 rfl size_state ?_)
      refine hc.mono ?_
      clear hc
      rintro e w1 ⟨rfl, hb1⟩
      have HB1 := Lib.hid (HB0.out.trans (hb1.mono HB0.out.size))
      clear hb1
      have hd := HD.out
      unfold becS at hd
      rw [HZ.out] at hd
      cases z
      · have hDD : D = 3 := by rw [← hd]; simp
        subst hDD
        clear hd
        go_wp2_with fail
        go_ret
        exact ⟨rfl, HB1.out⟩
      · have hDD : D = 2 := by rw [← hd]; simp
        subst hDD
        clear hd
        go_wp2_with fail
        go_ret
        exact ⟨rfl, HB1.out⟩
  · rw [hrc] at c1
    rw [hrc] at HD
    have hd := HD.out
    unfold becS at hd
    cases there
    · have hDD : D = 1 := by rw [← hd]; simp
      subst hDD
      clear hd
      go_wp2_with fail
      go_ret
      exact ⟨rfl, HB0.out⟩
    · have hDD : D = 4 := by rw [← hd]; simp
      subst hDD
      clear hd
      go_wp2_with fail
      go_ret
      exact ⟨rfl, HB0.out⟩

end Go.Proofs.Ytcbjfakkikjbkaa
