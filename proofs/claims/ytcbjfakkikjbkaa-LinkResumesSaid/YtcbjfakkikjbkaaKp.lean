/-
  The two orders that a link sorts by. No conditions.
-/
import Derived.Test.YtcbjfakkikjbkaaKo
import Derived.Laws.Cover1
namespace Go.Proofs.Ytcbjfakkikjbkaa
open Go.RowKit Go.Maps Go.Sort
set_option linter.all false

theorem less_cmp : ∀ a b : List UInt8, Op.bytesLess a b = decide (Lib.compareBytes a b < 0)
  | [], [] => rfl
  | [], _ :: _ => rfl
  | _ :: _, [] => rfl
  | a :: r, b :: s => by
    rw [Op.bytesLess, Lib.compareBytes, less_cmp r s]
    by_cases h1 : a < b
    · rw [if_pos h1]
      simp [h1]
    · by_cases h2 : b < a
      · have h3 : ¬ a = b := fun e => by rw [e] at h2; exact absurd h2 (UInt8.lt_irrefl b)
        rw [if_neg h1, if_pos h2]
        simp [h1, h3]
      · have h : a = b := UInt8.le_antisymm (UInt8.not_lt.1 h2) (UInt8.not_lt.1 h1)
        rw [if_neg h1, if_neg h2]
        simp [h]
theorem cmp3 (a b : ByteArray) : cmpT a b = if Op.bytesLess a.toList b.toList = true then -1 else if a = b then 0 else 1 := by
  have h1 := less_cmp a.data.toList b.data.toList
  have h2 := cmpB_sgn a.data.toList b.data.toList
  have h3 := @cmpT_zero a b
  rw [ByteArray.toList_eq, ByteArray.toList_eq, h1]
  unfold cmpT at *
  unfold Sgn at h2
  by_cases h4 : Lib.compareBytes a.data.toList b.data.toList < 0
  · rw [if_pos (decide_eq_true h4)]; omega
  · rw [if_neg (by simpa using h4)]
    by_cases h5 : a = b
    · rw [if_pos h5]; exact h3.2 h5
    · rw [if_neg h5]
      have : Lib.compareBytes a.data.toList b.data.toList ≠ 0 := fun q => h5 (h3.1 q)
      omega
set_option maxRecDepth 20000 in
set_option maxHeartbeats 4000000 in
theorem compare_any (a b : ByteArray) (w : World) : Calls Try.prog 27 #[.string a, .string b] w fun e w' => e = .returned (.int .i64 (cmpT a b)) ∧ w' = w := by
  have hn : ∀ (x : ByteArray) (W : World), Calls Try.prog 43 #[.string x] W fun e w' => e = .returned (.bool false) ∧ w' = W := fun x W => by
    go_enter Try.func43, Try.ntmps43
    go_wp2_with fail
    go_ret
    refine ⟨by simp, rfl⟩
  have HN := Lib.hid hn
  clear hn
  go_enter Try.func27, Try.ntmps27
  go_wp2_with fail
  refine (HN.out a w).mono ?_
  rintro e w1 ⟨rfl, rfl⟩
  go_wp2_with fail
  refine (HN.out b _).mono ?_
  rintro e w1 ⟨rfl, rfl⟩
  have h3 := cmp3 a b
  obtain ⟨D, hD⟩ : ∃ D, cmpT a b = D := ⟨_, rfl⟩
  have HD := Lib.hid hD
  rw [hD] at h3
  clear hD
  cases hl : Op.bytesLess a.toList b.toList
  · rw [hl] at h3
    by_cases he : a = b
    · have ee : (a.toList == b.toList) = true := by rw [teq]; exact decide_eq_true he
      rw [if_neg (by simp), if_pos he] at h3
      have H3 := Lib.hid h3
      clear he h3
      go_wp2_with fail
      go_ret
      exact ⟨by rw [HD.out, H3.out]; rfl, rfl⟩
    · have ee : (a.toList == b.toList) = false := by rw [teq]; exact decide_eq_false he
      rw [if_neg (by simp), if_neg he] at h3
      have H3 := Lib.hid h3
      clear he h3
      go_wp2_with fail
      go_ret
      exact ⟨by rw [HD.out, H3.out]; rfl, rfl⟩
  · rw [hl, if_pos rfl] at h3
    have H3 := Lib.hid h3
    clear h3
    go_wp2_with fail
    go_ret
    exact ⟨by rw [HD.out, H3.out]; rfl, rfl⟩

def rcells (r : ByteArray × Int) : List Value := [.string r.1, .int .i64 r.2]
theorem rcells_len (r : ByteArray × Int) : (rcells r).length = 2 := rfl
set_option maxRecDepth 20000 in
theorem ordU_any (x y : Un × Sl) (w : World) : Calls Try.prog 30 #[.agg (ucells x.1 x.2).toArray, .agg (ucells y.1 y.2).toArray] w fun e w' => e = .returned (.int .i64 (cmpT x.1.tag y.1.tag)) ∧ w' = (w.alloc (.cells (ucells x.1 x.2).toArray 52)).alloc (.cells (ucells y.1 y.2).toArray 52) := by
  have HC := Lib.hid (strcmp_any x.1.tag y.1.tag)
  obtain ⟨A, hA⟩ : ∃ A, (ucells x.1 x.2).toArray = A := ⟨_, rfl⟩
  obtain ⟨B, hB⟩ : ∃ B, (ucells y.1 y.2).toArray = B := ⟨_, rfl⟩
  have h0 : A[0]? = some (.string x.1.tag) := by rw [← hA]; rfl
  have k0 : B[0]? = some (.string y.1.tag) := by rw [← hB]; rfl
  rw [hA, hB]
  clear hA hB
  go_enter Try.func30, Try.ntmps30
  go_upto_region 1 with fail
  obtain ⟨w0, p, q, e0, hx, hy, hz, hb0, ox, oy⟩ := box2 w A B 52 52
  change Code.wp _ _ _ _ ((w.alloc (.cells A 52)).alloc (.cells B 52))
  have HE0 := Lib.hid e0
  rw [e0, hx, hy]
  have x0 : w0.cell? ⟨p, 0, none⟩ = some (.string x.1.tag) := (cell_of_row _ _ 0 _ _ _ ox).trans h0
  have y0 : w0.cell? ⟨q, 0, none⟩ = some (.string y.1.tag) := (cell_of_row _ _ 0 _ _ _ oy).trans k0
  clear e0 hx hy hz hb0 ox oy h0 k0
  go_wp2_with fail
  refine (HC.out w0).mono ?_
  rintro e w1 ⟨rfl, rfl⟩
  go_wp2_with fail
  go_ret
  exact ⟨rfl, HE0.out.symm⟩
set_option maxRecDepth 20000 in
theorem ordR_any (x y : ByteArray × Int) (w : World) : Calls Try.prog 26 #[.agg (rcells x).toArray, .agg (rcells y).toArray] w fun e w' => e = .returned (.int .i64 (cmpT x.1 y.1)) ∧ w' = (w.alloc (.cells (rcells x).toArray 46)).alloc (.cells (rcells y).toArray 46) := by
  have HC := Lib.hid (compare_any x.1 y.1)
  obtain ⟨A, hA⟩ : ∃ A, (rcells x).toArray = A := ⟨_, rfl⟩
  obtain ⟨B, hB⟩ : ∃ B, (rcells y).toArray = B := ⟨_, rfl⟩
  have h0 : A[0]? = some (.string x.1) := by rw [← hA]; rfl
  have k0 : B[0]? = some (.string y.1) := by rw [← hB]; rfl
  rw [hA, hB]
  clear hA hB
  go_enter Try.func26, Try.ntmps26
  go_upto_region 1 with fail
  obtain ⟨w0, p, q, e0, hx, hy, hz, hb0, ox, oy⟩ := box2 w A B 46 46
  change Code.wp _ _ _ _ ((w.alloc (.cells A 46)).alloc (.cells B 46))
  have HE0 := Lib.hid e0
  rw [e0, hx, hy]
  have x0 : w0.cell? ⟨p, 0, none⟩ = some (.string x.1) := (cell_of_row _ _ 0 _ _ _ ox).trans h0
  have y0 : w0.cell? ⟨q, 0, none⟩ = some (.string y.1) := (cell_of_row _ _ 0 _ _ _ oy).trans k0
  clear e0 hx hy hz hb0 ox oy h0 k0
  go_wp2_with fail
  refine (HC.out w0).mono ?_
  rintro e w1 ⟨rfl, rfl⟩
  go_wp2_with fail
  go_ret
  exact ⟨rfl, HE0.out.symm⟩
end Go.Proofs.Ytcbjfakkikjbkaa
