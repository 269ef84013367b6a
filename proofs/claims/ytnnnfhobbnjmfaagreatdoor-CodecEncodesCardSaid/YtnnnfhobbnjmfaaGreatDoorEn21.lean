/-
  Lemmas on the codec. Conditions: as each says.
-/
import Derived.Test.YtnnnfhobbnjmfaaGreatDoorEn20
import Derived.Test.YtnnnfhobbnjmfaaGreatDoorEn04
import Derived.Deep.DeepCutAuto
namespace Go.Proofs.YtnnnfhobbnjmfaaGreatDoor
open Go.RowKit
set_option linter.all false

attribute [local go_sem] Oper.semAt_some

set_option maxRecDepth 20000 in
set_option maxHeartbeats 4000000 in
theorem signed8_any (n : Int) (w : World) (h : IsU64 n) : Calls Tryz.prog 116 #[.int .u64 n, .int .i64 8] w fun e w' => e = .returned (.bool (within2 128 n)) ∧ w' = w := by
  have hw := wrap_twoC h
  obtain ⟨t, ht⟩ : ∃ t, twoC n = t := ⟨_, rfl⟩
  rw [ht] at hw
  have HW2 := Lib.hid (show within2 128 n = decide (-128 ≤ t ∧ t < 128) from by unfold within2; rw [ht])
  have htb : -9223372036854775808 ≤ t ∧ t ≤ 9223372036854775807 := by
    rw [← ht]; unfold twoC; obtain ⟨h1, h2⟩ := h; split <;> omega
  obtain ⟨t0, t1⟩ := htb
  clear h ht
  go_enter Tryz.func116, Tryz.ntmps116
  by_cases c1 : -128 ≤ t
  · by_cases c2 : t < 128
    · go_wp2_with fail
      go_ret
      exact ⟨ret_boolV (by rw [HW2.out]; simp; omega), rfl⟩
    · go_wp2_with fail
      go_ret
      exact ⟨ret_boolV (by rw [HW2.out]; simp; omega), rfl⟩
  · go_wp2_with fail
    go_ret
    exact ⟨ret_boolV (by rw [HW2.out]; simp; omega), rfl⟩

set_option maxRecDepth 20000 in
set_option maxHeartbeats 4000000 in
theorem signed16_any (n : Int) (w : World) (h : IsU64 n) : Calls Tryz.prog 116 #[.int .u64 n, .int .i64 16] w fun e w' => e = .returned (.bool (within2 32768 n)) ∧ w' = w := by
  have hw := wrap_twoC h
  obtain ⟨t, ht⟩ : ∃ t, twoC n = t := ⟨_, rfl⟩
  rw [ht] at hw
  have HW2 := Lib.hid (show within2 32768 n = decide (-32768 ≤ t ∧ t < 32768) from by unfold within2; rw [ht])
  have htb : -9223372036854775808 ≤ t ∧ t ≤ 9223372036854775807 := by
    rw [← ht]; unfold twoC; obtain ⟨h1, h2⟩ := h; split <;> omega
  obtain ⟨t0, t1⟩ := htb
  clear h ht
  go_enter Tryz.func116, Tryz.ntmps116
  by_cases c1 : -32768 ≤ t
  · by_cases c2 : t < 32768
    · go_wp2_with fail
      go_ret
      exact ⟨ret_boolV (by rw [HW2.out]; simp; omega), rfl⟩
    · go_wp2_with fail
      go_ret
      exact ⟨ret_boolV (by rw [HW2.out]; simp; omega), rfl⟩
  · go_wp2_with fail
    go_ret
    exact ⟨ret_boolV (by rw [HW2.out]; simp; omega), rfl⟩

set_option maxRecDepth 20000 in
set_option maxHeartbeats 4000000 in
theorem signed32_any (n : Int) (w : World) (h : IsU64 n) : Calls Tryz.prog 116 #[.int .u64 n, .int .i64 32] w fun e w' => e = .returned (.bool (within2 2147483648 n)) ∧ w' = w := by
  have hw := wrap_twoC h
  obtain ⟨t, ht⟩ : ∃ t, twoC n = t := ⟨_, rfl⟩
  rw [ht] at hw
  have HW2 := Lib.hid (show within2 2147483648 n = decide (-2147483648 ≤ t ∧ t < 2147483648) from by unfold within2; rw [ht])
  have htb : -9223372036854775808 ≤ t ∧ t ≤ 9223372036854775807 := by
    rw [← ht]; unfold twoC; obtain ⟨h1, h2⟩ := h; split <;> omega
  obtain ⟨t0, t1⟩ := htb
  clear h ht
  go_enter Tryz.func116, Tryz.ntmps116
  by_cases c1 : -2147483648 ≤ t
  · by_cases c2 : t < 2147483648
    · go_wp2_with fail
      go_ret
      exact ⟨ret_boolV (by rw [HW2.out]; simp; omega), rfl⟩
    · go_wp2_with fail
      go_ret
      exact ⟨ret_boolV (by rw [HW2.out]; simp; omega), rfl⟩
  · go_wp2_with fail
    go_ret
    exact ⟨ret_boolV (by rw [HW2.out]; simp; omega), rfl⟩

set_option maxRecDepth 20000 in
set_option maxHeartbeats 4000000 in
theorem number_any (v : V) (w : World) (s : Value) (h : VIn w v s) :
    Calls Tryz.prog 90 #[.agg #[.int .i64 v.kind, .int .u64 v.num, .string v.text, s, .int .i64 v.elem]] w fun e w' => e = .returned (.bool (numOk v.kind v.num)) ∧ Below w.heap.size w w' := by
  obtain ⟨p, c, hs, h1, h2, h3⟩ := h.slice
  obtain ⟨N, hN⟩ : ∃ N, v.list.length = N := ⟨_, rfl⟩
  rw [hN] at hs h1 h3
  subst hs
  unfold maxLen at h2
  obtain ⟨D, hD⟩ : ∃ D, numOk v.kind v.num = D := ⟨_, rfl⟩
  rw [hD]
  have hu := h.wf.n
  have HU := Lib.hid hu
  obtain ⟨u0, u1⟩ := hu
  clear h hN
  by_cases e1 : v.kind = 1
  · have HDX := Lib.hid (show D = decide (v.num < 2) by rw [← hD, e1]; simp [numOk])
    have E := Lib.hid e1
    clear hD e1
    go_enter Tryz.func90, Tryz.ntmps90
    go_upto_region 1 with fail
    have hb0 : Below w.heap.size w (w.alloc (.cells #[.int .i64 v.kind, .int .u64 v.num, .string v.text, (.slice p N c), .int .i64 v.elem] 25)) := ((Below.refl _ _).alloc (Nat.le_refl _) _)
    have ox : (w.alloc (.cells #[.int .i64 v.kind, .int .u64 v.num, .string v.text, (.slice p N c), .int .i64 v.elem] 25)).heap[w.heap.size]? = some (.cells #[.int .i64 v.kind, .int .u64 v.num, .string v.text, (.slice p N c), .int .i64 v.elem] 25 (0, 0)) := _root_.Go.heap_alloc_new _ _
    generalize (w.alloc (.cells #[.int .i64 v.kind, .int .u64 v.num, .string v.text, (.slice p N c), .int .i64 v.elem] 25)) = w0 at *
    obtain ⟨x, hx⟩ : ∃ x, w.heap.size = x := ⟨_, rfl⟩
    rw [hx] at ox ⊢
    have HB0 := Lib.hid hb0
    have HOx := Lib.hid ox
    clear hb0 ox hx
    have x0 : w0.cell? ⟨x, 0, none⟩ = some (.int .i64 v.kind) := (cell_of_row _ _ 0 _ _ _ HOx.out).trans rfl
    have x1 : w0.cell? ⟨x, 1, none⟩ = some (.int .u64 v.num) := (cell_of_row _ _ 1 _ _ _ HOx.out).trans rfl
    rw [E.out] at x0
    go_wp2_with fail
    all_goals
      go_ret
      first
        | exact ⟨by rw [HDX.out]; rfl, HB0.out⟩
        | (refine ⟨ret_boolV ?_, HB0.out⟩; rw [HDX.out, Bool.eq_iff_iff]; simp; omega)
  by_cases e2 : v.kind = 2
  · have HDX := Lib.hid (show D = decide (v.num < 256) by rw [← hD, e2]; simp [numOk])
    have E := Lib.hid e2
    clear hD e2
    go_enter Tryz.func90, Tryz.ntmps90
    go_upto_region 1 with fail
    have hb0 : Below w.heap.size w (w.alloc (.cells #[.int .i64 v.kind, .int .u64 v.num, .string v.text, (.slice p N c), .int .i64 v.elem] 25)) := ((Below.refl _ _).alloc (Nat.le_refl _) _)
    have ox : (w.alloc (.cells #[.int .i64 v.kind, .int .u64 v.num, .string v.text, (.slice p N c), .int .i64 v.elem] 25)).heap[w.heap.size]? = some (.cells #[.int .i64 v.kind, .int .u64 v.num, .string v.text, (.slice p N c), .int .i64 v.elem] 25 (0, 0)) := _root_.Go.heap_alloc_new _ _
    generalize (w.alloc (.cells #[.int .i64 v.kind, .int .u64 v.num, .string v.text, (.slice p N c), .int .i64 v.elem] 25)) = w0 at *
    obtain ⟨x, hx⟩ : ∃ x, w.heap.size = x := ⟨_, rfl⟩
    rw [hx] at ox ⊢
    have HB0 := Lib.hid hb0
    have HOx := Lib.hid ox
    clear hb0 ox hx
    have x0 : w0.cell? ⟨x, 0, none⟩ = some (.int .i64 v.kind) := (cell_of_row _ _ 0 _ _ _ HOx.out).trans rfl
    have x1 : w0.cell? ⟨x, 1, none⟩ = some (.int .u64 v.num) := (cell_of_row _ _ 1 _ _ _ HOx.out).trans rfl
    rw [E.out] at x0
    go_wp2_with fail
    all_goals
      go_ret
      first
        | exact ⟨by rw [HDX.out]; rfl, HB0.out⟩
        | (refine ⟨ret_boolV ?_, HB0.out⟩; rw [HDX.out, Bool.eq_iff_iff]; simp; omega)
  by_cases e3 : v.kind = 3
  · have HDX := Lib.hid (show D = decide (v.num < 65536) by rw [← hD, e3]; simp [numOk])
    have E := Lib.hid e3
    clear hD e3
    go_enter Tryz.func90, Tryz.ntmps90
    go_upto_region 1 with fail
    have hb0 : Below w.heap.size w (w.alloc (.cells #[.int .i64 v.kind, .int .u64 v.num, .string v.text, (.slice p N c), .int .i64 v.elem] 25)) := ((Below.refl _ _).alloc (Nat.le_refl _) _)
    have ox : (w.alloc (.cells #[.int .i64 v.kind, .int .u64 v.num, .string v.text, (.slice p N c), .int .i64 v.elem] 25)).heap[w.heap.size]? = some (.cells #[.int .i64 v.kind, .int .u64 v.num, .string v.text, (.slice p N c), .int .i64 v.elem] 25 (0, 0)) := _root_.Go.heap_alloc_new _ _
    generalize (w.alloc (.cells #[.int .i64 v.kind, .int .u64 v.num, .string v.text, (.slice p N c), .int .i64 v.elem] 25)) = w0 at *
    obtain ⟨x, hx⟩ : ∃ x, w.heap.size = x := ⟨_, rfl⟩
    rw [hx] at ox ⊢
    have HB0 := Lib.hid hb0
    have HOx := Lib.hid ox
    clear hb0 ox hx
    have x0 : w0.cell? ⟨x, 0, none⟩ = some (.int .i64 v.kind) := (cell_of_row _ _ 0 _ _ _ HOx.out).trans rfl
    have x1 : w0.cell? ⟨x, 1, none⟩ = some (.int .u64 v.num) := (cell_of_row _ _ 1 _ _ _ HOx.out).trans rfl
    rw [E.out] at x0
    go_wp2_with fail
    all_goals
      go_ret
      first
        | exact ⟨by rw [HDX.out]; rfl, HB0.out⟩
        | (refine ⟨ret_boolV ?_, HB0.out⟩; rw [HDX.out, Bool.eq_iff_iff]; simp; omega)
  by_cases e4 : v.kind = 4
  · have HDX := Lib.hid (show D = decide (v.num < 4294967296) by rw [← hD, e4]; simp [numOk])
    have E := Lib.hid e4
    clear hD e4
    go_enter Tryz.func90, Tryz.ntmps90
    go_upto_region 1 with fail
    have hb0 : Below w.heap.size w (w.alloc (.cells #[.int .i64 v.kind, .int .u64 v.num, .string v.text, (.slice p N c), .int .i64 v.elem] 25)) := ((Below.refl _ _).alloc (Nat.le_refl _) _)
    have ox : (w.alloc (.cells #[.int .i64 v.kind, .int .u64 v.num, .string v.text, (.slice p N c), .int .i64 v.elem] 25)).heap[w.heap.size]? = some (.cells #[.int .i64 v.kind, .int .u64 v.num, .string v.text, (.slice p N c), .int .i64 v.elem] 25 (0, 0)) := _root_.Go.heap_alloc_new _ _
    generalize (w.alloc (.cells #[.int .i64 v.kind, .int .u64 v.num, .string v.text, (.slice p N c), .int .i64 v.elem] 25)) = w0 at *
    obtain ⟨x, hx⟩ : ∃ x, w.heap.size = x := ⟨_, rfl⟩
    rw [hx] at ox ⊢
    have HB0 := Lib.hid hb0
    have HOx := Lib.hid ox
    clear hb0 ox hx
    have x0 : w0.cell? ⟨x, 0, none⟩ = some (.int .i64 v.kind) := (cell_of_row _ _ 0 _ _ _ HOx.out).trans rfl
    have x1 : w0.cell? ⟨x, 1, none⟩ = some (.int .u64 v.num) := (cell_of_row _ _ 1 _ _ _ HOx.out).trans rfl
    rw [E.out] at x0
    go_wp2_with fail
    all_goals
      go_ret
      first
        | exact ⟨by rw [HDX.out]; rfl, HB0.out⟩
        | (refine ⟨ret_boolV ?_, HB0.out⟩; rw [HDX.out, Bool.eq_iff_iff]; simp; omega)
  by_cases e10 : v.kind = 10
  · have HDX := Lib.hid (show D = decide (v.num < 4294967296) by rw [← hD, e10]; simp [numOk])
    have E := Lib.hid e10
    clear hD e10
    go_enter Tryz.func90, Tryz.ntmps90
    go_upto_region 1 with fail
    have hb0 : Below w.heap.size w (w.alloc (.cells #[.int .i64 v.kind, .int .u64 v.num, .string v.text, (.slice p N c), .int .i64 v.elem] 25)) := ((Below.refl _ _).alloc (Nat.le_refl _) _)
    have ox : (w.alloc (.cells #[.int .i64 v.kind, .int .u64 v.num, .string v.text, (.slice p N c), .int .i64 v.elem] 25)).heap[w.heap.size]? = some (.cells #[.int .i64 v.kind, .int .u64 v.num, .string v.text, (.slice p N c), .int .i64 v.elem] 25 (0, 0)) := _root_.Go.heap_alloc_new _ _
    generalize (w.alloc (.cells #[.int .i64 v.kind, .int .u64 v.num, .string v.text, (.slice p N c), .int .i64 v.elem] 25)) = w0 at *
    obtain ⟨x, hx⟩ : ∃ x, w.heap.size = x := ⟨_, rfl⟩
    rw [hx] at ox ⊢
    have HB0 := Lib.hid hb0
    have HOx := Lib.hid ox
    clear hb0 ox hx
    have x0 : w0.cell? ⟨x, 0, none⟩ = some (.int .i64 v.kind) := (cell_of_row _ _ 0 _ _ _ HOx.out).trans rfl
    have x1 : w0.cell? ⟨x, 1, none⟩ = some (.int .u64 v.num) := (cell_of_row _ _ 1 _ _ _ HOx.out).trans rfl
    rw [E.out] at x0
    go_wp2_with fail
    all_goals
      go_ret
      first
        | exact ⟨by rw [HDX.out]; rfl, HB0.out⟩
        | (refine ⟨ret_boolV ?_, HB0.out⟩; rw [HDX.out, Bool.eq_iff_iff]; simp; omega)
  by_cases e12 : v.kind = 12
  · have HDX := Lib.hid (show D = decide (v.num < 4294967296) by rw [← hD, e12]; simp [numOk])
    have E := Lib.hid e12
    clear hD e12
    go_enter Tryz.func90, Tryz.ntmps90
    go_upto_region 1 with fail
    have hb0 : Below w.heap.size w (w.alloc (.cells #[.int .i64 v.kind, .int .u64 v.num, .string v.text, (.slice p N c), .int .i64 v.elem] 25)) := ((Below.refl _ _).alloc (Nat.le_refl _) _)
    have ox : (w.alloc (.cells #[.int .i64 v.kind, .int .u64 v.num, .string v.text, (.slice p N c), .int .i64 v.elem] 25)).heap[w.heap.size]? = some (.cells #[.int .i64 v.kind, .int .u64 v.num, .string v.text, (.slice p N c), .int .i64 v.elem] 25 (0, 0)) := _root_.Go.heap_alloc_new _ _
    generalize (w.alloc (.cells #[.int .i64 v.kind, .int .u64 v.num, .string v.text, (.slice p N c), .int .i64 v.elem] 25)) = w0 at *
    obtain ⟨x, hx⟩ : ∃ x, w.heap.size = x := ⟨_, rfl⟩
    rw [hx] at ox ⊢
    have HB0 := Lib.hid hb0
    have HOx := Lib.hid ox
    clear hb0 ox hx
    have x0 : w0.cell? ⟨x, 0, none⟩ = some (.int .i64 v.kind) := (cell_of_row _ _ 0 _ _ _ HOx.out).trans rfl
    have x1 : w0.cell? ⟨x, 1, none⟩ = some (.int .u64 v.num) := (cell_of_row _ _ 1 _ _ _ HOx.out).trans rfl
    rw [E.out] at x0
    go_wp2_with fail
    all_goals
      go_ret
      first
        | exact ⟨by rw [HDX.out]; rfl, HB0.out⟩
        | (refine ⟨ret_boolV ?_, HB0.out⟩; rw [HDX.out, Bool.eq_iff_iff]; simp; omega)
  by_cases e6 : v.kind = 6
  · have HDX := Lib.hid (show D = within2 128 v.num by rw [← hD, e6]; simp [numOk])
    have E := Lib.hid e6
    clear hD e6
    go_enter Tryz.func90, Tryz.ntmps90
    go_upto_region 1 with fail
    have hb0 : Below w.heap.size w (w.alloc (.cells #[.int .i64 v.kind, .int .u64 v.num, .string v.text, (.slice p N c), .int .i64 v.elem] 25)) := ((Below.refl _ _).alloc (Nat.le_refl _) _)
    have ox : (w.alloc (.cells #[.int .i64 v.kind, .int .u64 v.num, .string v.text, (.slice p N c), .int .i64 v.elem] 25)).heap[w.heap.size]? = some (.cells #[.int .i64 v.kind, .int .u64 v.num, .string v.text, (.slice p N c), .int .i64 v.elem] 25 (0, 0)) := _root_.Go.heap_alloc_new _ _
    generalize (w.alloc (.cells #[.int .i64 v.kind, .int .u64 v.num, .string v.text, (.slice p N c), .int .i64 v.elem] 25)) = w0 at *
    obtain ⟨x, hx⟩ : ∃ x, w.heap.size = x := ⟨_, rfl⟩
    rw [hx] at ox ⊢
    have HB0 := Lib.hid hb0
    have HOx := Lib.hid ox
    clear hb0 ox hx
    have x0 : w0.cell? ⟨x, 0, none⟩ = some (.int .i64 v.kind) := (cell_of_row _ _ 0 _ _ _ HOx.out).trans rfl
    have x1 : w0.cell? ⟨x, 1, none⟩ = some (.int .u64 v.num) := (cell_of_row _ _ 1 _ _ _ HOx.out).trans rfl
    rw [E.out] at x0
    have hc := signed8_any v.num w0 HU.out
    go_wp2_with fail
    refine hc.mono ?_
    clear hc
    rintro e w1 ⟨rfl, rfl⟩
    go_wp2_with fail
    go_ret
    refine ⟨ret_boolV ?_, HB0.out⟩
    rw [HDX.out]
  by_cases e7 : v.kind = 7
  · have HDX := Lib.hid (show D = within2 32768 v.num by rw [← hD, e7]; simp [numOk])
    have E := Lib.hid e7
    clear hD e7
    go_enter Tryz.func90, Tryz.ntmps90
    go_upto_region 1 with fail
    have hb0 : Below w.heap.size w (w.alloc (.cells #[.int .i64 v.kind, .int .u64 v.num, .string v.text, (.slice p N c), .int .i64 v.elem] 25)) := ((Below.refl _ _).alloc (Nat.le_refl _) _)
    have ox : (w.alloc (.cells #[.int .i64 v.kind, .int .u64 v.num, .string v.text, (.slice p N c), .int .i64 v.elem] 25)).heap[w.heap.size]? = some (.cells #[.int .i64 v.kind, .int .u64 v.num, .string v.text, (.slice p N c), .int .i64 v.elem] 25 (0, 0)) := _root_.Go.heap_alloc_new _ _
    generalize (w.alloc (.cells #[.int .i64 v.kind, .int .u64 v.num, .string v.text, (.slice p N c), .int .i64 v.elem] 25)) = w0 at *
    obtain ⟨x, hx⟩ : ∃ x, w.heap.size = x := ⟨_, rfl⟩
    rw [hx] at ox ⊢
    have HB0 := Lib.hid hb0
    have HOx := Lib.hid ox
    clear hb0 ox hx
    have x0 : w0.cell? ⟨x, 0, none⟩ = some (.int .i64 v.kind) := (cell_of_row _ _ 0 _ _ _ HOx.out).trans rfl
    have x1 : w0.cell? ⟨x, 1, none⟩ = some (.int .u64 v.num) := (cell_of_row _ _ 1 _ _ _ HOx.out).trans rfl
    rw [E.out] at x0
    have hc := signed16_any v.num w0 HU.out
    go_wp2_with fail
    refine hc.mono ?_
    clear hc
    rintro e w1 ⟨rfl, rfl⟩
    go_wp2_with fail
    go_ret
    refine ⟨ret_boolV ?_, HB0.out⟩
    rw [HDX.out]
  by_cases e8 : v.kind = 8
  · have HDX := Lib.hid (show D = within2 2147483648 v.num by rw [← hD, e8]; simp [numOk])
    have E := Lib.hid e8
    clear hD e8
    go_enter Tryz.func90, Tryz.ntmps90
    go_upto_region 1 with fail
    have hb0 : Below w.heap.size w (w.alloc (.cells #[.int .i64 v.kind, .int .u64 v.num, .string v.text, (.slice p N c), .int .i64 v.elem] 25)) := ((Below.refl _ _).alloc (Nat.le_refl _) _)
    have ox : (w.alloc (.cells #[.int .i64 v.kind, .int .u64 v.num, .string v.text, (.slice p N c), .int .i64 v.elem] 25)).heap[w.heap.size]? = some (.cells #[.int .i64 v.kind, .int .u64 v.num, .string v.text, (.slice p N c), .int .i64 v.elem] 25 (0, 0)) := _root_.Go.heap_alloc_new _ _
    generalize (w.alloc (.cells #[.int .i64 v.kind, .int .u64 v.num, .string v.text, (.slice p N c), .int .i64 v.elem] 25)) = w0 at *
    obtain ⟨x, hx⟩ : ∃ x, w.heap.size = x := ⟨_, rfl⟩
    rw [hx] at ox ⊢
    have HB0 := Lib.hid hb0
    have HOx := Lib.hid ox
    clear hb0 ox hx
    have x0 : w0.cell? ⟨x, 0, none⟩ = some (.int .i64 v.kind) := (cell_of_row _ _ 0 _ _ _ HOx.out).trans rfl
    have x1 : w0.cell? ⟨x, 1, none⟩ = some (.int .u64 v.num) := (cell_of_row _ _ 1 _ _ _ HOx.out).trans rfl
    rw [E.out] at x0
    have hc := signed32_any v.num w0 HU.out
    go_wp2_with fail
    refine hc.mono ?_
    clear hc
    rintro e w1 ⟨rfl, rfl⟩
    go_wp2_with fail
    go_ret
    refine ⟨ret_boolV ?_, HB0.out⟩
    rw [HDX.out]
  by_cases e15 : v.kind = 15
  · have HDX := Lib.hid (show D = decide (v.num < 55296 ∨ (57343 < v.num ∧ v.num ≤ 1114111)) by rw [← hD, e15]; simp [numOk])
    have E := Lib.hid e15
    clear hD e15
    go_enter Tryz.func90, Tryz.ntmps90
    go_upto_region 1 with fail
    have hb0 : Below w.heap.size w (w.alloc (.cells #[.int .i64 v.kind, .int .u64 v.num, .string v.text, (.slice p N c), .int .i64 v.elem] 25)) := ((Below.refl _ _).alloc (Nat.le_refl _) _)
    have ox : (w.alloc (.cells #[.int .i64 v.kind, .int .u64 v.num, .string v.text, (.slice p N c), .int .i64 v.elem] 25)).heap[w.heap.size]? = some (.cells #[.int .i64 v.kind, .int .u64 v.num, .string v.text, (.slice p N c), .int .i64 v.elem] 25 (0, 0)) := _root_.Go.heap_alloc_new _ _
    generalize (w.alloc (.cells #[.int .i64 v.kind, .int .u64 v.num, .string v.text, (.slice p N c), .int .i64 v.elem] 25)) = w0 at *
    obtain ⟨x, hx⟩ : ∃ x, w.heap.size = x := ⟨_, rfl⟩
    rw [hx] at ox ⊢
    have HB0 := Lib.hid hb0
    have HOx := Lib.hid ox
    clear hb0 ox hx
    have x0 : w0.cell? ⟨x, 0, none⟩ = some (.int .i64 v.kind) := (cell_of_row _ _ 0 _ _ _ HOx.out).trans rfl
    have x1 : w0.cell? ⟨x, 1, none⟩ = some (.int .u64 v.num) := (cell_of_row _ _ 1 _ _ _ HOx.out).trans rfl
    rw [E.out] at x0
    go_wp2_with fail
    all_goals
      go_ret
      first
        | exact ⟨by rw [HDX.out]; rfl, HB0.out⟩
        | (refine ⟨ret_boolV ?_, HB0.out⟩; rw [HDX.out, Bool.eq_iff_iff]; simp; omega)
  have HDX := Lib.hid (show D = true by rw [← hD]; simp [numOk, e1, e2, e3, e4, e10, e12, e6, e7, e8, e15])
  have m1 : (v.kind == 1) = false := by simpa using e1
  have m2 : (v.kind == 2) = false := by simpa using e2
  have m3 : (v.kind == 3) = false := by simpa using e3
  have m4 : (v.kind == 4) = false := by simpa using e4
  have m10 : (v.kind == 10) = false := by simpa using e10
  have m12 : (v.kind == 12) = false := by simpa using e12
  have m6 : (v.kind == 6) = false := by simpa using e6
  have m7 : (v.kind == 7) = false := by simpa using e7
  have m8 : (v.kind == 8) = false := by simpa using e8
  have m15 : (v.kind == 15) = false := by simpa using e15
  clear hD e1 e2 e3 e4 e10 e12 e6 e7 e8 e15
  go_enter Tryz.func90, Tryz.ntmps90
  go_upto_region 1 with fail
  have hb0 : Below w.heap.size w (w.alloc (.cells #[.int .i64 v.kind, .int .u64 v.num, .string v.text, (.slice p N c), .int .i64 v.elem] 25)) := ((Below.refl _ _).alloc (Nat.le_refl _) _)
  have ox : (w.alloc (.cells #[.int .i64 v.kind, .int .u64 v.num, .string v.text, (.slice p N c), .int .i64 v.elem] 25)).heap[w.heap.size]? = some (.cells #[.int .i64 v.kind, .int .u64 v.num, .string v.text, (.slice p N c), .int .i64 v.elem] 25 (0, 0)) := _root_.Go.heap_alloc_new _ _
  generalize (w.alloc (.cells #[.int .i64 v.kind, .int .u64 v.num, .string v.text, (.slice p N c), .int .i64 v.elem] 25)) = w0 at *
  obtain ⟨x, hx⟩ : ∃ x, w.heap.size = x := ⟨_, rfl⟩
  rw [hx] at ox ⊢
  have HB0 := Lib.hid hb0
  have HOx := Lib.hid ox
  clear hb0 ox hx
  have x0 : w0.cell? ⟨x, 0, none⟩ = some (.int .i64 v.kind) := (cell_of_row _ _ 0 _ _ _ HOx.out).trans rfl
  have x1 : w0.cell? ⟨x, 1, none⟩ = some (.int .u64 v.num) := (cell_of_row _ _ 1 _ _ _ HOx.out).trans rfl
  go_wp2_with fail
  go_ret
  exact ⟨by rw [HDX.out]; rfl, HB0.out⟩

set_option maxRecDepth 20000 in
set_option maxHeartbeats 4000000 in
theorem spelled_any (v : V) (w : World) (s : Value) (h : VIn w v s) (hts : v.text.size ≤ 9223372036854775800) :
    Calls Tryz.prog 91 #[.agg #[.int .i64 v.kind, .int .u64 v.num, .string v.text, s, .int .i64 v.elem]] w fun e w' => e = .returned (.bool (textOk v.kind v.text)) ∧ Below w.heap.size w w' := by
  obtain ⟨p, c, hs, h1, h2, h3⟩ := h.slice
  obtain ⟨N, hN⟩ : ∃ N, v.list.length = N := ⟨_, rfl⟩
  rw [hN] at hs h1 h3
  subst hs
  unfold maxLen at h2
  obtain ⟨D, hD⟩ : ∃ D, textOk v.kind v.text = D := ⟨_, rfl⟩
  rw [hD]
  have HTS := Lib.hid hts
  have hts2 : v.text.size ≤ 9223372036854775807 := by omega
  clear h hN hts
  by_cases e14 : v.kind = 14
  · have HDX := Lib.hid (show D = decide (v.text.size = 16) by rw [← hD, e14]; simp [textOk])
    have E := Lib.hid e14
    clear hD e14
    go_enter Tryz.func91, Tryz.ntmps91
    go_upto_region 1 with fail
    have hb0 : Below w.heap.size w (w.alloc (.cells #[.int .i64 v.kind, .int .u64 v.num, .string v.text, (.slice p N c), .int .i64 v.elem] 25)) := ((Below.refl _ _).alloc (Nat.le_refl _) _)
    have ox : (w.alloc (.cells #[.int .i64 v.kind, .int .u64 v.num, .string v.text, (.slice p N c), .int .i64 v.elem] 25)).heap[w.heap.size]? = some (.cells #[.int .i64 v.kind, .int .u64 v.num, .string v.text, (.slice p N c), .int .i64 v.elem] 25 (0, 0)) := _root_.Go.heap_alloc_new _ _
    generalize (w.alloc (.cells #[.int .i64 v.kind, .int .u64 v.num, .string v.text, (.slice p N c), .int .i64 v.elem] 25)) = w0 at *
    obtain ⟨x, hx⟩ : ∃ x, w.heap.size = x := ⟨_, rfl⟩
    rw [hx] at ox ⊢
    have HB0 := Lib.hid hb0
    have HOx := Lib.hid ox
    clear hb0 ox hx
    have x0 : w0.cell? ⟨x, 0, none⟩ = some (.int .i64 v.kind) := (cell_of_row _ _ 0 _ _ _ HOx.out).trans rfl
    have x2 : w0.cell? ⟨x, 2, none⟩ = some (.string v.text) := (cell_of_row _ _ 2 _ _ _ HOx.out).trans rfl
    rw [E.out] at x0
    have hsz : ((v.text.size : Int) == 16) = decide (v.text.size = 16) := by rw [Bool.eq_iff_iff]; simp; omega
    go_wp2_with fail
    all_goals
      go_ret
      first
        | exact ⟨by rw [HDX.out]; rfl, HB0.out⟩
        | (refine ⟨ret_boolV ?_, HB0.out⟩; rw [HDX.out, Bool.eq_iff_iff]; simp; try omega)
  by_cases e17 : v.kind = 17
  · have HDX := Lib.hid (show D = decide (v.text.size = 16) by rw [← hD, e17]; simp [textOk])
    have E := Lib.hid e17
    clear hD e17
    go_enter Tryz.func91, Tryz.ntmps91
    go_upto_region 1 with fail
    have hb0 : Below w.heap.size w (w.alloc (.cells #[.int .i64 v.kind, .int .u64 v.num, .string v.text, (.slice p N c), .int .i64 v.elem] 25)) := ((Below.refl _ _).alloc (Nat.le_refl _) _)
    have ox : (w.alloc (.cells #[.int .i64 v.kind, .int .u64 v.num, .string v.text, (.slice p N c), .int .i64 v.elem] 25)).heap[w.heap.size]? = some (.cells #[.int .i64 v.kind, .int .u64 v.num, .string v.text, (.slice p N c), .int .i64 v.elem] 25 (0, 0)) := _root_.Go.heap_alloc_new _ _
    generalize (w.alloc (.cells #[.int .i64 v.kind, .int .u64 v.num, .string v.text, (.slice p N c), .int .i64 v.elem] 25)) = w0 at *
    obtain ⟨x, hx⟩ : ∃ x, w.heap.size = x := ⟨_, rfl⟩
    rw [hx] at ox ⊢
    have HB0 := Lib.hid hb0
    have HOx := Lib.hid ox
    clear hb0 ox hx
    have x0 : w0.cell? ⟨x, 0, none⟩ = some (.int .i64 v.kind) := (cell_of_row _ _ 0 _ _ _ HOx.out).trans rfl
    have x2 : w0.cell? ⟨x, 2, none⟩ = some (.string v.text) := (cell_of_row _ _ 2 _ _ _ HOx.out).trans rfl
    rw [E.out] at x0
    have hsz : ((v.text.size : Int) == 16) = decide (v.text.size = 16) := by rw [Bool.eq_iff_iff]; simp; omega
    go_wp2_with fail
    all_goals
      go_ret
      first
        | exact ⟨by rw [HDX.out]; rfl, HB0.out⟩
        | (refine ⟨ret_boolV ?_, HB0.out⟩; rw [HDX.out, Bool.eq_iff_iff]; simp; try omega)
  by_cases e19 : v.kind = 19
  · have HDX := Lib.hid (show D = decide (utf8S v.text < 0) by rw [← hD, e19]; simp [textOk])
    have E := Lib.hid e19
    clear hD e19
    go_enter Tryz.func91, Tryz.ntmps91
    go_upto_region 1 with fail
    have hb0 : Below w.heap.size w (w.alloc (.cells #[.int .i64 v.kind, .int .u64 v.num, .string v.text, (.slice p N c), .int .i64 v.elem] 25)) := ((Below.refl _ _).alloc (Nat.le_refl _) _)
    have ox : (w.alloc (.cells #[.int .i64 v.kind, .int .u64 v.num, .string v.text, (.slice p N c), .int .i64 v.elem] 25)).heap[w.heap.size]? = some (.cells #[.int .i64 v.kind, .int .u64 v.num, .string v.text, (.slice p N c), .int .i64 v.elem] 25 (0, 0)) := _root_.Go.heap_alloc_new _ _
    generalize (w.alloc (.cells #[.int .i64 v.kind, .int .u64 v.num, .string v.text, (.slice p N c), .int .i64 v.elem] 25)) = w0 at *
    obtain ⟨x, hx⟩ : ∃ x, w.heap.size = x := ⟨_, rfl⟩
    rw [hx] at ox ⊢
    have HB0 := Lib.hid hb0
    have HOx := Lib.hid ox
    clear hb0 ox hx
    have x0 : w0.cell? ⟨x, 0, none⟩ = some (.int .i64 v.kind) := (cell_of_row _ _ 0 _ _ _ HOx.out).trans rfl
    have x2 : w0.cell? ⟨x, 2, none⟩ = some (.string v.text) := (cell_of_row _ _ 2 _ _ _ HOx.out).trans rfl
    rw [E.out] at x0
    have hc := qtext_any v.text w0 HTS.out
    go_wp2_with fail
    refine hc.mono ?_
    clear hc
    rintro e w1 ⟨rfl, rfl⟩
    go_wp2_with fail
    go_ret
    exact ⟨by rw [HDX.out]; rfl, HB0.out⟩
  by_cases e20 : v.kind = 20
  · have HDX := Lib.hid (show D = decide (asciiS v.text < 0) by rw [← hD, e20]; simp [textOk])
    have E := Lib.hid e20
    clear hD e20
    go_enter Tryz.func91, Tryz.ntmps91
    go_upto_region 1 with fail
    have hb0 : Below w.heap.size w (w.alloc (.cells #[.int .i64 v.kind, .int .u64 v.num, .string v.text, (.slice p N c), .int .i64 v.elem] 25)) := ((Below.refl _ _).alloc (Nat.le_refl _) _)
    have ox : (w.alloc (.cells #[.int .i64 v.kind, .int .u64 v.num, .string v.text, (.slice p N c), .int .i64 v.elem] 25)).heap[w.heap.size]? = some (.cells #[.int .i64 v.kind, .int .u64 v.num, .string v.text, (.slice p N c), .int .i64 v.elem] 25 (0, 0)) := _root_.Go.heap_alloc_new _ _
    generalize (w.alloc (.cells #[.int .i64 v.kind, .int .u64 v.num, .string v.text, (.slice p N c), .int .i64 v.elem] 25)) = w0 at *
    obtain ⟨x, hx⟩ : ∃ x, w.heap.size = x := ⟨_, rfl⟩
    rw [hx] at ox ⊢
    have HB0 := Lib.hid hb0
    have HOx := Lib.hid ox
    clear hb0 ox hx
    have x0 : w0.cell? ⟨x, 0, none⟩ = some (.int .i64 v.kind) := (cell_of_row _ _ 0 _ _ _ HOx.out).trans rfl
    have x2 : w0.cell? ⟨x, 2, none⟩ = some (.string v.text) := (cell_of_row _ _ 2 _ _ _ HOx.out).trans rfl
    rw [E.out] at x0
    have hc := plain_any v.text w0 HTS.out
    go_wp2_with fail
    refine hc.mono ?_
    clear hc
    rintro e w1 ⟨rfl, rfl⟩
    go_wp2_with fail
    go_ret
    exact ⟨by rw [HDX.out]; rfl, HB0.out⟩
  have HDX := Lib.hid (show D = true by rw [← hD]; simp [textOk, e14, e17, e19, e20])
  have m14 : (v.kind == 14) = false := by simpa using e14
  have m17 : (v.kind == 17) = false := by simpa using e17
  have m19 : (v.kind == 19) = false := by simpa using e19
  have m20 : (v.kind == 20) = false := by simpa using e20
  clear hD e14 e17 e19 e20
  go_enter Tryz.func91, Tryz.ntmps91
  go_upto_region 1 with fail
  have hb0 : Below w.heap.size w (w.alloc (.cells #[.int .i64 v.kind, .int .u64 v.num, .string v.text, (.slice p N c), .int .i64 v.elem] 25)) := ((Below.refl _ _).alloc (Nat.le_refl _) _)
  have ox : (w.alloc (.cells #[.int .i64 v.kind, .int .u64 v.num, .string v.text, (.slice p N c), .int .i64 v.elem] 25)).heap[w.heap.size]? = some (.cells #[.int .i64 v.kind, .int .u64 v.num, .string v.text, (.slice p N c), .int .i64 v.elem] 25 (0, 0)) := _root_.Go.heap_alloc_new _ _
  generalize (w.alloc (.cells #[.int .i64 v.kind, .int .u64 v.num, .string v.text, (.slice p N c), .int .i64 v.elem] 25)) = w0 at *
  obtain ⟨x, hx⟩ : ∃ x, w.heap.size = x := ⟨_, rfl⟩
  rw [hx] at ox ⊢
  have HB0 := Lib.hid hb0
  have HOx := Lib.hid ox
  clear hb0 ox hx
  have x0 : w0.cell? ⟨x, 0, none⟩ = some (.int .i64 v.kind) := (cell_of_row _ _ 0 _ _ _ HOx.out).trans rfl
  go_wp2_with fail
  go_ret
  exact ⟨by rw [HDX.out]; rfl, HB0.out⟩

def rN (k : Int) : Bool := decide (1 ≤ k ∧ k ≤ 16 ∧ k ≠ 14)
def rT (k : Int) : Bool := decide (k = 14 ∨ (17 ≤ k ∧ k ≤ 20))
def rP (k : Int) : Bool := decide (21 ≤ k)
def rextraV (v : V) : Bool := (!rN v.kind && !decide (v.num = 0)) || (!rT v.kind && !decide (v.text = ⟨#[]⟩)) || (!rP v.kind && decide (0 < v.list.length)) || (!decide (v.kind = 23) && !decide (v.elem = 0))
theorem rextra_eq (v : V) (h0 : 0 ≤ v.kind) (h1 : v.kind ≤ 24) : rextraV v = extraV v := by
  have e1 : rN v.kind = hasN v.kind := by unfold rN hasN; rw [decide_eq_decide]; omega
  have e2 : rT v.kind = hasT v.kind := by unfold rT hasT; rw [decide_eq_decide]; omega
  have e3 : rP v.kind = hasP v.kind := by unfold rP hasP; rw [decide_eq_decide]; omega
  unfold rextraV extraV
  rw [e1, e2, e3]

set_option maxRecDepth 20000 in
set_option maxHeartbeats 4000000 in
theorem rextra_any (v : V) (w : World) (s : Value) (h : VIn w v s) :
    Calls Tryz.prog 89 #[.agg #[.int .i64 v.kind, .int .u64 v.num, .string v.text, s, .int .i64 v.elem]] w fun e w' => e = .returned (.bool (rextraV v)) ∧ Below w.heap.size w w' := by
  obtain ⟨p, c, hs, h1, h2, h3⟩ := h.slice
  obtain ⟨N, hN⟩ : ∃ N, v.list.length = N := ⟨_, rfl⟩
  rw [hN] at hs h1 h3
  subst hs
  unfold maxLen at h2
  obtain ⟨D, hD⟩ : ∃ D, rextraV v = D := ⟨_, rfl⟩
  rw [hD]
  unfold rextraV at hD
  rw [hN] at hD
  obtain ⟨b1, hb1⟩ : ∃ b, rN v.kind = b := ⟨_, rfl⟩
  obtain ⟨b2, hb2⟩ : ∃ b, rT v.kind = b := ⟨_, rfl⟩
  obtain ⟨b3, hb3⟩ : ∃ b, rP v.kind = b := ⟨_, rfl⟩
  rw [hb1, hb2, hb3] at hD
  obtain ⟨z1, hz1⟩ : ∃ b, decide (v.num = 0) = b := ⟨_, rfl⟩
  obtain ⟨z2, hz2⟩ : ∃ b, decide (v.text = ⟨#[]⟩) = b := ⟨_, rfl⟩
  obtain ⟨z3, hz3⟩ : ∃ b, decide (0 < N) = b := ⟨_, rfl⟩
  obtain ⟨z4, hz4⟩ : ∃ b, decide (v.kind = 23) = b := ⟨_, rfl⟩
  obtain ⟨z5, hz5⟩ : ∃ b, decide (v.elem = 0) = b := ⟨_, rfl⟩
  rw [hz1, hz2, hz3, hz4, hz5] at hD
  have f1 : (v.num == 0) = z1 := by rw [← hz1]; rfl
  have f2 : (v.text.toList == []) = z2 := by rw [emp_t]; exact hz2
  have f3 : decide ((0 : Int) < N) = z3 := by rw [← hz3, decide_eq_decide]; omega
  have f3n : decide (0 < N) = z3 := hz3
  have f4 : (v.kind == 23) = z4 := by rw [← hz4]; rfl
  have f5 : (v.elem == 0) = z5 := by rw [← hz5]; rfl
  have g1 : (v.num != 0) = !z1 := by rw [← f1]; rfl
  have g2 : (v.text.toList != []) = !z2 := by rw [← f2]; rfl
  have g4 : (v.kind != 23) = !z4 := by rw [← f4]; rfl
  have g5 : (v.elem != 0) = !z5 := by rw [← f5]; rfl
  have HBB := Lib.hid (And.intro hb1 (And.intro hb2 hb3))
  have HF := Lib.hid (And.intro f1 (And.intro f2 (And.intro f3 (And.intro f4 (And.intro f5 (And.intro g1 (And.intro g2 (And.intro g4 (And.intro g5 f3n)))))))))
  have HD := Lib.hid hD
  clear hD hb1 hb2 hb3 h hN hz1 hz2 hz3 hz4 hz5 f1 f2 f3 f4 f5 g1 g2 g4 g5 f3n
  go_enter Tryz.func89, Tryz.ntmps89
  go_upto_region 1 with fail
  have hb0 : Below w.heap.size w (w.alloc (.cells #[.int .i64 v.kind, .int .u64 v.num, .string v.text, (.slice p N c), .int .i64 v.elem] 25)) := ((Below.refl _ _).alloc (Nat.le_refl _) _)
  have ox : (w.alloc (.cells #[.int .i64 v.kind, .int .u64 v.num, .string v.text, (.slice p N c), .int .i64 v.elem] 25)).heap[w.heap.size]? = some (.cells #[.int .i64 v.kind, .int .u64 v.num, .string v.text, (.slice p N c), .int .i64 v.elem] 25 (0, 0)) := _root_.Go.heap_alloc_new _ _
  generalize (w.alloc (.cells #[.int .i64 v.kind, .int .u64 v.num, .string v.text, (.slice p N c), .int .i64 v.elem] 25)) = w0 at *
  obtain ⟨x, hx⟩ : ∃ x, w.heap.size = x := ⟨_, rfl⟩
  rw [hx] at ox ⊢
  have HB0 := Lib.hid hb0
  have HOx := Lib.hid ox
  clear hb0 ox hx
  have x0 : w0.cell? ⟨x, 0, none⟩ = some (.int .i64 v.kind) := (cell_of_row _ _ 0 _ _ _ HOx.out).trans rfl
  have x1 : w0.cell? ⟨x, 1, none⟩ = some (.int .u64 v.num) := (cell_of_row _ _ 1 _ _ _ HOx.out).trans rfl
  have x2 : w0.cell? ⟨x, 2, none⟩ = some (.string v.text) := (cell_of_row _ _ 2 _ _ _ HOx.out).trans rfl
  have x3 : w0.cell? ⟨x, 3, none⟩ = some (.slice p N c) := (cell_of_row _ _ 3 _ _ _ HOx.out).trans rfl
  have x4 : w0.cell? ⟨x, 4, none⟩ = some (.int .i64 v.elem) := (cell_of_row _ _ 4 _ _ _ HOx.out).trans rfl
  go_upto_region 1 with fail
  go_cut [3] (fun sv wx => w0 = wx ∧ sv = .bool b1)
  case first =>
    by_cases d3 : 1 ≤ v.kind
    ·
      by_cases d2 : v.kind ≤ 16
      ·
        by_cases c14 : v.kind = 14
        · have c14b : (v.kind == 14) = true := by simp [c14]
          have c14n : (v.kind != 14) = false := by simp [c14]
          have C14 := Lib.hid c14
          clear c14
          first
            | (exfalso; have q14 := C14.out; omega)
            | (go_wp2_with fail; go_meet; exact ⟨rfl, by rw [← HBB.out.1]; unfold rN; have q14 := C14.out; simp; omega⟩)
        · have c14b : (v.kind == 14) = false := by simp [c14]
          have c14n : (v.kind != 14) = true := by simp [c14]
          have C14 := Lib.hid c14
          clear c14
          first
            | (exfalso; have q14 := C14.out; omega)
            | (go_wp2_with fail; go_meet; exact ⟨rfl, by rw [← HBB.out.1]; unfold rN; have q14 := C14.out; simp; omega⟩)
      ·
        by_cases c14 : v.kind = 14
        · have c14b : (v.kind == 14) = true := by simp [c14]
          have c14n : (v.kind != 14) = false := by simp [c14]
          have C14 := Lib.hid c14
          clear c14
          first
            | (exfalso; have q14 := C14.out; omega)
            | (go_wp2_with fail; go_meet; exact ⟨rfl, by rw [← HBB.out.1]; unfold rN; have q14 := C14.out; simp; omega⟩)
        · have c14b : (v.kind == 14) = false := by simp [c14]
          have c14n : (v.kind != 14) = true := by simp [c14]
          have C14 := Lib.hid c14
          clear c14
          first
            | (exfalso; have q14 := C14.out; omega)
            | (go_wp2_with fail; go_meet; exact ⟨rfl, by rw [← HBB.out.1]; unfold rN; have q14 := C14.out; simp; omega⟩)
    ·
      by_cases d2 : v.kind ≤ 16
      ·
        by_cases c14 : v.kind = 14
        · have c14b : (v.kind == 14) = true := by simp [c14]
          have c14n : (v.kind != 14) = false := by simp [c14]
          have C14 := Lib.hid c14
          clear c14
          first
            | (exfalso; have q14 := C14.out; omega)
            | (go_wp2_with fail; go_meet; exact ⟨rfl, by rw [← HBB.out.1]; unfold rN; have q14 := C14.out; simp; omega⟩)
        · have c14b : (v.kind == 14) = false := by simp [c14]
          have c14n : (v.kind != 14) = true := by simp [c14]
          have C14 := Lib.hid c14
          clear c14
          first
            | (exfalso; have q14 := C14.out; omega)
            | (go_wp2_with fail; go_meet; exact ⟨rfl, by rw [← HBB.out.1]; unfold rN; have q14 := C14.out; simp; omega⟩)
      ·
        by_cases c14 : v.kind = 14
        · have c14b : (v.kind == 14) = true := by simp [c14]
          have c14n : (v.kind != 14) = false := by simp [c14]
          have C14 := Lib.hid c14
          clear c14
          first
            | (exfalso; have q14 := C14.out; omega)
            | (go_wp2_with fail; go_meet; exact ⟨rfl, by rw [← HBB.out.1]; unfold rN; have q14 := C14.out; simp; omega⟩)
        · have c14b : (v.kind == 14) = false := by simp [c14]
          have c14n : (v.kind != 14) = true := by simp [c14]
          have C14 := Lib.hid c14
          clear c14
          first
            | (exfalso; have q14 := C14.out; omega)
            | (go_wp2_with fail; go_meet; exact ⟨rfl, by rw [← HBB.out.1]; unfold rN; have q14 := C14.out; simp; omega⟩)
  case rest =>
  obtain ⟨rfl, rfl⟩ := hcut
  go_upto_region 2 with fail
  go_cut [4] (fun sv wx => w0 = wx ∧ sv = .bool b2)
  case first =>
    by_cases c14 : v.kind = 14
    · have c14b : (v.kind == 14) = true := by simp [c14]
      have c14n : (v.kind != 14) = false := by simp [c14]
      have C14 := Lib.hid c14
      clear c14
      by_cases d2 : 17 ≤ v.kind
      ·
        by_cases d1 : v.kind ≤ 20
        ·
          first
            | (exfalso; have q14 := C14.out; omega)
            | (go_wp2_with fail; go_meet; exact ⟨rfl, by rw [← HBB.out.2.1]; unfold rT; have q14 := C14.out; simp; omega⟩)
        ·
          first
            | (exfalso; have q14 := C14.out; omega)
            | (go_wp2_with fail; go_meet; exact ⟨rfl, by rw [← HBB.out.2.1]; unfold rT; have q14 := C14.out; simp; omega⟩)
      ·
        by_cases d1 : v.kind ≤ 20
        ·
          first
            | (exfalso; have q14 := C14.out; omega)
            | (go_wp2_with fail; go_meet; exact ⟨rfl, by rw [← HBB.out.2.1]; unfold rT; have q14 := C14.out; simp; omega⟩)
        ·
          first
            | (exfalso; have q14 := C14.out; omega)
            | (go_wp2_with fail; go_meet; exact ⟨rfl, by rw [← HBB.out.2.1]; unfold rT; have q14 := C14.out; simp; omega⟩)
    · have c14b : (v.kind == 14) = false := by simp [c14]
      have c14n : (v.kind != 14) = true := by simp [c14]
      have C14 := Lib.hid c14
      clear c14
      by_cases d2 : 17 ≤ v.kind
      ·
        by_cases d1 : v.kind ≤ 20
        ·
          first
            | (exfalso; have q14 := C14.out; omega)
            | (go_wp2_with fail; go_meet; exact ⟨rfl, by rw [← HBB.out.2.1]; unfold rT; have q14 := C14.out; simp; omega⟩)
        ·
          first
            | (exfalso; have q14 := C14.out; omega)
            | (go_wp2_with fail; go_meet; exact ⟨rfl, by rw [← HBB.out.2.1]; unfold rT; have q14 := C14.out; simp; omega⟩)
      ·
        by_cases d1 : v.kind ≤ 20
        ·
          first
            | (exfalso; have q14 := C14.out; omega)
            | (go_wp2_with fail; go_meet; exact ⟨rfl, by rw [← HBB.out.2.1]; unfold rT; have q14 := C14.out; simp; omega⟩)
        ·
          first
            | (exfalso; have q14 := C14.out; omega)
            | (go_wp2_with fail; go_meet; exact ⟨rfl, by rw [← HBB.out.2.1]; unfold rT; have q14 := C14.out; simp; omega⟩)
  case rest =>
  obtain ⟨rfl, rfl⟩ := hcut
  go_upto_region 3 with fail
  go_cut [5] (fun sv wx => w0 = wx ∧ sv = .bool b3)
  case first =>
    by_cases d1 : 21 ≤ v.kind
    ·
      first
        | (exfalso; omega)
        | (go_wp2_with fail; go_meet; exact ⟨rfl, by rw [← HBB.out.2.2]; unfold rP; simp; omega⟩)
    ·
      first
        | (exfalso; omega)
        | (go_wp2_with fail; go_meet; exact ⟨rfl, by rw [← HBB.out.2.2]; unfold rP; simp; omega⟩)
  case rest =>
  obtain ⟨rfl, rfl⟩ := hcut
  obtain ⟨f1, f2, f3, f4, f5, g1, g2, g4, g5, f3n⟩ := HF.out
  have HD2 := HD.out
  cases b1
  · cases z1
    ·
      simp only [Bool.not_false, Bool.true_or, Bool.and_self] at HD2
      subst HD2
      try simp only [Bool.not_false] at g1
      try simp only [Bool.not_true, Bool.not_false] at g2
      try simp only [Bool.not_true, Bool.not_false] at g4
      try simp only [Bool.not_true, Bool.not_false] at g5
      go_wp2_with fail
      all_goals
        go_ret
        exact ⟨rfl, HB0.out⟩
    ·
      cases b2
      · cases z2
        ·
          simp only [Bool.not_true, Bool.not_false, Bool.or_true, Bool.true_or, Bool.and_false, Bool.and_self] at HD2
          subst HD2
          try simp only [Bool.not_true] at g1
          try simp only [Bool.not_false] at g2
          try simp only [Bool.not_true, Bool.not_false] at g4
          try simp only [Bool.not_true, Bool.not_false] at g5
          go_wp2_with fail
          all_goals
            go_ret
            exact ⟨rfl, HB0.out⟩
        ·
          cases b3
          · cases z3
            ·
              cases z4
              · cases z5
                ·
                  simp only [Bool.not_true, Bool.not_false, Bool.or_true, Bool.and_false, Bool.or_self, Bool.and_self] at HD2
                  subst HD2
                  try simp only [Bool.not_true] at g1
                  try simp only [Bool.not_true] at g2
                  try simp only [Bool.not_false] at g4
                  try simp only [Bool.not_false] at g5
                  go_wp2_with fail
                  all_goals
                    go_ret
                    exact ⟨rfl, HB0.out⟩
                ·
                  simp only [Bool.not_true, Bool.not_false, Bool.and_false, Bool.or_self] at HD2
                  subst HD2
                  try simp only [Bool.not_true] at g1
                  try simp only [Bool.not_true] at g2
                  try simp only [Bool.not_false] at g4
                  try simp only [Bool.not_true] at g5
                  go_wp2_with fail
                  all_goals
                    go_ret
                    exact ⟨rfl, HB0.out⟩
              ·
                simp only [Bool.not_true, Bool.not_false, Bool.false_and, Bool.and_false, Bool.or_self] at HD2
                subst HD2
                try simp only [Bool.not_true] at g1
                try simp only [Bool.not_true] at g2
                try simp only [Bool.not_true] at g4
                try simp only [Bool.not_true, Bool.not_false] at g5
                go_wp2_with fail
                all_goals
                  go_ret
                  exact ⟨rfl, HB0.out⟩
            ·
              simp only [Bool.not_true, Bool.not_false, Bool.or_true, Bool.true_or, Bool.and_false, Bool.or_self, Bool.and_self] at HD2
              subst HD2
              try simp only [Bool.not_true] at g1
              try simp only [Bool.not_true] at g2
              try simp only [Bool.not_true, Bool.not_false] at g4
              try simp only [Bool.not_true, Bool.not_false] at g5
              go_wp2_with fail
              all_goals
                go_ret
                exact ⟨rfl, HB0.out⟩
          ·
            cases z4
            · cases z5
              ·
                simp only [Bool.not_true, Bool.not_false, Bool.false_and, Bool.or_true, Bool.and_false, Bool.or_self, Bool.and_self] at HD2
                subst HD2
                try simp only [Bool.not_true] at g1
                try simp only [Bool.not_true] at g2
                try simp only [Bool.not_false] at g4
                try simp only [Bool.not_false] at g5
                go_wp2_with fail
                all_goals
                  go_ret
                  exact ⟨rfl, HB0.out⟩
              ·
                simp only [Bool.not_true, Bool.not_false, Bool.false_and, Bool.and_false, Bool.or_self] at HD2
                subst HD2
                try simp only [Bool.not_true] at g1
                try simp only [Bool.not_true] at g2
                try simp only [Bool.not_false] at g4
                try simp only [Bool.not_true] at g5
                go_wp2_with fail
                all_goals
                  go_ret
                  exact ⟨rfl, HB0.out⟩
            ·
              simp only [Bool.not_true, Bool.not_false, Bool.false_and, Bool.and_false, Bool.or_self] at HD2
              subst HD2
              try simp only [Bool.not_true] at g1
              try simp only [Bool.not_true] at g2
              try simp only [Bool.not_true] at g4
              try simp only [Bool.not_true, Bool.not_false] at g5
              go_wp2_with fail
              all_goals
                go_ret
                exact ⟨rfl, HB0.out⟩
      ·
        cases b3
        · cases z3
          ·
            cases z4
            · cases z5
              ·
                simp only [Bool.not_true, Bool.not_false, Bool.false_and, Bool.or_true, Bool.and_false, Bool.or_self, Bool.and_self] at HD2
                subst HD2
                try simp only [Bool.not_true] at g1
                try simp only [Bool.not_true, Bool.not_false] at g2
                try simp only [Bool.not_false] at g4
                try simp only [Bool.not_false] at g5
                go_wp2_with fail
                all_goals
                  go_ret
                  exact ⟨rfl, HB0.out⟩
              ·
                simp only [Bool.not_true, Bool.not_false, Bool.false_and, Bool.and_false, Bool.or_self] at HD2
                subst HD2
                try simp only [Bool.not_true] at g1
                try simp only [Bool.not_true, Bool.not_false] at g2
                try simp only [Bool.not_false] at g4
                try simp only [Bool.not_true] at g5
                go_wp2_with fail
                all_goals
                  go_ret
                  exact ⟨rfl, HB0.out⟩
            ·
              simp only [Bool.not_true, Bool.not_false, Bool.false_and, Bool.and_false, Bool.or_self] at HD2
              subst HD2
              try simp only [Bool.not_true] at g1
              try simp only [Bool.not_true, Bool.not_false] at g2
              try simp only [Bool.not_true] at g4
              try simp only [Bool.not_true, Bool.not_false] at g5
              go_wp2_with fail
              all_goals
                go_ret
                exact ⟨rfl, HB0.out⟩
          ·
            simp only [Bool.not_true, Bool.not_false, Bool.false_and, Bool.or_true, Bool.true_or, Bool.and_false, Bool.or_self, Bool.and_self] at HD2
            subst HD2
            try simp only [Bool.not_true] at g1
            try simp only [Bool.not_true, Bool.not_false] at g2
            try simp only [Bool.not_true, Bool.not_false] at g4
            try simp only [Bool.not_true, Bool.not_false] at g5
            go_wp2_with fail
            all_goals
              go_ret
              exact ⟨rfl, HB0.out⟩
        ·
          cases z4
          · cases z5
            ·
              simp only [Bool.not_true, Bool.not_false, Bool.false_and, Bool.or_true, Bool.and_false, Bool.or_self, Bool.and_self] at HD2
              subst HD2
              try simp only [Bool.not_true] at g1
              try simp only [Bool.not_true, Bool.not_false] at g2
              try simp only [Bool.not_false] at g4
              try simp only [Bool.not_false] at g5
              go_wp2_with fail
              all_goals
                go_ret
                exact ⟨rfl, HB0.out⟩
            ·
              simp only [Bool.not_true, Bool.not_false, Bool.false_and, Bool.and_false, Bool.or_self] at HD2
              subst HD2
              try simp only [Bool.not_true] at g1
              try simp only [Bool.not_true, Bool.not_false] at g2
              try simp only [Bool.not_false] at g4
              try simp only [Bool.not_true] at g5
              go_wp2_with fail
              all_goals
                go_ret
                exact ⟨rfl, HB0.out⟩
          ·
            simp only [Bool.not_true, Bool.not_false, Bool.false_and, Bool.and_false, Bool.or_self] at HD2
            subst HD2
            try simp only [Bool.not_true] at g1
            try simp only [Bool.not_true, Bool.not_false] at g2
            try simp only [Bool.not_true] at g4
            try simp only [Bool.not_true, Bool.not_false] at g5
            go_wp2_with fail
            all_goals
              go_ret
              exact ⟨rfl, HB0.out⟩
  ·
    cases b2
    · cases z2
      ·
        simp only [Bool.not_true, Bool.not_false, Bool.false_and, Bool.or_true, Bool.true_or, Bool.and_self] at HD2
        subst HD2
        try simp only [Bool.not_true, Bool.not_false] at g1
        try simp only [Bool.not_false] at g2
        try simp only [Bool.not_true, Bool.not_false] at g4
        try simp only [Bool.not_true, Bool.not_false] at g5
        go_wp2_with fail
        all_goals
          go_ret
          exact ⟨rfl, HB0.out⟩
      ·
        cases b3
        · cases z3
          ·
            cases z4
            · cases z5
              ·
                simp only [Bool.not_true, Bool.not_false, Bool.false_and, Bool.or_true, Bool.and_false, Bool.or_self, Bool.and_self] at HD2
                subst HD2
                try simp only [Bool.not_true, Bool.not_false] at g1
                try simp only [Bool.not_true] at g2
                try simp only [Bool.not_false] at g4
                try simp only [Bool.not_false] at g5
                go_wp2_with fail
                all_goals
                  go_ret
                  exact ⟨rfl, HB0.out⟩
              ·
                simp only [Bool.not_true, Bool.not_false, Bool.false_and, Bool.and_false, Bool.or_self] at HD2
                subst HD2
                try simp only [Bool.not_true, Bool.not_false] at g1
                try simp only [Bool.not_true] at g2
                try simp only [Bool.not_false] at g4
                try simp only [Bool.not_true] at g5
                go_wp2_with fail
                all_goals
                  go_ret
                  exact ⟨rfl, HB0.out⟩
            ·
              simp only [Bool.not_true, Bool.not_false, Bool.false_and, Bool.and_false, Bool.or_self] at HD2
              subst HD2
              try simp only [Bool.not_true, Bool.not_false] at g1
              try simp only [Bool.not_true] at g2
              try simp only [Bool.not_true] at g4
              try simp only [Bool.not_true, Bool.not_false] at g5
              go_wp2_with fail
              all_goals
                go_ret
                exact ⟨rfl, HB0.out⟩
          ·
            simp only [Bool.not_true, Bool.not_false, Bool.false_and, Bool.or_true, Bool.true_or, Bool.and_false, Bool.or_self, Bool.and_self] at HD2
            subst HD2
            try simp only [Bool.not_true, Bool.not_false] at g1
            try simp only [Bool.not_true] at g2
            try simp only [Bool.not_true, Bool.not_false] at g4
            try simp only [Bool.not_true, Bool.not_false] at g5
            go_wp2_with fail
            all_goals
              go_ret
              exact ⟨rfl, HB0.out⟩
        ·
          cases z4
          · cases z5
            ·
              simp only [Bool.not_true, Bool.not_false, Bool.false_and, Bool.or_true, Bool.and_false, Bool.or_self, Bool.and_self] at HD2
              subst HD2
              try simp only [Bool.not_true, Bool.not_false] at g1
              try simp only [Bool.not_true] at g2
              try simp only [Bool.not_false] at g4
              try simp only [Bool.not_false] at g5
              go_wp2_with fail
              all_goals
                go_ret
                exact ⟨rfl, HB0.out⟩
            ·
              simp only [Bool.not_true, Bool.not_false, Bool.false_and, Bool.and_false, Bool.or_self] at HD2
              subst HD2
              try simp only [Bool.not_true, Bool.not_false] at g1
              try simp only [Bool.not_true] at g2
              try simp only [Bool.not_false] at g4
              try simp only [Bool.not_true] at g5
              go_wp2_with fail
              all_goals
                go_ret
                exact ⟨rfl, HB0.out⟩
          ·
            simp only [Bool.not_true, Bool.not_false, Bool.false_and, Bool.and_false, Bool.or_self] at HD2
            subst HD2
            try simp only [Bool.not_true, Bool.not_false] at g1
            try simp only [Bool.not_true] at g2
            try simp only [Bool.not_true] at g4
            try simp only [Bool.not_true, Bool.not_false] at g5
            go_wp2_with fail
            all_goals
              go_ret
              exact ⟨rfl, HB0.out⟩
    ·
      cases b3
      · cases z3
        ·
          cases z4
          · cases z5
            ·
              simp only [Bool.not_true, Bool.not_false, Bool.false_and, Bool.or_true, Bool.and_false, Bool.or_self, Bool.and_self] at HD2
              subst HD2
              try simp only [Bool.not_true, Bool.not_false] at g1
              try simp only [Bool.not_true, Bool.not_false] at g2
              try simp only [Bool.not_false] at g4
              try simp only [Bool.not_false] at g5
              go_wp2_with fail
              all_goals
                go_ret
                exact ⟨rfl, HB0.out⟩
            ·
              simp only [Bool.not_true, Bool.not_false, Bool.false_and, Bool.and_false, Bool.or_self] at HD2
              subst HD2
              try simp only [Bool.not_true, Bool.not_false] at g1
              try simp only [Bool.not_true, Bool.not_false] at g2
              try simp only [Bool.not_false] at g4
              try simp only [Bool.not_true] at g5
              go_wp2_with fail
              all_goals
                go_ret
                exact ⟨rfl, HB0.out⟩
          ·
            simp only [Bool.not_true, Bool.not_false, Bool.false_and, Bool.and_false, Bool.or_self] at HD2
            subst HD2
            try simp only [Bool.not_true, Bool.not_false] at g1
            try simp only [Bool.not_true, Bool.not_false] at g2
            try simp only [Bool.not_true] at g4
            try simp only [Bool.not_true, Bool.not_false] at g5
            go_wp2_with fail
            all_goals
              go_ret
              exact ⟨rfl, HB0.out⟩
        ·
          simp only [Bool.not_true, Bool.not_false, Bool.false_and, Bool.or_true, Bool.true_or, Bool.or_self, Bool.and_self] at HD2
          subst HD2
          try simp only [Bool.not_true, Bool.not_false] at g1
          try simp only [Bool.not_true, Bool.not_false] at g2
          try simp only [Bool.not_true, Bool.not_false] at g4
          try simp only [Bool.not_true, Bool.not_false] at g5
          go_wp2_with fail
          all_goals
            go_ret
            exact ⟨rfl, HB0.out⟩
      ·
        cases z4
        · cases z5
          ·
            simp only [Bool.not_true, Bool.not_false, Bool.false_and, Bool.or_true, Bool.or_self, Bool.and_self] at HD2
            subst HD2
            try simp only [Bool.not_true, Bool.not_false] at g1
            try simp only [Bool.not_true, Bool.not_false] at g2
            try simp only [Bool.not_false] at g4
            try simp only [Bool.not_false] at g5
            go_wp2_with fail
            all_goals
              go_ret
              exact ⟨rfl, HB0.out⟩
          ·
            simp only [Bool.not_true, Bool.not_false, Bool.false_and, Bool.and_false, Bool.or_self] at HD2
            subst HD2
            try simp only [Bool.not_true, Bool.not_false] at g1
            try simp only [Bool.not_true, Bool.not_false] at g2
            try simp only [Bool.not_false] at g4
            try simp only [Bool.not_true] at g5
            go_wp2_with fail
            all_goals
              go_ret
              exact ⟨rfl, HB0.out⟩
        ·
          simp only [Bool.not_true, Bool.false_and, Bool.or_self] at HD2
          subst HD2
          try simp only [Bool.not_true, Bool.not_false] at g1
          try simp only [Bool.not_true, Bool.not_false] at g2
          try simp only [Bool.not_true] at g4
          try simp only [Bool.not_true, Bool.not_false] at g5
          go_wp2_with fail
          all_goals
            go_ret
            exact ⟨rfl, HB0.out⟩


end Go.Proofs.YtnnnfhobbnjmfaaGreatDoor
