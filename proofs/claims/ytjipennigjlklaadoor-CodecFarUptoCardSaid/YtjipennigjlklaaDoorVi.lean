/-
  isNum, isText, isArray. Conditions: the values lie in memory.
-/
import Derived.Test.YtjipennigjlklaaDoorVh
namespace Go.Proofs.YtjipennigjlklaaDoor
open Go.RowKit
set_option linter.unusedVariables false

def within2 (h n : Int) : Bool := decide (-h ≤ twoC n ∧ twoC n < h)
def numOk (k n : Int) : Bool :=
  if k = 1 then decide (n < 2) else if k = 2 then decide (n < 256) else if k = 3 then decide (n < 65536) else if k = 4 ∨ k = 10 ∨ k = 12 then decide (n < 4294967296)
  else if k = 6 then within2 128 n else if k = 7 then within2 32768 n else if k = 8 then within2 2147483648 n else if k = 15 then decide (n < 55296 ∨ (57343 < n ∧ n ≤ 1114111)) else true

set_option maxRecDepth 20000 in
set_option maxHeartbeats 4000000 in
theorem isNum_any (v : V) (w : World) (s : Value) (h : VIn w v s) :
    Calls Tryd.prog 38 #[.agg #[.int .i64 v.kind, .int .u64 v.num, .string v.text, s, .int .i64 v.elem]] w fun e w' => e = .returned (.bool (numOk v.kind v.num)) ∧ Below w.heap.size w w' := by
  obtain ⟨p, c, hs, h1, h2, h3⟩ := h.slice
  obtain ⟨N, hN⟩ : ∃ N, v.list.length = N := ⟨_, rfl⟩
  rw [hN] at hs h1 h3
  subst hs
  unfold maxLen at h2
  obtain ⟨D, hD⟩ : ∃ D, numOk v.kind v.num = D := ⟨_, rfl⟩
  rw [hD]
  have hu := h.wf.n
  have HU := Lib.hid hu
  obtain ⟨u0, u1⟩ := hu
  clear h hN
  by_cases e1 : v.kind = 1
  · have HDX := Lib.hid (show D = decide (v.num < 2) by rw [← hD, e1]; simp [numOk])
    have E := Lib.hid e1
    clear hD e1
    go_enter Tryd.func38, Tryd.ntmps38
    go_upto_region 1 with fail
    have hb0 : Below w.heap.size w (w.alloc (.cells #[.int .i64 v.kind, .int .u64 v.num, .string v.text, (.slice p N c), .int .i64 v.elem] 25)) := ((Below.refl _ _).alloc (Nat.le_refl _) _)
    have ox : (w.alloc (.cells #[.int .i64 v.kind, .int .u64 v.num, .string v.text, (.slice p N c), .int .i64 v.elem] 25)).heap[w.heap.size]? = some (.cells #[.int .i64 v.kind, .int .u64 v.num, .string v.text, (.slice p N c), .int .i64 v.elem] 25 (0, 0)) := _root_.Go.heap_alloc_new _ _
    generalize (w.alloc (.cells #[.int .i64 v.kind, .int .u64 v.num, .string v.text, (.slice p N c), .int .i64 v.elem] 25)) = w0 at *
    obtain ⟨x, hx⟩ : ∃ x, w.heap.size = x := ⟨_, rfl⟩
    rw [hx] at ox ⊢
    have HB0 := Lib.hid hb0
    have HOx := Lib.hid ox
    clear hb0 ox hx
    have x0 : w0.cell? ⟨x, 0, none⟩ = some (.int .i64 v.kind) := (cell_of_row _ _ 0 _ _ _ HOx.out).trans rfl
    have x1 : w0.cell? ⟨x, 1, none⟩ = some (.int .u64 v.num) := (cell_of_row _ _ 1 _ _ _ HOx.out).trans rfl
    rw [E.out] at x0
    go_wp2_with fail
    all_goals
      go_ret
      first
        | exact ⟨by rw [HDX.out]; rfl, HB0.out⟩
        | (refine ⟨ret_boolV ?_, HB0.out⟩; rw [HDX.out, Bool.eq_iff_iff]; simp; omega)
  by_cases e2 : v.kind = 2
  · have HDX := Lib.hid (show D = decide (v.num < 256) by rw [← hD, e2]; simp [numOk])
    have E := Lib.hid e2
    clear hD e2
    go_enter Tryd.func38, Tryd.ntmps38
    go_upto_region 1 with fail
    have hb0 : Below w.heap.size w (w.alloc (.cells #[.int .i64 v.kind, .int .u64 v.num, .string v.text, (.slice p N c), .int .i64 v.elem] 25)) := ((Below.refl _ _).alloc (Nat.le_refl _) _)
    have ox : (w.alloc (.cells #[.int .i64 v.kind, .int .u64 v.num, .string v.text, (.slice p N c), .int .i64 v.elem] 25)).heap[w.heap.size]? = some (.cells #[.int .i64 v.kind, .int .u64 v.num, .string v.text, (.slice p N c), .int .i64 v.elem] 25 (0, 0)) := _root_.Go.heap_alloc_new _ _
    generalize (w.alloc (.cells #[.int .i64 v.kind, .int .u64 v.num, .string v.text, (.slice p N c), .int .i64 v.elem] 25)) = w0 at *
    obtain ⟨x, hx⟩ : ∃ x, w.heap.size = x := ⟨_, rfl⟩
    rw [hx] at ox ⊢
    have HB0 := Lib.hid hb0
    have HOx := Lib.hid ox
    clear hb0 ox hx
    have x0 : w0.cell? ⟨x, 0, none⟩ = some (.int .i64 v.kind) := (cell_of_row _ _ 0 _ _ _ HOx.out).trans rfl
    have x1 : w0.cell? ⟨x, 1, none⟩ = some (.int .u64 v.num) := (cell_of_row _ _ 1 _ _ _ HOx.out).trans rfl
    rw [E.out] at x0
    go_wp2_with fail
    all_goals
      go_ret
      first
        | exact ⟨by rw [HDX.out]; rfl, HB0.out⟩
        | (refine ⟨ret_boolV ?_, HB0.out⟩; rw [HDX.out, Bool.eq_iff_iff]; simp; omega)
  by_cases e3 : v.kind = 3
  · have HDX := Lib.hid (show D = decide (v.num < 65536) by rw [← hD, e3]; simp [numOk])
    have E := Lib.hid e3
    clear hD e3
    go_enter Tryd.func38, Tryd.ntmps38
    go_upto_region 1 with fail
    have hb0 : Below w.heap.size w (w.alloc (.cells #[.int .i64 v.kind, .int .u64 v.num, .string v.text, (.slice p N c), .int .i64 v.elem] 25)) := ((Below.refl _ _).alloc (Nat.le_refl _) _)
    have ox : (w.alloc (.cells #[.int .i64 v.kind, .int .u64 v.num, .string v.text, (.slice p N c), .int .i64 v.elem] 25)).heap[w.heap.size]? = some (.cells #[.int .i64 v.kind, .int .u64 v.num, .string v.text, (.slice p N c), .int .i64 v.elem] 25 (0, 0)) := _root_.Go.heap_alloc_new _ _
    generalize (w.alloc (.cells #[.int .i64 v.kind, .int .u64 v.num, .string v.text, (.slice p N c), .int .i64 v.elem] 25)) = w0 at *
    obtain ⟨x, hx⟩ : ∃ x, w.heap.size = x := ⟨_, rfl⟩
    rw [hx] at ox ⊢
    have HB0 := Lib.hid hb0
    have HOx := Lib.hid ox
    clear hb0 ox hx
    have x0 : w0.cell? ⟨x, 0, none⟩ = some (.int .i64 v.kind) := (cell_of_row _ _ 0 _ _ _ HOx.out).trans rfl
    have x1 : w0.cell? ⟨x, 1, none⟩ = some (.int .u64 v.num) := (cell_of_row _ _ 1 _ _ _ HOx.out).trans rfl
    rw [E.out] at x0
    go_wp2_with fail
    all_goals
      go_ret
      first
        | exact ⟨by rw [HDX.out]; rfl, HB0.out⟩
        | (refine ⟨ret_boolV ?_, HB0.out⟩; rw [HDX.out, Bool.eq_iff_iff]; simp; omega)
  by_cases e4 : v.kind = 4
  · have HDX := Lib.hid (show D = decide (v.num < 4294967296) by rw [← hD, e4]; simp [numOk])
    have E := Lib.hid e4
    clear hD e4
    go_enter Tryd.func38, Tryd.ntmps38
    go_upto_region 1 with fail
    have hb0 : Below w.heap.size w (w.alloc (.cells #[.int .i64 v.kind, .int .u64 v.num, .string v.text, (.slice p N c), .int .i64 v.elem] 25)) := ((Below.refl _ _).alloc (Nat.le_refl _) _)
    have ox : (w.alloc (.cells #[.int .i64 v.kind, .int .u64 v.num, .string v.text, (.slice p N c), .int .i64 v.elem] 25)).heap[w.heap.size]? = some (.cells #[.int .i64 v.kind, .int .u64 v.num, .string v.text, (.slice p N c), .int .i64 v.elem] 25 (0, 0)) := _root_.Go.heap_alloc_new _ _
    generalize (w.alloc (.cells #[.int .i64 v.kind, .int .u64 v.num, .string v.text, (.slice p N c), .int .i64 v.elem] 25)) = w0 at *
    obtain ⟨x, hx⟩ : ∃ x, w.heap.size = x := ⟨_, rfl⟩
    rw [hx] at ox ⊢
    have HB0 := Lib.hid hb0
    have HOx := Lib.hid ox
    clear hb0 ox hx
    have x0 : w0.cell? ⟨x, 0, none⟩ = some (.int .i64 v.kind) := (cell_of_row _ _ 0 _ _ _ HOx.out).trans rfl
    have x1 : w0.cell? ⟨x, 1, none⟩ = some (.int .u64 v.num) := (cell_of_row _ _ 1 _ _ _ HOx.out).trans rfl
    rw [E.out] at x0
    go_wp2_with fail
    all_goals
      go_ret
      first
        | exact ⟨by rw [HDX.out]; rfl, HB0.out⟩
        | (refine ⟨ret_boolV ?_, HB0.out⟩; rw [HDX.out, Bool.eq_iff_iff]; simp; omega)
  by_cases e10 : v.kind = 10
  · have HDX := Lib.hid (show D = decide (v.num < 4294967296) by rw [← hD, e10]; simp [numOk])
    have E := Lib.hid e10
    clear hD e10
    go_enter Tryd.func38, Tryd.ntmps38
    go_upto_region 1 with fail
    have hb0 : Below w.heap.size w (w.alloc (.cells #[.int .i64 v.kind, .int .u64 v.num, .string v.text, (.slice p N c), .int .i64 v.elem] 25)) := ((Below.refl _ _).alloc (Nat.le_refl _) _)
    have ox : (w.alloc (.cells #[.int .i64 v.kind, .int .u64 v.num, .string v.text, (.slice p N c), .int .i64 v.elem] 25)).heap[w.heap.size]? = some (.cells #[.int .i64 v.kind, .int .u64 v.num, .string v.text, (.slice p N c), .int .i64 v.elem] 25 (0, 0)) := _root_.Go.heap_alloc_new _ _
    generalize (w.alloc (.cells #[.int .i64 v.kind, .int .u64 v.num, .string v.text, (.slice p N c), .int .i64 v.elem] 25)) = w0 at *
    obtain ⟨x, hx⟩ : ∃ x, w.heap.size = x := ⟨_, rfl⟩
    rw [hx] at ox ⊢
    have HB0 := Lib.hid hb0
    have HOx := Lib.hid ox
    clear hb0 ox hx
    have x0 : w0.cell? ⟨x, 0, none⟩ = some (.int .i64 v.kind) := (cell_of_row _ _ 0 _ _ _ HOx.out).trans rfl
    have x1 : w0.cell? ⟨x, 1, none⟩ = some (.int .u64 v.num) := (cell_of_row _ _ 1 _ _ _ HOx.out).trans rfl
    rw [E.out] at x0
    go_wp2_with fail
    all_goals
      go_ret
      first
        | exact ⟨by rw [HDX.out]; rfl, HB0.out⟩
        | (refine ⟨ret_boolV ?_, HB0.out⟩; rw [HDX.out, Bool.eq_iff_iff]; simp; omega)
  by_cases e12 : v.kind = 12
  · have HDX := Lib.hid (show D = decide (v.num < 4294967296) by rw [← hD, e12]; simp [numOk])
    have E := Lib.hid e12
    clear hD e12
    go_enter Tryd.func38, Tryd.ntmps38
    go_upto_region 1 with fail
    have hb0 : Below w.heap.size w (w.alloc (.cells #[.int .i64 v.kind, .int .u64 v.num, .string v.text, (.slice p N c), .int .i64 v.elem] 25)) := ((Below.refl _ _).alloc (Nat.le_refl _) _)
    have ox : (w.alloc (.cells #[.int .i64 v.kind, .int .u64 v.num, .string v.text, (.slice p N c), .int .i64 v.elem] 25)).heap[w.heap.size]? = some (.cells #[.int .i64 v.kind, .int .u64 v.num, .string v.text, (.slice p N c), .int .i64 v.elem] 25 (0, 0)) := _root_.Go.heap_alloc_new _ _
    generalize (w.alloc (.cells #[.int .i64 v.kind, .int .u64 v.num, .string v.text, (.slice p N c), .int .i64 v.elem] 25)) = w0 at *
    obtain ⟨x, hx⟩ : ∃ x, w.heap.size = x := ⟨_, rfl⟩
    rw [hx] at ox ⊢
    have HB0 := Lib.hid hb0
    have HOx := Lib.hid ox
    clear hb0 ox hx
    have x0 : w0.cell? ⟨x, 0, none⟩ = some (.int .i64 v.kind) := (cell_of_row _ _ 0 _ _ _ HOx.out).trans rfl
    have x1 : w0.cell? ⟨x, 1, none⟩ = some (.int .u64 v.num) := (cell_of_row _ _ 1 _ _ _ HOx.out).trans rfl
    rw [E.out] at x0
    go_wp2_with fail
    all_goals
      go_ret
      first
        | exact ⟨by rw [HDX.out]; rfl, HB0.out⟩
        | (refine ⟨ret_boolV ?_, HB0.out⟩; rw [HDX.out, Bool.eq_iff_iff]; simp; omega)
  by_cases e6 : v.kind = 6
  · have HDX := Lib.hid (show D = within2 128 v.num by rw [← hD, e6]; simp [numOk])
    have E := Lib.hid e6
    clear hD e6
    go_enter Tryd.func38, Tryd.ntmps38
    go_upto_region 1 with fail
    have hb0 : Below w.heap.size w (w.alloc (.cells #[.int .i64 v.kind, .int .u64 v.num, .string v.text, (.slice p N c), .int .i64 v.elem] 25)) := ((Below.refl _ _).alloc (Nat.le_refl _) _)
    have ox : (w.alloc (.cells #[.int .i64 v.kind, .int .u64 v.num, .string v.text, (.slice p N c), .int .i64 v.elem] 25)).heap[w.heap.size]? = some (.cells #[.int .i64 v.kind, .int .u64 v.num, .string v.text, (.slice p N c), .int .i64 v.elem] 25 (0, 0)) := _root_.Go.heap_alloc_new _ _
    generalize (w.alloc (.cells #[.int .i64 v.kind, .int .u64 v.num, .string v.text, (.slice p N c), .int .i64 v.elem] 25)) = w0 at *
    obtain ⟨x, hx⟩ : ∃ x, w.heap.size = x := ⟨_, rfl⟩
    rw [hx] at ox ⊢
    have HB0 := Lib.hid hb0
    have HOx := Lib.hid ox
    clear hb0 ox hx
    have x0 : w0.cell? ⟨x, 0, none⟩ = some (.int .i64 v.kind) := (cell_of_row _ _ 0 _ _ _ HOx.out).trans rfl
    have x1 : w0.cell? ⟨x, 1, none⟩ = some (.int .u64 v.num) := (cell_of_row _ _ 1 _ _ _ HOx.out).trans rfl
    rw [E.out] at x0
    have hc := within8_any v.num w0 HU.out
    go_wp2_with fail
    refine hc.mono ?_
    clear hc
    rintro e w1 ⟨rfl, rfl⟩
    go_wp2_with fail
    go_ret
    refine ⟨ret_boolV ?_, HB0.out⟩
    rw [HDX.out]
    simp [within2]
  by_cases e7 : v.kind = 7
  · have HDX := Lib.hid (show D = within2 32768 v.num by rw [← hD, e7]; simp [numOk])
    have E := Lib.hid e7
    clear hD e7
    go_enter Tryd.func38, Tryd.ntmps38
    go_upto_region 1 with fail
    have hb0 : Below w.heap.size w (w.alloc (.cells #[.int .i64 v.kind, .int .u64 v.num, .string v.text, (.slice p N c), .int .i64 v.elem] 25)) := ((Below.refl _ _).alloc (Nat.le_refl _) _)
    have ox : (w.alloc (.cells #[.int .i64 v.kind, .int .u64 v.num, .string v.text, (.slice p N c), .int .i64 v.elem] 25)).heap[w.heap.size]? = some (.cells #[.int .i64 v.kind, .int .u64 v.num, .string v.text, (.slice p N c), .int .i64 v.elem] 25 (0, 0)) := _root_.Go.heap_alloc_new _ _
    generalize (w.alloc (.cells #[.int .i64 v.kind, .int .u64 v.num, .string v.text, (.slice p N c), .int .i64 v.elem] 25)) = w0 at *
    obtain ⟨x, hx⟩ : ∃ x, w.heap.size = x := ⟨_, rfl⟩
    rw [hx] at ox ⊢
    have HB0 := Lib.hid hb0
    have HOx := Lib.hid ox
    clear hb0 ox hx
    have x0 : w0.cell? ⟨x, 0, none⟩ = some (.int .i64 v.kind) := (cell_of_row _ _ 0 _ _ _ HOx.out).trans rfl
    have x1 : w0.cell? ⟨x, 1, none⟩ = some (.int .u64 v.num) := (cell_of_row _ _ 1 _ _ _ HOx.out).trans rfl
    rw [E.out] at x0
    have hc := within16_any v.num w0 HU.out
    go_wp2_with fail
    refine hc.mono ?_
    clear hc
    rintro e w1 ⟨rfl, rfl⟩
    go_wp2_with fail
    go_ret
    refine ⟨ret_boolV ?_, HB0.out⟩
    rw [HDX.out]
    simp [within2]
  by_cases e8 : v.kind = 8
  · have HDX := Lib.hid (show D = within2 2147483648 v.num by rw [← hD, e8]; simp [numOk])
    have E := Lib.hid e8
    clear hD e8
    go_enter Tryd.func38, Tryd.ntmps38
    go_upto_region 1 with fail
    have hb0 : Below w.heap.size w (w.alloc (.cells #[.int .i64 v.kind, .int .u64 v.num, .string v.text, (.slice p N c), .int .i64 v.elem] 25)) := ((Below.refl _ _).alloc (Nat.le_refl _) _)
    have ox : (w.alloc (.cells #[.int .i64 v.kind, .int .u64 v.num, .string v.text, (.slice p N c), .int .i64 v.elem] 25)).heap[w.heap.size]? = some (.cells #[.int .i64 v.kind, .int .u64 v.num, .string v.text, (.slice p N c), .int .i64 v.elem] 25 (0, 0)) := _root_.Go.heap_alloc_new _ _
    generalize (w.alloc (.cells #[.int .i64 v.kind, .int .u64 v.num, .string v.text, (.slice p N c), .int .i64 v.elem] 25)) = w0 at *
    obtain ⟨x, hx⟩ : ∃ x, w.heap.size = x := ⟨_, rfl⟩
    rw [hx] at ox ⊢
    have HB0 := Lib.hid hb0
    have HOx := Lib.hid ox
    clear hb0 ox hx
    have x0 : w0.cell? ⟨x, 0, none⟩ = some (.int .i64 v.kind) := (cell_of_row _ _ 0 _ _ _ HOx.out).trans rfl
    have x1 : w0.cell? ⟨x, 1, none⟩ = some (.int .u64 v.num) := (cell_of_row _ _ 1 _ _ _ HOx.out).trans rfl
    rw [E.out] at x0
    have hc := within32_any v.num w0 HU.out
    go_wp2_with fail
    refine hc.mono ?_
    clear hc
    rintro e w1 ⟨rfl, rfl⟩
    go_wp2_with fail
    go_ret
    refine ⟨ret_boolV ?_, HB0.out⟩
    rw [HDX.out]
    simp [within2]
  by_cases e15 : v.kind = 15
  · have HDX := Lib.hid (show D = decide (v.num < 55296 ∨ (57343 < v.num ∧ v.num ≤ 1114111)) by rw [← hD, e15]; simp [numOk])
    have E := Lib.hid e15
    clear hD e15
    go_enter Tryd.func38, Tryd.ntmps38
    go_upto_region 1 with fail
    have hb0 : Below w.heap.size w (w.alloc (.cells #[.int .i64 v.kind, .int .u64 v.num, .string v.text, (.slice p N c), .int .i64 v.elem] 25)) := ((Below.refl _ _).alloc (Nat.le_refl _) _)
    have ox : (w.alloc (.cells #[.int .i64 v.kind, .int .u64 v.num, .string v.text, (.slice p N c), .int .i64 v.elem] 25)).heap[w.heap.size]? = some (.cells #[.int .i64 v.kind, .int .u64 v.num, .string v.text, (.slice p N c), .int .i64 v.elem] 25 (0, 0)) := _root_.Go.heap_alloc_new _ _
    generalize (w.alloc (.cells #[.int .i64 v.kind, .int .u64 v.num, .string v.text, (.slice p N c), .int .i64 v.elem] 25)) = w0 at *
    obtain ⟨x, hx⟩ : ∃ x, w.heap.size = x := ⟨_, rfl⟩
    rw [hx] at ox ⊢
    have HB0 := Lib.hid hb0
    have HOx := Lib.hid ox
    clear hb0 ox hx
    have x0 : w0.cell? ⟨x, 0, none⟩ = some (.int .i64 v.kind) := (cell_of_row _ _ 0 _ _ _ HOx.out).trans rfl
    have x1 : w0.cell? ⟨x, 1, none⟩ = some (.int .u64 v.num) := (cell_of_row _ _ 1 _ _ _ HOx.out).trans rfl
    rw [E.out] at x0
    go_wp2_with fail
    all_goals
      go_ret
      first
        | exact ⟨by rw [HDX.out]; rfl, HB0.out⟩
        | (refine ⟨ret_boolV ?_, HB0.out⟩; rw [HDX.out, Bool.eq_iff_iff]; simp; omega)
  have HDX := Lib.hid (show D = true by rw [← hD]; simp [numOk, e1, e2, e3, e4, e10, e12, e6, e7, e8, e15])
  have m1 : (v.kind == 1) = false := by simpa using e1
  have m2 : (v.kind == 2) = false := by simpa using e2
  have m3 : (v.kind == 3) = false := by simpa using e3
  have m4 : (v.kind == 4) = false := by simpa using e4
  have m10 : (v.kind == 10) = false := by simpa using e10
  have m12 : (v.kind == 12) = false := by simpa using e12
  have m6 : (v.kind == 6) = false := by simpa using e6
  have m7 : (v.kind == 7) = false := by simpa using e7
  have m8 : (v.kind == 8) = false := by simpa using e8
  have m15 : (v.kind == 15) = false := by simpa using e15
  clear hD e1 e2 e3 e4 e10 e12 e6 e7 e8 e15
  go_enter Tryd.func38, Tryd.ntmps38
  go_upto_region 1 with fail
  have hb0 : Below w.heap.size w (w.alloc (.cells #[.int .i64 v.kind, .int .u64 v.num, .string v.text, (.slice p N c), .int .i64 v.elem] 25)) := ((Below.refl _ _).alloc (Nat.le_refl _) _)
  have ox : (w.alloc (.cells #[.int .i64 v.kind, .int .u64 v.num, .string v.text, (.slice p N c), .int .i64 v.elem] 25)).heap[w.heap.size]? = some (.cells #[.int .i64 v.kind, .int .u64 v.num, .string v.text, (.slice p N c), .int .i64 v.elem] 25 (0, 0)) := _root_.Go.heap_alloc_new _ _
  generalize (w.alloc (.cells #[.int .i64 v.kind, .int .u64 v.num, .string v.text, (.slice p N c), .int .i64 v.elem] 25)) = w0 at *
  obtain ⟨x, hx⟩ : ∃ x, w.heap.size = x := ⟨_, rfl⟩
  rw [hx] at ox ⊢
  have HB0 := Lib.hid hb0
  have HOx := Lib.hid ox
  clear hb0 ox hx
  have x0 : w0.cell? ⟨x, 0, none⟩ = some (.int .i64 v.kind) := (cell_of_row _ _ 0 _ _ _ HOx.out).trans rfl
  go_wp2_with fail
  go_ret
  exact ⟨by rw [HDX.out]; rfl, HB0.out⟩


def textOk (k : Int) (t : ByteArray) : Bool := if k = 14 ∨ k = 17 then decide (t.size = 16) else if k = 19 then decide (utf8S t < 0) else if k = 20 then decide (asciiS t < 0) else true

set_option maxRecDepth 20000 in
set_option maxHeartbeats 4000000 in
theorem isText_any (v : V) (w : World) (s : Value) (h : VIn w v s) (hT : Tabs w) (hts : v.text.size ≤ 9223372036854775800) :
    Calls Tryd.prog 39 #[.agg #[.int .i64 v.kind, .int .u64 v.num, .string v.text, s, .int .i64 v.elem]] w fun e w' => e = .returned (.bool (textOk v.kind v.text)) ∧ Below w.heap.size w w' := by
  obtain ⟨p, c, hs, h1, h2, h3⟩ := h.slice
  obtain ⟨N, hN⟩ : ∃ N, v.list.length = N := ⟨_, rfl⟩
  rw [hN] at hs h1 h3
  subst hs
  unfold maxLen at h2
  obtain ⟨D, hD⟩ : ∃ D, textOk v.kind v.text = D := ⟨_, rfl⟩
  rw [hD]
  have HT := Lib.hid hT
  have HTS := Lib.hid hts
  have hts2 : v.text.size ≤ 9223372036854775807 := by omega
  clear h hN hT hts
  by_cases e14 : v.kind = 14
  · have HDX := Lib.hid (show D = decide (v.text.size = 16) by rw [← hD, e14]; simp [textOk])
    have E := Lib.hid e14
    clear hD e14
    go_enter Tryd.func39, Tryd.ntmps39
    go_upto_region 1 with fail
    have hb0 : Below w.heap.size w (w.alloc (.cells #[.int .i64 v.kind, .int .u64 v.num, .string v.text, (.slice p N c), .int .i64 v.elem] 25)) := ((Below.refl _ _).alloc (Nat.le_refl _) _)
    have ox : (w.alloc (.cells #[.int .i64 v.kind, .int .u64 v.num, .string v.text, (.slice p N c), .int .i64 v.elem] 25)).heap[w.heap.size]? = some (.cells #[.int .i64 v.kind, .int .u64 v.num, .string v.text, (.slice p N c), .int .i64 v.elem] 25 (0, 0)) := _root_.Go.heap_alloc_new _ _
    generalize (w.alloc (.cells #[.int .i64 v.kind, .int .u64 v.num, .string v.text, (.slice p N c), .int .i64 v.elem] 25)) = w0 at *
    obtain ⟨x, hx⟩ : ∃ x, w.heap.size = x := ⟨_, rfl⟩
    rw [hx] at ox ⊢
    have HB0 := Lib.hid hb0
    have HOx := Lib.hid ox
    clear hb0 ox hx
    have x0 : w0.cell? ⟨x, 0, none⟩ = some (.int .i64 v.kind) := (cell_of_row _ _ 0 _ _ _ HOx.out).trans rfl
    have x2 : w0.cell? ⟨x, 2, none⟩ = some (.string v.text) := (cell_of_row _ _ 2 _ _ _ HOx.out).trans rfl
    rw [E.out] at x0
    have hsz : ((v.text.size : Int) == 16) = decide (v.text.size = 16) := by rw [Bool.eq_iff_iff]; simp; omega
    go_wp2_with fail
    all_goals
      go_ret
      first
        | exact ⟨by rw [HDX.out]; rfl, HB0.out⟩
        | (refine ⟨ret_boolV ?_, HB0.out⟩; rw [HDX.out, Bool.eq_iff_iff]; simp; try omega)
  by_cases e17 : v.kind = 17
  · have HDX := Lib.hid (show D = decide (v.text.size = 16) by rw [← hD, e17]; simp [textOk])
    have E := Lib.hid e17
    clear hD e17
    go_enter Tryd.func39, Tryd.ntmps39
    go_upto_region 1 with fail
    have hb0 : Below w.heap.size w (w.alloc (.cells #[.int .i64 v.kind, .int .u64 v.num, .string v.text, (.slice p N c), .int .i64 v.elem] 25)) := ((Below.refl _ _).alloc (Nat.le_refl _) _)
    have ox : (w.alloc (.cells #[.int .i64 v.kind, .int .u64 v.num, .string v.text, (.slice p N c), .int .i64 v.elem] 25)).heap[w.heap.size]? = some (.cells #[.int .i64 v.kind, .int .u64 v.num, .string v.text, (.slice p N c), .int .i64 v.elem] 25 (0, 0)) := _root_.Go.heap_alloc_new _ _
    generalize (w.alloc (.cells #[.int .i64 v.kind, .int .u64 v.num, .string v.text, (.slice p N c), .int .i64 v.elem] 25)) = w0 at *
    obtain ⟨x, hx⟩ : ∃ x, w.heap.size = x := ⟨_, rfl⟩
    rw [hx] at ox ⊢
    have HB0 := Lib.hid hb0
    have HOx := Lib.hid ox
    clear hb0 ox hx
    have x0 : w0.cell? ⟨x, 0, none⟩ = some (.int .i64 v.kind) := (cell_of_row _ _ 0 _ _ _ HOx.out).trans rfl
    have x2 : w0.cell? ⟨x, 2, none⟩ = some (.string v.text) := (cell_of_row _ _ 2 _ _ _ HOx.out).trans rfl
    rw [E.out] at x0
    have hsz : ((v.text.size : Int) == 16) = decide (v.text.size = 16) := by rw [Bool.eq_iff_iff]; simp; omega
    go_wp2_with fail
    all_goals
      go_ret
      first
        | exact ⟨by rw [HDX.out]; rfl, HB0.out⟩
        | (refine ⟨ret_boolV ?_, HB0.out⟩; rw [HDX.out, Bool.eq_iff_iff]; simp; try omega)
  by_cases e19 : v.kind = 19
  · have HDX := Lib.hid (show D = decide (utf8S v.text < 0) by rw [← hD, e19]; simp [textOk])
    have E := Lib.hid e19
    clear hD e19
    go_enter Tryd.func39, Tryd.ntmps39
    go_upto_region 1 with fail
    have hb0 : Below w.heap.size w (w.alloc (.cells #[.int .i64 v.kind, .int .u64 v.num, .string v.text, (.slice p N c), .int .i64 v.elem] 25)) := ((Below.refl _ _).alloc (Nat.le_refl _) _)
    have ox : (w.alloc (.cells #[.int .i64 v.kind, .int .u64 v.num, .string v.text, (.slice p N c), .int .i64 v.elem] 25)).heap[w.heap.size]? = some (.cells #[.int .i64 v.kind, .int .u64 v.num, .string v.text, (.slice p N c), .int .i64 v.elem] 25 (0, 0)) := _root_.Go.heap_alloc_new _ _
    generalize (w.alloc (.cells #[.int .i64 v.kind, .int .u64 v.num, .string v.text, (.slice p N c), .int .i64 v.elem] 25)) = w0 at *
    obtain ⟨x, hx⟩ : ∃ x, w.heap.size = x := ⟨_, rfl⟩
    rw [hx] at ox ⊢
    have HB0 := Lib.hid hb0
    have HOx := Lib.hid ox
    clear hb0 ox hx
    have x0 : w0.cell? ⟨x, 0, none⟩ = some (.int .i64 v.kind) := (cell_of_row _ _ 0 _ _ _ HOx.out).trans rfl
    have x2 : w0.cell? ⟨x, 2, none⟩ = some (.string v.text) := (cell_of_row _ _ 2 _ _ _ HOx.out).trans rfl
    rw [E.out] at x0
    have hc := utf8_any v.text w0 HTS.out (HT.out.below HB0.out)
    go_wp2_with fail
    refine hc.mono ?_
    clear hc
    rintro e w1 ⟨rfl, hb1⟩
    go_wp2_with fail
    go_ret
    exact ⟨by rw [HDX.out]; rfl, HB0.out.trans (hb1.mono HB0.out.size)⟩
  by_cases e20 : v.kind = 20
  · have HDX := Lib.hid (show D = decide (asciiS v.text < 0) by rw [← hD, e20]; simp [textOk])
    have E := Lib.hid e20
    clear hD e20
    go_enter Tryd.func39, Tryd.ntmps39
    go_upto_region 1 with fail
    have hb0 : Below w.heap.size w (w.alloc (.cells #[.int .i64 v.kind, .int .u64 v.num, .string v.text, (.slice p N c), .int .i64 v.elem] 25)) := ((Below.refl _ _).alloc (Nat.le_refl _) _)
    have ox : (w.alloc (.cells #[.int .i64 v.kind, .int .u64 v.num, .string v.text, (.slice p N c), .int .i64 v.elem] 25)).heap[w.heap.size]? = some (.cells #[.int .i64 v.kind, .int .u64 v.num, .string v.text, (.slice p N c), .int .i64 v.elem] 25 (0, 0)) := _root_.Go.heap_alloc_new _ _
    generalize (w.alloc (.cells #[.int .i64 v.kind, .int .u64 v.num, .string v.text, (.slice p N c), .int .i64 v.elem] 25)) = w0 at *
    obtain ⟨x, hx⟩ : ∃ x, w.heap.size = x := ⟨_, rfl⟩
    rw [hx] at ox ⊢
    have HB0 := Lib.hid hb0
    have HOx := Lib.hid ox
    clear hb0 ox hx
    have x0 : w0.cell? ⟨x, 0, none⟩ = some (.int .i64 v.kind) := (cell_of_row _ _ 0 _ _ _ HOx.out).trans rfl
    have x2 : w0.cell? ⟨x, 2, none⟩ = some (.string v.text) := (cell_of_row _ _ 2 _ _ _ HOx.out).trans rfl
    rw [E.out] at x0
    have hc := ascii_any v.text w0 (by have := HTS.out; omega)
    go_wp2_with fail
    refine hc.mono ?_
    clear hc
    rintro e w1 ⟨rfl, rfl⟩
    go_wp2_with fail
    go_ret
    exact ⟨by rw [HDX.out]; rfl, HB0.out⟩
  have HDX := Lib.hid (show D = true by rw [← hD]; simp [textOk, e14, e17, e19, e20])
  have m14 : (v.kind == 14) = false := by simpa using e14
  have m17 : (v.kind == 17) = false := by simpa using e17
  have m19 : (v.kind == 19) = false := by simpa using e19
  have m20 : (v.kind == 20) = false := by simpa using e20
  clear hD e14 e17 e19 e20
  go_enter Tryd.func39, Tryd.ntmps39
  go_upto_region 1 with fail
  have hb0 : Below w.heap.size w (w.alloc (.cells #[.int .i64 v.kind, .int .u64 v.num, .string v.text, (.slice p N c), .int .i64 v.elem] 25)) := ((Below.refl _ _).alloc (Nat.le_refl _) _)
  have ox : (w.alloc (.cells #[.int .i64 v.kind, .int .u64 v.num, .string v.text, (.slice p N c), .int .i64 v.elem] 25)).heap[w.heap.size]? = some (.cells #[.int .i64 v.kind, .int .u64 v.num, .string v.text, (.slice p N c), .int .i64 v.elem] 25 (0, 0)) := _root_.Go.heap_alloc_new _ _
  generalize (w.alloc (.cells #[.int .i64 v.kind, .int .u64 v.num, .string v.text, (.slice p N c), .int .i64 v.elem] 25)) = w0 at *
  obtain ⟨x, hx⟩ : ∃ x, w.heap.size = x := ⟨_, rfl⟩
  rw [hx] at ox ⊢
  have HB0 := Lib.hid hb0
  have HOx := Lib.hid ox
  clear hb0 ox hx
  have x0 : w0.cell? ⟨x, 0, none⟩ = some (.int .i64 v.kind) := (cell_of_row _ _ 0 _ _ _ HOx.out).trans rfl
  go_wp2_with fail
  go_ret
  exact ⟨by rw [HDX.out]; rfl, HB0.out⟩

end Go.Proofs.YtjipennigjlklaaDoor
