/-
  Lemmas on the codec. Conditions: as each says.
-/
import Derived.Test.YtnnnfhobbnjmfaaGreatDoorMg03
import Derived.RangeFuncNested
import Derived.RangeFuncBound
import Derived.RangeFuncCalls
import Derived.RangeFuncLeaves
import Derived.Shelf.Abstract
import Derived.Shelf.RegionOpen
import Derived.WalkKit
import Derived.OwnWalkIn
import Derived.TacticsInMore
import Derived.LoopNIn
import Derived.LoopIn
namespace Go.Proofs.YtnnnfhobbnjmfaaGreatDoor
open Go.RowKit Go.Proofs.Tryz
set_option linter.all false
set_option maxHeartbeats 40000000
set_option maxRecDepth 20000

def within2 (h n : Int) : Bool := decide (-h <= twoC n ∧ twoC n < h)
def numOk (k n : Int) : Bool :=
 if k = 1 then decide (n < 2) else if k = 2 then decide (n < 256) else if k = 3 then decide (n < 65536) else if k = 4 ∨ k = 10 ∨ k = 12 then decide (n < 4294967296)
 else if k = 6 then within2 128 n else if k = 7 then within2 32768 n else if k = 8 then within2 2147483648 n else if k = 15 then decide (n < 55296 ∨ (57343 < n ∧ n <= 1114111)) else true

theorem isNum_any (v : V) (w : World) (s : Value) (h : VIn w v s) :
  Calls prog 71 #[.agg #[.int .i64 v.kind, .int .u64 v.num, .string v.text, s, .int .i64 v.elem]] w fun e w' => e = .returned (.bool (numOk v.kind v.num)) ∧ Below w.heap.size w w' := by
 obtain ⟨p, c, hs, h1, h2, h3⟩ := h.slice
 obtain ⟨N, hN⟩ : ∃ N, v.list.length = N := ⟨_, rfl⟩
 rw [hN] at hs h1 h3
 subst hs
 unfold maxLen at h2
 obtain ⟨D, hD⟩ : ∃ D, numOk v.kind v.num = D := ⟨_, rfl⟩
 rw [hD]
 have hu := h.wf.n
 have HU := zH hu
 obtain ⟨u0, u1⟩ := hu
 clear h hN
 by_cases e1 : v.kind = 1
 ·have HDX := zH (show D = decide (v.num < 2) by rw [← hD, e1]; simp [numOk])
  have E := zH e1
  clear hD e1
  go_enter func71, ntmps71
  go_upto_region 1 with fail
  have hb0 : Below w.heap.size w (w.alloc (.cells #[.int .i64 v.kind, .int .u64 v.num, .string v.text, (.slice p N c), .int .i64 v.elem] 25)) := ((Below.refl _ _).alloc (Nat.le_refl _) _)
  have ox := zN w (.cells #[.int .i64 v.kind, .int .u64 v.num, .string v.text, (.slice p N c), .int .i64 v.elem] 25)
  generalize (w.alloc (.cells #[.int .i64 v.kind, .int .u64 v.num, .string v.text, (.slice p N c), .int .i64 v.elem] 25)) = w0 at *
  obtain ⟨x, hx⟩ : ∃ x, w.heap.size = x := ⟨_, rfl⟩
  rw [hx] at ox ⊢
  have HB0 := zH hb0
  have HOx := zH ox
  clear hb0 ox hx
  have x0 : w0.cell? ⟨x, 0, none⟩ = some (.int .i64 v.kind) := (cell_of_row _ _ 0 _ _ _ HOx.out).trans rfl
  have x1 : w0.cell? ⟨x, 1, none⟩ = some (.int .u64 v.num) := (cell_of_row _ _ 1 _ _ _ HOx.out).trans rfl
  rw [E.out] at x0
  go_wp2_with fail
  all_goals
   go_ret
   first
    | exact ⟨by rw [HDX.out]; rfl, HB0.out⟩
    | (refine ⟨ret_boolV ?_, HB0.out⟩; rw [HDX.out, Bool.eq_iff_iff]; simp; omega)
 by_cases e2 : v.kind = 2
 ·have HDX := zH (show D = decide (v.num < 256) by rw [← hD, e2]; simp [numOk])
  have E := zH e2
  clear hD e2
  go_enter func71, ntmps71
  go_upto_region 1 with fail
  have hb0 : Below w.heap.size w (w.alloc (.cells #[.int .i64 v.kind, .int .u64 v.num, .string v.text, (.slice p N c), .int .i64 v.elem] 25)) := ((Below.refl _ _).alloc (Nat.le_refl _) _)
  have ox := zN w (.cells #[.int .i64 v.kind, .int .u64 v.num, .string v.text, (.slice p N c), .int .i64 v.elem] 25)
  generalize (w.alloc (.cells #[.int .i64 v.kind, .int .u64 v.num, .string v.text, (.slice p N c), .int .i64 v.elem] 25)) = w0 at *
  obtain ⟨x, hx⟩ : ∃ x, w.heap.size = x := ⟨_, rfl⟩
  rw [hx] at ox ⊢
  have HB0 := zH hb0
  have HOx := zH ox
  clear hb0 ox hx
  have x0 : w0.cell? ⟨x, 0, none⟩ = some (.int .i64 v.kind) := (cell_of_row _ _ 0 _ _ _ HOx.out).trans rfl
  have x1 : w0.cell? ⟨x, 1, none⟩ = some (.int .u64 v.num) := (cell_of_row _ _ 1 _ _ _ HOx.out).trans rfl
  rw [E.out] at x0
  go_wp2_with fail
  all_goals
   go_ret
   first
    | exact ⟨by rw [HDX.out]; rfl, HB0.out⟩
    | (refine ⟨ret_boolV ?_, HB0.out⟩; rw [HDX.out, Bool.eq_iff_iff]; simp; omega)
 by_cases e3 : v.kind = 3
 ·have HDX := zH (show D = decide (v.num < 65536) by rw [← hD, e3]; simp [numOk])
  have E := zH e3
  clear hD e3
  go_enter func71, ntmps71
  go_upto_region 1 with fail
  have hb0 : Below w.heap.size w (w.alloc (.cells #[.int .i64 v.kind, .int .u64 v.num, .string v.text, (.slice p N c), .int .i64 v.elem] 25)) := ((Below.refl _ _).alloc (Nat.le_refl _) _)
  have ox := zN w (.cells #[.int .i64 v.kind, .int .u64 v.num, .string v.text, (.slice p N c), .int .i64 v.elem] 25)
  generalize (w.alloc (.cells #[.int .i64 v.kind, .int .u64 v.num, .string v.text, (.slice p N c), .int .i64 v.elem] 25)) = w0 at *
  obtain ⟨x, hx⟩ : ∃ x, w.heap.size = x := ⟨_, rfl⟩
  rw [hx] at ox ⊢
  have HB0 := zH hb0
  have HOx := zH ox
  clear hb0 ox hx
  have x0 : w0.cell? ⟨x, 0, none⟩ = some (.int .i64 v.kind) := (cell_of_row _ _ 0 _ _ _ HOx.out).trans rfl
  have x1 : w0.cell? ⟨x, 1, none⟩ = some (.int .u64 v.num) := (cell_of_row _ _ 1 _ _ _ HOx.out).trans rfl
  rw [E.out] at x0
  go_wp2_with fail
  all_goals
   go_ret
   first
    | exact ⟨by rw [HDX.out]; rfl, HB0.out⟩
    | (refine ⟨ret_boolV ?_, HB0.out⟩; rw [HDX.out, Bool.eq_iff_iff]; simp; omega)
 by_cases e4 : v.kind = 4
 ·have HDX := zH (show D = decide (v.num < 4294967296) by rw [← hD, e4]; simp [numOk])
  have E := zH e4
  clear hD e4
  go_enter func71, ntmps71
  go_upto_region 1 with fail
  have hb0 : Below w.heap.size w (w.alloc (.cells #[.int .i64 v.kind, .int .u64 v.num, .string v.text, (.slice p N c), .int .i64 v.elem] 25)) := ((Below.refl _ _).alloc (Nat.le_refl _) _)
  have ox := zN w (.cells #[.int .i64 v.kind, .int .u64 v.num, .string v.text, (.slice p N c), .int .i64 v.elem] 25)
  generalize (w.alloc (.cells #[.int .i64 v.kind, .int .u64 v.num, .string v.text, (.slice p N c), .int .i64 v.elem] 25)) = w0 at *
  obtain ⟨x, hx⟩ : ∃ x, w.heap.size = x := ⟨_, rfl⟩
  rw [hx] at ox ⊢
  have HB0 := zH hb0
  have HOx := zH ox
  clear hb0 ox hx
  have x0 : w0.cell? ⟨x, 0, none⟩ = some (.int .i64 v.kind) := (cell_of_row _ _ 0 _ _ _ HOx.out).trans rfl
  have x1 : w0.cell? ⟨x, 1, none⟩ = some (.int .u64 v.num) := (cell_of_row _ _ 1 _ _ _ HOx.out).trans rfl
  rw [E.out] at x0
  go_wp2_with fail
  all_goals
   go_ret
   first
    | exact ⟨by rw [HDX.out]; rfl, HB0.out⟩
    | (refine ⟨ret_boolV ?_, HB0.out⟩; rw [HDX.out, Bool.eq_iff_iff]; simp; omega)
 by_cases e10 : v.kind = 10
 ·have HDX := zH (show D = decide (v.num < 4294967296) by rw [← hD, e10]; simp [numOk])
  have E := zH e10
  clear hD e10
  go_enter func71, ntmps71
  go_upto_region 1 with fail
  have hb0 : Below w.heap.size w (w.alloc (.cells #[.int .i64 v.kind, .int .u64 v.num, .string v.text, (.slice p N c), .int .i64 v.elem] 25)) := ((Below.refl _ _).alloc (Nat.le_refl _) _)
  have ox := zN w (.cells #[.int .i64 v.kind, .int .u64 v.num, .string v.text, (.slice p N c), .int .i64 v.elem] 25)
  generalize (w.alloc (.cells #[.int .i64 v.kind, .int .u64 v.num, .string v.text, (.slice p N c), .int .i64 v.elem] 25)) = w0 at *
  obtain ⟨x, hx⟩ : ∃ x, w.heap.size = x := ⟨_, rfl⟩
  rw [hx] at ox ⊢
  have HB0 := zH hb0
  have HOx := zH ox
  clear hb0 ox hx
  have x0 : w0.cell? ⟨x, 0, none⟩ = some (.int .i64 v.kind) := (cell_of_row _ _ 0 _ _ _ HOx.out).trans rfl
  have x1 : w0.cell? ⟨x, 1, none⟩ = some (.int .u64 v.num) := (cell_of_row _ _ 1 _ _ _ HOx.out).trans rfl
  rw [E.out] at x0
  go_wp2_with fail
  all_goals
   go_ret
   first
    | exact ⟨by rw [HDX.out]; rfl, HB0.out⟩
    | (refine ⟨ret_boolV ?_, HB0.out⟩; rw [HDX.out, Bool.eq_iff_iff]; simp; omega)
 by_cases e12 : v.kind = 12
 ·have HDX := zH (show D = decide (v.num < 4294967296) by rw [← hD, e12]; simp [numOk])
  have E := zH e12
  clear hD e12
  go_enter func71, ntmps71
  go_upto_region 1 with fail
  have hb0 : Below w.heap.size w (w.alloc (.cells #[.int .i64 v.kind, .int .u64 v.num, .string v.text, (.slice p N c), .int .i64 v.elem] 25)) := ((Below.refl _ _).alloc (Nat.le_refl _) _)
  have ox := zN w (.cells #[.int .i64 v.kind, .int .u64 v.num, .string v.text, (.slice p N c), .int .i64 v.elem] 25)
  generalize (w.alloc (.cells #[.int .i64 v.kind, .int .u64 v.num, .string v.text, (.slice p N c), .int .i64 v.elem] 25)) = w0 at *
  obtain ⟨x, hx⟩ : ∃ x, w.heap.size = x := ⟨_, rfl⟩
  rw [hx] at ox ⊢
  have HB0 := zH hb0
  have HOx := zH ox
  clear hb0 ox hx
  have x0 : w0.cell? ⟨x, 0, none⟩ = some (.int .i64 v.kind) := (cell_of_row _ _ 0 _ _ _ HOx.out).trans rfl
  have x1 : w0.cell? ⟨x, 1, none⟩ = some (.int .u64 v.num) := (cell_of_row _ _ 1 _ _ _ HOx.out).trans rfl
  rw [E.out] at x0
  go_wp2_with fail
  all_goals
   go_ret
   first
    | exact ⟨by rw [HDX.out]; rfl, HB0.out⟩
    | (refine ⟨ret_boolV ?_, HB0.out⟩; rw [HDX.out, Bool.eq_iff_iff]; simp; omega)
 by_cases e6 : v.kind = 6
 ·have HDX := zH (show D = within2 128 v.num by rw [← hD, e6]; simp [numOk])
  have E := zH e6
  clear hD e6
  go_enter func71, ntmps71
  go_upto_region 1 with fail
  have hb0 : Below w.heap.size w (w.alloc (.cells #[.int .i64 v.kind, .int .u64 v.num, .string v.text, (.slice p N c), .int .i64 v.elem] 25)) := ((Below.refl _ _).alloc (Nat.le_refl _) _)
  have ox := zN w (.cells #[.int .i64 v.kind, .int .u64 v.num, .string v.text, (.slice p N c), .int .i64 v.elem] 25)
  generalize (w.alloc (.cells #[.int .i64 v.kind, .int .u64 v.num, .string v.text, (.slice p N c), .int .i64 v.elem] 25)) = w0 at *
  obtain ⟨x, hx⟩ : ∃ x, w.heap.size = x := ⟨_, rfl⟩
  rw [hx] at ox ⊢
  have HB0 := zH hb0
  have HOx := zH ox
  clear hb0 ox hx
  have x0 : w0.cell? ⟨x, 0, none⟩ = some (.int .i64 v.kind) := (cell_of_row _ _ 0 _ _ _ HOx.out).trans rfl
  have x1 : w0.cell? ⟨x, 1, none⟩ = some (.int .u64 v.num) := (cell_of_row _ _ 1 _ _ _ HOx.out).trans rfl
  rw [E.out] at x0
  have hc := within8_any v.num w0 HU.out
  go_wp2_with fail
  refine hc.mono ?_
  clear hc
  rintro e w1 ⟨rfl, rfl⟩
  go_wp2_with fail
  go_ret
  refine ⟨ret_boolV ?_, HB0.out⟩
  rw [HDX.out]
  simp [within2]
 by_cases e7 : v.kind = 7
 ·have HDX := zH (show D = within2 32768 v.num by rw [← hD, e7]; simp [numOk])
  have E := zH e7
  clear hD e7
  go_enter func71, ntmps71
  go_upto_region 1 with fail
  have hb0 : Below w.heap.size w (w.alloc (.cells #[.int .i64 v.kind, .int .u64 v.num, .string v.text, (.slice p N c), .int .i64 v.elem] 25)) := ((Below.refl _ _).alloc (Nat.le_refl _) _)
  have ox := zN w (.cells #[.int .i64 v.kind, .int .u64 v.num, .string v.text, (.slice p N c), .int .i64 v.elem] 25)
  generalize (w.alloc (.cells #[.int .i64 v.kind, .int .u64 v.num, .string v.text, (.slice p N c), .int .i64 v.elem] 25)) = w0 at *
  obtain ⟨x, hx⟩ : ∃ x, w.heap.size = x := ⟨_, rfl⟩
  rw [hx] at ox ⊢
  have HB0 := zH hb0
  have HOx := zH ox
  clear hb0 ox hx
  have x0 : w0.cell? ⟨x, 0, none⟩ = some (.int .i64 v.kind) := (cell_of_row _ _ 0 _ _ _ HOx.out).trans rfl
  have x1 : w0.cell? ⟨x, 1, none⟩ = some (.int .u64 v.num) := (cell_of_row _ _ 1 _ _ _ HOx.out).trans rfl
  rw [E.out] at x0
  have hc := within16_any v.num w0 HU.out
  go_wp2_with fail
  refine hc.mono ?_
  clear hc
  rintro e w1 ⟨rfl, rfl⟩
  go_wp2_with fail
  go_ret
  refine ⟨ret_boolV ?_, HB0.out⟩
  rw [HDX.out]
  simp [within2]
 by_cases e8 : v.kind = 8
 ·have HDX := zH (show D = within2 2147483648 v.num by rw [← hD, e8]; simp [numOk])
  have E := zH e8
  clear hD e8
  go_enter func71, ntmps71
  go_upto_region 1 with fail
  have hb0 : Below w.heap.size w (w.alloc (.cells #[.int .i64 v.kind, .int .u64 v.num, .string v.text, (.slice p N c), .int .i64 v.elem] 25)) := ((Below.refl _ _).alloc (Nat.le_refl _) _)
  have ox := zN w (.cells #[.int .i64 v.kind, .int .u64 v.num, .string v.text, (.slice p N c), .int .i64 v.elem] 25)
  generalize (w.alloc (.cells #[.int .i64 v.kind, .int .u64 v.num, .string v.text, (.slice p N c), .int .i64 v.elem] 25)) = w0 at *
  obtain ⟨x, hx⟩ : ∃ x, w.heap.size = x := ⟨_, rfl⟩
  rw [hx] at ox ⊢
  have HB0 := zH hb0
  have HOx := zH ox
  clear hb0 ox hx
  have x0 : w0.cell? ⟨x, 0, none⟩ = some (.int .i64 v.kind) := (cell_of_row _ _ 0 _ _ _ HOx.out).trans rfl
  have x1 : w0.cell? ⟨x, 1, none⟩ = some (.int .u64 v.num) := (cell_of_row _ _ 1 _ _ _ HOx.out).trans rfl
  rw [E.out] at x0
  have hc := within32_any v.num w0 HU.out
  go_wp2_with fail
  refine hc.mono ?_
  clear hc
  rintro e w1 ⟨rfl, rfl⟩
  go_wp2_with fail
  go_ret
  refine ⟨ret_boolV ?_, HB0.out⟩
  rw [HDX.out]
  simp [within2]
 by_cases e15 : v.kind = 15
 ·have HDX := zH (show D = decide (v.num < 55296 ∨ (57343 < v.num ∧ v.num <= 1114111)) by rw [← hD, e15]; simp [numOk])
  have E := zH e15
  clear hD e15
  go_enter func71, ntmps71
  go_upto_region 1 with fail
  have hb0 : Below w.heap.size w (w.alloc (.cells #[.int .i64 v.kind, .int .u64 v.num, .string v.text, (.slice p N c), .int .i64 v.elem] 25)) := ((Below.refl _ _).alloc (Nat.le_refl _) _)
  have ox := zN w (.cells #[.int .i64 v.kind, .int .u64 v.num, .string v.text, (.slice p N c), .int .i64 v.elem] 25)
  generalize (w.alloc (.cells #[.int .i64 v.kind, .int .u64 v.num, .string v.text, (.slice p N c), .int .i64 v.elem] 25)) = w0 at *
  obtain ⟨x, hx⟩ : ∃ x, w.heap.size = x := ⟨_, rfl⟩
  rw [hx] at ox ⊢
  have HB0 := zH hb0
  have HOx := zH ox
  clear hb0 ox hx
  have x0 : w0.cell? ⟨x, 0, none⟩ = some (.int .i64 v.kind) := (cell_of_row _ _ 0 _ _ _ HOx.out).trans rfl
  have x1 : w0.cell? ⟨x, 1, none⟩ = some (.int .u64 v.num) := (cell_of_row _ _ 1 _ _ _ HOx.out).trans rfl
  rw [E.out] at x0
  go_wp2_with fail
  all_goals
   go_ret
   first
    | exact ⟨by rw [HDX.out]; rfl, HB0.out⟩
    | (refine ⟨ret_boolV ?_, HB0.out⟩; rw [HDX.out, Bool.eq_iff_iff]; simp; omega)
 have HDX := zH (show D = true by rw [← hD]; simp [numOk, e1, e2, e3, e4, e10, e12, e6, e7, e8, e15])
 have m1 : (v.kind == 1) = false := by simpa using e1
 have m2 : (v.kind == 2) = false := by simpa using e2
 have m3 : (v.kind == 3) = false := by simpa using e3
 have m4 : (v.kind == 4) = false := by simpa using e4
 have m10 : (v.kind == 10) = false := by simpa using e10
 have m12 : (v.kind == 12) = false := by simpa using e12
 have m6 : (v.kind == 6) = false := by simpa using e6
 have m7 : (v.kind == 7) = false := by simpa using e7
 have m8 : (v.kind == 8) = false := by simpa using e8
 have m15 : (v.kind == 15) = false := by simpa using e15
 clear hD e1 e2 e3 e4 e10 e12 e6 e7 e8 e15
 go_enter func71, ntmps71
 go_upto_region 1 with fail
 have hb0 : Below w.heap.size w (w.alloc (.cells #[.int .i64 v.kind, .int .u64 v.num, .string v.text, (.slice p N c), .int .i64 v.elem] 25)) := ((Below.refl _ _).alloc (Nat.le_refl _) _)
 have ox := zN w (.cells #[.int .i64 v.kind, .int .u64 v.num, .string v.text, (.slice p N c), .int .i64 v.elem] 25)
 generalize (w.alloc (.cells #[.int .i64 v.kind, .int .u64 v.num, .string v.text, (.slice p N c), .int .i64 v.elem] 25)) = w0 at *
 obtain ⟨x, hx⟩ : ∃ x, w.heap.size = x := ⟨_, rfl⟩
 rw [hx] at ox ⊢
 have HB0 := zH hb0
 have HOx := zH ox
 clear hb0 ox hx
 have x0 : w0.cell? ⟨x, 0, none⟩ = some (.int .i64 v.kind) := (cell_of_row _ _ 0 _ _ _ HOx.out).trans rfl
 go_wp2_with fail
 go_ret
 exact ⟨by rw [HDX.out]; rfl, HB0.out⟩
def textOk (k : Int) (t : ByteArray) : Bool := if k = 14 ∨ k = 17 then decide (t.size = 16) else if k = 19 then decide (utf8S t < 0) else if k = 20 then decide (asciiS t < 0) else true

theorem isText_any (v : V) (w : World) (s : Value) (h : VIn w v s) (hT : Tabs w) (hts : v.text.size <= 9223372036854775800) :
  Calls prog 72 #[.agg #[.int .i64 v.kind, .int .u64 v.num, .string v.text, s, .int .i64 v.elem]] w fun e w' => e = .returned (.bool (textOk v.kind v.text)) ∧ Below w.heap.size w w' := by
 obtain ⟨p, c, hs, h1, h2, h3⟩ := h.slice
 obtain ⟨N, hN⟩ : ∃ N, v.list.length = N := ⟨_, rfl⟩
 rw [hN] at hs h1 h3
 subst hs
 unfold maxLen at h2
 obtain ⟨D, hD⟩ : ∃ D, textOk v.kind v.text = D := ⟨_, rfl⟩
 rw [hD]
 have HT := zH hT
 have HTS := zH hts
 have hts2 : v.text.size <= 9223372036854775807 := by omega
 clear h hN hT hts
 by_cases e14 : v.kind = 14
 ·have HDX := zH (show D = decide (v.text.size = 16) by rw [← hD, e14]; simp [textOk])
  have E := zH e14
  clear hD e14
  go_enter func72, ntmps72
  go_upto_region 1 with fail
  have hb0 : Below w.heap.size w (w.alloc (.cells #[.int .i64 v.kind, .int .u64 v.num, .string v.text, (.slice p N c), .int .i64 v.elem] 25)) := ((Below.refl _ _).alloc (Nat.le_refl _) _)
  have ox := zN w (.cells #[.int .i64 v.kind, .int .u64 v.num, .string v.text, (.slice p N c), .int .i64 v.elem] 25)
  generalize (w.alloc (.cells #[.int .i64 v.kind, .int .u64 v.num, .string v.text, (.slice p N c), .int .i64 v.elem] 25)) = w0 at *
  obtain ⟨x, hx⟩ : ∃ x, w.heap.size = x := ⟨_, rfl⟩
  rw [hx] at ox ⊢
  have HB0 := zH hb0
  have HOx := zH ox
  clear hb0 ox hx
  have x0 : w0.cell? ⟨x, 0, none⟩ = some (.int .i64 v.kind) := (cell_of_row _ _ 0 _ _ _ HOx.out).trans rfl
  have x2 : w0.cell? ⟨x, 2, none⟩ = some (.string v.text) := (cell_of_row _ _ 2 _ _ _ HOx.out).trans rfl
  rw [E.out] at x0
  have hsz : ((v.text.size : Int) == 16) = decide (v.text.size = 16) := by rw [Bool.eq_iff_iff]; simp; omega
  go_wp2_with fail
  all_goals
   go_ret
   first
    | exact ⟨by rw [HDX.out]; rfl, HB0.out⟩
    | (refine ⟨ret_boolV ?_, HB0.out⟩; rw [HDX.out, Bool.eq_iff_iff]; simp; try omega)
 by_cases e17 : v.kind = 17
 ·have HDX := zH (show D = decide (v.text.size = 16) by rw [← hD, e17]; simp [textOk])
  have E := zH e17
  clear hD e17
  go_enter func72, ntmps72
  go_upto_region 1 with fail
  have hb0 : Below w.heap.size w (w.alloc (.cells #[.int .i64 v.kind, .int .u64 v.num, .string v.text, (.slice p N c), .int .i64 v.elem] 25)) := ((Below.refl _ _).alloc (Nat.le_refl _) _)
  have ox := zN w (.cells #[.int .i64 v.kind, .int .u64 v.num, .string v.text, (.slice p N c), .int .i64 v.elem] 25)
  generalize (w.alloc (.cells #[.int .i64 v.kind, .int .u64 v.num, .string v.text, (.slice p N c), .int .i64 v.elem] 25)) = w0 at *
  obtain ⟨x, hx⟩ : ∃ x, w.heap.size = x := ⟨_, rfl⟩
  rw [hx] at ox ⊢
  have HB0 := zH hb0
  have HOx := zH ox
  clear hb0 ox hx
  have x0 : w0.cell? ⟨x, 0, none⟩ = some (.int .i64 v.kind) := (cell_of_row _ _ 0 _ _ _ HOx.out).trans rfl
  have x2 : w0.cell? ⟨x, 2, none⟩ = some (.string v.text) := (cell_of_row _ _ 2 _ _ _ HOx.out).trans rfl
  rw [E.out] at x0
  have hsz : ((v.text.size : Int) == 16) = decide (v.text.size = 16) := by rw [Bool.eq_iff_iff]; simp; omega
  go_wp2_with fail
  all_goals
   go_ret
   first
    | exact ⟨by rw [HDX.out]; rfl, HB0.out⟩
    | (refine ⟨ret_boolV ?_, HB0.out⟩; rw [HDX.out, Bool.eq_iff_iff]; simp; try omega)
 by_cases e19 : v.kind = 19
 ·have HDX := zH (show D = decide (utf8S v.text < 0) by rw [← hD, e19]; simp [textOk])
  have E := zH e19
  clear hD e19
  go_enter func72, ntmps72
  go_upto_region 1 with fail
  have hb0 : Below w.heap.size w (w.alloc (.cells #[.int .i64 v.kind, .int .u64 v.num, .string v.text, (.slice p N c), .int .i64 v.elem] 25)) := ((Below.refl _ _).alloc (Nat.le_refl _) _)
  have ox := zN w (.cells #[.int .i64 v.kind, .int .u64 v.num, .string v.text, (.slice p N c), .int .i64 v.elem] 25)
  generalize (w.alloc (.cells #[.int .i64 v.kind, .int .u64 v.num, .string v.text, (.slice p N c), .int .i64 v.elem] 25)) = w0 at *
  obtain ⟨x, hx⟩ : ∃ x, w.heap.size = x := ⟨_, rfl⟩
  rw [hx] at ox ⊢
  have HB0 := zH hb0
  have HOx := zH ox
  clear hb0 ox hx
  have x0 : w0.cell? ⟨x, 0, none⟩ = some (.int .i64 v.kind) := (cell_of_row _ _ 0 _ _ _ HOx.out).trans rfl
  have x2 : w0.cell? ⟨x, 2, none⟩ = some (.string v.text) := (cell_of_row _ _ 2 _ _ _ HOx.out).trans rfl
  rw [E.out] at x0
  have hc := utf8_any v.text w0 HTS.out (HT.out.below HB0.out)
  go_wp2_with fail
  refine hc.mono ?_
  clear hc
  rintro e w1 ⟨rfl, hb1⟩
  go_wp2_with fail
  go_ret
  exact ⟨by rw [HDX.out]; rfl, HB0.out.trans (hb1.mono HB0.out.size)⟩
 by_cases e20 : v.kind = 20
 ·have HDX := zH (show D = decide (asciiS v.text < 0) by rw [← hD, e20]; simp [textOk])
  have E := zH e20
  clear hD e20
  go_enter func72, ntmps72
  go_upto_region 1 with fail
  have hb0 : Below w.heap.size w (w.alloc (.cells #[.int .i64 v.kind, .int .u64 v.num, .string v.text, (.slice p N c), .int .i64 v.elem] 25)) := ((Below.refl _ _).alloc (Nat.le_refl _) _)
  have ox := zN w (.cells #[.int .i64 v.kind, .int .u64 v.num, .string v.text, (.slice p N c), .int .i64 v.elem] 25)
  generalize (w.alloc (.cells #[.int .i64 v.kind, .int .u64 v.num, .string v.text, (.slice p N c), .int .i64 v.elem] 25)) = w0 at *
  obtain ⟨x, hx⟩ : ∃ x, w.heap.size = x := ⟨_, rfl⟩
  rw [hx] at ox ⊢
  have HB0 := zH hb0
  have HOx := zH ox
  clear hb0 ox hx
  have x0 : w0.cell? ⟨x, 0, none⟩ = some (.int .i64 v.kind) := (cell_of_row _ _ 0 _ _ _ HOx.out).trans rfl
  have x2 : w0.cell? ⟨x, 2, none⟩ = some (.string v.text) := (cell_of_row _ _ 2 _ _ _ HOx.out).trans rfl
  rw [E.out] at x0
  have hc := ascii_any v.text w0 (by have := HTS.out; omega)
  go_wp2_with fail
  refine hc.mono ?_
  clear hc
  rintro e w1 ⟨rfl, rfl⟩
  go_wp2_with fail
  go_ret
  exact ⟨by rw [HDX.out]; rfl, HB0.out⟩
 have HDX := zH (show D = true by rw [← hD]; simp [textOk, e14, e17, e19, e20])
 have m14 : (v.kind == 14) = false := by simpa using e14
 have m17 : (v.kind == 17) = false := by simpa using e17
 have m19 : (v.kind == 19) = false := by simpa using e19
 have m20 : (v.kind == 20) = false := by simpa using e20
 clear hD e14 e17 e19 e20
 go_enter func72, ntmps72
 go_upto_region 1 with fail
 have hb0 : Below w.heap.size w (w.alloc (.cells #[.int .i64 v.kind, .int .u64 v.num, .string v.text, (.slice p N c), .int .i64 v.elem] 25)) := ((Below.refl _ _).alloc (Nat.le_refl _) _)
 have ox := zN w (.cells #[.int .i64 v.kind, .int .u64 v.num, .string v.text, (.slice p N c), .int .i64 v.elem] 25)
 generalize (w.alloc (.cells #[.int .i64 v.kind, .int .u64 v.num, .string v.text, (.slice p N c), .int .i64 v.elem] 25)) = w0 at *
 obtain ⟨x, hx⟩ : ∃ x, w.heap.size = x := ⟨_, rfl⟩
 rw [hx] at ox ⊢
 have HB0 := zH hb0
 have HOx := zH ox
 clear hb0 ox hx
 have x0 : w0.cell? ⟨x, 0, none⟩ = some (.int .i64 v.kind) := (cell_of_row _ _ 0 _ _ _ HOx.out).trans rfl
 go_wp2_with fail
 go_ret
 exact ⟨by rw [HDX.out]; rfl, HB0.out⟩

def Alike (v : V) (el : Int) : Prop := ∀ x ∈ v.list, x.kind = el
instance (v : V) (el : Int) : Decidable (Alike v el) := by unfold Alike; infer_instance
def arrOk (v : V) : Bool := decide (0 < v.elem ∧ v.elem < 24 ∧ Alike v v.elem)

theorem unlike_any (x : V) (t : Value) (w : World) (b : Nat) (el : Int) (h : VIn w x t) (hc : w.cell? ⟨b, 4, none⟩ = some (.int .i64 el)) :
  Calls prog 105 #[.agg #[.int .i64 x.kind, .int .u64 x.num, .string x.text, t, .int .i64 x.elem], .pointer (some ⟨b, 0, none⟩)] w fun e w' => e = .returned (.bool (x.kind != el)) ∧ Below w.heap.size w w' := by
 obtain ⟨p, c, hs, h1, h2, h3⟩ := h.slice
 obtain ⟨N, hN⟩ : ∃ N, x.list.length = N := ⟨_, rfl⟩
 rw [hN] at hs
 subst hs
 have HC := zH hc
 clear h1 h2 h3 h hN hc
 go_enter func105, ntmps105
 go_upto_region 1 with fail
 have hb0 : Below w.heap.size w (w.alloc (.cells #[.int .i64 x.kind, .int .u64 x.num, .string x.text, (.slice p N c), .int .i64 x.elem] 25)) := ((Below.refl _ _).alloc (Nat.le_refl _) _)
 have oy := zN w (.cells #[.int .i64 x.kind, .int .u64 x.num, .string x.text, (.slice p N c), .int .i64 x.elem] 25)
 generalize (w.alloc (.cells #[.int .i64 x.kind, .int .u64 x.num, .string x.text, (.slice p N c), .int .i64 x.elem] 25)) = w0 at *
 obtain ⟨y, hy⟩ : ∃ x, w.heap.size = x := ⟨_, rfl⟩
 rw [hy] at oy ⊢
 have HB0 := zH hb0
 have HOy := zH oy
 clear hb0 oy hy
 have y0 : w0.cell? ⟨y, 0, none⟩ = some (.int .i64 x.kind) := (cell_of_row _ _ 0 _ _ _ HOy.out).trans rfl
 have hb0 := HB0.out
 have c4 := bs_cellV hb0 HC.out
 clear hb0
 go_wp2_with fail
 all_goals
  go_ret
  exact ⟨rfl, HB0.out⟩
theorem index_any (v : V) (w : World) (s : Value) (bx : Nat) (el : Int) (h : VIn w v s) (hc : w.cell? ⟨bx, 4, none⟩ = some (.int .i64 el)) :
  Calls prog 127 #[s, .func (.func 105) #[] #[.pointer (some ⟨bx, 0, none⟩)]] w fun e w' => ∃ m : Int, e = .returned (.int .i64 m) ∧ (0 <= m ↔ ¬ Alike v el) ∧ Below w.heap.size w w' := by
 obtain ⟨p, c, hs, h1, h2, h3⟩ := h.slice
 obtain ⟨N, hN⟩ : ∃ N, v.list.length = N := ⟨_, rfl⟩
 rw [hN] at hs h1 h3
 subst hs
 unfold maxLen at h2
 have HN := zH hN
 have HV := zH h
 have HC := zH hc
 clear h hN hc
 have eg : ∀ args w, (callFunc 105 args).run prog w = .ok (.enter 105 args) w := enters_of func105 (by kernel_rfl) rfl
 go_enter func127, ntmps127
 go_wp2_with fail
 go_loopw [8] (fun v5 wr => ∃ k : Nat, k <= N ∧ v5 = .int .i64 k ∧ (∀ j (j1 : j < v.list.length), j < k -> v.list[j].kind = el) ∧ Below w.heap.size w wr) (fun v5 _ => N - (intOf v5).toNat)
 case atStart => exact ⟨0, Nat.zero_le _, rfl, fun j _ h => by omega, Below.refl _ _⟩
 obtain ⟨k, hk', rfl, hsame, hbw⟩ := hrel
 have HR := zH (And.intro hsame hbw)
 clear hsame hbw
 by_cases hkN : (k : Int) < N
 ·have ka : k < v.list.length := by rw [HN.out]; omega
  obtain ⟨b1, o1, rfl⟩ := h3 (by omega)
  obtain ⟨ta, hta, hia⟩ := (HV.out.blw HR.out.2).part rfl ka
  obtain ⟨c0, c1, c2, c3, c4⟩ := part_cells hta
  have hcl := unlike_any v.list[k] ta wr bx el hia (bs_cellV HR.out.2 HC.out)
  have HS := zH (show v.list[k].kind = el -> ∀ j (j1 : j < v.list.length), j < k + 1 -> v.list[j].kind = el from fun he j j1 hj => by
   by_cases e : j = k
   ·subst e; exact he
   ·exact HR.out.1 j j1 (by omega))
  have HF := zH (show v.list[k].kind ≠ el -> ¬ Alike v el from fun he q => he (q _ (List.getElem_mem ka)))
  generalize v.list[k] = y at *
  obtain ⟨pa, ca, hsa, _⟩ := hia.slice
  subst hsa
  obtain ⟨na, hna⟩ : ∃ na, y.list.length = na := ⟨_, rfl⟩
  rw [hna] at c3 hcl
  clear hta hia hna
  by_cases hz : y.kind = el
  ·have hzz : (y.kind != el) = false := by simpa using hz
   rw [hzz] at hcl
   have HS2 := zH (HS.out hz)
   clear hzz hz
   have HCL := zH hcl
   clear hcl
   go_wp2_with fail
   refine HCL.out.mono ?_
   rintro e w1 ⟨rfl, hb1⟩
   have HB1 := zH (HR.out.2.trans (hb1.mono HR.out.2.size))
   clear hb1 c0 c1 c2 c3 c4
   go_wp2_with fail
   go_roundw
   case rel => exact ⟨k + 1, by omega, by go_num, HS2.out, HB1.out⟩
   case measure => simp [intOf]; omega
  ·have hzz : (y.kind != el) = true := by simpa using hz
   rw [hzz] at hcl
   have HF2 := zH (HF.out hz)
   clear hzz hz
   have HCL := zH hcl
   clear hcl
   go_wp2_with fail
   refine HCL.out.mono ?_
   rintro e w1 ⟨rfl, hb1⟩
   have HB1 := zH (HR.out.2.trans (hb1.mono HR.out.2.size))
   clear hb1 c0 c1 c2 c3 c4
   go_wp2_with fail
   go_ret
   exact ⟨k, rfl, ⟨fun _ => HF2.out, fun _ => by omega⟩, HB1.out⟩
 have HE := zH (show Alike v el from fun x hx => by
  obtain ⟨j, hj, rfl⟩ := List.getElem_of_mem hx
  exact HR.out.1 j hj (by have := HN.out; omega))
 go_wp2_with fail
 go_ret
 exact ⟨-1, rfl, ⟨fun q => by omega, fun q => (q HE.out).elim⟩, HR.out.2⟩
theorem contains_any (v : V) (w : World) (s : Value) (bx : Nat) (el : Int) (h : VIn w v s) (hc : w.cell? ⟨bx, 4, none⟩ = some (.int .i64 el)) :
  Calls prog 104 #[s, .func (.func 105) #[] #[.pointer (some ⟨bx, 0, none⟩)]] w fun e w' => e = .returned (.bool (decide (¬ Alike v el))) ∧ Below w.heap.size w w' := by
 have hc := index_any v w s bx el h hc
 obtain ⟨p, c, hs, h1, h2, h3⟩ := h.slice
 subst hs
 clear h
 go_enter func104, ntmps104
 go_wp2_with fail
 refine hc.mono ?_
 clear hc
 rintro e w1 ⟨m, rfl, hm, hb1⟩
 have HM := zH (And.intro hm hb1)
 clear hm hb1
 go_wp2_with fail
 all_goals
  go_ret
  refine ⟨ret_boolV ?_, HM.out.2⟩
  rw [Bool.eq_iff_iff]
  simp only [decide_eq_true_eq, ← HM.out.1]
theorem isArray_any (v : V) (w : World) (s : Value) (h : VIn w v s) :
  Calls prog 74 #[.agg #[.int .i64 v.kind, .int .u64 v.num, .string v.text, s, .int .i64 v.elem]] w fun e w' => e = .returned (.bool (arrOk v)) ∧ Below w.heap.size w w' := by
 obtain ⟨p, c, hs, h1, h2, h3⟩ := h.slice
 obtain ⟨N, hN⟩ : ∃ N, v.list.length = N := ⟨_, rfl⟩
 rw [hN] at hs h1 h3
 subst hs
 unfold maxLen at h2
 obtain ⟨D, hD⟩ : ∃ D, arrOk v = D := ⟨_, rfl⟩
 rw [hD]
 have HD := zH hD
 have HV := zH h
 have HN := zH hN
 have hmf : ∀ (fn : Fn) (first cap : Array Value) (w : World), (Instr.makeFunc fn first cap).run prog w = .ok (.func fn first cap) w := fun _ _ _ _ => rfl
 clear h hN hD
 go_enter func74, ntmps74
 go_upto_region 1 with fail
 have hb0 : Below w.heap.size w (w.alloc (.cells #[.int .i64 v.kind, .int .u64 v.num, .string v.text, (.slice p N c), .int .i64 v.elem] 25)) := ((Below.refl _ _).alloc (Nat.le_refl _) _)
 have ox := zN w (.cells #[.int .i64 v.kind, .int .u64 v.num, .string v.text, (.slice p N c), .int .i64 v.elem] 25)
 generalize (w.alloc (.cells #[.int .i64 v.kind, .int .u64 v.num, .string v.text, (.slice p N c), .int .i64 v.elem] 25)) = w0 at *
 obtain ⟨x, hx⟩ : ∃ x, w.heap.size = x := ⟨_, rfl⟩
 rw [hx] at ox ⊢
 have HB0 := zH hb0
 have HOx := zH ox
 clear hb0 ox hx
 have x3 : w0.cell? ⟨x, 3, none⟩ = some (.slice p N c) := (cell_of_row _ _ 3 _ _ _ HOx.out).trans rfl
 have x4 : w0.cell? ⟨x, 4, none⟩ = some (.int .i64 v.elem) := (cell_of_row _ _ 4 _ _ _ HOx.out).trans rfl
 have hcon := contains_any v w0 _ x v.elem (HV.out.blw HB0.out) x4
 have HC := zH hcon
 clear hcon
 by_cases e1 : v.elem <= 0
 ·have HDX := zH (show D = false by rw [← HD.out]; exact decide_eq_false (fun q => by omega))
  go_wp2_with fail
  all_goals
   go_ret
   exact ⟨by rw [HDX.out]; rfl, HB0.out⟩
 by_cases e2 : 24 <= v.elem
 ·have HDX := zH (show D = false by rw [← HD.out]; exact decide_eq_false (fun q => by omega))
  go_wp2_with fail
  all_goals
   go_ret
   exact ⟨by rw [HDX.out]; rfl, HB0.out⟩
 ·have HDX := zH (show D = !(decide (¬ Alike v v.elem)) by
   rw [← HD.out, Bool.eq_iff_iff]
   simp only [arrOk, decide_eq_true_eq, Bool.not_eq_true', decide_eq_false_iff_not, Classical.not_not]
   exact ⟨fun q => q.2.2, fun q => ⟨by omega, by omega, q⟩⟩)
  have hz : ∃ z, decide (¬ Alike v v.elem) = z := ⟨_, rfl⟩
  obtain ⟨z, hz⟩ := hz
  have HZ := zH hz
  have hcon := HC.out
  rw [hz] at hcon
  have HC2 := zH hcon
  clear hz hcon
  go_wp2_with fail
  refine HC2.out.mono ?_
  rintro e w1 ⟨rfl, hb1⟩
  have HB1 := zH (HB0.out.trans (hb1.mono HB0.out.size))
  clear hb1 x3 x4
  go_wp2_with fail
  all_goals
   go_ret
   exact ⟨by rw [HDX.out, HZ.out]; first | rfl | simp_all, HB1.out⟩

def Turn (l : Nat) (W W' : World) : Prop := W.grownBy W' (some l) ∧ W'.heap.size = W.heap.size

theorem turn_putObj (W : World) (l : Nat) (o : Obj) : Turn l W (W.putObj l o) := ⟨grownBy_putObj' W l o, by simp [World.putObj]⟩

structure LoopBook (D l : Nat) where
 rdy : World → Prop
 busy : World → Prop
 fin : Code → World → Prop
 keepR : ∀ A B, rdy A → B.heap[D]? = A.heap[D]? → B.heap[l]? = A.heap[l]? → rdy B
 keepB : ∀ A B, busy A → B.heap[D]? = A.heap[D]? → B.heap[l]? = A.heap[l]? → busy B
 keepF : ∀ c A B, fin c A → B.heap[D]? = A.heap[D]? → B.heap[l]? = A.heap[l]? → fin c B
 rdyN : ∀ A, rdy A → (∃ o, A.heap[D]? = some o ∧ o.isCells = false) ∧ (∃ o, A.heap[l]? = some o ∧ o.isCells = false)
 busyN : ∀ A, busy A → (∃ o, A.heap[D]? = some o ∧ o.isCells = false) ∧ (∃ o, A.heap[l]? = some o ∧ o.isCells = false)
 finN : ∀ c A, fin c A → (∃ o, A.heap[D]? = some o ∧ o.isCells = false) ∧ (∃ o, A.heap[l]? = some o ∧ o.isCells = false)

def bodyP {D l : Nat} (K : LoopBook D l) (I : World → Prop) (Ix : Code → World → Prop) : Exit → Act → World → Prop
 | .normal, _, W => K.busy W ∧ I W
 | .ret, _, W => K.busy W ∧ Ix .ret W
 | .exit id, _, W => K.busy W ∧ Ix (.exit id) W
 | .goto t, _, W => K.busy W ∧ Ix (.goto t) W
 | .panic _, _, _ => False
 | .outgrown, _, _ => False

def RoundOf {D l : Nat} (P : Program) (K : LoopBook D l) (tmps : Array Value) (ps : Array Tmp) (assign body : Code) (xs : Array Value) (W : World) (I : World → Prop) (Ix : Code → World → Prop) : Prop :=
 assign.wpIn (Fence.wide.inRound l) 3 P (Exit.then (fun a' Wa => K.rdy Wa ∧ ∀ Wb, Turn l Wa Wb → K.busy Wb → body.wpIn (Fence.wide.inRound l) 3 P (bodyP K I Ix) a' Wb) (fun _ _ _ => False))
  { tmps := (ps.zip xs).foldl (fun t (p, v) => t.setIfInBounds p v) tmps, defers := [] } W

def YieldOf {D l : Nat} (K : LoopBook D l) (I : World → Prop) (Ix : Code → World → Prop) (e : Ending) (W' : World) : Prop :=
 (e = .returned (.bool true) ∧ K.rdy W' ∧ ∃ W3, I W3 ∧ Turn l W3 W') ∨ (e = .returned (.bool false) ∧ ∃ c, K.fin c W' ∧ ∃ W3, Ix c W3 ∧ Turn l W3 W')

theorem wp_rangeFunc_any {P : Program} {g : Operand} {ps : Array Tmp} {assign body : Code} {Q : Exit → Act → World → Prop} {a : Act} {w : World} {gf : Nat} {lb : Array Value}
  (hg : a.eval g = .func (.func gf) #[] lb) (eg : ∀ args w, (callFunc gf args).run P w = .ok (.enter gf args) w)
  (hseq : ∀ (K : LoopBook w.heap.size (w.heap.size + 1)) (W1 : World), w.grownBy W1 none → W1.heap.size = w.heap.size + 2 → K.rdy W1 →
   (∀ (xs : Array Value) (W : World) (I : World → Prop) (Ix : Code → World → Prop), xs.size = ps.size → K.rdy W → RoundOf P K a.tmps ps assign body xs W I Ix →
    YieldAt Fence.wide 3 P (w.heap.size + 1) xs W (YieldOf K I Ix)) →
   Calls P gf (#[.func (.yield (w.heap.size + 1)) #[] #[]] ++ lb) W1 fun e W2 => (∃ v, e = .returned v) ∧
    ((K.rdy W2 ∧ ∀ W3, Turn (w.heap.size + 1) W2 W3 → W3.heap[w.heap.size]? = some (.deferred (some [])) → Q .normal { a with defers := { target := .collected w.heap.size, args := #[] } :: a.defers } W3) ∨
     (∃ c, K.fin c W2 ∧ ∀ W3, Turn (w.heap.size + 1) W2 W3 → W3.heap[w.heap.size]? = some (.deferred (some [])) → c.wp P Q { a with defers := { target := .collected w.heap.size, args := #[] } :: a.defers } W3))) :
  (Code.rangeFunc g ps assign body).wp P Q a w := by
 refine (wpIn_wide (n := 5)).1 ?_
 refine wpIn_rangeFunc ?_
 intro fn hfn
 obtain ⟨rec, hrec⟩ : ∃ rec : LoopState → Option Code → Loop, rec = fun st pe => { state := st, pending := pe, fn, tmps := a.tmps, params := ps, assign, body, defers := w.heap.size } := ⟨_, rfl⟩
 obtain ⟨W1, hW1⟩ : ∃ W1, (w.alloc (.deferred (some []))).alloc (.loop (rec .ready none)) = W1 := ⟨_, rfl⟩
 have hL1 : W1.heap[w.heap.size + 1]? = some (.loop (rec .ready none)) := by
  rw [← hW1]; have := World.alloc_heap_new (w.alloc (.deferred (some []))) (.loop (rec .ready none)); rwa [World.size_alloc] at this
 have hK1 : W1.heap[w.heap.size]? = some (.deferred (some [])) := by
  rw [← hW1]; exact (Below.heap_alloc _ _ _ (by simp)).trans (World.alloc_heap_new w _)
 have hg1 : w.grownBy W1 none := by
  have hb : Below w.heap.size w W1 := by rw [← hW1]; exact ((Below.refl _ w).alloc (Nat.le_refl _) _).alloc (by simp) _
  exact ⟨hb.os, hb.tape, hb.output, hb.size, fun k hk _ => hb.block k hk⟩
 have hs1 : W1.heap.size = w.heap.size + 2 := by rw [← hW1]; simp
 refine ⟨w.heap.size + 1, [{ target := .collected w.heap.size, args := #[] }], W1, { target := .fn (.func gf) lb, args := #[.func (.yield (w.heap.size + 1)) #[] #[]] }, W1, gf,
  #[.func (.yield (w.heap.size + 1)) #[] #[]] ++ lb, W1, ?_, ?_, ?_, ?_, fun _ => by omega, ?_⟩
 ·rw [← hW1, hrec]; exact run_enterLoop_outer _ _ _ _ _
 ·simp only [resolve, hg]
  simp [go_sem]
 ·intro f' hf'; trivial
 ·simp [invoke, go_sem, eg]
 ·obtain ⟨Rd, hRd⟩ : ∃ Rd : World → Prop, Rd = fun W => W.heap[w.heap.size + 1]? = some (.loop (rec .ready none)) ∧ W.heap[w.heap.size]? = some (.deferred (some [])) := ⟨_, rfl⟩
  obtain ⟨Bs, hBs⟩ : ∃ Bs : World → Prop, Bs = fun W => W.heap[w.heap.size + 1]? = some (.loop { rec .ready none with state := .busy }) ∧ W.heap[w.heap.size]? = some (.deferred (some [])) := ⟨_, rfl⟩
  obtain ⟨Fn_, hFn⟩ : ∃ Fn_ : Code → World → Prop, Fn_ = fun c W => W.heap[w.heap.size + 1]? = some (.loop (rec .done (some c))) ∧ W.heap[w.heap.size]? = some (.deferred (some [])) := ⟨_, rfl⟩
  let K : LoopBook w.heap.size (w.heap.size + 1) := {
   rdy := Rd, busy := Bs, fin := Fn_
   keepR := fun A B h h1 h2 => by subst hRd; exact ⟨h2.trans h.1, h1.trans h.2⟩
   keepB := fun A B h h1 h2 => by subst hBs; exact ⟨h2.trans h.1, h1.trans h.2⟩
   keepF := fun c A B h h1 h2 => by subst hFn; exact ⟨h2.trans h.1, h1.trans h.2⟩
   rdyN := fun A h => by subst hRd; exact ⟨⟨_, h.2, rfl⟩, ⟨_, h.1, rfl⟩⟩
   busyN := fun A h => by subst hBs; exact ⟨⟨_, h.2, rfl⟩, ⟨_, h.1, rfl⟩⟩
   finN := fun c A h => by subst hFn; exact ⟨⟨_, h.2, rfl⟩, ⟨_, h.1, rfl⟩⟩ }
  have hcall := hseq K W1 hg1 hs1 (by show Rd W1; subst hRd; exact ⟨hL1, hK1⟩) (by
   intro xs W I Ix hxs hrd hro
   have hrd' : Rd W := hrd
   rw [hRd] at hrd'
   obtain ⟨hl, hk⟩ := hrd'
   have hy := run_yield (P := P) (args := xs) hl (by rw [hrec]; exact hxs)
   rw [hrec] at hy
   refine ⟨fn, _, assign, body, hy, roundIn_of_wpIn trivial (wpIn_mono hro ?_)⟩
   rintro e a3 W3 hp
   cases e with
   | normal =>
    obtain ⟨hrd3, hb3⟩ := hp
    have hrd3' : Rd W3 := hrd3
    rw [hRd] at hrd3'
    obtain ⟨hl3, hk3⟩ := hrd3'
    have hlt : w.heap.size + 1 < W3.heap.size := (Array.getElem?_eq_some_iff.1 hl3).1
    refine ⟨_, run_beginRound hl3 (by rw [hrec]), ?_⟩
    have hl4 : (W3.putObj (w.heap.size + 1) (.loop { rec .ready none with state := .busy })).heap[w.heap.size + 1]? = some (.loop { rec .ready none with state := .busy }) := World.putObj_heap_same hlt
    have hk4 : (W3.putObj (w.heap.size + 1) (.loop { rec .ready none with state := .busy })).heap[w.heap.size]? = some (.deferred (some [])) := (World.putObj_heap_other (by omega)).trans hk3
    refine wpIn_mono (hb3 _ (turn_putObj _ _ _) (by show Bs _; subst hBs; exact ⟨hl4, hk4⟩)) ?_
    have fin : ∀ (jump : Option Code) (W5 : World), Bs W5 →
      (Instr.endRound (w.heap.size + 1) jump).run P W5 = .ok (.bool jump.isNone) (W5.putObj (w.heap.size + 1) (.loop (rec (if jump.isNone then .ready else .done) jump))) ∧
      (W5.putObj (w.heap.size + 1) (.loop (rec (if jump.isNone then .ready else .done) jump))).heap[w.heap.size + 1]? = some (.loop (rec (if jump.isNone then .ready else .done) jump)) ∧
      (W5.putObj (w.heap.size + 1) (.loop (rec (if jump.isNone then .ready else .done) jump))).heap[w.heap.size]? = some (.deferred (some [])) := fun jump W5 hb5 => by
     rw [hBs] at hb5
     obtain ⟨hl5, hk5⟩ := hb5
     have := run_endRound (P := P) jump hl5
     rw [hrec] at this ⊢
     exact ⟨this, World.putObj_heap_same (Array.getElem?_eq_some_iff.1 hl5).1, (World.putObj_heap_other (by omega)).trans hk5⟩
    rintro e a5 W5 hp
    cases e with
    | normal =>
     obtain ⟨hb5, hi5⟩ := hp
     obtain ⟨hr, hl6, hk6⟩ := fin none W5 hb5
     exact ⟨_, _, hr, .inl ⟨rfl, by show Rd _; subst hRd; exact ⟨hl6, hk6⟩, W5, hi5, turn_putObj _ _ _⟩⟩
    | ret =>
     obtain ⟨hb5, hi5⟩ := hp
     obtain ⟨hr, hl6, hk6⟩ := fin (some .ret) W5 hb5
     exact ⟨_, _, hr, .inr ⟨rfl, .ret, by show Fn_ _ _; subst hFn; exact ⟨hl6, hk6⟩, W5, hi5, turn_putObj _ _ _⟩⟩
    | exit id =>
     obtain ⟨hb5, hi5⟩ := hp
     obtain ⟨hr, hl6, hk6⟩ := fin (some (.exit id)) W5 hb5
     exact ⟨_, _, hr, .inr ⟨rfl, .exit id, by show Fn_ _ _; subst hFn; exact ⟨hl6, hk6⟩, W5, hi5, turn_putObj _ _ _⟩⟩
    | goto t =>
     obtain ⟨hb5, hi5⟩ := hp
     obtain ⟨hr, hl6, hk6⟩ := fin (some (.goto t)) W5 hb5
     exact ⟨_, _, hr, .inr ⟨rfl, .goto t, by show Fn_ _ _; subst hFn; exact ⟨hl6, hk6⟩, W5, hi5, turn_putObj _ _ _⟩⟩
    | panic ch => exact hp.elim
    | outgrown => exact hp.elim
   | ret => exact hp.elim
   | exit id => exact hp.elim
   | goto t => exact hp.elim
   | panic ch => exact hp.elim
   | outgrown => exact hp.elim)
  refine (callsIn_wide.2 hcall).mono ?_
  rintro e W2 ⟨⟨v, rfl⟩, (⟨hrd, hq⟩ | ⟨c, hfi, hq⟩)⟩
  ·have hrd' : Rd W2 := hrd
   rw [hRd] at hrd'
   obtain ⟨hl, hk⟩ := hrd'
   exact ⟨none, _, by have := run_endLoop (P := P) hl (by rw [hrec]; simp); rw [hrec] at this; exact this, hq _ (turn_putObj _ _ _) ((World.putObj_heap_other (by omega)).trans hk)⟩
  ·have hfi' : Fn_ c W2 := hfi
   rw [hFn] at hfi'
   obtain ⟨hl, hk⟩ := hfi'
   exact ⟨some c, _, by have := run_endLoop (P := P) hl (by rw [hrec]; simp); rw [hrec] at this; exact this, (wpIn_wide (n := 5)).2 (hq _ (turn_putObj _ _ _) ((World.putObj_heap_other (by omega)).trans hk))⟩

mutual
def V.pre : V -> Int -> List (Int × V)
 | .mk k n t l e, d => (d, .mk k n t l e) :: pres l (d + 1)
def pres : List V -> Int -> List (Int × V)
 | [], _ => []
 | v :: r, d => v.pre d ++ pres r d
end
theorem V.pre_eq (v : V) (d : Int) : v.pre d = (d, v) :: pres v.list (d + 1) := by cases v; rw [V.pre]; rfl
theorem pres_take (l : List V) (d : Int) {i : Nat} (h : i < l.length) : pres (l.take (i + 1)) d = pres (l.take i) d ++ l[i].pre d := by
 induction l generalizing i with
 | nil => simp at h
 | cons a r ih =>
  cases i with
  | zero => simp [pres]
  | succ i =>
   have h2 : i < r.length := by simpa using h
   simp only [List.take_succ_cons, pres, List.getElem_cons_succ, List.append_assoc, ih h2]
theorem pres_split (l : List V) (d : Int) (i : Nat) : pres l d = pres (l.take i) d ++ pres (l.drop i) d := by
 induction l generalizing i with
 | nil => simp [pres]
 | cons a r ih =>
  cases i with
  | zero => simp [pres]
  | succ i => simp only [List.take_succ_cons, List.drop_succ_cons, pres, List.append_assoc, ← ih]
def Rd (w W : World) : Prop := ∀ (b i : Nat) (u : Value), w.cell? ⟨b, i, none⟩ = some u -> W.cell? ⟨b, i, none⟩ = some u
theorem VIn.rd {w W : World} {v : V} {s : Value} (h : VIn w v s) (hr : Rd w W) : VIn W v s := by
 induction h with
 | mk v p c ss wf hc hm ha hcell hin ih =>
  exact .mk v p c ss wf hc hm ha (fun b o e i hi j u hu => hr _ _ _ (hcell b o e i hi j u hu)) ih
theorem rd_below {w W : World} (h : Below w.heap.size w W) : Rd w W := fun b i u hc => bs_cellV h hc
theorem Rd.trans {w W W' : World} (h : Rd w W) (h' : Rd W W') : Rd w W' := fun b i u hc => h' b i u (h b i u hc)
theorem rangeAt_rd {w W : World} {b o : Nat} {l : List Value} (h : w.rangeAt b o l) (hr : Rd w W) : W.rangeAt b o l := fun j u hu => hr _ _ _ (h j u hu)

structure KeepW (O : Nat -> Prop) (W : World) (O2 : Nat -> Prop) (W2 : World) : Prop where
 os : W2.os = W.os
 tape : W2.tape = W.tape
 output : W2.output = W.output
 size : W.heap.size <= W2.heap.size
 block : ∀ j, j < W.heap.size -> ¬ O j -> W2.heap[j]? = W.heap[j]?
 own : ∀ j, O2 j -> O j ∨ W.heap.size <= j
theorem KeepW.trans {O O2 O3 : Nat -> Prop} {W W2 W3 : World} (h : KeepW O W O2 W2) (h' : KeepW O2 W2 O3 W3) : KeepW O W O3 W3 := by
 refine ⟨h'.os.trans h.os, h'.tape.trans h.tape, h'.output.trans h.output, Nat.le_trans h.size h'.size, fun j hj ho => (h'.block j (Nat.lt_of_lt_of_le hj h.size) (fun q => ?_)).trans (h.block j hj ho), fun j hj => ?_⟩
 ·rcases h.own j q with r | r
  ·exact ho r
  ·omega
 ·have := h.size
  rcases h'.own j hj with r | r
  ·exact h.own j r
  ·exact .inr (by omega)
theorem keepW_below {O : Nat -> Prop} {W W2 : World} (h : Below W.heap.size W W2) : KeepW O W O W2 := ⟨h.os, h.tape, h.output, h.size, fun j hj _ => h.block j hj, fun j hj => .inl hj⟩

structure RidesW (l : Nat) (w : World) (L : List (Int × V)) (J : Nat -> (Nat -> Prop) -> World -> Prop) (Jx : (Nat -> Prop) -> World -> Prop) : Prop where
 reads : ∀ k O W, J k O W -> Rd w W
 fresh : ∀ k O W, J k O W -> ∀ j, O j -> j < W.heap.size
 turn : ∀ k O W W', J k O W -> Below W.heap.size W W' -> J k O W'
 yields : ∀ k O W d x t, J k O W -> L[k]? = some (d, x) -> VIn w x t -> YieldAt Fence.wide 3 Tryz.prog l #[.int .i64 d, .agg #[.int .i64 x.kind, .int .u64 x.num, .string x.text, t, .int .i64 x.elem]] W fun e W2 =>
  (e = .returned (.bool true) ∧ ∃ O2, J (k + 1) O2 W2 ∧ KeepW O W O2 W2) ∨ (e = .returned (.bool false) ∧ ∃ O2, Jx O2 W2 ∧ KeepW O W O2 W2)
def WalkEnd (J : Nat -> (Nat -> Prop) -> World -> Prop) (Jx : (Nat -> Prop) -> World -> Prop) (k : Nat) (O : Nat -> Prop) (W : World) (e : Ending) (W' : World) : Prop :=
 (e = .returned (.bool true) ∧ ∃ O2, J k O2 W' ∧ KeepW O W O2 W') ∨ (e = .returned (.bool false) ∧ ∃ O2, Jx O2 W' ∧ KeepW O W O2 W')

theorem walk_in {l : Nat} {w : World} {L : List (Int × V)} {J : Nat -> (Nat -> Prop) -> World -> Prop} {Jx : (Nat -> Prop) -> World -> Prop} (hR : RidesW l w L J Jx) : ∀ (v : V) (d : Int) (s : Value) (k : Nat) (O : Nat -> Prop) (W : World),
  VIn w v s -> J k O W -> (∀ i, i < (v.pre d).length -> L[k + i]? = (v.pre d)[i]?) -> 0 <= d -> d + v.wt <= 4611686018427387904 →
  Calls Tryz.prog 69 #[.agg #[.int .i64 v.kind, .int .u64 v.num, .string v.text, s, .int .i64 v.elem], .int .i64 d, .func (.yield l) #[] #[]] W (WalkEnd J Jx (k + (v.pre d).length) O W) := by
 refine V.ind (fun v ih d s k O W h hJ hL hd0 hd1 => ?_)
 obtain ⟨p, c, hs, h1, h2, h3⟩ := h.slice
 obtain ⟨N, hN⟩ : ∃ N, v.list.length = N := ⟨_, rfl⟩
 rw [hN] at hs h1 h3
 subst hs
 unfold maxLen at h2
 have HI := zH ih
 have HN := zH hN
 have HV := zH h
 have HJ := zH hJ
 have HL := zH hL
 have HD := zH hd1
 have HR := zH hR
 have hd2 : d + 1 <= 9223372036854775807 := by omega
 obtain ⟨K, hK⟩ : ∃ K, k + (v.pre d).length = K := ⟨_, rfl⟩
 have HK := zH hK
 rw [hK]
 clear ih h hN hJ hL hd1 hR hK
 go_enter Tryz.func69, Tryz.ntmps69
 go_upto_region 1 with fail
 have hb0 : Below W.heap.size W (W.alloc (.cells #[.int .i64 v.kind, .int .u64 v.num, .string v.text, (.slice p N c), .int .i64 v.elem] 25)) := ((Below.refl _ _).alloc (Nat.le_refl _) _)
 have ox := zN W (.cells #[.int .i64 v.kind, .int .u64 v.num, .string v.text, (.slice p N c), .int .i64 v.elem] 25)
 generalize (W.alloc (.cells #[.int .i64 v.kind, .int .u64 v.num, .string v.text, (.slice p N c), .int .i64 v.elem] 25)) = w0 at *
 obtain ⟨x, hx⟩ : ∃ x, W.heap.size = x := ⟨_, rfl⟩
 have HX0 := zH hx
 rw [hx] at ox ⊢
 have HB0 := zH hb0
 have HOx := zH ox
 clear hb0 ox hx
 obtain ⟨x0, x1, x2, x3, x4⟩ := c5 HOx.out
 have HX : Hid (W.heap.size = x ∧ x < w0.heap.size) := zH ⟨HX0.out, (Array.getElem?_eq_some_iff.1 HOx.out).1⟩
 have hJ0 := HR.out.turn k O W w0 HJ.out HB0.out
 have h0 : L[k]? = some (d, v) := by
  have := HL.out 0 (by rw [V.pre_eq]; simp)
  rw [V.pre_eq] at this
  simpa using this
 have hyl := HR.out.yields k O w0 d v _ hJ0 h0 HV.out
 obtain ⟨fn, tmps, assign, body, hyy, hRd⟩ := hyl
 have HRd := zH hRd
 clear hRd hJ0 h0
 refine (wpIn_wide (n := 4)).1 ?_
 gi_wp2
 refine HRd.out.mono ?_
 rintro e W2 (⟨rfl, O2, hj2, hk2⟩ | ⟨rfl, O2, hj2, hk2⟩)
 ·have HK2 := zH ((keepW_below (O := O) HB0.out).trans hk2)
  have HJ2 := zH hj2
  have hxo : ¬ O2 x := fun q => by
   have h1 := HX.out
   rcases HK2.out.own x q with r | r
   ·have := HR.out.fresh k O W HJ.out x r; omega
   ·rcases hk2.own x q with r2 | r2
    ·have := HR.out.fresh k O W HJ.out x r2; omega
    ·omega
  have hxb : W2.heap[x]? = _ := (hk2.block x HX.out.2 (fun q => by have := HR.out.fresh k O W HJ.out x q; have := HX.out.1; omega)).trans HOx.out
  have c3 : W2.cell? ⟨x, 3, none⟩ = some (.slice p N c) := (cell_of_row _ _ 3 _ _ _ hxb).trans rfl
  clear hj2 hk2 hxb hxo x0 x1 x2 x3 x4 hyy
  gi_wp2
  go_wp2_with fail
  go_loopw [17] (fun v5 wr => ∃ (i : Nat) (O3 : Nat -> Prop), i <= N ∧ v5 = .int .i64 i ∧ J (k + 1 + (pres (v.list.take i) (d + 1)).length) O3 wr ∧ KeepW O W O3 wr) (fun v5 _ => N - (intOf v5).toNat)
  case atStart => exact ⟨0, O2, Nat.zero_le _, rfl, by rw [List.take_zero]; exact HJ2.out, HK2.out⟩
  case round =>
   obtain ⟨i, O3, hi, rfl, hj3, hk3⟩ := hrel
   have HR3 := zH (And.intro hj3 hk3)
   clear hj3 hk3 c3
   by_cases hkN : (i : Int) < N
   ·have ka : i < v.list.length := by rw [HN.out]; omega
    obtain ⟨b1, o1, rfl⟩ := h3 (by omega)
    obtain ⟨ta, hta, hia⟩ := HV.out.part rfl ka
    obtain ⟨pa, ca, hsa, _⟩ := hia.slice
    subst hsa
    obtain ⟨c0, c1, c2, c3, c4⟩ := part_cells (rangeAt_rd hta (HR.out.reads _ _ _ HR3.out.1))
    have htk := pres_take v.list (d + 1) ka
    have hwt := V.wt_lt (List.getElem_mem ka)
    have hIH := HI.out _ (List.getElem_mem ka) (d + 1) (.slice pa v.list[i].list.length ca) (k + 1 + (pres (v.list.take i) (d + 1)).length) O3
    have hseg : ∀ j, j < (v.list[i].pre (d + 1)).length -> L[k + 1 + (pres (v.list.take i) (d + 1)).length + j]? = (v.list[i].pre (d + 1))[j]? := by
     intro j hj
     have hsp := pres_split v.list (d + 1) (i + 1)
     rw [htk] at hsp
     have hlen : (v.pre d).length = 1 + ((pres (v.list.take i) (d + 1)).length + (v.list[i].pre (d + 1)).length + (pres (v.list.drop (i + 1)) (d + 1)).length) := by
      rw [V.pre_eq, hsp]; simp only [List.length_cons, List.length_append]; omega
     have := HL.out (1 + (pres (v.list.take i) (d + 1)).length + j) (by omega)
     rw [show k + 1 + (pres (v.list.take i) (d + 1)).length + j = k + (1 + (pres (v.list.take i) (d + 1)).length + j) by omega, this, V.pre_eq, hsp,
      show 1 + (pres (v.list.take i) (d + 1)).length + j = ((pres (v.list.take i) (d + 1)).length + j) + 1 by omega, List.getElem?_cons_succ, List.append_assoc,
      List.getElem?_append_right (by omega), Nat.add_sub_cancel_left, List.getElem?_append_left hj]
    have hnext : k + 1 + (pres (v.list.take i) (d + 1)).length + (v.list[i].pre (d + 1)).length = k + 1 + (pres (v.list.take (i + 1)) (d + 1)).length := by rw [htk, List.length_append]; omega
    obtain ⟨ya, hya⟩ : ∃ ya, v.list[i] = ya := ⟨_, rfl⟩
    rw [hya] at c0 c1 c2 c3 c4 hia hIH hseg hnext hwt
    have hIH2 := fun W hJ => hIH W hia hJ hseg (by omega) (by have := HD.out; omega)
    rw [hnext] at hIH2
    obtain ⟨na, hna⟩ : ∃ na, ya.list.length = na := ⟨_, rfl⟩
    rw [hna] at c3 hIH2
    have HIH := zH hIH2
    clear hta hia hya hna htk hIH hseg hnext hwt hIH2
    go_upto_region 6 with (refine stV (.tmp 8) (.tmp 20) rfl rfl rfl rfl rfl (zN wr _) rfl ?_)
    refine layW wr ?_
    intro w1 hb_w1 oy
    obtain ⟨y, hx_y⟩ : ∃ x, wr.heap.size = x := ⟨_, rfl⟩
    rw [hx_y] at oy ⊢
    clear hx_y
    obtain ⟨y0, y1, y2, y3, y4⟩ := c5 oy
    have hc := HIH.out w1 (HR.out.turn _ _ _ _ HR3.out.1 hb_w1)
    have HB1 := zH hb_w1
    have HC := zH hc
    clear hb_w1 oy hc c0 c1 c2 c3 c4
    go_wp2_with fail
    refine HC.out.mono ?_
    rintro e w2 (⟨rfl, O4, hj4, hk4⟩ | ⟨rfl, O4, hj4, hk4⟩)
    ·have HR4 := zH (And.intro hj4 ((HR3.out.2.trans (keepW_below HB1.out)).trans hk4))
     clear hj4 hk4 y0 y1 y2 y3 y4
     go_wp2_with fail
     go_roundw
     case rel => exact ⟨i + 1, O4, by omega, by go_num, HR4.out.1, HR4.out.2⟩
     case measure => simp [intOf]; omega
    ·have HR4 := zH (And.intro hj4 ((HR3.out.2.trans (keepW_below HB1.out)).trans hk4))
     clear hj4 hk4 y0 y1 y2 y3 y4
     go_wp2_with fail
     go_ret
     exact .inr ⟨rfl, O4, HR4.out.1, HR4.out.2⟩
   ·have hJK : J K O3 wr := by
     have h1 := HR3.out.1
     rw [List.take_of_length_le (by rw [HN.out]; omega)] at h1
     rw [← HK.out, V.pre_eq, List.length_cons, show k + ((pres v.list (d + 1)).length + 1) = k + 1 + (pres v.list (d + 1)).length by omega]
     exact h1
    have HJK := zH hJK
    clear hJK
    go_wp2_with fail
    go_ret
    exact .inl ⟨rfl, O3, HJK.out, HR3.out.2⟩
 ·have HK2 := zH (And.intro hj2 ((keepW_below (O := O) HB0.out).trans hk2))
  clear hj2 hk2 x0 x1 x2 x3 x4 hyy
  gi_wp2
  go_wp2_with fail
  go_ret
  exact .inr ⟨rfl, O2, HK2.out.1, HK2.out.2⟩


end Go.Proofs.YtnnnfhobbnjmfaaGreatDoor
