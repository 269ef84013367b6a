/-
  The stream's own methods, one by one: what each does to the stream's cells. Conditions: the stream lies in a block of its own.
  The stream's proto: a header's byte. Conditions: the stream lies in a block of its own, what it holds in memory.
  The stream's offset and sort. Conditions: the stream lies in a block of its own, what it holds in memory.
-/
import Derived.Test.YtofdpccjpodbhaaMg12
import Derived.Laws.EntriesVeiled
namespace Go.Proofs.Ytofdpccjpodbhaa
open Go.RowKit
set_option linter.unusedVariables false

/-- a stream's cells -/
def strC (nx hd tk at_ mo sz hr kd er i0 i1 i2 i3 i4 i5 : Value) : Array Value := #[nx, hd, tk, at_, mo, sz, hr, kd, er, i0, i1, i2, i3, i4, i5]
/-- the method that comes next -/
def nextF (b k : Nat) : Value := .func (.func k) #[.pointer (some ⟨b, 0, none⟩)] #[]

theorem fail_any (w : World) (b : Nat) (nx hd tk at_ mo sz hr kd er i0 i1 i2 i3 i4 i5 : Value) (E : Int)
    (hs : w.heap[b]? = some (.cells #[nx, hd, tk, at_, mo, sz, hr, kd, er, i0, i1, i2, i3, i4, i5] 91 (0, 0))) (h1 : ∃ p n c, hd = .slice p n c) (h8 : ∃ x, er = .int .i64 x) :
    Calls Try.prog 64 #[.pointer (some ⟨b, 0, none⟩), .int .i64 E] w fun e w' => e = .returned (.tuple #[]) ∧
      w'.heap[b]? = some (.cells #[nx, .slice none 0 0, tk, at_, mo, sz, hr, kd, .int .i64 E, i0, i1, i2, i3, i4, i5] 91 (0, 0)) ∧ w.grownBy w' (some b) := by
  obtain ⟨p, n, c, rfl⟩ := h1
  obtain ⟨x, rfl⟩ := h8
  have c8 : w.cell? ⟨b, 8, none⟩ = some (.int .i64 x) := (cell_of_row _ _ 8 _ _ _ hs).trans rfl
  have c1 : w.cell? ⟨b, 1, none⟩ = some (.slice p n c) := (cell_of_row _ _ 1 _ _ _ hs).trans rfl
  have f8 : ∀ k, w.frozen? ⟨b, k, none⟩ = false := fun k => by simp [World.frozen?, hs]
  have s8 := heap_setCell_same w b 8 _ _ (.int .i64 E) hs
  have s1 := heap_setCell_same _ b 1 _ _ (.slice none 0 0) s8
  have g1 := setCell_grown w b 8 (.int .i64 E)
  have g2 := setCell_grown (w.setCell ⟨b, 8, none⟩ (.int .i64 E)) b 1 (.slice none 0 0)
  have c1' : (w.setCell ⟨b, 8, none⟩ (.int .i64 E)).cell? ⟨b, 1, none⟩ = some (.slice p n c) := (cell_of_row _ _ 1 _ _ _ s8).trans rfl
  have f1' : ∀ k, (w.setCell ⟨b, 8, none⟩ (.int .i64 E)).frozen? ⟨b, k, none⟩ = false := fun k => by simp [World.frozen?, s8]
  have HS1 := Lib.hid s1
  have HG := Lib.hid (And.intro g1 g2)
  clear hs s8 s1 g1 g2
  go_enter Try.func64, Try.ntmps64
  go_wp2_with fail
  go_end0
  refine ⟨rfl, ?_, ?_⟩
  · exact HS1.out
  · exact ⟨HG.out.2.os.trans HG.out.1.os, HG.out.2.tape.trans HG.out.1.tape, HG.out.2.output.trans HG.out.1.output, Nat.le_trans HG.out.1.size HG.out.2.size, fun k hk hne => (HG.out.2.block k (Nat.lt_of_lt_of_le hk HG.out.1.size) hne).trans (HG.out.1.block k hk hne)⟩

/-- six cells written one by one -/
theorem set6_heap {w : World} {b : Nat} {nx hd tk at_ mo sz hr kd er i0 i1 i2 i3 i4 i5 j0 j1 j2 j3 j4 j5 : Value} (hs : w.heap[b]? = some (.cells #[nx, hd, tk, at_, mo, sz, hr, kd, er, i0, i1, i2, i3, i4, i5] 91 (0, 0))) :
    (((((((w.setCell ⟨b, 9, none⟩ (j0)).setCell ⟨b, 10, none⟩ (j1)).setCell ⟨b, 11, none⟩ (j2)).setCell ⟨b, 12, none⟩ (j3)).setCell ⟨b, 13, none⟩ (j4)).setCell ⟨b, 14, none⟩ (j5))).heap[b]? = some (.cells #[nx, hd, tk, at_, mo, sz, hr, kd, er, j0, j1, j2, j3, j4, j5] 91 (0, 0)) := by
  have s1 := heap_setCell_same w b 9 _ _ j0 hs
  have s2 := heap_setCell_same _ b 10 _ _ j1 s1
  have s3 := heap_setCell_same _ b 11 _ _ j2 s2
  have s4 := heap_setCell_same _ b 12 _ _ j3 s3
  have s5 := heap_setCell_same _ b 13 _ _ j4 s4
  have s6 := heap_setCell_same _ b 14 _ _ j5 s5
  exact s6
theorem grown_trans {w w1 w2 : World} {row : Option Nat} (h1 : w.grownBy w1 row) (h2 : w1.grownBy w2 row) : w.grownBy w2 row :=
  ⟨h2.os.trans h1.os, h2.tape.trans h1.tape, h2.output.trans h1.output, Nat.le_trans h1.size h2.size, fun k hk hne => (h2.block k (Nat.lt_of_lt_of_le hk h1.size) hne).trans (h1.block k hk hne)⟩
theorem grown_alloc (w : World) (o : Obj) (row : Option Nat) : w.grownBy (w.alloc o) row :=
  ⟨rfl, rfl, rfl, by simp, fun k hk _ => heap_alloc_old w o hk⟩
theorem set6_grown {w : World} {b : Nat} {j0 j1 j2 j3 j4 j5 : Value} : w.grownBy (((((((w.setCell ⟨b, 9, none⟩ (j0)).setCell ⟨b, 10, none⟩ (j1)).setCell ⟨b, 11, none⟩ (j2)).setCell ⟨b, 12, none⟩ (j3)).setCell ⟨b, 13, none⟩ (j4)).setCell ⟨b, 14, none⟩ (j5))) (some b) :=
  grown_trans (grown_trans (grown_trans (grown_trans (grown_trans (setCell_grown _ b 9 j0) (setCell_grown _ b 10 j1)) (setCell_grown _ b 11 j2)) (setCell_grown _ b 12 j3)) (setCell_grown _ b 13 j4)) (setCell_grown _ b 14 j5)

set_option maxHeartbeats 2000000 in
theorem tell_any (w : World) (b : Nat) (nx mo sz hr kd er i0 i1 i2 i3 i4 i5 j4 j5 : Value) (p : Option Addr) (n c : Nat) (t a j0 j1 j2 j3 : Int)
    (hs : w.heap[b]? = some (.cells #[nx, .slice p n c, .int .i64 t, .int .i64 a, mo, sz, hr, kd, er, i0, i1, i2, i3, i4, i5] 91 (0, 0))) (hnx : ∃ f x y, nx = .func f x y) (h9 : ∃ x0 x1 x2 x3 p4 n4 c4 p5 n5 c5, i0 = .int .i64 x0 ∧ i1 = .int .i64 x1 ∧ i2 = .int .i64 x2 ∧ i3 = .int .i64 x3 ∧ i4 = .slice p4 n4 c4 ∧ i5 = .slice p5 n5 c5)
    (h4 : ∃ p4 n4 c4 p5 n5 c5, j4 = .slice p4 n4 c4 ∧ j5 = .slice p5 n5 c5) (hnc : n ≤ c) :
    Calls Try.prog 63 #[.pointer (some ⟨b, 0, none⟩), .agg #[.int .i64 j0, .int .i64 j1, .int .i64 j2, .int .i64 j3, j4, j5]] w fun e w' => e = .returned (.tuple #[]) ∧
      w'.heap[b]? = some (.cells #[nextF b 71, .slice p 0 c, .int .i64 t, .int .i64 t, mo, sz, hr, kd, er, .int .i64 j0, .int .i64 j1, .int .i64 j2, .int .i64 j3, j4, j5] 91 (0, 0)) ∧ w.grownBy w' (some b) := by
  obtain ⟨nf, nx1, nx2, rfl⟩ := hnx
  obtain ⟨x0, x1, x2, x3, p4, n4, c4, p5, n5, c5, rfl, rfl, rfl, rfl, rfl, rfl⟩ := h9
  obtain ⟨q4, m4, d4, q5, m5, d5, rfl, rfl⟩ := h4
  have hmf : ∀ (fn : Fn) (first cap : Array Value) (w : World), (Instr.makeFunc fn first cap).run Try.prog w = .ok (.func fn first cap) w := fun _ _ _ _ => rfl
  go_enter Try.func63, Try.ntmps63
  go_upto_region 1 with fail
  have hb0 := (Array.getElem?_eq_some_iff.1 hs).1
  have s1 := (heap_alloc_old w (.cells #[.int .i64 j0, .int .i64 j1, .int .i64 j2, .int .i64 j3, .slice q4 m4 d4, .slice q5 m5 d5] 71) hb0).trans hs
  have a1 : (w.alloc (.cells #[.int .i64 j0, .int .i64 j1, .int .i64 j2, .int .i64 j3, .slice q4 m4 d4, .slice q5 m5 d5] 71)).heap[w.heap.size]? = some (.cells #[.int .i64 j0, .int .i64 j1, .int .i64 j2, .int .i64 j3, .slice q4 m4 d4, .slice q5 m5 d5] 71 (0, 0)) := heap_alloc_new _ _
  have g1 := grown_alloc w (.cells #[.int .i64 j0, .int .i64 j1, .int .i64 j2, .int .i64 j3, .slice q4 m4 d4, .slice q5 m5 d5] 71) (some b)
  generalize (w.alloc (.cells #[.int .i64 j0, .int .i64 j1, .int .i64 j2, .int .i64 j3, .slice q4 m4 d4, .slice q5 m5 d5] 71)) = w1 at *
  obtain ⟨x, hx⟩ : ∃ x, w.heap.size = x := ⟨_, rfl⟩
  rw [hx] at a1 hb0 ⊢
  clear hx
  have k0 : w1.cell? ⟨x, 0, none⟩ = some (.int .i64 j0) := (cell_of_row _ _ 0 _ _ _ a1).trans rfl
  have k1 : w1.cell? ⟨x, 1, none⟩ = some (.int .i64 j1) := (cell_of_row _ _ 1 _ _ _ a1).trans rfl
  have k2 : w1.cell? ⟨x, 2, none⟩ = some (.int .i64 j2) := (cell_of_row _ _ 2 _ _ _ a1).trans rfl
  have k3 : w1.cell? ⟨x, 3, none⟩ = some (.int .i64 j3) := (cell_of_row _ _ 3 _ _ _ a1).trans rfl
  have k4 : w1.cell? ⟨x, 4, none⟩ = some (.slice q4 m4 d4) := (cell_of_row _ _ 4 _ _ _ a1).trans rfl
  have k5 : w1.cell? ⟨x, 5, none⟩ = some (.slice q5 m5 d5) := (cell_of_row _ _ 5 _ _ _ a1).trans rfl
  have m9 : w1.cell? ⟨b, 9, none⟩ = some (.int .i64 x0) := (cell_of_row _ _ 9 _ _ _ s1).trans rfl
  have m10 : w1.cell? ⟨b, 10, none⟩ = some (.int .i64 x1) := (cell_of_row _ _ 10 _ _ _ s1).trans rfl
  have m11 : w1.cell? ⟨b, 11, none⟩ = some (.int .i64 x2) := (cell_of_row _ _ 11 _ _ _ s1).trans rfl
  have m12 : w1.cell? ⟨b, 12, none⟩ = some (.int .i64 x3) := (cell_of_row _ _ 12 _ _ _ s1).trans rfl
  have m13 : w1.cell? ⟨b, 13, none⟩ = some (.slice p4 n4 c4) := (cell_of_row _ _ 13 _ _ _ s1).trans rfl
  have m14 : w1.cell? ⟨b, 14, none⟩ = some (.slice p5 n5 c5) := (cell_of_row _ _ 14 _ _ _ s1).trans rfl
  have fz : ∀ k, w1.frozen? ⟨b, k, none⟩ = false := fun k => by simp [World.frozen?, s1]
  go_upto_region 2 with fail
  have s2 := set6_heap (j0 := (.int .i64 j0)) (j1 := (.int .i64 j1)) (j2 := (.int .i64 j2)) (j3 := (.int .i64 j3)) (j4 := (.slice q4 m4 d4)) (j5 := (.slice q5 m5 d5)) s1
  have g2 := grown_trans g1 (set6_grown (w := w1) (b := b) (j0 := (.int .i64 j0)) (j1 := (.int .i64 j1)) (j2 := (.int .i64 j2)) (j3 := (.int .i64 j3)) (j4 := (.slice q4 m4 d4)) (j5 := (.slice q5 m5 d5)))
  generalize ((((((w1.setCell ⟨b, 9, none⟩ (.int .i64 j0)).setCell ⟨b, 10, none⟩ (.int .i64 j1)).setCell ⟨b, 11, none⟩ (.int .i64 j2)).setCell ⟨b, 12, none⟩ (.int .i64 j3)).setCell ⟨b, 13, none⟩ (.slice q4 m4 d4)).setCell ⟨b, 14, none⟩ (.slice q5 m5 d5)) = w2 at *
  clear k0 k1 k2 k3 k4 k5 m9 m10 m11 m12 m13 m14 fz s1 g1 a1
  have m1 : w2.cell? ⟨b, 1, none⟩ = some (.slice p n c) := (cell_of_row _ _ 1 _ _ _ s2).trans rfl
  have fz : ∀ k, w2.frozen? ⟨b, k, none⟩ = false := fun k => by simp [World.frozen?, s2]
  have hc0 : 0 ≤ c := Nat.zero_le _
  go_upto_region 3 with fail
  have s3 := heap_setCell_same _ b 1 _ _ (.slice p 0 c) s2
  have g3 := grown_trans g2 (setCell_grown w2 b 1 (.slice p 0 c))
  simp only [List.setIfInBounds_toArray, List.set] at s3
  generalize (w2.setCell ⟨b, 1, none⟩ (.slice p 0 c)) = w3 at *
  clear m1 fz s2 g2
  have m2 : w3.cell? ⟨b, 2, none⟩ = some (.int .i64 t) := (cell_of_row _ _ 2 _ _ _ s3).trans rfl
  have m3 : w3.cell? ⟨b, 3, none⟩ = some (.int .i64 a) := (cell_of_row _ _ 3 _ _ _ s3).trans rfl
  have fz : ∀ k, w3.frozen? ⟨b, k, none⟩ = false := fun k => by simp [World.frozen?, s3]
  go_upto_region 4 with fail
  have s4 := heap_setCell_same _ b 3 _ _ (.int .i64 t) s3
  have g4 := grown_trans g3 (setCell_grown w3 b 3 (.int .i64 t))
  simp only [List.setIfInBounds_toArray, List.set] at s4
  generalize (w3.setCell ⟨b, 3, none⟩ (.int .i64 t)) = w4 at *
  clear m2 m3 fz s3 g3
  have m0 : w4.cell? ⟨b, 0, none⟩ = some (.func nf nx1 nx2) := (cell_of_row _ _ 0 _ _ _ s4).trans rfl
  have fz : ∀ k, w4.frozen? ⟨b, k, none⟩ = false := fun k => by simp [World.frozen?, s4]
  have s5 := heap_setCell_same _ b 0 _ _ (nextF b 71) s4
  have g5 := grown_trans g4 (setCell_grown w4 b 0 (nextF b 71))
  have HF := Lib.hid (And.intro s5 g5)
  clear s4 g4 s5 g5
  go_wp2_with fail
  go_end0
  exact ⟨rfl, HF.out.1, HF.out.2⟩
end Go.Proofs.Ytofdpccjpodbhaa

namespace Go.Proofs.Ytofdpccjpodbhaa
open Go.RowKit
set_option linter.unusedVariables false

theorem grown_below {w w' : World} {row : Option Nat} (hb : Below w.heap.size w w') : w.grownBy w' row := ⟨hb.os, hb.tape, hb.output, hb.size, fun k hk _ => hb.block k hk⟩

theorem proto_short (w : World) (b : Nat) (nx mo sz i0 i1 i2 i3 i4 i5 : Value) (p : Option Addr) (n c : Nat) (t a k0 e0 : Int) (h0 : Bool) (l : List UInt8) (hs : w.heap[b]? = some (.cells #[nx, .slice p n c, .int .i64 t, .int .i64 a, mo, sz, .bool h0, .int .i64 k0, .int .i64 e0, i0, i1, i2, i3, i4, i5] 91 (0, 0))) (hb : BytesIn w p n c l) (hz : n ≤ 140737488355328) (r1 r2 : Int) (hr : readH l 0 = (r1, r2, 10)) :
    Calls Try.prog 51 #[.pointer (some ⟨b, 0, none⟩)] w fun e w' => e = .returned (.tuple #[]) ∧ w'.heap[b]? = some (.cells #[nx, .slice p n c, .int .i64 t, .int .i64 a, mo, sz, .bool h0, .int .i64 k0, .int .i64 e0, i0, i1, i2, i3, i4, i5] 91 (0, 0)) ∧ w.grownBy w' (some b) := by
  have hcl := read_any w p n c l 0 hb hz
  rw [hr] at hcl
  have c1 : w.cell? ⟨b, 1, none⟩ = some (.slice p n c) := (cell_of_row _ _ 1 _ _ _ hs).trans rfl
  have HS := Lib.hid hs
  clear hs hr hb
  go_enter Try.func51, Try.ntmps51
  go_wp2_with fail
  refine hcl.mono ?_
  rintro e w1 ⟨rfl, hb1⟩
  have hF : w1.heap[b]? = _ := (hb1.block b (Array.getElem?_eq_some_iff.1 HS.out).1).trans HS.out
  have HF := Lib.hid hF
  have HG : Hid (w.grownBy w1 (some b)) := Lib.hid (grown_below hb1)
  clear hcl c1 hF hb1
  go_wp2_with fail
  go_end0
  exact ⟨rfl, HF.out, HG.out⟩

theorem proto_bad (w : World) (b : Nat) (nx mo sz i0 i1 i2 i3 i4 i5 : Value) (p : Option Addr) (n c : Nat) (t a k0 e0 : Int) (h0 : Bool) (l : List UInt8) (hs : w.heap[b]? = some (.cells #[nx, .slice p n c, .int .i64 t, .int .i64 a, mo, sz, .bool h0, .int .i64 k0, .int .i64 e0, i0, i1, i2, i3, i4, i5] 91 (0, 0))) (hb : BytesIn w p n c l) (hz : n ≤ 140737488355328) (r1 r2 r3 : Int) (hr : readH l 0 = (r1, r2, r3)) (h10 : r3 ≠ 10) (h00 : r3 ≠ 0) :
    Calls Try.prog 51 #[.pointer (some ⟨b, 0, none⟩)] w fun e w' => e = .returned (.tuple #[]) ∧ w'.heap[b]? = some (.cells #[nx, .slice none 0 0, .int .i64 t, .int .i64 a, mo, sz, .bool h0, .int .i64 k0, .int .i64 r3, i0, i1, i2, i3, i4, i5] 91 (0, 0)) ∧ w.grownBy w' (some b) := by
  have hcl := read_any w p n c l 0 hb hz
  rw [hr] at hcl
  have c1 : w.cell? ⟨b, 1, none⟩ = some (.slice p n c) := (cell_of_row _ _ 1 _ _ _ hs).trans rfl
  have HS := Lib.hid hs
  have t1 : (r3 == 10) = false := by simpa using h10
  have t2 : (r3 == 0) = false := by simpa using h00
  clear hs hr hb h10 h00
  go_enter Try.func51, Try.ntmps51
  go_wp2_with fail
  refine hcl.mono ?_
  rintro e w1 ⟨rfl, hb1⟩
  have hF : w1.heap[b]? = some (.cells #[nx, .slice p n c, .int .i64 t, .int .i64 a, mo, sz, .bool h0, .int .i64 k0, .int .i64 e0, i0, i1, i2, i3, i4, i5] 91 (0, 0)) := (hb1.block b (Array.getElem?_eq_some_iff.1 HS.out).1).trans HS.out
  have hfl := fail_any w1 b _ _ _ _ _ _ _ _ _ _ _ _ _ _ _ r3 hF ⟨_, _, _, rfl⟩ ⟨_, rfl⟩
  have HG : Hid (w.grownBy w1 (some b)) := Lib.hid (grown_below hb1)
  clear hcl c1 hF hb1
  go_wp2_with fail
  refine hfl.mono ?_
  rintro e w2 ⟨rfl, hh, hg⟩
  have HH := Lib.hid hh
  have HG2 := Lib.hid (grown_trans HG.out hg)
  clear hfl hh hg
  go_wp2_with fail
  go_end0
  exact ⟨rfl, HH.out, HG2.out⟩

set_option maxHeartbeats 2000000 in
theorem proto_ok (w : World) (b : Nat) (nx mo sz i0 i1 i2 i3 i4 i5 : Value) (p : Option Addr) (n c : Nat) (t a k0 e0 : Int) (h0 : Bool) (l : List UInt8) (hs : w.heap[b]? = some (.cells #[nx, .slice p n c, .int .i64 t, .int .i64 a, mo, sz, .bool h0, .int .i64 k0, .int .i64 e0, i0, i1, i2, i3, i4, i5] 91 (0, 0))) (hb : BytesIn w p n c l) (hz : n ≤ 140737488355328) (h9 : ∃ x0 x1 x2 x3 p4 n4 c4 p5 n5 c5, i0 = .int .i64 x0 ∧ i1 = .int .i64 x1 ∧ i2 = .int .i64 x2 ∧ i3 = .int .i64 x3 ∧ i4 = .slice p4 n4 c4 ∧ i5 = .slice p5 n5 c5) (hnx : ∃ f x y, nx = .func f x y) (r1 r2 : Int) (hr : readH l 0 = (r1, r2, 0)) :
    Calls Try.prog 51 #[.pointer (some ⟨b, 0, none⟩)] w fun e w' => e = .returned (.tuple #[]) ∧ w'.heap[b]? = some (.cells #[nextF b 71, .slice p 0 c, .int .i64 t, .int .i64 t, mo, sz, .bool false, .int .i64 (if r1 = 3 then 1 else 0), .int .i64 e0, .int .i64 1, .int .i64 r1, .int .i64 0, .int .i64 0, .slice none 0 0, .slice none 0 0] 91 (0, 0)) ∧ w.grownBy w' (some b) := by
  have hcl := read_any w p n c l 0 hb hz
  rw [hr] at hcl
  have c1 : w.cell? ⟨b, 1, none⟩ = some (.slice p n c) := (cell_of_row _ _ 1 _ _ _ hs).trans rfl
  have HS := Lib.hid hs
  have hle := hb.le
  clear hs hr hb
  go_enter Try.func51, Try.ntmps51
  go_wp2_with fail
  refine hcl.mono ?_
  rintro e w1 ⟨rfl, hb1⟩
  have s1 : w1.heap[b]? = some (.cells #[nx, .slice p n c, .int .i64 t, .int .i64 a, mo, sz, .bool h0, .int .i64 k0, .int .i64 e0, i0, i1, i2, i3, i4, i5] 91 (0, 0)) := (hb1.block b (Array.getElem?_eq_some_iff.1 HS.out).1).trans HS.out
  have g1 : w.grownBy w1 (some b) := grown_below hb1
  have m6 : w1.cell? ⟨b, 6, none⟩ = some (.bool h0) := (cell_of_row _ _ 6 _ _ _ s1).trans rfl
  have fz : ∀ k, w1.frozen? ⟨b, k, none⟩ = false := fun k => by simp [World.frozen?, s1]
  clear hcl c1 hb1
  go_upto_region 6 with fail
  have s2 := heap_setCell_same _ b 6 _ _ (.bool false) s1
  have g2 := grown_trans g1 (setCell_grown w1 b 6 (.bool false))
  simp only [List.setIfInBounds_toArray, List.set] at s2
  generalize (w1.setCell ⟨b, 6, none⟩ (.bool false)) = w2 at *
  clear m6 fz s1 g1
  have m7 : w2.cell? ⟨b, 7, none⟩ = some (.int .i64 k0) := (cell_of_row _ _ 7 _ _ _ s2).trans rfl
  have fz : ∀ k, w2.frozen? ⟨b, k, none⟩ = false := fun k => by simp [World.frozen?, s2]
  go_upto_region 7 with fail
  have s3 := heap_setCell_same _ b 7 _ _ (.int .i64 0) s2
  have g3 := grown_trans g2 (setCell_grown w2 b 7 (.int .i64 0))
  simp only [List.setIfInBounds_toArray, List.set] at s3
  generalize (w2.setCell ⟨b, 7, none⟩ (.int .i64 0)) = w3 at *
  clear m7 fz s2 g2
  by_cases h3 : r1 = 3
  · have t3 : (r1 == 3) = true := by simpa using h3
    have R1 := Lib.hid h3
    have m7 : w3.cell? ⟨b, 7, none⟩ = some (.int .i64 0) := (cell_of_row _ _ 7 _ _ _ s3).trans rfl
    have fz : ∀ k, w3.frozen? ⟨b, k, none⟩ = false := fun k => by simp [World.frozen?, s3]
    clear h3
    go_upto_region 9 with fail
    have s4 := heap_setCell_same _ b 7 _ _ (.int .i64 1) s3
    have g4 := grown_trans g3 (setCell_grown w3 b 7 (.int .i64 1))
    simp only [List.setIfInBounds_toArray, List.set] at s4
    generalize (w3.setCell ⟨b, 7, none⟩ (.int .i64 1)) = w4 at *
    have htl := tell_any w4 b _ _ _ _ _ _ _ _ _ _ _ _ (.slice none 0 0) (.slice none 0 0) p n c t a 1 r1 0 0 s4 hnx h9 ⟨_, _, _, _, _, _, rfl, rfl⟩ hle
    have G4 := Lib.hid g4
    clear m7 fz s3 g3 s4 g4 hnx h9
    go_wp2_with fail
    refine htl.mono ?_
    rintro e w5 ⟨rfl, hh, hg⟩
    have HH := Lib.hid hh
    have HG := Lib.hid (grown_trans G4.out hg)
    clear htl hh hg
    go_wp2_with fail
    go_end0
    exact ⟨rfl, by have hq := HH.out; rw [R1.out] at hq; exact hq, HG.out⟩
  · have t3 : (r1 == 3) = false := by simpa using h3
    have R1 := Lib.hid h3
    clear h3
    have htl := tell_any w3 b _ _ _ _ _ _ _ _ _ _ _ _ (.slice none 0 0) (.slice none 0 0) p n c t a 1 r1 0 0 s3 hnx h9 ⟨_, _, _, _, _, _, rfl, rfl⟩ hle
    have G3 := Lib.hid g3
    clear s3 g3 hnx h9
    go_wp2_with fail
    refine htl.mono ?_
    rintro e w5 ⟨rfl, hh, hg⟩
    have HH := Lib.hid hh
    have HG := Lib.hid (grown_trans G3.out hg)
    clear htl hh hg
    go_wp2_with fail
    go_end0
    exact ⟨rfl, by first | exact HH.out | (rw [if_neg R1.out]; exact HH.out), HG.out⟩
end Go.Proofs.Ytofdpccjpodbhaa

namespace Go.Proofs.Ytofdpccjpodbhaa
open Go.RowKit
set_option linter.unusedVariables false

theorem offset_bad (w : World) (b : Nat) (tk at_ mo hr i0 i1 i2 i3 i4 i5 : Value) (nf : Fn) (nx1 nx2 : Array Value) (p : Option Addr) (n c s : Nat) (k0 e0 : Int) (l : List UInt8) (hs : w.heap[b]? = some (.cells #[.func nf nx1 nx2, .slice p n c, tk, at_, mo, .int .i64 s, hr, .int .i64 k0, .int .i64 e0, i0, i1, i2, i3, i4, i5] 91 (0, 0))) (hb : BytesIn w p n c l) (hn : 4 < n) (h : (l.getD 4 0).toNat < 2 ∨ s < 4 * (l.getD 4 0).toNat) :
    Calls Try.prog 73 #[.pointer (some ⟨b, 0, none⟩)] w fun e w' => e = .returned (.tuple #[]) ∧ w'.heap[b]? = some (.cells #[.func nf nx1 nx2, .slice none 0 0, tk, at_, mo, .int .i64 s, hr, .int .i64 k0, .int .i64 52, i0, i1, i2, i3, i4, i5] 91 (0, 0)) ∧ w.grownBy w' (some b) := by
  have hcap := hb.cap
  have hle := hb.le
  unfold maxLen at hcap
  obtain ⟨g, o, rfl, hgl, hcell⟩ := hb.at_ (by omega)
  have hc4 := hcell 4 (by omega)
  have hy8 := (l.getD 4 0).toNat_lt
  obtain ⟨y, hy⟩ : ∃ y, (l.getD 4 0).toNat = y := ⟨_, rfl⟩
  rw [hy] at hc4 hy8 h
  clear hy hcell hb
  have c1 : w.cell? ⟨b, 1, none⟩ = some (.slice (some ⟨g, o, none⟩) n c) := (cell_of_row _ _ 1 _ _ _ hs).trans rfl
  have c5 : w.cell? ⟨b, 5, none⟩ = some (.int .i64 s) := (cell_of_row _ _ 5 _ _ _ hs).trans rfl
  have c7 : w.cell? ⟨b, 7, none⟩ = some (.int .i64 k0) := (cell_of_row _ _ 7 _ _ _ hs).trans rfl
  have HS := Lib.hid hs
  have hmf : ∀ (fn : Fn) (first cap : Array Value) (w : World), (Instr.makeFunc fn first cap).run Try.prog w = .ok (.func fn first cap) w := fun _ _ _ _ => rfl
  clear hs
  go_enter Try.func73, Try.ntmps73
  have hcase : (y : Int) < 2 ∨ (¬ (y : Int) < 2 ∧ (s : Int) < 4 * (y : Int)) := by omega
  clear h
  rcases hcase with h1 | ⟨h1, h2⟩
  · skip
    have hfl := fail_any w b _ _ _ _ _ _ _ _ _ _ _ _ _ _ _ 52 HS.out ⟨_, _, _, rfl⟩ ⟨_, rfl⟩
    go_wp2_with fail
    refine hfl.mono ?_
    rintro e w2 ⟨rfl, hh, hg⟩
    have HH := Lib.hid hh
    have HG := Lib.hid hg
    clear hfl hh hg
    go_wp2_with fail
    refine bodyPost_ret (v := .tuple #[]) (results_none (by kernel_rfl) _ _ _) rfl ?_
    exact ⟨rfl, HH.out, HG.out⟩
  · skip
    have hfl := fail_any w b _ _ _ _ _ _ _ _ _ _ _ _ _ _ _ 52 HS.out ⟨_, _, _, rfl⟩ ⟨_, rfl⟩
    go_wp2_with fail
    refine hfl.mono ?_
    rintro e w2 ⟨rfl, hh, hg⟩
    have HH := Lib.hid hh
    have HG := Lib.hid hg
    clear hfl hh hg
    go_wp2_with fail
    refine bodyPost_ret (v := .tuple #[]) (results_none (by kernel_rfl) _ _ _) rfl ?_
    exact ⟨rfl, HH.out, HG.out⟩

theorem offset_ok (w : World) (b : Nat) (tk at_ mo hr i0 i1 i2 i3 i4 i5 : Value) (nf : Fn) (nx1 nx2 : Array Value) (p : Option Addr) (n c s : Nat) (k0 e0 : Int) (l : List UInt8) (hs : w.heap[b]? = some (.cells #[.func nf nx1 nx2, .slice p n c, tk, at_, mo, .int .i64 s, hr, .int .i64 k0, .int .i64 e0, i0, i1, i2, i3, i4, i5] 91 (0, 0))) (hb : BytesIn w p n c l) (hn : 4 < n) (h : ¬ ((l.getD 4 0).toNat < 2 ∨ s < 4 * (l.getD 4 0).toNat)) :
    Calls Try.prog 73 #[.pointer (some ⟨b, 0, none⟩)] w fun e w' => e = .returned (.tuple #[]) ∧ w'.heap[b]? = some (.cells #[nextF b 76, .slice p n c, tk, at_, mo, .int .i64 s, hr, .int .i64 k0, .int .i64 e0, i0, i1, i2, i3, i4, i5] 91 (0, 0)) ∧ w.grownBy w' (some b) := by
  have hcap := hb.cap
  have hle := hb.le
  unfold maxLen at hcap
  obtain ⟨g, o, rfl, hgl, hcell⟩ := hb.at_ (by omega)
  have hc4 := hcell 4 (by omega)
  have hy8 := (l.getD 4 0).toNat_lt
  obtain ⟨y, hy⟩ : ∃ y, (l.getD 4 0).toNat = y := ⟨_, rfl⟩
  rw [hy] at hc4 hy8 h
  clear hy hcell hb
  have c1 : w.cell? ⟨b, 1, none⟩ = some (.slice (some ⟨g, o, none⟩) n c) := (cell_of_row _ _ 1 _ _ _ hs).trans rfl
  have c5 : w.cell? ⟨b, 5, none⟩ = some (.int .i64 s) := (cell_of_row _ _ 5 _ _ _ hs).trans rfl
  have c7 : w.cell? ⟨b, 7, none⟩ = some (.int .i64 k0) := (cell_of_row _ _ 7 _ _ _ hs).trans rfl
  have HS := Lib.hid hs
  have hmf : ∀ (fn : Fn) (first cap : Array Value) (w : World), (Instr.makeFunc fn first cap).run Try.prog w = .ok (.func fn first cap) w := fun _ _ _ _ => rfl
  clear hs
  go_enter Try.func73, Try.ntmps73
  have h1 : ¬ (y : Int) < 2 := by omega
  have h2 : ¬ (s : Int) < 4 * (y : Int) := by omega
  clear h
  have m0 : w.cell? ⟨b, 0, none⟩ = some (.func nf nx1 nx2) := (cell_of_row _ _ 0 _ _ _ HS.out).trans rfl
  have fz : ∀ k, w.frozen? ⟨b, k, none⟩ = false := fun k => by simp [World.frozen?, HS.out]
  have s5 := heap_setCell_same _ b 0 _ _ (nextF b 76) HS.out
  have HF := Lib.hid (And.intro s5 (setCell_grown w b 0 (nextF b 76)))
  clear s5
  go_wp2_with fail
  go_end0
  exact ⟨rfl, HF.out.1, HF.out.2⟩

theorem sort_type (w : World) (b : Nat) (tk at_ mo hr i0 i1 i2 i3 i4 i5 : Value) (nf : Fn) (nx1 nx2 : Array Value) (p : Option Addr) (n c s : Nat) (k0 e0 : Int) (l : List UInt8) (hs : w.heap[b]? = some (.cells #[.func nf nx1 nx2, .slice p n c, tk, at_, mo, .int .i64 s, hr, .int .i64 k0, .int .i64 e0, i0, i1, i2, i3, i4, i5] 91 (0, 0))) (hb : BytesIn w p n c l) (hn : 5 < n) (h : 1 < (l.getD 5 0).toNat) :
    Calls Try.prog 76 #[.pointer (some ⟨b, 0, none⟩)] w fun e w' => e = .returned (.tuple #[]) ∧ w'.heap[b]? = some (.cells #[.func nf nx1 nx2, .slice none 0 0, tk, at_, mo, .int .i64 s, hr, .int .i64 k0, .int .i64 53, i0, i1, i2, i3, i4, i5] 91 (0, 0)) ∧ w.grownBy w' (some b) := by
  have hcap := hb.cap
  have hle := hb.le
  unfold maxLen at hcap
  obtain ⟨g, o, rfl, hgl, hcell⟩ := hb.at_ (by omega)
  have hc4 := hcell 5 (by omega)
  have hy8 := (l.getD 5 0).toNat_lt
  obtain ⟨y, hy⟩ : ∃ y, (l.getD 5 0).toNat = y := ⟨_, rfl⟩
  rw [hy] at hc4 hy8 h
  clear hy hcell hb
  have c1 : w.cell? ⟨b, 1, none⟩ = some (.slice (some ⟨g, o, none⟩) n c) := (cell_of_row _ _ 1 _ _ _ hs).trans rfl
  have c5 : w.cell? ⟨b, 5, none⟩ = some (.int .i64 s) := (cell_of_row _ _ 5 _ _ _ hs).trans rfl
  have c7 : w.cell? ⟨b, 7, none⟩ = some (.int .i64 k0) := (cell_of_row _ _ 7 _ _ _ hs).trans rfl
  have HS := Lib.hid hs
  have hmf : ∀ (fn : Fn) (first cap : Array Value) (w : World), (Instr.makeFunc fn first cap).run Try.prog w = .ok (.func fn first cap) w := fun _ _ _ _ => rfl
  clear hs
  go_enter Try.func76, Try.ntmps76
  have h1 : ((y : Int) != 0) = true := by simp; omega
  have h2 : ((y : Int) != 1) = true := by simp; omega
  clear h
  have hfl := fail_any w b _ _ _ _ _ _ _ _ _ _ _ _ _ _ _ 53 HS.out ⟨_, _, _, rfl⟩ ⟨_, rfl⟩
  go_wp2_with fail
  refine hfl.mono ?_
  rintro e w2 ⟨rfl, hh, hg⟩
  have HH := Lib.hid hh
  have HG := Lib.hid hg
  clear hfl hh hg
  go_wp2_with fail
  go_end0
  exact ⟨rfl, HH.out, HG.out⟩

theorem sort_order (w : World) (b : Nat) (tk at_ mo hr i0 i1 i2 i3 i4 i5 : Value) (nf : Fn) (nx1 nx2 : Array Value) (p : Option Addr) (n c s : Nat) (k0 e0 : Int) (l : List UInt8) (hs : w.heap[b]? = some (.cells #[.func nf nx1 nx2, .slice p n c, tk, at_, mo, .int .i64 s, hr, .int .i64 k0, .int .i64 e0, i0, i1, i2, i3, i4, i5] 91 (0, 0))) (hb : BytesIn w p n c l) (hn : 5 < n) (h : ¬ 1 < (l.getD 5 0).toNat ∧ ((l.getD 5 0).toNat : Int) ≠ k0) :
    Calls Try.prog 76 #[.pointer (some ⟨b, 0, none⟩)] w fun e w' => e = .returned (.tuple #[]) ∧ w'.heap[b]? = some (.cells #[.func nf nx1 nx2, .slice none 0 0, tk, at_, mo, .int .i64 s, hr, .int .i64 k0, .int .i64 60, i0, i1, i2, i3, i4, i5] 91 (0, 0)) ∧ w.grownBy w' (some b) := by
  have hcap := hb.cap
  have hle := hb.le
  unfold maxLen at hcap
  obtain ⟨g, o, rfl, hgl, hcell⟩ := hb.at_ (by omega)
  have hc4 := hcell 5 (by omega)
  have hy8 := (l.getD 5 0).toNat_lt
  obtain ⟨y, hy⟩ : ∃ y, (l.getD 5 0).toNat = y := ⟨_, rfl⟩
  rw [hy] at hc4 hy8 h
  clear hy hcell hb
  have c1 : w.cell? ⟨b, 1, none⟩ = some (.slice (some ⟨g, o, none⟩) n c) := (cell_of_row _ _ 1 _ _ _ hs).trans rfl
  have c5 : w.cell? ⟨b, 5, none⟩ = some (.int .i64 s) := (cell_of_row _ _ 5 _ _ _ hs).trans rfl
  have c7 : w.cell? ⟨b, 7, none⟩ = some (.int .i64 k0) := (cell_of_row _ _ 7 _ _ _ hs).trans rfl
  have HS := Lib.hid hs
  have hmf : ∀ (fn : Fn) (first cap : Array Value) (w : World), (Instr.makeFunc fn first cap).run Try.prog w = .ok (.func fn first cap) w := fun _ _ _ _ => rfl
  clear hs
  go_enter Try.func76, Try.ntmps76
  have h3 : ((y : Int) != k0) = true := by simpa using h.2
  have hcase : ((y : Int) != 0) = false ∨ (((y : Int) != 0) = true ∧ ((y : Int) != 1) = false) := by
    by_cases h0 : y = 0
    · exact .inl (by simp [h0])
    · exact .inr ⟨by simp; omega, by simp; omega⟩
  clear h
  rcases hcase with h1 | ⟨h1, h2⟩
  · skip
    have hfl := fail_any w b _ _ _ _ _ _ _ _ _ _ _ _ _ _ _ 60 HS.out ⟨_, _, _, rfl⟩ ⟨_, rfl⟩
    go_wp2_with fail
    refine hfl.mono ?_
    rintro e w2 ⟨rfl, hh, hg⟩
    have HH := Lib.hid hh
    have HG := Lib.hid hg
    clear hfl hh hg
    go_wp2_with fail
    go_end0
    exact ⟨rfl, HH.out, HG.out⟩
  · skip
    have hfl := fail_any w b _ _ _ _ _ _ _ _ _ _ _ _ _ _ _ 60 HS.out ⟨_, _, _, rfl⟩ ⟨_, rfl⟩
    go_wp2_with fail
    refine hfl.mono ?_
    rintro e w2 ⟨rfl, hh, hg⟩
    have HH := Lib.hid hh
    have HG := Lib.hid hg
    clear hfl hh hg
    go_wp2_with fail
    go_end0
    exact ⟨rfl, HH.out, HG.out⟩

theorem sort_ok (w : World) (b : Nat) (tk at_ mo hr i0 i1 i2 i3 i4 i5 : Value) (nf : Fn) (nx1 nx2 : Array Value) (p : Option Addr) (n c s : Nat) (k0 e0 : Int) (l : List UInt8) (hs : w.heap[b]? = some (.cells #[.func nf nx1 nx2, .slice p n c, tk, at_, mo, .int .i64 s, hr, .int .i64 k0, .int .i64 e0, i0, i1, i2, i3, i4, i5] 91 (0, 0))) (hb : BytesIn w p n c l) (hn : 5 < n) (h : ¬ 1 < (l.getD 5 0).toNat ∧ ((l.getD 5 0).toNat : Int) = k0) :
    Calls Try.prog 76 #[.pointer (some ⟨b, 0, none⟩)] w fun e w' => e = .returned (.tuple #[]) ∧ w'.heap[b]? = some (.cells #[nextF b 78, .slice p n c, tk, at_, mo, .int .i64 s, hr, .int .i64 k0, .int .i64 e0, i0, i1, i2, i3, i4, i5] 91 (0, 0)) ∧ w.grownBy w' (some b) := by
  have hcap := hb.cap
  have hle := hb.le
  unfold maxLen at hcap
  obtain ⟨g, o, rfl, hgl, hcell⟩ := hb.at_ (by omega)
  have hc4 := hcell 5 (by omega)
  have hy8 := (l.getD 5 0).toNat_lt
  obtain ⟨y, hy⟩ : ∃ y, (l.getD 5 0).toNat = y := ⟨_, rfl⟩
  rw [hy] at hc4 hy8 h
  clear hy hcell hb
  have c1 : w.cell? ⟨b, 1, none⟩ = some (.slice (some ⟨g, o, none⟩) n c) := (cell_of_row _ _ 1 _ _ _ hs).trans rfl
  have c5 : w.cell? ⟨b, 5, none⟩ = some (.int .i64 s) := (cell_of_row _ _ 5 _ _ _ hs).trans rfl
  have c7 : w.cell? ⟨b, 7, none⟩ = some (.int .i64 k0) := (cell_of_row _ _ 7 _ _ _ hs).trans rfl
  have HS := Lib.hid hs
  have hmf : ∀ (fn : Fn) (first cap : Array Value) (w : World), (Instr.makeFunc fn first cap).run Try.prog w = .ok (.func fn first cap) w := fun _ _ _ _ => rfl
  clear hs
  go_enter Try.func76, Try.ntmps76
  have h3 : ((y : Int) != k0) = false := by simpa using h.2
  have hcase : ((y : Int) != 0) = false ∨ (((y : Int) != 0) = true ∧ ((y : Int) != 1) = false) := by
    by_cases h0 : y = 0
    · exact .inl (by simp [h0])
    · exact .inr ⟨by simp; omega, by simp; omega⟩
  clear h
  rcases hcase with h1 | ⟨h1, h2⟩
  · skip
    have m0 : w.cell? ⟨b, 0, none⟩ = some (.func nf nx1 nx2) := (cell_of_row _ _ 0 _ _ _ HS.out).trans rfl
    have fz : ∀ k, w.frozen? ⟨b, k, none⟩ = false := fun k => by simp [World.frozen?, HS.out]
    have s5 := heap_setCell_same _ b 0 _ _ (nextF b 78) HS.out
    have HF := Lib.hid (And.intro s5 (setCell_grown w b 0 (nextF b 78)))
    clear s5
    go_wp2_with fail
    go_end0
    exact ⟨rfl, HF.out.1, HF.out.2⟩
  · skip
    have m0 : w.cell? ⟨b, 0, none⟩ = some (.func nf nx1 nx2) := (cell_of_row _ _ 0 _ _ _ HS.out).trans rfl
    have fz : ∀ k, w.frozen? ⟨b, k, none⟩ = false := fun k => by simp [World.frozen?, HS.out]
    have s5 := heap_setCell_same _ b 0 _ _ (nextF b 78) HS.out
    have HF := Lib.hid (And.intro s5 (setCell_grown w b 0 (nextF b 78)))
    clear s5
    go_wp2_with fail
    go_end0
    exact ⟨rfl, HF.out.1, HF.out.2⟩
end Go.Proofs.Ytofdpccjpodbhaa
