/-
  The stream's proto: a header's byte. Conditions: the stream lies in a block of its own, what it holds in memory.
-/
import Derived.Test.YtofdpccjpodbhaaStr1
namespace Go.Proofs.Ytofdpccjpodbhaa
open Go.RowKit
set_option linter.unusedVariables false

theorem grown_below {w w' : World} {row : Option Nat} (hb : Below w.heap.size w w') : w.grownBy w' row := ⟨hb.os, hb.tape, hb.output, hb.size, fun k hk _ => hb.block k hk⟩

theorem proto_short (w : World) (b : Nat) (nx mo sz i0 i1 i2 i3 i4 i5 : Value) (p : Option Addr) (n c : Nat) (t a k0 e0 : Int) (h0 : Bool) (l : List UInt8) (hs : w.heap[b]? = some (.cells #[nx, .slice p n c, .int .i64 t, .int .i64 a, mo, sz, .bool h0, .int .i64 k0, .int .i64 e0, i0, i1, i2, i3, i4, i5] 91 (0, 0))) (hb : BytesIn w p n c l) (hz : n ≤ 140737488355328) (r1 r2 : Int) (hr : readH l 0 = (r1, r2, 10)) :
    Calls Try.prog 51 #[.pointer (some ⟨b, 0, none⟩)] w fun e w' => e = .returned (.tuple #[]) ∧ w'.heap[b]? = some (.cells #[nx, .slice p n c, .int .i64 t, .int .i64 a, mo, sz, .bool h0, .int .i64 k0, .int .i64 e0, i0, i1, i2, i3, i4, i5] 91 (0, 0)) ∧ w.grownBy w' (some b) := by
  have hcl := read_any w p n c l 0 hb hz
  rw [hr] at hcl
  have c1 : w.cell? ⟨b, 1, none⟩ = some (.slice p n c) := (cell_of_row _ _ 1 _ _ _ hs).trans rfl
  have HS := Lib.hid hs
  clear hs hr hb
  go_enter Try.func51, Try.ntmps51
  go_wp2_with fail
  refine hcl.mono ?_
  rintro e w1 ⟨rfl, hb1⟩
  have hF : w1.heap[b]? = _ := (hb1.block b (Array.getElem?_eq_some_iff.1 HS.out).1).trans HS.out
  have HF := Lib.hid hF
  have HG : Hid (w.grownBy w1 (some b)) := Lib.hid (grown_below hb1)
  clear hcl c1 hF hb1
  go_wp2_with fail
  go_end0
  exact ⟨rfl, HF.out, HG.out⟩

theorem proto_bad (w : World) (b : Nat) (nx mo sz i0 i1 i2 i3 i4 i5 : Value) (p : Option Addr) (n c : Nat) (t a k0 e0 : Int) (h0 : Bool) (l : List UInt8) (hs : w.heap[b]? = some (.cells #[nx, .slice p n c, .int .i64 t, .int .i64 a, mo, sz, .bool h0, .int .i64 k0, .int .i64 e0, i0, i1, i2, i3, i4, i5] 91 (0, 0))) (hb : BytesIn w p n c l) (hz : n ≤ 140737488355328) (r1 r2 r3 : Int) (hr : readH l 0 = (r1, r2, r3)) (h10 : r3 ≠ 10) (h00 : r3 ≠ 0) :
    Calls Try.prog 51 #[.pointer (some ⟨b, 0, none⟩)] w fun e w' => e = .returned (.tuple #[]) ∧ w'.heap[b]? = some (.cells #[nx, .slice none 0 0, .int .i64 t, .int .i64 a, mo, sz, .bool h0, .int .i64 k0, .int .i64 r3, i0, i1, i2, i3, i4, i5] 91 (0, 0)) ∧ w.grownBy w' (some b) := by
  have hcl := read_any w p n c l 0 hb hz
  rw [hr] at hcl
  have c1 : w.cell? ⟨b, 1, none⟩ = some (.slice p n c) := (cell_of_row _ _ 1 _ _ _ hs).trans rfl
  have HS := Lib.hid hs
  have t1 : (r3 == 10) = false := by simpa using h10
  have t2 : (r3 == 0) = false := by simpa using h00
  clear hs hr hb h10 h00
  go_enter Try.func51, Try.ntmps51
  go_wp2_with fail
  refine hcl.mono ?_
  rintro e w1 ⟨rfl, hb1⟩
  have hF : w1.heap[b]? = some (.cells #[nx, .slice p n c, .int .i64 t, .int .i64 a, mo, sz, .bool h0, .int .i64 k0, .int .i64 e0, i0, i1, i2, i3, i4, i5] 91 (0, 0)) := (hb1.block b (Array.getElem?_eq_some_iff.1 HS.out).1).trans HS.out
  have hfl := fail_any w1 b _ _ _ _ _ _ _ _ _ _ _ _ _ _ _ r3 hF ⟨_, _, _, rfl⟩ ⟨_, rfl⟩
  have HG : Hid (w.grownBy w1 (some b)) := Lib.hid (grown_below hb1)
  clear hcl c1 hF hb1
  go_wp2_with fail
  refine hfl.mono ?_
  rintro e w2 ⟨rfl, hh, hg⟩
  have HH := Lib.hid hh
  have HG2 := Lib.hid (grown_trans HG.out hg)
  clear hfl hh hg
  go_wp2_with fail
  go_end0
  exact ⟨rfl, HH.out, HG2.out⟩

set_option maxHeartbeats 2000000 in
theorem proto_ok (w : World) (b : Nat) (nx mo sz i0 i1 i2 i3 i4 i5 : Value) (p : Option Addr) (n c : Nat) (t a k0 e0 : Int) (h0 : Bool) (l : List UInt8) (hs : w.heap[b]? = some (.cells #[nx, .slice p n c, .int .i64 t, .int .i64 a, mo, sz, .bool h0, .int .i64 k0, .int .i64 e0, i0, i1, i2, i3, i4, i5] 91 (0, 0))) (hb : BytesIn w p n c l) (hz : n ≤ 140737488355328) (h9 : ∃ x0 x1 x2 x3 p4 n4 c4 p5 n5 c5, i0 = .int .i64 x0 ∧ i1 = .int .i64 x1 ∧ i2 = .int .i64 x2 ∧ i3 = .int .i64 x3 ∧ i4 = .slice p4 n4 c4 ∧ i5 = .slice p5 n5 c5) (hnx : ∃ f x y, nx = .func f x y) (r1 r2 : Int) (hr : readH l 0 = (r1, r2, 0)) :
    Calls Try.prog 51 #[.pointer (some ⟨b, 0, none⟩)] w fun e w' => e = .returned (.tuple #[]) ∧ w'.heap[b]? = some (.cells #[nextF b 71, .slice p 0 c, .int .i64 t, .int .i64 t, mo, sz, .bool false, .int .i64 (if r1 = 3 then 1 else 0), .int .i64 e0, .int .i64 1, .int .i64 r1, .int .i64 0, .int .i64 0, .slice none 0 0, .slice none 0 0] 91 (0, 0)) ∧ w.grownBy w' (some b) := by
  have hcl := read_any w p n c l 0 hb hz
  rw [hr] at hcl
  have c1 : w.cell? ⟨b, 1, none⟩ = some (.slice p n c) := (cell_of_row _ _ 1 _ _ _ hs).trans rfl
  have HS := Lib.hid hs
  have hle := hb.le
  clear hs hr hb
  go_enter Try.func51, Try.ntmps51
  go_wp2_with fail
  refine hcl.mono ?_
  rintro e w1 ⟨rfl, hb1⟩
  have s1 : w1.heap[b]? = some (.cells #[nx, .slice p n c, .int .i64 t, .int .i64 a, mo, sz, .bool h0, .int .i64 k0, .int .i64 e0, i0, i1, i2, i3, i4, i5] 91 (0, 0)) := (hb1.block b (Array.getElem?_eq_some_iff.1 HS.out).1).trans HS.out
  have g1 : w.grownBy w1 (some b) := grown_below hb1
  have m6 : w1.cell? ⟨b, 6, none⟩ = some (.bool h0) := (cell_of_row _ _ 6 _ _ _ s1).trans rfl
  have fz : ∀ k, w1.frozen? ⟨b, k, none⟩ = false := fun k => by simp [World.frozen?, s1]
  clear hcl c1 hb1
  go_upto_region 6 with fail
  have s2 := heap_setCell_same _ b 6 _ _ (.bool false) s1
  have g2 := grown_trans g1 (setCell_grown w1 b 6 (.bool false))
  simp only [List.setIfInBounds_toArray, List.set] at s2
  generalize (w1.setCell ⟨b, 6, none⟩ (.bool false)) = w2 at *
  clear m6 fz s1 g1
  have m7 : w2.cell? ⟨b, 7, none⟩ = some (.int .i64 k0) := (cell_of_row _ _ 7 _ _ _ s2).trans rfl
  have fz : ∀ k, w2.frozen? ⟨b, k, none⟩ = false := fun k => by simp [World.frozen?, s2]
  go_upto_region 7 with fail
  have s3 := heap_setCell_same _ b 7 _ _ (.int .i64 0) s2
  have g3 := grown_trans g2 (setCell_grown w2 b 7 (.int .i64 0))
  simp only [List.setIfInBounds_toArray, List.set] at s3
  generalize (w2.setCell ⟨b, 7, none⟩ (.int .i64 0)) = w3 at *
  clear m7 fz s2 g2
  by_cases h3 : r1 = 3
  · have t3 : (r1 == 3) = true := by simpa using h3
    have R1 := Lib.hid h3
    have m7 : w3.cell? ⟨b, 7, none⟩ = some (.int .i64 0) := (cell_of_row _ _ 7 _ _ _ s3).trans rfl
    have fz : ∀ k, w3.frozen? ⟨b, k, none⟩ = false := fun k => by simp [World.frozen?, s3]
    clear h3
    go_upto_region 9 with fail
    have s4 := heap_setCell_same _ b 7 _ _ (.int .i64 1) s3
    have g4 := grown_trans g3 (setCell_grown w3 b 7 (.int .i64 1))
    simp only [List.setIfInBounds_toArray, List.set] at s4
    generalize (w3.setCell ⟨b, 7, none⟩ (.int .i64 1)) = w4 at *
    have htl := tell_any w4 b _ _ _ _ _ _ _ _ _ _ _ _ (.slice none 0 0) (.slice none 0 0) p n c t a 1 r1 0 0 s4 hnx h9 ⟨_, _, _, _, _, _, rfl, rfl⟩ hle
    have G4 := Lib.hid g4
    clear m7 fz s3 g3 s4 g4 hnx h9
    go_wp2_with fail
    refine htl.mono ?_
    rintro e w5 ⟨rfl, hh, hg⟩
    have HH := Lib.hid hh
    have HG := Lib.hid (grown_trans G4.out hg)
    clear htl hh hg
    go_wp2_with fail
    go_end0
    exact ⟨rfl, by have hq := HH.out; rw [R1.out] at hq; exact hq, HG.out⟩
  · have t3 : (r1 == 3) = false := by simpa using h3
    have R1 := Lib.hid h3
    clear h3
    have htl := tell_any w3 b _ _ _ _ _ _ _ _ _ _ _ _ (.slice none 0 0) (.slice none 0 0) p n c t a 1 r1 0 0 s3 hnx h9 ⟨_, _, _, _, _, _, rfl, rfl⟩ hle
    have G3 := Lib.hid g3
    clear s3 g3 hnx h9
    go_wp2_with fail
    refine htl.mono ?_
    rintro e w5 ⟨rfl, hh, hg⟩
    have HH := Lib.hid hh
    have HG := Lib.hid (grown_trans G3.out hg)
    clear htl hh hg
    go_wp2_with fail
    go_end0
    exact ⟨rfl, by first | exact HH.out | (rw [if_neg R1.out]; exact HH.out), HG.out⟩
end Go.Proofs.Ytofdpccjpodbhaa
