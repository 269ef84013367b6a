/-
  The contract of awake of the statements of layer 5: it returns true. No conditions.
-/
import Derived.Test.YtofdpccjpodbhaaOpen2
import Derived.Lib.SlBytesConst
namespace Go.Proofs.Ytofdpccjpodbhaa
open Go.RowKit
set_option linter.unusedVariables false

theorem conv_str {P : Program} (w : World) (src dst e : TypeId) (hs : P.underlying src = some (.slice e)) (he : P.underlying e = some (.int .u8)) (hd : P.underlying dst = some .string) {a : Option Addr} {n c : Nat} {l r : List UInt8} (h : BytesIn w a n c l) (hl : l = r) :
    (convert src dst (.slice a n c)).run P w = .ok (.string ⟨r.toArray⟩) w := by
  subst hl
  exact run_string_bytes w src dst e hs he hd a n c l h

theorem BytesIn.new (w : World) (C : Array Value) (T : TypeId) (fz : Nat × Nat) (l : List UInt8) (n : Nat) (hC : C = (l.map byteV).toArray) (hn : l.length = n) (hm : n ≤ maxLen) : BytesIn (w.alloc (.cells C T fz)) (some ⟨w.heap.size, 0, none⟩) n n l := by
  refine ⟨hn, Nat.le_refl _, hm, fun _ => ⟨w.heap.size, 0, rfl, by simp, fun i hi => ?_⟩⟩
  have hh : (w.alloc (.cells C T fz)).heap[w.heap.size]? = some (.cells C T fz) := by
    show (w.heap.push _)[w.heap.size]? = _
    simp
  have hil : i < l.length := by omega
  have h2 : (w.alloc (.cells C T fz)).cell? ⟨w.heap.size, 0 + i, none⟩ = C[0 + i]? := by
    unfold World.cell?
    rw [hh]
    rfl
  rw [h2, hC, Nat.zero_add]
  simp [byteV, List.getD_eq_getElem?_getD, hil]

theorem OwnBytes.slice {w : World} {B T n c : Nat} {p : Option Addr} {l : List UInt8} (h : OwnBytes w B T (.slice p n c) l) : l.length = n ∧ BytesIn w p n c l := by
  obtain ⟨a, c', e, hb⟩ := h.bytes
  simp only [Value.slice.injEq] at e
  obtain ⟨rfl, rfl, rfl⟩ := e
  exact ⟨rfl, hb⟩

set_option maxHeartbeats 4000000 in
set_option maxRecDepth 20000 in
theorem awake_any (w : World) :
    Calls Try.prog 11 #[] w fun e w' => e = .returned (.bool true) ∧ Below w.heap.size w w' := by
  have q0 := Lib.run_convert_bytes_const (P := Try.prog) w 22 5 #[.int .u8 65, .int .u8 66] 2 2 Try.underlying22 Try.underlying5
  have i0 := BytesIn.new w #[.int .u8 65, .int .u8 66] 5 (2, 3) [65, 66] 2 rfl rfl (by decide)
  have b0 : Below w.heap.size w (w.alloc (.cells #[.int .u8 65, .int .u8 66] 5 (2, 3))) := (Below.refl _ _).alloc (Nat.le_refl _) _
  have hs := seal_ok _ 0 5 none _ 0 0 2 2 [] [65, 66] (BytesIn.nil _) i0 (by decide) (by decide) (by decide) (by decide) (by decide) (by decide) (by decide)
  go_enter Try.func11, Try.ntmps11
  go_wp2_with fail
  refine hs.mono ?_
  rintro e w1 ⟨g1, rfl, hg1, b1, k1⟩
  clear hs i0 q0
  have e1 : sealB 0 5 [] [65, 66] = [0, 0, 0, 10, 2, 0, 0, 5, 65, 66] := by decide
  rw [e1] at k1
  have c1 : Below w.heap.size w w1 := b0.trans (b1.mono (by simp))
  clear b0 b1 e1
  go_upto_region 2 with fail
  have q2 := Lib.run_convert_bytes_const (P := Try.prog) w1 22 5 #[.int .u8 0, .int .u8 0, .int .u8 0, .int .u8 10, .int .u8 2, .int .u8 0, .int .u8 0, .int .u8 5, .int .u8 65, .int .u8 66] 10 10 Try.underlying22 Try.underlying5
  have b2 : Below w1.heap.size w1 (w1.alloc (.cells #[.int .u8 0, .int .u8 0, .int .u8 0, .int .u8 10, .int .u8 2, .int .u8 0, .int .u8 0, .int .u8 5, .int .u8 65, .int .u8 66] 5 (10, 11))) := (Below.refl _ _).alloc (Nat.le_refl _) _
  have i2 := BytesIn.new w1 #[.int .u8 0, .int .u8 0, .int .u8 0, .int .u8 10, .int .u8 2, .int .u8 0, .int .u8 0, .int .u8 5, .int .u8 65, .int .u8 66] 5 (10, 11) [0, 0, 0, 10, 2, 0, 0, 5, 65, 66] 10 rfl rfl (by decide)
  have e2 : openR [0, 0, 0, 10, 2, 0, 0, 5, 65, 66] 0 512 = (0, 5, [], [65, 66], 10, 0) := by decide
  have ho : Calls _ _ _ _ (fun e w' => ∃ ea ne ce ba nb cb, e = .returned (.tuple #[.agg #[.int .i64 0, .int .i64 5, .slice ea ne ce, .slice ba nb cb], .int .i64 10, .int .i64 0]) ∧ Below _ _ w' ∧ OwnBytes w' _ 5 (.slice ea ne ce) [] ∧ OwnBytes w' _ 5 (.slice ba nb cb) [65, 66] ∧ Apart (.slice ea ne ce) (.slice ba nb cb)) :=
    (open_any _ _ _ _ _ 0 512 i2 (by decide)).mono fun e w' h => by rw [e2] at h; exact h
  go_wp2_with fail
  refine ho.mono ?_
  rintro e w2 ⟨ea, ne, ce, ba, nb, cb, rfl, b3, o1, o2, _⟩
  clear ho i2 e2 q2
  have c2 : Below w.heap.size w w2 := c1.trans ((b2.trans (b3.mono (by simp))).mono c1.size)
  have k1' := (k1.below b2).below (b3.mono (by simp))
  obtain ⟨z1, _⟩ := o1.slice
  obtain ⟨z2, j2⟩ := o2.slice
  obtain rfl : ne = 0 := z1.symm
  obtain rfl : nb = 2 := z2.symm
  clear z1 z2
  clear b2 b3 c1 k1 o1 o2 hg1
  go_upto_region 3 with fail
  have q3 := BytesIn.below j2 ((Below.refl w2.heap.size w2).alloc (Nat.le_refl _) (.cells #[.int .i64 0, .int .i64 5, .slice ea 0 ce, .slice ba 2 cb] 24))
  have k3 := k1'.below ((Below.refl w2.heap.size w2).alloc (Nat.le_refl _) (.cells #[.int .i64 0, .int .i64 5, .slice ea 0 ce, .slice ba 2 cb] 24))
  have c3 := c2.alloc c2.size (.cells #[.int .i64 0, .int .i64 5, .slice ea 0 ce, .slice ba 2 cb] 24)
  have f0 : (w2.alloc (.cells #[.int .i64 0, .int .i64 5, .slice ea 0 ce, .slice ba 2 cb] 24)).heap[w2.heap.size]? = some _ := heap_alloc_new _ _
  obtain ⟨fb, hfb⟩ : ∃ fb, w2.heap.size = fb := ⟨_, rfl⟩
  generalize (w2.alloc (.cells #[.int .i64 0, .int .i64 5, .slice ea 0 ce, .slice ba 2 cb] 24)) = w3 at *
  rw [hfb] at f0 ⊢
  clear hfb j2 k1' c2
  go_wp2_with fail
  refine (Header_ok w3 3 (.inr rfl)).mono ?_
  rintro e w4 ⟨g4, rfl, hg4, b4, k4⟩
  have c4 := c3.trans (b4.mono c3.size)
  have k5 := k3.below b4
  have q5 := q3.below b4
  have f1 := (b4.block fb (Array.getElem?_eq_some_iff.1 f0).1).trans f0
  clear k3 q3 f0 c3 b4 hg4
  go_upto_region 4 with fail
  have q6 := Lib.run_convert_bytes_const (P := Try.prog) w4 22 5 #[.int .u8 76, .int .u8 83, .int .u8 72, .int .u8 82, .int .u8 3, .int .u8 1, .int .u8 0, .int .u8 0] 8 8 Try.underlying22 Try.underlying5
  have b5 : Below w4.heap.size w4 (w4.alloc (.cells #[.int .u8 76, .int .u8 83, .int .u8 72, .int .u8 82, .int .u8 3, .int .u8 1, .int .u8 0, .int .u8 0] 5 (8, 9))) := (Below.refl _ _).alloc (Nat.le_refl _) _
  have i5 := BytesIn.new w4 #[.int .u8 76, .int .u8 83, .int .u8 72, .int .u8 82, .int .u8 3, .int .u8 1, .int .u8 0, .int .u8 0] 5 (8, 9) [76, 83, 72, 82, 3, 1, 0, 0] 8 rfl rfl (by decide)
  have e5 : readH [76, 83, 72, 82, 3, 1, 0, 0] (0 : Nat) = (3, 8, 0) := by decide
  have ho : Calls _ _ _ _ (fun e w' => e = .returned (.tuple #[.int .i64 3, .int .i64 8, .int .i64 0]) ∧ Below _ _ w') :=
    (read_in _ _ _ _ _ 0 i5 (by decide) (by decide)).mono fun e w' h => by rw [e5] at h; exact h
  go_wp2_with fail
  refine ho.mono ?_
  rintro e w5 ⟨rfl, b6⟩
  have b7 : Below w4.heap.size w4 w5 := b5.trans (b6.mono (by simp))
  have c5 := c4.trans (b7.mono c4.size)
  have k6 := k5.below b7
  have k7 := k4.below b7
  have q7 := q5.below b7
  have f2 := (b7.block fb (Array.getElem?_eq_some_iff.1 f1).1).trans f1
  clear ho i5 e5 q6 b5 b6 b7 k4 k5 q5 f1 c4
  have v1 := conv_str w5 22 9 5 Try.underlying22 Try.underlying5 Try.underlying9 (k6.all 10 10 rfl (Nat.le_refl _) (by decide)) rfl
  have v2 := conv_str w5 22 9 5 Try.underlying22 Try.underlying5 Try.underlying9 q7 rfl
  have v3 := conv_str (r := [76, 83, 72, 82, 3, 1, 0, 0]) w5 22 9 5 Try.underlying22 Try.underlying5 Try.underlying9 (k7.all 8 8 rfl (Nat.le_refl _) (by decide)) rfl
  have d0 : w5.cell? ⟨fb, 0, none⟩ = some (.int .i64 0) := by simp [World.cell?, f2]
  have d1 : w5.cell? ⟨fb, 1, none⟩ = some (.int .i64 5) := by simp [World.cell?, f2]
  have d2 : w5.cell? ⟨fb, 2, none⟩ = some (.slice ea 0 ce) := by simp [World.cell?, f2]
  have d3 : w5.cell? ⟨fb, 3, none⟩ = some (.slice ba 2 cb) := by simp [World.cell?, f2]
  clear k6 k7 q7 f2
  go_wp2_with fail
  go_ret
  exact ⟨rfl, c5⟩
end Go.Proofs.Ytofdpccjpodbhaa
