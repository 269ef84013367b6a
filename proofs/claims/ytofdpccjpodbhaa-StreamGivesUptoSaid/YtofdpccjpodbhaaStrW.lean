/-
  StreamCuts' awake: the chapter's first examples. No conditions.
-/
import Derived.Test.YtofdpccjpodbhaaStrT
import Derived.Test.YtofdpccjpodbhaaStrS
import Derived.Test.YtofdpccjpodbhaaAwake
namespace Go.Proofs.Ytofdpccjpodbhaa
open Go.RowKit
set_option linter.unusedVariables false

theorem aw_take1 : takeR (SM.new 512) [76, 83, 72, 82, 0, 1, 0, 0, 9] = (⟨1, [], 8, 8, 512, 0, false, 0, 0⟩, ⟨1, 0, 0, 0, [], []⟩, 8) := by kernel_rfl
theorem aw_take2 : takeR ⟨1, [], 8, 8, 512, 0, false, 0, 0⟩ [0, 0, 0, 10, 2, 0, 0, 5, 65, 66] = (⟨1, [], 18, 18, 512, 10, false, 0, 0⟩, ⟨2, 0, 0, 5, [], [65, 66]⟩, 10) := by kernel_rfl

theorem Mv.below {b n0 : Nat} {w w1 W : World} {hv : Value} (h : Mv b (.slice none 0 0) w1 hv W) (hg : w.grownBy w1 none) (hb : w.heap.size ≤ b) : Below w.heap.size w W :=
  ⟨h.os.trans hg.os, h.tape.trans hg.tape, h.output.trans hg.output, Nat.le_trans hg.size h.size, fun k hk => (h.block k (Nat.lt_of_lt_of_le hk hg.size) (by omega) (by simp [Value.ownBlock])).trans (hg.block k hk (by simp))⟩
theorem Mv.of_below {b : Nat} {hv : Value} {W W' : World} (h : Below W.heap.size W W') : Mv b hv W hv W' := ⟨h.os, h.tape, h.output, h.size, fun k hk _ _ => h.block k hk, .inr (.inl rfl)⟩
theorem StS.below {W W' : World} {b B : Nat} {s : SM} {hv : Value} (h : StS W b B s hv) (hb : Below W.heap.size W W') : StS W' b B s hv :=
  ⟨⟨(hb.block b (Array.getElem?_eq_some_iff.1 h.ins.row).1).trans h.ins.row, h.ins.held.of_below hb, h.ins.lt, Nat.le_trans h.ins.le hb.size⟩, h.ok⟩

set_option maxHeartbeats 4000000 in
set_option maxRecDepth 20000 in
theorem awake6_any (w : World) :
    Calls Try.prog 25 #[] w fun e w' => e = .returned (.bool true) ∧ Below w.heap.size w w' := by
  have hn := new_ok w 512 (by decide)
  go_enter Try.func25, Try.ntmps25
  go_wp2_with fail
  refine hn.mono ?_
  clear hn
  rintro e w1 ⟨rfl, hst, hg⟩
  obtain ⟨b, hb⟩ : ∃ b, w.heap.size = b := ⟨_, rfl⟩
  have HW : Hid (w.grownBy w1 none ∧ w.heap.size = b) := Lib.hid ⟨hg, hb⟩
  rw [hb] at hst ⊢
  clear hg hb
  have hB := new_bad w1 511 (by decide)
  go_wp2_with fail
  refine hB.mono ?_
  clear hB
  rintro e w1' ⟨rfl, rfl⟩
  have hE := expect_any w1' b (b + 1) (SM.new 512) _ hst
  rw [show expectR (SM.new 512) = (SM.new 512, 4) from rfl] at hE
  go_wp2_with fail
  refine hE.mono ?_
  clear hE hst
  rintro e w2 ⟨rfl, hst, hg⟩
  have hm := Mv.of_grown (hv := .slice none 0 0) hg
  clear hg
  go_upto_region 6 with fail
  have i1 := BytesIn.new w2 #[.int .u8 76, .int .u8 83, .int .u8 72, .int .u8 82, .int .u8 0, .int .u8 1, .int .u8 0, .int .u8 0, .int .u8 9] 5 (0, 0) [76, 83, 72, 82, 0, 1, 0, 0, 9] 9 rfl rfl (by decide)
  have d1 : Below w2.heap.size w2 (w2.alloc (.cells #[.int .u8 76, .int .u8 83, .int .u8 72, .int .u8 82, .int .u8 0, .int .u8 1, .int .u8 0, .int .u8 0, .int .u8 9] 5)) := (Below.refl _ _).alloc (Nat.le_refl _) _
  have hb2 := (Array.getElem?_eq_some_iff.1 hst.ins.row).1
  have hT := take_any _ b (b + 1) _ _ _ 9 9 _ (hst.below d1) i1 (fun _ a e => by cases e; exact ⟨by simp only; omega, by simp [Value.ownBlock]⟩)
  have hm1 := hm.trans (Mv.of_below (b := b) d1)
  unfold TakePost at hT
  rw [aw_take1] at hT
  simp only [Itm.val] at hT
  clear i1 d1 hst hm
  go_wp2_with fail
  refine hT.mono ?_
  clear hT
  rintro e w3 ⟨hv1, ve1, vb1, rfl, hst, hm2, hit, _, _⟩
  have hm := hm1.trans hm2
  obtain ⟨pe1, ce1, rfl, _⟩ := hit.ext.bytes
  obtain ⟨pb1, cb1, rfl, _⟩ := hit.body.bytes
  simp only [List.length_nil]
  clear hm1 hm2 hit hb2
  go_upto_region 7 with fail
  have r4 := heap_alloc_new w3 (.cells #[.int .i64 1, .int .i64 0, .int .i64 0, .int .i64 0, .slice pe1 0 ce1, .slice pb1 0 cb1] 71)
  have d4 : Below w3.heap.size w3 (w3.alloc (.cells #[.int .i64 1, .int .i64 0, .int .i64 0, .int .i64 0, .slice pe1 0 ce1, .slice pb1 0 cb1] 71)) := (Below.refl _ _).alloc (Nat.le_refl _) _
  have hst4 := hst.below d4
  have hm4 := hm.trans (Mv.of_below (b := b) d4)
  have z4 : w3.heap.size < (w3.alloc (.cells #[.int .i64 1, .int .i64 0, .int .i64 0, .int .i64 0, .slice pe1 0 ce1, .slice pb1 0 cb1] 71)).heap.size := by simp
  have hb3 := (Array.getElem?_eq_some_iff.1 hst.ins.row).1
  have hh3 := hst.held_lt
  generalize (w3.alloc (.cells #[.int .i64 1, .int .i64 0, .int .i64 0, .int .i64 0, .slice pe1 0 ce1, .slice pb1 0 cb1] 71)) = w4 at *
  obtain ⟨x4, hx4⟩ : ∃ x, w3.heap.size = x := ⟨_, rfl⟩
  rw [hx4] at r4 hb3 hh3 z4 ⊢
  clear hst hm d4 hx4
  have i1 := BytesIn.new w4 #[.int .u8 0, .int .u8 0, .int .u8 0, .int .u8 10, .int .u8 2, .int .u8 0, .int .u8 0, .int .u8 5, .int .u8 65, .int .u8 66] 5 (0, 0) [0, 0, 0, 10, 2, 0, 0, 5, 65, 66] 10 rfl rfl (by decide)
  have d1 : Below w4.heap.size w4 (w4.alloc (.cells #[.int .u8 0, .int .u8 0, .int .u8 0, .int .u8 10, .int .u8 2, .int .u8 0, .int .u8 0, .int .u8 5, .int .u8 65, .int .u8 66] 5)) := (Below.refl _ _).alloc (Nat.le_refl _) _
  have hT := take_any _ b (b + 1) _ _ _ 10 10 _ (hst4.below d1) i1 (fun _ a e => by cases e; exact ⟨by simp only; omega, fun h => by have := hst4.held_lt _ h; simp only at this; omega⟩)
  have hm1 := hm4.trans (Mv.of_below (b := b) d1)
  have r4' := (d1.block x4 z4).trans r4
  have z4' := Nat.lt_of_lt_of_le z4 d1.size
  unfold TakePost at hT
  rw [aw_take2] at hT
  simp only [Itm.val] at hT
  clear i1 d1 hst4 hm4 r4 z4
  go_wp2_with fail
  refine hT.mono ?_
  clear hT
  rintro e w5 ⟨hv2, ve2, vb2, rfl, hst, hm2, hit, _, _⟩
  have hm := hm1.trans hm2
  have r5 := (hm2.block x4 z4' (by omega) (fun h => by have := hh3 _ h; omega)).trans r4'
  have z5 := Nat.lt_of_lt_of_le z4' hm2.size
  obtain ⟨pe2, ce2, rfl, _⟩ := hit.ext.bytes
  obtain ⟨pb2, cb2, rfl, _⟩ := hit.body.bytes
  simp only [List.length_nil, List.length_cons, Nat.reduceAdd]
  have ho2 := hit.body
  simp only [List.length_nil, List.length_cons, Nat.reduceAdd] at ho2
  have hbb := Nat.lt_trans hb3 z4'
  generalize (w4.alloc (.cells #[.int .u8 0, .int .u8 0, .int .u8 0, .int .u8 10, .int .u8 2, .int .u8 0, .int .u8 0, .int .u8 5, .int .u8 65, .int .u8 66] 5)).heap.size = n5 at *
  clear hm1 hm2 hit r4' z4'
  go_upto_region 8 with fail
  have hb5 := (Array.getElem?_eq_some_iff.1 hst.ins.row).1
  have r6 := heap_alloc_new w5 (.cells #[.int .i64 2, .int .i64 0, .int .i64 0, .int .i64 5, .slice pe2 0 ce2, .slice pb2 2 cb2] 71)
  have d6 : Below w5.heap.size w5 (w5.alloc (.cells #[.int .i64 2, .int .i64 0, .int .i64 0, .int .i64 5, .slice pe2 0 ce2, .slice pb2 2 cb2] 71)) := (Below.refl _ _).alloc (Nat.le_refl _) _
  have hst6 := hst.below d6
  have hm6 := hm.trans (Mv.of_below (b := b) d6)
  have ho6 := ho2.of_below d6
  have q6 := (d6.block x4 z5).trans r5
  have z6 : w5.heap.size < (w5.alloc (.cells #[.int .i64 2, .int .i64 0, .int .i64 0, .int .i64 5, .slice pe2 0 ce2, .slice pb2 2 cb2] 71)).heap.size := by simp
  generalize (w5.alloc (.cells #[.int .i64 2, .int .i64 0, .int .i64 0, .int .i64 5, .slice pe2 0 ce2, .slice pb2 2 cb2] 71)) = w6 at *
  obtain ⟨x6, hx6⟩ : ∃ x, w5.heap.size = x := ⟨_, rfl⟩
  rw [hx6] at r6 z6 z5 hb5 ⊢
  clear hst hm d6 ho2 r5 hx6
  have hE := expect_any w6 b (b + 1) _ _ hst6
  rw [show expectR ⟨1, [], 18, 18, 512, 10, false, 0, 0⟩ = (⟨0, [], 18, 18, 512, 10, true, 0, 0⟩, 0) from rfl] at hE
  go_wp2_with fail
  refine hE.mono ?_
  clear hE hst6
  rintro e w7 ⟨rfl, hst, hg⟩
  have hm := hm6.trans (Mv.of_grown hg)
  have ho7 := ho6.kept hg (ho6.off' hbb)
  have q7 := (hg.block x4 (Nat.lt_trans z5 z6) (fun e => by have := Option.some.inj e; omega)).trans q6
  have r7 := (hg.block x6 z6 (fun e => by have := Option.some.inj e; omega)).trans r6
  have z7 := Nat.lt_of_lt_of_le z6 hg.size
  clear hg hm6 ho6 q6 r6 z6
  have hS := state_any w7 b (b + 1) _ _ hst
  simp only [SM.state, List.length_nil] at hS
  go_wp2_with fail
  refine hS.mono ?_
  clear hS
  rintro e w8 ⟨rfl, hb8⟩
  have hm8 := hm.trans (Mv.of_below (b := b) hb8)
  have ho8 := ho7.of_below hb8
  have q8 := (hb8.block x4 (Nat.lt_trans z5 z7)).trans q7
  have r8 := (hb8.block x6 z7).trans r7
  have z8 := Nat.lt_of_lt_of_le z7 hb8.size
  clear hb8 ho7 q7 r7 z7 hst hm
  go_upto_region 10 with fail
  have t9 := heap_alloc_new w8 (.cells #[.int .i64 18, .int .i64 0, .bool true, .int .i64 0, .int .i64 18] 49)
  have d9 : Below w8.heap.size w8 (w8.alloc (.cells #[.int .i64 18, .int .i64 0, .bool true, .int .i64 0, .int .i64 18] 49)) := (Below.refl _ _).alloc (Nat.le_refl _) _
  have hm9 := hm8.trans (Mv.of_below (b := b) d9)
  have ho9 := ho8.of_below d9
  have q9 := (d9.block x4 (Nat.lt_trans z5 z8)).trans q8
  have r9 := (d9.block x6 z8).trans r8
  generalize (w8.alloc (.cells #[.int .i64 18, .int .i64 0, .bool true, .int .i64 0, .int .i64 18] 49)) = w9 at *
  obtain ⟨x9, hx9⟩ : ∃ x, w8.heap.size = x := ⟨_, rfl⟩
  rw [hx9] at t9 ⊢
  have v1 := conv_str w9 22 9 5 Try.underlying22 Try.underlying5 Try.underlying9 ho9.slice.2 rfl
  have k0 : w9.cell? ⟨x4, 0, none⟩ = some (.int .i64 1) := (cell_of_row _ _ 0 _ _ _ q9).trans rfl
  have j0 : w9.cell? ⟨x6, 0, none⟩ = some (.int .i64 2) := (cell_of_row _ _ 0 _ _ _ r9).trans rfl
  have j3 : w9.cell? ⟨x6, 3, none⟩ = some (.int .i64 5) := (cell_of_row _ _ 3 _ _ _ r9).trans rfl
  have j5 : w9.cell? ⟨x6, 5, none⟩ = some (.slice pb2 2 cb2) := (cell_of_row _ _ 5 _ _ _ r9).trans rfl
  have t0 : w9.cell? ⟨x9, 0, none⟩ = some (.int .i64 18) := (cell_of_row _ _ 0 _ _ _ t9).trans rfl
  have t1 : w9.cell? ⟨x9, 1, none⟩ = some (.int .i64 0) := (cell_of_row _ _ 1 _ _ _ t9).trans rfl
  have t2 : w9.cell? ⟨x9, 2, none⟩ = some (.bool true) := (cell_of_row _ _ 2 _ _ _ t9).trans rfl
  have t4 : w9.cell? ⟨x9, 4, none⟩ = some (.int .i64 18) := (cell_of_row _ _ 4 _ _ _ t9).trans rfl
  have HM := Lib.hid hm9
  clear q9 r9 t9 hm8 ho8 q8 r8 hm9 ho9 d9 hx9
  go_wp2_with fail
  go_ret
  exact ⟨rfl, HM.out.below (n0 := 0) HW.out.1 (Nat.le_of_eq HW.out.2)⟩
end Go.Proofs.Ytofdpccjpodbhaa
