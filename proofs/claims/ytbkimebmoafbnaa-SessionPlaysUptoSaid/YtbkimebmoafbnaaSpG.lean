/-
  Steps of the script. Conditions: the sessions and the book lie in memory. (Printed by a program.)
-/
import Derived.Test.YtbkimebmoafbnaaSpF
namespace Go.Proofs.Ytbkimebmoafbnaa
open Go.RowKit Go.Maps
set_option linter.unusedVariables false

set_option maxRecDepth 20000 in
set_option maxHeartbeats 8000000 in
theorem step_arrive (W : World) (own : Nat → Nat) (a b c i : Nat) (S : Sd) (X : Bk) (h : PW W own a b c i S X) (hab : a ≠ b) (hac : c ≠ a) (hbc : c ≠ b) (hi : i ≤ 2000000) (A A2 A3 A4 A5 : Int) (tag : ByteArray) (flag : Bool) (hA : IsI64 A) (hA2 : IsI64 A2) (hA3 : IsI64 A3) (hA4 : IsI64 A4) (hA5 : IsI64 A5) :
    Calls Try.prog 28 #[.pointer (some ⟨X.bp, 0, none⟩), .pointer (some ⟨S.K.b, 0, none⟩), .pointer (some ⟨S.r, 0, none⟩), .agg #[.int .i64 9, .int .i64 A, .int .i64 A2, .int .i64 A3, .int .i64 A4, .int .i64 A5, .string tag, .bool flag]] W fun e w' => e = .returned (.bool true) ∧ StepTo W w' own a b c i S X := by
  go_enter Try.func28, Try.ntmps28
  go_upto_region 1 with fail
  have hb0 : Below W.heap.size W (W.alloc (.cells #[.int .i64 9, .int .i64 A, .int .i64 A2, .int .i64 A3, .int .i64 A4, .int .i64 A5, .string tag, .bool flag] 24)) := (Below.refl _ _).alloc (Nat.le_refl _) _
  have o0 : (W.alloc (.cells #[.int .i64 9, .int .i64 A, .int .i64 A2, .int .i64 A3, .int .i64 A4, .int .i64 A5, .string tag, .bool flag] 24)).heap[W.heap.size]? = some (.cells #[.int .i64 9, .int .i64 A, .int .i64 A2, .int .i64 A3, .int .i64 A4, .int .i64 A5, .string tag, .bool flag] 24 (0, 0)) := _root_.Go.heap_alloc_new _ _
  generalize (W.alloc (.cells #[.int .i64 9, .int .i64 A, .int .i64 A2, .int .i64 A3, .int .i64 A4, .int .i64 A5, .string tag, .bool flag] 24)) = w0 at *
  obtain ⟨x, hx⟩ : ∃ x, W.heap.size = x := ⟨_, rfl⟩
  have hxf : (∀ j, S.K.has j → j ≠ x) ∧ (∀ j, RBlk S.r S.vh S.vr S.vs S.va j → j ≠ x) := ⟨fun j hj e => by have := h.sd.ses.lt j hj; omega, fun j hj e => by have := h.sd.ref.inn.blt j hj; omega⟩
  rw [hx] at o0 ⊢
  have H := Lib.hid (h.below hb0)
  have HB := Lib.hid hb0
  have q0 : w0.cell? ⟨x, 0, none⟩ = some (.int .i64 9) := (cell_of_row _ _ 0 _ _ _ o0).trans rfl
  have HO := Lib.hid (And.intro (Array.getElem?_eq_some_iff.1 o0).1 hxf)
  have HQ : Hid (∀ W' : World, W'.heap[x]? = w0.heap[x]? → W'.cell? ⟨x, 0, none⟩ = some (.int .i64 9) ∧ W'.cell? ⟨x, 1, none⟩ = some (.int .i64 A) ∧ W'.cell? ⟨x, 2, none⟩ = some (.int .i64 A2) ∧ W'.cell? ⟨x, 3, none⟩ = some (.int .i64 A3) ∧ W'.cell? ⟨x, 4, none⟩ = some (.int .i64 A4) ∧ W'.cell? ⟨x, 5, none⟩ = some (.int .i64 A5) ∧ W'.cell? ⟨x, 6, none⟩ = some (.string tag) ∧ W'.cell? ⟨x, 7, none⟩ = some (.bool flag)) := Lib.hid (fun W' e => by
    have o := e.trans o0
    exact ⟨(cell_of_row _ _ 0 _ _ _ o).trans rfl, (cell_of_row _ _ 1 _ _ _ o).trans rfl, (cell_of_row _ _ 2 _ _ _ o).trans rfl, (cell_of_row _ _ 3 _ _ _ o).trans rfl, (cell_of_row _ _ 4 _ _ _ o).trans rfl, (cell_of_row _ _ 5 _ _ _ o).trans rfl, (cell_of_row _ _ 6 _ _ _ o).trans rfl, (cell_of_row _ _ 7 _ _ _ o).trans rfl⟩)
  have HI := Lib.hid (And.intro hi (And.intro hA (And.intro hA2 (And.intro hA3 (And.intro hA4 hA5)))))
  clear h hb0 o0 hx hxf hi hA hA2 hA3 hA4 hA5
  obtain ⟨n, s', rs', hp⟩ := pair_arrive (W := w0.drew) (i := i) (H.out.sd.below below_of_drew) HI.out.1 A A2 tag flag HI.out.2.2.1
  have HP := Lib.hid hp
  have HK : Hid (∀ W' : World, W'.heap[x]? = w0.heap[x]? → W'.cell? ⟨x, 1, none⟩ = some (.int .i64 A) ∧ W'.cell? ⟨x, 2, none⟩ = some (.int .i64 A2) ∧ W'.cell? ⟨x, 6, none⟩ = some (.string tag) ∧ W'.cell? ⟨x, 7, none⟩ = some (.bool flag)) := Lib.hid (fun W' e => by
    have K := HQ.out W' e
    exact ⟨K.2.1, K.2.2.1, K.2.2.2.2.2.2.1, K.2.2.2.2.2.2.2⟩)
  clear hp
  go_upto_region 7 with fail
  obtain ⟨p0, q1, q2, q3, q4, q5, q6, q7⟩ := HQ.out w0 rfl
  clear p0
  clear q0 q3 q4 q5
  go_region_held3 (fun w' => w'.cell? ⟨x, 1, none⟩ = some (.int .i64 A) ∧ w'.cell? ⟨x, 2, none⟩ = some (.int .i64 A2) ∧ w'.cell? ⟨x, 6, none⟩ = some (.string tag) ∧ w'.cell? ⟨x, 7, none⟩ = some (.bool flag)) (first | exact HK.out _ rfl | exact HK.out _ (by assumption))
    (first
      | (go_at_call 20; refine HP.out.p.mono ?_; rintro e w1 ⟨rfl, h1, h2⟩; have hx1 : w1.heap[x]? = w0.heap[x]? := h2.block x HO.out.1 (fun q => HO.out.2.1 x q rfl); have H1 := Lib.hid (And.intro h1 h2); clear h1 h2)
      | (go_at_call 45; refine (HP.out.r _ (H.out.sd.ref1 hab (SMv.trans (SMv.of_below below_of_drew) H1.out.2))).mono ?_; rintro e w2 ⟨rfl, h3⟩; have hx2 : w2.heap[x]? = w0.heap[x]? := (by obtain ⟨_, _, _, _, _, _, m3⟩ := h3; exact (m3.block x (Nat.lt_of_lt_of_le HO.out.1 H1.out.2.size) (fun q => HO.out.2.2 x q rfl)).trans hx1); have H3 := Lib.hid h3; clear h3))
  clear hx1 hx2
  go_wp2_with fail
  go_ret
  exact ⟨rfl, StepTo.behind HB.out (PW.both H.out hab hac hbc H1.out.1 (SMv.trans (SMv.of_below below_of_drew) H1.out.2) H3.out HP.out.good)⟩

set_option maxRecDepth 20000 in
set_option maxHeartbeats 8000000 in
theorem step_forget (W : World) (own : Nat → Nat) (a b c i : Nat) (S : Sd) (X : Bk) (h : PW W own a b c i S X) (hab : a ≠ b) (hac : c ≠ a) (hbc : c ≠ b) (hi : i ≤ 2000000) (A A2 A3 A4 A5 : Int) (tag : ByteArray) (flag : Bool) (hA : IsI64 A) (hA2 : IsI64 A2) (hA3 : IsI64 A3) (hA4 : IsI64 A4) (hA5 : IsI64 A5) :
    Calls Try.prog 28 #[.pointer (some ⟨X.bp, 0, none⟩), .pointer (some ⟨S.K.b, 0, none⟩), .pointer (some ⟨S.r, 0, none⟩), .agg #[.int .i64 11, .int .i64 A, .int .i64 A2, .int .i64 A3, .int .i64 A4, .int .i64 A5, .string tag, .bool flag]] W fun e w' => e = .returned (.bool true) ∧ StepTo W w' own a b c i S X := by
  go_enter Try.func28, Try.ntmps28
  go_upto_region 1 with fail
  have hb0 : Below W.heap.size W (W.alloc (.cells #[.int .i64 11, .int .i64 A, .int .i64 A2, .int .i64 A3, .int .i64 A4, .int .i64 A5, .string tag, .bool flag] 24)) := (Below.refl _ _).alloc (Nat.le_refl _) _
  have o0 : (W.alloc (.cells #[.int .i64 11, .int .i64 A, .int .i64 A2, .int .i64 A3, .int .i64 A4, .int .i64 A5, .string tag, .bool flag] 24)).heap[W.heap.size]? = some (.cells #[.int .i64 11, .int .i64 A, .int .i64 A2, .int .i64 A3, .int .i64 A4, .int .i64 A5, .string tag, .bool flag] 24 (0, 0)) := _root_.Go.heap_alloc_new _ _
  generalize (W.alloc (.cells #[.int .i64 11, .int .i64 A, .int .i64 A2, .int .i64 A3, .int .i64 A4, .int .i64 A5, .string tag, .bool flag] 24)) = w0 at *
  obtain ⟨x, hx⟩ : ∃ x, W.heap.size = x := ⟨_, rfl⟩
  have hxf : (∀ j, S.K.has j → j ≠ x) ∧ (∀ j, RBlk S.r S.vh S.vr S.vs S.va j → j ≠ x) := ⟨fun j hj e => by have := h.sd.ses.lt j hj; omega, fun j hj e => by have := h.sd.ref.inn.blt j hj; omega⟩
  rw [hx] at o0 ⊢
  have H := Lib.hid (h.below hb0)
  have HB := Lib.hid hb0
  have q0 : w0.cell? ⟨x, 0, none⟩ = some (.int .i64 11) := (cell_of_row _ _ 0 _ _ _ o0).trans rfl
  have HO := Lib.hid (And.intro (Array.getElem?_eq_some_iff.1 o0).1 hxf)
  have HQ : Hid (∀ W' : World, W'.heap[x]? = w0.heap[x]? → W'.cell? ⟨x, 0, none⟩ = some (.int .i64 11) ∧ W'.cell? ⟨x, 1, none⟩ = some (.int .i64 A) ∧ W'.cell? ⟨x, 2, none⟩ = some (.int .i64 A2) ∧ W'.cell? ⟨x, 3, none⟩ = some (.int .i64 A3) ∧ W'.cell? ⟨x, 4, none⟩ = some (.int .i64 A4) ∧ W'.cell? ⟨x, 5, none⟩ = some (.int .i64 A5) ∧ W'.cell? ⟨x, 6, none⟩ = some (.string tag) ∧ W'.cell? ⟨x, 7, none⟩ = some (.bool flag)) := Lib.hid (fun W' e => by
    have o := e.trans o0
    exact ⟨(cell_of_row _ _ 0 _ _ _ o).trans rfl, (cell_of_row _ _ 1 _ _ _ o).trans rfl, (cell_of_row _ _ 2 _ _ _ o).trans rfl, (cell_of_row _ _ 3 _ _ _ o).trans rfl, (cell_of_row _ _ 4 _ _ _ o).trans rfl, (cell_of_row _ _ 5 _ _ _ o).trans rfl, (cell_of_row _ _ 6 _ _ _ o).trans rfl, (cell_of_row _ _ 7 _ _ _ o).trans rfl⟩)
  have HI := Lib.hid (And.intro hi (And.intro hA (And.intro hA2 (And.intro hA3 (And.intro hA4 hA5)))))
  clear h hb0 o0 hx hxf hi hA hA2 hA3 hA4 hA5
  obtain ⟨n, s', rs', hp⟩ := pair_forget (W := w0.drew) (i := i) (H.out.sd.below below_of_drew) HI.out.1 flag A HI.out.2.1
  have HP := Lib.hid hp
  have HK : Hid (∀ W' : World, W'.heap[x]? = w0.heap[x]? → W'.cell? ⟨x, 1, none⟩ = some (.int .i64 A) ∧ W'.cell? ⟨x, 7, none⟩ = some (.bool flag)) := Lib.hid (fun W' e => by
    have K := HQ.out W' e
    exact ⟨K.2.1, K.2.2.2.2.2.2.2⟩)
  clear hp
  go_upto_region 15 with fail
  obtain ⟨p0, q1, q2, q3, q4, q5, q6, q7⟩ := HQ.out w0 rfl
  clear p0
  clear q0 q2 q3 q4 q5 q6
  go_region_held3 (fun w' => w'.cell? ⟨x, 1, none⟩ = some (.int .i64 A) ∧ w'.cell? ⟨x, 7, none⟩ = some (.bool flag)) (first | exact HK.out _ rfl | exact HK.out _ (by assumption))
    (first
      | (go_at_call 23; refine HP.out.p.mono ?_; rintro e w1 ⟨rfl, h1, h2⟩; have hx1 : w1.heap[x]? = w0.heap[x]? := h2.block x HO.out.1 (fun q => HO.out.2.1 x q rfl); have H1 := Lib.hid (And.intro h1 h2); clear h1 h2)
      | (go_at_call 48; refine (HP.out.r _ (H.out.sd.ref1 hab (SMv.trans (SMv.of_below below_of_drew) H1.out.2))).mono ?_; rintro e w2 ⟨rfl, h3⟩; have hx2 : w2.heap[x]? = w0.heap[x]? := (by obtain ⟨_, _, _, _, _, _, m3⟩ := h3; exact (m3.block x (Nat.lt_of_lt_of_le HO.out.1 H1.out.2.size) (fun q => HO.out.2.2 x q rfl)).trans hx1); have H3 := Lib.hid h3; clear h3))
  clear hx1 hx2
  go_wp2_with fail
  go_ret
  exact ⟨rfl, StepTo.behind HB.out (PW.both H.out hab hac hbc H1.out.1 (SMv.trans (SMv.of_below below_of_drew) H1.out.2) H3.out HP.out.good)⟩

set_option maxRecDepth 20000 in
set_option maxHeartbeats 8000000 in
theorem step_free (W : World) (own : Nat → Nat) (a b c i : Nat) (S : Sd) (X : Bk) (h : PW W own a b c i S X) (hab : a ≠ b) (hac : c ≠ a) (hbc : c ≠ b) (hi : i ≤ 2000000) (A A2 A3 A4 A5 : Int) (tag : ByteArray) (flag : Bool) (hA : IsI64 A) (hA2 : IsI64 A2) (hA3 : IsI64 A3) (hA4 : IsI64 A4) (hA5 : IsI64 A5) :
    Calls Try.prog 28 #[.pointer (some ⟨X.bp, 0, none⟩), .pointer (some ⟨S.K.b, 0, none⟩), .pointer (some ⟨S.r, 0, none⟩), .agg #[.int .i64 13, .int .i64 A, .int .i64 A2, .int .i64 A3, .int .i64 A4, .int .i64 A5, .string tag, .bool flag]] W fun e w' => e = .returned (.bool true) ∧ StepTo W w' own a b c i S X := by
  go_enter Try.func28, Try.ntmps28
  go_upto_region 1 with fail
  have hb0 : Below W.heap.size W (W.alloc (.cells #[.int .i64 13, .int .i64 A, .int .i64 A2, .int .i64 A3, .int .i64 A4, .int .i64 A5, .string tag, .bool flag] 24)) := (Below.refl _ _).alloc (Nat.le_refl _) _
  have o0 : (W.alloc (.cells #[.int .i64 13, .int .i64 A, .int .i64 A2, .int .i64 A3, .int .i64 A4, .int .i64 A5, .string tag, .bool flag] 24)).heap[W.heap.size]? = some (.cells #[.int .i64 13, .int .i64 A, .int .i64 A2, .int .i64 A3, .int .i64 A4, .int .i64 A5, .string tag, .bool flag] 24 (0, 0)) := _root_.Go.heap_alloc_new _ _
  generalize (W.alloc (.cells #[.int .i64 13, .int .i64 A, .int .i64 A2, .int .i64 A3, .int .i64 A4, .int .i64 A5, .string tag, .bool flag] 24)) = w0 at *
  obtain ⟨x, hx⟩ : ∃ x, W.heap.size = x := ⟨_, rfl⟩
  have hxf : (∀ j, S.K.has j → j ≠ x) ∧ (∀ j, RBlk S.r S.vh S.vr S.vs S.va j → j ≠ x) := ⟨fun j hj e => by have := h.sd.ses.lt j hj; omega, fun j hj e => by have := h.sd.ref.inn.blt j hj; omega⟩
  rw [hx] at o0 ⊢
  have H := Lib.hid (h.below hb0)
  have HB := Lib.hid hb0
  have q0 : w0.cell? ⟨x, 0, none⟩ = some (.int .i64 13) := (cell_of_row _ _ 0 _ _ _ o0).trans rfl
  have HO := Lib.hid (And.intro (Array.getElem?_eq_some_iff.1 o0).1 hxf)
  have HQ : Hid (∀ W' : World, W'.heap[x]? = w0.heap[x]? → W'.cell? ⟨x, 0, none⟩ = some (.int .i64 13) ∧ W'.cell? ⟨x, 1, none⟩ = some (.int .i64 A) ∧ W'.cell? ⟨x, 2, none⟩ = some (.int .i64 A2) ∧ W'.cell? ⟨x, 3, none⟩ = some (.int .i64 A3) ∧ W'.cell? ⟨x, 4, none⟩ = some (.int .i64 A4) ∧ W'.cell? ⟨x, 5, none⟩ = some (.int .i64 A5) ∧ W'.cell? ⟨x, 6, none⟩ = some (.string tag) ∧ W'.cell? ⟨x, 7, none⟩ = some (.bool flag)) := Lib.hid (fun W' e => by
    have o := e.trans o0
    exact ⟨(cell_of_row _ _ 0 _ _ _ o).trans rfl, (cell_of_row _ _ 1 _ _ _ o).trans rfl, (cell_of_row _ _ 2 _ _ _ o).trans rfl, (cell_of_row _ _ 3 _ _ _ o).trans rfl, (cell_of_row _ _ 4 _ _ _ o).trans rfl, (cell_of_row _ _ 5 _ _ _ o).trans rfl, (cell_of_row _ _ 6 _ _ _ o).trans rfl, (cell_of_row _ _ 7 _ _ _ o).trans rfl⟩)
  have HI := Lib.hid (And.intro hi (And.intro hA (And.intro hA2 (And.intro hA3 (And.intro hA4 hA5)))))
  clear h hb0 o0 hx hxf hi hA hA2 hA3 hA4 hA5
  obtain ⟨n, s', rs', hp⟩ := pair_free (W := w0.drew) (i := i) (H.out.sd.below below_of_drew) HI.out.1 A HI.out.2.1
  have HP := Lib.hid hp
  have HK : Hid (∀ W' : World, W'.heap[x]? = w0.heap[x]? → W'.cell? ⟨x, 1, none⟩ = some (.int .i64 A)) := Lib.hid (fun W' e => by
    have K := HQ.out W' e
    exact K.2.1)
  clear hp
  go_upto_region 21 with fail
  obtain ⟨p0, q1, q2, q3, q4, q5, q6, q7⟩ := HQ.out w0 rfl
  clear p0
  clear q0 q2 q3 q4 q5 q6 q7
  go_region_held3 (fun w' => w'.cell? ⟨x, 1, none⟩ = some (.int .i64 A)) (first | exact HK.out _ rfl | exact HK.out _ (by assumption))
    (first
      | (go_at_call 25; refine HP.out.p.mono ?_; rintro e w1 ⟨rfl, h1, h2⟩; have hx1 : w1.heap[x]? = w0.heap[x]? := h2.block x HO.out.1 (fun q => HO.out.2.1 x q rfl); have H1 := Lib.hid (And.intro h1 h2); clear h1 h2)
      | (go_at_call 50; refine (HP.out.r _ (H.out.sd.ref1 hab (SMv.trans (SMv.of_below below_of_drew) H1.out.2))).mono ?_; rintro e w2 ⟨rfl, h3⟩; have hx2 : w2.heap[x]? = w0.heap[x]? := (by obtain ⟨_, _, _, _, _, _, m3⟩ := h3; exact (m3.block x (Nat.lt_of_lt_of_le HO.out.1 H1.out.2.size) (fun q => HO.out.2.2 x q rfl)).trans hx1); have H3 := Lib.hid h3; clear h3))
  clear hx1 hx2
  go_wp2_with fail
  go_ret
  exact ⟨rfl, StepTo.behind HB.out (PW.both H.out hab hac hbc H1.out.1 (SMv.trans (SMv.of_below below_of_drew) H1.out.2) H3.out HP.out.good)⟩

set_option maxRecDepth 20000 in
set_option maxHeartbeats 8000000 in
theorem step_remote (W : World) (own : Nat → Nat) (a b c i : Nat) (S : Sd) (X : Bk) (h : PW W own a b c i S X) (hab : a ≠ b) (hac : c ≠ a) (hbc : c ≠ b) (hi : i ≤ 2000000) (A A2 A3 A4 A5 : Int) (tag : ByteArray) (flag : Bool) (hA : IsI64 A) (hA2 : IsI64 A2) (hA3 : IsI64 A3) (hA4 : IsI64 A4) (hA5 : IsI64 A5) :
    Calls Try.prog 28 #[.pointer (some ⟨X.bp, 0, none⟩), .pointer (some ⟨S.K.b, 0, none⟩), .pointer (some ⟨S.r, 0, none⟩), .agg #[.int .i64 14, .int .i64 A, .int .i64 A2, .int .i64 A3, .int .i64 A4, .int .i64 A5, .string tag, .bool flag]] W fun e w' => e = .returned (.bool true) ∧ StepTo W w' own a b c i S X := by
  go_enter Try.func28, Try.ntmps28
  go_upto_region 1 with fail
  have hb0 : Below W.heap.size W (W.alloc (.cells #[.int .i64 14, .int .i64 A, .int .i64 A2, .int .i64 A3, .int .i64 A4, .int .i64 A5, .string tag, .bool flag] 24)) := (Below.refl _ _).alloc (Nat.le_refl _) _
  have o0 : (W.alloc (.cells #[.int .i64 14, .int .i64 A, .int .i64 A2, .int .i64 A3, .int .i64 A4, .int .i64 A5, .string tag, .bool flag] 24)).heap[W.heap.size]? = some (.cells #[.int .i64 14, .int .i64 A, .int .i64 A2, .int .i64 A3, .int .i64 A4, .int .i64 A5, .string tag, .bool flag] 24 (0, 0)) := _root_.Go.heap_alloc_new _ _
  generalize (W.alloc (.cells #[.int .i64 14, .int .i64 A, .int .i64 A2, .int .i64 A3, .int .i64 A4, .int .i64 A5, .string tag, .bool flag] 24)) = w0 at *
  obtain ⟨x, hx⟩ : ∃ x, W.heap.size = x := ⟨_, rfl⟩
  have hxf : (∀ j, S.K.has j → j ≠ x) ∧ (∀ j, RBlk S.r S.vh S.vr S.vs S.va j → j ≠ x) := ⟨fun j hj e => by have := h.sd.ses.lt j hj; omega, fun j hj e => by have := h.sd.ref.inn.blt j hj; omega⟩
  rw [hx] at o0 ⊢
  have H := Lib.hid (h.below hb0)
  have HB := Lib.hid hb0
  have q0 : w0.cell? ⟨x, 0, none⟩ = some (.int .i64 14) := (cell_of_row _ _ 0 _ _ _ o0).trans rfl
  have HO := Lib.hid (And.intro (Array.getElem?_eq_some_iff.1 o0).1 hxf)
  have HQ : Hid (∀ W' : World, W'.heap[x]? = w0.heap[x]? → W'.cell? ⟨x, 0, none⟩ = some (.int .i64 14) ∧ W'.cell? ⟨x, 1, none⟩ = some (.int .i64 A) ∧ W'.cell? ⟨x, 2, none⟩ = some (.int .i64 A2) ∧ W'.cell? ⟨x, 3, none⟩ = some (.int .i64 A3) ∧ W'.cell? ⟨x, 4, none⟩ = some (.int .i64 A4) ∧ W'.cell? ⟨x, 5, none⟩ = some (.int .i64 A5) ∧ W'.cell? ⟨x, 6, none⟩ = some (.string tag) ∧ W'.cell? ⟨x, 7, none⟩ = some (.bool flag)) := Lib.hid (fun W' e => by
    have o := e.trans o0
    exact ⟨(cell_of_row _ _ 0 _ _ _ o).trans rfl, (cell_of_row _ _ 1 _ _ _ o).trans rfl, (cell_of_row _ _ 2 _ _ _ o).trans rfl, (cell_of_row _ _ 3 _ _ _ o).trans rfl, (cell_of_row _ _ 4 _ _ _ o).trans rfl, (cell_of_row _ _ 5 _ _ _ o).trans rfl, (cell_of_row _ _ 6 _ _ _ o).trans rfl, (cell_of_row _ _ 7 _ _ _ o).trans rfl⟩)
  have HI := Lib.hid (And.intro hi (And.intro hA (And.intro hA2 (And.intro hA3 (And.intro hA4 hA5)))))
  clear h hb0 o0 hx hxf hi hA hA2 hA3 hA4 hA5
  obtain ⟨n, s', rs', hp⟩ := pair_remote (W := w0.drew) (i := i) (H.out.sd.below below_of_drew) HI.out.1 A A2 HI.out.2.2.1
  have HP := Lib.hid hp
  have HK : Hid (∀ W' : World, W'.heap[x]? = w0.heap[x]? → W'.cell? ⟨x, 1, none⟩ = some (.int .i64 A) ∧ W'.cell? ⟨x, 2, none⟩ = some (.int .i64 A2)) := Lib.hid (fun W' e => by
    have K := HQ.out W' e
    exact ⟨K.2.1, K.2.2.1⟩)
  clear hp
  go_upto_region 23 with fail
  obtain ⟨p0, q1, q2, q3, q4, q5, q6, q7⟩ := HQ.out w0 rfl
  clear p0
  clear q0 q3 q4 q5 q6 q7
  go_region_held3 (fun w' => w'.cell? ⟨x, 1, none⟩ = some (.int .i64 A) ∧ w'.cell? ⟨x, 2, none⟩ = some (.int .i64 A2)) (first | exact HK.out _ rfl | exact HK.out _ (by assumption))
    (first
      | (go_at_call 27; refine HP.out.p.mono ?_; rintro e w1 ⟨rfl, h1, h2⟩; have hx1 : w1.heap[x]? = w0.heap[x]? := h2.block x HO.out.1 (fun q => HO.out.2.1 x q rfl); have H1 := Lib.hid (And.intro h1 h2); clear h1 h2)
      | (go_at_call 51; refine (HP.out.r _ (H.out.sd.ref1 hab (SMv.trans (SMv.of_below below_of_drew) H1.out.2))).mono ?_; rintro e w2 ⟨rfl, h3⟩; have hx2 : w2.heap[x]? = w0.heap[x]? := (by obtain ⟨_, _, _, _, _, _, m3⟩ := h3; exact (m3.block x (Nat.lt_of_lt_of_le HO.out.1 H1.out.2.size) (fun q => HO.out.2.2 x q rfl)).trans hx1); have H3 := Lib.hid h3; clear h3))
  clear hx1 hx2
  go_wp2_with fail
  go_ret
  exact ⟨rfl, StepTo.behind HB.out (PW.both H.out hab hac hbc H1.out.1 (SMv.trans (SMv.of_below below_of_drew) H1.out.2) H3.out HP.out.good)⟩

set_option maxRecDepth 20000 in
set_option maxHeartbeats 8000000 in
theorem step_deliver (W : World) (own : Nat → Nat) (a b c i : Nat) (S : Sd) (X : Bk) (h : PW W own a b c i S X) (hab : a ≠ b) (hac : c ≠ a) (hbc : c ≠ b) (hi : i ≤ 2000000) (A A2 A3 A4 A5 : Int) (tag : ByteArray) (flag : Bool) (hA : IsI64 A) (hA2 : IsI64 A2) (hA3 : IsI64 A3) (hA4 : IsI64 A4) (hA5 : IsI64 A5) :
    Calls Try.prog 28 #[.pointer (some ⟨X.bp, 0, none⟩), .pointer (some ⟨S.K.b, 0, none⟩), .pointer (some ⟨S.r, 0, none⟩), .agg #[.int .i64 8, .int .i64 A, .int .i64 A2, .int .i64 A3, .int .i64 A4, .int .i64 A5, .string tag, .bool flag]] W fun e w' => e = .returned (.bool true) ∧ StepTo W w' own a b c i S X := by
  go_enter Try.func28, Try.ntmps28
  go_upto_region 1 with fail
  have hb0 : Below W.heap.size W (W.alloc (.cells #[.int .i64 8, .int .i64 A, .int .i64 A2, .int .i64 A3, .int .i64 A4, .int .i64 A5, .string tag, .bool flag] 24)) := (Below.refl _ _).alloc (Nat.le_refl _) _
  have o0 : (W.alloc (.cells #[.int .i64 8, .int .i64 A, .int .i64 A2, .int .i64 A3, .int .i64 A4, .int .i64 A5, .string tag, .bool flag] 24)).heap[W.heap.size]? = some (.cells #[.int .i64 8, .int .i64 A, .int .i64 A2, .int .i64 A3, .int .i64 A4, .int .i64 A5, .string tag, .bool flag] 24 (0, 0)) := _root_.Go.heap_alloc_new _ _
  generalize (W.alloc (.cells #[.int .i64 8, .int .i64 A, .int .i64 A2, .int .i64 A3, .int .i64 A4, .int .i64 A5, .string tag, .bool flag] 24)) = w0 at *
  obtain ⟨x, hx⟩ : ∃ x, W.heap.size = x := ⟨_, rfl⟩
  have hxf : (∀ j, S.K.has j → j ≠ x) ∧ (∀ j, RBlk S.r S.vh S.vr S.vs S.va j → j ≠ x) := ⟨fun j hj e => by have := h.sd.ses.lt j hj; omega, fun j hj e => by have := h.sd.ref.inn.blt j hj; omega⟩
  rw [hx] at o0 ⊢
  have H := Lib.hid (h.below hb0)
  have HB := Lib.hid hb0
  have q0 : w0.cell? ⟨x, 0, none⟩ = some (.int .i64 8) := (cell_of_row _ _ 0 _ _ _ o0).trans rfl
  have HO := Lib.hid (And.intro (Array.getElem?_eq_some_iff.1 o0).1 hxf)
  have HQ : Hid (∀ W' : World, W'.heap[x]? = w0.heap[x]? → W'.cell? ⟨x, 0, none⟩ = some (.int .i64 8) ∧ W'.cell? ⟨x, 1, none⟩ = some (.int .i64 A) ∧ W'.cell? ⟨x, 2, none⟩ = some (.int .i64 A2) ∧ W'.cell? ⟨x, 3, none⟩ = some (.int .i64 A3) ∧ W'.cell? ⟨x, 4, none⟩ = some (.int .i64 A4) ∧ W'.cell? ⟨x, 5, none⟩ = some (.int .i64 A5) ∧ W'.cell? ⟨x, 6, none⟩ = some (.string tag) ∧ W'.cell? ⟨x, 7, none⟩ = some (.bool flag)) := Lib.hid (fun W' e => by
    have o := e.trans o0
    exact ⟨(cell_of_row _ _ 0 _ _ _ o).trans rfl, (cell_of_row _ _ 1 _ _ _ o).trans rfl, (cell_of_row _ _ 2 _ _ _ o).trans rfl, (cell_of_row _ _ 3 _ _ _ o).trans rfl, (cell_of_row _ _ 4 _ _ _ o).trans rfl, (cell_of_row _ _ 5 _ _ _ o).trans rfl, (cell_of_row _ _ 6 _ _ _ o).trans rfl, (cell_of_row _ _ 7 _ _ _ o).trans rfl⟩)
  have HI := Lib.hid (And.intro hi (And.intro hA (And.intro hA2 (And.intro hA3 (And.intro hA4 hA5)))))
  clear h hb0 o0 hx hxf hi hA hA2 hA3 hA4 hA5
  obtain ⟨n, m, s', rs', hp⟩ := pair_deliver (i := i) H.out.sd HI.out.1 A tag flag HI.out.2.1
  have HP := Lib.hid hp
  clear hp
  obtain ⟨p0, q1, q2, q3, q4, q5, q6, q7⟩ := HQ.out w0 rfl
  clear p0
  clear q2 q3 q4 q5
  go_wp2_with fail
  refine HP.out.p.mono ?_
  rintro e w1 ⟨rfl, h1, h2⟩
  have hx1 : w1.heap[x]? = w0.heap[x]? := h2.block x HO.out.1 (fun q => HO.out.2.1 x q rfl)
  have hq1 := HQ.out w1 hx1
  have H1 := Lib.hid (And.intro h1 h2)
  obtain ⟨_, r1, r2, r3, r4, r5, r6, r7⟩ := hq1
  clear q1 q6 q7 h1 h2 hx1 r2 r3 r4 r5
  go_wp2_with fail
  refine (HP.out.r _ (H.out.sd.ref1 hab H1.out.2)).mono ?_
  rintro e w2 ⟨rfl, h3⟩
  have H3 := Lib.hid h3
  clear h3
  go_wp2_with fail
  go_ret
  exact ⟨rfl, StepTo.behind HB.out (PW.both H.out hab hac hbc H1.out.1 H1.out.2 H3.out HP.out.good)⟩

set_option maxRecDepth 20000 in
set_option maxHeartbeats 8000000 in
theorem step_handle (W : World) (own : Nat → Nat) (a b c i : Nat) (S : Sd) (X : Bk) (h : PW W own a b c i S X) (hab : a ≠ b) (hac : c ≠ a) (hbc : c ≠ b) (hi : i ≤ 2000000) (A A2 A3 A4 A5 : Int) (tag : ByteArray) (flag : Bool) (hA : IsI64 A) (hA2 : IsI64 A2) (hA3 : IsI64 A3) (hA4 : IsI64 A4) (hA5 : IsI64 A5) :
    Calls Try.prog 28 #[.pointer (some ⟨X.bp, 0, none⟩), .pointer (some ⟨S.K.b, 0, none⟩), .pointer (some ⟨S.r, 0, none⟩), .agg #[.int .i64 12, .int .i64 A, .int .i64 A2, .int .i64 A3, .int .i64 A4, .int .i64 A5, .string tag, .bool flag]] W fun e w' => e = .returned (.bool true) ∧ StepTo W w' own a b c i S X := by
  go_enter Try.func28, Try.ntmps28
  go_upto_region 1 with fail
  have hb0 : Below W.heap.size W (W.alloc (.cells #[.int .i64 12, .int .i64 A, .int .i64 A2, .int .i64 A3, .int .i64 A4, .int .i64 A5, .string tag, .bool flag] 24)) := (Below.refl _ _).alloc (Nat.le_refl _) _
  have o0 : (W.alloc (.cells #[.int .i64 12, .int .i64 A, .int .i64 A2, .int .i64 A3, .int .i64 A4, .int .i64 A5, .string tag, .bool flag] 24)).heap[W.heap.size]? = some (.cells #[.int .i64 12, .int .i64 A, .int .i64 A2, .int .i64 A3, .int .i64 A4, .int .i64 A5, .string tag, .bool flag] 24 (0, 0)) := _root_.Go.heap_alloc_new _ _
  generalize (W.alloc (.cells #[.int .i64 12, .int .i64 A, .int .i64 A2, .int .i64 A3, .int .i64 A4, .int .i64 A5, .string tag, .bool flag] 24)) = w0 at *
  obtain ⟨x, hx⟩ : ∃ x, W.heap.size = x := ⟨_, rfl⟩
  have hxf : (∀ j, S.K.has j → j ≠ x) ∧ (∀ j, RBlk S.r S.vh S.vr S.vs S.va j → j ≠ x) := ⟨fun j hj e => by have := h.sd.ses.lt j hj; omega, fun j hj e => by have := h.sd.ref.inn.blt j hj; omega⟩
  rw [hx] at o0 ⊢
  have H := Lib.hid (h.below hb0)
  have HB := Lib.hid hb0
  have q0 : w0.cell? ⟨x, 0, none⟩ = some (.int .i64 12) := (cell_of_row _ _ 0 _ _ _ o0).trans rfl
  have HO := Lib.hid (And.intro (Array.getElem?_eq_some_iff.1 o0).1 hxf)
  have HQ : Hid (∀ W' : World, W'.heap[x]? = w0.heap[x]? → W'.cell? ⟨x, 0, none⟩ = some (.int .i64 12) ∧ W'.cell? ⟨x, 1, none⟩ = some (.int .i64 A) ∧ W'.cell? ⟨x, 2, none⟩ = some (.int .i64 A2) ∧ W'.cell? ⟨x, 3, none⟩ = some (.int .i64 A3) ∧ W'.cell? ⟨x, 4, none⟩ = some (.int .i64 A4) ∧ W'.cell? ⟨x, 5, none⟩ = some (.int .i64 A5) ∧ W'.cell? ⟨x, 6, none⟩ = some (.string tag) ∧ W'.cell? ⟨x, 7, none⟩ = some (.bool flag)) := Lib.hid (fun W' e => by
    have o := e.trans o0
    exact ⟨(cell_of_row _ _ 0 _ _ _ o).trans rfl, (cell_of_row _ _ 1 _ _ _ o).trans rfl, (cell_of_row _ _ 2 _ _ _ o).trans rfl, (cell_of_row _ _ 3 _ _ _ o).trans rfl, (cell_of_row _ _ 4 _ _ _ o).trans rfl, (cell_of_row _ _ 5 _ _ _ o).trans rfl, (cell_of_row _ _ 6 _ _ _ o).trans rfl, (cell_of_row _ _ 7 _ _ _ o).trans rfl⟩)
  have HI := Lib.hid (And.intro hi (And.intro hA (And.intro hA2 (And.intro hA3 (And.intro hA4 hA5)))))
  clear h hb0 o0 hx hxf hi hA hA2 hA3 hA4 hA5
  obtain ⟨n, m, s', rs', hp⟩ := pair_hand (i := i) H.out.sd
  have HP := Lib.hid hp
  clear hp
  obtain ⟨p0, q1, q2, q3, q4, q5, q6, q7⟩ := HQ.out w0 rfl
  clear p0
  clear q1 q2 q3 q4 q5 q6 q7
  go_wp2_with fail
  refine HP.out.p.mono ?_
  rintro e w1 ⟨rfl, h1, h2⟩
  have hx1 : w1.heap[x]? = w0.heap[x]? := h2.block x HO.out.1 (fun q => HO.out.2.1 x q rfl)
  have hq1 := HQ.out w1 hx1
  have H1 := Lib.hid (And.intro h1 h2)
  clear h1 h2 hx1 hq1
  go_wp2_with fail
  refine (HP.out.r _ (H.out.sd.ref1 hab H1.out.2)).mono ?_
  rintro e w2 ⟨rfl, h3⟩
  have H3 := Lib.hid h3
  clear h3
  go_wp2_with fail
  go_ret
  exact ⟨rfl, StepTo.behind HB.out (PW.both H.out hab hac hbc H1.out.1 H1.out.2 H3.out HP.out.good)⟩

set_option maxRecDepth 20000 in
set_option maxHeartbeats 8000000 in
theorem step_local (W : World) (own : Nat → Nat) (a b c i : Nat) (S : Sd) (X : Bk) (h : PW W own a b c i S X) (hab : a ≠ b) (hac : c ≠ a) (hbc : c ≠ b) (hi : i ≤ 2000000) (A A2 A3 A4 A5 : Int) (tag : ByteArray) (flag : Bool) (hA : IsI64 A) (hA2 : IsI64 A2) (hA3 : IsI64 A3) (hA4 : IsI64 A4) (hA5 : IsI64 A5) :
    Calls Try.prog 28 #[.pointer (some ⟨X.bp, 0, none⟩), .pointer (some ⟨S.K.b, 0, none⟩), .pointer (some ⟨S.r, 0, none⟩), .agg #[.int .i64 15, .int .i64 A, .int .i64 A2, .int .i64 A3, .int .i64 A4, .int .i64 A5, .string tag, .bool flag]] W fun e w' => e = .returned (.bool true) ∧ StepTo W w' own a b c i S X := by
  go_enter Try.func28, Try.ntmps28
  go_upto_region 1 with fail
  have hb0 : Below W.heap.size W (W.alloc (.cells #[.int .i64 15, .int .i64 A, .int .i64 A2, .int .i64 A3, .int .i64 A4, .int .i64 A5, .string tag, .bool flag] 24)) := (Below.refl _ _).alloc (Nat.le_refl _) _
  have o0 : (W.alloc (.cells #[.int .i64 15, .int .i64 A, .int .i64 A2, .int .i64 A3, .int .i64 A4, .int .i64 A5, .string tag, .bool flag] 24)).heap[W.heap.size]? = some (.cells #[.int .i64 15, .int .i64 A, .int .i64 A2, .int .i64 A3, .int .i64 A4, .int .i64 A5, .string tag, .bool flag] 24 (0, 0)) := _root_.Go.heap_alloc_new _ _
  generalize (W.alloc (.cells #[.int .i64 15, .int .i64 A, .int .i64 A2, .int .i64 A3, .int .i64 A4, .int .i64 A5, .string tag, .bool flag] 24)) = w0 at *
  obtain ⟨x, hx⟩ : ∃ x, W.heap.size = x := ⟨_, rfl⟩
  have hxf : (∀ j, S.K.has j → j ≠ x) ∧ (∀ j, RBlk S.r S.vh S.vr S.vs S.va j → j ≠ x) := ⟨fun j hj e => by have := h.sd.ses.lt j hj; omega, fun j hj e => by have := h.sd.ref.inn.blt j hj; omega⟩
  rw [hx] at o0 ⊢
  have H := Lib.hid (h.below hb0)
  have HB := Lib.hid hb0
  have q0 : w0.cell? ⟨x, 0, none⟩ = some (.int .i64 15) := (cell_of_row _ _ 0 _ _ _ o0).trans rfl
  have HO := Lib.hid (And.intro (Array.getElem?_eq_some_iff.1 o0).1 hxf)
  have HQ : Hid (∀ W' : World, W'.heap[x]? = w0.heap[x]? → W'.cell? ⟨x, 0, none⟩ = some (.int .i64 15) ∧ W'.cell? ⟨x, 1, none⟩ = some (.int .i64 A) ∧ W'.cell? ⟨x, 2, none⟩ = some (.int .i64 A2) ∧ W'.cell? ⟨x, 3, none⟩ = some (.int .i64 A3) ∧ W'.cell? ⟨x, 4, none⟩ = some (.int .i64 A4) ∧ W'.cell? ⟨x, 5, none⟩ = some (.int .i64 A5) ∧ W'.cell? ⟨x, 6, none⟩ = some (.string tag) ∧ W'.cell? ⟨x, 7, none⟩ = some (.bool flag)) := Lib.hid (fun W' e => by
    have o := e.trans o0
    exact ⟨(cell_of_row _ _ 0 _ _ _ o).trans rfl, (cell_of_row _ _ 1 _ _ _ o).trans rfl, (cell_of_row _ _ 2 _ _ _ o).trans rfl, (cell_of_row _ _ 3 _ _ _ o).trans rfl, (cell_of_row _ _ 4 _ _ _ o).trans rfl, (cell_of_row _ _ 5 _ _ _ o).trans rfl, (cell_of_row _ _ 6 _ _ _ o).trans rfl, (cell_of_row _ _ 7 _ _ _ o).trans rfl⟩)
  have HI := Lib.hid (And.intro hi (And.intro hA (And.intro hA2 (And.intro hA3 (And.intro hA4 hA5)))))
  clear h hb0 o0 hx hxf hi hA hA2 hA3 hA4 hA5
  have h1 := local_any w0 S.K S.s A H.out.sd.ses
  obtain ⟨p0, q1, q2, q3, q4, q5, q6, q7⟩ := HQ.out w0 rfl
  clear p0
  clear q2 q3 q4 q5 q6 q7
  go_wp2_with fail
  refine h1.mono ?_
  clear h1
  rintro e w1 ⟨hd, is, rfl, i1, i2, hb1⟩
  have H1 := Lib.hid (H.out.below hb1)
  have HB1 := Lib.hid hb1
  have q1' : w1.cell? ⟨x, 1, none⟩ = some (.int .i64 A) := (HQ.out w1 (hb1.block x HO.out.1)).2.1
  have h2 := rlocal_any w1 S.r S.B S.s _ S.rs S.vh S.vr S.vs S.va A H1.out.sd.ref.inn
  have HI2 := Lib.hid (And.intro i1 i2)
  clear hb1 q1 i1 i2
  go_wp2_with fail
  refine h2.mono ?_
  clear h2
  rintro e w2 ⟨hd2, is2, rfl, j1, j2, rfl⟩
  have heq : is2 = is ∧ hd2 = hd := by
    have ht := H1.out.sd.good.tie
    have hu := H1.out.sd.good.uniq
    obtain ⟨i1, i2⟩ := HI2.out
    cases is
    · obtain ⟨rfl, i3⟩ := i2 rfl
      cases is2
      · exact ⟨rfl, (j2 rfl).1⟩
      · obtain ⟨q1, q2⟩ := (ht _ _).1 (j1 rfl)
        exact absurd rfl (i3 q2 _ q1)
    · obtain ⟨i3, i4⟩ := i1 rfl
      cases is2
      · exact absurd rfl ((j2 rfl).2 _ ((ht _ _).2 ⟨i4, i3⟩))
      · obtain ⟨q1, q2⟩ := (ht _ _).1 (j1 rfl)
        exact ⟨rfl, hu _ q1 _ i4 rfl q2⟩
  obtain ⟨rfl, rfl⟩ := heq
  clear j1 j2
  go_wp2_with fail
  go_ret
  exact ⟨by cases is2 <;> rfl, StepTo.behind HB.out (StepTo.same H.out HB1.out)⟩

end Go.Proofs.Ytbkimebmoafbnaa
