/-
  Steps of windows, as one. Conditions: the sessions and the book lie in memory. (Printed by a program.)
-/
import Derived.Test.YtbkimebmoafbnaaSpE
namespace Go.Proofs.Ytbkimebmoafbnaa
open Go.RowKit Go.Maps
set_option linter.unusedVariables false
theorem fields_sz (s : SS) : s.fields.size = 128 := perf_size ..

set_option maxRecDepth 20000 in
set_option maxHeartbeats 8000000 in
theorem win_step_fields (W : World) (own : Nat → Nat) (a b c i : Nat) (S : Sd) (X : Bk) (h : PW W own a b c i S X) (hab : a ≠ b) (hac : c ≠ a) (hbc : c ≠ b) (hi : i ≤ 2000000) (A A2 A3 A4 A5 : Int) (tag : ByteArray) (flag : Bool) (hA : IsI64 A) (hA2 : IsI64 A2) (hA3 : IsI64 A3) (hA4 : IsI64 A4) (hA5 : IsI64 A5) :
    Calls Try.prog 53 #[.pointer (some ⟨S.K.b, 0, none⟩), .pointer (some ⟨S.r, 0, none⟩), .agg #[.int .i64 7, .int .i64 A, .int .i64 A2, .int .i64 A3, .int .i64 A4, .int .i64 A5, .string tag, .bool flag]] W fun e w' => e = .returned (.bool true) ∧ StepTo W w' own a b c i S X := by
  go_enter Try.func53, Try.ntmps53
  go_upto_region 1 with fail
  have hb0 : Below W.heap.size W (W.alloc (.cells #[.int .i64 7, .int .i64 A, .int .i64 A2, .int .i64 A3, .int .i64 A4, .int .i64 A5, .string tag, .bool flag] 24)) := (Below.refl _ _).alloc (Nat.le_refl _) _
  have o0 : (W.alloc (.cells #[.int .i64 7, .int .i64 A, .int .i64 A2, .int .i64 A3, .int .i64 A4, .int .i64 A5, .string tag, .bool flag] 24)).heap[W.heap.size]? = some (.cells #[.int .i64 7, .int .i64 A, .int .i64 A2, .int .i64 A3, .int .i64 A4, .int .i64 A5, .string tag, .bool flag] 24 (0, 0)) := _root_.Go.heap_alloc_new _ _
  generalize (W.alloc (.cells #[.int .i64 7, .int .i64 A, .int .i64 A2, .int .i64 A3, .int .i64 A4, .int .i64 A5, .string tag, .bool flag] 24)) = w0 at *
  obtain ⟨x, hx⟩ : ∃ x, W.heap.size = x := ⟨_, rfl⟩
  have hxf : (∀ j, S.K.has j → j ≠ x) ∧ (∀ j, RBlk S.r S.vh S.vr S.vs S.va j → j ≠ x) := ⟨fun j hj e => by have := h.sd.ses.lt j hj; omega, fun j hj e => by have := h.sd.ref.inn.blt j hj; omega⟩
  rw [hx] at o0 ⊢
  have H := Lib.hid (h.below hb0)
  have HB := Lib.hid hb0
  have q0 : w0.cell? ⟨x, 0, none⟩ = some (.int .i64 7) := (cell_of_row _ _ 0 _ _ _ o0).trans rfl
  have HO := Lib.hid (And.intro (Array.getElem?_eq_some_iff.1 o0).1 hxf)
  have HQ : Hid (∀ W' : World, W'.heap[x]? = w0.heap[x]? → W'.cell? ⟨x, 0, none⟩ = some (.int .i64 7) ∧ W'.cell? ⟨x, 1, none⟩ = some (.int .i64 A) ∧ W'.cell? ⟨x, 2, none⟩ = some (.int .i64 A2) ∧ W'.cell? ⟨x, 3, none⟩ = some (.int .i64 A3) ∧ W'.cell? ⟨x, 4, none⟩ = some (.int .i64 A4) ∧ W'.cell? ⟨x, 5, none⟩ = some (.int .i64 A5) ∧ W'.cell? ⟨x, 6, none⟩ = some (.string tag) ∧ W'.cell? ⟨x, 7, none⟩ = some (.bool flag)) := Lib.hid (fun W' e => by
    have o := e.trans o0
    exact ⟨(cell_of_row _ _ 0 _ _ _ o).trans rfl, (cell_of_row _ _ 1 _ _ _ o).trans rfl, (cell_of_row _ _ 2 _ _ _ o).trans rfl, (cell_of_row _ _ 3 _ _ _ o).trans rfl, (cell_of_row _ _ 4 _ _ _ o).trans rfl, (cell_of_row _ _ 5 _ _ _ o).trans rfl, (cell_of_row _ _ 6 _ _ _ o).trans rfl, (cell_of_row _ _ 7 _ _ _ o).trans rfl⟩)
  have HI := Lib.hid (And.intro hi (And.intro hA (And.intro hA2 (And.intro hA3 (And.intro hA4 hA5)))))
  clear h hb0 o0 hx hxf hi hA hA2 hA3 hA4 hA5
  have hf := sfields_any w0 S.K S.s H.out.sd.ses
  obtain ⟨s, hs⟩ : ∃ s, S.s = s := ⟨_, rfl⟩
  have HSS := Lib.hid hs
  rw [hs] at hf
  clear hs
  go_wp2_with fail
  refine hf.mono ?_
  clear hf
  rintro en w8 ⟨rfl, hb8⟩
  have H8 := Lib.hid (H.out.below hb8)
  have HB8 := Lib.hid hb8
  clear hb8
  go_upto_region 18 with (refine wpList_store_rowTo rfl 39 (.tmp 9) (.tmp 70) rfl rfl w8.heap.size s.fields rfl rfl 39 perfZ (_root_.Go.heap_alloc_new w8 _) (by as_aux_lemma => kernel_rfl) (by as_aux_lemma => kernel_rfl) (by as_aux_lemma => kernel_rfl) ?_)
  have hb9 : Below w8.heap.size w8 ((w8.alloc (.cells perfZ 39)).setRow w8.heap.size s.fields) := below_setRow ((Below.refl _ _).alloc (Nat.le_refl _) _) (Nat.le_refl _) _
  have h9 := setRow_heap (w8.alloc (.cells perfZ 39)) w8.heap.size _ s.fields _ _ (_root_.Go.heap_alloc_new w8 _)
  change Code.wp _ _ _ _ ((w8.alloc (.cells perfZ 39)).setRow w8.heap.size s.fields)
  generalize ((w8.alloc (.cells perfZ 39)).setRow w8.heap.size s.fields) = w9 at *
  obtain ⟨u, hu⟩ : ∃ u, w8.heap.size = u := ⟨_, rfl⟩
  have hB9 := HB8.out.trans (hb9.mono HB8.out.size)
  have H9 := H8.out.below hb9
  rw [hu] at h9 ⊢
  have hf := rfields_any w9 S.r S.B _ _ _ _ _ _ _ H9.sd.ref.inn
  rw [HSS.out] at hf
  have HB9 := Lib.hid hB9
  have HH9 := Lib.hid H9
  clear hb9 hu H9 hB9
  go_wp2_with fail
  refine hf.mono ?_
  clear hf
  rintro en w10 ⟨rfl, hb10⟩
  have h10 := (hb10.block u (Array.getElem?_eq_some_iff.1 h9).1).trans h9
  have HB10 := Lib.hid (HB9.out.trans (hb10.mono HB9.out.size))
  clear hb10 h9
  go_upto_region 19 with (refine wpList_store_rowTo rfl 39 (.tmp 10) (.tmp 72) rfl rfl w10.heap.size s.fields rfl rfl 39 perfZ (_root_.Go.heap_alloc_new w10 _) (by as_aux_lemma => kernel_rfl) (by as_aux_lemma => kernel_rfl) (by as_aux_lemma => kernel_rfl) ?_)
  have hb11 : Below w10.heap.size w10 ((w10.alloc (.cells perfZ 39)).setRow w10.heap.size s.fields) := below_setRow ((Below.refl _ _).alloc (Nat.le_refl _) _) (Nat.le_refl _) _
  have h11 := setRow_heap (w10.alloc (.cells perfZ 39)) w10.heap.size _ s.fields _ _ (_root_.Go.heap_alloc_new w10 _)
  change Code.wp _ _ _ _ ((w10.alloc (.cells perfZ 39)).setRow w10.heap.size s.fields)
  generalize ((w10.alloc (.cells perfZ 39)).setRow w10.heap.size s.fields) = w11 at *
  have h10u := (hb11.block u (Array.getElem?_eq_some_iff.1 h10).1).trans h10
  obtain ⟨v, hv⟩ : ∃ v, w10.heap.size = v := ⟨_, rfl⟩
  have HB11 := Lib.hid (HB10.out.trans (hb11.mono HB10.out.size))
  rw [hv] at h11 ⊢
  have hsf : Calls Try.prog 15 #[.agg s.fields, .agg s.fields] w11 fun e w' => e = .returned (.bool true) ∧ Below w11.heap.size w11 w' := sameFlow_any w11 _ _ _ _
  clear hb11 h10 hv
  go_wp2_with (first
    | (refine wpList_load_row rfl 39 (.tmp 9) rfl u rfl 39 s.fields (0, 0) _ h10u Try.underlying39 rfl (by as_aux_lemma => kernel_rfl) ?_)
    | (refine wpList_load_row rfl 39 (.tmp 10) rfl v rfl 39 s.fields (0, 0) _ h11 Try.underlying39 rfl (by as_aux_lemma => kernel_rfl) ?_))
  refine hsf.mono ?_
  clear hsf h10u h11
  rintro en w12 ⟨rfl, hb12⟩
  have HB12 := Lib.hid (HB11.out.trans (hb12.mono HB11.out.size))
  clear hb12
  go_wp2_with fail
  go_ret
  exact ⟨rfl, StepTo.behind HB.out (StepTo.same H.out HB12.out)⟩

set_option maxRecDepth 20000 in
set_option maxHeartbeats 8000000 in
theorem win_step_rest (W : World) (own : Nat → Nat) (a b c i : Nat) (S : Sd) (X : Bk) (h : PW W own a b c i S X) (hab : a ≠ b) (hac : c ≠ a) (hbc : c ≠ b) (hi : i ≤ 2000000) (k : Int) (A A2 A3 A4 A5 : Int) (tag : ByteArray) (flag : Bool) (hA : IsI64 A) (hA2 : IsI64 A2) (hA3 : IsI64 A3) (hA4 : IsI64 A4) (hA5 : IsI64 A5) (n1 : k ≠ 1) (n2 : k ≠ 2) (n3 : k ≠ 3) (n4 : k ≠ 4) (n5 : k ≠ 5) (n6 : k ≠ 6) (n7 : k ≠ 7) (n16 : k ≠ 16) :
    Calls Try.prog 53 #[.pointer (some ⟨S.K.b, 0, none⟩), .pointer (some ⟨S.r, 0, none⟩), .agg #[.int .i64 k, .int .i64 A, .int .i64 A2, .int .i64 A3, .int .i64 A4, .int .i64 A5, .string tag, .bool flag]] W fun e w' => e = .returned (.bool true) ∧ StepTo W w' own a b c i S X := by
  have m1 : (k == 1) = false := by simpa using n1
  have m2 : (k == 2) = false := by simpa using n2
  have m3 : (k == 3) = false := by simpa using n3
  have m4 : (k == 4) = false := by simpa using n4
  have m5 : (k == 5) = false := by simpa using n5
  have m6 : (k == 6) = false := by simpa using n6
  have m7 : (k == 7) = false := by simpa using n7
  have m16 : (k == 16) = false := by simpa using n16
  clear n1 n2 n3 n4 n5 n6 n7 n16
  go_enter Try.func53, Try.ntmps53
  go_upto_region 1 with fail
  have hb0 : Below W.heap.size W (W.alloc (.cells #[.int .i64 k, .int .i64 A, .int .i64 A2, .int .i64 A3, .int .i64 A4, .int .i64 A5, .string tag, .bool flag] 24)) := (Below.refl _ _).alloc (Nat.le_refl _) _
  have o0 : (W.alloc (.cells #[.int .i64 k, .int .i64 A, .int .i64 A2, .int .i64 A3, .int .i64 A4, .int .i64 A5, .string tag, .bool flag] 24)).heap[W.heap.size]? = some (.cells #[.int .i64 k, .int .i64 A, .int .i64 A2, .int .i64 A3, .int .i64 A4, .int .i64 A5, .string tag, .bool flag] 24 (0, 0)) := _root_.Go.heap_alloc_new _ _
  generalize (W.alloc (.cells #[.int .i64 k, .int .i64 A, .int .i64 A2, .int .i64 A3, .int .i64 A4, .int .i64 A5, .string tag, .bool flag] 24)) = w0 at *
  obtain ⟨x, hx⟩ : ∃ x, W.heap.size = x := ⟨_, rfl⟩
  have hxf : (∀ j, S.K.has j → j ≠ x) ∧ (∀ j, RBlk S.r S.vh S.vr S.vs S.va j → j ≠ x) := ⟨fun j hj e => by have := h.sd.ses.lt j hj; omega, fun j hj e => by have := h.sd.ref.inn.blt j hj; omega⟩
  rw [hx] at o0 ⊢
  have H := Lib.hid (h.below hb0)
  have HB := Lib.hid hb0
  have q0 : w0.cell? ⟨x, 0, none⟩ = some (.int .i64 k) := (cell_of_row _ _ 0 _ _ _ o0).trans rfl
  have HO := Lib.hid (And.intro (Array.getElem?_eq_some_iff.1 o0).1 hxf)
  have HQ : Hid (∀ W' : World, W'.heap[x]? = w0.heap[x]? → W'.cell? ⟨x, 0, none⟩ = some (.int .i64 k) ∧ W'.cell? ⟨x, 1, none⟩ = some (.int .i64 A) ∧ W'.cell? ⟨x, 2, none⟩ = some (.int .i64 A2) ∧ W'.cell? ⟨x, 3, none⟩ = some (.int .i64 A3) ∧ W'.cell? ⟨x, 4, none⟩ = some (.int .i64 A4) ∧ W'.cell? ⟨x, 5, none⟩ = some (.int .i64 A5) ∧ W'.cell? ⟨x, 6, none⟩ = some (.string tag) ∧ W'.cell? ⟨x, 7, none⟩ = some (.bool flag)) := Lib.hid (fun W' e => by
    have o := e.trans o0
    exact ⟨(cell_of_row _ _ 0 _ _ _ o).trans rfl, (cell_of_row _ _ 1 _ _ _ o).trans rfl, (cell_of_row _ _ 2 _ _ _ o).trans rfl, (cell_of_row _ _ 3 _ _ _ o).trans rfl, (cell_of_row _ _ 4 _ _ _ o).trans rfl, (cell_of_row _ _ 5 _ _ _ o).trans rfl, (cell_of_row _ _ 6 _ _ _ o).trans rfl, (cell_of_row _ _ 7 _ _ _ o).trans rfl⟩)
  have HI := Lib.hid (And.intro hi (And.intro hA (And.intro hA2 (And.intro hA3 (And.intro hA4 hA5)))))
  clear h hb0 o0 hx hxf hi hA hA2 hA3 hA4 hA5
  go_wp2_with fail
  go_ret
  exact ⟨rfl, StepTo.behind HB.out (StepTo.same H.out (Below.refl _ _))⟩

set_option maxRecDepth 20000 in
set_option maxHeartbeats 8000000 in
theorem win_step_any (W : World) (own : Nat → Nat) (a b c i : Nat) (S : Sd) (X : Bk) (h : PW W own a b c i S X) (hab : a ≠ b) (hac : c ≠ a) (hbc : c ≠ b) (hi : i ≤ 2000000) (k : Int) (A A2 A3 A4 A5 : Int) (tag : ByteArray) (flag : Bool) (hA : IsI64 A) (hA2 : IsI64 A2) (hA3 : IsI64 A3) (hA4 : IsI64 A4) (hA5 : IsI64 A5) :
    Calls Try.prog 53 #[.pointer (some ⟨S.K.b, 0, none⟩), .pointer (some ⟨S.r, 0, none⟩), .agg #[.int .i64 k, .int .i64 A, .int .i64 A2, .int .i64 A3, .int .i64 A4, .int .i64 A5, .string tag, .bool flag]] W fun e w' => e = .returned (.bool true) ∧ StepTo W w' own a b c i S X := by
  by_cases e1 : k = 1
  · subst e1; exact win_step_peer W own a b c i S X h hab hac hbc hi A A2 A3 A4 A5 tag flag hA hA2 hA3 hA4 hA5
  by_cases e2 : k = 2
  · subst e2; exact win_step_room W own a b c i S X h hab hac hbc hi A A2 A3 A4 A5 tag flag hA hA2 hA3 hA4 hA5
  by_cases e3 : k = 3
  · subst e3; exact win_step_sent W own a b c i S X h hab hac hbc hi A A2 A3 A4 A5 tag flag hA hA2 hA3 hA4 hA5
  by_cases e4 : k = 4
  · subst e4; exact win_step_got W own a b c i S X h hab hac hbc hi A A2 A3 A4 A5 tag flag hA hA2 hA3 hA4 hA5
  by_cases e5 : k = 5
  · subst e5; exact win_step_flow W own a b c i S X h hab hac hbc hi A A2 A3 A4 A5 tag flag hA hA2 hA3 hA4 hA5
  by_cases e6 : k = 6
  · subst e6; exact win_step_widen W own a b c i S X h hab hac hbc hi A A2 A3 A4 A5 tag flag hA hA2 hA3 hA4 hA5
  by_cases e7 : k = 7
  · subst e7; exact win_step_fields W own a b c i S X h hab hac hbc hi A A2 A3 A4 A5 tag flag hA hA2 hA3 hA4 hA5
  by_cases e16 : k = 16
  · subst e16; exact win_step_state W own a b c i S X h hab hac hbc hi A A2 A3 A4 A5 tag flag hA hA2 hA3 hA4 hA5
  exact win_step_rest W own a b c i S X h hab hac hbc hi k A A2 A3 A4 A5 tag flag hA hA2 hA3 hA4 hA5 e1 e2 e3 e4 e5 e6 e7 e16

end Go.Proofs.Ytbkimebmoafbnaa
