/-
  sameState, sameFlow of what both sessions answer alike. Conditions: both lie in memory.
-/
import Derived.Test.YtbkimebmoafbnaaSsW
import Derived.Test.YtbkimebmoafbnaaSsE
import Derived.Laws.StructEq
namespace Go.Proofs.Ytbkimebmoafbnaa
open Go.RowKit Go.Maps
set_option linter.unusedVariables false

theorem sst_eq (s : SS) (w : World) : (Op.equalIn 10000 63 (.agg s.state) (.agg s.state)).run Try.prog w = .ok true w := by
  have u3 := Try.underlying3
  have u4 := Try.underlying4
  have hS : Try.prog.underlying 63 = some (.struct (Try.prog.fieldsOf 63)) := by kernel_rfl
  have hp : Try.prog.stoodInHeld 63 = false := by kernel_rfl
  rw [show (10000 : Nat) = 9999 + 1 from rfl, run_equalIn_agg w 9999 63 _ _ hS hp]
  unfold SS.state
  simp only [Program.fieldsOf, Try.underlying63]
  go_simp
theorem sst_eql (s : SS) (w : World) : (binOp .eql 63 (.agg s.state) (.agg s.state)).run Try.prog w = .ok (.bool true) w := by
  rw [run_eql_struct, sst_eq]
  rfl

set_option maxRecDepth 20000 in
set_option maxHeartbeats 4000000 in
theorem sameState_any (w : World) (K : SK) (s : SS) (r B : Nat) (hs : List Int) (rs : List (Int × Int)) (vh vr vs va : Value) (h : SesIn w K s) (hr : RIn w r B s hs rs vh vr vs va) :
    Calls Try.prog 12 #[.pointer (some ⟨K.b, 0, none⟩), .pointer (some ⟨r, 0, none⟩)] w fun e w' => e = .returned (.bool true) ∧ Below w.heap.size w w' := by
  have hc1 := sstate_any w K s h
  have HR := Lib.hid hr
  clear h hr
  have hse := sst_eql s
  go_enter Try.func12, Try.ntmps12
  go_wp2_with fail
  refine hc1.mono ?_
  clear hc1
  rintro e w1 ⟨rfl, hb1⟩
  have hr1 := HR.out.below hb1
  go_upto_region 2 with (refine wpList_store_rowTo rfl 63 (.tmp 5) (.tmp 8) rfl rfl w1.heap.size s.state rfl rfl 63 #[.bool false, .int .i64 0, .int .i64 0, .int .i64 0, .int .i64 0, .int .i64 0, .int .i64 0, .int .i64 0, .int .i64 0, .int .i64 0, .int .i64 0, .int .i64 0] (_root_.Go.heap_alloc_new w1 _) (by as_aux_lemma => kernel_rfl) (by as_aux_lemma => kernel_rfl) (by as_aux_lemma => kernel_rfl) ?_)
  have hb2 : Below w1.heap.size w1 ((w1.alloc (.cells #[.bool false, .int .i64 0, .int .i64 0, .int .i64 0, .int .i64 0, .int .i64 0, .int .i64 0, .int .i64 0, .int .i64 0, .int .i64 0, .int .i64 0, .int .i64 0] 63)).setRow w1.heap.size s.state) := below_setRow ((Below.refl _ _).alloc (Nat.le_refl _) _) (Nat.le_refl _) _
  have h2 := setRow_heap (w1.alloc (.cells #[.bool false, .int .i64 0, .int .i64 0, .int .i64 0, .int .i64 0, .int .i64 0, .int .i64 0, .int .i64 0, .int .i64 0, .int .i64 0, .int .i64 0, .int .i64 0] 63)) w1.heap.size _ s.state _ _ (_root_.Go.heap_alloc_new w1 _)
  change Code.wp _ _ _ _ ((w1.alloc (.cells #[.bool false, .int .i64 0, .int .i64 0, .int .i64 0, .int .i64 0, .int .i64 0, .int .i64 0, .int .i64 0, .int .i64 0, .int .i64 0, .int .i64 0, .int .i64 0] 63)).setRow w1.heap.size s.state)
  generalize ((w1.alloc (.cells #[.bool false, .int .i64 0, .int .i64 0, .int .i64 0, .int .i64 0, .int .i64 0, .int .i64 0, .int .i64 0, .int .i64 0, .int .i64 0, .int .i64 0, .int .i64 0] 63)).setRow w1.heap.size s.state) = w2 at *
  obtain ⟨x, hx⟩ : ∃ x, w1.heap.size = x := ⟨_, rfl⟩
  have hr2 := hr1.below hb2
  have HB2 := Lib.hid (hb1.trans (hb2.mono hb1.size))
  rw [hx] at h2 ⊢
  have hc2 := rstate_any w2 r B s hs rs vh vr vs va hr2
  clear hb1 hr1 hb2 hx hr2 HR
  go_wp2_with fail
  refine hc2.mono ?_
  clear hc2
  rintro e w3 ⟨rfl, hb3⟩
  have h3 := (hb3.block x (Array.getElem?_eq_some_iff.1 h2).1).trans h2
  have HB3 := Lib.hid (HB2.out.trans (hb3.mono HB2.out.size))
  clear h2 hb3 HB2
  go_upto_region 3 with (refine wpList_store_rowTo rfl 63 (.tmp 6) (.tmp 10) rfl rfl w3.heap.size s.state rfl rfl 63 #[.bool false, .int .i64 0, .int .i64 0, .int .i64 0, .int .i64 0, .int .i64 0, .int .i64 0, .int .i64 0, .int .i64 0, .int .i64 0, .int .i64 0, .int .i64 0] (_root_.Go.heap_alloc_new w3 _) (by as_aux_lemma => kernel_rfl) (by as_aux_lemma => kernel_rfl) (by as_aux_lemma => kernel_rfl) ?_)
  have hb4 : Below w3.heap.size w3 ((w3.alloc (.cells #[.bool false, .int .i64 0, .int .i64 0, .int .i64 0, .int .i64 0, .int .i64 0, .int .i64 0, .int .i64 0, .int .i64 0, .int .i64 0, .int .i64 0, .int .i64 0] 63)).setRow w3.heap.size s.state) := below_setRow ((Below.refl _ _).alloc (Nat.le_refl _) _) (Nat.le_refl _) _
  have h4 := setRow_heap (w3.alloc (.cells #[.bool false, .int .i64 0, .int .i64 0, .int .i64 0, .int .i64 0, .int .i64 0, .int .i64 0, .int .i64 0, .int .i64 0, .int .i64 0, .int .i64 0, .int .i64 0] 63)) w3.heap.size _ s.state _ _ (_root_.Go.heap_alloc_new w3 _)
  change Code.wp _ _ _ _ ((w3.alloc (.cells #[.bool false, .int .i64 0, .int .i64 0, .int .i64 0, .int .i64 0, .int .i64 0, .int .i64 0, .int .i64 0, .int .i64 0, .int .i64 0, .int .i64 0, .int .i64 0] 63)).setRow w3.heap.size s.state)
  generalize ((w3.alloc (.cells #[.bool false, .int .i64 0, .int .i64 0, .int .i64 0, .int .i64 0, .int .i64 0, .int .i64 0, .int .i64 0, .int .i64 0, .int .i64 0, .int .i64 0, .int .i64 0] 63)).setRow w3.heap.size s.state) = w4 at *
  have h3x := (hb4.block x (Array.getElem?_eq_some_iff.1 h3).1).trans h3
  obtain ⟨y, hy⟩ : ∃ y, w3.heap.size = y := ⟨_, rfl⟩
  have HB4 := Lib.hid (HB3.out.trans (hb4.mono HB3.out.size))
  rw [hy] at h4 ⊢
  clear h3 hb4 hy HB3
  go_wp2_with (first
    | (refine wpList_load_row rfl 63 (.tmp 5) rfl x rfl 63 s.state (0, 0) _ h3x Try.underlying63 rfl (by as_aux_lemma => kernel_rfl) ?_)
    | (refine wpList_load_row rfl 63 (.tmp 6) rfl y rfl 63 s.state (0, 0) _ h4 Try.underlying63 rfl (by as_aux_lemma => kernel_rfl) ?_))
  go_ret
  exact ⟨by simp, HB4.out⟩

end Go.Proofs.Ytbkimebmoafbnaa
