/-
  SessionMakes' walk. No conditions.
-/
import Derived.Test.YtbkimebmoafbnaaSsB
namespace Go.Proofs.Ytbkimebmoafbnaa
open Go.RowKit Go.Maps
set_option linter.unusedVariables false

theorem fields_size (s : SS) : s.fields.size = 128 := perf_size ..

set_option maxRecDepth 20000 in
set_option maxHeartbeats 8000000 in
theorem makes_walk (w : World) (k a b c d e : Int) (tag : ByteArray) (flag : Bool) :
    Calls Try.prog 4 #[.agg #[.int .i64 k, .int .i64 a, .int .i64 b, .int .i64 c, .int .i64 d, .int .i64 e, .string tag, .bool flag]] w fun en w' => en = .returned (.bool true) ∧ Below w.heap.size w w' := by
  go_enter Try.func4, Try.ntmps4
  go_upto_region 1 with fail
  have hb1 : Below w.heap.size w (w.alloc (.cells #[.int .i64 k, .int .i64 a, .int .i64 b, .int .i64 c, .int .i64 d, .int .i64 e, .string tag, .bool flag] 24)) := (Below.refl _ _).alloc (Nat.le_refl _) _
  have o1 : (w.alloc (.cells #[.int .i64 k, .int .i64 a, .int .i64 b, .int .i64 c, .int .i64 d, .int .i64 e, .string tag, .bool flag] 24)).heap[w.heap.size]? = some (.cells #[.int .i64 k, .int .i64 a, .int .i64 b, .int .i64 c, .int .i64 d, .int .i64 e, .string tag, .bool flag] 24 (0, 0)) := _root_.Go.heap_alloc_new _ _
  generalize (w.alloc (.cells #[.int .i64 k, .int .i64 a, .int .i64 b, .int .i64 c, .int .i64 d, .int .i64 e, .string tag, .bool flag] 24)) = w1 at *
  obtain ⟨x, hx⟩ : ∃ x, w.heap.size = x := ⟨_, rfl⟩
  rw [hx] at o1 ⊢
  have hl := live_any w1
  have HB1 := Lib.hid hb1
  have HO1 := Lib.hid o1
  clear hb1 hx o1
  go_wp2_with fail
  refine hl.mono ?_
  clear hl
  rintro en w2 ⟨rfl, hb2⟩
  have o2 := (hb2.block x (Array.getElem?_eq_some_iff.1 HO1.out).1).trans HO1.out
  have HB2 := Lib.hid (HB1.out.trans (hb2.mono HB1.out.size))
  have q0 : w2.cell? ⟨x, 0, none⟩ = some (.int .i64 k) := (cell_of_row _ _ 0 _ _ _ o2).trans rfl
  have q1 : w2.cell? ⟨x, 1, none⟩ = some (.int .i64 a) := (cell_of_row _ _ 1 _ _ _ o2).trans rfl
  have q2 : w2.cell? ⟨x, 2, none⟩ = some (.int .i64 b) := (cell_of_row _ _ 2 _ _ _ o2).trans rfl
  have q3 : w2.cell? ⟨x, 3, none⟩ = some (.int .i64 c) := (cell_of_row _ _ 3 _ _ _ o2).trans rfl
  have q4 : w2.cell? ⟨x, 4, none⟩ = some (.int .i64 d) := (cell_of_row _ _ 4 _ _ _ o2).trans rfl
  have q5 : w2.cell? ⟨x, 5, none⟩ = some (.int .i64 e) := (cell_of_row _ _ 5 _ _ _ o2).trans rfl
  have q6 : w2.cell? ⟨x, 6, none⟩ = some (.string tag) := (cell_of_row _ _ 6 _ _ _ o2).trans rfl
  have q7 : w2.cell? ⟨x, 7, none⟩ = some (.bool flag) := (cell_of_row _ _ 7 _ _ _ o2).trans rfl
  have hbg := begin_any w2 k a b c d e tag flag
  clear hb2 o2
  go_wp2_with fail
  refine hbg.mono ?_
  clear hbg q0 q1 q2 q3 q4 q5 q6 q7
  rintro en w3 ⟨rfl, hb3⟩
  have HB3 := Lib.hid (HB2.out.trans (hb3.mono HB2.out.size))
  clear hb3
  go_upto_region 3 with (refine wpList_store_rowTo rfl 39 (.tmp 4) (.tmp 13) rfl rfl w3.heap.size (beginC a b c d e) rfl rfl 39 perfZ (_root_.Go.heap_alloc_new w3 _) (by as_aux_lemma => kernel_rfl) (by as_aux_lemma => kernel_rfl) (by as_aux_lemma => kernel_rfl) ?_)
  have hb4 : Below w3.heap.size w3 ((w3.alloc (.cells perfZ 39)).setRow w3.heap.size (beginC a b c d e)) := below_setRow ((Below.refl _ _).alloc (Nat.le_refl _) _) (Nat.le_refl _) _
  have h4 := setRow_heap (w3.alloc (.cells perfZ 39)) w3.heap.size _ (beginC a b c d e) _ _ (_root_.Go.heap_alloc_new w3 _)
  change Code.wp _ _ _ _ ((w3.alloc (.cells perfZ 39)).setRow w3.heap.size (beginC a b c d e))
  generalize ((w3.alloc (.cells perfZ 39)).setRow w3.heap.size (beginC a b c d e)) = w4 at *
  obtain ⟨y, hy⟩ : ∃ y, w3.heap.size = y := ⟨_, rfl⟩
  have HB4 := Lib.hid (HB3.out.trans (hb4.mono HB3.out.size))
  rw [hy] at h4 ⊢
  clear hb4 hy
  by_cases hok : BeginOk (if e = 0 then 17 else e) a b c d
  · have hn : ∀ W, Calls Try.prog 10 #[.agg (beginC a b c d e)] W fun en w' => ∃ K : SK, en = .returned (.pointer (some ⟨K.b, 0, none⟩)) ∧ K.B = W.heap.size ∧ SesIn w' K (SS.new a b c d) ∧ Below W.heap.size W w' := fun W => snew_ok W _ _ _ _ _ _ _ _ _ _ _ _ hok
    have hr : ∀ W, Calls Try.prog 11 #[.agg (beginC a b c d e)] W fun en w' => ∃ r, en = .returned (.pointer (some ⟨r, 0, none⟩)) ∧ W.heap.size ≤ r ∧ RIn w' r (r + 1) (SS.new a b c d) [] [] (.slice none 0 0) (.slice none 0 0) (.slice none 0 0) (.slice none 0 0) ∧ Below W.heap.size W w' := fun W => rnew_ok W _ _ _ _ _ _ _ _ _ _ _ _ hok
    have hn4 := hn w4
    clear hok hn
    go_wp2_with (refine wpList_load_row rfl 39 (.tmp 4) rfl y rfl 39 (beginC a b c d e) (0, 0) _ h4 Try.underlying39 rfl (by as_aux_lemma => kernel_rfl) ?_)
    refine hn4.mono ?_
    clear hn4
    rintro en w5 ⟨K, rfl, hKB, hS5, hb5⟩
    have h5 := (hb5.block y (Array.getElem?_eq_some_iff.1 h4).1).trans h4
    have HB5 := Lib.hid (HB4.out.trans (hb5.mono HB4.out.size))
    have HS5 := Lib.hid hS5
    have hr5 := hr w5
    clear h4 hb5 hS5 hKB hr
    go_wp2_with (refine wpList_load_row rfl 39 (.tmp 4) rfl y rfl 39 (beginC a b c d e) (0, 0) _ h5 Try.underlying39 rfl (by as_aux_lemma => kernel_rfl) ?_)
    refine hr5.mono ?_
    clear hr5 h5
    rintro en w6 ⟨r, rfl, hrl, hR6, hb6⟩
    have hS6 := HS5.out.below hb6
    have HB6 := Lib.hid (HB5.out.trans (hb6.mono HB5.out.size))
    have hss := sameState_any w6 K _ r (r + 1) _ _ _ _ _ _ hS6 hR6
    have HS6 := Lib.hid (And.intro hS6 hR6)
    clear hb6 hS6 hR6 hrl HS5
    go_wp2_with fail
    refine hss.mono ?_
    clear hss
    rintro en w7 ⟨rfl, hb7⟩
    have hS7 := HS6.out.1.below hb7
    have hR7 := HS6.out.2.below hb7
    have HB7 := Lib.hid (HB6.out.trans (hb7.mono HB6.out.size))
    have hf := sfields_any w7 K _ hS7
    obtain ⟨s, hs⟩ : ∃ s, SS.new a b c d = s := ⟨_, rfl⟩
    have HSS := Lib.hid hs
    rw [hs] at hf hS7 hR7
    have HS7 := Lib.hid (And.intro hS7 hR7)
    clear hb7 hS7 hR7 HS6 hs
    go_wp2_with fail
    refine hf.mono ?_
    clear hf
    rintro en w8 ⟨rfl, hb8⟩
    have hS8 := HS7.out.1.below hb8
    have hR8 := HS7.out.2.below hb8
    have HB8 := Lib.hid (HB7.out.trans (hb8.mono HB7.out.size))
    clear hb8 HS7
    go_upto_region 9 with (refine wpList_store_rowTo rfl 39 (.tmp 8) (.tmp 36) rfl rfl w8.heap.size s.fields rfl rfl 39 perfZ (_root_.Go.heap_alloc_new w8 _) (by as_aux_lemma => kernel_rfl) (by as_aux_lemma => kernel_rfl) (by as_aux_lemma => kernel_rfl) ?_)
    have hb9 : Below w8.heap.size w8 ((w8.alloc (.cells perfZ 39)).setRow w8.heap.size s.fields) := below_setRow ((Below.refl _ _).alloc (Nat.le_refl _) _) (Nat.le_refl _) _
    have h9 := setRow_heap (w8.alloc (.cells perfZ 39)) w8.heap.size _ s.fields _ _ (_root_.Go.heap_alloc_new w8 _)
    change Code.wp _ _ _ _ ((w8.alloc (.cells perfZ 39)).setRow w8.heap.size s.fields)
    generalize ((w8.alloc (.cells perfZ 39)).setRow w8.heap.size s.fields) = w9 at *
    obtain ⟨u, hu⟩ : ∃ u, w8.heap.size = u := ⟨_, rfl⟩
    have HB9 := Lib.hid (HB8.out.trans (hb9.mono HB8.out.size))
    have hS9 := hS8.below hb9
    have hR9 := hR8.below hb9
    rw [hu] at h9 ⊢
    have hf := rfields_any w9 r (r + 1) _ _ _ _ _ _ _ hR9
    have HS9 := Lib.hid hS9
    clear hb9 hu hS8 hR8 hS9 hR9
    go_wp2_with fail
    refine hf.mono ?_
    clear hf
    rintro en w10 ⟨rfl, hb10⟩
    have hS10 := HS9.out.below hb10
    have h10 := (hb10.block u (Array.getElem?_eq_some_iff.1 h9).1).trans h9
    have HB10 := Lib.hid (HB9.out.trans (hb10.mono HB9.out.size))
    clear hb10 h9 HS9
    go_upto_region 10 with (refine wpList_store_rowTo rfl 39 (.tmp 9) (.tmp 38) rfl rfl w10.heap.size s.fields rfl rfl 39 perfZ (_root_.Go.heap_alloc_new w10 _) (by as_aux_lemma => kernel_rfl) (by as_aux_lemma => kernel_rfl) (by as_aux_lemma => kernel_rfl) ?_)
    have hb11 : Below w10.heap.size w10 ((w10.alloc (.cells perfZ 39)).setRow w10.heap.size s.fields) := below_setRow ((Below.refl _ _).alloc (Nat.le_refl _) _) (Nat.le_refl _) _
    have h11 := setRow_heap (w10.alloc (.cells perfZ 39)) w10.heap.size _ s.fields _ _ (_root_.Go.heap_alloc_new w10 _)
    change Code.wp _ _ _ _ ((w10.alloc (.cells perfZ 39)).setRow w10.heap.size s.fields)
    generalize ((w10.alloc (.cells perfZ 39)).setRow w10.heap.size s.fields) = w11 at *
    have hS11 := hS10.below hb11
    have h10u := (hb11.block u (Array.getElem?_eq_some_iff.1 h10).1).trans h10
    obtain ⟨v, hv⟩ : ∃ v, w10.heap.size = v := ⟨_, rfl⟩
    have HB11 := Lib.hid (HB10.out.trans (hb11.mono HB10.out.size))
    rw [hv] at h11 ⊢
    have hsf : Calls Try.prog 15 #[.agg s.fields, .agg s.fields] w11 fun e w' => e = .returned (.bool true) ∧ Below w11.heap.size w11 w' := sameFlow_any w11 _ _ _ _
    have HS11 := Lib.hid hS11
    clear hb11 h10 hv hS10 hS11
    go_wp2_with (first
      | (refine wpList_load_row rfl 39 (.tmp 8) rfl u rfl 39 s.fields (0, 0) _ h10u Try.underlying39 rfl (by as_aux_lemma => kernel_rfl) ?_)
      | (refine wpList_load_row rfl 39 (.tmp 9) rfl v rfl 39 s.fields (0, 0) _ h11 Try.underlying39 rfl (by as_aux_lemma => kernel_rfl) ?_))
    refine hsf.mono ?_
    clear hsf h10u h11
    rintro en w12 ⟨rfl, hb12⟩
    have hS12 := HS11.out.below hb12
    have HB12 := Lib.hid (HB11.out.trans (hb12.mono HB11.out.size))
    have hroom : Calls Try.prog 16 #[.pointer (some ⟨K.b, 0, none⟩)] w12 fun e w' => e = .returned (.int .i64 0) ∧ Below w12.heap.size w12 w' := by
      have := room_any w12 K s hS12
      rw [← HSS.out] at this
      exact this
    clear hb12 hS12 HS11
    go_wp2_with fail
    refine hroom.mono ?_
    clear hroom
    rintro en w13 ⟨rfl, hb13⟩
    have HB13 := Lib.hid (HB12.out.trans (hb13.mono HB12.out.size))
    clear hb13
    go_wp2_with fail
    go_ret
    exact ⟨by simp, HB13.out⟩
  · have hn : ∀ W, Calls Try.prog 10 #[.agg (beginC a b c d e)] W fun en w' => en = .returned (.pointer none) ∧ Below W.heap.size W w' := fun W => snew_bad W _ _ _ _ _ _ _ _ _ _ _ _ hok
    have hr : ∀ W, Calls Try.prog 11 #[.agg (beginC a b c d e)] W fun en w' => en = .returned (.pointer none) ∧ Below W.heap.size W w' := fun W => rnew_bad W _ _ _ _ _ _ _ _ _ _ _ _ hok
    have hn4 := hn w4
    clear hok hn
    go_wp2_with (refine wpList_load_row rfl 39 (.tmp 4) rfl y rfl 39 (beginC a b c d e) (0, 0) _ h4 Try.underlying39 rfl (by as_aux_lemma => kernel_rfl) ?_)
    refine hn4.mono ?_
    clear hn4
    rintro en w5 ⟨rfl, hb5⟩
    have h5 := (hb5.block y (Array.getElem?_eq_some_iff.1 h4).1).trans h4
    have HB5 := Lib.hid (HB4.out.trans (hb5.mono HB4.out.size))
    have hr5 := hr w5
    clear h4 hb5 hr
    go_wp2_with (refine wpList_load_row rfl 39 (.tmp 4) rfl y rfl 39 (beginC a b c d e) (0, 0) _ h5 Try.underlying39 rfl (by as_aux_lemma => kernel_rfl) ?_)
    refine hr5.mono ?_
    clear hr5 h5
    rintro en w6 ⟨rfl, hb6⟩
    have HB6 := Lib.hid (HB5.out.trans (hb6.mono HB5.out.size))
    clear hb6
    go_wp2_with fail
    go_ret
    exact ⟨by simp, HB6.out⟩
end Go.Proofs.Ytbkimebmoafbnaa
