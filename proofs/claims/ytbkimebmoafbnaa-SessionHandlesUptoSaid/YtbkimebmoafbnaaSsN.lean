/-
  session.New. No conditions.
-/
import Derived.Test.YtbkimebmoafbnaaSsS
import Derived.Deep.RegionHeld3
import Derived.MapKept
namespace Go.Proofs.Ytbkimebmoafbnaa
open Go.RowKit Go.Maps Go.MapKept Go.ChangeMaps
set_option linter.unusedVariables false

/-- what lay in w is as it was -/
def BelowS (w W : World) : Prop := Below w.heap.size w W
theorem cell_lt' {w : World} {a : Addr} {v : Value} (h : w.cell? a = some v) : a.block < w.heap.size := World.block_lt_of_cell? w a h
theorem bs_refl (w : World) : BelowS w w := Below.refl _ w
theorem bs_alloc {w W : World} {o : Obj} (h : BelowS w W) : BelowS w (W.alloc o) := Below.alloc h (Below.size h) o
theorem bs_drew {w W : World} (h : BelowS w W) : BelowS w W.drew := ⟨h.os, h.tape, h.output, h.size, h.block⟩
theorem bs_cell {w W : World} (h : BelowS w W) {a : Addr} {v : Value} (hc : w.cell? a = some v) : W.cell? a = some v := (Below.cell h (cell_lt' hc)).trans hc

theorem MapOf.empty {W : World} {m : Nat} (h : W.heap[m]? = some (.map #[] 0)) : MapOf W m [] := ⟨.map [], ⟨#[], 0, h, ⟨by simp, stamped_empty 0, by simp⟩, Nat.le_refl _, rfl⟩, MapIs.nil⟩
theorem alloc_heap (w : World) (o : Obj) : (w.alloc o).heap = w.heap.push o := rfl
theorem drew_heap (w : World) : w.drew.heap = w.heap := rfl

theorem hp_new {W : World} {o : Obj} {i : Nat} (h : i = W.heap.size) : (W.alloc o).heap[i]? = some o := by subst h; exact _root_.Go.heap_alloc_new W o
theorem hp_old {W : World} {o v : Obj} {i : Nat} (h : W.heap[i]? = some v) : (W.alloc o).heap[i]? = some v := (Below.heap_alloc W o i (Array.getElem?_eq_some_iff.1 h).1).trans h
theorem alloc6 (w : World) (o0 o1 o2 o3 o4 o5 : Obj) : (((((w.alloc o0).alloc o1).alloc o2).alloc o3).alloc o4 |>.alloc o5).heap[w.heap.size]? = some o0 ∧ (((((w.alloc o0).alloc o1).alloc o2).alloc o3).alloc o4 |>.alloc o5).heap[w.heap.size + 1]? = some o1 ∧
    (((((w.alloc o0).alloc o1).alloc o2).alloc o3).alloc o4 |>.alloc o5).heap[w.heap.size + 2]? = some o2 ∧ (((((w.alloc o0).alloc o1).alloc o2).alloc o3).alloc o4 |>.alloc o5).heap[w.heap.size + 3]? = some o3 ∧
    (((((w.alloc o0).alloc o1).alloc o2).alloc o3).alloc o4 |>.alloc o5).heap[w.heap.size + 4]? = some o4 ∧ (((((w.alloc o0).alloc o1).alloc o2).alloc o3).alloc o4 |>.alloc o5).heap[w.heap.size + 5]? = some o5 :=
  ⟨hp_old (hp_old (hp_old (hp_old (hp_old (hp_new rfl))))), hp_old (hp_old (hp_old (hp_old (hp_new (by simp))))), hp_old (hp_old (hp_old (hp_new (by simp)))), hp_old (hp_old (hp_new (by simp))), hp_old (hp_new (by simp)), hp_new (by simp)⟩

theorem ses_new {W : World} {K : SK} {k no iw ow hm : Int} (h0 : W.heap[K.b]? = some (.cells ((SS.new no iw ow hm).cells K) 85 (0, 0)))
    (h1 : W.heap[K.tS]? = some (.cells #[.map (some K.mS)] 92 (0, 0))) (h2 : W.heap[K.tA]? = some (.cells #[.map (some K.mA)] 92 (0, 0)))
    (h3 : W.heap[K.mR]? = some (.map #[] 0)) (h4 : W.heap[K.mS]? = some (.map #[] 0)) (h5 : W.heap[K.mA]? = some (.map #[] 0)) (hlo : K.B ≤ K.b ∧ K.B ≤ K.tS ∧ K.B ≤ K.tA ∧ K.B ≤ K.mR ∧ K.B ≤ K.mS ∧ K.B ≤ K.mA)
    (hne : K.tS ≠ K.tA ∧ K.mR ≠ K.mS ∧ K.mR ≠ K.mA ∧ K.mS ≠ K.mA) (hok : BeginOk k no iw ow hm) : SesIn W K (SS.new no iw ow hm) :=
  ⟨h0, h1, h2, MapOf.empty h3, MapOf.empty h4, MapOf.empty h5, by rintro j (rfl | rfl | rfl | rfl | rfl | rfl) <;> omega, hne, SS.new_ok hok.2.1 hok.2.2.1 hok.2.2.2.1 hok.2.2.2.2⟩

theorem snew_bad (w : World) (k re ni iw no ow hm hd ct cr av : Int) (dr : Bool) (h : ¬ BeginOk k no iw ow hm) :
    Calls Try.prog 10 #[.agg (perfC k re ni iw no ow hm hd ct cr av dr)] w fun e w' => e = .returned (.pointer none) ∧ Below w.heap.size w w' := by
  have hbg := fun W => begins_any W k re ni iw no ow hm hd ct cr av dr
  rw [decide_eq_false h] at hbg
  clear h
  obtain ⟨P, hP⟩ : ∃ P, perfC k re ni iw no ow hm hd ct cr av dr = P := ⟨_, rfl⟩
  have hz : P.size = 128 := by rw [← hP]; exact perf_size ..
  rw [hP] at hbg ⊢
  clear hP
  go_enter Try.func10, Try.ntmps10
  go_upto_region 1 with fail
  have hb : Below w.heap.size w (w.alloc (.cells P 39)) := (Below.refl _ _).alloc (Nat.le_refl _) _
  have h0 : (w.alloc (.cells P 39)).heap[w.heap.size]? = some (.cells P 39 (0, 0)) := heap_alloc_new _ _
  generalize (w.alloc (.cells P 39)) = w0 at *
  obtain ⟨x, hx⟩ : ∃ x, w.heap.size = x := ⟨_, rfl⟩
  rw [hx] at h0 ⊢
  have HB := Lib.hid hb
  have hcall := hbg w0
  clear hb hx hbg
  go_wp2_with (refine wpList_load_row rfl 39 (.tmp 1) rfl x rfl 39 P (0, 0) _ h0 Try.underlying39 rfl (by rw [hz]; as_aux_lemma => kernel_rfl) ?_)
  refine hcall.mono ?_
  rintro e w1 ⟨rfl, hb1⟩
  have HB1 := Lib.hid (HB.out.trans (hb1.mono HB.out.size))
  clear hcall hb1 h0
  go_wp2_with fail
  go_ret
  exact ⟨rfl, HB1.out⟩

set_option maxRecDepth 20000 in
set_option maxHeartbeats 4000000 in
theorem snew_ok (w : World) (k re ni iw no ow hm hd ct cr av : Int) (dr : Bool) (h : BeginOk k no iw ow hm) :
    Calls Try.prog 10 #[.agg (perfC k re ni iw no ow hm hd ct cr av dr)] w fun e w' => ∃ K : SK, e = .returned (.pointer (some ⟨K.b, 0, none⟩)) ∧ K.B = w.heap.size ∧ SesIn w' K (SS.new no iw ow hm) ∧ Below w.heap.size w w' := by
  have hbg := fun W => begins_any W k re ni iw no ow hm hd ct cr av dr
  have hmm := @run_makeMap Try.prog
  rw [decide_eq_true h] at hbg
  have HOK := Lib.hid h
  clear h
  obtain ⟨P, hP⟩ : ∃ P, perfC k re ni iw no ow hm hd ct cr av dr = P := ⟨_, rfl⟩
  have hz : P.size = 128 := by rw [← hP]; exact perf_size ..
  rw [hP] at hbg ⊢
  have HP := Lib.hid hP
  clear hP
  go_enter Try.func10, Try.ntmps10
  go_upto_region 1 with fail
  have hb : Below w.heap.size w (w.alloc (.cells P 39)) := (Below.refl _ _).alloc (Nat.le_refl _) _
  have h0 : (w.alloc (.cells P 39)).heap[w.heap.size]? = some (.cells P 39 (0, 0)) := heap_alloc_new _ _
  generalize (w.alloc (.cells P 39)) = w0 at *
  obtain ⟨x, hx⟩ : ∃ x, w.heap.size = x := ⟨_, rfl⟩
  rw [hx] at h0 ⊢
  have HX := Lib.hid hx
  have HB := Lib.hid hb
  have hcall := hbg w0
  clear hb hx hbg
  go_wp2_with (refine wpList_load_row rfl 39 (.tmp 1) rfl x rfl 39 P (0, 0) _ h0 Try.underlying39 rfl (by rw [hz]; as_aux_lemma => kernel_rfl) ?_)
  refine hcall.mono ?_
  rintro e w1 ⟨rfl, hb1⟩
  have hp1 := (hb1.block x (Array.getElem?_eq_some_iff.1 h0).1).trans h0
  rw [← HP.out] at hp1
  obtain ⟨_, _, c13, c14, c15, c16⟩ := perf_cells hp1
  have HB1 := Lib.hid (HB.out.trans (hb1.mono HB.out.size))
  have HP1 := Lib.hid hp1
  have H0 := Lib.hid h0
  clear hcall hb1 h0 hp1
  go_upto_region 4 with fail
  have hb2 : Below w1.heap.size w1 (w1.alloc (.cells #[.bool false, .int .i64 no, .int .i64 ow, .int .i64 0, .int .i64 iw, .int .i64 0, .int .i64 0, .int .i64 0, .int .i64 0, .int .i64 0, .int .i64 hm, .int .i64 0] 63)) := (Below.refl _ _).alloc (Nat.le_refl _) _
  have h2 : (w1.alloc (.cells #[.bool false, .int .i64 no, .int .i64 ow, .int .i64 0, .int .i64 iw, .int .i64 0, .int .i64 0, .int .i64 0, .int .i64 0, .int .i64 0, .int .i64 hm, .int .i64 0] 63)).heap[w1.heap.size]? = some (.cells #[.bool false, .int .i64 no, .int .i64 ow, .int .i64 0, .int .i64 iw, .int .i64 0, .int .i64 0, .int .i64 0, .int .i64 0, .int .i64 0, .int .i64 hm, .int .i64 0] 63 (0, 0)) := heap_alloc_new _ _
  generalize (w1.alloc (.cells #[.bool false, .int .i64 no, .int .i64 ow, .int .i64 0, .int .i64 iw, .int .i64 0, .int .i64 0, .int .i64 0, .int .i64 0, .int .i64 0, .int .i64 hm, .int .i64 0] 63)) = w2 at *
  have HB2 := Lib.hid (HB1.out.trans (hb2.mono HB1.out.size))
  have hx1 := (Array.getElem?_eq_some_iff.1 HP1.out).1
  have hx2 := (hb2.block x hx1).trans HP1.out
  obtain ⟨y, hy⟩ : ∃ y, w1.heap.size = y := ⟨_, rfl⟩
  rw [hy] at h2 ⊢
  clear c13 c14 c15 c16 hb2 hy hx1
  obtain ⟨_, _, _, c14, _, _⟩ := perf_cells hx2
  have y0 : w2.cell? ⟨y, 0, none⟩ = some (.bool false) := (cell_of_row _ _ 0 _ _ _ h2).trans rfl
  have y1 : w2.cell? ⟨y, 1, none⟩ = some (.int .i64 no) := (cell_of_row _ _ 1 _ _ _ h2).trans rfl
  have y2 : w2.cell? ⟨y, 2, none⟩ = some (.int .i64 ow) := (cell_of_row _ _ 2 _ _ _ h2).trans rfl
  have y3 : w2.cell? ⟨y, 3, none⟩ = some (.int .i64 0) := (cell_of_row _ _ 3 _ _ _ h2).trans rfl
  have y4 : w2.cell? ⟨y, 4, none⟩ = some (.int .i64 iw) := (cell_of_row _ _ 4 _ _ _ h2).trans rfl
  have y5 : w2.cell? ⟨y, 5, none⟩ = some (.int .i64 0) := (cell_of_row _ _ 5 _ _ _ h2).trans rfl
  have y6 : w2.cell? ⟨y, 6, none⟩ = some (.int .i64 0) := (cell_of_row _ _ 6 _ _ _ h2).trans rfl
  have y7 : w2.cell? ⟨y, 7, none⟩ = some (.int .i64 0) := (cell_of_row _ _ 7 _ _ _ h2).trans rfl
  have y8 : w2.cell? ⟨y, 8, none⟩ = some (.int .i64 0) := (cell_of_row _ _ 8 _ _ _ h2).trans rfl
  have y9 : w2.cell? ⟨y, 9, none⟩ = some (.int .i64 0) := (cell_of_row _ _ 9 _ _ _ h2).trans rfl
  have y10 : w2.cell? ⟨y, 10, none⟩ = some (.int .i64 hm) := (cell_of_row _ _ 10 _ _ _ h2).trans rfl
  have y11 : w2.cell? ⟨y, 11, none⟩ = some (.int .i64 0) := (cell_of_row _ _ 11 _ _ _ h2).trans rfl
  clear hx2 h2
  go_region_held3 (fun w' => w'.cell? ⟨x, 14, none⟩ = some (.int .i64 no) ∧ w'.cell? ⟨y, 0, none⟩ = some (.bool false) ∧ w'.cell? ⟨y, 1, none⟩ = some (.int .i64 no) ∧ w'.cell? ⟨y, 2, none⟩ = some (.int .i64 ow) ∧ w'.cell? ⟨y, 3, none⟩ = some (.int .i64 0) ∧ w'.cell? ⟨y, 4, none⟩ = some (.int .i64 iw) ∧ w'.cell? ⟨y, 5, none⟩ = some (.int .i64 0) ∧ w'.cell? ⟨y, 6, none⟩ = some (.int .i64 0) ∧ w'.cell? ⟨y, 7, none⟩ = some (.int .i64 0) ∧ w'.cell? ⟨y, 8, none⟩ = some (.int .i64 0) ∧ w'.cell? ⟨y, 9, none⟩ = some (.int .i64 0) ∧ w'.cell? ⟨y, 10, none⟩ = some (.int .i64 hm) ∧ w'.cell? ⟨y, 11, none⟩ = some (.int .i64 0)) (exact (fun hb => ⟨bs_cell hb c14, bs_cell hb y0, bs_cell hb y1, bs_cell hb y2, bs_cell hb y3, bs_cell hb y4, bs_cell hb y5, bs_cell hb y6, bs_cell hb y7, bs_cell hb y8, bs_cell hb y9, bs_cell hb y10, bs_cell hb y11⟩ : BelowS w2 _ → _) (by repeat (first | exact bs_refl _ | apply bs_alloc | apply bs_drew)))
    (first | (go_at_call 33; refine (newTable_any _).mono ?_; rintro e w' ⟨rfl, rfl⟩))
  all_goals
    have hn2 := HB2.out.size
  · go_wp2_with fail
    go_ret
    refine ⟨⟨w2.heap.size + 5, w2.heap.size + 2, w2.heap.size + 4, w2.heap.size, w2.heap.size + 1, w2.heap.size + 3, w.heap.size⟩, by simp, rfl, ses_new (alloc6 w2 _ _ _ _ _ _).2.2.2.2.2 (alloc6 w2 _ _ _ _ _ _).2.2.1 (alloc6 w2 _ _ _ _ _ _).2.2.2.2.1 (alloc6 w2 _ _ _ _ _ _).1 (alloc6 w2 _ _ _ _ _ _).2.1 (alloc6 w2 _ _ _ _ _ _).2.2.2.1 ?_ ?_ HOK.out, ?_⟩
    · show w.heap.size ≤ w2.heap.size + 5 ∧ w.heap.size ≤ w2.heap.size + 2 ∧ w.heap.size ≤ w2.heap.size + 4 ∧ w.heap.size ≤ w2.heap.size ∧ w.heap.size ≤ w2.heap.size + 1 ∧ w.heap.size ≤ w2.heap.size + 3
      omega
    · show w2.heap.size + 2 ≠ w2.heap.size + 4 ∧ w2.heap.size ≠ w2.heap.size + 1 ∧ w2.heap.size ≠ w2.heap.size + 3 ∧ w2.heap.size + 1 ≠ w2.heap.size + 3
      omega
    · exact HB2.out.trans (Below.mono (by repeat (first | exact bs_refl _ | apply bs_alloc | apply bs_drew) : BelowS w2 _) hn2)
  · go_wp2_with fail
    go_ret
    refine ⟨⟨w2.heap.size + 5, w2.heap.size + 1, w2.heap.size + 4, w2.heap.size + 2, w2.heap.size, w2.heap.size + 3, w.heap.size⟩, by simp, rfl, ses_new (alloc6 w2 _ _ _ _ _ _).2.2.2.2.2 (alloc6 w2 _ _ _ _ _ _).2.1 (alloc6 w2 _ _ _ _ _ _).2.2.2.2.1 (alloc6 w2 _ _ _ _ _ _).2.2.1 (alloc6 w2 _ _ _ _ _ _).1 (alloc6 w2 _ _ _ _ _ _).2.2.2.1 ?_ ?_ HOK.out, ?_⟩
    · show w.heap.size ≤ w2.heap.size + 5 ∧ w.heap.size ≤ w2.heap.size + 1 ∧ w.heap.size ≤ w2.heap.size + 4 ∧ w.heap.size ≤ w2.heap.size + 2 ∧ w.heap.size ≤ w2.heap.size ∧ w.heap.size ≤ w2.heap.size + 3
      omega
    · show w2.heap.size + 1 ≠ w2.heap.size + 4 ∧ w2.heap.size + 2 ≠ w2.heap.size ∧ w2.heap.size + 2 ≠ w2.heap.size + 3 ∧ w2.heap.size ≠ w2.heap.size + 3
      omega
    · exact HB2.out.trans (Below.mono (by repeat (first | exact bs_refl _ | apply bs_alloc | apply bs_drew) : BelowS w2 _) hn2)
  · go_wp2_with fail
    go_ret
    refine ⟨⟨w2.heap.size + 5, w2.heap.size + 1, w2.heap.size + 3, w2.heap.size + 4, w2.heap.size, w2.heap.size + 2, w.heap.size⟩, by simp, rfl, ses_new (alloc6 w2 _ _ _ _ _ _).2.2.2.2.2 (alloc6 w2 _ _ _ _ _ _).2.1 (alloc6 w2 _ _ _ _ _ _).2.2.2.1 (alloc6 w2 _ _ _ _ _ _).2.2.2.2.1 (alloc6 w2 _ _ _ _ _ _).1 (alloc6 w2 _ _ _ _ _ _).2.2.1 ?_ ?_ HOK.out, ?_⟩
    · show w.heap.size ≤ w2.heap.size + 5 ∧ w.heap.size ≤ w2.heap.size + 1 ∧ w.heap.size ≤ w2.heap.size + 3 ∧ w.heap.size ≤ w2.heap.size + 4 ∧ w.heap.size ≤ w2.heap.size ∧ w.heap.size ≤ w2.heap.size + 2
      omega
    · show w2.heap.size + 1 ≠ w2.heap.size + 3 ∧ w2.heap.size + 4 ≠ w2.heap.size ∧ w2.heap.size + 4 ≠ w2.heap.size + 2 ∧ w2.heap.size ≠ w2.heap.size + 2
      omega
    · exact HB2.out.trans (Below.mono (by repeat (first | exact bs_refl _ | apply bs_alloc | apply bs_drew) : BelowS w2 _) hn2)
end Go.Proofs.Ytbkimebmoafbnaa
