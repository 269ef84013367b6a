/-
  session.New. No conditions.
  A session's Peer, Room, used, has, Handle, Deliver. Conditions: the session lies in memory.
-/
import Derived.Test.YtbkimebmoafbnaaMg02
import Derived.Deep.RegionHeld3
import Derived.MapKept
namespace Go.Proofs.Ytbkimebmoafbnaa
open Go.RowKit Go.Maps Go.MapKept Go.ChangeMaps
set_option linter.unusedVariables false

/-- what lay in w is as it was -/
def BelowS (w W : World) : Prop := Below w.heap.size w W
theorem cell_lt' {w : World} {a : Addr} {v : Value} (h : w.cell? a = some v) : a.block < w.heap.size := World.block_lt_of_cell? w a h
theorem bs_refl (w : World) : BelowS w w := Below.refl _ w
theorem bs_alloc {w W : World} {o : Obj} (h : BelowS w W) : BelowS w (W.alloc o) := Below.alloc h (Below.size h) o
theorem bs_drew {w W : World} (h : BelowS w W) : BelowS w W.drew := ⟨h.os, h.tape, h.output, h.size, h.block⟩
theorem bs_cell {w W : World} (h : BelowS w W) {a : Addr} {v : Value} (hc : w.cell? a = some v) : W.cell? a = some v := (Below.cell h (cell_lt' hc)).trans hc

theorem MapOf.empty {W : World} {m : Nat} (h : W.heap[m]? = some (.map #[] 0)) : MapOf W m [] := ⟨.map [], ⟨#[], 0, h, ⟨by simp, stamped_empty 0, by simp⟩, Nat.le_refl _, rfl⟩, MapIs.nil⟩
theorem alloc_heap (w : World) (o : Obj) : (w.alloc o).heap = w.heap.push o := rfl
theorem drew_heap (w : World) : w.drew.heap = w.heap := rfl

theorem hp_new {W : World} {o : Obj} {i : Nat} (h : i = W.heap.size) : (W.alloc o).heap[i]? = some o := by subst h; exact _root_.Go.heap_alloc_new W o
theorem hp_old {W : World} {o v : Obj} {i : Nat} (h : W.heap[i]? = some v) : (W.alloc o).heap[i]? = some v := (Below.heap_alloc W o i (Array.getElem?_eq_some_iff.1 h).1).trans h
theorem alloc6 (w : World) (o0 o1 o2 o3 o4 o5 : Obj) : (((((w.alloc o0).alloc o1).alloc o2).alloc o3).alloc o4 |>.alloc o5).heap[w.heap.size]? = some o0 ∧ (((((w.alloc o0).alloc o1).alloc o2).alloc o3).alloc o4 |>.alloc o5).heap[w.heap.size + 1]? = some o1 ∧
    (((((w.alloc o0).alloc o1).alloc o2).alloc o3).alloc o4 |>.alloc o5).heap[w.heap.size + 2]? = some o2 ∧ (((((w.alloc o0).alloc o1).alloc o2).alloc o3).alloc o4 |>.alloc o5).heap[w.heap.size + 3]? = some o3 ∧
    (((((w.alloc o0).alloc o1).alloc o2).alloc o3).alloc o4 |>.alloc o5).heap[w.heap.size + 4]? = some o4 ∧ (((((w.alloc o0).alloc o1).alloc o2).alloc o3).alloc o4 |>.alloc o5).heap[w.heap.size + 5]? = some o5 :=
  ⟨hp_old (hp_old (hp_old (hp_old (hp_old (hp_new rfl))))), hp_old (hp_old (hp_old (hp_old (hp_new (by simp))))), hp_old (hp_old (hp_old (hp_new (by simp)))), hp_old (hp_old (hp_new (by simp))), hp_old (hp_new (by simp)), hp_new (by simp)⟩

theorem ses_new {W : World} {K : SK} {k no iw ow hm : Int} (h0 : W.heap[K.b]? = some (.cells ((SS.new no iw ow hm).cells K) 85 (0, 0)))
    (h1 : W.heap[K.tS]? = some (.cells #[.map (some K.mS)] 92 (0, 0))) (h2 : W.heap[K.tA]? = some (.cells #[.map (some K.mA)] 92 (0, 0)))
    (h3 : W.heap[K.mR]? = some (.map #[] 0)) (h4 : W.heap[K.mS]? = some (.map #[] 0)) (h5 : W.heap[K.mA]? = some (.map #[] 0)) (hlo : K.B ≤ K.b ∧ K.B ≤ K.tS ∧ K.B ≤ K.tA ∧ K.B ≤ K.mR ∧ K.B ≤ K.mS ∧ K.B ≤ K.mA)
    (hne : K.tS ≠ K.tA ∧ K.mR ≠ K.mS ∧ K.mR ≠ K.mA ∧ K.mS ≠ K.mA) (hok : BeginOk k no iw ow hm) : SesIn W K (SS.new no iw ow hm) :=
  ⟨h0, h1, h2, MapOf.empty h3, MapOf.empty h4, MapOf.empty h5, by rintro j (rfl | rfl | rfl | rfl | rfl | rfl) <;> omega, hne, SS.new_ok hok.2.1 hok.2.2.1 hok.2.2.2.1 hok.2.2.2.2⟩

theorem snew_bad (w : World) (k re ni iw no ow hm hd ct cr av : Int) (dr : Bool) (h : ¬ BeginOk k no iw ow hm) :
    Calls Try.prog 10 #[.agg (perfC k re ni iw no ow hm hd ct cr av dr)] w fun e w' => e = .returned (.pointer none) ∧ Below w.heap.size w w' := by
  have hbg := fun W => begins_any W k re ni iw no ow hm hd ct cr av dr
  rw [decide_eq_false h] at hbg
  clear h
  obtain ⟨P, hP⟩ : ∃ P, perfC k re ni iw no ow hm hd ct cr av dr = P := ⟨_, rfl⟩
  have hz : P.size = 128 := by rw [← hP]; exact perf_size ..
  rw [hP] at hbg ⊢
  clear hP
  go_enter Try.func10, Try.ntmps10
  go_upto_region 1 with fail
  have hb : Below w.heap.size w (w.alloc (.cells P 39)) := (Below.refl _ _).alloc (Nat.le_refl _) _
  have h0 : (w.alloc (.cells P 39)).heap[w.heap.size]? = some (.cells P 39 (0, 0)) := heap_alloc_new _ _
  generalize (w.alloc (.cells P 39)) = w0 at *
  obtain ⟨x, hx⟩ : ∃ x, w.heap.size = x := ⟨_, rfl⟩
  rw [hx] at h0 ⊢
  have HB := Lib.hid hb
  have hcall := hbg w0
  clear hb hx hbg
  go_wp2_with (refine wpList_load_row rfl 39 (.tmp 1) rfl x rfl 39 P (0, 0) _ h0 Try.underlying39 rfl (by rw [hz]; as_aux_lemma => kernel_rfl) ?_)
  refine hcall.mono ?_
  rintro e w1 ⟨rfl, hb1⟩
  have HB1 := Lib.hid (HB.out.trans (hb1.mono HB.out.size))
  clear hcall hb1 h0
  go_wp2_with fail
  go_ret
  exact ⟨rfl, HB1.out⟩

set_option maxRecDepth 20000 in
set_option maxHeartbeats 4000000 in
theorem snew_ok (w : World) (k re ni iw no ow hm hd ct cr av : Int) (dr : Bool) (h : BeginOk k no iw ow hm) :
    Calls Try.prog 10 #[.agg (perfC k re ni iw no ow hm hd ct cr av dr)] w fun e w' => ∃ K : SK, e = .returned (.pointer (some ⟨K.b, 0, none⟩)) ∧ K.B = w.heap.size ∧ SesIn w' K (SS.new no iw ow hm) ∧ Below w.heap.size w w' := by
  have hbg := fun W => begins_any W k re ni iw no ow hm hd ct cr av dr
  have hmm := @run_makeMap Try.prog
  rw [decide_eq_true h] at hbg
  have HOK := Lib.hid h
  clear h
  obtain ⟨P, hP⟩ : ∃ P, perfC k re ni iw no ow hm hd ct cr av dr = P := ⟨_, rfl⟩
  have hz : P.size = 128 := by rw [← hP]; exact perf_size ..
  rw [hP] at hbg ⊢
  have HP := Lib.hid hP
  clear hP
  go_enter Try.func10, Try.ntmps10
  go_upto_region 1 with fail
  have hb : Below w.heap.size w (w.alloc (.cells P 39)) := (Below.refl _ _).alloc (Nat.le_refl _) _
  have h0 : (w.alloc (.cells P 39)).heap[w.heap.size]? = some (.cells P 39 (0, 0)) := heap_alloc_new _ _
  generalize (w.alloc (.cells P 39)) = w0 at *
  obtain ⟨x, hx⟩ : ∃ x, w.heap.size = x := ⟨_, rfl⟩
  rw [hx] at h0 ⊢
  have HX := Lib.hid hx
  have HB := Lib.hid hb
  have hcall := hbg w0
  clear hb hx hbg
  go_wp2_with (refine wpList_load_row rfl 39 (.tmp 1) rfl x rfl 39 P (0, 0) _ h0 Try.underlying39 rfl (by rw [hz]; as_aux_lemma => kernel_rfl) ?_)
  refine hcall.mono ?_
  rintro e w1 ⟨rfl, hb1⟩
  have hp1 := (hb1.block x (Array.getElem?_eq_some_iff.1 h0).1).trans h0
  rw [← HP.out] at hp1
  obtain ⟨_, _, c13, c14, c15, c16⟩ := perf_cells hp1
  have HB1 := Lib.hid (HB.out.trans (hb1.mono HB.out.size))
  have HP1 := Lib.hid hp1
  have H0 := Lib.hid h0
  clear hcall hb1 h0 hp1
  go_upto_region 4 with fail
  have hb2 : Below w1.heap.size w1 (w1.alloc (.cells #[.bool false, .int .i64 no, .int .i64 ow, .int .i64 0, .int .i64 iw, .int .i64 0, .int .i64 0, .int .i64 0, .int .i64 0, .int .i64 0, .int .i64 hm, .int .i64 0] 63)) := (Below.refl _ _).alloc (Nat.le_refl _) _
  have h2 : (w1.alloc (.cells #[.bool false, .int .i64 no, .int .i64 ow, .int .i64 0, .int .i64 iw, .int .i64 0, .int .i64 0, .int .i64 0, .int .i64 0, .int .i64 0, .int .i64 hm, .int .i64 0] 63)).heap[w1.heap.size]? = some (.cells #[.bool false, .int .i64 no, .int .i64 ow, .int .i64 0, .int .i64 iw, .int .i64 0, .int .i64 0, .int .i64 0, .int .i64 0, .int .i64 0, .int .i64 hm, .int .i64 0] 63 (0, 0)) := heap_alloc_new _ _
  generalize (w1.alloc (.cells #[.bool false, .int .i64 no, .int .i64 ow, .int .i64 0, .int .i64 iw, .int .i64 0, .int .i64 0, .int .i64 0, .int .i64 0, .int .i64 0, .int .i64 hm, .int .i64 0] 63)) = w2 at *
  have HB2 := Lib.hid (HB1.out.trans (hb2.mono HB1.out.size))
  have hx1 := (Array.getElem?_eq_some_iff.1 HP1.out).1
  have hx2 := (hb2.block x hx1).trans HP1.out
  obtain ⟨y, hy⟩ : ∃ y, w1.heap.size = y := ⟨_, rfl⟩
  rw [hy] at h2 ⊢
  clear c13 c14 c15 c16 hb2 hy hx1
  obtain ⟨_, _, _, c14, _, _⟩ := perf_cells hx2
  have y0 : w2.cell? ⟨y, 0, none⟩ = some (.bool false) := (cell_of_row _ _ 0 _ _ _ h2).trans rfl
  have y1 : w2.cell? ⟨y, 1, none⟩ = some (.int .i64 no) := (cell_of_row _ _ 1 _ _ _ h2).trans rfl
  have y2 : w2.cell? ⟨y, 2, none⟩ = some (.int .i64 ow) := (cell_of_row _ _ 2 _ _ _ h2).trans rfl
  have y3 : w2.cell? ⟨y, 3, none⟩ = some (.int .i64 0) := (cell_of_row _ _ 3 _ _ _ h2).trans rfl
  have y4 : w2.cell? ⟨y, 4, none⟩ = some (.int .i64 iw) := (cell_of_row _ _ 4 _ _ _ h2).trans rfl
  have y5 : w2.cell? ⟨y, 5, none⟩ = some (.int .i64 0) := (cell_of_row _ _ 5 _ _ _ h2).trans rfl
  have y6 : w2.cell? ⟨y, 6, none⟩ = some (.int .i64 0) := (cell_of_row _ _ 6 _ _ _ h2).trans rfl
  have y7 : w2.cell? ⟨y, 7, none⟩ = some (.int .i64 0) := (cell_of_row _ _ 7 _ _ _ h2).trans rfl
  have y8 : w2.cell? ⟨y, 8, none⟩ = some (.int .i64 0) := (cell_of_row _ _ 8 _ _ _ h2).trans rfl
  have y9 : w2.cell? ⟨y, 9, none⟩ = some (.int .i64 0) := (cell_of_row _ _ 9 _ _ _ h2).trans rfl
  have y10 : w2.cell? ⟨y, 10, none⟩ = some (.int .i64 hm) := (cell_of_row _ _ 10 _ _ _ h2).trans rfl
  have y11 : w2.cell? ⟨y, 11, none⟩ = some (.int .i64 0) := (cell_of_row _ _ 11 _ _ _ h2).trans rfl
  clear hx2 h2
  go_region_held3 (fun w' => w'.cell? ⟨x, 14, none⟩ = some (.int .i64 no) ∧ w'.cell? ⟨y, 0, none⟩ = some (.bool false) ∧ w'.cell? ⟨y, 1, none⟩ = some (.int .i64 no) ∧ w'.cell? ⟨y, 2, none⟩ = some (.int .i64 ow) ∧ w'.cell? ⟨y, 3, none⟩ = some (.int .i64 0) ∧ w'.cell? ⟨y, 4, none⟩ = some (.int .i64 iw) ∧ w'.cell? ⟨y, 5, none⟩ = some (.int .i64 0) ∧ w'.cell? ⟨y, 6, none⟩ = some (.int .i64 0) ∧ w'.cell? ⟨y, 7, none⟩ = some (.int .i64 0) ∧ w'.cell? ⟨y, 8, none⟩ = some (.int .i64 0) ∧ w'.cell? ⟨y, 9, none⟩ = some (.int .i64 0) ∧ w'.cell? ⟨y, 10, none⟩ = some (.int .i64 hm) ∧ w'.cell? ⟨y, 11, none⟩ = some (.int .i64 0)) (exact (fun hb => ⟨bs_cell hb c14, bs_cell hb y0, bs_cell hb y1, bs_cell hb y2, bs_cell hb y3, bs_cell hb y4, bs_cell hb y5, bs_cell hb y6, bs_cell hb y7, bs_cell hb y8, bs_cell hb y9, bs_cell hb y10, bs_cell hb y11⟩ : BelowS w2 _ → _) (by repeat (first | exact bs_refl _ | apply bs_alloc | apply bs_drew)))
    (first | (go_at_call 33; refine (newTable_any _).mono ?_; rintro e w' ⟨rfl, rfl⟩))
  all_goals
    have hn2 := HB2.out.size
  · go_wp2_with fail
    go_ret
    refine ⟨⟨w2.heap.size + 5, w2.heap.size + 2, w2.heap.size + 4, w2.heap.size, w2.heap.size + 1, w2.heap.size + 3, w.heap.size⟩, by simp, rfl, ses_new (alloc6 w2 _ _ _ _ _ _).2.2.2.2.2 (alloc6 w2 _ _ _ _ _ _).2.2.1 (alloc6 w2 _ _ _ _ _ _).2.2.2.2.1 (alloc6 w2 _ _ _ _ _ _).1 (alloc6 w2 _ _ _ _ _ _).2.1 (alloc6 w2 _ _ _ _ _ _).2.2.2.1 ?_ ?_ HOK.out, ?_⟩
    · show w.heap.size ≤ w2.heap.size + 5 ∧ w.heap.size ≤ w2.heap.size + 2 ∧ w.heap.size ≤ w2.heap.size + 4 ∧ w.heap.size ≤ w2.heap.size ∧ w.heap.size ≤ w2.heap.size + 1 ∧ w.heap.size ≤ w2.heap.size + 3
      omega
    · show w2.heap.size + 2 ≠ w2.heap.size + 4 ∧ w2.heap.size ≠ w2.heap.size + 1 ∧ w2.heap.size ≠ w2.heap.size + 3 ∧ w2.heap.size + 1 ≠ w2.heap.size + 3
      omega
    · exact HB2.out.trans (Below.mono (by repeat (first | exact bs_refl _ | apply bs_alloc | apply bs_drew) : BelowS w2 _) hn2)
  · go_wp2_with fail
    go_ret
    refine ⟨⟨w2.heap.size + 5, w2.heap.size + 1, w2.heap.size + 4, w2.heap.size + 2, w2.heap.size, w2.heap.size + 3, w.heap.size⟩, by simp, rfl, ses_new (alloc6 w2 _ _ _ _ _ _).2.2.2.2.2 (alloc6 w2 _ _ _ _ _ _).2.1 (alloc6 w2 _ _ _ _ _ _).2.2.2.2.1 (alloc6 w2 _ _ _ _ _ _).2.2.1 (alloc6 w2 _ _ _ _ _ _).1 (alloc6 w2 _ _ _ _ _ _).2.2.2.1 ?_ ?_ HOK.out, ?_⟩
    · show w.heap.size ≤ w2.heap.size + 5 ∧ w.heap.size ≤ w2.heap.size + 1 ∧ w.heap.size ≤ w2.heap.size + 4 ∧ w.heap.size ≤ w2.heap.size + 2 ∧ w.heap.size ≤ w2.heap.size ∧ w.heap.size ≤ w2.heap.size + 3
      omega
    · show w2.heap.size + 1 ≠ w2.heap.size + 4 ∧ w2.heap.size + 2 ≠ w2.heap.size ∧ w2.heap.size + 2 ≠ w2.heap.size + 3 ∧ w2.heap.size ≠ w2.heap.size + 3
      omega
    · exact HB2.out.trans (Below.mono (by repeat (first | exact bs_refl _ | apply bs_alloc | apply bs_drew) : BelowS w2 _) hn2)
  · go_wp2_with fail
    go_ret
    refine ⟨⟨w2.heap.size + 5, w2.heap.size + 1, w2.heap.size + 3, w2.heap.size + 4, w2.heap.size, w2.heap.size + 2, w.heap.size⟩, by simp, rfl, ses_new (alloc6 w2 _ _ _ _ _ _).2.2.2.2.2 (alloc6 w2 _ _ _ _ _ _).2.1 (alloc6 w2 _ _ _ _ _ _).2.2.2.1 (alloc6 w2 _ _ _ _ _ _).2.2.2.2.1 (alloc6 w2 _ _ _ _ _ _).1 (alloc6 w2 _ _ _ _ _ _).2.2.1 ?_ ?_ HOK.out, ?_⟩
    · show w.heap.size ≤ w2.heap.size + 5 ∧ w.heap.size ≤ w2.heap.size + 1 ∧ w.heap.size ≤ w2.heap.size + 3 ∧ w.heap.size ≤ w2.heap.size + 4 ∧ w.heap.size ≤ w2.heap.size ∧ w.heap.size ≤ w2.heap.size + 2
      omega
    · show w2.heap.size + 1 ≠ w2.heap.size + 3 ∧ w2.heap.size + 4 ≠ w2.heap.size ∧ w2.heap.size + 4 ≠ w2.heap.size + 2 ∧ w2.heap.size ≠ w2.heap.size + 2
      omega
    · exact HB2.out.trans (Below.mono (by repeat (first | exact bs_refl _ | apply bs_alloc | apply bs_drew) : BelowS w2 _) hn2)
end Go.Proofs.Ytbkimebmoafbnaa

namespace Go.Proofs.Ytbkimebmoafbnaa
open Go.RowKit Go.Maps
set_option linter.unusedVariables false

theorem blk_ne {w : World} {i j : Nat} {o o' : Obj} (h : w.heap[i]? = some o) (h' : w.heap[j]? = some o') (hne : o ≠ o') : i ≠ j := by
  rintro rfl
  rw [h] at h'
  exact hne (Option.some.inj h')

theorem SesIn.bne {w : World} {K : SK} {s : SS} (h : SesIn w K s) : K.tS ≠ K.b ∧ K.tA ≠ K.b ∧ K.mR ≠ K.b ∧ K.mS ≠ K.b ∧ K.mA ≠ K.b := by
  obtain ⟨_, _, h3⟩ := h.rem.obj
  obtain ⟨_, _, h4⟩ := h.snd.obj
  obtain ⟨_, _, h5⟩ := h.arr.obj
  exact ⟨blk_ne h.rowS h.row (by simp), blk_ne h.rowA h.row (by simp), blk_ne h3 h.row (by simp), blk_ne h4 h.row (by simp), blk_ne h5 h.row (by simp)⟩

theorem SesIn.mne {w : World} {K : SK} {s : SS} (h : SesIn w K s) : K.mR ≠ K.tS ∧ K.mR ≠ K.tA ∧ K.mS ≠ K.tS ∧ K.mS ≠ K.tA ∧ K.mA ≠ K.tS ∧ K.mA ≠ K.tA := by
  obtain ⟨_, _, h3⟩ := h.rem.obj
  obtain ⟨_, _, h4⟩ := h.snd.obj
  obtain ⟨_, _, h5⟩ := h.arr.obj
  exact ⟨blk_ne h3 h.rowS (by simp), blk_ne h3 h.rowA (by simp), blk_ne h4 h.rowS (by simp), blk_ne h4 h.rowA (by simp), blk_ne h5 h.rowS (by simp), blk_ne h5 h.rowA (by simp)⟩

/-- its own row turns -/
theorem SesIn.turn {w w' : World} {K : SK} {s s' : SS} (h : SesIn w K s) (hr : w'.heap[K.b]? = some (.cells (s'.cells K) 85 (0, 0))) (e : ∀ j, K.has j → j ≠ K.b → w'.heap[j]? = w.heap[j]?)
    (h1 : s'.rem = s.rem) (h2 : s'.snd = s.snd) (h3 : s'.arr = s.arr) (hok : s'.ok) : SesIn w' K s' := by
  obtain ⟨n1, n2, n3, n4, n5⟩ := h.bne
  exact ⟨hr, (e _ (.inr (.inl rfl)) n1).trans h.rowS, (e _ (.inr (.inr (.inl rfl))) n2).trans h.rowA, by rw [h1]; exact h.rem.same (e _ (.inr (.inr (.inr (.inl rfl)))) n3), by rw [h2]; exact h.snd.same (e _ (.inr (.inr (.inr (.inr (.inl rfl))))) n4), by rw [h3]; exact h.arr.same (e _ (.inr (.inr (.inr (.inr (.inr rfl))))) n5), h.lo, h.ne, hok⟩

/-- the cells of a session -/
theorem SesIn.cs {w : World} {K : SK} {s : SS} (h : SesIn w K s) (i : Nat) (v : Value) (hv : (s.cells K)[i]? = some v) : w.cell? ⟨K.b, i, none⟩ = some v := (cell_of_row _ _ i _ _ _ h.row).trans hv
theorem SesIn.fz {w : World} {K : SK} {s : SS} (h : SesIn w K s) : ∀ i, w.frozen? ⟨K.b, i, none⟩ = false := fun i => by simp [World.frozen?, h.row]

theorem below_drewN {n0 : Nat} {w W : World} (h : Below n0 w W) (n : Nat) : Below n0 w (W.drewN n) := ⟨h.os, h.tape, h.output, h.size, h.block⟩
theorem zero_int (w : World) : (zeroValue 3).run Try.prog w = .ok (.int .i64 0) w := by kernel_rfl
theorem zero_pend (w : World) : (zeroValue 59).run Try.prog w = .ok (Pnd.val ⟨0, 0, ⟨#[]⟩⟩) w := by kernel_rfl

theorem pend_val {l : List Pnd} {i : Int} {v : Value} (h : (i, v) ∈ pend l ∨ (i ∉ keysL (pend l) ∧ v = Pnd.val ⟨0, 0, ⟨#[]⟩⟩)) : ∃ p : Pnd, v = p.val := by
  rcases h with h | ⟨_, h⟩
  · obtain ⟨p, _, hp⟩ := List.mem_map.1 h
    exact ⟨p, (congrArg Prod.snd hp).symm⟩
  · exact ⟨_, h⟩

theorem rems_val {l : List (Int × Int)} {i : Int} {v : Value} (h : (i, v) ∈ rems l ∨ (i ∉ keysL (rems l) ∧ v = .int .i64 0)) : ∃ a : Int, v = .int .i64 a := by
  rcases h with h | ⟨_, h⟩
  · obtain ⟨p, _, hp⟩ := List.mem_map.1 h
    exact ⟨p.2, (congrArg Prod.snd hp).symm⟩
  · exact ⟨_, h⟩

theorem used_any (w : World) (K : SK) (s : SS) (n : Int) (h : SesIn w K s) (hn : IsI64 n) :
    Calls Try.prog 36 #[.pointer (some ⟨K.b, 0, none⟩), .int .i64 n] w fun e w' => e = .returned (.bool (decide (n ∈ keysL (rems s.rem)))) ∧ w' = w := by
  have c13 : w.cell? ⟨K.b, 13, none⟩ = some (.map (some K.mR)) := h.cs 13 _ rfl
  obtain ⟨v, hl, hv⟩ := h.rem.look Try.underlying81 (zero_int w) hn
  obtain ⟨a, rfl⟩ := rems_val hv
  clear h hn hv
  go_enter Try.func36, Try.ntmps36
  go_wp2_with fail
  go_ret
  exact ⟨rfl, rfl⟩

theorem has_any (w : World) (t m : Nat) (l : List Pnd) (n : Int) (ht : w.heap[t]? = some (.cells #[.map (some m)] 92 (0, 0))) (h : MapOf w m (pend l)) (hn : IsI64 n) :
    Calls Try.prog 38 #[.pointer (some ⟨t, 0, none⟩), .int .i64 n] w fun e w' => e = .returned (.bool (decide (n ∈ keysL (pend l)))) ∧ Below w.heap.size w w' := by
  have c0 : w.cell? ⟨t, 0, none⟩ = some (.map (some m)) := (cell_of_row _ _ 0 _ _ _ ht).trans rfl
  obtain ⟨v, hl, hv⟩ := h.look Try.underlying90 (zero_pend w) hn
  obtain ⟨⟨a, b, c⟩, rfl⟩ := pend_val hv
  unfold Pnd.val at hl
  clear h hn hv ht
  go_enter Try.func38, Try.ntmps38
  go_wp2_with fail
  go_ret
  exact ⟨rfl, (Below.refl _ w).alloc (Nat.le_refl _) _⟩

/-- Room -/
def SS.room (s : SS) : Int := if s.peer then min s.ri s.ow else 0

theorem room_any (w : World) (K : SK) (s : SS) (h : SesIn w K s) :
    Calls Try.prog 16 #[.pointer (some ⟨K.b, 0, none⟩)] w fun e w' => e = .returned (.int .i64 s.room) ∧ Below w.heap.size w w' := by
  have c1 : w.cell? ⟨K.b, 1, none⟩ = some (.bool s.peer) := h.cs 1 _ rfl
  have c3 : w.cell? ⟨K.b, 3, none⟩ = some (.int .i64 s.ow) := h.cs 3 _ rfl
  have c6 : w.cell? ⟨K.b, 6, none⟩ = some (.int .i64 s.ri) := h.cs 6 _ rfl
  clear h
  obtain ⟨r, hr⟩ : ∃ r, s.room = r := ⟨_, rfl⟩
  have HR := Lib.hid hr
  rw [hr]
  clear hr
  cases hp : s.peer
  · rw [hp] at c1
    go_enter Try.func16, Try.ntmps16
    go_wp2_with fail
    go_ret
    exact ⟨by rw [← HR.out]; simp [SS.room, hp], Below.refl _ _⟩
  · rw [hp] at c1
    go_enter Try.func16, Try.ntmps16
    go_upto_region 3 with fail
    go_quiet (fail)
    go_wp2_with fail
    all_goals
      go_ret
      exact ⟨by rw [← HR.out]; simp [SS.room, hp]; omega, below_drewN (Below.refl _ _) _⟩

theorem set_far {W : World} {b i j : Nat} {v : Value} (h : j ≠ b) : (W.setCell ⟨b, i, none⟩ v).heap[j]? = W.heap[j]? := heap_setCell_other W ⟨b, i, none⟩ j v h
theorem SMv.cell {K : SK} {w W : World} {a : Addr} {v : Value} (h : SMv K w W) (ha : K.has a.block) : SMv K w (W.setCell a v) :=
  ⟨h.os, h.tape, h.output, Nat.le_trans h.size (by simp [World.setCell]), fun j hj hn => (heap_setCell_other W a j v (fun e => hn (e ▸ ha))).trans (h.block j hj hn)⟩

/-- Peer -/
def SS.withPeer (s : SS) (no iw ow hm : Int) : SS := { s with peer := true, ni := no, ri := min iw 2147483647, ro := ow, rh := hm }

theorem SS.withPeer_ok {s : SS} (h : s.ok) {no iw ow hm : Int} (h1 : Word no) (h2 : Word iw) (h3 : Word ow) (h4 : Word hm) : (s.withPeer no iw ow hm).ok := by
  refine ⟨h.first, h.no, h.ow, h1, h.iw, ?_, h3, h.nd, h.hm, h4⟩
  show 0 ≤ min iw 2147483647 ∧ min iw 2147483647 ≤ 2147483647
  have := h2.1
  omega

set_option maxHeartbeats 4000000 in
theorem peer_ok (w : World) (K : SK) (s : SS) (re ni iw no ow hm hd ct cr av : Int) (dr : Bool) (h : SesIn w K s) (hp : s.peer = false) (hok : BeginOk 17 no iw ow hm) :
    Calls Try.prog 18 #[.pointer (some ⟨K.b, 0, none⟩), .agg (perfC 17 re ni iw no ow hm hd ct cr av dr)] w fun e w' => e = .returned (.int .i64 0) ∧ SesIn w' K (s.withPeer no iw ow hm) ∧ SMv K w w' := by
  have hbg := fun W => begins_any W 17 re ni iw no ow hm hd ct cr av dr
  rw [decide_eq_true hok] at hbg
  have HOK := Lib.hid hok
  have H := Lib.hid h
  have hblt := h.lt _ (.inl rfl)
  have c1 : w.cell? ⟨K.b, 1, none⟩ = some (.bool s.peer) := h.cs 1 _ rfl
  rw [hp] at c1
  clear h hok
  obtain ⟨P, hP⟩ : ∃ P, perfC 17 re ni iw no ow hm hd ct cr av dr = P := ⟨_, rfl⟩
  have hz : P.size = 128 := by rw [← hP]; exact perf_size ..
  rw [hP] at hbg ⊢
  have HP := Lib.hid hP
  have HPE := Lib.hid hp
  clear hP hp
  go_enter Try.func18, Try.ntmps18
  go_upto_region 1 with fail
  have hb : Below w.heap.size w (w.alloc (.cells P 39)) := (Below.refl _ _).alloc (Nat.le_refl _) _
  have h0 : (w.alloc (.cells P 39)).heap[w.heap.size]? = some (.cells P 39 (0, 0)) := heap_alloc_new _ _
  generalize (w.alloc (.cells P 39)) = w0 at *
  have c1 := (hb.cell (p := ⟨K.b, 1, none⟩) hblt).trans c1
  obtain ⟨x, hx⟩ : ∃ x, w.heap.size = x := ⟨_, rfl⟩
  have hxb : x ≠ K.b := by omega
  rw [hx] at h0 ⊢
  have HX := Lib.hid (And.intro hx hxb)
  have HB := Lib.hid hb
  have hcall := hbg w0
  clear hb hx hbg hxb hblt
  go_wp2_with (refine wpList_load_row rfl 39 (.tmp 3) rfl x rfl 39 P (0, 0) _ h0 Try.underlying39 rfl (by rw [hz]; as_aux_lemma => kernel_rfl) ?_)
  refine hcall.mono ?_
  rintro e w1 ⟨rfl, hb1⟩
  have hp1 := (hb1.block x (Array.getElem?_eq_some_iff.1 h0).1).trans h0
  rw [← HP.out] at hp1
  obtain ⟨_, _, c13, c14, c15, c16⟩ := perf_cells hp1
  have hbw := HB.out.trans (hb1.mono HB.out.size)
  have h1 := H.out.below hbw
  have HB1 := Lib.hid hbw
  have H1 := Lib.hid h1
  have fz := h1.fz
  have b1 : w1.cell? ⟨K.b, 1, none⟩ = some (.bool s.peer) := h1.cs 1 _ rfl
  have b4 : w1.cell? ⟨K.b, 4, none⟩ = some (.int .i64 s.ni) := h1.cs 4 _ rfl
  have b6 : w1.cell? ⟨K.b, 6, none⟩ = some (.int .i64 s.ri) := h1.cs 6 _ rfl
  have b7 : w1.cell? ⟨K.b, 7, none⟩ = some (.int .i64 s.ro) := h1.cs 7 _ rfl
  have b12 : w1.cell? ⟨K.b, 12, none⟩ = some (.int .i64 s.rh) := h1.cs 12 _ rfl
  have hxb : x ≠ K.b := HX.out.2
  have hbx : K.b ≠ x := fun e => hxb e.symm
  clear hcall hb1 h0 hp1 c1 hbw h1 H HB
  go_wp2_with fail
  all_goals
    go_ret
    refine ⟨rfl, H1.out.turn ?_ ?_ rfl rfl rfl (SS.withPeer_ok H1.out.ok HOK.out.2.1 HOK.out.2.2.1 HOK.out.2.2.2.1 HOK.out.2.2.2.2), (((((SMv.of_below (K := K) (HB1.out)).cell (.inl rfl)).cell (.inl rfl)).cell (.inl rfl)).cell (.inl rfl)).cell (.inl rfl)⟩
    · rw [heap_setCell_same _ K.b 12 _ _ _ (heap_setCell_same _ K.b 7 _ _ _ (heap_setCell_same _ K.b 6 _ _ _ (heap_setCell_same _ K.b 4 _ _ _ (heap_setCell_same _ K.b 1 _ _ _ H1.out.row))))]
      simp [SS.cells, SS.withPeer]
      omega
    · intro j hj hne
      rw [set_far hne, set_far hne, set_far hne, set_far hne, set_far hne]

/-! ### the least free handle -/
theorem pig : ∀ (k : Nat) (l : List Int), (∀ j : Nat, j < k → (j : Int) ∈ l) → k ≤ l.length := by
  intro k
  induction k with
  | zero => intro l _; omega
  | succ k ih =>
    intro l h
    have hk := h k (Nat.lt_succ_self k)
    have h1 := ih (l.erase (k : Int)) (fun j hj => (List.mem_erase_of_ne (by omega)).2 (h j (by omega)))
    rw [List.length_erase_of_mem hk] at h1
    have : 0 < l.length := List.length_pos_of_mem hk
    omega

/-- the handles below k are in use, k is not -/
def Least (l : List (Int × Int)) (k : Nat) : Prop := (∀ j : Nat, j < k → (j : Int) ∈ l.map Prod.fst) ∧ (k : Int) ∉ l.map Prod.fst
theorem least_le {l : List (Int × Int)} {k : Nat} (h : ∀ j : Nat, j < k → (j : Int) ∈ l.map Prod.fst) : k ≤ l.length := by
  have := pig k _ h
  simpa using this
theorem least_of {p : Nat → Prop} : ∀ (k : Nat), p k → ∃ j, p j ∧ ∀ i, i < j → ¬ p i := by
  intro k
  induction k using Nat.strongRecOn with
  | ind k ih =>
    intro hk
    by_cases h : ∃ j, j < k ∧ p j
    · obtain ⟨j, h1, h2⟩ := h
      exact ih j h1 h2
    · exact ⟨k, hk, fun i hi hp => h ⟨i, hi, hp⟩⟩
theorem least_ex (l : List (Int × Int)) : ∃ k, Least l k := by
  by_cases h : ∃ k : Nat, (k : Int) ∉ l.map Prod.fst
  · obtain ⟨k, hk⟩ := h
    obtain ⟨j, h1, h2⟩ := least_of (p := fun k : Nat => (k : Int) ∉ l.map Prod.fst) k hk
    exact ⟨j, fun i hi => Classical.not_not.1 (h2 i hi), h1⟩
  · have := pig (l.length + 1) (l.map Prod.fst) (fun j _ => Classical.not_not.1 (fun hn => h ⟨j, hn⟩))
    simp at this
    omega
theorem least_one {l : List (Int × Int)} {j k : Nat} (h : Least l j) (h' : Least l k) : j = k := by
  rcases Nat.lt_trichotomy j k with hlt | rfl | hgt
  · exact absurd (h'.1 j hlt) h.2
  · rfl
  · exact absurd (h.1 k hgt) h'.2
theorem keys_rems (l : List (Int × Int)) : keysL (rems l) = l.map Prod.fst := by
  unfold keysL rems
  rw [List.map_map]
  rfl
theorem keys_pend (l : List Pnd) : keysL (pend l) = l.map Pnd.id := by
  unfold keysL pend
  rw [List.map_map]
  rfl

/-- a handle more -/
def SS.addH (s : SS) (k : Int) : SS := { s with rem := s.rem ++ [(k, -1)] }
theorem SS.addH_ok {s : SS} (h : s.ok) (k : Int) : (s.addH k).ok := ⟨h.first, h.no, h.ow, h.ni, h.iw, h.ri, h.ro, h.nd, h.hm, h.rh⟩

theorem hand_state (w : World) (K : SK) (s : SS) (h : SesIn w K s) (hp : s.peer = false) :
    Calls Try.prog 19 #[.pointer (some ⟨K.b, 0, none⟩)] w fun e w' => e = .returned (.tuple #[.int .i64 0, .int .i64 4]) ∧ w' = w := by
  have c1 : w.cell? ⟨K.b, 1, none⟩ = some (.bool s.peer) := h.cs 1 _ rfl
  rw [hp] at c1
  clear h hp
  go_enter Try.func19, Try.ntmps19
  go_wp2_with fail
  go_ret2
  exact ⟨rfl, rfl⟩

/-- the map of the handles turns -/
theorem SesIn.turnR {w w' : World} {K : SK} {s s' : SS} (h : SesIn w K s) (hm : MapOf w' K.mR (rems s'.rem)) (hg : w.grownBy w' (some K.mR)) (hc : s'.cells K = s.cells K) (h2 : s'.snd = s.snd) (h3 : s'.arr = s.arr) (hok : s'.ok) : SesIn w' K s' := by
  obtain ⟨n1, n2, n3, n4, n5⟩ := h.bne
  obtain ⟨m1, m2, _⟩ := h.mne
  have e : ∀ j, K.has j → j ≠ K.mR → w'.heap[j]? = w.heap[j]? := fun j hj hn => hg.block j (h.lt j hj) (fun e => hn (Option.some.inj e))
  exact ⟨by rw [hc]; exact (e _ (.inl rfl) (fun q => n3 q.symm)).trans h.row, (e _ (.inr (.inl rfl)) (fun q => m1 q.symm)).trans h.rowS, (e _ (.inr (.inr (.inl rfl))) (fun q => m2 q.symm)).trans h.rowA, hm, by rw [h2]; exact h.snd.same (e _ (.inr (.inr (.inr (.inr (.inl rfl))))) (fun q => h.ne.2.1 q.symm)), by rw [h3]; exact h.arr.same (e _ (.inr (.inr (.inr (.inr (.inr rfl))))) (fun q => h.ne.2.2.1 q.symm)), h.lo, h.ne, hok⟩

set_option maxRecDepth 20000 in
set_option maxHeartbeats 4000000 in
theorem hand_any (w : World) (K : SK) (s : SS) (k : Nat) (h : SesIn w K s) (hp : s.peer = true) (hk : Least s.rem k) (hl : s.rem.length ≤ 64) :
    Calls Try.prog 19 #[.pointer (some ⟨K.b, 0, none⟩)] w fun e w' =>
      if 64 ≤ s.rem.length ∨ s.rh < k then e = .returned (.tuple #[.int .i64 0, .int .i64 132]) ∧ w' = w
      else e = .returned (.tuple #[.int .i64 k, .int .i64 0]) ∧ SesIn w' K (s.addH k) ∧ SMv K w w' := by
  have c1 : w.cell? ⟨K.b, 1, none⟩ = some (.bool s.peer) := h.cs 1 _ rfl
  have c12 : w.cell? ⟨K.b, 12, none⟩ = some (.int .i64 s.rh) := h.cs 12 _ rfl
  have c13 : w.cell? ⟨K.b, 13, none⟩ = some (.map (some K.mR)) := h.cs 13 _ rfl
  have hlen := h.rem.len Try.underlying81 3
  have hll : (rems s.rem).length = s.rem.length := by simp [rems]
  rw [hll] at hlen
  rw [hp] at c1
  have hkl := least_le hk.1
  have H := Lib.hid h
  have HK := Lib.hid hk
  have HL := Lib.hid hl
  clear h hp hk hll hl
  go_enter Try.func19, Try.ntmps19
  go_wp2_with fail
  go_loopw [4] (fun v wr => ∃ j : Nat, j ≤ k ∧ v = .int .i64 j ∧ wr = w) (fun v _ => k - (intOf v).toNat)
  case atStart => exact ⟨0, Nat.zero_le _, rfl, rfl⟩
  case round =>
    obtain ⟨j, hj, rfl, rfl⟩ := hrel
    have hcall := used_any wr K s j H.out (by constructor <;> (have := HL.out; omega))
    rw [keys_rems] at hcall
    have hj64 : (j : Int) < 65 := by have := HL.out; omega
    by_cases hjk : j < k
    · rw [decide_eq_true (HK.out.1 j hjk)] at hcall
      have HJ := Lib.hid hjk
      clear hjk
      go_wp2_with fail
      refine hcall.mono ?_
      clear hcall
      rintro e w2 ⟨rfl, rfl⟩
      go_wp2_with fail
      go_roundw
      case rel => exact ⟨j + 1, HJ.out, by go_num, by first | rfl | trivial⟩
      case measure => have := HJ.out; simp [intOf]; omega
    · obtain rfl : j = k := by omega
      rw [decide_eq_false HK.out.2] at hcall
      clear hjk hj
      go_wp2_with fail
      refine hcall.mono ?_
      clear hcall
      rintro e w2 ⟨rfl, rfl⟩
      by_cases h64 : 64 ≤ s.rem.length
      · have i64' : (64 : Int) ≤ s.rem.length := by omega
        go_wp2_with fail
        go_ret2
        first | exact ⟨rfl, rfl⟩ | (rw [if_pos (.inl h64)]; exact ⟨rfl, rfl⟩)
      · have i64' : ¬ (64 : Int) ≤ s.rem.length := by omega
        by_cases hr : s.rh < j
        · go_wp2_with fail
          go_ret2
          first | exact ⟨rfl, rfl⟩ | (rw [if_pos (.inr hr)]; exact ⟨rfl, rfl⟩)
        · obtain ⟨w3, hu, hm3, hg3⟩ := H.out.rem.put Try.underlying81 (i := j) (by constructor <;> (have := HL.out; omega)) (by rw [keys_rems]; exact HK.out.2) (by have := HL.out; simp only [rems, List.length_map]; unfold maxLen; omega) (.int .i64 (-1))
          go_wp2_with fail
          go_ret2
          try rw [if_neg (by omega)]
          refine ⟨rfl, H.out.turnR (by simpa [rems, SS.addH] using hm3) hg3 rfl rfl rfl (SS.addH_ok H.out.ok _), SMv.of_grown hg3 (.inr (.inr (.inr (.inl rfl))))⟩
end Go.Proofs.Ytbkimebmoafbnaa
