/-
  A session's Fields, the reference's. Conditions: the session lies in memory.
  sameState, sameFlow of what both sessions answer alike. Conditions: both lie in memory.
-/
import Derived.Test.YtbkimebmoafbnaaMg06
import Derived.Deep.RegionHeld3
import Derived.Test.YtbkimebmoafbnaaMg07
import Derived.Laws.StructEq
namespace Go.Proofs.Ytbkimebmoafbnaa
open Go.RowKit Go.Maps
set_option linter.unusedVariables false

/-- Fields ahead of the peer's Begin -/
def SS.fields0 (s : SS) : Array Value := perfC 19 0 (-1) s.iw s.no s.ow 0 (-1) (-1) (-1) (-1) false
/-- Fields -/
def SS.fields (s : SS) : Array Value := perfC 19 0 (if s.peer then s.ni else -1) s.iw s.no s.ow 0 (-1) (-1) (-1) (-1) false

theorem exec_build {P : Program} {o : Oper} {a : Act} {w : World} (t : TypeId) (parts : Array (Nat × Operand)) (ho : o.op = .build t parts) (cells : Array Value) (hc : P.built t (parts.map fun (i, x) => (i, a.eval x)).toList = some cells) :
    (execOp a.eval o).run P w = .ok (.value (.agg cells)) w := by
  unfold execOp
  simp only [ho, Sem.run_bind, run_build w t _ cells hc, Result.andThen_ok]
  rfl

set_option maxRecDepth 20000 in
set_option maxHeartbeats 8000000 in
theorem sfields_any (w : World) (K : SK) (s : SS) (h : SesIn w K s) :
    Calls Try.prog 13 #[.pointer (some ⟨K.b, 0, none⟩)] w fun e w' => e = .returned (.agg s.fields) ∧ Below w.heap.size w w' := by
  have c1 : w.cell? ⟨K.b, 1, none⟩ = some (.bool s.peer) := h.cs 1 _ rfl
  have c2 : w.cell? ⟨K.b, 2, none⟩ = some (.int .i64 s.no) := h.cs 2 _ rfl
  have c3 : w.cell? ⟨K.b, 3, none⟩ = some (.int .i64 s.ow) := h.cs 3 _ rfl
  have c4 : w.cell? ⟨K.b, 4, none⟩ = some (.int .i64 s.ni) := h.cs 4 _ rfl
  have c5 : w.cell? ⟨K.b, 5, none⟩ = some (.int .i64 s.iw) := h.cs 5 _ rfl
  have hblt : K.b < w.heap.size := World.block_lt_of_cell? w _ c1
  clear h
  go_enter Try.func13, Try.ntmps13
  go_upto_region 1 with fail
  change Code.wp _ _ _ _ (w.alloc (.cells perfZ 39))
  have hb0 : Below w.heap.size w (w.alloc (.cells perfZ 39)) := (Below.refl _ _).alloc (Nat.le_refl _) _
  have z0 : (w.alloc (.cells perfZ 39)).heap[w.heap.size]? = some (.cells perfZ 39 (0, 0)) := _root_.Go.heap_alloc_new _ _
  have hz0 : w.heap.size < (w.alloc (.cells perfZ 39)).heap.size := by simp
  generalize (w.alloc (.cells perfZ 39)) = w1 at *
  obtain ⟨x, hx⟩ : ∃ x, w.heap.size = x := ⟨_, rfl⟩
  have HX := Lib.hid hx
  rw [hx] at z0 hz0 hblt ⊢
  have c1 := (hb0.cell (p := ⟨K.b, 1, none⟩) (by show K.b < _; omega)).trans c1
  have c2 := (hb0.cell (p := ⟨K.b, 2, none⟩) (by show K.b < _; omega)).trans c2
  have c3 := (hb0.cell (p := ⟨K.b, 3, none⟩) (by show K.b < _; omega)).trans c3
  have c4 := (hb0.cell (p := ⟨K.b, 4, none⟩) (by show K.b < _; omega)).trans c4
  have c5 := (hb0.cell (p := ⟨K.b, 5, none⟩) (by show K.b < _; omega)).trans c5
  have HB0 := Lib.hid hb0
  clear hb0 hx
  refine wp_region_held_drew (S := fun w' => w'.cell? ⟨K.b, 5, none⟩ = some (.int .i64 s.iw) ∧ w'.cell? ⟨K.b, 2, none⟩ = some (.int .i64 s.no) ∧ w'.cell? ⟨K.b, 3, none⟩ = some (.int .i64 s.ow)) (by kernel_rfl) ⟨c5, c2, c3⟩ (fun hHeld => ?_)
  simp only [List.size_toArray, List.length_cons, List.length_nil, Nat.reduceAdd]
  refine wpAnyH_take (i := 0) (v := .pointer (some ⟨K.b, 0, none⟩)) rfl (by kernel_rfl) (by kernel_rfl) (by kernel_rfl) (fun _ _ _ h => h) (Or.inl ⟨by rfl, fun W hSW => ?_⟩) hHeld ?_
  · obtain ⟨s1, s2, s3⟩ := hSW
    go_simp
  simp only [Act.put, List.setIfInBounds_toArray]
  refine wpAnyH_take (i := 1) (v := .pointer (some ⟨K.b, 0, none⟩)) rfl (by kernel_rfl) (by kernel_rfl) (by kernel_rfl) (fun _ _ _ h => h) (Or.inl ⟨by rfl, fun W hSW => ?_⟩) hHeld ?_
  · obtain ⟨s1, s2, s3⟩ := hSW
    go_simp
  simp only [Act.put]
  refine wpAnyH_take (i := 2) (v := .pointer (some ⟨K.b, 1, none⟩)) rfl (by kernel_rfl) (by kernel_rfl) (by kernel_rfl) (fun _ _ _ h => h) (Or.inl ⟨by rfl, fun W hSW => ?_⟩) hHeld ?_
  · obtain ⟨s1, s2, s3⟩ := hSW
    go_simp
  simp only [Act.put]
  refine wpAnyH_take (i := 3) (v := .pointer (some ⟨K.b, 5, none⟩)) rfl (by kernel_rfl) (by kernel_rfl) (by kernel_rfl) (fun _ _ _ h => h) (Or.inl ⟨by rfl, fun W hSW => ?_⟩) hHeld ?_
  · obtain ⟨s1, s2, s3⟩ := hSW
    go_simp
  simp only [Act.put]
  refine wpAnyH_take (i := 4) (v := .int .i64 s.iw) rfl (by kernel_rfl) (by kernel_rfl) (by kernel_rfl) (fun _ _ _ h => h) (Or.inl ⟨by rfl, fun W hSW => ?_⟩) hHeld ?_
  · obtain ⟨s1, s2, s3⟩ := hSW
    go_simp
  simp only [Act.put]
  refine wpAnyH_take (i := 5) (v := .pointer (some ⟨K.b, 0, none⟩)) rfl (by kernel_rfl) (by kernel_rfl) (by kernel_rfl) (fun _ _ _ h => h) (Or.inl ⟨by rfl, fun W hSW => ?_⟩) hHeld ?_
  · obtain ⟨s1, s2, s3⟩ := hSW
    go_simp
  simp only [Act.put]
  refine wpAnyH_take (i := 6) (v := .pointer (some ⟨K.b, 0, none⟩)) rfl (by kernel_rfl) (by kernel_rfl) (by kernel_rfl) (fun _ _ _ h => h) (Or.inl ⟨by rfl, fun W hSW => ?_⟩) hHeld ?_
  · obtain ⟨s1, s2, s3⟩ := hSW
    go_simp
  simp only [Act.put]
  refine wpAnyH_take (i := 7) (v := .pointer (some ⟨K.b, 1, none⟩)) rfl (by kernel_rfl) (by kernel_rfl) (by kernel_rfl) (fun _ _ _ h => h) (Or.inl ⟨by rfl, fun W hSW => ?_⟩) hHeld ?_
  · obtain ⟨s1, s2, s3⟩ := hSW
    go_simp
  simp only [Act.put]
  refine wpAnyH_take (i := 8) (v := .pointer (some ⟨K.b, 2, none⟩)) rfl (by kernel_rfl) (by kernel_rfl) (by kernel_rfl) (fun _ _ _ h => h) (Or.inl ⟨by rfl, fun W hSW => ?_⟩) hHeld ?_
  · obtain ⟨s1, s2, s3⟩ := hSW
    go_simp
  simp only [Act.put]
  refine wpAnyH_take (i := 9) (v := .int .i64 s.no) rfl (by kernel_rfl) (by kernel_rfl) (by kernel_rfl) (fun _ _ _ h => h) (Or.inl ⟨by rfl, fun W hSW => ?_⟩) hHeld ?_
  · obtain ⟨s1, s2, s3⟩ := hSW
    go_simp
  simp only [Act.put]
  refine wpAnyH_take (i := 10) (v := .pointer (some ⟨K.b, 0, none⟩)) rfl (by kernel_rfl) (by kernel_rfl) (by kernel_rfl) (fun _ _ _ h => h) (Or.inl ⟨by rfl, fun W hSW => ?_⟩) hHeld ?_
  · obtain ⟨s1, s2, s3⟩ := hSW
    go_simp
  simp only [Act.put]
  refine wpAnyH_take (i := 11) (v := .pointer (some ⟨K.b, 0, none⟩)) rfl (by kernel_rfl) (by kernel_rfl) (by kernel_rfl) (fun _ _ _ h => h) (Or.inl ⟨by rfl, fun W hSW => ?_⟩) hHeld ?_
  · obtain ⟨s1, s2, s3⟩ := hSW
    go_simp
  simp only [Act.put]
  refine wpAnyH_take (i := 12) (v := .pointer (some ⟨K.b, 1, none⟩)) rfl (by kernel_rfl) (by kernel_rfl) (by kernel_rfl) (fun _ _ _ h => h) (Or.inl ⟨by rfl, fun W hSW => ?_⟩) hHeld ?_
  · obtain ⟨s1, s2, s3⟩ := hSW
    go_simp
  simp only [Act.put]
  refine wpAnyH_take (i := 13) (v := .pointer (some ⟨K.b, 3, none⟩)) rfl (by kernel_rfl) (by kernel_rfl) (by kernel_rfl) (fun _ _ _ h => h) (Or.inl ⟨by rfl, fun W hSW => ?_⟩) hHeld ?_
  · obtain ⟨s1, s2, s3⟩ := hSW
    go_simp
  simp only [Act.put]
  refine wpAnyH_take (i := 14) (v := .int .i64 s.ow) rfl (by kernel_rfl) (by kernel_rfl) (by kernel_rfl) (fun _ _ _ h => h) (Or.inl ⟨by rfl, fun W hSW => ?_⟩) hHeld ?_
  · obtain ⟨s1, s2, s3⟩ := hSW
    go_simp
  simp only [Act.put]
  refine wpAnyH_take (i := 15) (v := .agg s.fields0) rfl (by kernel_rfl) (by kernel_rfl) (by kernel_rfl) (fun _ _ _ h => h) (Or.inl ⟨by rfl, fun W hSW => ?_⟩) hHeld ?_
  · exact exec_build 39 _ rfl s.fields0 (by as_aux_lemma => kernel_rfl)
  simp only [Act.put]
  have e5 : ∀ {W : World} {i : Nat} {v : Value}, BelowS w1 W → w1.cell? ⟨K.b, i, none⟩ = some v → W.cell? ⟨K.b, i, none⟩ = some v := fun hb hc => bs_cell hb hc
  have hS2 : BelowS w1 (w1.drew.alloc (.cells perfZ 39)) := bs_alloc (bs_drew (bs_refl w1))
  have y2 : (w1.drew.alloc (.cells perfZ 39)).heap[w1.heap.size]? = some (.cells perfZ 39 (0, 0)) := _root_.Go.heap_alloc_new _ _
  refine wpAnyH_ready (rs := [16]) (by kernel_rfl) (by simp) ?_
  refine AllReadyH.cons rfl (fun K' hK => ?_) AllReadyH.nil
  go_simp
  refine hK.out _ (w1.drew.alloc (.cells perfZ 39)) ⟨e5 hS2 c5, e5 hS2 c2, e5 hS2 c3⟩ (fun hHeld2 => ?_)
  clear hK K'
  have hS3 : BelowS w1 ((w1.drew.alloc (.cells perfZ 39)).setRow w1.heap.size s.fields0) := below_setRow hS2 (Nat.le_refl _) s.fields0
  have y3 := setRow_heap (w1.drew.alloc (.cells perfZ 39)) w1.heap.size _ s.fields0 _ _ y2
  refine wpAnyH_ready (rs := [17]) (by kernel_rfl) (by simp) ?_
  refine AllReadyH.cons rfl (fun K' hK => ?_) AllReadyH.nil
  rw [if_pos (by rfl)]
  refine wp_store_row 39 (.tmp 3) (.tmp 19) rfl w1.heap.size s.fields0 rfl rfl 39 perfZ y2 (by as_aux_lemma => kernel_rfl) (by as_aux_lemma => kernel_rfl) (by as_aux_lemma => kernel_rfl) ?_
  refine hK.out _ _ ⟨e5 hS3 c5, e5 hS3 c2, e5 hS3 c3⟩ (fun hHeld3 => ?_)
  clear hK K'
  refine wpAnyH_done (by kernel_rfl) ?_ _
  generalize ((w1.drew.alloc (.cells perfZ 39)).setRow w1.heap.size s.fields0) = w3 at *
  have c1 := e5 hS3 c1
  have c4 := e5 hS3 c4
  have x3 := (hS3.block x hz0).trans z0
  have hbw := HB0.out.trans (hS3.mono HB0.out.size)
  have hwy := HB0.out.size
  obtain ⟨y, hy⟩ : ∃ y, w1.heap.size = y := ⟨_, rfl⟩
  rw [hy] at y3 hwy hz0 ⊢
  have hxy : x ≠ y := by omega
  have hfsz : ∀ s : SS, s.fields.size = 128 := fun s => perf_size ..
  have HB3 := Lib.hid (And.intro hbw (And.intro hwy hxy))
  clear hHeld hHeld2 hHeld3 hS2 y2 hS3 e5 c2 c3 c5 hbw hwy hxy hy hz0 z0 hblt
  obtain ⟨p, hp⟩ : ∃ p, s.peer = p := ⟨_, rfl⟩
  cases p
  · rw [hp] at c1
    have hf : s.fields0 = s.fields := by simp [SS.fields, SS.fields0, hp]
    rw [hf] at y3 ⊢
    clear hf hp
    generalize s.fields0 = F0 at *
    go_wp2_with (first
      | (refine wpList_load_row rfl 39 (.tmp 3) rfl y rfl 39 s.fields (0, 0) _ y3 Try.underlying39 rfl (by as_aux_lemma => kernel_rfl) ?_)
      | (refine wpList_store_rowTo rfl 39 (.tmp 2) (.tmp 31) rfl rfl x s.fields rfl rfl 39 perfZ x3 (by as_aux_lemma => kernel_rfl) (by as_aux_lemma => kernel_rfl) (by as_aux_lemma => kernel_rfl) ?_))
    have hh := setRow_heap w3 x _ s.fields _ _ x3
    have hB := below_setRow HB3.out.1 (show w.heap.size ≤ x by rw [HX.out]; exact Nat.le_refl _) s.fields
    refine bodyPost_ret (results_cell_row (p := 2) (ty := 39) (by kernel_rfl) _ _ x 39 s.fields (0, 0) _ rfl hh Try.underlying39 rfl (by as_aux_lemma => kernel_rfl)) rfl ?_
    exact ⟨rfl, hB⟩
  · rw [hp] at c1
    have hf : s.fields0.setIfInBounds 12 (.int .i64 s.ni) = s.fields := by
      rw [SS.fields, hp]
      rfl
    have y12 : w3.cell? ⟨y, 12, none⟩ = some (.int .i64 (-1)) := (cell_of_row _ _ 12 _ _ _ y3).trans rfl
    have fz : w3.frozen? ⟨y, 12, none⟩ = false := by simp [World.frozen?, y3]
    have y4 := heap_setCell_same w3 y 12 _ _ (.int .i64 s.ni) y3
    rw [hf] at y4
    have x4 : (w3.setCell ⟨y, 12, none⟩ (.int .i64 s.ni)).heap[x]? = some (.cells perfZ 39 (0, 0)) := (set_far HB3.out.2.2).trans x3
    have hB4 := HB3.out.1.setCell (p := ⟨y, 12, none⟩) HB3.out.2.1 (.int .i64 s.ni)
    have HBB := Lib.hid hB4
    clear hf hp y3 x3 hB4
    generalize s.fields0 = F0 at *
    go_wp2_with (first
      | (refine wpList_load_row rfl 39 (.tmp 3) rfl y rfl 39 s.fields (0, 0) _ y4 Try.underlying39 rfl (by as_aux_lemma => kernel_rfl) ?_)
      | (refine wpList_store_rowTo rfl 39 (.tmp 2) (.tmp 31) rfl rfl x s.fields rfl rfl 39 perfZ x4 (by as_aux_lemma => kernel_rfl) (by as_aux_lemma => kernel_rfl) (by as_aux_lemma => kernel_rfl) ?_))
    have hh := setRow_heap _ x _ s.fields _ _ x4
    have hB := below_setRow HBB.out (show w.heap.size ≤ x by rw [HX.out]; exact Nat.le_refl _) s.fields
    refine bodyPost_ret (results_cell_row (p := 2) (ty := 39) (by kernel_rfl) _ _ x 39 s.fields (0, 0) _ rfl hh Try.underlying39 rfl (by as_aux_lemma => kernel_rfl)) rfl ?_
    exact ⟨rfl, hB⟩

set_option maxRecDepth 20000 in
set_option maxHeartbeats 8000000 in
theorem rfields_any (w : World) (r B : Nat) (s : SS) (hs : List Int) (rs : List (Int × Int)) (vh vr vs va : Value) (h : RIn w r B s hs rs vh vr vs va) :
    Calls Try.prog 14 #[.pointer (some ⟨r, 0, none⟩)] w fun e w' => e = .returned (.agg s.fields) ∧ Below w.heap.size w w' := by
  have c1 : w.cell? ⟨r, 1, none⟩ = some (.bool s.peer) := h.cs 1 _ rfl
  have c2 : w.cell? ⟨r, 2, none⟩ = some (.int .i64 s.no) := h.cs 2 _ rfl
  have c3 : w.cell? ⟨r, 3, none⟩ = some (.int .i64 s.ow) := h.cs 3 _ rfl
  have c4 : w.cell? ⟨r, 4, none⟩ = some (.int .i64 s.ni) := h.cs 4 _ rfl
  have c5 : w.cell? ⟨r, 5, none⟩ = some (.int .i64 s.iw) := h.cs 5 _ rfl
  have hblt : r < w.heap.size := World.block_lt_of_cell? w _ c1
  clear h
  go_enter Try.func14, Try.ntmps14
  go_upto_region 1 with fail
  change Code.wp _ _ _ _ (w.alloc (.cells perfZ 39))
  have hb0 : Below w.heap.size w (w.alloc (.cells perfZ 39)) := (Below.refl _ _).alloc (Nat.le_refl _) _
  have z0 : (w.alloc (.cells perfZ 39)).heap[w.heap.size]? = some (.cells perfZ 39 (0, 0)) := _root_.Go.heap_alloc_new _ _
  have hz0 : w.heap.size < (w.alloc (.cells perfZ 39)).heap.size := by simp
  generalize (w.alloc (.cells perfZ 39)) = w1 at *
  obtain ⟨x, hx⟩ : ∃ x, w.heap.size = x := ⟨_, rfl⟩
  have HX := Lib.hid hx
  rw [hx] at z0 hz0 hblt ⊢
  have c1 := (hb0.cell (p := ⟨r, 1, none⟩) (by show r < _; omega)).trans c1
  have c2 := (hb0.cell (p := ⟨r, 2, none⟩) (by show r < _; omega)).trans c2
  have c3 := (hb0.cell (p := ⟨r, 3, none⟩) (by show r < _; omega)).trans c3
  have c4 := (hb0.cell (p := ⟨r, 4, none⟩) (by show r < _; omega)).trans c4
  have c5 := (hb0.cell (p := ⟨r, 5, none⟩) (by show r < _; omega)).trans c5
  have HB0 := Lib.hid hb0
  clear hb0 hx
  refine wp_region_held_drew (S := fun w' => w'.cell? ⟨r, 5, none⟩ = some (.int .i64 s.iw) ∧ w'.cell? ⟨r, 2, none⟩ = some (.int .i64 s.no) ∧ w'.cell? ⟨r, 3, none⟩ = some (.int .i64 s.ow)) (by kernel_rfl) ⟨c5, c2, c3⟩ (fun hHeld => ?_)
  simp only [List.size_toArray, List.length_cons, List.length_nil, Nat.reduceAdd]
  refine wpAnyH_take (i := 0) (v := .pointer (some ⟨r, 0, none⟩)) rfl (by kernel_rfl) (by kernel_rfl) (by kernel_rfl) (fun _ _ _ h => h) (Or.inl ⟨by rfl, fun W hSW => ?_⟩) hHeld ?_
  · obtain ⟨s1, s2, s3⟩ := hSW
    go_simp
  simp only [Act.put, List.setIfInBounds_toArray]
  refine wpAnyH_take (i := 1) (v := .pointer (some ⟨r, 0, none⟩)) rfl (by kernel_rfl) (by kernel_rfl) (by kernel_rfl) (fun _ _ _ h => h) (Or.inl ⟨by rfl, fun W hSW => ?_⟩) hHeld ?_
  · obtain ⟨s1, s2, s3⟩ := hSW
    go_simp
  simp only [Act.put]
  refine wpAnyH_take (i := 2) (v := .pointer (some ⟨r, 1, none⟩)) rfl (by kernel_rfl) (by kernel_rfl) (by kernel_rfl) (fun _ _ _ h => h) (Or.inl ⟨by rfl, fun W hSW => ?_⟩) hHeld ?_
  · obtain ⟨s1, s2, s3⟩ := hSW
    go_simp
  simp only [Act.put]
  refine wpAnyH_take (i := 3) (v := .pointer (some ⟨r, 5, none⟩)) rfl (by kernel_rfl) (by kernel_rfl) (by kernel_rfl) (fun _ _ _ h => h) (Or.inl ⟨by rfl, fun W hSW => ?_⟩) hHeld ?_
  · obtain ⟨s1, s2, s3⟩ := hSW
    go_simp
  simp only [Act.put]
  refine wpAnyH_take (i := 4) (v := .int .i64 s.iw) rfl (by kernel_rfl) (by kernel_rfl) (by kernel_rfl) (fun _ _ _ h => h) (Or.inl ⟨by rfl, fun W hSW => ?_⟩) hHeld ?_
  · obtain ⟨s1, s2, s3⟩ := hSW
    go_simp
  simp only [Act.put]
  refine wpAnyH_take (i := 5) (v := .pointer (some ⟨r, 0, none⟩)) rfl (by kernel_rfl) (by kernel_rfl) (by kernel_rfl) (fun _ _ _ h => h) (Or.inl ⟨by rfl, fun W hSW => ?_⟩) hHeld ?_
  · obtain ⟨s1, s2, s3⟩ := hSW
    go_simp
  simp only [Act.put]
  refine wpAnyH_take (i := 6) (v := .pointer (some ⟨r, 0, none⟩)) rfl (by kernel_rfl) (by kernel_rfl) (by kernel_rfl) (fun _ _ _ h => h) (Or.inl ⟨by rfl, fun W hSW => ?_⟩) hHeld ?_
  · obtain ⟨s1, s2, s3⟩ := hSW
    go_simp
  simp only [Act.put]
  refine wpAnyH_take (i := 7) (v := .pointer (some ⟨r, 1, none⟩)) rfl (by kernel_rfl) (by kernel_rfl) (by kernel_rfl) (fun _ _ _ h => h) (Or.inl ⟨by rfl, fun W hSW => ?_⟩) hHeld ?_
  · obtain ⟨s1, s2, s3⟩ := hSW
    go_simp
  simp only [Act.put]
  refine wpAnyH_take (i := 8) (v := .pointer (some ⟨r, 2, none⟩)) rfl (by kernel_rfl) (by kernel_rfl) (by kernel_rfl) (fun _ _ _ h => h) (Or.inl ⟨by rfl, fun W hSW => ?_⟩) hHeld ?_
  · obtain ⟨s1, s2, s3⟩ := hSW
    go_simp
  simp only [Act.put]
  refine wpAnyH_take (i := 9) (v := .int .i64 s.no) rfl (by kernel_rfl) (by kernel_rfl) (by kernel_rfl) (fun _ _ _ h => h) (Or.inl ⟨by rfl, fun W hSW => ?_⟩) hHeld ?_
  · obtain ⟨s1, s2, s3⟩ := hSW
    go_simp
  simp only [Act.put]
  refine wpAnyH_take (i := 10) (v := .pointer (some ⟨r, 0, none⟩)) rfl (by kernel_rfl) (by kernel_rfl) (by kernel_rfl) (fun _ _ _ h => h) (Or.inl ⟨by rfl, fun W hSW => ?_⟩) hHeld ?_
  · obtain ⟨s1, s2, s3⟩ := hSW
    go_simp
  simp only [Act.put]
  refine wpAnyH_take (i := 11) (v := .pointer (some ⟨r, 0, none⟩)) rfl (by kernel_rfl) (by kernel_rfl) (by kernel_rfl) (fun _ _ _ h => h) (Or.inl ⟨by rfl, fun W hSW => ?_⟩) hHeld ?_
  · obtain ⟨s1, s2, s3⟩ := hSW
    go_simp
  simp only [Act.put]
  refine wpAnyH_take (i := 12) (v := .pointer (some ⟨r, 1, none⟩)) rfl (by kernel_rfl) (by kernel_rfl) (by kernel_rfl) (fun _ _ _ h => h) (Or.inl ⟨by rfl, fun W hSW => ?_⟩) hHeld ?_
  · obtain ⟨s1, s2, s3⟩ := hSW
    go_simp
  simp only [Act.put]
  refine wpAnyH_take (i := 13) (v := .pointer (some ⟨r, 3, none⟩)) rfl (by kernel_rfl) (by kernel_rfl) (by kernel_rfl) (fun _ _ _ h => h) (Or.inl ⟨by rfl, fun W hSW => ?_⟩) hHeld ?_
  · obtain ⟨s1, s2, s3⟩ := hSW
    go_simp
  simp only [Act.put]
  refine wpAnyH_take (i := 14) (v := .int .i64 s.ow) rfl (by kernel_rfl) (by kernel_rfl) (by kernel_rfl) (fun _ _ _ h => h) (Or.inl ⟨by rfl, fun W hSW => ?_⟩) hHeld ?_
  · obtain ⟨s1, s2, s3⟩ := hSW
    go_simp
  simp only [Act.put]
  refine wpAnyH_take (i := 15) (v := .agg s.fields0) rfl (by kernel_rfl) (by kernel_rfl) (by kernel_rfl) (fun _ _ _ h => h) (Or.inl ⟨by rfl, fun W hSW => ?_⟩) hHeld ?_
  · exact exec_build 39 _ rfl s.fields0 (by as_aux_lemma => kernel_rfl)
  simp only [Act.put]
  have e5 : ∀ {W : World} {i : Nat} {v : Value}, BelowS w1 W → w1.cell? ⟨r, i, none⟩ = some v → W.cell? ⟨r, i, none⟩ = some v := fun hb hc => bs_cell hb hc
  have hS2 : BelowS w1 (w1.drew.alloc (.cells perfZ 39)) := bs_alloc (bs_drew (bs_refl w1))
  have y2 : (w1.drew.alloc (.cells perfZ 39)).heap[w1.heap.size]? = some (.cells perfZ 39 (0, 0)) := _root_.Go.heap_alloc_new _ _
  refine wpAnyH_ready (rs := [16]) (by kernel_rfl) (by simp) ?_
  refine AllReadyH.cons rfl (fun K' hK => ?_) AllReadyH.nil
  go_simp
  refine hK.out _ (w1.drew.alloc (.cells perfZ 39)) ⟨e5 hS2 c5, e5 hS2 c2, e5 hS2 c3⟩ (fun hHeld2 => ?_)
  clear hK K'
  have hS3 : BelowS w1 ((w1.drew.alloc (.cells perfZ 39)).setRow w1.heap.size s.fields0) := below_setRow hS2 (Nat.le_refl _) s.fields0
  have y3 := setRow_heap (w1.drew.alloc (.cells perfZ 39)) w1.heap.size _ s.fields0 _ _ y2
  refine wpAnyH_ready (rs := [17]) (by kernel_rfl) (by simp) ?_
  refine AllReadyH.cons rfl (fun K' hK => ?_) AllReadyH.nil
  rw [if_pos (by rfl)]
  refine wp_store_row 39 (.tmp 3) (.tmp 19) rfl w1.heap.size s.fields0 rfl rfl 39 perfZ y2 (by as_aux_lemma => kernel_rfl) (by as_aux_lemma => kernel_rfl) (by as_aux_lemma => kernel_rfl) ?_
  refine hK.out _ _ ⟨e5 hS3 c5, e5 hS3 c2, e5 hS3 c3⟩ (fun hHeld3 => ?_)
  clear hK K'
  refine wpAnyH_done (by kernel_rfl) ?_ _
  generalize ((w1.drew.alloc (.cells perfZ 39)).setRow w1.heap.size s.fields0) = w3 at *
  have c1 := e5 hS3 c1
  have c4 := e5 hS3 c4
  have x3 := (hS3.block x hz0).trans z0
  have hbw := HB0.out.trans (hS3.mono HB0.out.size)
  have hwy := HB0.out.size
  obtain ⟨y, hy⟩ : ∃ y, w1.heap.size = y := ⟨_, rfl⟩
  rw [hy] at y3 hwy hz0 ⊢
  have hxy : x ≠ y := by omega
  have hfsz : ∀ s : SS, s.fields.size = 128 := fun s => perf_size ..
  have HB3 := Lib.hid (And.intro hbw (And.intro hwy hxy))
  clear hHeld hHeld2 hHeld3 hS2 y2 hS3 e5 c2 c3 c5 hbw hwy hxy hy hz0 z0 hblt
  obtain ⟨p, hp⟩ : ∃ p, s.peer = p := ⟨_, rfl⟩
  cases p
  · rw [hp] at c1
    have hf : s.fields0 = s.fields := by simp [SS.fields, SS.fields0, hp]
    rw [hf] at y3 ⊢
    clear hf hp
    generalize s.fields0 = F0 at *
    go_wp2_with (first
      | (refine wpList_load_row rfl 39 (.tmp 3) rfl y rfl 39 s.fields (0, 0) _ y3 Try.underlying39 rfl (by as_aux_lemma => kernel_rfl) ?_)
      | (refine wpList_store_rowTo rfl 39 (.tmp 2) (.tmp 31) rfl rfl x s.fields rfl rfl 39 perfZ x3 (by as_aux_lemma => kernel_rfl) (by as_aux_lemma => kernel_rfl) (by as_aux_lemma => kernel_rfl) ?_))
    have hh := setRow_heap w3 x _ s.fields _ _ x3
    have hB := below_setRow HB3.out.1 (show w.heap.size ≤ x by rw [HX.out]; exact Nat.le_refl _) s.fields
    refine bodyPost_ret (results_cell_row (p := 2) (ty := 39) (by kernel_rfl) _ _ x 39 s.fields (0, 0) _ rfl hh Try.underlying39 rfl (by as_aux_lemma => kernel_rfl)) rfl ?_
    exact ⟨rfl, hB⟩
  · rw [hp] at c1
    have hf : s.fields0.setIfInBounds 12 (.int .i64 s.ni) = s.fields := by
      rw [SS.fields, hp]
      rfl
    have y12 : w3.cell? ⟨y, 12, none⟩ = some (.int .i64 (-1)) := (cell_of_row _ _ 12 _ _ _ y3).trans rfl
    have fz : w3.frozen? ⟨y, 12, none⟩ = false := by simp [World.frozen?, y3]
    have y4 := heap_setCell_same w3 y 12 _ _ (.int .i64 s.ni) y3
    rw [hf] at y4
    have x4 : (w3.setCell ⟨y, 12, none⟩ (.int .i64 s.ni)).heap[x]? = some (.cells perfZ 39 (0, 0)) := (set_far HB3.out.2.2).trans x3
    have hB4 := HB3.out.1.setCell (p := ⟨y, 12, none⟩) HB3.out.2.1 (.int .i64 s.ni)
    have HBB := Lib.hid hB4
    clear hf hp y3 x3 hB4
    generalize s.fields0 = F0 at *
    go_wp2_with (first
      | (refine wpList_load_row rfl 39 (.tmp 3) rfl y rfl 39 s.fields (0, 0) _ y4 Try.underlying39 rfl (by as_aux_lemma => kernel_rfl) ?_)
      | (refine wpList_store_rowTo rfl 39 (.tmp 2) (.tmp 31) rfl rfl x s.fields rfl rfl 39 perfZ x4 (by as_aux_lemma => kernel_rfl) (by as_aux_lemma => kernel_rfl) (by as_aux_lemma => kernel_rfl) ?_))
    have hh := setRow_heap _ x _ s.fields _ _ x4
    have hB := below_setRow HBB.out (show w.heap.size ≤ x by rw [HX.out]; exact Nat.le_refl _) s.fields
    refine bodyPost_ret (results_cell_row (p := 2) (ty := 39) (by kernel_rfl) _ _ x 39 s.fields (0, 0) _ rfl hh Try.underlying39 rfl (by as_aux_lemma => kernel_rfl)) rfl ?_
    exact ⟨rfl, hB⟩
end Go.Proofs.Ytbkimebmoafbnaa

namespace Go.Proofs.Ytbkimebmoafbnaa
open Go.RowKit Go.Maps
set_option linter.unusedVariables false

theorem sst_eq (s : SS) (w : World) : (Op.equalIn 10000 63 (.agg s.state) (.agg s.state)).run Try.prog w = .ok true w := by
  have u3 := Try.underlying3
  have u4 := Try.underlying4
  have hS : Try.prog.underlying 63 = some (.struct (Try.prog.fieldsOf 63)) := by kernel_rfl
  have hp : Try.prog.stoodInHeld 63 = false := by kernel_rfl
  rw [show (10000 : Nat) = 9999 + 1 from rfl, run_equalIn_agg w 9999 63 _ _ hS hp]
  unfold SS.state
  simp only [Program.fieldsOf, Try.underlying63]
  go_simp
theorem sst_eql (s : SS) (w : World) : (binOp .eql 63 (.agg s.state) (.agg s.state)).run Try.prog w = .ok (.bool true) w := by
  rw [run_eql_struct, sst_eq]
  rfl

set_option maxRecDepth 20000 in
set_option maxHeartbeats 4000000 in
theorem sameState_any (w : World) (K : SK) (s : SS) (r B : Nat) (hs : List Int) (rs : List (Int × Int)) (vh vr vs va : Value) (h : SesIn w K s) (hr : RIn w r B s hs rs vh vr vs va) :
    Calls Try.prog 12 #[.pointer (some ⟨K.b, 0, none⟩), .pointer (some ⟨r, 0, none⟩)] w fun e w' => e = .returned (.bool true) ∧ Below w.heap.size w w' := by
  have hc1 := sstate_any w K s h
  have HR := Lib.hid hr
  clear h hr
  have hse := sst_eql s
  go_enter Try.func12, Try.ntmps12
  go_wp2_with fail
  refine hc1.mono ?_
  clear hc1
  rintro e w1 ⟨rfl, hb1⟩
  have hr1 := HR.out.below hb1
  go_upto_region 2 with (refine wpList_store_rowTo rfl 63 (.tmp 5) (.tmp 8) rfl rfl w1.heap.size s.state rfl rfl 63 #[.bool false, .int .i64 0, .int .i64 0, .int .i64 0, .int .i64 0, .int .i64 0, .int .i64 0, .int .i64 0, .int .i64 0, .int .i64 0, .int .i64 0, .int .i64 0] (_root_.Go.heap_alloc_new w1 _) (by as_aux_lemma => kernel_rfl) (by as_aux_lemma => kernel_rfl) (by as_aux_lemma => kernel_rfl) ?_)
  have hb2 : Below w1.heap.size w1 ((w1.alloc (.cells #[.bool false, .int .i64 0, .int .i64 0, .int .i64 0, .int .i64 0, .int .i64 0, .int .i64 0, .int .i64 0, .int .i64 0, .int .i64 0, .int .i64 0, .int .i64 0] 63)).setRow w1.heap.size s.state) := below_setRow ((Below.refl _ _).alloc (Nat.le_refl _) _) (Nat.le_refl _) _
  have h2 := setRow_heap (w1.alloc (.cells #[.bool false, .int .i64 0, .int .i64 0, .int .i64 0, .int .i64 0, .int .i64 0, .int .i64 0, .int .i64 0, .int .i64 0, .int .i64 0, .int .i64 0, .int .i64 0] 63)) w1.heap.size _ s.state _ _ (_root_.Go.heap_alloc_new w1 _)
  change Code.wp _ _ _ _ ((w1.alloc (.cells #[.bool false, .int .i64 0, .int .i64 0, .int .i64 0, .int .i64 0, .int .i64 0, .int .i64 0, .int .i64 0, .int .i64 0, .int .i64 0, .int .i64 0, .int .i64 0] 63)).setRow w1.heap.size s.state)
  generalize ((w1.alloc (.cells #[.bool false, .int .i64 0, .int .i64 0, .int .i64 0, .int .i64 0, .int .i64 0, .int .i64 0, .int .i64 0, .int .i64 0, .int .i64 0, .int .i64 0, .int .i64 0] 63)).setRow w1.heap.size s.state) = w2 at *
  obtain ⟨x, hx⟩ : ∃ x, w1.heap.size = x := ⟨_, rfl⟩
  have hr2 := hr1.below hb2
  have HB2 := Lib.hid (hb1.trans (hb2.mono hb1.size))
  rw [hx] at h2 ⊢
  have hc2 := rstate_any w2 r B s hs rs vh vr vs va hr2
  clear hb1 hr1 hb2 hx hr2 HR
  go_wp2_with fail
  refine hc2.mono ?_
  clear hc2
  rintro e w3 ⟨rfl, hb3⟩
  have h3 := (hb3.block x (Array.getElem?_eq_some_iff.1 h2).1).trans h2
  have HB3 := Lib.hid (HB2.out.trans (hb3.mono HB2.out.size))
  clear h2 hb3 HB2
  go_upto_region 3 with (refine wpList_store_rowTo rfl 63 (.tmp 6) (.tmp 10) rfl rfl w3.heap.size s.state rfl rfl 63 #[.bool false, .int .i64 0, .int .i64 0, .int .i64 0, .int .i64 0, .int .i64 0, .int .i64 0, .int .i64 0, .int .i64 0, .int .i64 0, .int .i64 0, .int .i64 0] (_root_.Go.heap_alloc_new w3 _) (by as_aux_lemma => kernel_rfl) (by as_aux_lemma => kernel_rfl) (by as_aux_lemma => kernel_rfl) ?_)
  have hb4 : Below w3.heap.size w3 ((w3.alloc (.cells #[.bool false, .int .i64 0, .int .i64 0, .int .i64 0, .int .i64 0, .int .i64 0, .int .i64 0, .int .i64 0, .int .i64 0, .int .i64 0, .int .i64 0, .int .i64 0] 63)).setRow w3.heap.size s.state) := below_setRow ((Below.refl _ _).alloc (Nat.le_refl _) _) (Nat.le_refl _) _
  have h4 := setRow_heap (w3.alloc (.cells #[.bool false, .int .i64 0, .int .i64 0, .int .i64 0, .int .i64 0, .int .i64 0, .int .i64 0, .int .i64 0, .int .i64 0, .int .i64 0, .int .i64 0, .int .i64 0] 63)) w3.heap.size _ s.state _ _ (_root_.Go.heap_alloc_new w3 _)
  change Code.wp _ _ _ _ ((w3.alloc (.cells #[.bool false, .int .i64 0, .int .i64 0, .int .i64 0, .int .i64 0, .int .i64 0, .int .i64 0, .int .i64 0, .int .i64 0, .int .i64 0, .int .i64 0, .int .i64 0] 63)).setRow w3.heap.size s.state)
  generalize ((w3.alloc (.cells #[.bool false, .int .i64 0, .int .i64 0, .int .i64 0, .int .i64 0, .int .i64 0, .int .i64 0, .int .i64 0, .int .i64 0, .int .i64 0, .int .i64 0, .int .i64 0] 63)).setRow w3.heap.size s.state) = w4 at *
  have h3x := (hb4.block x (Array.getElem?_eq_some_iff.1 h3).1).trans h3
  obtain ⟨y, hy⟩ : ∃ y, w3.heap.size = y := ⟨_, rfl⟩
  have HB4 := Lib.hid (HB3.out.trans (hb4.mono HB3.out.size))
  rw [hy] at h4 ⊢
  clear h3 hb4 hy HB3
  go_wp2_with (first
    | (refine wpList_load_row rfl 63 (.tmp 5) rfl x rfl 63 s.state (0, 0) _ h3x Try.underlying63 rfl (by as_aux_lemma => kernel_rfl) ?_)
    | (refine wpList_load_row rfl 63 (.tmp 6) rfl y rfl 63 s.state (0, 0) _ h4 Try.underlying63 rfl (by as_aux_lemma => kernel_rfl) ?_))
  go_ret
  exact ⟨by simp, HB4.out⟩

end Go.Proofs.Ytbkimebmoafbnaa
