/-
  A link's Fields, See. Conditions: the link lies in memory.
-/
import Derived.Test.YtcbjfakkikjbkaaKw
namespace Go.Proofs.Ytcbjfakkikjbkaa
open Go.RowKit Go.Maps
set_option linter.all false

theorem size_perf : (Try.prog.info? 38).map (·.size) = some 128 := by kernel_rfl
theorem perf_size (k ni hd ct cr av : Int) (dr : Bool) : (perfC k ni hd ct cr av dr).size = 128 := by kernel_rfl
theorem perf_one (k ni hd ct cr av : Int) (dr : Bool) : (perfC k ni hd ct cr av dr).all (·.oneCell') = true := by kernel_rfl
theorem perf_set86 (k ni hd ct cr av av' : Int) (dr : Bool) : (perfC k ni hd ct cr av dr).setIfInBounds 86 (.int .i64 av') = perfC k ni hd ct cr av' dr := by kernel_rfl
def fieldsC (l : Lk) (hd : Int) : Array Value := perfC 19 (-1) hd l.count l.credit (if l.rc = true then -1 else l.wait) l.drain
set_option maxRecDepth 20000 in
set_option maxHeartbeats 8000000 in
theorem fields_any (w : World) (q m : Nat) (G : Nat → Prop) (l : Lk) (hd : Int) (h : LkIn w q m G l) :
    Calls Try.prog 17 #[.pointer (some ⟨q, 0, none⟩), .int .i64 hd] w fun e w' => e = .returned (.agg (fieldsC l hd)) ∧ Below w.heap.size w w' := by
  have H := Lib.hid h
  clear h
  go_enter Try.func17, Try.ntmps17
  go_upto_region 1 with fail
  have hb0 : Below w.heap.size w (w.alloc (.cells (perfC 0 0 0 0 0 0 false) 38)) := (Below.refl _ _).alloc (Nat.le_refl _) _
  have ox : (w.alloc (.cells (perfC 0 0 0 0 0 0 false) 38)).heap[w.heap.size]? = some (.cells (perfC 0 0 0 0 0 0 false) 38 (0, 0)) := _root_.Go.heap_alloc_new _ _
  change Code.wp _ _ _ _ (w.alloc (.cells (perfC 0 0 0 0 0 0 false) 38))
  generalize (w.alloc (.cells (perfC 0 0 0 0 0 0 false) 38)) = w0 at *
  obtain ⟨x, hx⟩ : ∃ x, w.heap.size = x := ⟨_, rfl⟩
  rw [hx] at ox ⊢
  have HX := Lib.hid (And.intro ox (And.intro hb0 hx))
  have H0 := Lib.hid (H.out.blw hb0)
  clear ox hb0 hx
  obtain ⟨S, hSd⟩ : ∃ S : Array Bool → World → Prop, ∀ L V, S L V ↔ LkIn V q m G l := ⟨_, fun _ _ => Iff.rfl⟩
  have HSD := Lib.hid hSd
  clear hSd
  refine wp_region_T S 20 rfl (by kernel_rfl) ?_
  have hS : ∀ L : Array Bool, S L w0.drew := fun L => (HSD.out _ _).2 (H0.out.blw (bdrew (Below.refl _ _)))
  refine takeT (i := 0) (v := .int .i64 hd) (some 6) [] rfl rfl (by kernel_rfl) (by kernel_rfl) (by kernel_rfl) (by kernel_rfl) (by kernel_rfl) (fun _ _ _ h => h) (fun m W _ _ h => (HSD.out _ _).2 ((HSD.out _ _).1 h)) (Or.inl ⟨by rfl, by rintro V ⟨m, hm, h9⟩; have h0 := (HSD.out _ _).1 h9; go_simp⟩) (hS _) ?_
  try simp only [Act.put, List.setIfInBounds_toArray, List.set_cons_zero, List.set_cons_succ]
  refine takeT (i := 1) (v := .pointer (some ⟨q, 0, none⟩)) (some 7) [] rfl rfl (by kernel_rfl) (by kernel_rfl) (by kernel_rfl) (by kernel_rfl) (by kernel_rfl) (fun _ _ _ h => h) (fun m W _ _ h => (HSD.out _ _).2 ((HSD.out _ _).1 h)) (Or.inl ⟨by rfl, by rintro V ⟨m, hm, h9⟩; have h0 := (HSD.out _ _).1 h9; go_simp⟩) (hS _) ?_
  try simp only [Act.put, List.setIfInBounds_toArray, List.set_cons_zero, List.set_cons_succ]
  refine takeT (i := 2) (v := .pointer (some ⟨q, 0, none⟩)) (some 8) [] rfl rfl (by kernel_rfl) (by kernel_rfl) (by kernel_rfl) (by kernel_rfl) (by kernel_rfl) (fun _ _ _ h => h) (fun m W _ _ h => (HSD.out _ _).2 ((HSD.out _ _).1 h)) (Or.inl ⟨by rfl, by rintro V ⟨m, hm, h9⟩; have h0 := (HSD.out _ _).1 h9; go_simp⟩) (hS _) ?_
  try simp only [Act.put, List.setIfInBounds_toArray, List.set_cons_zero, List.set_cons_succ]
  refine takeT (i := 3) (v := .pointer (some ⟨q, 6, none⟩)) (some 9) [] rfl rfl (by kernel_rfl) (by kernel_rfl) (by kernel_rfl) (by kernel_rfl) (by kernel_rfl) (fun _ _ _ h => h) (fun m W _ _ h => (HSD.out _ _).2 ((HSD.out _ _).1 h)) (Or.inl ⟨by rfl, by rintro V ⟨m, hm, h9⟩; have h0 := (HSD.out _ _).1 h9; go_simp⟩) (hS _) ?_
  try simp only [Act.put, List.setIfInBounds_toArray, List.set_cons_zero, List.set_cons_succ]
  refine takeT (i := 4) (v := .int .i64 l.count) (some 10) [] rfl rfl (by kernel_rfl) (by kernel_rfl) (by kernel_rfl) (by kernel_rfl) (by kernel_rfl) (fun _ _ _ h => h) (fun m W _ _ h => (HSD.out _ _).2 ((HSD.out _ _).1 h)) (Or.inl ⟨by rfl, by rintro V ⟨m', hm, h9⟩; have h0 : V.cell? ⟨q, 6, none⟩ = some (.int .i64 l.count) := ((HSD.out _ _).1 h9).cs 6 _ rfl; go_simp⟩) (hS _) ?_
  try simp only [Act.put, List.setIfInBounds_toArray, List.set_cons_zero, List.set_cons_succ]
  refine takeT (i := 5) (v := .pointer (some ⟨q, 0, none⟩)) (some 11) [] rfl rfl (by kernel_rfl) (by kernel_rfl) (by kernel_rfl) (by kernel_rfl) (by kernel_rfl) (fun _ _ _ h => h) (fun m W _ _ h => (HSD.out _ _).2 ((HSD.out _ _).1 h)) (Or.inl ⟨by rfl, by rintro V ⟨m, hm, h9⟩; have h0 := (HSD.out _ _).1 h9; go_simp⟩) (hS _) ?_
  try simp only [Act.put, List.setIfInBounds_toArray, List.set_cons_zero, List.set_cons_succ]
  refine takeT (i := 6) (v := .pointer (some ⟨q, 0, none⟩)) (some 12) [] rfl rfl (by kernel_rfl) (by kernel_rfl) (by kernel_rfl) (by kernel_rfl) (by kernel_rfl) (fun _ _ _ h => h) (fun m W _ _ h => (HSD.out _ _).2 ((HSD.out _ _).1 h)) (Or.inl ⟨by rfl, by rintro V ⟨m, hm, h9⟩; have h0 := (HSD.out _ _).1 h9; go_simp⟩) (hS _) ?_
  try simp only [Act.put, List.setIfInBounds_toArray, List.set_cons_zero, List.set_cons_succ]
  refine takeT (i := 7) (v := .pointer (some ⟨q, 7, none⟩)) (some 13) [] rfl rfl (by kernel_rfl) (by kernel_rfl) (by kernel_rfl) (by kernel_rfl) (by kernel_rfl) (fun _ _ _ h => h) (fun m W _ _ h => (HSD.out _ _).2 ((HSD.out _ _).1 h)) (Or.inl ⟨by rfl, by rintro V ⟨m, hm, h9⟩; have h0 := (HSD.out _ _).1 h9; go_simp⟩) (hS _) ?_
  try simp only [Act.put, List.setIfInBounds_toArray, List.set_cons_zero, List.set_cons_succ]
  refine takeT (i := 8) (v := .int .i64 l.credit) (some 14) [] rfl rfl (by kernel_rfl) (by kernel_rfl) (by kernel_rfl) (by kernel_rfl) (by kernel_rfl) (fun _ _ _ h => h) (fun m W _ _ h => (HSD.out _ _).2 ((HSD.out _ _).1 h)) (Or.inl ⟨by rfl, by rintro V ⟨m', hm, h9⟩; have h0 : V.cell? ⟨q, 7, none⟩ = some (.int .i64 l.credit) := ((HSD.out _ _).1 h9).cs 7 _ rfl; go_simp⟩) (hS _) ?_
  try simp only [Act.put, List.setIfInBounds_toArray, List.set_cons_zero, List.set_cons_succ]
  refine takeT (i := 9) (v := .pointer (some ⟨q, 0, none⟩)) (some 15) [] rfl rfl (by kernel_rfl) (by kernel_rfl) (by kernel_rfl) (by kernel_rfl) (by kernel_rfl) (fun _ _ _ h => h) (fun m W _ _ h => (HSD.out _ _).2 ((HSD.out _ _).1 h)) (Or.inl ⟨by rfl, by rintro V ⟨m, hm, h9⟩; have h0 := (HSD.out _ _).1 h9; go_simp⟩) (hS _) ?_
  try simp only [Act.put, List.setIfInBounds_toArray, List.set_cons_zero, List.set_cons_succ]
  refine takeT (i := 10) (v := .pointer (some ⟨q, 0, none⟩)) (some 16) [] rfl rfl (by kernel_rfl) (by kernel_rfl) (by kernel_rfl) (by kernel_rfl) (by kernel_rfl) (fun _ _ _ h => h) (fun m W _ _ h => (HSD.out _ _).2 ((HSD.out _ _).1 h)) (Or.inl ⟨by rfl, by rintro V ⟨m, hm, h9⟩; have h0 := (HSD.out _ _).1 h9; go_simp⟩) (hS _) ?_
  try simp only [Act.put, List.setIfInBounds_toArray, List.set_cons_zero, List.set_cons_succ]
  refine takeT (i := 11) (v := .pointer (some ⟨q, 9, none⟩)) (some 17) [] rfl rfl (by kernel_rfl) (by kernel_rfl) (by kernel_rfl) (by kernel_rfl) (by kernel_rfl) (fun _ _ _ h => h) (fun m W _ _ h => (HSD.out _ _).2 ((HSD.out _ _).1 h)) (Or.inl ⟨by rfl, by rintro V ⟨m, hm, h9⟩; have h0 := (HSD.out _ _).1 h9; go_simp⟩) (hS _) ?_
  try simp only [Act.put, List.setIfInBounds_toArray, List.set_cons_zero, List.set_cons_succ]
  refine takeT (i := 12) (v := .int .i64 l.wait) (some 18) [] rfl rfl (by kernel_rfl) (by kernel_rfl) (by kernel_rfl) (by kernel_rfl) (by kernel_rfl) (fun _ _ _ h => h) (fun m W _ _ h => (HSD.out _ _).2 ((HSD.out _ _).1 h)) (Or.inl ⟨by rfl, by rintro V ⟨m', hm, h9⟩; have h0 : V.cell? ⟨q, 9, none⟩ = some (.int .i64 l.wait) := ((HSD.out _ _).1 h9).cs 9 _ rfl; go_simp⟩) (hS _) ?_
  try simp only [Act.put, List.setIfInBounds_toArray, List.set_cons_zero, List.set_cons_succ]
  refine takeT (i := 13) (v := .pointer (some ⟨q, 0, none⟩)) (some 19) [] rfl rfl (by kernel_rfl) (by kernel_rfl) (by kernel_rfl) (by kernel_rfl) (by kernel_rfl) (fun _ _ _ h => h) (fun m W _ _ h => (HSD.out _ _).2 ((HSD.out _ _).1 h)) (Or.inl ⟨by rfl, by rintro V ⟨m, hm, h9⟩; have h0 := (HSD.out _ _).1 h9; go_simp⟩) (hS _) ?_
  try simp only [Act.put, List.setIfInBounds_toArray, List.set_cons_zero, List.set_cons_succ]
  refine takeT (i := 14) (v := .pointer (some ⟨q, 0, none⟩)) (some 20) [] rfl rfl (by kernel_rfl) (by kernel_rfl) (by kernel_rfl) (by kernel_rfl) (by kernel_rfl) (fun _ _ _ h => h) (fun m W _ _ h => (HSD.out _ _).2 ((HSD.out _ _).1 h)) (Or.inl ⟨by rfl, by rintro V ⟨m, hm, h9⟩; have h0 := (HSD.out _ _).1 h9; go_simp⟩) (hS _) ?_
  try simp only [Act.put, List.setIfInBounds_toArray, List.set_cons_zero, List.set_cons_succ]
  refine takeT (i := 15) (v := .pointer (some ⟨q, 10, none⟩)) (some 21) [] rfl rfl (by kernel_rfl) (by kernel_rfl) (by kernel_rfl) (by kernel_rfl) (by kernel_rfl) (fun _ _ _ h => h) (fun m W _ _ h => (HSD.out _ _).2 ((HSD.out _ _).1 h)) (Or.inl ⟨by rfl, by rintro V ⟨m, hm, h9⟩; have h0 := (HSD.out _ _).1 h9; go_simp⟩) (hS _) ?_
  try simp only [Act.put, List.setIfInBounds_toArray, List.set_cons_zero, List.set_cons_succ]
  refine takeT (i := 16) (v := .bool l.drain) (some 22) [] rfl rfl (by kernel_rfl) (by kernel_rfl) (by kernel_rfl) (by kernel_rfl) (by kernel_rfl) (fun _ _ _ h => h) (fun m W _ _ h => (HSD.out _ _).2 ((HSD.out _ _).1 h)) (Or.inl ⟨by rfl, by rintro V ⟨m', hm, h9⟩; have h0 : V.cell? ⟨q, 10, none⟩ = some (.bool l.drain) := ((HSD.out _ _).1 h9).cs 10 _ rfl; go_simp⟩) (hS _) ?_
  try simp only [Act.put, List.setIfInBounds_toArray, List.set_cons_zero, List.set_cons_succ]
  refine takeT (i := 17) (v := .agg (perfC 19 (-1) hd l.count l.credit l.wait l.drain)) (some 23) [] rfl rfl (by kernel_rfl) (by kernel_rfl) (by kernel_rfl) (by kernel_rfl) (by kernel_rfl) (fun _ _ _ h => h) (fun m W _ _ h => (HSD.out _ _).2 ((HSD.out _ _).1 h)) (Or.inl ⟨by rfl, by rintro V ⟨m', hm, h9⟩; kernel_rfl⟩) (hS _) ?_
  try simp only [Act.put, List.setIfInBounds_toArray, List.set_cons_zero, List.set_cons_succ]
  refine wpAnyT_all (rs := [18]) (by kernel_rfl) (by simp) ?_
  intro i5 hi5
  simp only [List.mem_cons, List.not_mem_nil, or_false] at hi5
  subst hi5
  refine stepT (i := 18) rfl (by rfl) (fun K5 h5 => ?_)
  go_simp
  have hb1 : Below w0.heap.size w0 (w0.drew.alloc (.cells (perfC 0 0 0 0 0 0 false) 38)) := (bdrew (Below.refl _ _)).alloc (Nat.le_refl _) _
  have oz : (w0.drew.alloc (.cells (perfC 0 0 0 0 0 0 false) 38)).heap[w0.drew.heap.size]? = some (.cells (perfC 0 0 0 0 0 0 false) 38 (0, 0)) := _root_.Go.heap_alloc_new _ _
  change K5 _ (w0.drew.alloc (.cells (perfC 0 0 0 0 0 0 false) 38))
  generalize (w0.drew.alloc (.cells (perfC 0 0 0 0 0 0 false) 38)) = w1 at *
  obtain ⟨z, hz⟩ : ∃ z, w0.heap.size = z := ⟨_, rfl⟩
  have hz' : w0.drew.heap.size = z := hz
  rw [hz'] at oz
  rw [hz]
  refine h5.out _ _ ((HSD.out _ _).2 (H0.out.blw hb1)) ?_
  clear h5
  try simp only [Act.put, List.setIfInBounds_toArray, List.set_cons_zero, List.set_cons_succ]
  refine wpAnyT_all (rs := [19]) (by kernel_rfl) (by simp) ?_
  intro i5 hi5
  simp only [List.mem_cons, List.not_mem_nil, or_false] at hi5
  subst hi5
  refine stepT (i := 19) rfl (by rfl) (fun K5 h5 => ?_)
  refine wp_store_rowTo 38 (.tmp 5) (.tmp 23) rfl rfl z (perfC 19 (-1) hd l.count l.credit l.wait l.drain) rfl rfl 38 (perfC 0 0 0 0 0 0 false) oz (by rw [perf_size]; exact size_perf) (by rw [perf_size, perf_size]) (perf_one _ _ _ _ _ _ _) ?_
  have oz2 := setRow_heap w1 z _ (perfC 19 (-1) hd l.count l.credit l.wait l.drain) _ _ oz
  have hb2 : Below w0.heap.size w0 (w1.setRow z (perfC 19 (-1) hd l.count l.credit l.wait l.drain)) := below_setRow hb1 (Nat.le_of_eq hz) _
  generalize (w1.setRow z (perfC 19 (-1) hd l.count l.credit l.wait l.drain)) = w2 at *
  refine h5.out _ _ ((HSD.out _ _).2 (H0.out.blw hb2)) ?_
  clear h5
  try simp only [Act.put, List.setIfInBounds_toArray, List.set_cons_zero, List.set_cons_succ]
  refine wpAnyT_done (by kernel_rfl) ?_ _
  have h2 := H0.out.blw hb2
  have c1 : w2.cell? ⟨q, 1, none⟩ = some (.bool l.rc) := h2.cs 1 _ rfl
  have ox2 := (hb2.block x (Array.getElem?_eq_some_iff.1 HX.out.1).1).trans HX.out.1
  have hbw : Below w.heap.size w w2 := HX.out.2.1.trans (hb2.mono HX.out.2.1.size)
  have hxz : x ≠ z := by have := (Array.getElem?_eq_some_iff.1 HX.out.1).1; omega
  have HWZ := Lib.hid (show w.heap.size ≤ z by have := HX.out.2.1.size; omega)
  have HF := Lib.hid (And.intro ox2 (And.intro oz2 (And.intro hbw hxz)))
  clear h2 ox2 hbw hb1 oz hz hz' oz2 hb2 hS hxz
  cases hrc : l.rc
  · rw [hrc] at c1
    have hf : fieldsC l hd = perfC 19 (-1) hd l.count l.credit l.wait l.drain := by unfold fieldsC; rw [hrc]; rfl
    have HFF := Lib.hid hf
    have HRZ := Lib.hid (range_of_row HF.out.2.1)
    have HSZ := Lib.hid (show (Try.prog.info? 38).map (·.size) = some (perfC 19 (-1) hd l.count l.credit l.wait l.drain).toList.length by rw [Array.length_toList, perf_size]; exact size_perf)
    clear hf hrc
    go_wp2_with (first
      | (refine wpList_load_midTo rfl 38 (.tmp 5) rfl (some 30) rfl z 0 rfl (perfC 19 (-1) hd l.count l.credit l.wait l.drain) _ HRZ.out Try.underlying38 rfl HSZ.out ?_)
      | (refine wpList_store_rowTo rfl 38 (.tmp 4) (.tmp 30) rfl rfl x (perfC 19 (-1) hd l.count l.credit l.wait l.drain) rfl rfl 38 (perfC 0 0 0 0 0 0 false) HF.out.1 (by rw [perf_size]; exact size_perf) (by rw [perf_size, perf_size]) (perf_one _ _ _ _ _ _ _) ?_))
    have hh := setRow_heap w2 x _ (perfC 19 (-1) hd l.count l.credit l.wait l.drain) _ _ HF.out.1
    have hB := below_setRow HF.out.2.2.1 (Nat.le_of_eq HX.out.2.2) (perfC 19 (-1) hd l.count l.credit l.wait l.drain)
    refine bodyPost_ret (results_cell_row (p := 4) (ty := 38) (by kernel_rfl) _ _ x 38 _ (0, 0) _ rfl hh Try.underlying38 rfl (by rw [perf_size]; exact size_perf)) rfl ?_
    exact ⟨by rw [HFF.out], hB⟩
  · rw [hrc] at c1
    have hf : fieldsC l hd = perfC 19 (-1) hd l.count l.credit (-1) l.drain := by unfold fieldsC; rw [hrc]; rfl
    have HFF := Lib.hid hf
    have z86 : w2.cell? ⟨z, 86, none⟩ = some (.int .i64 l.wait) := (cell_of_row _ _ 86 _ _ _ HF.out.2.1).trans (perf_is _ _ _ _ _ _ _).a
    have f86 : w2.frozen? ⟨z, 86, none⟩ = false := by simp [World.frozen?, HF.out.2.1]
    have oz3 : (w2.setCell ⟨z, 86, none⟩ (.int .i64 (-1))).heap[z]? = some (.cells (perfC 19 (-1) hd l.count l.credit (-1) l.drain) 38 (0, 0)) := by rw [heap_setCell_same w2 z 86 _ _ _ HF.out.2.1, perf_set86]
    have ox3 : (w2.setCell ⟨z, 86, none⟩ (.int .i64 (-1))).heap[x]? = some (.cells (perfC 0 0 0 0 0 0 false) 38 (0, 0)) := (set_farV HF.out.2.2.2).trans HF.out.1
    have hb3 : Below w.heap.size w (w2.setCell ⟨z, 86, none⟩ (.int .i64 (-1))) := HF.out.2.2.1.setCell (p := ⟨z, 86, none⟩) HWZ.out _
    have HF3 := Lib.hid (And.intro ox3 (And.intro oz3 hb3))
    have HRZ := Lib.hid (range_of_row HF3.out.2.1)
    have HSZ := Lib.hid (show (Try.prog.info? 38).map (·.size) = some (perfC 19 (-1) hd l.count l.credit (-1) l.drain).toList.length by rw [Array.length_toList, perf_size]; exact size_perf)
    clear hf hrc oz3 ox3 hb3
    go_upto_region 4 with fail
    change Code.wp _ _ _ _ (w2.setCell ⟨z, 86, none⟩ (.int .i64 (-1)))
    clear z86 f86 c1
    generalize (w2.setCell ⟨z, 86, none⟩ (.int .i64 (-1))) = w3 at *
    go_wp2_with (first
      | (refine wpList_load_midTo rfl 38 (.tmp 5) rfl (some 30) rfl z 0 rfl (perfC 19 (-1) hd l.count l.credit (-1) l.drain) _ HRZ.out Try.underlying38 rfl HSZ.out ?_)
      | (refine wpList_store_rowTo rfl 38 (.tmp 4) (.tmp 30) rfl rfl x (perfC 19 (-1) hd l.count l.credit (-1) l.drain) rfl rfl 38 (perfC 0 0 0 0 0 0 false) HF3.out.1 (by rw [perf_size]; exact size_perf) (by rw [perf_size, perf_size]) (perf_one _ _ _ _ _ _ _) ?_))
    have hh := setRow_heap w3 x _ (perfC 19 (-1) hd l.count l.credit (-1) l.drain) _ _ HF3.out.1
    have hB := below_setRow HF3.out.2.2 (Nat.le_of_eq HX.out.2.2) (perfC 19 (-1) hd l.count l.credit (-1) l.drain)
    refine bodyPost_ret (results_cell_row (p := 4) (ty := 38) (by kernel_rfl) _ _ x 38 _ (0, 0) _ rfl hh Try.underlying38 rfl (by rw [perf_size]; exact size_perf)) rfl ?_
    exact ⟨by rw [HFF.out], hB⟩

end Go.Proofs.Ytcbjfakkikjbkaa
