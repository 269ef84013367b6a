/-
  A link's See. Conditions: the link lies in memory.
-/
import Derived.Test.YtcbjfakkikjbkaaKx
namespace Go.Proofs.Ytcbjfakkikjbkaa
open Go.RowKit Go.Maps
set_option linter.all false

def seeC (l : Lk) : Array Value := #[.string l.name, .bool l.rc, .int .i64 l.count, .int .i64 l.credit, .int .i64 l.wait, .bool l.drain, .int .i64 l.all.length]
def seeZ : Array Value := #[.string ⟨#[]⟩, .bool false, .int .i64 0, .int .i64 0, .int .i64 0, .bool false, .int .i64 0]
theorem size_see : (Try.prog.info? 68).map (·.size) = some 7 := by kernel_rfl
set_option maxRecDepth 20000 in
set_option maxHeartbeats 8000000 in
theorem see_any (w : World) (q m : Nat) (G : Nat → Prop) (l : Lk) (h : LkIn w q m G l) :
    Calls Try.prog 21 #[.pointer (some ⟨q, 0, none⟩)] w fun e w' => e = .returned (.agg (seeC l)) ∧ Below w.heap.size w w' := by
  have H := Lib.hid h
  clear h
  go_enter Try.func21, Try.ntmps21
  go_upto_region 1 with fail
  have hb0 : Below w.heap.size w (w.alloc (.cells seeZ 68)) := (Below.refl _ _).alloc (Nat.le_refl _) _
  have ox : (w.alloc (.cells seeZ 68)).heap[w.heap.size]? = some (.cells seeZ 68 (0, 0)) := _root_.Go.heap_alloc_new _ _
  change Code.wp _ _ _ _ (w.alloc (.cells seeZ 68))
  generalize (w.alloc (.cells seeZ 68)) = w0 at *
  obtain ⟨x, hx⟩ : ∃ x, w.heap.size = x := ⟨_, rfl⟩
  rw [hx] at ox ⊢
  have HX := Lib.hid (And.intro ox (And.intro hb0 hx))
  have H0 := Lib.hid (H.out.blw hb0)
  clear ox hb0 hx
  obtain ⟨S, hSd⟩ : ∃ S : Array Bool → World → Prop, ∀ L V, S L V ↔ LkIn V q m G l := ⟨_, fun _ _ => Iff.rfl⟩
  have HSD := Lib.hid hSd
  clear hSd
  refine wp_region_T S 33 rfl (by kernel_rfl) ?_
  have hS : ∀ L : Array Bool, S L w0.drew := fun L => (HSD.out _ _).2 (H0.out.blw (bdrew (Below.refl _ _)))
  refine takeT (i := 0) (v := .pointer (some ⟨q, 0, none⟩)) (some 3) [] rfl rfl (by kernel_rfl) (by kernel_rfl) (by kernel_rfl) (by kernel_rfl) (by kernel_rfl) (fun _ _ _ h => h) (fun m W _ _ h => (HSD.out _ _).2 ((HSD.out _ _).1 h)) (Or.inl ⟨by rfl, by rintro V ⟨m, hm, h9⟩; have h0 := (HSD.out _ _).1 h9; go_simp⟩) (hS _) ?_
  try simp only [Act.put, List.setIfInBounds_toArray, List.set_cons_zero, List.set_cons_succ]
  refine takeT (i := 1) (v := .pointer (some ⟨q, 0, none⟩)) (some 4) [] rfl rfl (by kernel_rfl) (by kernel_rfl) (by kernel_rfl) (by kernel_rfl) (by kernel_rfl) (fun _ _ _ h => h) (fun m W _ _ h => (HSD.out _ _).2 ((HSD.out _ _).1 h)) (Or.inl ⟨by rfl, by rintro V ⟨m, hm, h9⟩; have h0 := (HSD.out _ _).1 h9; go_simp⟩) (hS _) ?_
  try simp only [Act.put, List.setIfInBounds_toArray, List.set_cons_zero, List.set_cons_succ]
  refine takeT (i := 2) (v := .pointer (some ⟨q, 0, none⟩)) (some 5) [] rfl rfl (by kernel_rfl) (by kernel_rfl) (by kernel_rfl) (by kernel_rfl) (by kernel_rfl) (fun _ _ _ h => h) (fun m W _ _ h => (HSD.out _ _).2 ((HSD.out _ _).1 h)) (Or.inl ⟨by rfl, by rintro V ⟨m, hm, h9⟩; have h0 := (HSD.out _ _).1 h9; go_simp⟩) (hS _) ?_
  try simp only [Act.put, List.setIfInBounds_toArray, List.set_cons_zero, List.set_cons_succ]
  refine takeT (i := 3) (v := .pointer (some ⟨q, 0, none⟩)) (some 6) [] rfl rfl (by kernel_rfl) (by kernel_rfl) (by kernel_rfl) (by kernel_rfl) (by kernel_rfl) (fun _ _ _ h => h) (fun m W _ _ h => (HSD.out _ _).2 ((HSD.out _ _).1 h)) (Or.inl ⟨by rfl, by rintro V ⟨m, hm, h9⟩; have h0 := (HSD.out _ _).1 h9; go_simp⟩) (hS _) ?_
  try simp only [Act.put, List.setIfInBounds_toArray, List.set_cons_zero, List.set_cons_succ]
  refine takeT (i := 4) (v := .string l.name) (some 7) [] rfl rfl (by kernel_rfl) (by kernel_rfl) (by kernel_rfl) (by kernel_rfl) (by kernel_rfl) (fun _ _ _ h => h) (fun m W _ _ h => (HSD.out _ _).2 ((HSD.out _ _).1 h)) (Or.inl ⟨by rfl, by rintro V ⟨m', hm, h9⟩; have h0 : V.cell? ⟨q, 0, none⟩ = some (.string l.name) := ((HSD.out _ _).1 h9).cs 0 _ rfl; go_simp⟩) (hS _) ?_
  try simp only [Act.put, List.setIfInBounds_toArray, List.set_cons_zero, List.set_cons_succ]
  refine takeT (i := 5) (v := .pointer (some ⟨q, 0, none⟩)) (some 8) [] rfl rfl (by kernel_rfl) (by kernel_rfl) (by kernel_rfl) (by kernel_rfl) (by kernel_rfl) (fun _ _ _ h => h) (fun m W _ _ h => (HSD.out _ _).2 ((HSD.out _ _).1 h)) (Or.inl ⟨by rfl, by rintro V ⟨m, hm, h9⟩; have h0 := (HSD.out _ _).1 h9; go_simp⟩) (hS _) ?_
  try simp only [Act.put, List.setIfInBounds_toArray, List.set_cons_zero, List.set_cons_succ]
  refine takeT (i := 6) (v := .pointer (some ⟨q, 0, none⟩)) (some 9) [] rfl rfl (by kernel_rfl) (by kernel_rfl) (by kernel_rfl) (by kernel_rfl) (by kernel_rfl) (fun _ _ _ h => h) (fun m W _ _ h => (HSD.out _ _).2 ((HSD.out _ _).1 h)) (Or.inl ⟨by rfl, by rintro V ⟨m, hm, h9⟩; have h0 := (HSD.out _ _).1 h9; go_simp⟩) (hS _) ?_
  try simp only [Act.put, List.setIfInBounds_toArray, List.set_cons_zero, List.set_cons_succ]
  refine takeT (i := 7) (v := .pointer (some ⟨q, 0, none⟩)) (some 10) [] rfl rfl (by kernel_rfl) (by kernel_rfl) (by kernel_rfl) (by kernel_rfl) (by kernel_rfl) (fun _ _ _ h => h) (fun m W _ _ h => (HSD.out _ _).2 ((HSD.out _ _).1 h)) (Or.inl ⟨by rfl, by rintro V ⟨m, hm, h9⟩; have h0 := (HSD.out _ _).1 h9; go_simp⟩) (hS _) ?_
  try simp only [Act.put, List.setIfInBounds_toArray, List.set_cons_zero, List.set_cons_succ]
  refine takeT (i := 8) (v := .pointer (some ⟨q, 1, none⟩)) (some 11) [] rfl rfl (by kernel_rfl) (by kernel_rfl) (by kernel_rfl) (by kernel_rfl) (by kernel_rfl) (fun _ _ _ h => h) (fun m W _ _ h => (HSD.out _ _).2 ((HSD.out _ _).1 h)) (Or.inl ⟨by rfl, by rintro V ⟨m, hm, h9⟩; have h0 := (HSD.out _ _).1 h9; go_simp⟩) (hS _) ?_
  try simp only [Act.put, List.setIfInBounds_toArray, List.set_cons_zero, List.set_cons_succ]
  refine takeT (i := 9) (v := .bool l.rc) (some 12) [] rfl rfl (by kernel_rfl) (by kernel_rfl) (by kernel_rfl) (by kernel_rfl) (by kernel_rfl) (fun _ _ _ h => h) (fun m W _ _ h => (HSD.out _ _).2 ((HSD.out _ _).1 h)) (Or.inl ⟨by rfl, by rintro V ⟨m', hm, h9⟩; have h0 : V.cell? ⟨q, 1, none⟩ = some (.bool l.rc) := ((HSD.out _ _).1 h9).cs 1 _ rfl; go_simp⟩) (hS _) ?_
  try simp only [Act.put, List.setIfInBounds_toArray, List.set_cons_zero, List.set_cons_succ]
  refine takeT (i := 10) (v := .pointer (some ⟨q, 0, none⟩)) (some 13) [] rfl rfl (by kernel_rfl) (by kernel_rfl) (by kernel_rfl) (by kernel_rfl) (by kernel_rfl) (fun _ _ _ h => h) (fun m W _ _ h => (HSD.out _ _).2 ((HSD.out _ _).1 h)) (Or.inl ⟨by rfl, by rintro V ⟨m, hm, h9⟩; have h0 := (HSD.out _ _).1 h9; go_simp⟩) (hS _) ?_
  try simp only [Act.put, List.setIfInBounds_toArray, List.set_cons_zero, List.set_cons_succ]
  refine takeT (i := 11) (v := .pointer (some ⟨q, 0, none⟩)) (some 14) [] rfl rfl (by kernel_rfl) (by kernel_rfl) (by kernel_rfl) (by kernel_rfl) (by kernel_rfl) (fun _ _ _ h => h) (fun m W _ _ h => (HSD.out _ _).2 ((HSD.out _ _).1 h)) (Or.inl ⟨by rfl, by rintro V ⟨m, hm, h9⟩; have h0 := (HSD.out _ _).1 h9; go_simp⟩) (hS _) ?_
  try simp only [Act.put, List.setIfInBounds_toArray, List.set_cons_zero, List.set_cons_succ]
  refine takeT (i := 12) (v := .pointer (some ⟨q, 6, none⟩)) (some 15) [] rfl rfl (by kernel_rfl) (by kernel_rfl) (by kernel_rfl) (by kernel_rfl) (by kernel_rfl) (fun _ _ _ h => h) (fun m W _ _ h => (HSD.out _ _).2 ((HSD.out _ _).1 h)) (Or.inl ⟨by rfl, by rintro V ⟨m, hm, h9⟩; have h0 := (HSD.out _ _).1 h9; go_simp⟩) (hS _) ?_
  try simp only [Act.put, List.setIfInBounds_toArray, List.set_cons_zero, List.set_cons_succ]
  refine takeT (i := 13) (v := .int .i64 l.count) (some 16) [] rfl rfl (by kernel_rfl) (by kernel_rfl) (by kernel_rfl) (by kernel_rfl) (by kernel_rfl) (fun _ _ _ h => h) (fun m W _ _ h => (HSD.out _ _).2 ((HSD.out _ _).1 h)) (Or.inl ⟨by rfl, by rintro V ⟨m', hm, h9⟩; have h0 : V.cell? ⟨q, 6, none⟩ = some (.int .i64 l.count) := ((HSD.out _ _).1 h9).cs 6 _ rfl; go_simp⟩) (hS _) ?_
  try simp only [Act.put, List.setIfInBounds_toArray, List.set_cons_zero, List.set_cons_succ]
  refine takeT (i := 14) (v := .pointer (some ⟨q, 0, none⟩)) (some 17) [] rfl rfl (by kernel_rfl) (by kernel_rfl) (by kernel_rfl) (by kernel_rfl) (by kernel_rfl) (fun _ _ _ h => h) (fun m W _ _ h => (HSD.out _ _).2 ((HSD.out _ _).1 h)) (Or.inl ⟨by rfl, by rintro V ⟨m, hm, h9⟩; have h0 := (HSD.out _ _).1 h9; go_simp⟩) (hS _) ?_
  try simp only [Act.put, List.setIfInBounds_toArray, List.set_cons_zero, List.set_cons_succ]
  refine takeT (i := 15) (v := .pointer (some ⟨q, 0, none⟩)) (some 18) [] rfl rfl (by kernel_rfl) (by kernel_rfl) (by kernel_rfl) (by kernel_rfl) (by kernel_rfl) (fun _ _ _ h => h) (fun m W _ _ h => (HSD.out _ _).2 ((HSD.out _ _).1 h)) (Or.inl ⟨by rfl, by rintro V ⟨m, hm, h9⟩; have h0 := (HSD.out _ _).1 h9; go_simp⟩) (hS _) ?_
  try simp only [Act.put, List.setIfInBounds_toArray, List.set_cons_zero, List.set_cons_succ]
  refine takeT (i := 16) (v := .pointer (some ⟨q, 7, none⟩)) (some 19) [] rfl rfl (by kernel_rfl) (by kernel_rfl) (by kernel_rfl) (by kernel_rfl) (by kernel_rfl) (fun _ _ _ h => h) (fun m W _ _ h => (HSD.out _ _).2 ((HSD.out _ _).1 h)) (Or.inl ⟨by rfl, by rintro V ⟨m, hm, h9⟩; have h0 := (HSD.out _ _).1 h9; go_simp⟩) (hS _) ?_
  try simp only [Act.put, List.setIfInBounds_toArray, List.set_cons_zero, List.set_cons_succ]
  refine takeT (i := 17) (v := .int .i64 l.credit) (some 20) [] rfl rfl (by kernel_rfl) (by kernel_rfl) (by kernel_rfl) (by kernel_rfl) (by kernel_rfl) (fun _ _ _ h => h) (fun m W _ _ h => (HSD.out _ _).2 ((HSD.out _ _).1 h)) (Or.inl ⟨by rfl, by rintro V ⟨m', hm, h9⟩; have h0 : V.cell? ⟨q, 7, none⟩ = some (.int .i64 l.credit) := ((HSD.out _ _).1 h9).cs 7 _ rfl; go_simp⟩) (hS _) ?_
  try simp only [Act.put, List.setIfInBounds_toArray, List.set_cons_zero, List.set_cons_succ]
  refine takeT (i := 18) (v := .pointer (some ⟨q, 0, none⟩)) (some 21) [] rfl rfl (by kernel_rfl) (by kernel_rfl) (by kernel_rfl) (by kernel_rfl) (by kernel_rfl) (fun _ _ _ h => h) (fun m W _ _ h => (HSD.out _ _).2 ((HSD.out _ _).1 h)) (Or.inl ⟨by rfl, by rintro V ⟨m, hm, h9⟩; have h0 := (HSD.out _ _).1 h9; go_simp⟩) (hS _) ?_
  try simp only [Act.put, List.setIfInBounds_toArray, List.set_cons_zero, List.set_cons_succ]
  refine takeT (i := 19) (v := .pointer (some ⟨q, 0, none⟩)) (some 22) [] rfl rfl (by kernel_rfl) (by kernel_rfl) (by kernel_rfl) (by kernel_rfl) (by kernel_rfl) (fun _ _ _ h => h) (fun m W _ _ h => (HSD.out _ _).2 ((HSD.out _ _).1 h)) (Or.inl ⟨by rfl, by rintro V ⟨m, hm, h9⟩; have h0 := (HSD.out _ _).1 h9; go_simp⟩) (hS _) ?_
  try simp only [Act.put, List.setIfInBounds_toArray, List.set_cons_zero, List.set_cons_succ]
  refine takeT (i := 20) (v := .pointer (some ⟨q, 9, none⟩)) (some 23) [] rfl rfl (by kernel_rfl) (by kernel_rfl) (by kernel_rfl) (by kernel_rfl) (by kernel_rfl) (fun _ _ _ h => h) (fun m W _ _ h => (HSD.out _ _).2 ((HSD.out _ _).1 h)) (Or.inl ⟨by rfl, by rintro V ⟨m, hm, h9⟩; have h0 := (HSD.out _ _).1 h9; go_simp⟩) (hS _) ?_
  try simp only [Act.put, List.setIfInBounds_toArray, List.set_cons_zero, List.set_cons_succ]
  refine takeT (i := 21) (v := .int .i64 l.wait) (some 24) [] rfl rfl (by kernel_rfl) (by kernel_rfl) (by kernel_rfl) (by kernel_rfl) (by kernel_rfl) (fun _ _ _ h => h) (fun m W _ _ h => (HSD.out _ _).2 ((HSD.out _ _).1 h)) (Or.inl ⟨by rfl, by rintro V ⟨m', hm, h9⟩; have h0 : V.cell? ⟨q, 9, none⟩ = some (.int .i64 l.wait) := ((HSD.out _ _).1 h9).cs 9 _ rfl; go_simp⟩) (hS _) ?_
  try simp only [Act.put, List.setIfInBounds_toArray, List.set_cons_zero, List.set_cons_succ]
  refine takeT (i := 22) (v := .pointer (some ⟨q, 0, none⟩)) (some 25) [] rfl rfl (by kernel_rfl) (by kernel_rfl) (by kernel_rfl) (by kernel_rfl) (by kernel_rfl) (fun _ _ _ h => h) (fun m W _ _ h => (HSD.out _ _).2 ((HSD.out _ _).1 h)) (Or.inl ⟨by rfl, by rintro V ⟨m, hm, h9⟩; have h0 := (HSD.out _ _).1 h9; go_simp⟩) (hS _) ?_
  try simp only [Act.put, List.setIfInBounds_toArray, List.set_cons_zero, List.set_cons_succ]
  refine takeT (i := 23) (v := .pointer (some ⟨q, 0, none⟩)) (some 26) [] rfl rfl (by kernel_rfl) (by kernel_rfl) (by kernel_rfl) (by kernel_rfl) (by kernel_rfl) (fun _ _ _ h => h) (fun m W _ _ h => (HSD.out _ _).2 ((HSD.out _ _).1 h)) (Or.inl ⟨by rfl, by rintro V ⟨m, hm, h9⟩; have h0 := (HSD.out _ _).1 h9; go_simp⟩) (hS _) ?_
  try simp only [Act.put, List.setIfInBounds_toArray, List.set_cons_zero, List.set_cons_succ]
  refine takeT (i := 24) (v := .pointer (some ⟨q, 10, none⟩)) (some 27) [] rfl rfl (by kernel_rfl) (by kernel_rfl) (by kernel_rfl) (by kernel_rfl) (by kernel_rfl) (fun _ _ _ h => h) (fun m W _ _ h => (HSD.out _ _).2 ((HSD.out _ _).1 h)) (Or.inl ⟨by rfl, by rintro V ⟨m, hm, h9⟩; have h0 := (HSD.out _ _).1 h9; go_simp⟩) (hS _) ?_
  try simp only [Act.put, List.setIfInBounds_toArray, List.set_cons_zero, List.set_cons_succ]
  refine takeT (i := 25) (v := .bool l.drain) (some 28) [] rfl rfl (by kernel_rfl) (by kernel_rfl) (by kernel_rfl) (by kernel_rfl) (by kernel_rfl) (fun _ _ _ h => h) (fun m W _ _ h => (HSD.out _ _).2 ((HSD.out _ _).1 h)) (Or.inl ⟨by rfl, by rintro V ⟨m', hm, h9⟩; have h0 : V.cell? ⟨q, 10, none⟩ = some (.bool l.drain) := ((HSD.out _ _).1 h9).cs 10 _ rfl; go_simp⟩) (hS _) ?_
  try simp only [Act.put, List.setIfInBounds_toArray, List.set_cons_zero, List.set_cons_succ]
  refine takeT (i := 26) (v := .pointer (some ⟨q, 0, none⟩)) (some 29) [] rfl rfl (by kernel_rfl) (by kernel_rfl) (by kernel_rfl) (by kernel_rfl) (by kernel_rfl) (fun _ _ _ h => h) (fun m W _ _ h => (HSD.out _ _).2 ((HSD.out _ _).1 h)) (Or.inl ⟨by rfl, by rintro V ⟨m, hm, h9⟩; have h0 := (HSD.out _ _).1 h9; go_simp⟩) (hS _) ?_
  try simp only [Act.put, List.setIfInBounds_toArray, List.set_cons_zero, List.set_cons_succ]
  refine takeT (i := 27) (v := .pointer (some ⟨q, 0, none⟩)) (some 30) [] rfl rfl (by kernel_rfl) (by kernel_rfl) (by kernel_rfl) (by kernel_rfl) (by kernel_rfl) (fun _ _ _ h => h) (fun m W _ _ h => (HSD.out _ _).2 ((HSD.out _ _).1 h)) (Or.inl ⟨by rfl, by rintro V ⟨m, hm, h9⟩; have h0 := (HSD.out _ _).1 h9; go_simp⟩) (hS _) ?_
  try simp only [Act.put, List.setIfInBounds_toArray, List.set_cons_zero, List.set_cons_succ]
  refine takeT (i := 28) (v := .pointer (some ⟨q, 11, none⟩)) (some 31) [] rfl rfl (by kernel_rfl) (by kernel_rfl) (by kernel_rfl) (by kernel_rfl) (by kernel_rfl) (fun _ _ _ h => h) (fun m W _ _ h => (HSD.out _ _).2 ((HSD.out _ _).1 h)) (Or.inl ⟨by rfl, by rintro V ⟨m, hm, h9⟩; have h0 := (HSD.out _ _).1 h9; go_simp⟩) (hS _) ?_
  try simp only [Act.put, List.setIfInBounds_toArray, List.set_cons_zero, List.set_cons_succ]
  refine takeT (i := 29) (v := .map (some m)) (some 32) [] rfl rfl (by kernel_rfl) (by kernel_rfl) (by kernel_rfl) (by kernel_rfl) (by kernel_rfl) (fun _ _ _ h => h) (fun m W _ _ h => (HSD.out _ _).2 ((HSD.out _ _).1 h)) (Or.inl ⟨by rfl, by rintro V ⟨m', hm, h9⟩; have h0 : V.cell? ⟨q, 11, none⟩ = some (.map (some m)) := ((HSD.out _ _).1 h9).cs 11 _ rfl; go_simp⟩) (hS _) ?_
  try simp only [Act.put, List.setIfInBounds_toArray, List.set_cons_zero, List.set_cons_succ]
  refine takeT (i := 30) (v := .int .i64 l.all.length) (some 33) [] rfl rfl (by kernel_rfl) (by kernel_rfl) (by kernel_rfl) (by kernel_rfl) (by kernel_rfl) (fun _ _ _ h => h) (fun m W _ _ h => (HSD.out _ _).2 ((HSD.out _ _).1 h)) (Or.inl ⟨by rfl, by rintro V ⟨m', hm, h9⟩; have h0 := ((HSD.out _ _).1 h9).map.len Try.underlying74 3; rw [ents_len] at h0; go_simp⟩) (hS _) ?_
  try simp only [Act.put, List.setIfInBounds_toArray, List.set_cons_zero, List.set_cons_succ]
  refine takeT (i := 31) (v := .agg (seeC l)) (some 34) [] rfl rfl (by kernel_rfl) (by kernel_rfl) (by kernel_rfl) (by kernel_rfl) (by kernel_rfl) (fun _ _ _ h => h) (fun m W _ _ h => (HSD.out _ _).2 ((HSD.out _ _).1 h)) (Or.inl ⟨by rfl, by rintro V ⟨m', hm, h9⟩; kernel_rfl⟩) (hS _) ?_
  try simp only [Act.put, List.setIfInBounds_toArray, List.set_cons_zero, List.set_cons_succ]
  refine wpAnyT_all (rs := [32]) (by kernel_rfl) (by simp) ?_
  intro i5 hi5
  simp only [List.mem_cons, List.not_mem_nil, or_false] at hi5
  subst hi5
  refine stepT (i := 32) rfl (by rfl) (fun K5 h5 => ?_)
  refine wp_store_rowTo 68 (.tmp 2) (.tmp 34) rfl rfl x (seeC l) rfl rfl 68 seeZ (show w0.drew.heap[x]? = _ from HX.out.1) size_see rfl (by simp [seeC, Value.oneCell']) ?_
  have hh := setRow_heap w0.drew x _ (seeC l) _ _ (show w0.drew.heap[x]? = _ from HX.out.1)
  have hB : Below w.heap.size w (w0.drew.setRow x (seeC l)) := below_setRow (bdrew HX.out.2.1) (Nat.le_of_eq HX.out.2.2) _
  have hlx : q ≠ x := by have := H.out.lq; have := HX.out.2.2; omega
  have hlm : m ≠ x := by have := H.out.lm; have := HX.out.2.2; omega
  have h2 : LkIn (w0.drew.setRow x (seeC l)) q m G l := H0.out.keep (setRow_other w0.drew x q _ hlx) (setRow_other w0.drew x m _ hlm) (fun b hb => setRow_other w0.drew x b _ (by have := H.out.gl b hb; have := HX.out.2.2; omega)) (by simp)
  generalize (w0.drew.setRow x (seeC l)) = w1 at *
  refine h5.out _ _ ((HSD.out _ _).2 h2) ?_
  clear h5
  try simp only [Act.put, List.setIfInBounds_toArray, List.set_cons_zero, List.set_cons_succ]
  refine wpAnyT_done (by kernel_rfl) ?_ _
  have HH := Lib.hid (And.intro hh hB)
  clear hh hB h2 hS
  go_wp2_with fail
  refine bodyPost_ret (results_cell_row (p := 2) (ty := 68) (by kernel_rfl) _ _ x 68 (seeC l) (0, 0) _ rfl HH.out.1 Try.underlying68 rfl size_see) rfl ?_
  exact ⟨rfl, HH.out.2⟩

end Go.Proofs.Ytcbjfakkikjbkaa
