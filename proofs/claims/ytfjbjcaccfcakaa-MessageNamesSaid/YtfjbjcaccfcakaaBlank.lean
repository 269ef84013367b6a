/-
  The blank message. No conditions.
-/
import Derived.Test.YtfjbjcaccfcakaaNull
import Derived.Laws.CopyOwn
namespace Go.Proofs.Ytfjbjcaccfcakaa
open Go.RowKit
set_option linter.unusedVariables false

/-- a null's cells -/
def nullL : List Value := [.int .i64 0, .int .u64 0, .string ⟨#[]⟩, .slice none 0 0, .int .i64 0]
/-- a message's cells, all but a few as they are laid -/
def msgL (pr ttl ex cr sq body : Int) (data : Value) : List Value :=
  [.bool false, .bool false, .int .i64 pr, .int .i64 ttl, .bool false, .int .i64 0] ++ nullL ++ nullL ++ [.bool false] ++ nullL ++ [.string ⟨#[]⟩, .string ⟨#[]⟩, .string ⟨#[]⟩, .string ⟨#[]⟩] ++ nullL ++
    [.string ⟨#[]⟩, .string ⟨#[]⟩, .int .i64 ex, .int .i64 cr, .string ⟨#[]⟩, .int .i64 sq, .string ⟨#[]⟩] ++ nullL ++ [.int .i64 body, data, .slice none 0 0] ++ nullL ++ nullL
def msgZ : Array Value := (msgL 0 0 0 0 0 0 (.slice none 0 0)).toArray
def msgB (g : Nat) : Array Value := (msgL 4 (-1) (-1) (-1) (-1) 1 (.slice (some ⟨g, 0, none⟩) 1 1)).toArray

set_option maxHeartbeats 2000000 in
theorem blank_any (w : World) :
    Calls Try.prog 4 #[] w fun e w' => ∃ g, e = .returned (.agg (msgB g)) ∧ Below w.heap.size w w' ∧ w.heap.size ≤ g ∧ w'.heap[g]? = some (.cells #[.string ⟨#[]⟩] 9 (0, 0)) := by
  go_enter Try.func4, Try.ntmps4
  go_upto_region 1 with fail
  change Code.wp _ _ _ _ (w.alloc (.cells msgZ 33))
  have h0 : (w.alloc (.cells msgZ 33)).heap[w.heap.size]? = some (.cells msgZ 33 (0, 0)) := heap_alloc_new _ _
  have hb : Below w.heap.size w (w.alloc (.cells msgZ 33)) := (Below.refl _ _).alloc (Nat.le_refl _) _
  have hl : w.heap.size < (w.alloc (.cells msgZ 33)).heap.size := by simp
  generalize (w.alloc (.cells msgZ 33)) = w0 at *
  obtain ⟨x, hx⟩ : ∃ x, w.heap.size = x := ⟨_, rfl⟩
  have HX := Lib.hid hx
  rw [hx] at h0 hl ⊢
  clear hx
  have h1 : (w0.alloc (.cells #[.string ⟨#[]⟩] 9)).heap[x]? = some (.cells msgZ 33 (0, 0)) := (heap_alloc_old _ _ hl).trans h0
  go_wp2_with (refine wpList_store_row rfl 33 (.tmp 0) (.tmp 4) rfl x (msgB w0.heap.size) rfl rfl 33 msgZ h1 (by as_aux_lemma => kernel_rfl) (by as_aux_lemma => kernel_rfl) (by as_aux_lemma => kernel_rfl) ?_)
  have hg : (w0.alloc (.cells #[.string ⟨#[]⟩] 9)).heap[w0.heap.size]? = some (.cells #[.string ⟨#[]⟩] 9 (0, 0)) := heap_alloc_new _ _
  have hb2 : Below w.heap.size w (w0.alloc (.cells #[.string ⟨#[]⟩] 9)) := hb.alloc hb.size _
  have hz := hb.size
  obtain ⟨g, hgg⟩ : ∃ g, w0.heap.size = g := ⟨_, rfl⟩
  rw [hgg] at hg hz hl ⊢
  generalize (w0.alloc (.cells #[.string ⟨#[]⟩] 9)) = w1 at *
  have hh := setRow_heap w1 x _ (msgB g) _ _ h1
  have hB := below_setRow hb2 (show w.heap.size ≤ x by rw [HX.out]; exact Nat.le_refl _) (msgB g)
  have ho : (w1.setRow x (msgB g)).heap[g]? = _ := (setRow_other w1 x g (msgB g) (by omega)).trans hg
  refine bodyPost_ret (results_cell_row (p := 0) (ty := 33) (by kernel_rfl) _ _ x 33 (msgB g) (0, 0) _ rfl hh Try.underlying33 rfl (by as_aux_lemma => kernel_rfl)) rfl ?_
  exact ⟨g, rfl, hB, hz, ho⟩

set_option maxHeartbeats 2000000 in
theorem rblank_any (w : World) :
    Calls Try.prog 6 #[] w fun e w' => ∃ g, e = .returned (.agg (msgB g)) ∧ Below w.heap.size w w' ∧ w.heap.size ≤ g ∧ w'.heap[g]? = some (.cells #[.string ⟨#[]⟩] 9 (0, 0)) := by
  go_enter Try.func6, Try.ntmps6
  go_upto_region 1 with fail
  change Code.wp _ _ _ _ (w.alloc (.cells msgZ 33))
  have h0 : (w.alloc (.cells msgZ 33)).heap[w.heap.size]? = some (.cells msgZ 33 (0, 0)) := heap_alloc_new _ _
  have hb : Below w.heap.size w (w.alloc (.cells msgZ 33)) := (Below.refl _ _).alloc (Nat.le_refl _) _
  have hl : w.heap.size < (w.alloc (.cells msgZ 33)).heap.size := by simp
  generalize (w.alloc (.cells msgZ 33)) = w0 at *
  obtain ⟨x, hx⟩ : ∃ x, w.heap.size = x := ⟨_, rfl⟩
  have HX := Lib.hid hx
  rw [hx] at h0 hl ⊢
  clear hx
  have h1 : (w0.alloc (.cells #[.string ⟨#[]⟩] 9)).heap[x]? = some (.cells msgZ 33 (0, 0)) := (heap_alloc_old _ _ hl).trans h0
  go_wp2_with (refine wpList_store_row rfl 33 (.tmp 0) (.tmp 4) rfl x (msgB w0.heap.size) rfl rfl 33 msgZ h1 (by as_aux_lemma => kernel_rfl) (by as_aux_lemma => kernel_rfl) (by as_aux_lemma => kernel_rfl) ?_)
  have hg : (w0.alloc (.cells #[.string ⟨#[]⟩] 9)).heap[w0.heap.size]? = some (.cells #[.string ⟨#[]⟩] 9 (0, 0)) := heap_alloc_new _ _
  have hb2 : Below w.heap.size w (w0.alloc (.cells #[.string ⟨#[]⟩] 9)) := hb.alloc hb.size _
  have hz := hb.size
  obtain ⟨g, hgg⟩ : ∃ g, w0.heap.size = g := ⟨_, rfl⟩
  rw [hgg] at hg hz hl ⊢
  generalize (w0.alloc (.cells #[.string ⟨#[]⟩] 9)) = w1 at *
  have hh := setRow_heap w1 x _ (msgB g) _ _ h1
  have hB := below_setRow hb2 (show w.heap.size ≤ x by rw [HX.out]; exact Nat.le_refl _) (msgB g)
  have ho : (w1.setRow x (msgB g)).heap[g]? = _ := (setRow_other w1 x g (msgB g) (by omega)).trans hg
  refine bodyPost_ret (results_cell_row (p := 0) (ty := 33) (by kernel_rfl) _ _ x 33 (msgB g) (0, 0) _ rfl hh Try.underlying33 rfl (by as_aux_lemma => kernel_rfl)) rfl ?_
  exact ⟨g, rfl, hB, hz, ho⟩
end Go.Proofs.Ytfjbjcaccfcakaa
