/-
  The reference's State; sameState. Conditions: both sessions lie in memory.
-/
import Derived.Test.YtbkimebmoafbnaaSsV
namespace Go.Proofs.Ytbkimebmoafbnaa
open Go.RowKit Go.Maps
set_option linter.unusedVariables false

theorem ownsRow_same' {w w' : World} {B T k n : Nat} {v : Value} {xs : List Value} (h : w.ownsRow B T k v n xs) (e : ∀ j, v.ownBlock = some j → w'.heap[j]? = w.heap[j]?) : w'.ownsRow B T k v n xs := by
  refine ⟨h.1, ?_⟩
  rcases h.2 with hn | ⟨g, cap, cur, hv, hbg, hb, rest⟩
  · exact .inl hn
  · exact .inr ⟨g, cap, cur, hv, hbg, (e g (by rw [hv]; rfl)).trans hb, rest⟩

def RBlk (r : Nat) (vh vr vs va : Value) (j : Nat) : Prop := j = r ∨ vh.ownBlock = some j ∨ vr.ownBlock = some j ∨ vs.ownBlock = some j ∨ va.ownBlock = some j

theorem RIn.keep {w w' : World} {r B : Nat} {s : SS} {hs : List Int} {rs : List (Int × Int)} {vh vr vs va : Value} (h : RIn w r B s hs rs vh vr vs va) (hz : w.heap.size ≤ w'.heap.size) (e : ∀ j, RBlk r vh vr vs va j → w'.heap[j]? = w.heap[j]?) : RIn w' r B s hs rs vh vr vs va :=
  ⟨(e r (.inl rfl)).trans h.row, ownsRow_same' h.vh (fun j hj => e j (.inr (.inl hj))), ownsRow_same' h.vr (fun j hj => e j (.inr (.inr (.inl hj)))), ownsRow_same' h.vs (fun j hj => e j (.inr (.inr (.inr (.inl hj))))), ownsRow_same' h.va (fun j hj => e j (.inr (.inr (.inr (.inr hj))))), h.lt, Nat.le_trans h.le hz, h.ok⟩

theorem RIn.blt {w : World} {r B : Nat} {s : SS} {hs : List Int} {rs : List (Int × Int)} {vh vr vs va : Value} (h : RIn w r B s hs rs vh vr vs va) : ∀ j, RBlk r vh vr vs va j → j < w.heap.size := by
  rintro j (rfl | hj | hj | hj | hj)
  · exact (Array.getElem?_eq_some_iff.1 h.row).1
  · exact (h.vh.lt j hj).2
  · exact (h.vr.lt j hj).2
  · exact (h.vs.lt j hj).2
  · exact (h.va.lt j hj).2

theorem RIn.below {w w' : World} {r B : Nat} {s : SS} {hs : List Int} {rs : List (Int × Int)} {vh vr vs va : Value} (h : RIn w r B s hs rs vh vr vs va) (hb : Below w.heap.size w w') : RIn w' r B s hs rs vh vr vs va := h.keep hb.size (fun j hj => hb.block j (h.blt j hj))

set_option maxRecDepth 20000 in
set_option maxHeartbeats 4000000 in
theorem rstate_any (w : World) (r B : Nat) (s : SS) (hs : List Int) (rs : List (Int × Int)) (vh vr vs va : Value) (h : RIn w r B s hs rs vh vr vs va) :
    Calls Try.prog 35 #[.pointer (some ⟨r, 0, none⟩)] w fun e w' => e = .returned (.agg s.state) ∧ Below w.heap.size w w' := by
  obtain ⟨ps, ks, rfl⟩ := row_slice h.vs
  obtain ⟨pa, ka, rfl⟩ := row_slice h.va
  have c1 : w.cell? ⟨r, 1, none⟩ = some (.bool s.peer) := h.cs 1 _ rfl
  have c2 : w.cell? ⟨r, 2, none⟩ = some (.int .i64 s.no) := h.cs 2 _ rfl
  have c3 : w.cell? ⟨r, 3, none⟩ = some (.int .i64 s.ow) := h.cs 3 _ rfl
  have c4 : w.cell? ⟨r, 4, none⟩ = some (.int .i64 s.ni) := h.cs 4 _ rfl
  have c5 : w.cell? ⟨r, 5, none⟩ = some (.int .i64 s.iw) := h.cs 5 _ rfl
  have c6 : w.cell? ⟨r, 6, none⟩ = some (.int .i64 s.ri) := h.cs 6 _ rfl
  have c7 : w.cell? ⟨r, 7, none⟩ = some (.int .i64 s.ro) := h.cs 7 _ rfl
  have c8 : w.cell? ⟨r, 8, none⟩ = some (.int .i64 s.nd) := h.cs 8 _ rfl
  have c9 : w.cell? ⟨r, 9, none⟩ = some (.int .i64 0) := h.cs 9 _ rfl
  have c10 : w.cell? ⟨r, 10, none⟩ = some (.int .i64 0) := h.cs 10 _ rfl
  have c11 : w.cell? ⟨r, 11, none⟩ = some (.int .i64 s.hm) := h.cs 11 _ rfl
  have c12 : w.cell? ⟨r, 12, none⟩ = some (.int .i64 s.rh) := h.cs 12 _ rfl
  have c15 : w.cell? ⟨r, 15, none⟩ = some (.slice ps s.snd.length ks) := h.cs 15 _ rfl
  have c16 : w.cell? ⟨r, 16, none⟩ = some (.slice pa s.arr.length ka) := h.cs 16 _ rfl
  have hblt : r < w.heap.size := World.block_lt_of_cell? w _ c1
  clear h
  go_enter Try.func35, Try.ntmps35
  go_upto_region 1 with fail
  have hb0 : Below w.heap.size w (w.alloc (.cells #[.bool false, .int .i64 0, .int .i64 0, .int .i64 0, .int .i64 0, .int .i64 0, .int .i64 0, .int .i64 0, .int .i64 0, .int .i64 0, .int .i64 0, .int .i64 0] 63)) := (Below.refl _ _).alloc (Nat.le_refl _) _
  have z0 : (w.alloc (.cells #[.bool false, .int .i64 0, .int .i64 0, .int .i64 0, .int .i64 0, .int .i64 0, .int .i64 0, .int .i64 0, .int .i64 0, .int .i64 0, .int .i64 0, .int .i64 0] 63)).heap[w.heap.size]? = some (.cells #[.bool false, .int .i64 0, .int .i64 0, .int .i64 0, .int .i64 0, .int .i64 0, .int .i64 0, .int .i64 0, .int .i64 0, .int .i64 0, .int .i64 0, .int .i64 0] 63 (0, 0)) := _root_.Go.heap_alloc_new _ _
  have hz0 : w.heap.size < (w.alloc (.cells #[.bool false, .int .i64 0, .int .i64 0, .int .i64 0, .int .i64 0, .int .i64 0, .int .i64 0, .int .i64 0, .int .i64 0, .int .i64 0, .int .i64 0, .int .i64 0] 63)).heap.size := by simp
  generalize (w.alloc (.cells #[.bool false, .int .i64 0, .int .i64 0, .int .i64 0, .int .i64 0, .int .i64 0, .int .i64 0, .int .i64 0, .int .i64 0, .int .i64 0, .int .i64 0, .int .i64 0] 63)) = w1 at *
  obtain ⟨x, hx⟩ : ∃ x, w.heap.size = x := ⟨_, rfl⟩
  have HX := Lib.hid hx
  rw [hx] at z0 hz0 hblt ⊢
  have c1 := (hb0.cell (p := ⟨r, 1, none⟩) (by show r < _; omega)).trans c1
  have c2 := (hb0.cell (p := ⟨r, 2, none⟩) (by show r < _; omega)).trans c2
  have c3 := (hb0.cell (p := ⟨r, 3, none⟩) (by show r < _; omega)).trans c3
  have c4 := (hb0.cell (p := ⟨r, 4, none⟩) (by show r < _; omega)).trans c4
  have c5 := (hb0.cell (p := ⟨r, 5, none⟩) (by show r < _; omega)).trans c5
  have c6 := (hb0.cell (p := ⟨r, 6, none⟩) (by show r < _; omega)).trans c6
  have c7 := (hb0.cell (p := ⟨r, 7, none⟩) (by show r < _; omega)).trans c7
  have c8 := (hb0.cell (p := ⟨r, 8, none⟩) (by show r < _; omega)).trans c8
  have c9 := (hb0.cell (p := ⟨r, 9, none⟩) (by show r < _; omega)).trans c9
  have c10 := (hb0.cell (p := ⟨r, 10, none⟩) (by show r < _; omega)).trans c10
  have c11 := (hb0.cell (p := ⟨r, 11, none⟩) (by show r < _; omega)).trans c11
  have c12 := (hb0.cell (p := ⟨r, 12, none⟩) (by show r < _; omega)).trans c12
  have c15 := (hb0.cell (p := ⟨r, 15, none⟩) (by show r < _; omega)).trans c15
  have c16 := (hb0.cell (p := ⟨r, 16, none⟩) (by show r < _; omega)).trans c16
  have HB0 := Lib.hid hb0
  have HZ0 := Lib.hid z0
  clear hb0 hx z0
  go_upto_region 2 with fail
  have hb1 : Below w1.heap.size w1 (w1.alloc (.cells #[.bool s.peer, .int .i64 s.no, .int .i64 s.ow, .int .i64 s.ni, .int .i64 s.iw, .int .i64 s.ri, .int .i64 s.ro, .int .i64 s.nd, .int .i64 0, .int .i64 0, .int .i64 s.hm, .int .i64 s.rh] 63)) := (Below.refl _ _).alloc (Nat.le_refl _) _
  have y0 : (w1.alloc (.cells #[.bool s.peer, .int .i64 s.no, .int .i64 s.ow, .int .i64 s.ni, .int .i64 s.iw, .int .i64 s.ri, .int .i64 s.ro, .int .i64 s.nd, .int .i64 0, .int .i64 0, .int .i64 s.hm, .int .i64 s.rh] 63)).heap[w1.heap.size]? = some (.cells #[.bool s.peer, .int .i64 s.no, .int .i64 s.ow, .int .i64 s.ni, .int .i64 s.iw, .int .i64 s.ri, .int .i64 s.ro, .int .i64 s.nd, .int .i64 0, .int .i64 0, .int .i64 s.hm, .int .i64 s.rh] 63 (0, 0)) := _root_.Go.heap_alloc_new _ _
  generalize (w1.alloc (.cells #[.bool s.peer, .int .i64 s.no, .int .i64 s.ow, .int .i64 s.ni, .int .i64 s.iw, .int .i64 s.ri, .int .i64 s.ro, .int .i64 s.nd, .int .i64 0, .int .i64 0, .int .i64 s.hm, .int .i64 s.rh] 63)) = w2 at *
  have c15 := (hb1.cell (p := ⟨r, 15, none⟩) (by show r < _; omega)).trans c15
  have c16 := (hb1.cell (p := ⟨r, 16, none⟩) (by show r < _; omega)).trans c16
  obtain ⟨y, hy⟩ : ∃ y, w1.heap.size = y := ⟨_, rfl⟩
  have hxy : x ≠ y := by omega
  have n0 : r ≠ y := by omega
  have n1 : y ≠ r := fun e => n0 e.symm
  have hb2 := HB0.out.trans (hb1.mono HB0.out.size)
  have z2 := (hb1.block x (by omega)).trans HZ0.out
  have HZ2 := Lib.hid (And.intro z2 (And.intro hxy (show w.heap.size ≤ y by rw [← hy]; exact HB0.out.size)))
  have HB2 := Lib.hid hb2
  rw [hy] at y0 ⊢
  have HY := Lib.hid y0
  have y8 : w2.cell? ⟨y, 8, none⟩ = some (.int .i64 0) := (cell_of_row _ _ 8 _ _ _ y0).trans rfl
  have y9 : w2.cell? ⟨y, 9, none⟩ = some (.int .i64 0) := (cell_of_row _ _ 9 _ _ _ y0).trans rfl
  have fz : ∀ i, w2.frozen? ⟨y, i, none⟩ = false := fun i => by simp [World.frozen?, y0]
  clear c1 c2 c3 c4 c5 c6 c7 c8 c9 c10 c11 c12 hy hxy hb2 z2 y0 hb1 hz0 hblt
  go_upto_region 4 with fail
  have y3 : ((w2.setCell ⟨y, 8, none⟩ (.int .i64 s.snd.length)).setCell ⟨y, 9, none⟩ (.int .i64 s.arr.length)).heap[y]? = some (.cells s.state 63 (0, 0)) := heap_setCell_same _ y 9 _ _ (.int .i64 s.arr.length) (heap_setCell_same w2 y 8 _ _ (.int .i64 s.snd.length) HY.out)
  have x3 : ((w2.setCell ⟨y, 8, none⟩ (.int .i64 s.snd.length)).setCell ⟨y, 9, none⟩ (.int .i64 s.arr.length)).heap[x]? = some (.cells #[.bool false, .int .i64 0, .int .i64 0, .int .i64 0, .int .i64 0, .int .i64 0, .int .i64 0, .int .i64 0, .int .i64 0, .int .i64 0, .int .i64 0, .int .i64 0] 63 (0, 0)) := (set_far HZ2.out.2.1).trans ((set_far HZ2.out.2.1).trans HZ2.out.1)
  have b3 : Below w.heap.size w ((w2.setCell ⟨y, 8, none⟩ (.int .i64 s.snd.length)).setCell ⟨y, 9, none⟩ (.int .i64 s.arr.length)) := (HB2.out.setCell (p := ⟨y, 8, none⟩) HZ2.out.2.2 _).setCell (p := ⟨y, 9, none⟩) HZ2.out.2.2 _
  generalize ((w2.setCell ⟨y, 8, none⟩ (.int .i64 s.snd.length)).setCell ⟨y, 9, none⟩ (.int .i64 s.arr.length)) = w3 at *
  have HB3 := Lib.hid b3
  clear c15 c16 y8 y9 fz n0 n1 b3
  go_wp2_with (first
    | (refine wpList_load_row rfl 63 (.tmp 3) rfl y rfl 63 s.state (0, 0) _ y3 Try.underlying63 rfl (by as_aux_lemma => kernel_rfl) ?_)
    | (refine wpList_store_rowTo rfl 63 (.tmp 2) (.tmp 20) rfl rfl x s.state rfl rfl 63 #[.bool false, .int .i64 0, .int .i64 0, .int .i64 0, .int .i64 0, .int .i64 0, .int .i64 0, .int .i64 0, .int .i64 0, .int .i64 0, .int .i64 0, .int .i64 0] x3 (by as_aux_lemma => kernel_rfl) (by as_aux_lemma => kernel_rfl) (by as_aux_lemma => kernel_rfl) ?_))
  have hh := setRow_heap w3 x _ s.state _ _ x3
  have hB := below_setRow HB3.out (show w.heap.size ≤ x by rw [HX.out]; exact Nat.le_refl _) s.state
  refine bodyPost_ret (results_cell_row (p := 2) (ty := 63) (by kernel_rfl) _ _ x 63 s.state (0, 0) _ rfl hh Try.underlying63 rfl (by as_aux_lemma => kernel_rfl)) rfl ?_
  exact ⟨rfl, hB⟩
end Go.Proofs.Ytbkimebmoafbnaa
