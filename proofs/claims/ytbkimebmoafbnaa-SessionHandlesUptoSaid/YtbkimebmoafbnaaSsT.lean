/-
  A session's State. Conditions: the session lies in memory.
-/
import Derived.Test.YtbkimebmoafbnaaSsD
namespace Go.Proofs.Ytbkimebmoafbnaa
open Go.RowKit Go.Maps
set_option linter.unusedVariables false

/-- State -/
def SS.state (s : SS) : Array Value := #[.bool s.peer, .int .i64 s.no, .int .i64 s.ow, .int .i64 s.ni, .int .i64 s.iw, .int .i64 s.ri, .int .i64 s.ro, .int .i64 s.nd, .int .i64 s.snd.length, .int .i64 s.arr.length, .int .i64 s.hm, .int .i64 s.rh]

/-- all but one block is as in w -/
def AgreeB (w W : World) (y : Nat) : Prop := ∀ j, j ≠ y → W.heap[j]? = w.heap[j]?
theorem agree_refl (w : World) (y : Nat) : AgreeB w w y := fun _ _ => rfl
theorem agree_drew {w W : World} {y : Nat} (h : AgreeB w W y) : AgreeB w W.drew y := h
theorem agree_set {w W : World} {y i : Nat} {v : Value} (h : AgreeB w W y) : AgreeB w (W.setCell ⟨y, i, none⟩ v) y := fun j hj => (heap_setCell_other W ⟨y, i, none⟩ j v hj).trans (h j hj)
theorem agree_cell {w W : World} {y : Nat} (h : AgreeB w W y) {a : Addr} {v : Value} (hc : w.cell? a = some v) (ha : a.block ≠ y) : W.cell? a = some v := (World.cell?_of_block (h _ ha)).trans hc

set_option maxRecDepth 20000 in
set_option maxHeartbeats 4000000 in
theorem sstate_any (w : World) (K : SK) (s : SS) (h : SesIn w K s) :
    Calls Try.prog 24 #[.pointer (some ⟨K.b, 0, none⟩)] w fun e w' => e = .returned (.agg s.state) ∧ Below w.heap.size w w' := by
  have c1 : w.cell? ⟨K.b, 1, none⟩ = some (.bool s.peer) := h.cs 1 _ rfl
  have c2 : w.cell? ⟨K.b, 2, none⟩ = some (.int .i64 s.no) := h.cs 2 _ rfl
  have c3 : w.cell? ⟨K.b, 3, none⟩ = some (.int .i64 s.ow) := h.cs 3 _ rfl
  have c4 : w.cell? ⟨K.b, 4, none⟩ = some (.int .i64 s.ni) := h.cs 4 _ rfl
  have c5 : w.cell? ⟨K.b, 5, none⟩ = some (.int .i64 s.iw) := h.cs 5 _ rfl
  have c6 : w.cell? ⟨K.b, 6, none⟩ = some (.int .i64 s.ri) := h.cs 6 _ rfl
  have c7 : w.cell? ⟨K.b, 7, none⟩ = some (.int .i64 s.ro) := h.cs 7 _ rfl
  have c8 : w.cell? ⟨K.b, 8, none⟩ = some (.int .i64 s.nd) := h.cs 8 _ rfl
  have c9 : w.cell? ⟨K.b, 9, none⟩ = some (.int .i64 0) := h.cs 9 _ rfl
  have c10 : w.cell? ⟨K.b, 10, none⟩ = some (.int .i64 0) := h.cs 10 _ rfl
  have c11 : w.cell? ⟨K.b, 11, none⟩ = some (.int .i64 s.hm) := h.cs 11 _ rfl
  have c12 : w.cell? ⟨K.b, 12, none⟩ = some (.int .i64 s.rh) := h.cs 12 _ rfl
  have H := Lib.hid h
  have hblt := h.lt _ (.inl rfl)
  clear h
  go_enter Try.func24, Try.ntmps24
  go_upto_region 1 with fail
  have hb0 : Below w.heap.size w (w.alloc (.cells #[.bool false, .int .i64 0, .int .i64 0, .int .i64 0, .int .i64 0, .int .i64 0, .int .i64 0, .int .i64 0, .int .i64 0, .int .i64 0, .int .i64 0, .int .i64 0] 63)) := (Below.refl _ _).alloc (Nat.le_refl _) _
  have z0 : (w.alloc (.cells #[.bool false, .int .i64 0, .int .i64 0, .int .i64 0, .int .i64 0, .int .i64 0, .int .i64 0, .int .i64 0, .int .i64 0, .int .i64 0, .int .i64 0, .int .i64 0] 63)).heap[w.heap.size]? = some (.cells #[.bool false, .int .i64 0, .int .i64 0, .int .i64 0, .int .i64 0, .int .i64 0, .int .i64 0, .int .i64 0, .int .i64 0, .int .i64 0, .int .i64 0, .int .i64 0] 63 (0, 0)) := _root_.Go.heap_alloc_new _ _
  have hz0 : w.heap.size < (w.alloc (.cells #[.bool false, .int .i64 0, .int .i64 0, .int .i64 0, .int .i64 0, .int .i64 0, .int .i64 0, .int .i64 0, .int .i64 0, .int .i64 0, .int .i64 0, .int .i64 0] 63)).heap.size := by simp
  generalize (w.alloc (.cells #[.bool false, .int .i64 0, .int .i64 0, .int .i64 0, .int .i64 0, .int .i64 0, .int .i64 0, .int .i64 0, .int .i64 0, .int .i64 0, .int .i64 0, .int .i64 0] 63)) = w1 at *
  obtain ⟨x, hx⟩ : ∃ x, w.heap.size = x := ⟨_, rfl⟩
  have HX := Lib.hid hx
  rw [hx] at z0 hz0 hblt ⊢
  have c1 := (hb0.cell (p := ⟨K.b, 1, none⟩) (by show K.b < _; omega)).trans c1
  have c2 := (hb0.cell (p := ⟨K.b, 2, none⟩) (by show K.b < _; omega)).trans c2
  have c3 := (hb0.cell (p := ⟨K.b, 3, none⟩) (by show K.b < _; omega)).trans c3
  have c4 := (hb0.cell (p := ⟨K.b, 4, none⟩) (by show K.b < _; omega)).trans c4
  have c5 := (hb0.cell (p := ⟨K.b, 5, none⟩) (by show K.b < _; omega)).trans c5
  have c6 := (hb0.cell (p := ⟨K.b, 6, none⟩) (by show K.b < _; omega)).trans c6
  have c7 := (hb0.cell (p := ⟨K.b, 7, none⟩) (by show K.b < _; omega)).trans c7
  have c8 := (hb0.cell (p := ⟨K.b, 8, none⟩) (by show K.b < _; omega)).trans c8
  have c9 := (hb0.cell (p := ⟨K.b, 9, none⟩) (by show K.b < _; omega)).trans c9
  have c10 := (hb0.cell (p := ⟨K.b, 10, none⟩) (by show K.b < _; omega)).trans c10
  have c11 := (hb0.cell (p := ⟨K.b, 11, none⟩) (by show K.b < _; omega)).trans c11
  have c12 := (hb0.cell (p := ⟨K.b, 12, none⟩) (by show K.b < _; omega)).trans c12
  have HB0 := Lib.hid hb0
  have HZ0 := Lib.hid z0
  clear hb0 hx z0
  go_upto_region 2 with fail
  have hb1 : Below w1.heap.size w1 (w1.alloc (.cells #[.bool s.peer, .int .i64 s.no, .int .i64 s.ow, .int .i64 s.ni, .int .i64 s.iw, .int .i64 s.ri, .int .i64 s.ro, .int .i64 s.nd, .int .i64 0, .int .i64 0, .int .i64 s.hm, .int .i64 s.rh] 63)) := (Below.refl _ _).alloc (Nat.le_refl _) _
  have y0 : (w1.alloc (.cells #[.bool s.peer, .int .i64 s.no, .int .i64 s.ow, .int .i64 s.ni, .int .i64 s.iw, .int .i64 s.ri, .int .i64 s.ro, .int .i64 s.nd, .int .i64 0, .int .i64 0, .int .i64 s.hm, .int .i64 s.rh] 63)).heap[w1.heap.size]? = some (.cells #[.bool s.peer, .int .i64 s.no, .int .i64 s.ow, .int .i64 s.ni, .int .i64 s.iw, .int .i64 s.ri, .int .i64 s.ro, .int .i64 s.nd, .int .i64 0, .int .i64 0, .int .i64 s.hm, .int .i64 s.rh] 63 (0, 0)) := _root_.Go.heap_alloc_new _ _
  generalize (w1.alloc (.cells #[.bool s.peer, .int .i64 s.no, .int .i64 s.ow, .int .i64 s.ni, .int .i64 s.iw, .int .i64 s.ri, .int .i64 s.ro, .int .i64 s.nd, .int .i64 0, .int .i64 0, .int .i64 s.hm, .int .i64 s.rh] 63)) = w2 at *
  obtain ⟨y, hy⟩ : ∃ y, w1.heap.size = y := ⟨_, rfl⟩
  have hxy : x ≠ y := by omega
  have hKy : ∀ j, K.has j → j ≠ y := fun j hj => by have := H.out.lt j hj; have := HX.out; omega
  have hb2 := HB0.out.trans (hb1.mono HB0.out.size)
  have H2 := Lib.hid (H.out.below hb2)
  have z2 := (hb1.block x (by omega)).trans HZ0.out
  have HZ2 := Lib.hid (And.intro z2 (And.intro hxy (show w.heap.size ≤ y by rw [← hy]; exact HB0.out.size)))
  have HB2 := Lib.hid hb2
  rw [hy] at y0 ⊢
  have HY := Lib.hid y0
  have HK := Lib.hid hKy
  have c14 : w2.cell? ⟨K.b, 14, none⟩ = some (.pointer (some ⟨K.tS, 0, none⟩)) := H2.out.cs 14 _ rfl
  have c15 : w2.cell? ⟨K.b, 15, none⟩ = some (.pointer (some ⟨K.tA, 0, none⟩)) := H2.out.cs 15 _ rfl
  have tS : w2.cell? ⟨K.tS, 0, none⟩ = some (.map (some K.mS)) := (cell_of_row _ _ 0 _ _ _ H2.out.rowS).trans rfl
  have tA : w2.cell? ⟨K.tA, 0, none⟩ = some (.map (some K.mA)) := (cell_of_row _ _ 0 _ _ _ H2.out.rowA).trans rfl
  have y8 : w2.cell? ⟨y, 8, none⟩ = some (.int .i64 0) := (cell_of_row _ _ 8 _ _ _ y0).trans rfl
  have y9 : w2.cell? ⟨y, 9, none⟩ = some (.int .i64 0) := (cell_of_row _ _ 9 _ _ _ y0).trans rfl
  have fz : ∀ i, w2.frozen? ⟨y, i, none⟩ = false := fun i => by simp [World.frozen?, y0]
  have lS : ∀ W, AgreeB w2 W y → (Builtin.len_ #[90] 3 #[.map (some K.mS)]).run Try.prog W = .ok (.int .i64 s.snd.length) W := fun W hW => by
    have := (H2.out.snd.same (hW K.mS (HK.out _ (.inr (.inr (.inr (.inr (.inl rfl)))))))).len Try.underlying90 3
    simpa [pend] using this
  have lA : ∀ W, AgreeB w2 W y → (Builtin.len_ #[90] 3 #[.map (some K.mA)]).run Try.prog W = .ok (.int .i64 s.arr.length) W := fun W hW => by
    have := (H2.out.arr.same (hW K.mA (HK.out _ (.inr (.inr (.inr (.inr (.inr rfl)))))))).len Try.underlying90 3
    simpa [pend] using this
  have n0 : K.b ≠ y := HK.out _ (.inl rfl)
  have n1 : K.tS ≠ y := HK.out _ (.inr (.inl rfl))
  have n2 : K.tA ≠ y := HK.out _ (.inr (.inr (.inl rfl)))
  clear c1 c2 c3 c4 c5 c6 c7 c8 c9 c10 c11 c12 hy hxy hKy hb2 z2 y0 hb1 hz0 hblt
  go_region_held3 (fun w' => w'.cell? ⟨K.b, 14, none⟩ = some (.pointer (some ⟨K.tS, 0, none⟩)) ∧ w'.cell? ⟨K.b, 15, none⟩ = some (.pointer (some ⟨K.tA, 0, none⟩)) ∧ w'.cell? ⟨K.tS, 0, none⟩ = some (.map (some K.mS)) ∧ w'.cell? ⟨K.tA, 0, none⟩ = some (.map (some K.mA)) ∧
      (Builtin.len_ #[90] 3 #[.map (some K.mS)]).run Try.prog w' = .ok (.int .i64 s.snd.length) w' ∧ (Builtin.len_ #[90] 3 #[.map (some K.mA)]).run Try.prog w' = .ok (.int .i64 s.arr.length) w')
    (exact (fun hb => ⟨agree_cell hb c14 n0, agree_cell hb c15 n0, agree_cell hb tS n1, agree_cell hb tA n2, lS _ hb, lA _ hb⟩ : AgreeB w2 _ y → _) (by repeat (first | exact agree_refl _ _ | apply agree_set | apply agree_drew)))
    (fail)
  have y3 : ((w2.setCell ⟨y, 8, none⟩ (.int .i64 s.snd.length)).setCell ⟨y, 9, none⟩ (.int .i64 s.arr.length)).drew.heap[y]? = some (.cells s.state 63 (0, 0)) := heap_setCell_same _ y 9 _ _ (.int .i64 s.arr.length) (heap_setCell_same w2 y 8 _ _ (.int .i64 s.snd.length) HY.out)
  have x3 : ((w2.setCell ⟨y, 8, none⟩ (.int .i64 s.snd.length)).setCell ⟨y, 9, none⟩ (.int .i64 s.arr.length)).drew.heap[x]? = some (.cells #[.bool false, .int .i64 0, .int .i64 0, .int .i64 0, .int .i64 0, .int .i64 0, .int .i64 0, .int .i64 0, .int .i64 0, .int .i64 0, .int .i64 0, .int .i64 0] 63 (0, 0)) := (set_far HZ2.out.2.1).trans ((set_far HZ2.out.2.1).trans HZ2.out.1)
  have b3 : Below w.heap.size w ((w2.setCell ⟨y, 8, none⟩ (.int .i64 s.snd.length)).setCell ⟨y, 9, none⟩ (.int .i64 s.arr.length)).drew := bs_drew ((HB2.out.setCell (p := ⟨y, 8, none⟩) HZ2.out.2.2 _).setCell (p := ⟨y, 9, none⟩) HZ2.out.2.2 _)
  generalize ((w2.setCell ⟨y, 8, none⟩ (.int .i64 s.snd.length)).setCell ⟨y, 9, none⟩ (.int .i64 s.arr.length)).drew = w3 at *
  have HB3 := Lib.hid b3
  clear c14 c15 tS tA y8 y9 fz lS lA n0 n1 n2 b3
  go_wp2_with (first
    | (refine wpList_load_row rfl 63 (.tmp 3) rfl y rfl 63 s.state (0, 0) _ y3 Try.underlying63 rfl (by as_aux_lemma => kernel_rfl) ?_)
    | (refine wpList_store_rowTo rfl 63 (.tmp 2) (.tmp 26) rfl rfl x s.state rfl rfl 63 #[.bool false, .int .i64 0, .int .i64 0, .int .i64 0, .int .i64 0, .int .i64 0, .int .i64 0, .int .i64 0, .int .i64 0, .int .i64 0, .int .i64 0, .int .i64 0] x3 (by as_aux_lemma => kernel_rfl) (by as_aux_lemma => kernel_rfl) (by as_aux_lemma => kernel_rfl) ?_))
  have hh := setRow_heap w3 x _ s.state _ _ x3
  have hB := below_setRow HB3.out (show w.heap.size ≤ x by rw [HX.out]; exact Nat.le_refl _) s.state
  refine bodyPost_ret (results_cell_row (p := 2) (ty := 63) (by kernel_rfl) _ _ x 63 s.state (0, 0) _ rfl hh Try.underlying63 rfl (by as_aux_lemma => kernel_rfl)) rfl ?_
  exact ⟨rfl, hB⟩
end Go.Proofs.Ytbkimebmoafbnaa
