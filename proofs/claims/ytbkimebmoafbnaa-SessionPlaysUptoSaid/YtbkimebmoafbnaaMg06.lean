/-
  A session's State. Conditions: the session lies in memory.
  The reference's session in memory; its word, four, New, State. Conditions: it lies in memory.
-/
import Derived.Test.YtbkimebmoafbnaaMg04
import Derived.Test.YtbkimebmoafbnaaMg05
namespace Go.Proofs.Ytbkimebmoafbnaa
open Go.RowKit Go.Maps
set_option linter.unusedVariables false

/-- State -/
def SS.state (s : SS) : Array Value := #[.bool s.peer, .int .i64 s.no, .int .i64 s.ow, .int .i64 s.ni, .int .i64 s.iw, .int .i64 s.ri, .int .i64 s.ro, .int .i64 s.nd, .int .i64 s.snd.length, .int .i64 s.arr.length, .int .i64 s.hm, .int .i64 s.rh]

/-- all but one block is as in w -/
def AgreeB (w W : World) (y : Nat) : Prop := ∀ j, j ≠ y → W.heap[j]? = w.heap[j]?
theorem agree_refl (w : World) (y : Nat) : AgreeB w w y := fun _ _ => rfl
theorem agree_drew {w W : World} {y : Nat} (h : AgreeB w W y) : AgreeB w W.drew y := h
theorem agree_set {w W : World} {y i : Nat} {v : Value} (h : AgreeB w W y) : AgreeB w (W.setCell ⟨y, i, none⟩ v) y := fun j hj => (heap_setCell_other W ⟨y, i, none⟩ j v hj).trans (h j hj)
theorem agree_cell {w W : World} {y : Nat} (h : AgreeB w W y) {a : Addr} {v : Value} (hc : w.cell? a = some v) (ha : a.block ≠ y) : W.cell? a = some v := (World.cell?_of_block (h _ ha)).trans hc

set_option maxRecDepth 20000 in
set_option maxHeartbeats 4000000 in
theorem sstate_any (w : World) (K : SK) (s : SS) (h : SesIn w K s) :
    Calls Try.prog 24 #[.pointer (some ⟨K.b, 0, none⟩)] w fun e w' => e = .returned (.agg s.state) ∧ Below w.heap.size w w' := by
  have c1 : w.cell? ⟨K.b, 1, none⟩ = some (.bool s.peer) := h.cs 1 _ rfl
  have c2 : w.cell? ⟨K.b, 2, none⟩ = some (.int .i64 s.no) := h.cs 2 _ rfl
  have c3 : w.cell? ⟨K.b, 3, none⟩ = some (.int .i64 s.ow) := h.cs 3 _ rfl
  have c4 : w.cell? ⟨K.b, 4, none⟩ = some (.int .i64 s.ni) := h.cs 4 _ rfl
  have c5 : w.cell? ⟨K.b, 5, none⟩ = some (.int .i64 s.iw) := h.cs 5 _ rfl
  have c6 : w.cell? ⟨K.b, 6, none⟩ = some (.int .i64 s.ri) := h.cs 6 _ rfl
  have c7 : w.cell? ⟨K.b, 7, none⟩ = some (.int .i64 s.ro) := h.cs 7 _ rfl
  have c8 : w.cell? ⟨K.b, 8, none⟩ = some (.int .i64 s.nd) := h.cs 8 _ rfl
  have c9 : w.cell? ⟨K.b, 9, none⟩ = some (.int .i64 0) := h.cs 9 _ rfl
  have c10 : w.cell? ⟨K.b, 10, none⟩ = some (.int .i64 0) := h.cs 10 _ rfl
  have c11 : w.cell? ⟨K.b, 11, none⟩ = some (.int .i64 s.hm) := h.cs 11 _ rfl
  have c12 : w.cell? ⟨K.b, 12, none⟩ = some (.int .i64 s.rh) := h.cs 12 _ rfl
  have H := Lib.hid h
  have hblt := h.lt _ (.inl rfl)
  clear h
  go_enter Try.func24, Try.ntmps24
  go_upto_region 1 with fail
  have hb0 : Below w.heap.size w (w.alloc (.cells #[.bool false, .int .i64 0, .int .i64 0, .int .i64 0, .int .i64 0, .int .i64 0, .int .i64 0, .int .i64 0, .int .i64 0, .int .i64 0, .int .i64 0, .int .i64 0] 63)) := (Below.refl _ _).alloc (Nat.le_refl _) _
  have z0 : (w.alloc (.cells #[.bool false, .int .i64 0, .int .i64 0, .int .i64 0, .int .i64 0, .int .i64 0, .int .i64 0, .int .i64 0, .int .i64 0, .int .i64 0, .int .i64 0, .int .i64 0] 63)).heap[w.heap.size]? = some (.cells #[.bool false, .int .i64 0, .int .i64 0, .int .i64 0, .int .i64 0, .int .i64 0, .int .i64 0, .int .i64 0, .int .i64 0, .int .i64 0, .int .i64 0, .int .i64 0] 63 (0, 0)) := _root_.Go.heap_alloc_new _ _
  have hz0 : w.heap.size < (w.alloc (.cells #[.bool false, .int .i64 0, .int .i64 0, .int .i64 0, .int .i64 0, .int .i64 0, .int .i64 0, .int .i64 0, .int .i64 0, .int .i64 0, .int .i64 0, .int .i64 0] 63)).heap.size := by simp
  generalize (w.alloc (.cells #[.bool false, .int .i64 0, .int .i64 0, .int .i64 0, .int .i64 0, .int .i64 0, .int .i64 0, .int .i64 0, .int .i64 0, .int .i64 0, .int .i64 0, .int .i64 0] 63)) = w1 at *
  obtain ⟨x, hx⟩ : ∃ x, w.heap.size = x := ⟨_, rfl⟩
  have HX := Lib.hid hx
  rw [hx] at z0 hz0 hblt ⊢
  have c1 := (hb0.cell (p := ⟨K.b, 1, none⟩) (by show K.b < _; omega)).trans c1
  have c2 := (hb0.cell (p := ⟨K.b, 2, none⟩) (by show K.b < _; omega)).trans c2
  have c3 := (hb0.cell (p := ⟨K.b, 3, none⟩) (by show K.b < _; omega)).trans c3
  have c4 := (hb0.cell (p := ⟨K.b, 4, none⟩) (by show K.b < _; omega)).trans c4
  have c5 := (hb0.cell (p := ⟨K.b, 5, none⟩) (by show K.b < _; omega)).trans c5
  have c6 := (hb0.cell (p := ⟨K.b, 6, none⟩) (by show K.b < _; omega)).trans c6
  have c7 := (hb0.cell (p := ⟨K.b, 7, none⟩) (by show K.b < _; omega)).trans c7
  have c8 := (hb0.cell (p := ⟨K.b, 8, none⟩) (by show K.b < _; omega)).trans c8
  have c9 := (hb0.cell (p := ⟨K.b, 9, none⟩) (by show K.b < _; omega)).trans c9
  have c10 := (hb0.cell (p := ⟨K.b, 10, none⟩) (by show K.b < _; omega)).trans c10
  have c11 := (hb0.cell (p := ⟨K.b, 11, none⟩) (by show K.b < _; omega)).trans c11
  have c12 := (hb0.cell (p := ⟨K.b, 12, none⟩) (by show K.b < _; omega)).trans c12
  have HB0 := Lib.hid hb0
  have HZ0 := Lib.hid z0
  clear hb0 hx z0
  go_upto_region 2 with fail
  have hb1 : Below w1.heap.size w1 (w1.alloc (.cells #[.bool s.peer, .int .i64 s.no, .int .i64 s.ow, .int .i64 s.ni, .int .i64 s.iw, .int .i64 s.ri, .int .i64 s.ro, .int .i64 s.nd, .int .i64 0, .int .i64 0, .int .i64 s.hm, .int .i64 s.rh] 63)) := (Below.refl _ _).alloc (Nat.le_refl _) _
  have y0 : (w1.alloc (.cells #[.bool s.peer, .int .i64 s.no, .int .i64 s.ow, .int .i64 s.ni, .int .i64 s.iw, .int .i64 s.ri, .int .i64 s.ro, .int .i64 s.nd, .int .i64 0, .int .i64 0, .int .i64 s.hm, .int .i64 s.rh] 63)).heap[w1.heap.size]? = some (.cells #[.bool s.peer, .int .i64 s.no, .int .i64 s.ow, .int .i64 s.ni, .int .i64 s.iw, .int .i64 s.ri, .int .i64 s.ro, .int .i64 s.nd, .int .i64 0, .int .i64 0, .int .i64 s.hm, .int .i64 s.rh] 63 (0, 0)) := _root_.Go.heap_alloc_new _ _
  generalize (w1.alloc (.cells #[.bool s.peer, .int .i64 s.no, .int .i64 s.ow, .int .i64 s.ni, .int .i64 s.iw, .int .i64 s.ri, .int .i64 s.ro, .int .i64 s.nd, .int .i64 0, .int .i64 0, .int .i64 s.hm, .int .i64 s.rh] 63)) = w2 at *
  obtain ⟨y, hy⟩ : ∃ y, w1.heap.size = y := ⟨_, rfl⟩
  have hxy : x ≠ y := by omega
  have hKy : ∀ j, K.has j → j ≠ y := fun j hj => by have := H.out.lt j hj; have := HX.out; omega
  have hb2 := HB0.out.trans (hb1.mono HB0.out.size)
  have H2 := Lib.hid (H.out.below hb2)
  have z2 := (hb1.block x (by omega)).trans HZ0.out
  have HZ2 := Lib.hid (And.intro z2 (And.intro hxy (show w.heap.size ≤ y by rw [← hy]; exact HB0.out.size)))
  have HB2 := Lib.hid hb2
  rw [hy] at y0 ⊢
  have HY := Lib.hid y0
  have HK := Lib.hid hKy
  have c14 : w2.cell? ⟨K.b, 14, none⟩ = some (.pointer (some ⟨K.tS, 0, none⟩)) := H2.out.cs 14 _ rfl
  have c15 : w2.cell? ⟨K.b, 15, none⟩ = some (.pointer (some ⟨K.tA, 0, none⟩)) := H2.out.cs 15 _ rfl
  have tS : w2.cell? ⟨K.tS, 0, none⟩ = some (.map (some K.mS)) := (cell_of_row _ _ 0 _ _ _ H2.out.rowS).trans rfl
  have tA : w2.cell? ⟨K.tA, 0, none⟩ = some (.map (some K.mA)) := (cell_of_row _ _ 0 _ _ _ H2.out.rowA).trans rfl
  have y8 : w2.cell? ⟨y, 8, none⟩ = some (.int .i64 0) := (cell_of_row _ _ 8 _ _ _ y0).trans rfl
  have y9 : w2.cell? ⟨y, 9, none⟩ = some (.int .i64 0) := (cell_of_row _ _ 9 _ _ _ y0).trans rfl
  have fz : ∀ i, w2.frozen? ⟨y, i, none⟩ = false := fun i => by simp [World.frozen?, y0]
  have lS : ∀ W, AgreeB w2 W y → (Builtin.len_ #[90] 3 #[.map (some K.mS)]).run Try.prog W = .ok (.int .i64 s.snd.length) W := fun W hW => by
    have := (H2.out.snd.same (hW K.mS (HK.out _ (.inr (.inr (.inr (.inr (.inl rfl)))))))).len Try.underlying90 3
    simpa [pend] using this
  have lA : ∀ W, AgreeB w2 W y → (Builtin.len_ #[90] 3 #[.map (some K.mA)]).run Try.prog W = .ok (.int .i64 s.arr.length) W := fun W hW => by
    have := (H2.out.arr.same (hW K.mA (HK.out _ (.inr (.inr (.inr (.inr (.inr rfl)))))))).len Try.underlying90 3
    simpa [pend] using this
  have n0 : K.b ≠ y := HK.out _ (.inl rfl)
  have n1 : K.tS ≠ y := HK.out _ (.inr (.inl rfl))
  have n2 : K.tA ≠ y := HK.out _ (.inr (.inr (.inl rfl)))
  clear c1 c2 c3 c4 c5 c6 c7 c8 c9 c10 c11 c12 hy hxy hKy hb2 z2 y0 hb1 hz0 hblt
  go_region_held3 (fun w' => w'.cell? ⟨K.b, 14, none⟩ = some (.pointer (some ⟨K.tS, 0, none⟩)) ∧ w'.cell? ⟨K.b, 15, none⟩ = some (.pointer (some ⟨K.tA, 0, none⟩)) ∧ w'.cell? ⟨K.tS, 0, none⟩ = some (.map (some K.mS)) ∧ w'.cell? ⟨K.tA, 0, none⟩ = some (.map (some K.mA)) ∧
      (Builtin.len_ #[90] 3 #[.map (some K.mS)]).run Try.prog w' = .ok (.int .i64 s.snd.length) w' ∧ (Builtin.len_ #[90] 3 #[.map (some K.mA)]).run Try.prog w' = .ok (.int .i64 s.arr.length) w')
    (exact (fun hb => ⟨agree_cell hb c14 n0, agree_cell hb c15 n0, agree_cell hb tS n1, agree_cell hb tA n2, lS _ hb, lA _ hb⟩ : AgreeB w2 _ y → _) (by repeat (first | exact agree_refl _ _ | apply agree_set | apply agree_drew)))
    (fail)
  have y3 : ((w2.setCell ⟨y, 8, none⟩ (.int .i64 s.snd.length)).setCell ⟨y, 9, none⟩ (.int .i64 s.arr.length)).drew.heap[y]? = some (.cells s.state 63 (0, 0)) := heap_setCell_same _ y 9 _ _ (.int .i64 s.arr.length) (heap_setCell_same w2 y 8 _ _ (.int .i64 s.snd.length) HY.out)
  have x3 : ((w2.setCell ⟨y, 8, none⟩ (.int .i64 s.snd.length)).setCell ⟨y, 9, none⟩ (.int .i64 s.arr.length)).drew.heap[x]? = some (.cells #[.bool false, .int .i64 0, .int .i64 0, .int .i64 0, .int .i64 0, .int .i64 0, .int .i64 0, .int .i64 0, .int .i64 0, .int .i64 0, .int .i64 0, .int .i64 0] 63 (0, 0)) := (set_far HZ2.out.2.1).trans ((set_far HZ2.out.2.1).trans HZ2.out.1)
  have b3 : Below w.heap.size w ((w2.setCell ⟨y, 8, none⟩ (.int .i64 s.snd.length)).setCell ⟨y, 9, none⟩ (.int .i64 s.arr.length)).drew := bs_drew ((HB2.out.setCell (p := ⟨y, 8, none⟩) HZ2.out.2.2 _).setCell (p := ⟨y, 9, none⟩) HZ2.out.2.2 _)
  generalize ((w2.setCell ⟨y, 8, none⟩ (.int .i64 s.snd.length)).setCell ⟨y, 9, none⟩ (.int .i64 s.arr.length)).drew = w3 at *
  have HB3 := Lib.hid b3
  clear c14 c15 tS tA y8 y9 fz lS lA n0 n1 n2 b3
  go_wp2_with (first
    | (refine wpList_load_row rfl 63 (.tmp 3) rfl y rfl 63 s.state (0, 0) _ y3 Try.underlying63 rfl (by as_aux_lemma => kernel_rfl) ?_)
    | (refine wpList_store_rowTo rfl 63 (.tmp 2) (.tmp 26) rfl rfl x s.state rfl rfl 63 #[.bool false, .int .i64 0, .int .i64 0, .int .i64 0, .int .i64 0, .int .i64 0, .int .i64 0, .int .i64 0, .int .i64 0, .int .i64 0, .int .i64 0, .int .i64 0] x3 (by as_aux_lemma => kernel_rfl) (by as_aux_lemma => kernel_rfl) (by as_aux_lemma => kernel_rfl) ?_))
  have hh := setRow_heap w3 x _ s.state _ _ x3
  have hB := below_setRow HB3.out (show w.heap.size ≤ x by rw [HX.out]; exact Nat.le_refl _) s.state
  refine bodyPost_ret (results_cell_row (p := 2) (ty := 63) (by kernel_rfl) _ _ x 63 s.state (0, 0) _ rfl hh Try.underlying63 rfl (by as_aux_lemma => kernel_rfl)) rfl ?_
  exact ⟨rfl, hB⟩
end Go.Proofs.Ytbkimebmoafbnaa

namespace Go.Proofs.Ytbkimebmoafbnaa
open Go.RowKit Go.Maps
set_option linter.unusedVariables false

def pairRow (l : List (Int × Int)) : List Value := l.flatMap fun p => [.int .i64 p.1, .int .i64 p.2]
def rcells (s : SS) (vh vr vs va : Value) : Array Value := #[.int .i64 s.first, .bool s.peer, .int .i64 s.no, .int .i64 s.ow, .int .i64 s.ni, .int .i64 s.iw, .int .i64 s.ri, .int .i64 s.ro, .int .i64 s.nd, .int .i64 0, .int .i64 0, .int .i64 s.hm, .int .i64 s.rh, vh, vr, vs, va]

/-- the reference's session in memory: hs: its handles; rs: the peer's, each with ours -/
structure RIn (w : World) (r B : Nat) (s : SS) (hs : List Int) (rs : List (Int × Int)) (vh vr vs va : Value) : Prop where
  row : w.heap[r]? = some (.cells (rcells s vh vr vs va) 88 (0, 0))
  vh : w.ownsRow B 3 1 vh hs.length (hs.map encZ)
  vr : w.ownsRow B 111 2 vr rs.length (pairRow rs)
  vs : w.ownsRow B 59 3 vs s.snd.length (pndRow s.snd)
  va : w.ownsRow B 59 3 va s.arr.length (pndRow s.arr)
  lt : r < B
  le : B ≤ w.heap.size
  ok : s.ok

theorem RIn.cs {w : World} {r B : Nat} {s : SS} {hs : List Int} {rs : List (Int × Int)} {vh vr vs va : Value} (h : RIn w r B s hs rs vh vr vs va) (i : Nat) (v : Value) (hv : (rcells s vh vr vs va)[i]? = some v) : w.cell? ⟨r, i, none⟩ = some v := (cell_of_row _ _ i _ _ _ h.row).trans hv

theorem row_slice {W : World} {B T k n : Nat} {v : Value} {xs : List Value} (h : W.ownsRow B T k v n xs) : ∃ p c, v = .slice p n c := by
  rcases h.2 with ⟨rfl, rfl⟩ | ⟨g, cap, cur, rfl, _⟩
  · exact ⟨none, 0, rfl⟩
  · exact ⟨_, _, rfl⟩

theorem rword_any (n : Int) (w : World) : Calls Try.prog 55 #[.int .i64 n] w fun e w' => e = .returned (.bool (decide (Word n))) ∧ w' = w := by
  by_cases h1 : 0 ≤ n
  · by_cases h2 : n ≤ 4294967295
    · rw [decide_eq_true (show Word n from ⟨h1, h2⟩)]
      go_enter Try.func55, Try.ntmps55
      go_wp2_with fail
      go_ret
      exact ⟨by simp <;> omega, rfl⟩
    · rw [decide_eq_false (show ¬ Word n from fun h => h2 h.2)]
      go_enter Try.func55, Try.ntmps55
      go_wp2_with fail
      go_ret
      exact ⟨by simp <;> omega, rfl⟩
  · rw [decide_eq_false (show ¬ Word n from fun h => h1 h.1)]
    go_enter Try.func55, Try.ntmps55
    go_wp2_with fail
    go_ret
    exact ⟨by simp <;> omega, rfl⟩

set_option maxHeartbeats 4000000 in
theorem four_any (w : World) (k re ni iw no ow hm hd ct cr av : Int) (dr : Bool) :
    Calls Try.prog 34 #[.agg (perfC k re ni iw no ow hm hd ct cr av dr)] w fun e w' => e = .returned (.bool (decide (BeginOk k no iw ow hm))) ∧ Below w.heap.size w w' := by
  obtain ⟨z, hz⟩ : ∃ z, decide (BeginOk k no iw ow hm) = z := ⟨_, rfl⟩
  rw [hz]
  obtain ⟨P, hP⟩ : ∃ P, perfC k re ni iw no ow hm hd ct cr av dr = P := ⟨_, rfl⟩
  rw [hP]
  go_enter Try.func34, Try.ntmps34
  go_upto_region 1 with fail
  have hb : Below w.heap.size w (w.alloc (.cells P 39)) := (Below.refl _ _).alloc (Nat.le_refl _) _
  have h0 : (w.alloc (.cells P 39)).heap[w.heap.size]? = some (.cells P 39 (0, 0)) := heap_alloc_new _ _
  generalize (w.alloc (.cells P 39)) = w0 at *
  obtain ⟨x, hx⟩ : ∃ x, w.heap.size = x := ⟨_, rfl⟩
  rw [hx] at h0 ⊢
  rw [← hP] at h0
  obtain ⟨c0, _, c13, c14, c15, c16⟩ := perf_cells h0
  have HB := Lib.hid hb
  clear hb h0 hP hx
  have i1 := rword_any no w0
  have i2 := rword_any iw w0
  have i3 := rword_any ow w0
  have i4 := rword_any hm w0
  have HD : Hid (z = (decide (k = 17) && decide (Word no) && decide (Word iw) && decide (Word ow) && decide (Word hm))) := Lib.hid (by
    rw [← hz]
    unfold BeginOk
    by_cases h1 : k = 17 <;> by_cases h2 : Word no <;> by_cases h3 : Word iw <;> by_cases h4 : Word ow <;> by_cases h5 : Word hm <;> simp [h1, h2, h3, h4, h5])
  generalize decide (Word no) = b1 at *
  generalize decide (Word iw) = b2 at *
  generalize decide (Word ow) = b3 at *
  generalize decide (Word hm) = b4 at *
  clear hz
  go_wp2_with fail
  refine i1.mono ?_
  rintro e w' ⟨rfl, rfl⟩
  go_wp2_with fail
  refine i2.mono ?_
  rintro e w' ⟨rfl, rfl⟩
  go_wp2_with fail
  refine i3.mono ?_
  rintro e w' ⟨rfl, rfl⟩
  go_wp2_with fail
  refine i4.mono ?_
  rintro e w' ⟨rfl, rfl⟩
  clear i1 i2 i3 i4
  by_cases hk : k = 17
  · have hk' : (k == 17) = true := by simpa using hk
    cases b1
    · go_wp2_with fail
      go_ret
      exact ⟨by rw [HD.out]; simp, HB.out⟩
    · cases b2
      · go_wp2_with fail
        go_ret
        exact ⟨by rw [HD.out]; simp, HB.out⟩
      · cases b3
        · go_wp2_with fail
          go_ret
          exact ⟨by rw [HD.out]; simp, HB.out⟩
        · cases b4
          · go_wp2_with fail
            go_ret
            exact ⟨by rw [HD.out]; simp, HB.out⟩
          · go_wp2_with fail
            go_ret
            exact ⟨by rw [HD.out]; simp [hk], HB.out⟩
  · have hk' : (k == 17) = false := by simpa using hk
    go_wp2_with fail
    go_ret
    exact ⟨by rw [HD.out]; simp [hk], HB.out⟩

theorem rnew_bad (w : World) (k re ni iw no ow hm hd ct cr av : Int) (dr : Bool) (h : ¬ BeginOk k no iw ow hm) :
    Calls Try.prog 11 #[.agg (perfC k re ni iw no ow hm hd ct cr av dr)] w fun e w' => e = .returned (.pointer none) ∧ Below w.heap.size w w' := by
  have hbg := fun W => four_any W k re ni iw no ow hm hd ct cr av dr
  rw [decide_eq_false h] at hbg
  clear h
  obtain ⟨P, hP⟩ : ∃ P, perfC k re ni iw no ow hm hd ct cr av dr = P := ⟨_, rfl⟩
  have hz : P.size = 128 := by rw [← hP]; exact perf_size ..
  rw [hP] at hbg ⊢
  clear hP
  go_enter Try.func11, Try.ntmps11
  go_upto_region 1 with fail
  have hb : Below w.heap.size w (w.alloc (.cells P 39)) := (Below.refl _ _).alloc (Nat.le_refl _) _
  have h0 : (w.alloc (.cells P 39)).heap[w.heap.size]? = some (.cells P 39 (0, 0)) := heap_alloc_new _ _
  generalize (w.alloc (.cells P 39)) = w0 at *
  obtain ⟨x, hx⟩ : ∃ x, w.heap.size = x := ⟨_, rfl⟩
  rw [hx] at h0 ⊢
  have HB := Lib.hid hb
  have hcall := hbg w0
  clear hb hx hbg
  go_wp2_with (refine wpList_load_row rfl 39 (.tmp 1) rfl x rfl 39 P (0, 0) _ h0 Try.underlying39 rfl (by rw [hz]; as_aux_lemma => kernel_rfl) ?_)
  refine hcall.mono ?_
  rintro e w1 ⟨rfl, hb1⟩
  have HB1 := Lib.hid (HB.out.trans (hb1.mono HB.out.size))
  clear hcall hb1 h0
  go_wp2_with fail
  go_ret
  exact ⟨rfl, HB1.out⟩

set_option maxRecDepth 20000 in
set_option maxHeartbeats 4000000 in
theorem rnew_ok (w : World) (k re ni iw no ow hm hd ct cr av : Int) (dr : Bool) (h : BeginOk k no iw ow hm) :
    Calls Try.prog 11 #[.agg (perfC k re ni iw no ow hm hd ct cr av dr)] w fun e w' => ∃ r, e = .returned (.pointer (some ⟨r, 0, none⟩)) ∧ w.heap.size ≤ r ∧ RIn w' r (r + 1) (SS.new no iw ow hm) [] [] (.slice none 0 0) (.slice none 0 0) (.slice none 0 0) (.slice none 0 0) ∧ Below w.heap.size w w' := by
  have hbg := fun W => four_any W k re ni iw no ow hm hd ct cr av dr
  rw [decide_eq_true h] at hbg
  have HOK := Lib.hid h
  clear h
  obtain ⟨P, hP⟩ : ∃ P, perfC k re ni iw no ow hm hd ct cr av dr = P := ⟨_, rfl⟩
  have hz : P.size = 128 := by rw [← hP]; exact perf_size ..
  rw [hP] at hbg ⊢
  have HP := Lib.hid hP
  clear hP
  go_enter Try.func11, Try.ntmps11
  go_upto_region 1 with fail
  have hb : Below w.heap.size w (w.alloc (.cells P 39)) := (Below.refl _ _).alloc (Nat.le_refl _) _
  have h0 : (w.alloc (.cells P 39)).heap[w.heap.size]? = some (.cells P 39 (0, 0)) := heap_alloc_new _ _
  generalize (w.alloc (.cells P 39)) = w0 at *
  obtain ⟨x, hx⟩ : ∃ x, w.heap.size = x := ⟨_, rfl⟩
  rw [hx] at h0 ⊢
  have HX := Lib.hid hx
  have HB := Lib.hid hb
  have hcall := hbg w0
  clear hb hx hbg
  go_wp2_with (refine wpList_load_row rfl 39 (.tmp 1) rfl x rfl 39 P (0, 0) _ h0 Try.underlying39 rfl (by rw [hz]; as_aux_lemma => kernel_rfl) ?_)
  refine hcall.mono ?_
  rintro e w1 ⟨rfl, hb1⟩
  have hp1 := (hb1.block x (Array.getElem?_eq_some_iff.1 h0).1).trans h0
  rw [← HP.out] at hp1
  obtain ⟨_, _, c13, c14, c15, c16⟩ := perf_cells hp1
  have HB1 := Lib.hid (HB.out.trans (hb1.mono HB.out.size))
  have HP1 := Lib.hid hp1
  clear hcall hb1 h0 hp1
  go_upto_region 5 with fail
  have hb2 : Below w1.heap.size w1 (w1.alloc (.cells #[.int .i64 no, .bool false, .int .i64 0, .int .i64 0, .int .i64 0, .int .i64 0, .int .i64 0, .int .i64 0, .int .i64 0, .int .i64 0, .int .i64 0, .int .i64 0, .int .i64 0, .slice none 0 0, .slice none 0 0, .slice none 0 0, .slice none 0 0] 88)) := (Below.refl _ _).alloc (Nat.le_refl _) _
  have y0 : (w1.alloc (.cells #[.int .i64 no, .bool false, .int .i64 0, .int .i64 0, .int .i64 0, .int .i64 0, .int .i64 0, .int .i64 0, .int .i64 0, .int .i64 0, .int .i64 0, .int .i64 0, .int .i64 0, .slice none 0 0, .slice none 0 0, .slice none 0 0, .slice none 0 0] 88)).heap[w1.heap.size]? = some (.cells #[.int .i64 no, .bool false, .int .i64 0, .int .i64 0, .int .i64 0, .int .i64 0, .int .i64 0, .int .i64 0, .int .i64 0, .int .i64 0, .int .i64 0, .int .i64 0, .int .i64 0, .slice none 0 0, .slice none 0 0, .slice none 0 0, .slice none 0 0] 88 (0, 0)) := _root_.Go.heap_alloc_new _ _
  have hz2 : w1.heap.size < (w1.alloc (.cells #[.int .i64 no, .bool false, .int .i64 0, .int .i64 0, .int .i64 0, .int .i64 0, .int .i64 0, .int .i64 0, .int .i64 0, .int .i64 0, .int .i64 0, .int .i64 0, .int .i64 0, .slice none 0 0, .slice none 0 0, .slice none 0 0, .slice none 0 0] 88)).heap.size := by simp
  generalize (w1.alloc (.cells #[.int .i64 no, .bool false, .int .i64 0, .int .i64 0, .int .i64 0, .int .i64 0, .int .i64 0, .int .i64 0, .int .i64 0, .int .i64 0, .int .i64 0, .int .i64 0, .int .i64 0, .slice none 0 0, .slice none 0 0, .slice none 0 0, .slice none 0 0] 88)) = w2 at *
  have hx1 := (Array.getElem?_eq_some_iff.1 HP1.out).1
  have hx2 := (hb2.block x hx1).trans HP1.out
  have HB2 := Lib.hid (HB1.out.trans (hb2.mono HB1.out.size))
  have hwy := HB1.out.size
  obtain ⟨y, hy⟩ : ∃ y, w1.heap.size = y := ⟨_, rfl⟩
  rw [hy] at y0 hz2 hwy hx1 ⊢
  have hxy : x ≠ y := by omega
  have hyx : y ≠ x := fun e => hxy e.symm
  have HY := Lib.hid (And.intro y0 (And.intro hwy hz2))
  clear c13 c14 c15 c16 hb2 hy hx1 hwy hz2
  obtain ⟨_, _, c13, c14, c15, c16⟩ := perf_cells hx2
  have b2 : w2.cell? ⟨y, 2, none⟩ = some (.int .i64 0) := (cell_of_row _ _ 2 _ _ _ y0).trans rfl
  have b3 : w2.cell? ⟨y, 3, none⟩ = some (.int .i64 0) := (cell_of_row _ _ 3 _ _ _ y0).trans rfl
  have b5 : w2.cell? ⟨y, 5, none⟩ = some (.int .i64 0) := (cell_of_row _ _ 5 _ _ _ y0).trans rfl
  have b11 : w2.cell? ⟨y, 11, none⟩ = some (.int .i64 0) := (cell_of_row _ _ 11 _ _ _ y0).trans rfl
  have fz : ∀ i, w2.frozen? ⟨y, i, none⟩ = false := fun i => by simp [World.frozen?, y0]
  clear y0 hx2
  go_wp2_with fail
  go_ret
  have e4 := heap_setCell_same _ y 11 _ _ (.int .i64 hm) (heap_setCell_same _ y 3 _ _ (.int .i64 ow) (heap_setCell_same _ y 5 _ _ (.int .i64 iw) (heap_setCell_same w2 y 2 _ _ (.int .i64 no) HY.out.1)))
  refine ⟨y, rfl, HY.out.2.1, ⟨e4, World.ownsRow_nil _ _ _ _, World.ownsRow_nil _ _ _ _, World.ownsRow_nil _ _ _ _, World.ownsRow_nil _ _ _ _, Nat.lt_succ_self _, ?_, SS.new_ok HOK.out.2.1 HOK.out.2.2.1 HOK.out.2.2.2.1 HOK.out.2.2.2.2⟩, (((HB2.out.setCell (p := ⟨y, 2, none⟩) HY.out.2.1 _).setCell (p := ⟨y, 5, none⟩) HY.out.2.1 _).setCell (p := ⟨y, 3, none⟩) HY.out.2.1 _).setCell (p := ⟨y, 11, none⟩) HY.out.2.1 _⟩
  have := HY.out.2.2
  simp [World.setCell]
  omega
end Go.Proofs.Ytbkimebmoafbnaa
