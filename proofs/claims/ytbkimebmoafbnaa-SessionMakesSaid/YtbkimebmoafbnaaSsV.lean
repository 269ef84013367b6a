/-
  The reference's session in memory; its word, four, New, State. Conditions: it lies in memory.
-/
import Derived.Test.YtbkimebmoafbnaaSsL
import Derived.Test.YtbkimebmoafbnaaSsT
namespace Go.Proofs.Ytbkimebmoafbnaa
open Go.RowKit Go.Maps
set_option linter.unusedVariables false

def pairRow (l : List (Int × Int)) : List Value := l.flatMap fun p => [.int .i64 p.1, .int .i64 p.2]
def rcells (s : SS) (vh vr vs va : Value) : Array Value := #[.int .i64 s.first, .bool s.peer, .int .i64 s.no, .int .i64 s.ow, .int .i64 s.ni, .int .i64 s.iw, .int .i64 s.ri, .int .i64 s.ro, .int .i64 s.nd, .int .i64 0, .int .i64 0, .int .i64 s.hm, .int .i64 s.rh, vh, vr, vs, va]

/-- the reference's session in memory: hs: its handles; rs: the peer's, each with ours -/
structure RIn (w : World) (r B : Nat) (s : SS) (hs : List Int) (rs : List (Int × Int)) (vh vr vs va : Value) : Prop where
  row : w.heap[r]? = some (.cells (rcells s vh vr vs va) 88 (0, 0))
  vh : w.ownsRow B 3 1 vh hs.length (hs.map encZ)
  vr : w.ownsRow B 111 2 vr rs.length (pairRow rs)
  vs : w.ownsRow B 59 3 vs s.snd.length (pndRow s.snd)
  va : w.ownsRow B 59 3 va s.arr.length (pndRow s.arr)
  lt : r < B
  le : B ≤ w.heap.size
  ok : s.ok

theorem RIn.cs {w : World} {r B : Nat} {s : SS} {hs : List Int} {rs : List (Int × Int)} {vh vr vs va : Value} (h : RIn w r B s hs rs vh vr vs va) (i : Nat) (v : Value) (hv : (rcells s vh vr vs va)[i]? = some v) : w.cell? ⟨r, i, none⟩ = some v := (cell_of_row _ _ i _ _ _ h.row).trans hv

theorem row_slice {W : World} {B T k n : Nat} {v : Value} {xs : List Value} (h : W.ownsRow B T k v n xs) : ∃ p c, v = .slice p n c := by
  rcases h.2 with ⟨rfl, rfl⟩ | ⟨g, cap, cur, rfl, _⟩
  · exact ⟨none, 0, rfl⟩
  · exact ⟨_, _, rfl⟩

theorem rword_any (n : Int) (w : World) : Calls Try.prog 55 #[.int .i64 n] w fun e w' => e = .returned (.bool (decide (Word n))) ∧ w' = w := by
  by_cases h1 : 0 ≤ n
  · by_cases h2 : n ≤ 4294967295
    · rw [decide_eq_true (show Word n from ⟨h1, h2⟩)]
      go_enter Try.func55, Try.ntmps55
      go_wp2_with fail
      go_ret
      exact ⟨by simp <;> omega, rfl⟩
    · rw [decide_eq_false (show ¬ Word n from fun h => h2 h.2)]
      go_enter Try.func55, Try.ntmps55
      go_wp2_with fail
      go_ret
      exact ⟨by simp <;> omega, rfl⟩
  · rw [decide_eq_false (show ¬ Word n from fun h => h1 h.1)]
    go_enter Try.func55, Try.ntmps55
    go_wp2_with fail
    go_ret
    exact ⟨by simp <;> omega, rfl⟩

set_option maxHeartbeats 4000000 in
theorem four_any (w : World) (k re ni iw no ow hm hd ct cr av : Int) (dr : Bool) :
    Calls Try.prog 34 #[.agg (perfC k re ni iw no ow hm hd ct cr av dr)] w fun e w' => e = .returned (.bool (decide (BeginOk k no iw ow hm))) ∧ Below w.heap.size w w' := by
  obtain ⟨z, hz⟩ : ∃ z, decide (BeginOk k no iw ow hm) = z := ⟨_, rfl⟩
  rw [hz]
  obtain ⟨P, hP⟩ : ∃ P, perfC k re ni iw no ow hm hd ct cr av dr = P := ⟨_, rfl⟩
  rw [hP]
  go_enter Try.func34, Try.ntmps34
  go_upto_region 1 with fail
  have hb : Below w.heap.size w (w.alloc (.cells P 39)) := (Below.refl _ _).alloc (Nat.le_refl _) _
  have h0 : (w.alloc (.cells P 39)).heap[w.heap.size]? = some (.cells P 39 (0, 0)) := heap_alloc_new _ _
  generalize (w.alloc (.cells P 39)) = w0 at *
  obtain ⟨x, hx⟩ : ∃ x, w.heap.size = x := ⟨_, rfl⟩
  rw [hx] at h0 ⊢
  rw [← hP] at h0
  obtain ⟨c0, _, c13, c14, c15, c16⟩ := perf_cells h0
  have HB := Lib.hid hb
  clear hb h0 hP hx
  have i1 := rword_any no w0
  have i2 := rword_any iw w0
  have i3 := rword_any ow w0
  have i4 := rword_any hm w0
  have HD : Hid (z = (decide (k = 17) && decide (Word no) && decide (Word iw) && decide (Word ow) && decide (Word hm))) := Lib.hid (by
    rw [← hz]
    unfold BeginOk
    by_cases h1 : k = 17 <;> by_cases h2 : Word no <;> by_cases h3 : Word iw <;> by_cases h4 : Word ow <;> by_cases h5 : Word hm <;> simp [h1, h2, h3, h4, h5])
  generalize decide (Word no) = b1 at *
  generalize decide (Word iw) = b2 at *
  generalize decide (Word ow) = b3 at *
  generalize decide (Word hm) = b4 at *
  clear hz
  go_wp2_with fail
  refine i1.mono ?_
  rintro e w' ⟨rfl, rfl⟩
  go_wp2_with fail
  refine i2.mono ?_
  rintro e w' ⟨rfl, rfl⟩
  go_wp2_with fail
  refine i3.mono ?_
  rintro e w' ⟨rfl, rfl⟩
  go_wp2_with fail
  refine i4.mono ?_
  rintro e w' ⟨rfl, rfl⟩
  clear i1 i2 i3 i4
  by_cases hk : k = 17
  · have hk' : (k == 17) = true := by simpa using hk
    cases b1
    · go_wp2_with fail
      go_ret
      exact ⟨by rw [HD.out]; simp, HB.out⟩
    · cases b2
      · go_wp2_with fail
        go_ret
        exact ⟨by rw [HD.out]; simp, HB.out⟩
      · cases b3
        · go_wp2_with fail
          go_ret
          exact ⟨by rw [HD.out]; simp, HB.out⟩
        · cases b4
          · go_wp2_with fail
            go_ret
            exact ⟨by rw [HD.out]; simp, HB.out⟩
          · go_wp2_with fail
            go_ret
            exact ⟨by rw [HD.out]; simp [hk], HB.out⟩
  · have hk' : (k == 17) = false := by simpa using hk
    go_wp2_with fail
    go_ret
    exact ⟨by rw [HD.out]; simp [hk], HB.out⟩

theorem rnew_bad (w : World) (k re ni iw no ow hm hd ct cr av : Int) (dr : Bool) (h : ¬ BeginOk k no iw ow hm) :
    Calls Try.prog 11 #[.agg (perfC k re ni iw no ow hm hd ct cr av dr)] w fun e w' => e = .returned (.pointer none) ∧ Below w.heap.size w w' := by
  have hbg := fun W => four_any W k re ni iw no ow hm hd ct cr av dr
  rw [decide_eq_false h] at hbg
  clear h
  obtain ⟨P, hP⟩ : ∃ P, perfC k re ni iw no ow hm hd ct cr av dr = P := ⟨_, rfl⟩
  have hz : P.size = 128 := by rw [← hP]; exact perf_size ..
  rw [hP] at hbg ⊢
  clear hP
  go_enter Try.func11, Try.ntmps11
  go_upto_region 1 with fail
  have hb : Below w.heap.size w (w.alloc (.cells P 39)) := (Below.refl _ _).alloc (Nat.le_refl _) _
  have h0 : (w.alloc (.cells P 39)).heap[w.heap.size]? = some (.cells P 39 (0, 0)) := heap_alloc_new _ _
  generalize (w.alloc (.cells P 39)) = w0 at *
  obtain ⟨x, hx⟩ : ∃ x, w.heap.size = x := ⟨_, rfl⟩
  rw [hx] at h0 ⊢
  have HB := Lib.hid hb
  have hcall := hbg w0
  clear hb hx hbg
  go_wp2_with (refine wpList_load_row rfl 39 (.tmp 1) rfl x rfl 39 P (0, 0) _ h0 Try.underlying39 rfl (by rw [hz]; as_aux_lemma => kernel_rfl) ?_)
  refine hcall.mono ?_
  rintro e w1 ⟨rfl, hb1⟩
  have HB1 := Lib.hid (HB.out.trans (hb1.mono HB.out.size))
  clear hcall hb1 h0
  go_wp2_with fail
  go_ret
  exact ⟨rfl, HB1.out⟩

set_option maxRecDepth 20000 in
set_option maxHeartbeats 4000000 in
theorem rnew_ok (w : World) (k re ni iw no ow hm hd ct cr av : Int) (dr : Bool) (h : BeginOk k no iw ow hm) :
    Calls Try.prog 11 #[.agg (perfC k re ni iw no ow hm hd ct cr av dr)] w fun e w' => ∃ r, e = .returned (.pointer (some ⟨r, 0, none⟩)) ∧ w.heap.size ≤ r ∧ RIn w' r (r + 1) (SS.new no iw ow hm) [] [] (.slice none 0 0) (.slice none 0 0) (.slice none 0 0) (.slice none 0 0) ∧ Below w.heap.size w w' := by
  have hbg := fun W => four_any W k re ni iw no ow hm hd ct cr av dr
  rw [decide_eq_true h] at hbg
  have HOK := Lib.hid h
  clear h
  obtain ⟨P, hP⟩ : ∃ P, perfC k re ni iw no ow hm hd ct cr av dr = P := ⟨_, rfl⟩
  have hz : P.size = 128 := by rw [← hP]; exact perf_size ..
  rw [hP] at hbg ⊢
  have HP := Lib.hid hP
  clear hP
  go_enter Try.func11, Try.ntmps11
  go_upto_region 1 with fail
  have hb : Below w.heap.size w (w.alloc (.cells P 39)) := (Below.refl _ _).alloc (Nat.le_refl _) _
  have h0 : (w.alloc (.cells P 39)).heap[w.heap.size]? = some (.cells P 39 (0, 0)) := heap_alloc_new _ _
  generalize (w.alloc (.cells P 39)) = w0 at *
  obtain ⟨x, hx⟩ : ∃ x, w.heap.size = x := ⟨_, rfl⟩
  rw [hx] at h0 ⊢
  have HX := Lib.hid hx
  have HB := Lib.hid hb
  have hcall := hbg w0
  clear hb hx hbg
  go_wp2_with (refine wpList_load_row rfl 39 (.tmp 1) rfl x rfl 39 P (0, 0) _ h0 Try.underlying39 rfl (by rw [hz]; as_aux_lemma => kernel_rfl) ?_)
  refine hcall.mono ?_
  rintro e w1 ⟨rfl, hb1⟩
  have hp1 := (hb1.block x (Array.getElem?_eq_some_iff.1 h0).1).trans h0
  rw [← HP.out] at hp1
  obtain ⟨_, _, c13, c14, c15, c16⟩ := perf_cells hp1
  have HB1 := Lib.hid (HB.out.trans (hb1.mono HB.out.size))
  have HP1 := Lib.hid hp1
  clear hcall hb1 h0 hp1
  go_upto_region 5 with fail
  have hb2 : Below w1.heap.size w1 (w1.alloc (.cells #[.int .i64 no, .bool false, .int .i64 0, .int .i64 0, .int .i64 0, .int .i64 0, .int .i64 0, .int .i64 0, .int .i64 0, .int .i64 0, .int .i64 0, .int .i64 0, .int .i64 0, .slice none 0 0, .slice none 0 0, .slice none 0 0, .slice none 0 0] 88)) := (Below.refl _ _).alloc (Nat.le_refl _) _
  have y0 : (w1.alloc (.cells #[.int .i64 no, .bool false, .int .i64 0, .int .i64 0, .int .i64 0, .int .i64 0, .int .i64 0, .int .i64 0, .int .i64 0, .int .i64 0, .int .i64 0, .int .i64 0, .int .i64 0, .slice none 0 0, .slice none 0 0, .slice none 0 0, .slice none 0 0] 88)).heap[w1.heap.size]? = some (.cells #[.int .i64 no, .bool false, .int .i64 0, .int .i64 0, .int .i64 0, .int .i64 0, .int .i64 0, .int .i64 0, .int .i64 0, .int .i64 0, .int .i64 0, .int .i64 0, .int .i64 0, .slice none 0 0, .slice none 0 0, .slice none 0 0, .slice none 0 0] 88 (0, 0)) := _root_.Go.heap_alloc_new _ _
  have hz2 : w1.heap.size < (w1.alloc (.cells #[.int .i64 no, .bool false, .int .i64 0, .int .i64 0, .int .i64 0, .int .i64 0, .int .i64 0, .int .i64 0, .int .i64 0, .int .i64 0, .int .i64 0, .int .i64 0, .int .i64 0, .slice none 0 0, .slice none 0 0, .slice none 0 0, .slice none 0 0] 88)).heap.size := by simp
  generalize (w1.alloc (.cells #[.int .i64 no, .bool false, .int .i64 0, .int .i64 0, .int .i64 0, .int .i64 0, .int .i64 0, .int .i64 0, .int .i64 0, .int .i64 0, .int .i64 0, .int .i64 0, .int .i64 0, .slice none 0 0, .slice none 0 0, .slice none 0 0, .slice none 0 0] 88)) = w2 at *
  have hx1 := (Array.getElem?_eq_some_iff.1 HP1.out).1
  have hx2 := (hb2.block x hx1).trans HP1.out
  have HB2 := Lib.hid (HB1.out.trans (hb2.mono HB1.out.size))
  have hwy := HB1.out.size
  obtain ⟨y, hy⟩ : ∃ y, w1.heap.size = y := ⟨_, rfl⟩
  rw [hy] at y0 hz2 hwy hx1 ⊢
  have hxy : x ≠ y := by omega
  have hyx : y ≠ x := fun e => hxy e.symm
  have HY := Lib.hid (And.intro y0 (And.intro hwy hz2))
  clear c13 c14 c15 c16 hb2 hy hx1 hwy hz2
  obtain ⟨_, _, c13, c14, c15, c16⟩ := perf_cells hx2
  have b2 : w2.cell? ⟨y, 2, none⟩ = some (.int .i64 0) := (cell_of_row _ _ 2 _ _ _ y0).trans rfl
  have b3 : w2.cell? ⟨y, 3, none⟩ = some (.int .i64 0) := (cell_of_row _ _ 3 _ _ _ y0).trans rfl
  have b5 : w2.cell? ⟨y, 5, none⟩ = some (.int .i64 0) := (cell_of_row _ _ 5 _ _ _ y0).trans rfl
  have b11 : w2.cell? ⟨y, 11, none⟩ = some (.int .i64 0) := (cell_of_row _ _ 11 _ _ _ y0).trans rfl
  have fz : ∀ i, w2.frozen? ⟨y, i, none⟩ = false := fun i => by simp [World.frozen?, y0]
  clear y0 hx2
  go_wp2_with fail
  go_ret
  have e4 := heap_setCell_same _ y 11 _ _ (.int .i64 hm) (heap_setCell_same _ y 3 _ _ (.int .i64 ow) (heap_setCell_same _ y 5 _ _ (.int .i64 iw) (heap_setCell_same w2 y 2 _ _ (.int .i64 no) HY.out.1)))
  refine ⟨y, rfl, HY.out.2.1, ⟨e4, World.ownsRow_nil _ _ _ _, World.ownsRow_nil _ _ _ _, World.ownsRow_nil _ _ _ _, World.ownsRow_nil _ _ _ _, Nat.lt_succ_self _, ?_, SS.new_ok HOK.out.2.1 HOK.out.2.2.1 HOK.out.2.2.2.1 HOK.out.2.2.2.2⟩, (((HB2.out.setCell (p := ⟨y, 2, none⟩) HY.out.2.1 _).setCell (p := ⟨y, 5, none⟩) HY.out.2.1 _).setCell (p := ⟨y, 3, none⟩) HY.out.2.1 _).setCell (p := ⟨y, 11, none⟩) HY.out.2.1 _⟩
  have := HY.out.2.2
  simp [World.setCell]
  omega
end Go.Proofs.Ytbkimebmoafbnaa
