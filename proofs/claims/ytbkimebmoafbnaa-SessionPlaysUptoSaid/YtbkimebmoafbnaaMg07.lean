/-
  The reference's State; sameState. Conditions: both sessions lie in memory.
  Contracts of the reference's cut, Add, Gap: the same numbers as octet's. No conditions but that an int is one.
  A session's Arrive, Forget. Conditions: the session lies in memory.
-/
import Derived.Test.YtbkimebmoafbnaaMg06
import Derived.Test.YtbkimebmoafbnaaMg01
import Derived.Test.YtbkimebmoafbnaaMg05
namespace Go.Proofs.Ytbkimebmoafbnaa
open Go.RowKit Go.Maps
set_option linter.unusedVariables false

theorem ownsRow_same' {w w' : World} {B T k n : Nat} {v : Value} {xs : List Value} (h : w.ownsRow B T k v n xs) (e : ∀ j, v.ownBlock = some j → w'.heap[j]? = w.heap[j]?) : w'.ownsRow B T k v n xs := by
  refine ⟨h.1, ?_⟩
  rcases h.2 with hn | ⟨g, cap, cur, hv, hbg, hb, rest⟩
  · exact .inl hn
  · exact .inr ⟨g, cap, cur, hv, hbg, (e g (by rw [hv]; rfl)).trans hb, rest⟩

def RBlk (r : Nat) (vh vr vs va : Value) (j : Nat) : Prop := j = r ∨ vh.ownBlock = some j ∨ vr.ownBlock = some j ∨ vs.ownBlock = some j ∨ va.ownBlock = some j

theorem RIn.keep {w w' : World} {r B : Nat} {s : SS} {hs : List Int} {rs : List (Int × Int)} {vh vr vs va : Value} (h : RIn w r B s hs rs vh vr vs va) (hz : w.heap.size ≤ w'.heap.size) (e : ∀ j, RBlk r vh vr vs va j → w'.heap[j]? = w.heap[j]?) : RIn w' r B s hs rs vh vr vs va :=
  ⟨(e r (.inl rfl)).trans h.row, ownsRow_same' h.vh (fun j hj => e j (.inr (.inl hj))), ownsRow_same' h.vr (fun j hj => e j (.inr (.inr (.inl hj)))), ownsRow_same' h.vs (fun j hj => e j (.inr (.inr (.inr (.inl hj))))), ownsRow_same' h.va (fun j hj => e j (.inr (.inr (.inr (.inr hj))))), h.lt, Nat.le_trans h.le hz, h.ok⟩

theorem RIn.blt {w : World} {r B : Nat} {s : SS} {hs : List Int} {rs : List (Int × Int)} {vh vr vs va : Value} (h : RIn w r B s hs rs vh vr vs va) : ∀ j, RBlk r vh vr vs va j → j < w.heap.size := by
  rintro j (rfl | hj | hj | hj | hj)
  · exact (Array.getElem?_eq_some_iff.1 h.row).1
  · exact (h.vh.lt j hj).2
  · exact (h.vr.lt j hj).2
  · exact (h.vs.lt j hj).2
  · exact (h.va.lt j hj).2

theorem RIn.below {w w' : World} {r B : Nat} {s : SS} {hs : List Int} {rs : List (Int × Int)} {vh vr vs va : Value} (h : RIn w r B s hs rs vh vr vs va) (hb : Below w.heap.size w w') : RIn w' r B s hs rs vh vr vs va := h.keep hb.size (fun j hj => hb.block j (h.blt j hj))

set_option maxRecDepth 20000 in
set_option maxHeartbeats 4000000 in
theorem rstate_any (w : World) (r B : Nat) (s : SS) (hs : List Int) (rs : List (Int × Int)) (vh vr vs va : Value) (h : RIn w r B s hs rs vh vr vs va) :
    Calls Try.prog 35 #[.pointer (some ⟨r, 0, none⟩)] w fun e w' => e = .returned (.agg s.state) ∧ Below w.heap.size w w' := by
  obtain ⟨ps, ks, rfl⟩ := row_slice h.vs
  obtain ⟨pa, ka, rfl⟩ := row_slice h.va
  have c1 : w.cell? ⟨r, 1, none⟩ = some (.bool s.peer) := h.cs 1 _ rfl
  have c2 : w.cell? ⟨r, 2, none⟩ = some (.int .i64 s.no) := h.cs 2 _ rfl
  have c3 : w.cell? ⟨r, 3, none⟩ = some (.int .i64 s.ow) := h.cs 3 _ rfl
  have c4 : w.cell? ⟨r, 4, none⟩ = some (.int .i64 s.ni) := h.cs 4 _ rfl
  have c5 : w.cell? ⟨r, 5, none⟩ = some (.int .i64 s.iw) := h.cs 5 _ rfl
  have c6 : w.cell? ⟨r, 6, none⟩ = some (.int .i64 s.ri) := h.cs 6 _ rfl
  have c7 : w.cell? ⟨r, 7, none⟩ = some (.int .i64 s.ro) := h.cs 7 _ rfl
  have c8 : w.cell? ⟨r, 8, none⟩ = some (.int .i64 s.nd) := h.cs 8 _ rfl
  have c9 : w.cell? ⟨r, 9, none⟩ = some (.int .i64 0) := h.cs 9 _ rfl
  have c10 : w.cell? ⟨r, 10, none⟩ = some (.int .i64 0) := h.cs 10 _ rfl
  have c11 : w.cell? ⟨r, 11, none⟩ = some (.int .i64 s.hm) := h.cs 11 _ rfl
  have c12 : w.cell? ⟨r, 12, none⟩ = some (.int .i64 s.rh) := h.cs 12 _ rfl
  have c15 : w.cell? ⟨r, 15, none⟩ = some (.slice ps s.snd.length ks) := h.cs 15 _ rfl
  have c16 : w.cell? ⟨r, 16, none⟩ = some (.slice pa s.arr.length ka) := h.cs 16 _ rfl
  have hblt : r < w.heap.size := World.block_lt_of_cell? w _ c1
  clear h
  go_enter Try.func35, Try.ntmps35
  go_upto_region 1 with fail
  have hb0 : Below w.heap.size w (w.alloc (.cells #[.bool false, .int .i64 0, .int .i64 0, .int .i64 0, .int .i64 0, .int .i64 0, .int .i64 0, .int .i64 0, .int .i64 0, .int .i64 0, .int .i64 0, .int .i64 0] 63)) := (Below.refl _ _).alloc (Nat.le_refl _) _
  have z0 : (w.alloc (.cells #[.bool false, .int .i64 0, .int .i64 0, .int .i64 0, .int .i64 0, .int .i64 0, .int .i64 0, .int .i64 0, .int .i64 0, .int .i64 0, .int .i64 0, .int .i64 0] 63)).heap[w.heap.size]? = some (.cells #[.bool false, .int .i64 0, .int .i64 0, .int .i64 0, .int .i64 0, .int .i64 0, .int .i64 0, .int .i64 0, .int .i64 0, .int .i64 0, .int .i64 0, .int .i64 0] 63 (0, 0)) := _root_.Go.heap_alloc_new _ _
  have hz0 : w.heap.size < (w.alloc (.cells #[.bool false, .int .i64 0, .int .i64 0, .int .i64 0, .int .i64 0, .int .i64 0, .int .i64 0, .int .i64 0, .int .i64 0, .int .i64 0, .int .i64 0, .int .i64 0] 63)).heap.size := by simp
  generalize (w.alloc (.cells #[.bool false, .int .i64 0, .int .i64 0, .int .i64 0, .int .i64 0, .int .i64 0, .int .i64 0, .int .i64 0, .int .i64 0, .int .i64 0, .int .i64 0, .int .i64 0] 63)) = w1 at *
  obtain ⟨x, hx⟩ : ∃ x, w.heap.size = x := ⟨_, rfl⟩
  have HX := Lib.hid hx
  rw [hx] at z0 hz0 hblt ⊢
  have c1 := (hb0.cell (p := ⟨r, 1, none⟩) (by show r < _; omega)).trans c1
  have c2 := (hb0.cell (p := ⟨r, 2, none⟩) (by show r < _; omega)).trans c2
  have c3 := (hb0.cell (p := ⟨r, 3, none⟩) (by show r < _; omega)).trans c3
  have c4 := (hb0.cell (p := ⟨r, 4, none⟩) (by show r < _; omega)).trans c4
  have c5 := (hb0.cell (p := ⟨r, 5, none⟩) (by show r < _; omega)).trans c5
  have c6 := (hb0.cell (p := ⟨r, 6, none⟩) (by show r < _; omega)).trans c6
  have c7 := (hb0.cell (p := ⟨r, 7, none⟩) (by show r < _; omega)).trans c7
  have c8 := (hb0.cell (p := ⟨r, 8, none⟩) (by show r < _; omega)).trans c8
  have c9 := (hb0.cell (p := ⟨r, 9, none⟩) (by show r < _; omega)).trans c9
  have c10 := (hb0.cell (p := ⟨r, 10, none⟩) (by show r < _; omega)).trans c10
  have c11 := (hb0.cell (p := ⟨r, 11, none⟩) (by show r < _; omega)).trans c11
  have c12 := (hb0.cell (p := ⟨r, 12, none⟩) (by show r < _; omega)).trans c12
  have c15 := (hb0.cell (p := ⟨r, 15, none⟩) (by show r < _; omega)).trans c15
  have c16 := (hb0.cell (p := ⟨r, 16, none⟩) (by show r < _; omega)).trans c16
  have HB0 := Lib.hid hb0
  have HZ0 := Lib.hid z0
  clear hb0 hx z0
  go_upto_region 2 with fail
  have hb1 : Below w1.heap.size w1 (w1.alloc (.cells #[.bool s.peer, .int .i64 s.no, .int .i64 s.ow, .int .i64 s.ni, .int .i64 s.iw, .int .i64 s.ri, .int .i64 s.ro, .int .i64 s.nd, .int .i64 0, .int .i64 0, .int .i64 s.hm, .int .i64 s.rh] 63)) := (Below.refl _ _).alloc (Nat.le_refl _) _
  have y0 : (w1.alloc (.cells #[.bool s.peer, .int .i64 s.no, .int .i64 s.ow, .int .i64 s.ni, .int .i64 s.iw, .int .i64 s.ri, .int .i64 s.ro, .int .i64 s.nd, .int .i64 0, .int .i64 0, .int .i64 s.hm, .int .i64 s.rh] 63)).heap[w1.heap.size]? = some (.cells #[.bool s.peer, .int .i64 s.no, .int .i64 s.ow, .int .i64 s.ni, .int .i64 s.iw, .int .i64 s.ri, .int .i64 s.ro, .int .i64 s.nd, .int .i64 0, .int .i64 0, .int .i64 s.hm, .int .i64 s.rh] 63 (0, 0)) := _root_.Go.heap_alloc_new _ _
  generalize (w1.alloc (.cells #[.bool s.peer, .int .i64 s.no, .int .i64 s.ow, .int .i64 s.ni, .int .i64 s.iw, .int .i64 s.ri, .int .i64 s.ro, .int .i64 s.nd, .int .i64 0, .int .i64 0, .int .i64 s.hm, .int .i64 s.rh] 63)) = w2 at *
  have c15 := (hb1.cell (p := ⟨r, 15, none⟩) (by show r < _; omega)).trans c15
  have c16 := (hb1.cell (p := ⟨r, 16, none⟩) (by show r < _; omega)).trans c16
  obtain ⟨y, hy⟩ : ∃ y, w1.heap.size = y := ⟨_, rfl⟩
  have hxy : x ≠ y := by omega
  have n0 : r ≠ y := by omega
  have n1 : y ≠ r := fun e => n0 e.symm
  have hb2 := HB0.out.trans (hb1.mono HB0.out.size)
  have z2 := (hb1.block x (by omega)).trans HZ0.out
  have HZ2 := Lib.hid (And.intro z2 (And.intro hxy (show w.heap.size ≤ y by rw [← hy]; exact HB0.out.size)))
  have HB2 := Lib.hid hb2
  rw [hy] at y0 ⊢
  have HY := Lib.hid y0
  have y8 : w2.cell? ⟨y, 8, none⟩ = some (.int .i64 0) := (cell_of_row _ _ 8 _ _ _ y0).trans rfl
  have y9 : w2.cell? ⟨y, 9, none⟩ = some (.int .i64 0) := (cell_of_row _ _ 9 _ _ _ y0).trans rfl
  have fz : ∀ i, w2.frozen? ⟨y, i, none⟩ = false := fun i => by simp [World.frozen?, y0]
  clear c1 c2 c3 c4 c5 c6 c7 c8 c9 c10 c11 c12 hy hxy hb2 z2 y0 hb1 hz0 hblt
  go_upto_region 4 with fail
  have y3 : ((w2.setCell ⟨y, 8, none⟩ (.int .i64 s.snd.length)).setCell ⟨y, 9, none⟩ (.int .i64 s.arr.length)).heap[y]? = some (.cells s.state 63 (0, 0)) := heap_setCell_same _ y 9 _ _ (.int .i64 s.arr.length) (heap_setCell_same w2 y 8 _ _ (.int .i64 s.snd.length) HY.out)
  have x3 : ((w2.setCell ⟨y, 8, none⟩ (.int .i64 s.snd.length)).setCell ⟨y, 9, none⟩ (.int .i64 s.arr.length)).heap[x]? = some (.cells #[.bool false, .int .i64 0, .int .i64 0, .int .i64 0, .int .i64 0, .int .i64 0, .int .i64 0, .int .i64 0, .int .i64 0, .int .i64 0, .int .i64 0, .int .i64 0] 63 (0, 0)) := (set_far HZ2.out.2.1).trans ((set_far HZ2.out.2.1).trans HZ2.out.1)
  have b3 : Below w.heap.size w ((w2.setCell ⟨y, 8, none⟩ (.int .i64 s.snd.length)).setCell ⟨y, 9, none⟩ (.int .i64 s.arr.length)) := (HB2.out.setCell (p := ⟨y, 8, none⟩) HZ2.out.2.2 _).setCell (p := ⟨y, 9, none⟩) HZ2.out.2.2 _
  generalize ((w2.setCell ⟨y, 8, none⟩ (.int .i64 s.snd.length)).setCell ⟨y, 9, none⟩ (.int .i64 s.arr.length)) = w3 at *
  have HB3 := Lib.hid b3
  clear c15 c16 y8 y9 fz n0 n1 b3
  go_wp2_with (first
    | (refine wpList_load_row rfl 63 (.tmp 3) rfl y rfl 63 s.state (0, 0) _ y3 Try.underlying63 rfl (by as_aux_lemma => kernel_rfl) ?_)
    | (refine wpList_store_rowTo rfl 63 (.tmp 2) (.tmp 20) rfl rfl x s.state rfl rfl 63 #[.bool false, .int .i64 0, .int .i64 0, .int .i64 0, .int .i64 0, .int .i64 0, .int .i64 0, .int .i64 0, .int .i64 0, .int .i64 0, .int .i64 0, .int .i64 0] x3 (by as_aux_lemma => kernel_rfl) (by as_aux_lemma => kernel_rfl) (by as_aux_lemma => kernel_rfl) ?_))
  have hh := setRow_heap w3 x _ s.state _ _ x3
  have hB := below_setRow HB3.out (show w.heap.size ≤ x by rw [HX.out]; exact Nat.le_refl _) s.state
  refine bodyPost_ret (results_cell_row (p := 2) (ty := 63) (by kernel_rfl) _ _ x 63 s.state (0, 0) _ rfl hh Try.underlying63 rfl (by as_aux_lemma => kernel_rfl)) rfl ?_
  exact ⟨rfl, hB⟩
end Go.Proofs.Ytbkimebmoafbnaa

namespace Go.Proofs.Ytbkimebmoafbnaa
open Go.RowKit
set_option linter.unusedVariables false

theorem cut_any (a : Int) (w : World) (ha : IsI64 a) :
    Calls Try.prog 87 #[.int .i64 a] w fun e w' => e = .returned (.int .i64 (a % 4294967296)) ∧ w = w' := by
  obtain ⟨ha1, ha2⟩ := ha
  by_cases h : a.tmod 4294967296 < 0
  · go_enter Try.func87, Try.ntmps87
    go_wp2
    go_ret
    refine ⟨ret_i64 ?_, rfl⟩
    have h2 := Int.tmod_eq_emod (a := a) (b := 4294967296)
    unfold wrap64
    split at h2 <;> omega
  · go_enter Try.func87, Try.ntmps87
    go_wp2
    go_ret
    refine ⟨ret_i64 ?_, rfl⟩
    have h2 := Int.tmod_eq_emod (a := a) (b := 4294967296)
    split at h2 <;> omega

theorem refAdd_any (a n : Int) (w : World) (ha : IsI64 a) (hn : IsI64 n) :
    Calls Try.prog 65 #[.int .i64 a, .int .i64 n] w fun e w' => e = .returned (.int .i64 (addS a n)) ∧ w = w' := by
  go_enter Try.func65, Try.ntmps65
  go_wp2_with fail
  obtain ⟨x, hx, h11, h12⟩ : ∃ x, a % 4294967296 = x ∧ 0 ≤ x ∧ x < 4294967296 := ⟨_, rfl, by omega, by omega⟩
  obtain ⟨y, hy, h21, h22⟩ : ∃ y, n % 4294967296 = y ∧ 0 ≤ y ∧ y < 4294967296 := ⟨_, rfl, by omega, by omega⟩
  have HX := Lib.hid hx
  have HY := Lib.hid hy
  clear hx hy
  refine (cut_any a w ha).mono ?_
  rintro e w' ⟨rfl, rfl⟩
  rw [HX.out]
  go_wp2_with fail
  refine (cut_any n w hn).mono ?_
  rintro e w' ⟨rfl, rfl⟩
  rw [HY.out]
  go_wp2_with fail
  go_ret
  exact ⟨ret_i64 (by unfold addS; rw [HX.out, HY.out]), rfl⟩

theorem refGap_any (a b : Int) (w : World) (ha : IsI64 a) (hb : IsI64 b) :
    Calls Try.prog 66 #[.int .i64 a, .int .i64 b] w fun e w' => e = .returned (.int .i64 (gapS a b)) ∧ w = w' := by
  go_enter Try.func66, Try.ntmps66
  go_wp2_with fail
  obtain ⟨x, hx, h11, h12⟩ : ∃ x, a % 4294967296 = x ∧ 0 ≤ x ∧ x < 4294967296 := ⟨_, rfl, by omega, by omega⟩
  obtain ⟨y, hy, h21, h22⟩ : ∃ y, b % 4294967296 = y ∧ 0 ≤ y ∧ y < 4294967296 := ⟨_, rfl, by omega, by omega⟩
  have HX := Lib.hid hx
  have HY := Lib.hid hy
  clear hx hy
  refine (cut_any a w ha).mono ?_
  rintro e w' ⟨rfl, rfl⟩
  rw [HX.out]
  go_wp2_with fail
  refine (cut_any b w hb).mono ?_
  rintro e w' ⟨rfl, rfl⟩
  rw [HY.out]
  by_cases c1 : 2147483648 ≤ y - x
  · go_wp2_with fail
    go_ret
    exact ⟨ret_i64 (by unfold gapS; rw [HX.out, HY.out]; omega), rfl⟩
  · by_cases c2 : y - x < -2147483648
    · go_wp2_with fail
      go_ret
      exact ⟨ret_i64 (by unfold gapS; rw [HX.out, HY.out]; omega), rfl⟩
    · go_wp2_with fail
      go_ret
      exact ⟨ret_i64 (by unfold gapS; rw [HX.out, HY.out]; omega), rfl⟩

end Go.Proofs.Ytbkimebmoafbnaa

namespace Go.Proofs.Ytbkimebmoafbnaa
open Go.RowKit Go.Maps
set_option linter.unusedVariables false

/-- Arrive -/
def arriveS (s : SS) (id n : Int) (tag : ByteArray) (settled : Bool) : SS × Int :=
  if ¬ Word id then (s, 1) else if n ∉ s.rem.map Prod.fst then (s, 132) else if id ∈ s.arr.map Pnd.id then (s, 131) else (s.putA ⟨id, n, tag⟩ settled, 0)

set_option maxRecDepth 20000 in
set_option maxHeartbeats 4000000 in
theorem arrive_any (w : World) (K : SK) (s : SS) (id n : Int) (tag : ByteArray) (settled : Bool) (h : SesIn w K s) (hn : IsI64 n) (hl : s.arr.length < maxLen) :
    Calls Try.prog 20 #[.pointer (some ⟨K.b, 0, none⟩), .int .i64 id, .int .i64 n, .string tag, .bool settled] w fun e w' => e = .returned (.int .i64 (arriveS s id n tag settled).2) ∧ SesIn w' K (arriveS s id n tag settled).1 ∧ SMv K w w' := by
  have c15 : w.cell? ⟨K.b, 15, none⟩ = some (.pointer (some ⟨K.tA, 0, none⟩)) := h.cs 15 _ rfl
  have hwd := word_any id w
  have hu := used_any w K s n h hn
  rw [keys_rems] at hu
  obtain ⟨D, hD⟩ : ∃ D, arriveS s id n tag settled = D := ⟨_, rfl⟩
  rw [hD]
  have HD := Lib.hid hD
  have H := Lib.hid h
  have HL := Lib.hid hl
  clear h hl hD
  by_cases h0 : Word id
  · rw [decide_eq_true h0] at hwd
    have H0 := Lib.hid h0
    clear h0
    by_cases h1 : n ∈ s.rem.map Prod.fst
    · rw [decide_eq_true h1] at hu
      have H1 := Lib.hid h1
      clear h1
      go_enter Try.func20, Try.ntmps20
      go_wp2_with fail
      refine hwd.mono ?_
      clear hwd
      rintro e w1 ⟨rfl, rfl⟩
      go_wp2_with fail
      refine hu.mono ?_
      clear hu
      rintro e w1 ⟨rfl, rfl⟩
      have hh := has_any w1 K.tA K.mA s.arr id H.out.rowA H.out.arr H0.out.i64
      rw [keys_pend] at hh
      by_cases h2 : id ∈ s.arr.map Pnd.id
      · rw [decide_eq_true h2] at hh
        have hd : D = (s, 131) := by rw [← HD.out, arriveS, if_neg (fun q => q H0.out), if_neg (fun q => q H1.out), if_pos h2]
        subst hd
        clear h2
        go_wp2_with fail
        refine hh.mono ?_
        clear hh
        rintro e w2 ⟨rfl, hb2⟩
        have HB2 := Lib.hid hb2
        clear hb2
        go_wp2_with fail
        go_ret
        exact ⟨rfl, H.out.below HB2.out, SMv.of_below HB2.out⟩
      · rw [decide_eq_false h2] at hh
        have hd : D = (s.putA ⟨id, n, tag⟩ settled, 0) := by rw [← HD.out, arriveS, if_neg (fun q => q H0.out), if_neg (fun q => q H1.out), if_neg h2]
        have HDD := Lib.hid hd
        have H2 := Lib.hid h2
        clear h2 hd
        go_wp2_with fail
        refine hh.mono ?_
        clear hh
        rintro e w2 ⟨rfl, hb2⟩
        have hs2 := H.out.below hb2
        have HM2 := Lib.hid (SMv.of_below (K := K) hb2)
        cases settled
        · obtain ⟨w3, hu3, hm3, hg3⟩ := hs2.arr.put Try.underlying90 H0.out.i64 (by rw [keys_pend]; exact H2.out) (by have := HL.out; simpa [pend] using this) (Pnd.val ⟨id, n, tag⟩)
          unfold Pnd.val at hu3
          have hs3 : SesIn w3 K (s.putA ⟨id, n, tag⟩ false) := hs2.turnA (s' := s.putA ⟨id, n, tag⟩ false) (by simpa [pend, SS.putA, Pnd.val] using hm3) hg3 rfl rfl rfl (SS.putA_ok H.out.ok _ _)
          have d15 : w2.cell? ⟨K.b, 15, none⟩ = some (.pointer (some ⟨K.tA, 0, none⟩)) := hs2.cs 15 _ rfl
          have t0 : w2.cell? ⟨K.tA, 0, none⟩ = some (.map (some K.mA)) := (cell_of_row _ _ 0 _ _ _ hs2.rowA).trans rfl
          have HS3 := Lib.hid hs3
          have HM3 := Lib.hid (HM2.out.trans (SMv.of_grown (K := K) hg3 (.inr (.inr (.inr (.inr (.inr rfl)))))))
          clear hb2 hs2 hm3 hg3 hs3 c15
          go_wp2_with fail
          go_ret
          rw [HDD.out]
          exact ⟨rfl, HS3.out, HM3.out⟩
        · have HS3 := Lib.hid hs2
          clear hb2 hs2 c15
          go_wp2_with fail
          go_ret
          rw [HDD.out]
          exact ⟨rfl, HS3.out, HM2.out⟩
    · rw [decide_eq_false h1] at hu
      have hd : D = (s, 132) := by rw [← HD.out, arriveS, if_neg (fun q => q H0.out), if_pos h1]
      subst hd
      clear h1
      go_enter Try.func20, Try.ntmps20
      go_wp2_with fail
      refine hwd.mono ?_
      clear hwd
      rintro e w1 ⟨rfl, rfl⟩
      go_wp2_with fail
      refine hu.mono ?_
      clear hu
      rintro e w1 ⟨rfl, rfl⟩
      go_wp2_with fail
      go_ret
      exact ⟨rfl, H.out, SMv.refl _ _⟩
  · rw [decide_eq_false h0] at hwd
    have hd : D = (s, 1) := by rw [← HD.out, arriveS, if_pos h0]
    subst hd
    clear h0 hu
    go_enter Try.func20, Try.ntmps20
    go_wp2_with fail
    refine hwd.mono ?_
    clear hwd
    rintro e w1 ⟨rfl, rfl⟩
    go_wp2_with fail
    go_ret
    exact ⟨rfl, H.out, SMv.refl _ _⟩

/-- without a delivery -/
def SS.del (s : SS) (sending : Bool) (id : Int) : SS := if sending then { s with snd := s.snd.filter fun p => decide (p.id ≠ id) } else { s with arr := s.arr.filter fun p => decide (p.id ≠ id) }
theorem SS.del_ok {s : SS} (h : s.ok) (b : Bool) (id : Int) : (s.del b id).ok := by cases b <;> exact ⟨h.first, h.no, h.ow, h.ni, h.iw, h.ri, h.ro, h.nd, h.hm, h.rh⟩
theorem SS.del_cells (s : SS) (K : SK) (b : Bool) (id : Int) : (s.del b id).cells K = s.cells K := by cases b <;> rfl
theorem pend_del (l : List Pnd) (id : Int) : (pend l).filter (fun p => decide (p.1 ≠ id)) = pend (l.filter fun p => decide (p.id ≠ id)) := by
  unfold pend
  rw [List.filter_map]
  rfl

/-- Forget -/
def forgetS (s : SS) (sending : Bool) (id : Int) : SS × Int := if id ∈ (s.way sending).map Pnd.id then (s.del sending id, 0) else (s, 131)

set_option maxRecDepth 20000 in
set_option maxHeartbeats 4000000 in
theorem forget_any (w : World) (K : SK) (s : SS) (sending : Bool) (id : Int) (h : SesIn w K s) (hn : IsI64 id) :
    Calls Try.prog 23 #[.pointer (some ⟨K.b, 0, none⟩), .bool sending, .int .i64 id] w fun e w' => e = .returned (.int .i64 (forgetS s sending id).2) ∧ SesIn w' K (forgetS s sending id).1 ∧ SMv K w w' := by
  have hwy := way_any w K s sending h
  obtain ⟨D, hD⟩ : ∃ D, forgetS s sending id = D := ⟨_, rfl⟩
  rw [hD]
  obtain ⟨t, ht⟩ : ∃ t, (if sending then K.tS else K.tA) = t := ⟨_, rfl⟩
  obtain ⟨m, hm⟩ : ∃ m, (if sending then K.mS else K.mA) = m := ⟨_, rfl⟩
  rw [ht] at hwy
  have hrow : ∀ W, SesIn W K s → W.heap[t]? = some (.cells #[.map (some m)] 92 (0, 0)) ∧ MapOf W m (pend (s.way sending)) := by
    intro W hW
    subst ht hm
    cases sending
    · exact ⟨hW.rowA, hW.arr⟩
    · exact ⟨hW.rowS, hW.snd⟩
  have hturn : ∀ W W', SesIn W K s → MapOf W' m (pend ((s.way sending).filter fun p => decide (p.id ≠ id))) → W.grownBy W' (some m) → SesIn W' K (s.del sending id) ∧ SMv K W W' := by
    intro W W' hW hm' hg
    subst ht hm
    cases sending
    · exact ⟨hW.turnA (s' := s.del false id) hm' hg rfl rfl rfl (SS.del_ok hW.ok _ _), SMv.of_grown hg (.inr (.inr (.inr (.inr (.inr rfl)))))⟩
    · exact ⟨hW.turnS (s' := s.del true id) hm' hg rfl rfl rfl (SS.del_ok hW.ok _ _), SMv.of_grown hg (.inr (.inr (.inr (.inr (.inl rfl)))))⟩
  obtain ⟨hr, hmp⟩ := hrow w h
  have hh := has_any w t m (s.way sending) id hr hmp hn
  rw [keys_pend] at hh
  have HD := Lib.hid hD
  have H := Lib.hid h
  have HT := Lib.hid hturn
  have HR := Lib.hid hrow
  clear h hD hturn hrow hr hmp ht hm
  by_cases h1 : id ∈ (s.way sending).map Pnd.id
  · rw [decide_eq_true h1] at hh
    have hd : D = (s.del sending id, 0) := by rw [← HD.out, forgetS, if_pos h1]
    subst hd
    clear h1
    go_enter Try.func23, Try.ntmps23
    go_wp2_with fail
    refine hwy.mono ?_
    clear hwy
    rintro e w1 ⟨rfl, rfl⟩
    go_wp2_with fail
    refine hh.mono ?_
    clear hh
    rintro e w2 ⟨rfl, hb2⟩
    have hs2 := H.out.below hb2
    obtain ⟨hr2, hm2⟩ := HR.out w2 hs2
    have t0 : w2.cell? ⟨t, 0, none⟩ = some (.map (some m)) := (cell_of_row _ _ 0 _ _ _ hr2).trans rfl
    obtain ⟨w3, hdel, hm3, hg3⟩ := hm2.del Try.underlying90 hn 0
    rw [pend_del] at hm3
    have HF := Lib.hid (HT.out w2 w3 hs2 hm3 hg3)
    have HM2 := Lib.hid (SMv.of_below (K := K) hb2)
    clear hb2 hs2 hr2 hm2 hm3 hg3
    go_wp2_with fail
    go_ret
    exact ⟨rfl, HF.out.1, HM2.out.trans HF.out.2⟩
  · rw [decide_eq_false h1] at hh
    have hd : D = (s, 131) := by rw [← HD.out, forgetS, if_neg h1]
    subst hd
    clear h1
    go_enter Try.func23, Try.ntmps23
    go_wp2_with fail
    refine hwy.mono ?_
    clear hwy
    rintro e w1 ⟨rfl, rfl⟩
    go_wp2_with fail
    refine hh.mono ?_
    clear hh
    rintro e w2 ⟨rfl, hb2⟩
    have HB2 := Lib.hid hb2
    clear hb2
    go_wp2_with fail
    go_ret
    exact ⟨rfl, H.out.below HB2.out, SMv.of_below HB2.out⟩
end Go.Proofs.Ytbkimebmoafbnaa
