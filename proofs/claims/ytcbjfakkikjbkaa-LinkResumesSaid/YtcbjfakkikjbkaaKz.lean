/-
  awake: the chapter's first examples. No conditions.
-/
import Derived.Test.YtcbjfakkikjbkaaKy
namespace Go.Proofs.Ytcbjfakkikjbkaa
open Go.RowKit Go.Maps
set_option linter.all false

theorem LkIn.other {w w' : World} {q m q' m' : Nat} {G : Nat → Prop} {l : Lk} (h : LkIn w q m G l) (hm : LMv q' m' w w') (h1 : q ≠ q') (h2 : q ≠ m') (h3 : m ≠ q') (h4 : m ≠ m') (hG : ∀ b, G b → b ≠ q' ∧ b ≠ m') : LkIn w' q m G l :=
  h.keep (hm.block q h.lq h1 h2) (hm.block m h.lm h3 h4) (fun b hb => hm.block b (h.gl b hb) (hG b hb).1 (hG b hb).2) hm.size
def nmL : ByteArray := ⟨#[108]⟩
def tgT : ByteArray := ⟨#[116]⟩
def s36 : St := .mk 36 0 0 ⟨#[]⟩ ⟨#[]⟩ zV false false zV ⟨#[]⟩ []
theorem s36_in (w : World) : SIn w s36 default :=
  .mk s36 default none 0 (fun _ => default) ⟨⟨by show (-9223372036854775808 : Int) ≤ 36; omega, by show (36 : Int) ≤ 9223372036854775807; omega⟩, zS_wf.e, zS_wf.o, zS_wf.c, zS_wf.t, zS_wf.x⟩ (zV_in w) (zV_in w) rfl (Nat.le_refl _) (Nat.zero_le _) (fun h => by simp [s36, St.inner] at h) (fun b o e => by cases e) (fun i h => by simp [s36, St.inner] at h)
theorem s36_fine : s36.Fine := .mk _ zV_wt zV_wt (fun x hx => by simp [s36, St.inner] at hx)
theorem s36_w : s36.w ≤ 1000000 := by decide
def lk (rc : Bool) (ct cr bd : Int) (a : List (ByteArray × Ent)) : Lk := ⟨nmL, rc, 2, 0, 4294967295, 0, ct, cr, bd, 0, false, a⟩
theorem ev_new (rc : Bool) : newL nmL rc 2 0 4294967295 0 = lk rc 4294967295 0 4294967295 [] := rfl
theorem ev_send0 : (lk false 4294967295 0 4294967295 []).send tgT false = (lk false 4294967295 0 4294967295 [], 140) := by kernel_rfl
theorem ev_grant : (lk true 4294967295 0 4294967295 []).grant 2 false = lk true 4294967295 2 1 [] := by kernel_rfl
theorem ev_flow : (lk false 4294967295 0 4294967295 []).granted 4294967295 2 false = lk false 4294967295 2 4294967295 [] := by kernel_rfl
theorem ev_send1 : (lk false 4294967295 2 4294967295 []).send tgT false = (lk false 0 1 4294967295 [(tgT, zE)], 0) := by kernel_rfl
theorem ev_got : (lk true 4294967295 2 1 []).got tgT false = (lk true 0 1 1 [(tgT, zE)], 0) := by kernel_rfl
theorem ev_fields : fieldsC (lk true 4294967295 2 1 []) 7 = perfC 19 (-1) 7 4294967295 2 (-1) false := by kernel_rfl
theorem ev_own (t : Sl) : ((lk true 0 1 1 [(tgT, zE)]).ownL tgT s36 false t).2 = 0 := by
  unfold Lk.ownL
  rw [if_neg (by simp [lk, tagsL]), if_neg (by simp), if_neg (by simp), if_neg (by decide)]
theorem ev_peer (t : Sl) : (lk false 0 1 4294967295 [(tgT, zE)]).peerL tgT s36 false t = (lk false 0 1 4294967295 (entSet [(tgT, zE)] tgT ⟨(entAt [(tgT, zE)] tgT).own, s36, (entAt [(tgT, zE)] tgT).o, t⟩), true, 0) := by
  unfold Lk.peerL
  have hn : ¬ (s36.kind = 0 ∨ s36 = (entAt (lk false 0 1 4294967295 [(tgT, zE)]).all tgT).peer) := by
    rintro (q | q)
    · exact absurd q (by decide)
    · have : s36.kind = (entAt (lk false 0 1 4294967295 [(tgT, zE)]).all tgT).peer.kind := by rw [← q]
      have h2 : (entAt (lk false 0 1 4294967295 [(tgT, zE)]).all tgT).peer.kind = 0 := by kernel_rfl
      rw [h2] at this
      exact absurd this (by decide)
  rw [if_neg (by simp [lk, tagsL]), if_neg (by simp [lk]), if_neg (by simp), if_neg hn]
  rfl
theorem cfg_ok : CfgOk nmL 2 0 4294967295 0 := ⟨by decide, ⟨by omega, by omega⟩, ⟨by omega, by omega⟩, ⟨by omega, by omega⟩, ⟨by omega, by omega⟩⟩

set_option maxRecDepth 20000 in
set_option maxHeartbeats 8000000 in
theorem awake_any (w : World) : Calls Try.prog 4 #[] w fun e w' => e = .returned (.bool true) ∧ Below w.heap.size w w' := by
  go_enter Try.func4, Try.ntmps4
  go_wp2_with fail
  have hb0 : Below w.heap.size w (w.alloc (.cells #[.string nmL, .bool false, .int .i64 2, .int .i64 0, .int .i64 4294967295, .int .i64 0] 57)) := (Below.refl _ _).alloc (Nat.le_refl _) _
  have ox : (w.alloc (.cells #[.string nmL, .bool false, .int .i64 2, .int .i64 0, .int .i64 4294967295, .int .i64 0] 57)).heap[w.heap.size]? = some (.cells #[.string nmL, .bool false, .int .i64 2, .int .i64 0, .int .i64 4294967295, .int .i64 0] 57 (0, 0)) := _root_.Go.heap_alloc_new _ _
  change Calls _ _ #[.agg #[.string nmL, .bool false, .int .i64 2, .int .i64 0, .int .i64 4294967295, .int .i64 0]] (w.alloc (.cells #[.string nmL, .bool false, .int .i64 2, .int .i64 0, .int .i64 4294967295, .int .i64 0] 57)) _
  generalize (w.alloc (.cells #[.string nmL, .bool false, .int .i64 2, .int .i64 0, .int .i64 4294967295, .int .i64 0] 57)) = w0 at *
  generalize hx : w.heap.size = x at ox ⊢
  refine (new_ok w0 nmL false 2 0 4294967295 0 cfg_ok).mono ?_
  rintro e w1 ⟨q1, m1, hq1, hm1, rfl, hl1, hb1⟩
  rw [ev_new] at hl1
  have ox1 := (hb1.block x (Array.getElem?_eq_some_iff.1 ox).1).trans ox
  have hxl : x < w0.heap.size := (Array.getElem?_eq_some_iff.1 ox).1
  have HB1 := Lib.hid (hb0.trans (hb1.mono hb0.size))
  have f1 : w1.frozen? ⟨x, 1, none⟩ = false := by simp [World.frozen?, ox1]
  have x0 : w1.cell? ⟨x, 0, none⟩ = some (.string nmL) := (cell_of_row _ _ 0 _ _ _ ox1).trans rfl
  have x1 : w1.cell? ⟨x, 1, none⟩ = some (.bool false) := (cell_of_row _ _ 1 _ _ _ ox1).trans rfl
  have x2 : w1.cell? ⟨x, 2, none⟩ = some (.int .i64 2) := (cell_of_row _ _ 2 _ _ _ ox1).trans rfl
  have x3 : w1.cell? ⟨x, 3, none⟩ = some (.int .i64 0) := (cell_of_row _ _ 3 _ _ _ ox1).trans rfl
  have x4 : w1.cell? ⟨x, 4, none⟩ = some (.int .i64 4294967295) := (cell_of_row _ _ 4 _ _ _ ox1).trans rfl
  have x5 : w1.cell? ⟨x, 5, none⟩ = some (.int .i64 0) := (cell_of_row _ _ 5 _ _ _ ox1).trans rfl
  have HD1 := Lib.hid (show x < q1 ∧ x < m1 ∧ q1 < w1.heap.size ∧ m1 < w1.heap.size ∧ q1 ≠ m1 from ⟨by omega, by omega, hl1.lq, hl1.lm, hl1.ne⟩)
  have ox2 : (w1.setCell ⟨x, 1, none⟩ (.bool true)).heap[x]? = some (.cells #[.string nmL, .bool true, .int .i64 2, .int .i64 0, .int .i64 4294967295, .int .i64 0] 57 (0, 0)) := (heap_setCell_same w1 x 1 _ _ _ ox1).trans rfl
  have hl2 : LkIn (w1.setCell ⟨x, 1, none⟩ (.bool true)) q1 m1 (fun _ => False) (lk false 4294967295 0 4294967295 []) := hl1.keep (set_farV (by have := HD1.out.1; omega)) (set_farV (by have := HD1.out.2.1; omega)) (fun b h => h.elim) (by simp)
  have HL2 := Lib.hid hl2
  have HO2 := Lib.hid ox2
  have HB2 := Lib.hid (HB1.out.setCell (p := ⟨x, 1, none⟩) (Nat.le_of_eq hx) (.bool true))
  have HSZ2 := Lib.hid (show (w1.setCell ⟨x, 1, none⟩ (.bool true)).heap.size = w1.heap.size by simp)
  clear hb0 hb1 ox ox1 ox2 hl1 hl2 hq1 hm1 hxl
  go_wp2_with fail
  change Calls _ _ #[.agg #[.string nmL, .bool true, .int .i64 2, .int .i64 0, .int .i64 4294967295, .int .i64 0]] (w1.setCell ⟨x, 1, none⟩ (.bool true)) _
  generalize (w1.setCell ⟨x, 1, none⟩ (.bool true)) = w2 at *
  refine (new_ok w2 nmL true 2 0 4294967295 0 cfg_ok).mono ?_
  rintro e w3 ⟨q2, m2, hq2, hm2, rfl, hl3, hb3⟩
  rw [ev_new] at hl3
  clear x0 x1 x2 x3 x4 x5 f1
  have ox3 := (hb3.block x (Array.getElem?_eq_some_iff.1 HO2.out).1).trans HO2.out
  have f2 : w3.frozen? ⟨x, 2, none⟩ = false := by simp [World.frozen?, ox3]
  have x0 : w3.cell? ⟨x, 0, none⟩ = some (.string nmL) := (cell_of_row _ _ 0 _ _ _ ox3).trans rfl
  have x1 : w3.cell? ⟨x, 1, none⟩ = some (.bool true) := (cell_of_row _ _ 1 _ _ _ ox3).trans rfl
  have x2 : w3.cell? ⟨x, 2, none⟩ = some (.int .i64 2) := (cell_of_row _ _ 2 _ _ _ ox3).trans rfl
  have x3 : w3.cell? ⟨x, 3, none⟩ = some (.int .i64 0) := (cell_of_row _ _ 3 _ _ _ ox3).trans rfl
  have x4 : w3.cell? ⟨x, 4, none⟩ = some (.int .i64 4294967295) := (cell_of_row _ _ 4 _ _ _ ox3).trans rfl
  have x5 : w3.cell? ⟨x, 5, none⟩ = some (.int .i64 0) := (cell_of_row _ _ 5 _ _ _ ox3).trans rfl
  have HD2 := Lib.hid (show q1 < q2 ∧ q1 < m2 ∧ m1 < q2 ∧ m1 < m2 ∧ q2 ≠ m2 from by
    have e1 := HD1.out
    have e2 := HSZ2.out
    exact ⟨by omega, by omega, by omega, by omega, hl3.ne⟩)
  have ox4 : (w3.setCell ⟨x, 2, none⟩ (.int .i64 3)).heap[x]? = some (.cells #[.string nmL, .bool true, .int .i64 3, .int .i64 0, .int .i64 4294967295, .int .i64 0] 57 (0, 0)) := (heap_setCell_same w3 x 2 _ _ _ ox3).trans rfl
  have hs3 := HL2.out.blw hb3
  have HS4 := Lib.hid (show LkIn (w3.setCell ⟨x, 2, none⟩ (.int .i64 3)) q1 m1 (fun _ => False) (lk false 4294967295 0 4294967295 []) from hs3.keep (set_farV (by have := HD1.out.1; omega)) (set_farV (by have := HD1.out.2.1; omega)) (fun b h => h.elim) (by simp))
  have HR4 := Lib.hid (show LkIn (w3.setCell ⟨x, 2, none⟩ (.int .i64 3)) q2 m2 (fun _ => False) (lk true 4294967295 0 4294967295 []) from hl3.keep (set_farV (by have := HD1.out.1; have := HD2.out.1; omega)) (set_farV (by have := HD1.out.1; have := HD2.out.2.1; omega)) (fun b h => h.elim) (by simp))
  have HB4 := Lib.hid ((HB2.out.trans (hb3.mono HB2.out.size)).setCell (p := ⟨x, 2, none⟩) (Nat.le_of_eq hx) (.int .i64 3))
  clear ox3 ox4 hl3 hb3 hs3 hq2 hm2
  go_wp2_with fail
  change Calls _ _ #[.agg #[.string nmL, .bool true, .int .i64 3, .int .i64 0, .int .i64 4294967295, .int .i64 0]] (w3.setCell ⟨x, 2, none⟩ (.int .i64 3)) _
  generalize (w3.setCell ⟨x, 2, none⟩ (.int .i64 3)) = w4 at *
  refine (new_bad w4 nmL true 3 0 4294967295 0 (by decide) (by omega) (by omega)).mono ?_
  rintro e w5 ⟨rfl, hb5⟩
  clear x0 x1 x2 x3 x4 x5 f2
  have HS := Lib.hid (HS4.out.blw hb5)
  have HR := Lib.hid (HR4.out.blw hb5)
  have HB := Lib.hid (HB4.out.trans (hb5.mono HB4.out.size))
  clear hb5
  have HN := Lib.hid (show q1 ≠ q2 ∧ q1 ≠ m2 ∧ m1 ≠ q2 ∧ m1 ≠ m2 ∧ w.heap.size ≤ q1 ∧ w.heap.size ≤ m1 ∧ w.heap.size ≤ q2 ∧ w.heap.size ≤ m2 from by
    have e1 := HD1.out
    have e2 := HD2.out
    exact ⟨by omega, by omega, by omega, by omega, by omega, by omega, by omega, by omega⟩)
  clear HD1 HD2 HSZ2 HB1 HB2 HB4 HL2 HO2 HS4 HR4
  have HSw5 := HS
  have HRw5 := HR
  have HBw5 := HB
  have hc := send_any w5 q1 m1 _ _ tgT false HSw5.out (by decide) (by decide)
  rw [ev_send0] at hc
  have HC := Lib.hid hc
  clear hc
  go_wp2_with fail
  refine HC.out.mono ?_
  rintro e w6 ⟨rfl, h6, hm6⟩
  have HSw6 := Lib.hid h6
  have HRw6 := Lib.hid (HRw5.out.other hm6 (fun e => HN.out.1 e.symm) (fun e => HN.out.2.2.1 e.symm) (fun e => HN.out.2.1 e.symm) (fun e => HN.out.2.2.2.1 e.symm) (fun b h => h.elim))
  have HBw6 := Lib.hid (HBw5.out.trans (hm6.below HN.out.2.2.2.2.1 HN.out.2.2.2.2.2.1 HBw5.out.size))
  clear h6 hm6 HC
  have hc := grant_ok w6 q2 m2 _ _ 2 false HRw6.out rfl ⟨by omega, by omega⟩
  rw [ev_grant] at hc
  have HC := Lib.hid hc
  clear hc
  go_wp2_with fail
  refine HC.out.mono ?_
  rintro e w7 ⟨rfl, h6, hm6⟩
  have HRw7 := Lib.hid h6
  have HSw7 := Lib.hid (HSw6.out.other hm6 HN.out.1 HN.out.2.1 HN.out.2.2.1 HN.out.2.2.2.1 (fun b h => h.elim))
  have HBw7 := Lib.hid (HBw6.out.trans (hm6.below HN.out.2.2.2.2.2.2.1 HN.out.2.2.2.2.2.2.2 HBw6.out.size))
  clear h6 hm6 HC
  have hc := fields_any w7 q2 m2 _ _ 7 HRw7.out
  rw [ev_fields] at hc
  have HC := Lib.hid hc
  clear hc
  go_wp2_with fail
  refine HC.out.mono ?_
  rintro e w8 ⟨rfl, hb8⟩
  have HSw8 := Lib.hid (HSw7.out.blw hb8)
  have HRw8 := Lib.hid (HRw7.out.blw hb8)
  have HBw8 := Lib.hid (HBw7.out.trans (hb8.mono HBw7.out.size))
  clear hb8 HC
  have hc := flow_sender w8 q1 m1 _ _ (perfC 19 (-1) 7 4294967295 2 (-1) false) 4294967295 2 (-1) false HSw8.out rfl (perf_is _ _ _ _ _ _ _) ⟨by omega, by omega⟩ ⟨by omega, by omega⟩
  rw [ev_flow] at hc
  have HC := Lib.hid hc
  clear hc
  go_wp2_with fail
  refine HC.out.mono ?_
  rintro e w9 ⟨rfl, h6, hm6⟩
  have HSw9 := Lib.hid h6
  have HRw9 := Lib.hid (HRw8.out.other hm6 (fun e => HN.out.1 e.symm) (fun e => HN.out.2.2.1 e.symm) (fun e => HN.out.2.1 e.symm) (fun e => HN.out.2.2.2.1 e.symm) (fun b h => h.elim))
  have HBw9 := Lib.hid (HBw8.out.trans (hm6.below HN.out.2.2.2.2.1 HN.out.2.2.2.2.2.1 HBw8.out.size))
  clear h6 hm6 HC
  have hc := send_any w9 q1 m1 _ _ tgT false HSw9.out (by decide) (by decide)
  rw [ev_send1] at hc
  have HC := Lib.hid hc
  clear hc
  go_wp2_with fail
  refine HC.out.mono ?_
  rintro e w10 ⟨rfl, h6, hm6⟩
  have HSw10 := Lib.hid h6
  have HRw10 := Lib.hid (HRw9.out.other hm6 (fun e => HN.out.1 e.symm) (fun e => HN.out.2.2.1 e.symm) (fun e => HN.out.2.1 e.symm) (fun e => HN.out.2.2.2.1 e.symm) (fun b h => h.elim))
  have HBw10 := Lib.hid (HBw9.out.trans (hm6.below HN.out.2.2.2.2.1 HN.out.2.2.2.2.2.1 HBw9.out.size))
  clear h6 hm6 HC
  have hc := got_any w10 q2 m2 _ _ tgT false HRw10.out (by decide) (by decide)
  rw [ev_got] at hc
  have HC := Lib.hid hc
  clear hc
  go_wp2_with fail
  refine HC.out.mono ?_
  rintro e w11 ⟨rfl, h6, hm6⟩
  have HRw11 := Lib.hid h6
  have HSw11 := Lib.hid (HSw10.out.other hm6 HN.out.1 HN.out.2.1 HN.out.2.2.1 HN.out.2.2.2.1 (fun b h => h.elim))
  have HBw11 := Lib.hid (HBw10.out.trans (hm6.below HN.out.2.2.2.2.2.2.1 HN.out.2.2.2.2.2.2.2 HBw10.out.size))
  clear h6 hm6 HC
  have hc := own_any w11 q2 m2 _ _ tgT s36 default false HRw11.out (by decide) (by decide) (s36_in _) s36_fine s36_w
  rw [ev_own] at hc
  have HC := Lib.hid hc
  clear hc
  go_wp2_with (refine wpList_buildTo rfl 33 _ rfl (some 46) rfl (sarr s36 default) (by kernel_rfl) ?_)
  refine HC.out.mono ?_
  rintro e w12 ⟨t, G', rfl, _, _, hm6⟩
  have HSw12 := Lib.hid (HSw11.out.other hm6 HN.out.1 HN.out.2.1 HN.out.2.2.1 HN.out.2.2.2.1 (fun b h => h.elim))
  have HBw12 := Lib.hid (HBw11.out.trans (hm6.below HN.out.2.2.2.2.2.2.1 HN.out.2.2.2.2.2.2.2 HBw11.out.size))
  clear hm6 HC
  have hc := peer_any w12 q1 m1 _ _ tgT s36 default false HSw12.out (by decide) (by decide) (s36_in _) s36_fine s36_w
  rw [ev_peer] at hc
  have HC := Lib.hid hc
  clear hc
  go_wp2_with (refine wpList_buildTo rfl 33 _ rfl (some 50) rfl (sarr s36 default) (by kernel_rfl) ?_)
  refine HC.out.mono ?_
  rintro e w13 ⟨t2, G2, rfl, hl13, _, hm13⟩
  simp only [ev_peer] at hl13
  have HSw13 := Lib.hid hl13
  have HBw13 := Lib.hid (HBw12.out.trans (hm13.below HN.out.2.2.2.2.1 HN.out.2.2.2.2.2.1 HBw12.out.size))
  clear hl13 hm13 HC
  have hc := see_any w13 q1 m1 _ _ HSw13.out
  have hsee : seeC (lk false 0 1 4294967295 (entSet [(tgT, zE)] tgT ⟨(entAt [(tgT, zE)] tgT).own, s36, (entAt [(tgT, zE)] tgT).o, t2⟩)) = #[.string nmL, .bool false, .int .i64 0, .int .i64 1, .int .i64 0, .bool false, .int .i64 1] := rfl
  rw [hsee] at hc
  have HC := Lib.hid hc
  clear hc hsee
  go_wp2_with fail
  refine HC.out.mono ?_
  rintro e w14 ⟨rfl, hb14⟩
  have HBw14 := Lib.hid (HBw13.out.trans (hb14.mono HBw13.out.size))
  clear hb14 HC
  have hnm : (nmL.toList == [108]) = true := by rw [ByteArray.toList_eq]; rfl
  go_wp2_with fail
  go_ret
  refine ⟨?_, HBw14.out.alloc HBw14.out.size _⟩
  first | rfl | (show Ending.returned (Value.bool (nmL.toList == [108])) = _; rw [hnm])
end Go.Proofs.Ytcbjfakkikjbkaa
