/-
  The reference's Room, Sent, Got, Widen, Peer. Conditions: its session lies in memory.
  The reference's Peer, Flow. Conditions: its session lies in memory.
-/
import Derived.Test.YtbkimebmoafbnaaMg07
import Derived.Test.YtbkimebmoafbnaaMg11
namespace Go.Proofs.Ytbkimebmoafbnaa
open Go.RowKit Go.Maps
set_option linter.unusedVariables false

variable {w w' : World} {r B : Nat} {s s' : SS} {hs : List Int} {rs : List (Int × Int)} {vh vr vs va : Value}

theorem RIn.turn (h : RIn w r B s hs rs vh vr vs va) (hr : w'.heap[r]? = some (.cells (rcells s' vh vr vs va) 88 (0, 0))) (g : w.grownBy w' (some r)) (h2 : s'.snd = s.snd) (h3 : s'.arr = s.arr) (hok : s'.ok) : RIn w' r B s' hs rs vh vr vs va := by
  have e : ∀ j, B ≤ j → j < w.heap.size → w'.heap[j]? = w.heap[j]? := fun j h1 h2 => g.block j h2 (fun e => by have := Option.some.inj e; have := h.lt; omega)
  exact ⟨hr, ownsRow_same' h.vh (fun j hj => e j (h.vh.lt j hj).1 (h.vh.lt j hj).2), ownsRow_same' h.vr (fun j hj => e j (h.vr.lt j hj).1 (h.vr.lt j hj).2), by rw [h2]; exact ownsRow_same' h.vs (fun j hj => e j (h.vs.lt j hj).1 (h.vs.lt j hj).2), by rw [h3]; exact ownsRow_same' h.va (fun j hj => e j (h.va.lt j hj).1 (h.va.lt j hj).2), h.lt, Nat.le_trans h.le g.size, hok⟩
theorem RIn.fz (h : RIn w r B s hs rs vh vr vs va) (i : Nat) : w.frozen? ⟨r, i, none⟩ = false := by simp [World.frozen?, h.row]
theorem grow_refl (w : World) (row : Option Nat) : w.grownBy w row := ⟨rfl, rfl, rfl, Nat.le_refl _, fun _ _ _ => rfl⟩
theorem grow_cell {w W : World} {b i : Nat} {v : Value} (h : w.grownBy W (some b)) : w.grownBy (W.setCell ⟨b, i, none⟩ v) (some b) :=
  ⟨h.os, h.tape, h.output, Nat.le_trans h.size (by simp [World.setCell]), fun j hj hn => (set_far (fun e => hn (by rw [e]))).trans (h.block j hj hn)⟩
theorem grow_drew {w W : World} {row : Option Nat} (h : w.grownBy W row) (n : Nat) : w.grownBy (W.drewN n) row := ⟨h.os, h.tape, h.output, h.size, fun j hj hn => h.block j hj hn⟩
theorem grow_trans {a b c : World} {row : Option Nat} (h : a.grownBy b row) (k : b.grownBy c row) : a.grownBy c row := h.andThen k (fun j e => .inr e)

theorem lesser_any (a b : Int) (w : World) : Calls Try.prog 88 #[.int .i64 a, .int .i64 b] w fun e w' => e = .returned (.int .i64 (min a b)) ∧ w' = w := by
  obtain ⟨m, hm⟩ : ∃ m : Int, min a b = m := ⟨_, rfl⟩
  have HM := Lib.hid hm
  rw [hm]
  clear hm
  by_cases h : a < b
  · have HE := Lib.hid (show m = a by rw [← HM.out]; omega)
    go_enter Try.func88, Try.ntmps88
    go_wp2_with fail
    go_ret
    exact ⟨by rw [HE.out]; rfl, rfl⟩
  · have HE := Lib.hid (show m = b by rw [← HM.out]; omega)
    go_enter Try.func88, Try.ntmps88
    go_wp2_with fail
    go_ret
    exact ⟨by rw [HE.out]; rfl, rfl⟩

set_option maxRecDepth 20000 in
set_option maxHeartbeats 4000000 in
theorem rroom_any (w : World) (r B : Nat) (s : SS) (hs : List Int) (rs : List (Int × Int)) (vh vr vs va : Value) (h : RIn w r B s hs rs vh vr vs va) :
    Calls Try.prog 71 #[.pointer (some ⟨r, 0, none⟩)] w fun e w' => e = .returned (.int .i64 s.room) ∧ Below w.heap.size w w' := by
  have c1 : w.cell? ⟨r, 1, none⟩ = some (.bool s.peer) := h.cs 1 _ rfl
  have c3 : w.cell? ⟨r, 3, none⟩ = some (.int .i64 s.ow) := h.cs 3 _ rfl
  have c6 : w.cell? ⟨r, 6, none⟩ = some (.int .i64 s.ri) := h.cs 6 _ rfl
  clear h
  cases hp : s.peer
  · have HE := Lib.hid (show s.room = 0 by simp [SS.room, hp])
    rw [HE.out]
    rw [hp] at c1
    clear hp
    go_enter Try.func71, Try.ntmps71
    go_wp2_with fail
    go_ret
    exact ⟨rfl, Below.refl _ _⟩
  · have HE := Lib.hid (show s.room = min s.ri s.ow by simp [SS.room, hp])
    rw [HE.out]
    rw [hp] at c1
    clear hp
    go_enter Try.func71, Try.ntmps71
    go_upto_region 3 with fail
    go_quiet (first | (go_at_call 88; exact Calls.quiet_of_same (lesser_any _ _ _)))
    go_wp2_with fail
    go_ret
    exact ⟨rfl, below_drewN (Below.refl _ _) _⟩

set_option maxRecDepth 20000 in
set_option maxHeartbeats 4000000 in
theorem rsent_any (w : World) (r B : Nat) (s : SS) (hs : List Int) (rs : List (Int × Int)) (vh vr vs va : Value) (h : RIn w r B s hs rs vh vr vs va) :
    Calls Try.prog 73 #[.pointer (some ⟨r, 0, none⟩)] w fun e w' => e = .returned (.int .i64 (sentS s).2) ∧ RIn w' r B (sentS s).1 hs rs vh vr vs va ∧ w.grownBy w' (some r) := by
  have hr := rroom_any w r B s hs rs vh vr vs va h
  have H := Lib.hid h
  by_cases h0 : s.room = 0
  · rw [show sentS s = (s, 130) from if_pos h0]
    rw [h0] at hr
    clear h h0
    go_enter Try.func73, Try.ntmps73
    go_wp2_with fail
    refine hr.mono ?_
    clear hr
    rintro e w1 ⟨rfl, hb1⟩
    have HB := Lib.hid hb1
    clear hb1
    go_wp2_with fail
    go_ret
    exact ⟨rfl, H.out.below HB.out, grow0 HB.out _⟩
  · rw [show sentS s = (s.sent, 0) from if_neg h0]
    have hri := room_pos h.ok h0
    have hri2 := h.ok.ri.2
    have H0 := Lib.hid h0
    generalize s.room = rm at hr h0
    clear h
    go_enter Try.func73, Try.ntmps73
    go_wp2_with fail
    refine hr.mono ?_
    clear hr
    rintro e w1 ⟨rfl, hb1⟩
    have hs1 := H.out.below hb1
    have HS1 := Lib.hid hs1
    have HM1 := Lib.hid (grow0 hb1 (some r))
    have c2 : w1.cell? ⟨r, 2, none⟩ = some (.int .i64 s.no) := hs1.cs 2 _ rfl
    have c6 : w1.cell? ⟨r, 6, none⟩ = some (.int .i64 s.ri) := hs1.cs 6 _ rfl
    have fz := hs1.fz
    have hadd := refAdd_any s.no 1 w1 H.out.ok.no.i64 (by unfold IsI64; omega)
    clear hb1 hs1
    go_wp2_with fail
    refine hadd.mono ?_
    clear hadd
    rintro e w2 ⟨rfl, rfl⟩
    go_wp2_with fail
    go_ret
    refine ⟨rfl, HS1.out.turn (s' := s.sent) ?_ (grow_cell (grow_cell (grow_refl _ _))) rfl rfl (SS.sent_ok H.out.ok H0.out), grow_cell (grow_cell HM1.out)⟩
    rw [heap_setCell_same _ r 6 _ _ _ (heap_setCell_same _ r 2 _ _ _ HS1.out.row)]
    simp [rcells, SS.sent]

set_option maxRecDepth 20000 in
set_option maxHeartbeats 4000000 in
theorem rgot_any (w : World) (r B : Nat) (s : SS) (hs : List Int) (rs : List (Int × Int)) (vh vr vs va : Value) (h : RIn w r B s hs rs vh vr vs va) :
    Calls Try.prog 75 #[.pointer (some ⟨r, 0, none⟩)] w fun e w' => e = .returned (.int .i64 (gotS s).2) ∧ RIn w' r B (gotS s).1 hs rs vh vr vs va ∧ w.grownBy w' (some r) := by
  have c1 : w.cell? ⟨r, 1, none⟩ = some (.bool s.peer) := h.cs 1 _ rfl
  have c4 : w.cell? ⟨r, 4, none⟩ = some (.int .i64 s.ni) := h.cs 4 _ rfl
  have c5 : w.cell? ⟨r, 5, none⟩ = some (.int .i64 s.iw) := h.cs 5 _ rfl
  have c7 : w.cell? ⟨r, 7, none⟩ = some (.int .i64 s.ro) := h.cs 7 _ rfl
  have fz := h.fz
  have H := Lib.hid h
  have hiw := h.ok.iw
  have hro := h.ok.ro
  have hadd := refAdd_any s.ni 1 w h.ok.ni.i64 (by unfold IsI64; omega)
  unfold Word at hiw hro
  obtain ⟨hiw1, hiw2⟩ := hiw
  obtain ⟨hro1, hro2⟩ := hro
  clear h
  cases hp : s.peer
  · rw [show gotS s = (s, 4) from if_pos hp]
    rw [hp] at c1
    clear hp
    go_enter Try.func75, Try.ntmps75
    go_wp2_with fail
    go_ret
    exact ⟨rfl, H.out, grow_refl _ _⟩
  · by_cases h0 : s.iw = 0
    · rw [show gotS s = (s, 130) from (if_neg (by rw [hp]; decide)).trans (if_pos h0)]
      rw [hp] at c1
      rw [h0] at c5
      clear hp h0
      go_enter Try.func75, Try.ntmps75
      go_wp2_with fail
      go_ret
      exact ⟨rfl, H.out, grow_refl _ _⟩
    · rw [show gotS s = (s.got, 0) from (if_neg (by rw [hp]; decide)).trans (if_neg h0)]
      rw [hp] at c1
      have H0 := Lib.hid h0
      clear hp
      by_cases hro0 : 0 < s.ro
      · go_enter Try.func75, Try.ntmps75
        go_wp2_with fail
        refine hadd.mono ?_
        clear hadd
        rintro e w2 ⟨rfl, rfl⟩
        go_wp2_with fail
        go_ret
        refine ⟨rfl, H.out.turn (s' := s.got) ?_ (grow_cell (grow_cell (grow_cell (grow_refl _ _)))) rfl rfl (SS.got_ok H.out.ok H0.out), grow_cell (grow_cell (grow_cell (grow_refl _ _)))⟩
        rw [heap_setCell_same _ r 7 _ _ _ (heap_setCell_same _ r 5 _ _ _ (heap_setCell_same _ r 4 _ _ _ H.out.row))]
        simp [rcells, SS.got]
        try omega
      · go_enter Try.func75, Try.ntmps75
        go_wp2_with fail
        refine hadd.mono ?_
        clear hadd
        rintro e w2 ⟨rfl, rfl⟩
        go_wp2_with fail
        go_ret
        refine ⟨rfl, H.out.turn (s' := s.got) ?_ (grow_cell (grow_cell (grow_refl _ _))) rfl rfl (SS.got_ok H.out.ok H0.out), grow_cell (grow_cell (grow_refl _ _))⟩
        rw [heap_setCell_same _ r 5 _ _ _ (heap_setCell_same _ r 4 _ _ _ H.out.row)]
        simp [rcells, SS.got]
        try omega

set_option maxHeartbeats 4000000 in
theorem rwiden_any (w : World) (r B : Nat) (s : SS) (hs : List Int) (rs : List (Int × Int)) (vh vr vs va : Value) (n : Int) (h : RIn w r B s hs rs vh vr vs va) :
    Calls Try.prog 80 #[.pointer (some ⟨r, 0, none⟩), .int .i64 n] w fun e w' => e = .returned (.int .i64 (widenS s n).2) ∧ RIn w' r B (widenS s n).1 hs rs vh vr vs va ∧ w.grownBy w' (some r) := by
  have c5 : w.cell? ⟨r, 5, none⟩ = some (.int .i64 s.iw) := h.cs 5 _ rfl
  have fz := h.fz
  have H := Lib.hid h
  have hw := rword_any n w
  clear h
  by_cases h0 : Word n
  · rw [show widenS s n = (s.widen n, 0) from if_neg (fun q => q h0)]
    rw [decide_eq_true h0] at hw
    have H0 := Lib.hid h0
    clear h0
    by_cases hgt : s.iw < n
    · go_enter Try.func80, Try.ntmps80
      go_wp2_with fail
      refine hw.mono ?_
      clear hw
      rintro e w2 ⟨rfl, rfl⟩
      go_wp2_with fail
      go_ret
      refine ⟨rfl, H.out.turn (s' := s.widen n) ?_ (grow_cell (grow_refl _ _)) rfl rfl (SS.widen_ok H.out.ok H0.out), grow_cell (grow_refl _ _)⟩
      rw [heap_setCell_same _ r 5 _ _ _ H.out.row]
      simp [rcells, SS.widen]
      omega
    · go_enter Try.func80, Try.ntmps80
      go_wp2_with fail
      refine hw.mono ?_
      clear hw
      rintro e w2 ⟨rfl, rfl⟩
      go_wp2_with fail
      go_ret
      refine ⟨rfl, H.out.turn (s' := s.widen n) ?_ (grow_refl _ _) rfl rfl (SS.widen_ok H.out.ok H0.out), grow_refl _ _⟩
      rw [H.out.row]
      simp [rcells, SS.widen]
      omega
  · rw [show widenS s n = (s, 1) from if_pos h0]
    rw [decide_eq_false h0] at hw
    clear h0
    go_enter Try.func80, Try.ntmps80
    go_wp2_with fail
    refine hw.mono ?_
    clear hw
    rintro e w2 ⟨rfl, rfl⟩
    go_wp2_with fail
    go_ret
    exact ⟨rfl, H.out, grow_refl _ _⟩
end Go.Proofs.Ytbkimebmoafbnaa

namespace Go.Proofs.Ytbkimebmoafbnaa
open Go.RowKit Go.Maps
set_option linter.unusedVariables false

set_option maxRecDepth 20000 in
set_option maxHeartbeats 4000000 in
theorem rpeer_any (w : World) (r B : Nat) (s : SS) (hs : List Int) (rs : List (Int × Int)) (vh vr vs va : Value) (k re ni iw no ow hm hd ct cr av : Int) (dr : Bool) (h : RIn w r B s hs rs vh vr vs va) :
    Calls Try.prog 70 #[.pointer (some ⟨r, 0, none⟩), .agg (perfC k re ni iw no ow hm hd ct cr av dr)] w fun e w' => e = .returned (.int .i64 (peerS s k no iw ow hm).2) ∧ RIn w' r B (peerS s k no iw ow hm).1 hs rs vh vr vs va ∧ w.grownBy w' (some r) := by
  have hblt := h.blt _ (.inl rfl)
  have H := Lib.hid h
  have hbg := fun W => four_any W k re ni iw no ow hm hd ct cr av dr
  obtain ⟨D, hD⟩ : ∃ D, peerS s k no iw ow hm = D := ⟨_, rfl⟩
  have HD := Lib.hid hD
  rw [hD]
  obtain ⟨P, hP⟩ : ∃ P, perfC k re ni iw no ow hm hd ct cr av dr = P := ⟨_, rfl⟩
  have hz : P.size = 128 := by rw [← hP]; exact perf_size ..
  rw [hP] at hbg ⊢
  have HP := Lib.hid hP
  clear h hP hD
  go_enter Try.func70, Try.ntmps70
  go_upto_region 1 with fail
  have hb : Below w.heap.size w (w.alloc (.cells P 39)) := (Below.refl _ _).alloc (Nat.le_refl _) _
  have h0 : (w.alloc (.cells P 39)).heap[w.heap.size]? = some (.cells P 39 (0, 0)) := heap_alloc_new _ _
  generalize (w.alloc (.cells P 39)) = w0 at *
  obtain ⟨x, hx⟩ : ∃ x, w.heap.size = x := ⟨_, rfl⟩
  have hxb : x ≠ r := by omega
  have hbx : r ≠ x := fun e => hxb e.symm
  rw [hx] at h0 ⊢
  have HB := Lib.hid hb
  have hs0 := H.out.below hb
  have HS0 := Lib.hid hs0
  have c1 : w0.cell? ⟨r, 1, none⟩ = some (.bool s.peer) := hs0.cs 1 _ rfl
  have hcall := hbg w0
  clear hb hx hbg hs0
  cases hp : s.peer
  · rw [hp] at c1
    have HPE := Lib.hid hp
    clear hp
    by_cases hok : BeginOk k no iw ow hm
    · have hd : D = (s.withPeer no iw ow hm, 0) := by rw [← HD.out, peerS, if_neg (by rw [HPE.out]; decide), if_neg (fun q => q hok)]
      subst hd
      rw [decide_eq_true hok] at hcall
      have HOK := Lib.hid hok
      clear hok
      go_wp2_with (refine wpList_load_row rfl 39 (.tmp 3) rfl x rfl 39 P (0, 0) _ h0 Try.underlying39 rfl (by rw [hz]; as_aux_lemma => kernel_rfl) ?_)
      refine hcall.mono ?_
      rintro e w1 ⟨rfl, hb1⟩
      have hp1 := (hb1.block x (Array.getElem?_eq_some_iff.1 h0).1).trans h0
      rw [← HP.out] at hp1
      obtain ⟨_, _, p13, p14, p15, p16⟩ := perf_cells hp1
      have hs1 := HS0.out.below hb1
      have HB1 := Lib.hid (HB.out.trans (hb1.mono HB.out.size))
      have HS1 := Lib.hid hs1
      have fz := hs1.fz
      have b1 : w1.cell? ⟨r, 1, none⟩ = some (.bool s.peer) := hs1.cs 1 _ rfl
      have b4 : w1.cell? ⟨r, 4, none⟩ = some (.int .i64 s.ni) := hs1.cs 4 _ rfl
      have b6 : w1.cell? ⟨r, 6, none⟩ = some (.int .i64 s.ri) := hs1.cs 6 _ rfl
      have b7 : w1.cell? ⟨r, 7, none⟩ = some (.int .i64 s.ro) := hs1.cs 7 _ rfl
      have b12 : w1.cell? ⟨r, 12, none⟩ = some (.int .i64 s.rh) := hs1.cs 12 _ rfl
      clear hcall hb1 h0 hp1 c1 hs1
      go_wp2_with fail
      refine (lesser_any _ _ _).mono ?_
      rintro e w2 ⟨rfl, hw2⟩
      have hm2 : min iw 2147483647 = min iw 2147483647 := rfl
      subst hw2
      go_wp2_with fail
      go_ret
      refine ⟨rfl, HS1.out.turn (s' := s.withPeer no iw ow hm) ?_ (grow_cell (grow_cell (grow_cell (grow_cell (grow_cell (grow_refl _ _)))))) rfl rfl (SS.withPeer_ok HS1.out.ok HOK.out.2.1 HOK.out.2.2.1 HOK.out.2.2.2.1 HOK.out.2.2.2.2), grow_cell (grow_cell (grow_cell (grow_cell (grow_cell (grow0 HB1.out _)))))⟩
      rw [heap_setCell_same _ r 12 _ _ _ (heap_setCell_same _ r 7 _ _ _ (heap_setCell_same _ r 6 _ _ _ (heap_setCell_same _ r 4 _ _ _ (heap_setCell_same _ r 1 _ _ _ HS1.out.row))))]
      simp [rcells, SS.withPeer]
    · have hd : D = (s, 1) := by rw [← HD.out, peerS, if_neg (by rw [HPE.out]; decide), if_pos hok]
      subst hd
      rw [decide_eq_false hok] at hcall
      clear hok
      go_wp2_with (refine wpList_load_row rfl 39 (.tmp 3) rfl x rfl 39 P (0, 0) _ h0 Try.underlying39 rfl (by rw [hz]; as_aux_lemma => kernel_rfl) ?_)
      refine hcall.mono ?_
      rintro e w1 ⟨rfl, hb1⟩
      have HB1 := Lib.hid (And.intro (HB.out.trans (hb1.mono HB.out.size)) hb1)
      clear hcall hb1 h0 c1
      go_wp2_with fail
      go_ret
      exact ⟨rfl, HS0.out.below HB1.out.2, grow0 HB1.out.1 _⟩
  · have hd : D = (s, 4) := by rw [← HD.out, peerS, if_pos hp]
    subst hd
    rw [hp] at c1
    clear hp hcall h0
    go_wp2_with fail
    go_ret
    exact ⟨rfl, HS0.out, grow0 HB.out _⟩

set_option maxRecDepth 20000 in
set_option maxHeartbeats 8000000 in
theorem rflow_any (w : World) (r B : Nat) (s : SS) (hs : List Int) (rs : List (Int × Int)) (vh vr vs va : Value) (k re ni iw no ow hm hd ct cr av : Int) (dr : Bool) (h : RIn w r B s hs rs vh vr vs va) :
    Calls Try.prog 78 #[.pointer (some ⟨r, 0, none⟩), .agg (perfC k re ni iw no ow hm hd ct cr av dr)] w fun e w' => e = .returned (.int .i64 (flowS s k ni iw no ow).2) ∧ RIn w' r B (flowS s k ni iw no ow).1 hs rs vh vr vs va ∧ w.grownBy w' (some r) := by
  have hfirst := h.ok.first
  have hsno := h.ok.no
  have hsni := h.ok.ni
  have H := Lib.hid h
  have hblt := h.blt _ (.inl rfl)
  obtain ⟨D, hD⟩ : ∃ D, flowS s k ni iw no ow = D := ⟨_, rfl⟩
  have HD := Lib.hid hD
  rw [hD]
  obtain ⟨P, hP⟩ : ∃ P, perfC k re ni iw no ow hm hd ct cr av dr = P := ⟨_, rfl⟩
  rw [hP]
  have HP := Lib.hid hP
  clear h hD hP
  go_enter Try.func78, Try.ntmps78
  go_upto_region 1 with fail
  have hb : Below w.heap.size w (w.alloc (.cells P 39)) := (Below.refl _ _).alloc (Nat.le_refl _) _
  have h0 : (w.alloc (.cells P 39)).heap[w.heap.size]? = some (.cells P 39 (0, 0)) := heap_alloc_new _ _
  generalize (w.alloc (.cells P 39)) = w0 at *
  obtain ⟨x, hx⟩ : ∃ x, w.heap.size = x := ⟨_, rfl⟩
  have hxb : x ≠ r := by omega
  have hbx : r ≠ x := fun e => hxb e.symm
  rw [hx] at h0 ⊢
  have hs0 := H.out.below hb
  have HB := Lib.hid hb
  have HS := Lib.hid hs0
  rw [← HP.out] at h0
  obtain ⟨p0, p12, p13, p14, p15, _⟩ := perf_cells h0
  have b0 : w0.cell? ⟨r, 0, none⟩ = some (.int .i64 s.first) := hs0.cs 0 _ rfl
  have b1 : w0.cell? ⟨r, 1, none⟩ = some (.bool s.peer) := hs0.cs 1 _ rfl
  have b2 : w0.cell? ⟨r, 2, none⟩ = some (.int .i64 s.no) := hs0.cs 2 _ rfl
  have b4 : w0.cell? ⟨r, 4, none⟩ = some (.int .i64 s.ni) := hs0.cs 4 _ rfl
  have b6 : w0.cell? ⟨r, 6, none⟩ = some (.int .i64 s.ri) := hs0.cs 6 _ rfl
  have b7 : w0.cell? ⟨r, 7, none⟩ = some (.int .i64 s.ro) := hs0.cs 7 _ rfl
  have fz := hs0.fz
  have i1 := rword_any iw w0
  have i2 := rword_any no w0
  have i3 := rword_any ow w0
  have i4 := rword_any ni w0
  clear hb h0 hx hs0
  cases hp : s.peer
  · have hd : D = (s, 4) := by rw [← HD.out, flowS, if_pos hp]
    subst hd
    rw [hp] at b1
    clear hp
    go_wp2_with fail
    go_ret
    exact ⟨rfl, HS.out, grow0 HB.out _⟩
  · rw [hp] at b1
    have HPE := Lib.hid hp
    clear hp
    by_cases hf : FlowOk k ni iw no ow
    · have HF := Lib.hid hf
      rw [decide_eq_true hf.2.1] at i1
      rw [decide_eq_true hf.2.2.1] at i2
      rw [decide_eq_true hf.2.2.2.1] at i3
      obtain rfl := hf.1
      have hni := hf.2.2.2.2
      have hnow := hf.2.2.1
      obtain ⟨hiw1, hiw2⟩ := hf.2.1
      clear hf
      by_cases hwn : Word ni
      · rw [decide_eq_true hwn] at i4
        have hni0 : ¬ ni < 0 := by have := hwn.1; omega
        have hni1 : ¬ ni = -1 := by have := hwn.1; omega
        clear hni
        go_upto_region 7 with fail
        refine i1.mono ?_
        rintro e w' ⟨rfl, rfl⟩
        go_upto_region 7 with fail
        refine i2.mono ?_
        rintro e w' ⟨rfl, rfl⟩
        go_upto_region 7 with fail
        refine i3.mono ?_
        rintro e w' ⟨rfl, rfl⟩
        go_upto_region 7 with fail
        refine i4.mono ?_
        rintro e w' ⟨rfl, rfl⟩
        have hg := refGap_any ni s.no w' hwn.i64 hsno.i64
        obtain ⟨ah, hah⟩ : ∃ ah, gapS ni s.no = ah := ⟨_, rfl⟩
        rw [hah] at hg
        have HAH := Lib.hid (show s.ahead ni = ah by rw [SS.ahead, SS.heard, if_neg (by omega)]; exact hah)
        have hab := gapS_bd ni s.no
        rw [hah] at hab
        obtain ⟨hab1, hab2⟩ := hab
        clear hah i1 i2 i3 i4
        go_upto_region 12 with fail
        by_cases ha : ah < 0
        · have hd : D = (s, 131) := by rw [← HD.out, flowS, if_neg (by rw [HPE.out]; decide), if_neg (fun q => q HF.out), if_pos (.inl (by rw [HAH.out]; exact ha))]
          subst hd
          go_wp2_with fail
          refine hg.mono ?_
          clear hg
          rintro e w1 ⟨rfl, rfl⟩
          go_wp2_with fail
          go_ret
          exact ⟨rfl, HS.out, grow0 HB.out _⟩
        · by_cases hb : iw < ah
          · have hd : D = (s, 131) := by rw [← HD.out, flowS, if_neg (by rw [HPE.out]; decide), if_neg (fun q => q HF.out), if_pos (.inr (by rw [HAH.out]; exact hb))]
            subst hd
            go_wp2_with fail
            refine hg.mono ?_
            clear hg
            rintro e w1 ⟨rfl, rfl⟩
            go_wp2_with fail
            go_ret
            exact ⟨rfl, HS.out, grow0 HB.out _⟩
          · have hd : D = (s.flow ni iw no ow, 0) := by rw [← HD.out, flowS, if_neg (by rw [HPE.out]; decide), if_neg (fun q => q HF.out), if_neg (by rw [HAH.out]; omega)]
            have hfo : (s.flow ni iw no ow).ok := SS.flow_ok H.out.ok HF.out (by rw [HAH.out]; omega)
            have HFO := Lib.hid (And.intro hd hfo)
            clear hd hfo
            go_upto_region 13 with fail
            refine hg.mono ?_
            clear hg
            rintro e w1 ⟨rfl, rfl⟩
            go_wp2_with fail
            refine (lesser_any _ _ _).mono ?_
            rintro e w2 ⟨rfl, hw2⟩
            subst hw2
            go_upto_region 17 with fail
            have hrow := heap_setCell_same _ r 7 _ _ (.int .i64 ow) (heap_setCell_same w2 r 6 _ _ (.int .i64 (min (iw - ah) 2147483647)) HS.out.row)
            have hgr : w2.grownBy ((w2.setCell ⟨r, 6, none⟩ (.int .i64 (min (iw - ah) 2147483647))).setCell ⟨r, 7, none⟩ (.int .i64 ow)) (some r) := grow_cell (grow_cell (grow_refl _ _))
            have hm2 : w.grownBy ((w2.setCell ⟨r, 6, none⟩ (.int .i64 (min (iw - ah) 2147483647))).setCell ⟨r, 7, none⟩ (.int .i64 ow)) (some r) := grow_cell (grow_cell (grow0 HB.out _))
            generalize (w2.setCell ⟨r, 6, none⟩ (.int .i64 (min (iw - ah) 2147483647))).setCell ⟨r, 7, none⟩ (.int .i64 ow) = w3 at *
            have d4 : w3.cell? ⟨r, 4, none⟩ = some (.int .i64 s.ni) := (cell_of_row _ _ 4 _ _ _ hrow).trans rfl
            have q14 : w3.cell? ⟨x, 14, none⟩ = some (.int .i64 no) := (World.cell?_of_block (a := ⟨x, 14, none⟩) (hgr.block x (World.block_lt_of_cell? _ _ p14) (fun e => hxb (Option.some.inj e)))).trans p14
            have fz2 : ∀ i, w3.frozen? ⟨r, i, none⟩ = false := fun i => by simp [World.frozen?, hrow]
            have HR := Lib.hid (And.intro hrow (And.intro hgr hm2))
            clear hrow hgr hm2 p0 p12 p13 p14 p15 b0 b1 b2 b4 b6 b7 fz
            go_quiet (first | (go_at_call 66; exact Calls.quiet_of_same ((refGap_any s.ni no _ hsni.i64 hnow.i64).mono fun e w9 ⟨h1, h2⟩ => ⟨h1, h2.symm⟩)))
            obtain ⟨g, hg⟩ : ∃ g, gapS s.ni no = g := ⟨_, rfl⟩
            have HGG := Lib.hid hg
            rw [hg]
            clear hg
            by_cases hg0 : 0 ≤ g
            · go_wp2_with fail
              go_ret
              rw [HFO.out.1]
              refine ⟨rfl, HS.out.turn (s' := s.flow ni iw no ow) ?_ (grow_cell (grow_drew HR.out.2.1 _)) rfl rfl HFO.out.2, grow_cell (grow_drew HR.out.2.2 _)⟩
              rw [heap_setCell_same _ r 4 _ _ _ (show (World.drewN _ _).heap[r]? = _ from HR.out.1)]
              simp [rcells, SS.flow, HAH.out, HGG.out, hg0]
            · go_wp2_with fail
              go_ret
              rw [HFO.out.1]
              refine ⟨rfl, HS.out.turn (s' := s.flow ni iw no ow) ?_ (grow_drew HR.out.2.1 _) rfl rfl HFO.out.2, grow_drew HR.out.2.2 _⟩
              rw [show (World.drewN _ _).heap[r]? = _ from HR.out.1]
              simp [rcells, SS.flow, HAH.out, HGG.out]
              intro hq
              omega
      · rw [decide_eq_false hwn] at i4
        obtain rfl : ni = -1 := hni.resolve_left hwn
        clear hwn hni
        go_upto_region 7 with fail
        refine i1.mono ?_
        rintro e w' ⟨rfl, rfl⟩
        go_upto_region 7 with fail
        refine i2.mono ?_
        rintro e w' ⟨rfl, rfl⟩
        go_upto_region 7 with fail
        refine i3.mono ?_
        rintro e w' ⟨rfl, rfl⟩
        go_upto_region 7 with fail
        refine i4.mono ?_
        rintro e w' ⟨rfl, rfl⟩
        have hg := refGap_any s.first s.no w' hfirst.i64 hsno.i64
        obtain ⟨ah, hah⟩ : ∃ ah, gapS s.first s.no = ah := ⟨_, rfl⟩
        rw [hah] at hg
        have HAH := Lib.hid (show s.ahead (-1) = ah by rw [SS.ahead, SS.heard, if_pos (by omega)]; exact hah)
        have hab := gapS_bd s.first s.no
        rw [hah] at hab
        obtain ⟨hab1, hab2⟩ := hab
        clear hah i1 i2 i3 i4
        go_upto_region 12 with fail
        by_cases ha : ah < 0
        · have hd : D = (s, 131) := by rw [← HD.out, flowS, if_neg (by rw [HPE.out]; decide), if_neg (fun q => q HF.out), if_pos (.inl (by rw [HAH.out]; exact ha))]
          subst hd
          go_wp2_with fail
          refine hg.mono ?_
          clear hg
          rintro e w1 ⟨rfl, rfl⟩
          go_wp2_with fail
          go_ret
          exact ⟨rfl, HS.out, grow0 HB.out _⟩
        · by_cases hb : iw < ah
          · have hd : D = (s, 131) := by rw [← HD.out, flowS, if_neg (by rw [HPE.out]; decide), if_neg (fun q => q HF.out), if_pos (.inr (by rw [HAH.out]; exact hb))]
            subst hd
            go_wp2_with fail
            refine hg.mono ?_
            clear hg
            rintro e w1 ⟨rfl, rfl⟩
            go_wp2_with fail
            go_ret
            exact ⟨rfl, HS.out, grow0 HB.out _⟩
          · have hd : D = (s.flow (-1) iw no ow, 0) := by rw [← HD.out, flowS, if_neg (by rw [HPE.out]; decide), if_neg (fun q => q HF.out), if_neg (by rw [HAH.out]; omega)]
            have hfo : (s.flow (-1) iw no ow).ok := SS.flow_ok H.out.ok HF.out (by rw [HAH.out]; omega)
            have HFO := Lib.hid (And.intro hd hfo)
            clear hd hfo
            go_upto_region 13 with fail
            refine hg.mono ?_
            clear hg
            rintro e w1 ⟨rfl, rfl⟩
            go_wp2_with fail
            refine (lesser_any _ _ _).mono ?_
            rintro e w2 ⟨rfl, hw2⟩
            subst hw2
            go_upto_region 17 with fail
            have hrow := heap_setCell_same _ r 7 _ _ (.int .i64 ow) (heap_setCell_same w2 r 6 _ _ (.int .i64 (min (iw - ah) 2147483647)) HS.out.row)
            have hgr : w2.grownBy ((w2.setCell ⟨r, 6, none⟩ (.int .i64 (min (iw - ah) 2147483647))).setCell ⟨r, 7, none⟩ (.int .i64 ow)) (some r) := grow_cell (grow_cell (grow_refl _ _))
            have hm2 : w.grownBy ((w2.setCell ⟨r, 6, none⟩ (.int .i64 (min (iw - ah) 2147483647))).setCell ⟨r, 7, none⟩ (.int .i64 ow)) (some r) := grow_cell (grow_cell (grow0 HB.out _))
            generalize (w2.setCell ⟨r, 6, none⟩ (.int .i64 (min (iw - ah) 2147483647))).setCell ⟨r, 7, none⟩ (.int .i64 ow) = w3 at *
            have d4 : w3.cell? ⟨r, 4, none⟩ = some (.int .i64 s.ni) := (cell_of_row _ _ 4 _ _ _ hrow).trans rfl
            have q14 : w3.cell? ⟨x, 14, none⟩ = some (.int .i64 no) := (World.cell?_of_block (a := ⟨x, 14, none⟩) (hgr.block x (World.block_lt_of_cell? _ _ p14) (fun e => hxb (Option.some.inj e)))).trans p14
            have fz2 : ∀ i, w3.frozen? ⟨r, i, none⟩ = false := fun i => by simp [World.frozen?, hrow]
            have HR := Lib.hid (And.intro hrow (And.intro hgr hm2))
            clear hrow hgr hm2 p0 p12 p13 p14 p15 b0 b1 b2 b4 b6 b7 fz
            go_quiet (first | (go_at_call 66; exact Calls.quiet_of_same ((refGap_any s.ni no _ hsni.i64 hnow.i64).mono fun e w9 ⟨h1, h2⟩ => ⟨h1, h2.symm⟩)))
            obtain ⟨g, hg⟩ : ∃ g, gapS s.ni no = g := ⟨_, rfl⟩
            have HGG := Lib.hid hg
            rw [hg]
            clear hg
            by_cases hg0 : 0 ≤ g
            · go_wp2_with fail
              go_ret
              rw [HFO.out.1]
              refine ⟨rfl, HS.out.turn (s' := s.flow (-1) iw no ow) ?_ (grow_cell (grow_drew HR.out.2.1 _)) rfl rfl HFO.out.2, grow_cell (grow_drew HR.out.2.2 _)⟩
              rw [heap_setCell_same _ r 4 _ _ _ (show (World.drewN _ _).heap[r]? = _ from HR.out.1)]
              simp [rcells, SS.flow, HAH.out, HGG.out, hg0]
            · go_wp2_with fail
              go_ret
              rw [HFO.out.1]
              refine ⟨rfl, HS.out.turn (s' := s.flow (-1) iw no ow) ?_ (grow_drew HR.out.2.1 _) rfl rfl HFO.out.2, grow_drew HR.out.2.2 _⟩
              rw [show (World.drewN _ _).heap[r]? = _ from HR.out.1]
              simp [rcells, SS.flow, HAH.out, HGG.out]
              intro hq
              omega
    · have hd : D = (s, 1) := by rw [← HD.out, flowS, if_neg (by rw [HPE.out]; decide), if_pos hf]
      subst hd
      have HF := Lib.hid hf
      clear hf
      have HQ : Hid (¬ (k = 19 ∧ decide (Word iw) = true ∧ decide (Word no) = true ∧ decide (Word ow) = true ∧ (decide (Word ni) = true ∨ ni = -1))) := Lib.hid (fun q => HF.out ⟨q.1, of_decide_eq_true q.2.1, of_decide_eq_true q.2.2.1, of_decide_eq_true q.2.2.2.1, q.2.2.2.2.imp of_decide_eq_true id⟩)
      generalize decide (Word iw) = d1 at *
      generalize decide (Word no) = d2 at *
      generalize decide (Word ow) = d3 at *
      generalize decide (Word ni) = d4 at *
      go_upto_region 7 with fail
      refine i1.mono ?_
      rintro e w' ⟨rfl, rfl⟩
      go_upto_region 7 with fail
      refine i2.mono ?_
      rintro e w' ⟨rfl, rfl⟩
      go_upto_region 7 with fail
      refine i3.mono ?_
      rintro e w' ⟨rfl, rfl⟩
      go_upto_region 7 with fail
      refine i4.mono ?_
      rintro e w' ⟨rfl, rfl⟩
      by_cases e1 : k = 19
      · cases d1
        · go_wp2_with fail
          go_ret
          exact ⟨rfl, HS.out, grow0 HB.out _⟩
        · cases d2
          · go_wp2_with fail
            go_ret
            exact ⟨rfl, HS.out, grow0 HB.out _⟩
          · cases d3
            · go_wp2_with fail
              go_ret
              exact ⟨rfl, HS.out, grow0 HB.out _⟩
            · cases d4
              · have e6 : ¬ ni = -1 := fun q => HQ.out ⟨e1, rfl, rfl, rfl, .inr q⟩
                go_wp2_with fail
                go_ret
                exact ⟨rfl, HS.out, grow0 HB.out _⟩
              · exact absurd ⟨e1, rfl, rfl, rfl, .inl rfl⟩ HQ.out
      · go_wp2_with fail
        go_ret
        exact ⟨rfl, HS.out, grow0 HB.out _⟩
end Go.Proofs.Ytbkimebmoafbnaa
