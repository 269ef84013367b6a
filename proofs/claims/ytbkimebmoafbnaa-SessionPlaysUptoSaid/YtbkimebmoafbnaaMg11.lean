/-
  A session's Sent, Got, Widen, Peer (refused). Conditions: the session lies in memory.
  A session's Peer (every case), Flow. Conditions: the session lies in memory.
-/
import Derived.Test.YtbkimebmoafbnaaMg10
namespace Go.Proofs.Ytbkimebmoafbnaa
open Go.RowKit Go.Maps
set_option linter.unusedVariables false

def SS.sent (s : SS) : SS := { s with no := addS s.no 1, ri := s.ri - 1 }
def sentS (s : SS) : SS × Int := if s.room = 0 then (s, 130) else (s.sent, 0)
theorem room_pos {s : SS} (h : s.ok) (hr : s.room ≠ 0) : 1 ≤ s.ri := by
  have h1 := h.ri
  have h2 := h.ow.1
  unfold SS.room at hr
  split at hr <;> omega
theorem SS.sent_ok {s : SS} (h : s.ok) (hr : s.room ≠ 0) : s.sent.ok :=
  ⟨h.first, addS_word _ _, h.ow, h.ni, h.iw, by have := room_pos h hr; have := h.ri; show 0 ≤ s.ri - 1 ∧ s.ri - 1 ≤ _; omega, h.ro, h.nd, h.hm, h.rh⟩

set_option maxRecDepth 20000 in
set_option maxHeartbeats 4000000 in
theorem sent_any (w : World) (K : SK) (s : SS) (h : SesIn w K s) :
    Calls Try.prog 72 #[.pointer (some ⟨K.b, 0, none⟩)] w fun e w' => e = .returned (.int .i64 (sentS s).2) ∧ SesIn w' K (sentS s).1 ∧ SMv K w w' := by
  have hr := room_any w K s h
  have H := Lib.hid h
  by_cases h0 : s.room = 0
  · rw [show sentS s = (s, 130) from if_pos h0]
    rw [h0] at hr
    clear h h0
    go_enter Try.func72, Try.ntmps72
    go_wp2_with fail
    refine hr.mono ?_
    clear hr
    rintro e w1 ⟨rfl, hb1⟩
    have HB := Lib.hid hb1
    clear hb1
    go_wp2_with fail
    go_ret
    exact ⟨rfl, H.out.below HB.out, SMv.of_below HB.out⟩
  · rw [show sentS s = (s.sent, 0) from if_neg h0]
    have hri := room_pos h.ok h0
    have hri2 := h.ok.ri.2
    have H0 := Lib.hid h0
    generalize s.room = rm at hr h0
    clear h
    go_enter Try.func72, Try.ntmps72
    go_wp2_with fail
    refine hr.mono ?_
    clear hr
    rintro e w1 ⟨rfl, hb1⟩
    have hs1 := H.out.below hb1
    have HS1 := Lib.hid hs1
    have HM1 := Lib.hid (SMv.of_below (K := K) hb1)
    have c2 : w1.cell? ⟨K.b, 2, none⟩ = some (.int .i64 s.no) := hs1.cs 2 _ rfl
    have c6 : w1.cell? ⟨K.b, 6, none⟩ = some (.int .i64 s.ri) := hs1.cs 6 _ rfl
    have fz := hs1.fz
    have hadd := add_any s.no 1 w1 H.out.ok.no.i64 (by unfold IsI64; omega)
    clear hb1 hs1
    go_wp2_with fail
    refine hadd.mono ?_
    clear hadd
    rintro e w2 ⟨rfl, rfl⟩
    go_wp2_with fail
    go_ret
    refine ⟨rfl, HS1.out.turn (s' := s.sent) ?_ (fun j hj hne => by rw [set_far hne, set_far hne]) rfl rfl rfl (SS.sent_ok H.out.ok H0.out), ((HM1.out.cell (.inl rfl)).cell (.inl rfl))⟩
    rw [heap_setCell_same _ K.b 6 _ _ _ (heap_setCell_same _ K.b 2 _ _ _ HS1.out.row)]
    simp [SS.cells, SS.sent]

def SS.got (s : SS) : SS := { s with ni := addS s.ni 1, iw := s.iw - 1, ro := max 0 (s.ro - 1) }
def gotS (s : SS) : SS × Int := if s.peer = false then (s, 4) else if s.iw = 0 then (s, 130) else (s.got, 0)
theorem SS.got_ok {s : SS} (h : s.ok) (hi : s.iw ≠ 0) : s.got.ok :=
  ⟨h.first, h.no, h.ow, addS_word _ _, by have := h.iw; unfold Word at *; show 0 ≤ s.iw - 1 ∧ s.iw - 1 ≤ _; omega, h.ri, by have := h.ro; unfold Word at *; show 0 ≤ max 0 (s.ro - 1) ∧ max 0 (s.ro - 1) ≤ _; omega, h.nd, h.hm, h.rh⟩

set_option maxRecDepth 20000 in
set_option maxHeartbeats 4000000 in
theorem got_any (w : World) (K : SK) (s : SS) (h : SesIn w K s) :
    Calls Try.prog 74 #[.pointer (some ⟨K.b, 0, none⟩)] w fun e w' => e = .returned (.int .i64 (gotS s).2) ∧ SesIn w' K (gotS s).1 ∧ SMv K w w' := by
  have c1 : w.cell? ⟨K.b, 1, none⟩ = some (.bool s.peer) := h.cs 1 _ rfl
  have c4 : w.cell? ⟨K.b, 4, none⟩ = some (.int .i64 s.ni) := h.cs 4 _ rfl
  have c5 : w.cell? ⟨K.b, 5, none⟩ = some (.int .i64 s.iw) := h.cs 5 _ rfl
  have c7 : w.cell? ⟨K.b, 7, none⟩ = some (.int .i64 s.ro) := h.cs 7 _ rfl
  have fz := h.fz
  have H := Lib.hid h
  have hiw := h.ok.iw
  have hro := h.ok.ro
  have hadd := add_any s.ni 1 w h.ok.ni.i64 (by unfold IsI64; omega)
  unfold Word at hiw hro
  obtain ⟨hiw1, hiw2⟩ := hiw
  obtain ⟨hro1, hro2⟩ := hro
  clear h
  cases hp : s.peer
  · rw [show gotS s = (s, 4) from if_pos hp]
    rw [hp] at c1
    clear hp
    go_enter Try.func74, Try.ntmps74
    go_wp2_with fail
    go_ret
    exact ⟨rfl, H.out, SMv.refl _ _⟩
  · by_cases h0 : s.iw = 0
    · rw [show gotS s = (s, 130) from (if_neg (by rw [hp]; decide)).trans (if_pos h0)]
      rw [hp] at c1
      rw [h0] at c5
      clear hp h0
      go_enter Try.func74, Try.ntmps74
      go_wp2_with fail
      go_ret
      exact ⟨rfl, H.out, SMv.refl _ _⟩
    · rw [show gotS s = (s.got, 0) from (if_neg (by rw [hp]; decide)).trans (if_neg h0)]
      rw [hp] at c1
      have H0 := Lib.hid h0
      clear hp
      go_enter Try.func74, Try.ntmps74
      go_wp2_with fail
      refine hadd.mono ?_
      clear hadd
      rintro e w2 ⟨rfl, rfl⟩
      go_wp2_with fail
      all_goals
        go_ret
        refine ⟨rfl, H.out.turn (s' := s.got) ?_ (fun j hj hne => by rw [set_far hne, set_far hne, set_far hne]) rfl rfl rfl (SS.got_ok H.out.ok H0.out), ((((SMv.refl K w).cell (.inl rfl)).cell (.inl rfl)).cell (.inl rfl))⟩
        rw [heap_setCell_same _ K.b 7 _ _ _ (heap_setCell_same _ K.b 5 _ _ _ (heap_setCell_same _ K.b 4 _ _ _ H.out.row))]
        simp [SS.cells, SS.got]
        try omega

def SS.widen (s : SS) (n : Int) : SS := { s with iw := max s.iw n }
def widenS (s : SS) (n : Int) : SS × Int := if ¬ Word n then (s, 1) else (s.widen n, 0)
theorem SS.widen_ok {s : SS} (h : s.ok) {n : Int} (hn : Word n) : (s.widen n).ok :=
  ⟨h.first, h.no, h.ow, h.ni, by have := h.iw; unfold Word at *; show 0 ≤ max s.iw n ∧ max s.iw n ≤ _; omega, h.ri, h.ro, h.nd, h.hm, h.rh⟩

set_option maxHeartbeats 4000000 in
theorem widen_any (w : World) (K : SK) (s : SS) (n : Int) (h : SesIn w K s) :
    Calls Try.prog 79 #[.pointer (some ⟨K.b, 0, none⟩), .int .i64 n] w fun e w' => e = .returned (.int .i64 (widenS s n).2) ∧ SesIn w' K (widenS s n).1 ∧ SMv K w w' := by
  have c5 : w.cell? ⟨K.b, 5, none⟩ = some (.int .i64 s.iw) := h.cs 5 _ rfl
  have fz := h.fz
  have H := Lib.hid h
  have hw := word_any n w
  clear h
  by_cases h0 : Word n
  · rw [show widenS s n = (s.widen n, 0) from if_neg (fun q => q h0)]
    rw [decide_eq_true h0] at hw
    have H0 := Lib.hid h0
    clear h0
    go_enter Try.func79, Try.ntmps79
    go_wp2_with fail
    refine hw.mono ?_
    clear hw
    rintro e w2 ⟨rfl, rfl⟩
    go_wp2_with fail
    all_goals
      go_ret
      refine ⟨rfl, H.out.turn (s' := s.widen n) ?_ (fun j hj hne => by rw [set_far hne]) rfl rfl rfl (SS.widen_ok H.out.ok H0.out), ((SMv.refl K w2).cell (.inl rfl))⟩
      rw [heap_setCell_same _ K.b 5 _ _ _ H.out.row]
      simp [SS.cells, SS.widen]
      try omega
  · rw [show widenS s n = (s, 1) from if_pos h0]
    rw [decide_eq_false h0] at hw
    clear h0
    go_enter Try.func79, Try.ntmps79
    go_wp2_with fail
    refine hw.mono ?_
    clear hw
    rintro e w2 ⟨rfl, rfl⟩
    go_wp2_with fail
    go_ret
    exact ⟨rfl, H.out, SMv.refl _ _⟩
end Go.Proofs.Ytbkimebmoafbnaa

namespace Go.Proofs.Ytbkimebmoafbnaa
open Go.RowKit Go.Maps
set_option linter.unusedVariables false

def peerS (s : SS) (k no iw ow hm : Int) : SS × Int := if s.peer = true then (s, 4) else if ¬ BeginOk k no iw ow hm then (s, 1) else (s.withPeer no iw ow hm, 0)

set_option maxHeartbeats 4000000 in
theorem peer_any (w : World) (K : SK) (s : SS) (k re ni iw no ow hm hd ct cr av : Int) (dr : Bool) (h : SesIn w K s) :
    Calls Try.prog 18 #[.pointer (some ⟨K.b, 0, none⟩), .agg (perfC k re ni iw no ow hm hd ct cr av dr)] w fun e w' => e = .returned (.int .i64 (peerS s k no iw ow hm).2) ∧ SesIn w' K (peerS s k no iw ow hm).1 ∧ SMv K w w' := by
  by_cases hp : s.peer = true
  · rw [show peerS s k no iw ow hm = (s, 4) from if_pos hp]
    have c1 : w.cell? ⟨K.b, 1, none⟩ = some (.bool s.peer) := h.cs 1 _ rfl
    rw [hp] at c1
    have hblt := h.lt _ (.inl rfl)
    have H := Lib.hid h
    obtain ⟨P, hP⟩ : ∃ P, perfC k re ni iw no ow hm hd ct cr av dr = P := ⟨_, rfl⟩
    rw [hP]
    clear h hp hP
    go_enter Try.func18, Try.ntmps18
    go_upto_region 1 with fail
    have hb : Below w.heap.size w (w.alloc (.cells P 39)) := (Below.refl _ _).alloc (Nat.le_refl _) _
    have c1 := bs_cell hb c1
    generalize (w.alloc (.cells P 39)) = w0 at *
    have HB := Lib.hid hb
    clear hb
    go_wp2_with fail
    go_ret
    exact ⟨rfl, H.out.below HB.out, SMv.of_below HB.out⟩
  · have hpf : s.peer = false := by simpa using hp
    by_cases hok : BeginOk k no iw ow hm
    · rw [show peerS s k no iw ow hm = (s.withPeer no iw ow hm, 0) from (if_neg hp).trans (if_neg (fun q => q hok))]
      obtain rfl := hok.1
      exact peer_ok w K s re ni iw no ow hm hd ct cr av dr h hpf hok
    · rw [show peerS s k no iw ow hm = (s, 1) from (if_neg hp).trans (if_pos hok)]
      have hbg := fun W => begins_any W k re ni iw no ow hm hd ct cr av dr
      rw [decide_eq_false hok] at hbg
      have c1 : w.cell? ⟨K.b, 1, none⟩ = some (.bool s.peer) := h.cs 1 _ rfl
      rw [hpf] at c1
      have H := Lib.hid h
      obtain ⟨P, hP⟩ : ∃ P, perfC k re ni iw no ow hm hd ct cr av dr = P := ⟨_, rfl⟩
      have hz : P.size = 128 := by rw [← hP]; exact perf_size ..
      rw [hP] at hbg ⊢
      clear h hp hP hpf hok
      go_enter Try.func18, Try.ntmps18
      go_upto_region 1 with fail
      have hb : Below w.heap.size w (w.alloc (.cells P 39)) := (Below.refl _ _).alloc (Nat.le_refl _) _
      have h0 : (w.alloc (.cells P 39)).heap[w.heap.size]? = some (.cells P 39 (0, 0)) := heap_alloc_new _ _
      have c1 := bs_cell hb c1
      generalize (w.alloc (.cells P 39)) = w0 at *
      obtain ⟨x, hx⟩ : ∃ x, w.heap.size = x := ⟨_, rfl⟩
      rw [hx] at h0 ⊢
      have HB := Lib.hid hb
      have hcall := hbg w0
      clear hb hx hbg
      go_wp2_with (refine wpList_load_row rfl 39 (.tmp 3) rfl x rfl 39 P (0, 0) _ h0 Try.underlying39 rfl (by rw [hz]; as_aux_lemma => kernel_rfl) ?_)
      refine hcall.mono ?_
      rintro e w1 ⟨rfl, hb1⟩
      have HB1 := Lib.hid (HB.out.trans (hb1.mono HB.out.size))
      clear hcall hb1 h0 c1
      go_wp2_with fail
      go_ret
      exact ⟨rfl, H.out.below HB1.out, SMv.of_below HB1.out⟩

/-! ### Flow -/
def FlowOk (k ni iw no ow : Int) : Prop := k = 19 ∧ Word iw ∧ Word no ∧ Word ow ∧ (Word ni ∨ ni = -1)
instance (k ni iw no ow : Int) : Decidable (FlowOk k ni iw no ow) := inferInstanceAs (Decidable (k = 19 ∧ Word iw ∧ Word no ∧ Word ow ∧ (Word ni ∨ ni = -1)))
def SS.heard (s : SS) (ni : Int) : Int := if ni < 0 then s.first else ni
def SS.ahead (s : SS) (ni : Int) : Int := gapS (s.heard ni) s.no
def SS.flow (s : SS) (ni iw no ow : Int) : SS := { s with ri := min (iw - s.ahead ni) 2147483647, ro := ow, ni := if 0 ≤ gapS s.ni no then no else s.ni }
def flowS (s : SS) (k ni iw no ow : Int) : SS × Int :=
  if s.peer = false then (s, 4) else if ¬ FlowOk k ni iw no ow then (s, 1) else if s.ahead ni < 0 ∨ iw < s.ahead ni then (s, 131) else (s.flow ni iw no ow, 0)
theorem SS.flow_ok {s : SS} (h : s.ok) {k ni iw no ow : Int} (hf : FlowOk k ni iw no ow) (ha : ¬ (s.ahead ni < 0 ∨ iw < s.ahead ni)) : (s.flow ni iw no ow).ok :=
  ⟨h.first, h.no, h.ow, by show Word (if 0 ≤ gapS s.ni no then no else s.ni); split; exact hf.2.2.1; exact h.ni, h.iw, by show 0 ≤ min (iw - s.ahead ni) 2147483647 ∧ min (iw - s.ahead ni) 2147483647 ≤ _; omega, hf.2.2.2.1, h.nd, h.hm, h.rh⟩

set_option maxRecDepth 20000 in
set_option maxHeartbeats 8000000 in
theorem flow_any (w : World) (K : SK) (s : SS) (k re ni iw no ow hm hd ct cr av : Int) (dr : Bool) (h : SesIn w K s) :
    Calls Try.prog 77 #[.pointer (some ⟨K.b, 0, none⟩), .agg (perfC k re ni iw no ow hm hd ct cr av dr)] w fun e w' => e = .returned (.int .i64 (flowS s k ni iw no ow).2) ∧ SesIn w' K (flowS s k ni iw no ow).1 ∧ SMv K w w' := by
  have hfirst := h.ok.first
  have hsno := h.ok.no
  have H := Lib.hid h
  have hblt := h.lt _ (.inl rfl)
  obtain ⟨D, hD⟩ : ∃ D, flowS s k ni iw no ow = D := ⟨_, rfl⟩
  have HD := Lib.hid hD
  rw [hD]
  obtain ⟨P, hP⟩ : ∃ P, perfC k re ni iw no ow hm hd ct cr av dr = P := ⟨_, rfl⟩
  rw [hP]
  have HP := Lib.hid hP
  clear h hD hP
  go_enter Try.func77, Try.ntmps77
  go_upto_region 1 with fail
  have hb : Below w.heap.size w (w.alloc (.cells P 39)) := (Below.refl _ _).alloc (Nat.le_refl _) _
  have h0 : (w.alloc (.cells P 39)).heap[w.heap.size]? = some (.cells P 39 (0, 0)) := heap_alloc_new _ _
  generalize (w.alloc (.cells P 39)) = w0 at *
  obtain ⟨x, hx⟩ : ∃ x, w.heap.size = x := ⟨_, rfl⟩
  have hxb : x ≠ K.b := by omega
  have hbx : K.b ≠ x := fun e => hxb e.symm
  rw [hx] at h0 ⊢
  have hs0 := H.out.below hb
  have HB := Lib.hid hb
  have HS := Lib.hid hs0
  rw [← HP.out] at h0
  obtain ⟨p0, p12, p13, p14, p15, _⟩ := perf_cells h0
  have b0 : w0.cell? ⟨K.b, 0, none⟩ = some (.int .i64 s.first) := hs0.cs 0 _ rfl
  have b1 : w0.cell? ⟨K.b, 1, none⟩ = some (.bool s.peer) := hs0.cs 1 _ rfl
  have b2 : w0.cell? ⟨K.b, 2, none⟩ = some (.int .i64 s.no) := hs0.cs 2 _ rfl
  have b4 : w0.cell? ⟨K.b, 4, none⟩ = some (.int .i64 s.ni) := hs0.cs 4 _ rfl
  have b6 : w0.cell? ⟨K.b, 6, none⟩ = some (.int .i64 s.ri) := hs0.cs 6 _ rfl
  have b7 : w0.cell? ⟨K.b, 7, none⟩ = some (.int .i64 s.ro) := hs0.cs 7 _ rfl
  have fz := hs0.fz
  have i1 := word_any iw w0
  have i2 := word_any no w0
  have i3 := word_any ow w0
  have i4 := word_any ni w0
  clear hb h0 hx hs0
  cases hp : s.peer
  · have hd : D = (s, 4) := by rw [← HD.out, flowS, if_pos hp]
    subst hd
    rw [hp] at b1
    clear hp
    go_wp2_with fail
    go_ret
    exact ⟨rfl, HS.out, SMv.of_below HB.out⟩
  · rw [hp] at b1
    have HPE := Lib.hid hp
    clear hp
    by_cases hf : FlowOk k ni iw no ow
    · have HF := Lib.hid hf
      rw [decide_eq_true hf.2.1] at i1
      rw [decide_eq_true hf.2.2.1] at i2
      rw [decide_eq_true hf.2.2.2.1] at i3
      obtain rfl := hf.1
      have hni := hf.2.2.2.2
      have hiw := hf.2.1
      clear hf
      by_cases hwn : Word ni
      · rw [decide_eq_true hwn] at i4
        have hni0 : ¬ ni < 0 := by have := hwn.1; omega
        have hiw0 : 0 ≤ iw ∧ iw ≤ 4294967295 := hiw
        clear hwn hni hiw
        go_upto_region 4 with fail
        refine i1.mono ?_
        rintro e w' ⟨rfl, rfl⟩
        go_upto_region 4 with fail
        refine i2.mono ?_
        rintro e w' ⟨rfl, rfl⟩
        go_upto_region 4 with fail
        refine i3.mono ?_
        rintro e w' ⟨rfl, rfl⟩
        go_upto_region 4 with fail
        refine i4.mono ?_
        rintro e w' ⟨rfl, rfl⟩
        have hg := gap_all ni s.no w'
        obtain ⟨ah, hah⟩ : ∃ ah, gapS ni s.no = ah := ⟨_, rfl⟩
        rw [hah] at hg
        have HAH := Lib.hid (show s.ahead ni = ah by rw [SS.ahead, SS.heard, if_neg (by omega)]; exact hah)
        have hab := gapS_bd ni s.no
        rw [hah] at hab
        obtain ⟨hab1, hab2⟩ := hab
        clear hah
        go_upto_region 8 with fail
        by_cases ha : ah < 0
        · have hd : D = (s, 131) := by rw [← HD.out, flowS, if_neg (by rw [HPE.out]; decide), if_neg (fun q => q HF.out), if_pos (.inl (by rw [HAH.out]; exact ha))]
          subst hd
          clear i1 i2 i3 i4
          go_wp2_with fail
          refine hg.mono ?_
          clear hg
          rintro e w1 ⟨rfl, rfl⟩
          go_wp2_with fail
          go_ret
          exact ⟨rfl, HS.out, SMv.of_below HB.out⟩
        · by_cases hb : iw < ah
          · have hd : D = (s, 131) := by rw [← HD.out, flowS, if_neg (by rw [HPE.out]; decide), if_neg (fun q => q HF.out), if_pos (.inr (by rw [HAH.out]; exact hb))]
            subst hd
            clear i1 i2 i3 i4
            go_wp2_with fail
            refine hg.mono ?_
            clear hg
            rintro e w1 ⟨rfl, rfl⟩
            go_wp2_with fail
            go_ret
            exact ⟨rfl, HS.out, SMv.of_below HB.out⟩
          · have hd : D = (s.flow ni iw no ow, 0) := by rw [← HD.out, flowS, if_neg (by rw [HPE.out]; decide), if_neg (fun q => q HF.out), if_neg (by rw [HAH.out]; omega)]
            have hfo : (s.flow ni iw no ow).ok := SS.flow_ok H.out.ok HF.out (by rw [HAH.out]; omega)
            have HFO := Lib.hid (And.intro hd hfo)
            clear hd hfo i1 i2 i3 i4
            obtain ⟨M, hM⟩ : ∃ M : Int, min (iw - ah) 2147483647 = M := ⟨_, rfl⟩
            have HM := Lib.hid hM
            clear hM
            go_upto_region 9 with fail
            refine hg.mono ?_
            clear hg
            rintro e w1 ⟨rfl, rfl⟩
            have hME : M = min (iw - ah) 2147483647 := HM.out.symm
            go_upto_region 13 with fail
            have hrow := heap_setCell_same _ K.b 7 _ _ (.int .i64 ow) (heap_setCell_same w' K.b 6 _ _ (.int .i64 M) HS.out.row)
            have hfar : ∀ j, j ≠ K.b → ((w'.setCell ⟨K.b, 6, none⟩ (.int .i64 M)).setCell ⟨K.b, 7, none⟩ (.int .i64 ow)).heap[j]? = w'.heap[j]? := fun j hj => by rw [set_far hj, set_far hj]
            have hm2 : SMv K w ((w'.setCell ⟨K.b, 6, none⟩ (.int .i64 M)).setCell ⟨K.b, 7, none⟩ (.int .i64 ow)) := ((SMv.of_below HB.out).cell (.inl rfl)).cell (.inl rfl)
            rw [hME] at hrow hfar hm2
            generalize (w'.setCell ⟨K.b, 6, none⟩ (.int .i64 (min (iw - ah) 2147483647))).setCell ⟨K.b, 7, none⟩ (.int .i64 ow) = w2 at *
            have d4 : w2.cell? ⟨K.b, 4, none⟩ = some (.int .i64 s.ni) := (cell_of_row _ _ 4 _ _ _ hrow).trans rfl
            have q14 : w2.cell? ⟨x, 14, none⟩ = some (.int .i64 no) := (World.cell?_of_block (a := ⟨x, 14, none⟩) (hfar x hxb)).trans p14
            have fz2 : ∀ i, w2.frozen? ⟨K.b, i, none⟩ = false := fun i => by simp [World.frozen?, hrow]
            have HR := Lib.hid (And.intro hrow (And.intro hfar hm2))
            clear hrow hfar hm2 p0 p12 p13 p14 p15 b0 b1 b2 b4 b6 b7 fz
            go_quiet (first | (go_at_call 39; exact Calls.quiet_of_same ((gap_all s.ni no _).mono fun e w' ⟨h1, h2⟩ => ⟨h1, h2.symm⟩)))
            obtain ⟨g, hg⟩ : ∃ g, gapS s.ni no = g := ⟨_, rfl⟩
            have HGG := Lib.hid hg
            rw [hg]
            clear hg
            by_cases hg0 : 0 ≤ g
            · go_wp2_with fail
              go_ret
              rw [HFO.out.1]
              refine ⟨rfl, HS.out.turn (s' := s.flow ni iw no ow) ?_ (fun j hj hne => (set_far hne).trans (HR.out.2.1 j hne)) rfl rfl rfl HFO.out.2, ?_⟩
              · rw [heap_setCell_same _ K.b 4 _ _ _ (show (World.drewN _ _).heap[K.b]? = _ from HR.out.1)]
                simp [SS.cells, SS.flow, HAH.out, HGG.out, hg0]
              · exact SMv.cell (a := ⟨K.b, 4, none⟩) (HR.out.2.2.trans ⟨rfl, rfl, rfl, Nat.le_refl _, fun _ _ _ => rfl⟩) (.inl rfl)
            · go_wp2_with fail
              go_ret
              rw [HFO.out.1]
              refine ⟨rfl, HS.out.turn (s' := s.flow ni iw no ow) ?_ (fun j hj hne => HR.out.2.1 j hne) rfl rfl rfl HFO.out.2, ?_⟩
              · rw [show (World.drewN _ _).heap[K.b]? = _ from HR.out.1]
                simp [SS.cells, SS.flow, HAH.out, HGG.out]
                intro hq
                omega
              · exact HR.out.2.2.trans ⟨rfl, rfl, rfl, Nat.le_refl _, fun _ _ _ => rfl⟩
      · rw [decide_eq_false hwn] at i4
        obtain rfl : ni = -1 := hni.resolve_left hwn
        have hiw0 : 0 ≤ iw ∧ iw ≤ 4294967295 := hiw
        clear hwn hni hiw
        go_upto_region 4 with fail
        refine i1.mono ?_
        rintro e w' ⟨rfl, rfl⟩
        go_upto_region 4 with fail
        refine i2.mono ?_
        rintro e w' ⟨rfl, rfl⟩
        go_upto_region 4 with fail
        refine i3.mono ?_
        rintro e w' ⟨rfl, rfl⟩
        go_upto_region 4 with fail
        refine i4.mono ?_
        rintro e w' ⟨rfl, rfl⟩
        have hg := gap_all s.first s.no w'
        obtain ⟨ah, hah⟩ : ∃ ah, gapS s.first s.no = ah := ⟨_, rfl⟩
        rw [hah] at hg
        have HAH := Lib.hid (show s.ahead (-1) = ah by rw [SS.ahead, SS.heard, if_pos (by omega)]; exact hah)
        have hab := gapS_bd s.first s.no
        rw [hah] at hab
        obtain ⟨hab1, hab2⟩ := hab
        clear hah
        go_upto_region 8 with fail
        by_cases ha : ah < 0
        · have hd : D = (s, 131) := by rw [← HD.out, flowS, if_neg (by rw [HPE.out]; decide), if_neg (fun q => q HF.out), if_pos (.inl (by rw [HAH.out]; exact ha))]
          subst hd
          clear i1 i2 i3 i4
          go_wp2_with fail
          refine hg.mono ?_
          clear hg
          rintro e w1 ⟨rfl, rfl⟩
          go_wp2_with fail
          go_ret
          exact ⟨rfl, HS.out, SMv.of_below HB.out⟩
        · by_cases hb : iw < ah
          · have hd : D = (s, 131) := by rw [← HD.out, flowS, if_neg (by rw [HPE.out]; decide), if_neg (fun q => q HF.out), if_pos (.inr (by rw [HAH.out]; exact hb))]
            subst hd
            clear i1 i2 i3 i4
            go_wp2_with fail
            refine hg.mono ?_
            clear hg
            rintro e w1 ⟨rfl, rfl⟩
            go_wp2_with fail
            go_ret
            exact ⟨rfl, HS.out, SMv.of_below HB.out⟩
          · have hd : D = (s.flow (-1) iw no ow, 0) := by rw [← HD.out, flowS, if_neg (by rw [HPE.out]; decide), if_neg (fun q => q HF.out), if_neg (by rw [HAH.out]; omega)]
            have hfo : (s.flow (-1) iw no ow).ok := SS.flow_ok H.out.ok HF.out (by rw [HAH.out]; omega)
            have HFO := Lib.hid (And.intro hd hfo)
            clear hd hfo i1 i2 i3 i4
            obtain ⟨M, hM⟩ : ∃ M : Int, min (iw - ah) 2147483647 = M := ⟨_, rfl⟩
            have HM := Lib.hid hM
            clear hM
            go_upto_region 9 with fail
            refine hg.mono ?_
            clear hg
            rintro e w1 ⟨rfl, rfl⟩
            have hME : M = min (iw - ah) 2147483647 := HM.out.symm
            go_upto_region 13 with fail
            have hrow := heap_setCell_same _ K.b 7 _ _ (.int .i64 ow) (heap_setCell_same w' K.b 6 _ _ (.int .i64 M) HS.out.row)
            have hfar : ∀ j, j ≠ K.b → ((w'.setCell ⟨K.b, 6, none⟩ (.int .i64 M)).setCell ⟨K.b, 7, none⟩ (.int .i64 ow)).heap[j]? = w'.heap[j]? := fun j hj => by rw [set_far hj, set_far hj]
            have hm2 : SMv K w ((w'.setCell ⟨K.b, 6, none⟩ (.int .i64 M)).setCell ⟨K.b, 7, none⟩ (.int .i64 ow)) := ((SMv.of_below HB.out).cell (.inl rfl)).cell (.inl rfl)
            rw [hME] at hrow hfar hm2
            generalize (w'.setCell ⟨K.b, 6, none⟩ (.int .i64 (min (iw - ah) 2147483647))).setCell ⟨K.b, 7, none⟩ (.int .i64 ow) = w2 at *
            have d4 : w2.cell? ⟨K.b, 4, none⟩ = some (.int .i64 s.ni) := (cell_of_row _ _ 4 _ _ _ hrow).trans rfl
            have q14 : w2.cell? ⟨x, 14, none⟩ = some (.int .i64 no) := (World.cell?_of_block (a := ⟨x, 14, none⟩) (hfar x hxb)).trans p14
            have fz2 : ∀ i, w2.frozen? ⟨K.b, i, none⟩ = false := fun i => by simp [World.frozen?, hrow]
            have HR := Lib.hid (And.intro hrow (And.intro hfar hm2))
            clear hrow hfar hm2 p0 p12 p13 p14 p15 b0 b1 b2 b4 b6 b7 fz
            go_quiet (first | (go_at_call 39; exact Calls.quiet_of_same ((gap_all s.ni no _).mono fun e w' ⟨h1, h2⟩ => ⟨h1, h2.symm⟩)))
            obtain ⟨g, hg⟩ : ∃ g, gapS s.ni no = g := ⟨_, rfl⟩
            have HGG := Lib.hid hg
            rw [hg]
            clear hg
            by_cases hg0 : 0 ≤ g
            · go_wp2_with fail
              go_ret
              rw [HFO.out.1]
              refine ⟨rfl, HS.out.turn (s' := s.flow (-1) iw no ow) ?_ (fun j hj hne => (set_far hne).trans (HR.out.2.1 j hne)) rfl rfl rfl HFO.out.2, ?_⟩
              · rw [heap_setCell_same _ K.b 4 _ _ _ (show (World.drewN _ _).heap[K.b]? = _ from HR.out.1)]
                simp [SS.cells, SS.flow, HAH.out, HGG.out, hg0]
              · exact SMv.cell (a := ⟨K.b, 4, none⟩) (HR.out.2.2.trans ⟨rfl, rfl, rfl, Nat.le_refl _, fun _ _ _ => rfl⟩) (.inl rfl)
            · go_wp2_with fail
              go_ret
              rw [HFO.out.1]
              refine ⟨rfl, HS.out.turn (s' := s.flow (-1) iw no ow) ?_ (fun j hj hne => HR.out.2.1 j hne) rfl rfl rfl HFO.out.2, ?_⟩
              · rw [show (World.drewN _ _).heap[K.b]? = _ from HR.out.1]
                simp [SS.cells, SS.flow, HAH.out, HGG.out]
                intro hq
                omega
              · exact HR.out.2.2.trans ⟨rfl, rfl, rfl, Nat.le_refl _, fun _ _ _ => rfl⟩
    · have hd : D = (s, 1) := by rw [← HD.out, flowS, if_neg (by rw [HPE.out]; decide), if_pos hf]
      subst hd
      have HF := Lib.hid hf
      clear hf
      by_cases e1 : k = 19
      · by_cases e2 : Word iw
        · rw [decide_eq_true e2] at i1
          by_cases e3 : Word no
          · rw [decide_eq_true e3] at i2
            by_cases e4 : Word ow
            · rw [decide_eq_true e4] at i3
              have e5 : ¬ Word ni := fun q => HF.out ⟨e1, e2, e3, e4, .inl q⟩
              have e6 : ¬ ni = -1 := fun q => HF.out ⟨e1, e2, e3, e4, .inr q⟩
              rw [decide_eq_false e5] at i4
              clear e2 e3 e4 e5
              go_wp2_with fail
              refine i1.mono ?_
              rintro e w' ⟨rfl, rfl⟩
              go_wp2_with fail
              refine i2.mono ?_
              rintro e w' ⟨rfl, rfl⟩
              go_wp2_with fail
              refine i3.mono ?_
              rintro e w' ⟨rfl, rfl⟩
              go_wp2_with fail
              refine i4.mono ?_
              rintro e w' ⟨rfl, rfl⟩
              go_wp2_with fail
              go_ret
              exact ⟨rfl, HS.out, SMv.of_below HB.out⟩
            · rw [decide_eq_false e4] at i3
              clear e2 e3 e4
              go_wp2_with fail
              refine i1.mono ?_
              rintro e w' ⟨rfl, rfl⟩
              go_wp2_with fail
              refine i2.mono ?_
              rintro e w' ⟨rfl, rfl⟩
              go_wp2_with fail
              refine i3.mono ?_
              rintro e w' ⟨rfl, rfl⟩
              go_wp2_with fail
              go_ret
              exact ⟨rfl, HS.out, SMv.of_below HB.out⟩
          · rw [decide_eq_false e3] at i2
            clear e2 e3
            go_wp2_with fail
            refine i1.mono ?_
            rintro e w' ⟨rfl, rfl⟩
            go_wp2_with fail
            refine i2.mono ?_
            rintro e w' ⟨rfl, rfl⟩
            go_wp2_with fail
            go_ret
            exact ⟨rfl, HS.out, SMv.of_below HB.out⟩
        · rw [decide_eq_false e2] at i1
          clear e2
          go_wp2_with fail
          refine i1.mono ?_
          rintro e w' ⟨rfl, rfl⟩
          go_wp2_with fail
          go_ret
          exact ⟨rfl, HS.out, SMv.of_below HB.out⟩
      · go_wp2_with fail
        go_ret
        exact ⟨rfl, HS.out, SMv.of_below HB.out⟩
end Go.Proofs.Ytbkimebmoafbnaa
