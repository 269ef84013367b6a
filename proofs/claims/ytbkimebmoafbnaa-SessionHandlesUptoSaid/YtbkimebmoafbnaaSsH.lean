/-
  A session's Arrive, Forget. Conditions: the session lies in memory.
-/
import Derived.Test.YtbkimebmoafbnaaSsL
namespace Go.Proofs.Ytbkimebmoafbnaa
open Go.RowKit Go.Maps
set_option linter.unusedVariables false

/-- Arrive -/
def arriveS (s : SS) (id n : Int) (tag : ByteArray) (settled : Bool) : SS × Int :=
  if ¬ Word id then (s, 1) else if n ∉ s.rem.map Prod.fst then (s, 132) else if id ∈ s.arr.map Pnd.id then (s, 131) else (s.putA ⟨id, n, tag⟩ settled, 0)

set_option maxRecDepth 20000 in
set_option maxHeartbeats 4000000 in
theorem arrive_any (w : World) (K : SK) (s : SS) (id n : Int) (tag : ByteArray) (settled : Bool) (h : SesIn w K s) (hn : IsI64 n) (hl : s.arr.length < maxLen) :
    Calls Try.prog 20 #[.pointer (some ⟨K.b, 0, none⟩), .int .i64 id, .int .i64 n, .string tag, .bool settled] w fun e w' => e = .returned (.int .i64 (arriveS s id n tag settled).2) ∧ SesIn w' K (arriveS s id n tag settled).1 ∧ SMv K w w' := by
  have c15 : w.cell? ⟨K.b, 15, none⟩ = some (.pointer (some ⟨K.tA, 0, none⟩)) := h.cs 15 _ rfl
  have hwd := word_any id w
  have hu := used_any w K s n h hn
  rw [keys_rems] at hu
  obtain ⟨D, hD⟩ : ∃ D, arriveS s id n tag settled = D := ⟨_, rfl⟩
  rw [hD]
  have HD := Lib.hid hD
  have H := Lib.hid h
  have HL := Lib.hid hl
  clear h hl hD
  by_cases h0 : Word id
  · rw [decide_eq_true h0] at hwd
    have H0 := Lib.hid h0
    clear h0
    by_cases h1 : n ∈ s.rem.map Prod.fst
    · rw [decide_eq_true h1] at hu
      have H1 := Lib.hid h1
      clear h1
      go_enter Try.func20, Try.ntmps20
      go_wp2_with fail
      refine hwd.mono ?_
      clear hwd
      rintro e w1 ⟨rfl, rfl⟩
      go_wp2_with fail
      refine hu.mono ?_
      clear hu
      rintro e w1 ⟨rfl, rfl⟩
      have hh := has_any w1 K.tA K.mA s.arr id H.out.rowA H.out.arr H0.out.i64
      rw [keys_pend] at hh
      by_cases h2 : id ∈ s.arr.map Pnd.id
      · rw [decide_eq_true h2] at hh
        have hd : D = (s, 131) := by rw [← HD.out, arriveS, if_neg (fun q => q H0.out), if_neg (fun q => q H1.out), if_pos h2]
        subst hd
        clear h2
        go_wp2_with fail
        refine hh.mono ?_
        clear hh
        rintro e w2 ⟨rfl, hb2⟩
        have HB2 := Lib.hid hb2
        clear hb2
        go_wp2_with fail
        go_ret
        exact ⟨rfl, H.out.below HB2.out, SMv.of_below HB2.out⟩
      · rw [decide_eq_false h2] at hh
        have hd : D = (s.putA ⟨id, n, tag⟩ settled, 0) := by rw [← HD.out, arriveS, if_neg (fun q => q H0.out), if_neg (fun q => q H1.out), if_neg h2]
        have HDD := Lib.hid hd
        have H2 := Lib.hid h2
        clear h2 hd
        go_wp2_with fail
        refine hh.mono ?_
        clear hh
        rintro e w2 ⟨rfl, hb2⟩
        have hs2 := H.out.below hb2
        have HM2 := Lib.hid (SMv.of_below (K := K) hb2)
        cases settled
        · obtain ⟨w3, hu3, hm3, hg3⟩ := hs2.arr.put Try.underlying90 H0.out.i64 (by rw [keys_pend]; exact H2.out) (by have := HL.out; simpa [pend] using this) (Pnd.val ⟨id, n, tag⟩)
          unfold Pnd.val at hu3
          have hs3 : SesIn w3 K (s.putA ⟨id, n, tag⟩ false) := hs2.turnA (s' := s.putA ⟨id, n, tag⟩ false) (by simpa [pend, SS.putA, Pnd.val] using hm3) hg3 rfl rfl rfl (SS.putA_ok H.out.ok _ _)
          have d15 : w2.cell? ⟨K.b, 15, none⟩ = some (.pointer (some ⟨K.tA, 0, none⟩)) := hs2.cs 15 _ rfl
          have t0 : w2.cell? ⟨K.tA, 0, none⟩ = some (.map (some K.mA)) := (cell_of_row _ _ 0 _ _ _ hs2.rowA).trans rfl
          have HS3 := Lib.hid hs3
          have HM3 := Lib.hid (HM2.out.trans (SMv.of_grown (K := K) hg3 (.inr (.inr (.inr (.inr (.inr rfl)))))))
          clear hb2 hs2 hm3 hg3 hs3 c15
          go_wp2_with fail
          go_ret
          rw [HDD.out]
          exact ⟨rfl, HS3.out, HM3.out⟩
        · have HS3 := Lib.hid hs2
          clear hb2 hs2 c15
          go_wp2_with fail
          go_ret
          rw [HDD.out]
          exact ⟨rfl, HS3.out, HM2.out⟩
    · rw [decide_eq_false h1] at hu
      have hd : D = (s, 132) := by rw [← HD.out, arriveS, if_neg (fun q => q H0.out), if_pos h1]
      subst hd
      clear h1
      go_enter Try.func20, Try.ntmps20
      go_wp2_with fail
      refine hwd.mono ?_
      clear hwd
      rintro e w1 ⟨rfl, rfl⟩
      go_wp2_with fail
      refine hu.mono ?_
      clear hu
      rintro e w1 ⟨rfl, rfl⟩
      go_wp2_with fail
      go_ret
      exact ⟨rfl, H.out, SMv.refl _ _⟩
  · rw [decide_eq_false h0] at hwd
    have hd : D = (s, 1) := by rw [← HD.out, arriveS, if_pos h0]
    subst hd
    clear h0 hu
    go_enter Try.func20, Try.ntmps20
    go_wp2_with fail
    refine hwd.mono ?_
    clear hwd
    rintro e w1 ⟨rfl, rfl⟩
    go_wp2_with fail
    go_ret
    exact ⟨rfl, H.out, SMv.refl _ _⟩

/-- without a delivery -/
def SS.del (s : SS) (sending : Bool) (id : Int) : SS := if sending then { s with snd := s.snd.filter fun p => decide (p.id ≠ id) } else { s with arr := s.arr.filter fun p => decide (p.id ≠ id) }
theorem SS.del_ok {s : SS} (h : s.ok) (b : Bool) (id : Int) : (s.del b id).ok := by cases b <;> exact ⟨h.first, h.no, h.ow, h.ni, h.iw, h.ri, h.ro, h.nd, h.hm, h.rh⟩
theorem SS.del_cells (s : SS) (K : SK) (b : Bool) (id : Int) : (s.del b id).cells K = s.cells K := by cases b <;> rfl
theorem pend_del (l : List Pnd) (id : Int) : (pend l).filter (fun p => decide (p.1 ≠ id)) = pend (l.filter fun p => decide (p.id ≠ id)) := by
  unfold pend
  rw [List.filter_map]
  rfl

/-- Forget -/
def forgetS (s : SS) (sending : Bool) (id : Int) : SS × Int := if id ∈ (s.way sending).map Pnd.id then (s.del sending id, 0) else (s, 131)

set_option maxRecDepth 20000 in
set_option maxHeartbeats 4000000 in
theorem forget_any (w : World) (K : SK) (s : SS) (sending : Bool) (id : Int) (h : SesIn w K s) (hn : IsI64 id) :
    Calls Try.prog 23 #[.pointer (some ⟨K.b, 0, none⟩), .bool sending, .int .i64 id] w fun e w' => e = .returned (.int .i64 (forgetS s sending id).2) ∧ SesIn w' K (forgetS s sending id).1 ∧ SMv K w w' := by
  have hwy := way_any w K s sending h
  obtain ⟨D, hD⟩ : ∃ D, forgetS s sending id = D := ⟨_, rfl⟩
  rw [hD]
  obtain ⟨t, ht⟩ : ∃ t, (if sending then K.tS else K.tA) = t := ⟨_, rfl⟩
  obtain ⟨m, hm⟩ : ∃ m, (if sending then K.mS else K.mA) = m := ⟨_, rfl⟩
  rw [ht] at hwy
  have hrow : ∀ W, SesIn W K s → W.heap[t]? = some (.cells #[.map (some m)] 92 (0, 0)) ∧ MapOf W m (pend (s.way sending)) := by
    intro W hW
    subst ht hm
    cases sending
    · exact ⟨hW.rowA, hW.arr⟩
    · exact ⟨hW.rowS, hW.snd⟩
  have hturn : ∀ W W', SesIn W K s → MapOf W' m (pend ((s.way sending).filter fun p => decide (p.id ≠ id))) → W.grownBy W' (some m) → SesIn W' K (s.del sending id) ∧ SMv K W W' := by
    intro W W' hW hm' hg
    subst ht hm
    cases sending
    · exact ⟨hW.turnA (s' := s.del false id) hm' hg rfl rfl rfl (SS.del_ok hW.ok _ _), SMv.of_grown hg (.inr (.inr (.inr (.inr (.inr rfl)))))⟩
    · exact ⟨hW.turnS (s' := s.del true id) hm' hg rfl rfl rfl (SS.del_ok hW.ok _ _), SMv.of_grown hg (.inr (.inr (.inr (.inr (.inl rfl)))))⟩
  obtain ⟨hr, hmp⟩ := hrow w h
  have hh := has_any w t m (s.way sending) id hr hmp hn
  rw [keys_pend] at hh
  have HD := Lib.hid hD
  have H := Lib.hid h
  have HT := Lib.hid hturn
  have HR := Lib.hid hrow
  clear h hD hturn hrow hr hmp ht hm
  by_cases h1 : id ∈ (s.way sending).map Pnd.id
  · rw [decide_eq_true h1] at hh
    have hd : D = (s.del sending id, 0) := by rw [← HD.out, forgetS, if_pos h1]
    subst hd
    clear h1
    go_enter Try.func23, Try.ntmps23
    go_wp2_with fail
    refine hwy.mono ?_
    clear hwy
    rintro e w1 ⟨rfl, rfl⟩
    go_wp2_with fail
    refine hh.mono ?_
    clear hh
    rintro e w2 ⟨rfl, hb2⟩
    have hs2 := H.out.below hb2
    obtain ⟨hr2, hm2⟩ := HR.out w2 hs2
    have t0 : w2.cell? ⟨t, 0, none⟩ = some (.map (some m)) := (cell_of_row _ _ 0 _ _ _ hr2).trans rfl
    obtain ⟨w3, hdel, hm3, hg3⟩ := hm2.del Try.underlying90 hn 0
    rw [pend_del] at hm3
    have HF := Lib.hid (HT.out w2 w3 hs2 hm3 hg3)
    have HM2 := Lib.hid (SMv.of_below (K := K) hb2)
    clear hb2 hs2 hr2 hm2 hm3 hg3
    go_wp2_with fail
    go_ret
    exact ⟨rfl, HF.out.1, HM2.out.trans HF.out.2⟩
  · rw [decide_eq_false h1] at hh
    have hd : D = (s, 131) := by rw [← HD.out, forgetS, if_neg h1]
    subst hd
    clear h1
    go_enter Try.func23, Try.ntmps23
    go_wp2_with fail
    refine hwy.mono ?_
    clear hwy
    rintro e w1 ⟨rfl, rfl⟩
    go_wp2_with fail
    refine hh.mono ?_
    clear hh
    rintro e w2 ⟨rfl, hb2⟩
    have HB2 := Lib.hid hb2
    clear hb2
    go_wp2_with fail
    go_ret
    exact ⟨rfl, H.out.below HB2.out, SMv.of_below HB2.out⟩
end Go.Proofs.Ytbkimebmoafbnaa
