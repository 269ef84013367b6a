/-
  A session's Deliver, Arrive. Conditions: the session lies in memory.
-/
import Derived.Test.YtbkimebmoafbnaaSsO
namespace Go.Proofs.Ytbkimebmoafbnaa
open Go.RowKit Go.Maps
set_option linter.unusedVariables false

theorem Word.i64 {n : Int} (h : Word n) : IsI64 n := by unfold IsI64; have := h.1; have := h.2; omega

/-- the map of what was sent turns -/
theorem SesIn.turnS {w w' : World} {K : SK} {s s' : SS} (h : SesIn w K s) (hm : MapOf w' K.mS (pend s'.snd)) (hg : w.grownBy w' (some K.mS)) (hc : s'.cells K = s.cells K) (h2 : s'.rem = s.rem) (h3 : s'.arr = s.arr) (hok : s'.ok) : SesIn w' K s' := by
  obtain ⟨n1, n2, n3, n4, n5⟩ := h.bne
  obtain ⟨_, _, m1, m2, _⟩ := h.mne
  have e : ∀ j, K.has j → j ≠ K.mS → w'.heap[j]? = w.heap[j]? := fun j hj hn => hg.block j (h.lt j hj) (fun e => hn (Option.some.inj e))
  exact ⟨by rw [hc]; exact (e _ (.inl rfl) (fun q => n4 q.symm)).trans h.row, (e _ (.inr (.inl rfl)) (fun q => m1 q.symm)).trans h.rowS, (e _ (.inr (.inr (.inl rfl))) (fun q => m2 q.symm)).trans h.rowA, by rw [h2]; exact h.rem.same (e _ (.inr (.inr (.inr (.inl rfl)))) h.ne.2.1), hm, by rw [h3]; exact h.arr.same (e _ (.inr (.inr (.inr (.inr (.inr rfl))))) (fun q => h.ne.2.2.2 q.symm)), h.lo, h.ne, hok⟩

/-- the map of what came turns -/
theorem SesIn.turnA {w w' : World} {K : SK} {s s' : SS} (h : SesIn w K s) (hm : MapOf w' K.mA (pend s'.arr)) (hg : w.grownBy w' (some K.mA)) (hc : s'.cells K = s.cells K) (h2 : s'.rem = s.rem) (h3 : s'.snd = s.snd) (hok : s'.ok) : SesIn w' K s' := by
  obtain ⟨n1, n2, n3, n4, n5⟩ := h.bne
  obtain ⟨_, _, _, _, m1, m2⟩ := h.mne
  have e : ∀ j, K.has j → j ≠ K.mA → w'.heap[j]? = w.heap[j]? := fun j hj hn => hg.block j (h.lt j hj) (fun e => hn (Option.some.inj e))
  exact ⟨by rw [hc]; exact (e _ (.inl rfl) (fun q => n5 q.symm)).trans h.row, (e _ (.inr (.inl rfl)) (fun q => m1 q.symm)).trans h.rowS, (e _ (.inr (.inr (.inl rfl))) (fun q => m2 q.symm)).trans h.rowA, by rw [h2]; exact h.rem.same (e _ (.inr (.inr (.inr (.inl rfl)))) h.ne.2.2.1), by rw [h3]; exact h.snd.same (e _ (.inr (.inr (.inr (.inr (.inl rfl))))) h.ne.2.2.2), hm, h.lo, h.ne, hok⟩

def SS.put (s : SS) (p : Pnd) (settled : Bool) : SS := { s with snd := if settled then s.snd else s.snd ++ [p] }
def SS.putA (s : SS) (p : Pnd) (settled : Bool) : SS := { s with arr := if settled then s.arr else s.arr ++ [p] }
theorem SS.put_ok {s : SS} (h : s.ok) (p : Pnd) (b : Bool) : (s.put p b).ok := ⟨h.first, h.no, h.ow, h.ni, h.iw, h.ri, h.ro, h.nd, h.hm, h.rh⟩
theorem SS.putA_ok {s : SS} (h : s.ok) (p : Pnd) (b : Bool) : (s.putA p b).ok := ⟨h.first, h.no, h.ow, h.ni, h.iw, h.ri, h.ro, h.nd, h.hm, h.rh⟩

/-- Deliver -/
def deliverS (s : SS) (n : Int) (tag : ByteArray) (settled : Bool) : SS × Int × Int :=
  if n ∉ s.rem.map Prod.fst then (s, 0, 132) else if s.nd ∈ s.snd.map Pnd.id then (s, 0, 131) else ({ s.put ⟨s.nd, n, tag⟩ settled with nd := addS s.nd 1 }, s.nd, 0)

theorem addS_word (a n : Int) : Word (addS a n) := by have := addS_bd a n; exact ⟨this.1, by omega⟩

set_option maxRecDepth 20000 in
set_option maxHeartbeats 4000000 in
theorem deliver_any (w : World) (K : SK) (s : SS) (n : Int) (tag : ByteArray) (settled : Bool) (h : SesIn w K s) (hn : IsI64 n) (hl : s.snd.length < maxLen) :
    Calls Try.prog 31 #[.pointer (some ⟨K.b, 0, none⟩), .int .i64 n, .string tag, .bool settled] w fun e w' => e = .returned (.tuple #[.int .i64 (deliverS s n tag settled).2.1, .int .i64 (deliverS s n tag settled).2.2]) ∧ SesIn w' K (deliverS s n tag settled).1 ∧ SMv K w w' := by
  have c8 : w.cell? ⟨K.b, 8, none⟩ = some (.int .i64 s.nd) := h.cs 8 _ rfl
  have c14 : w.cell? ⟨K.b, 14, none⟩ = some (.pointer (some ⟨K.tS, 0, none⟩)) := h.cs 14 _ rfl
  have hu := used_any w K s n h hn
  rw [keys_rems] at hu
  obtain ⟨D, hD⟩ : ∃ D, deliverS s n tag settled = D := ⟨_, rfl⟩
  rw [hD]
  have HD := Lib.hid hD
  have H := Lib.hid h
  have HL := Lib.hid hl
  clear h hl hD
  by_cases h1 : n ∈ s.rem.map Prod.fst
  · rw [decide_eq_true h1] at hu
    have H1 := Lib.hid h1
    clear h1
    go_enter Try.func31, Try.ntmps31
    go_wp2_with fail
    refine hu.mono ?_
    clear hu
    rintro e w1 ⟨rfl, rfl⟩
    have hh := has_any w1 K.tS K.mS s.snd s.nd H.out.rowS H.out.snd H.out.ok.nd.i64
    rw [keys_pend] at hh
    by_cases h2 : s.nd ∈ s.snd.map Pnd.id
    · rw [decide_eq_true h2] at hh
      have hd : D = (s, 0, 131) := by rw [← HD.out, deliverS, if_neg (fun q => q H1.out), if_pos h2]
      subst hd
      clear h2
      go_wp2_with fail
      refine hh.mono ?_
      clear hh
      rintro e w2 ⟨rfl, hb2⟩
      have HB2 := Lib.hid hb2
      clear hb2
      go_wp2_with fail
      go_ret2
      exact ⟨rfl, H.out.below HB2.out, SMv.of_below HB2.out⟩
    · rw [decide_eq_false h2] at hh
      have hd : D = ({ s.put ⟨s.nd, n, tag⟩ settled with nd := addS s.nd 1 }, s.nd, 0) := by rw [← HD.out, deliverS, if_neg (fun q => q H1.out), if_neg h2]
      have HDD := Lib.hid hd
      have H2 := Lib.hid h2
      clear h2 hd
      go_wp2_with fail
      refine hh.mono ?_
      clear hh
      rintro e w2 ⟨rfl, hb2⟩
      have hs2 := H.out.below hb2
      have HM2 := Lib.hid (SMv.of_below (K := K) hb2)
      cases settled
      · obtain ⟨w3, hu3, hm3, hg3⟩ := hs2.snd.put Try.underlying90 H.out.ok.nd.i64 (by rw [keys_pend]; exact H2.out) (by have := HL.out; simpa [pend] using this) (Pnd.val ⟨s.nd, n, tag⟩)
        unfold Pnd.val at hu3
        have hs3 : SesIn w3 K (s.put ⟨s.nd, n, tag⟩ false) := hs2.turnS (s' := s.put ⟨s.nd, n, tag⟩ false) (by simpa [pend, SS.put, Pnd.val] using hm3) hg3 rfl rfl rfl (SS.put_ok H.out.ok _ _)
        have d14 : w2.cell? ⟨K.b, 14, none⟩ = some (.pointer (some ⟨K.tS, 0, none⟩)) := hs2.cs 14 _ rfl
        have t0 : w2.cell? ⟨K.tS, 0, none⟩ = some (.map (some K.mS)) := (cell_of_row _ _ 0 _ _ _ hs2.rowS).trans rfl
        have d8 : w3.cell? ⟨K.b, 8, none⟩ = some (.int .i64 s.nd) := hs3.cs 8 _ rfl
        have fz := hs3.fz
        have HS3 := Lib.hid hs3
        have HM3 := Lib.hid (HM2.out.trans (SMv.of_grown (K := K) hg3 (.inr (.inr (.inr (.inr (.inl rfl)))))))
        have hadd := add_any s.nd 1 w3 H.out.ok.nd.i64 (by unfold IsI64; omega)
        clear hb2 hs2 hm3 hg3 hs3 c8 c14
        go_wp2_with fail
        refine hadd.mono ?_
        clear hadd
        rintro e w4 ⟨rfl, rfl⟩
        go_wp2_with fail
        go_ret2
        rw [HDD.out]
        refine ⟨rfl, HS3.out.turn (s' := { s.put ⟨s.nd, n, tag⟩ false with nd := addS s.nd 1 }) ?_ (fun j hj hne => set_far hne) rfl rfl rfl ?_, HM3.out.cell (.inl rfl)⟩
        · rw [heap_setCell_same _ K.b 8 _ _ _ HS3.out.row]
          simp [SS.cells, SS.put]
        · have := H.out.ok
          exact ⟨this.first, this.no, this.ow, this.ni, this.iw, this.ri, this.ro, addS_word _ _, this.hm, this.rh⟩
      · have d8 : w2.cell? ⟨K.b, 8, none⟩ = some (.int .i64 s.nd) := hs2.cs 8 _ rfl
        have fz := hs2.fz
        have HS3 := Lib.hid hs2
        have hadd := add_any s.nd 1 w2 H.out.ok.nd.i64 (by unfold IsI64; omega)
        clear hb2 hs2 c8 c14
        go_wp2_with fail
        refine hadd.mono ?_
        clear hadd
        rintro e w4 ⟨rfl, rfl⟩
        go_wp2_with fail
        go_ret2
        rw [HDD.out]
        refine ⟨rfl, HS3.out.turn (s' := { s.put ⟨s.nd, n, tag⟩ true with nd := addS s.nd 1 }) ?_ (fun j hj hne => set_far hne) rfl (by simp [SS.put]) rfl ?_, HM2.out.cell (.inl rfl)⟩
        · rw [heap_setCell_same _ K.b 8 _ _ _ HS3.out.row]
          simp [SS.cells, SS.put]
        · have := H.out.ok
          exact ⟨this.first, this.no, this.ow, this.ni, this.iw, this.ri, this.ro, addS_word _ _, this.hm, this.rh⟩
  · rw [decide_eq_false h1] at hu
    have hd : D = (s, 0, 132) := by rw [← HD.out, deliverS, if_pos h1]
    subst hd
    clear h1
    go_enter Try.func31, Try.ntmps31
    go_wp2_with fail
    refine hu.mono ?_
    clear hu
    rintro e w1 ⟨rfl, rfl⟩
    go_wp2_with fail
    go_ret2
    exact ⟨rfl, H.out, SMv.refl _ _⟩
end Go.Proofs.Ytbkimebmoafbnaa
