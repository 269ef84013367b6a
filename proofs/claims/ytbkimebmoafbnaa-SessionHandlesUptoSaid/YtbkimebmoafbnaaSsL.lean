/-
  A session's Range; what a few calls answer (live); SessionNumbers. Conditions: the session lies in memory.
-/
import Derived.Test.YtbkimebmoafbnaaSsF
namespace Go.Proofs.Ytbkimebmoafbnaa
open Go.RowKit Go.Maps
set_option linter.unusedVariables false

theorem way_any (w : World) (K : SK) (s : SS) (sending : Bool) (h : SesIn w K s) :
    Calls Try.prog 40 #[.pointer (some ⟨K.b, 0, none⟩), .bool sending] w fun e w' => e = .returned (.pointer (some ⟨if sending then K.tS else K.tA, 0, none⟩)) ∧ w' = w := by
  have c14 : w.cell? ⟨K.b, 14, none⟩ = some (.pointer (some ⟨K.tS, 0, none⟩)) := h.cs 14 _ rfl
  have c15 : w.cell? ⟨K.b, 15, none⟩ = some (.pointer (some ⟨K.tA, 0, none⟩)) := h.cs 15 _ rfl
  clear h
  cases sending
  · go_enter Try.func40, Try.ntmps40
    go_wp2_with fail
    go_ret
    exact ⟨by simp, rfl⟩
  · go_enter Try.func40, Try.ntmps40
    go_wp2_with fail
    go_ret
    exact ⟨by simp, rfl⟩

def SS.way (s : SS) (sending : Bool) : List Pnd := if sending then s.snd else s.arr

theorem range_some (w : World) (K : SK) (s : SS) (sending : Bool) (first last : Int) (h : SesIn w K s) (h1 : Word first) (h2 : Word last) (hg : 0 ≤ gapS first last) (hne : s.way sending ≠ []) (hw : ∀ p ∈ s.way sending, Word p.id) (hlen : (s.way sending).length ≤ 1073741824) :
    Calls Try.prog 21 #[.pointer (some ⟨K.b, 0, none⟩), .bool sending, .int .i64 first, .int .i64 last] w fun e w' => ∃ v out, e = .returned v ∧ FromL (s.way sending) first (gapS first last) out ∧ w'.ownsRow w.heap.size 59 3 v out.length (pndRow out) ∧ Below w.heap.size w w' := by
  have hgp := gap_all first last w
  have hw1 := word_any first w
  have hw2 := word_any last w
  have hwy := way_any w K s sending h
  rw [decide_eq_true h1] at hw1
  rw [decide_eq_true h2] at hw2
  obtain ⟨t, ht⟩ : ∃ t, (if sending then K.tS else K.tA) = t := ⟨_, rfl⟩
  have hf : Calls Try.prog 41 #[.pointer (some ⟨t, 0, none⟩), .int .i64 first, .int .i64 (gapS first last)] w fun e w' => ∃ v out, e = .returned v ∧ FromL (s.way sending) first (gapS first last) out ∧ w'.ownsRow w.heap.size 59 3 v out.length (pndRow out) ∧ Below w.heap.size w w' := by
    cases sending
    · subst ht
      exact from_any w K.tA K.mA s.arr first (gapS first last) h.rowA h.arr hne hw hlen
    · subst ht
      exact from_any w K.tS K.mS s.snd first (gapS first last) h.rowS h.snd hne hw hlen
  rw [ht] at hwy
  obtain ⟨L, hL⟩ : ∃ L, s.way sending = L := ⟨_, rfl⟩
  rw [hL] at hf ⊢
  clear h h1 h2 hne hw hlen ht hL
  generalize gapS first last = many at *
  go_enter Try.func21, Try.ntmps21
  go_wp2_with fail
  refine hgp.mono ?_
  clear hgp
  rintro e w1 ⟨rfl, rfl⟩
  go_wp2_with fail
  refine hw1.mono ?_
  rintro e w1 ⟨rfl, rfl⟩
  go_wp2_with fail
  refine hw2.mono ?_
  rintro e w1 ⟨rfl, rfl⟩
  go_wp2_with fail
  refine hwy.mono ?_
  rintro e w1 ⟨rfl, rfl⟩
  go_wp2_with fail
  refine hf.mono ?_
  clear hf hw1 hw2 hwy
  rintro e w2 ⟨v, out, rfl, h1, h2, h3⟩
  go_wp2_with fail
  go_ret
  first | exact ⟨_, rfl, out, h1, h2, h3⟩ | exact ⟨_, out, rfl, h1, h2, h3⟩

def tagT : ByteArray := ⟨#[116]⟩

theorem live_step {w W W' : World} {K : SK} (hb : Below w.heap.size w W) (hm : SMv K W W') (hB : ∀ j, K.has j → w.heap.size ≤ j) : Below w.heap.size w W' := hb.trans (hm.below hB hb.size)

/-- how the first session stands -/
def s0L : SS := SS.new 5 2 10 1
def s1L : SS := s0L.withPeer 5 2 10 1
def s2L : SS := s1L.addH 0
def s3L : SS := { s2L.put ⟨0, 0, tagT⟩ false with nd := 1 }
theorem deliver_L : deliverS s2L 0 tagT false = (s3L, 0, 0) := by
  unfold deliverS
  rw [if_neg (by decide), if_neg (by decide)]
  rfl
theorem least_L : Least s1L.rem 0 := ⟨fun j hj => absurd hj (by omega), by decide⟩
theorem from_L {out : List Pnd} (h : FromL [⟨0, 0, tagT⟩] 0 0 out) : out = [⟨0, 0, tagT⟩] := by
  have h1 := h.1
  rw [show ([⟨0, 0, tagT⟩] : List Pnd).filter (fun p => !outR 0 0 p.id) = [⟨0, 0, tagT⟩] from rfl] at h1
  exact List.perm_singleton.1 h1

set_option maxRecDepth 20000 in
set_option maxHeartbeats 8000000 in
theorem live_any (w : World) :
    Calls Try.prog 8 #[] w fun e w' => e = .returned (.bool true) ∧ Below w.heap.size w w' := by
  have hF := first_any w
  go_enter Try.func8, Try.ntmps8
  go_wp2_with fail
  refine hF.mono ?_
  clear hF
  rintro e w1 ⟨rfl, hb1⟩
  have HB1 := Lib.hid hb1
  clear hb1
  have hsz : firstC.size = 128 := perf_size ..
  go_upto_region 2 with (refine wpList_store_rowTo rfl 39 (.tmp 1) (.tmp 10) rfl rfl w1.heap.size firstC rfl rfl 39 perfZ (_root_.Go.heap_alloc_new w1 _) (by as_aux_lemma => kernel_rfl) (by as_aux_lemma => kernel_rfl) (by as_aux_lemma => kernel_rfl) ?_)
  have hb2 := below_setRow ((Below.refl w1.heap.size w1).alloc (Nat.le_refl _) (.cells perfZ 39)) (Nat.le_refl _) firstC
  have h2 := setRow_heap (w1.alloc (.cells perfZ 39)) w1.heap.size _ firstC _ _ (_root_.Go.heap_alloc_new w1 _)
  change Code.wp _ _ _ _ ((w1.alloc (.cells perfZ 39)).setRow w1.heap.size firstC)
  generalize ((w1.alloc (.cells perfZ 39)).setRow w1.heap.size firstC) = w2 at *
  obtain ⟨x, hx⟩ : ∃ x, w1.heap.size = x := ⟨_, rfl⟩
  rw [hx] at h2 ⊢
  have HB2 := Lib.hid (HB1.out.trans (hb2.mono HB1.out.size))
  have hn : Calls Try.prog 10 #[.agg firstC] w2 fun e w' => ∃ K : SK, e = .returned (.pointer (some ⟨K.b, 0, none⟩)) ∧ K.B = w2.heap.size ∧ SesIn w' K s0L ∧ Below w2.heap.size w2 w' := snew_ok w2 17 0 0 2 5 10 1 0 0 0 0 false (by decide)
  obtain ⟨F, hF⟩ : ∃ F, firstC = F := ⟨_, rfl⟩
  have HF := Lib.hid hF
  rw [hF] at h2 hn hsz ⊢
  clear hb2 hx hF
  go_wp2_with (refine wpList_load_row rfl 39 (.tmp 1) rfl x rfl 39 F (0, 0) _ h2 Try.underlying39 rfl (by rw [hsz]; as_aux_lemma => kernel_rfl) ?_)
  refine hn.mono ?_
  clear hn
  rintro e w3 ⟨K, rfl, hKB, hS, hb3⟩
  have h3 := (hb3.block x (Array.getElem?_eq_some_iff.1 h2).1).trans h2
  have hlo : ∀ j, K.has j → w.heap.size ≤ j := fun j hj => by have := hS.lo j hj; have := HB2.out.size; omega
  have HLO := Lib.hid hlo
  have HB3 := Lib.hid (HB2.out.trans (hb3.mono HB2.out.size))
  have HS3 := Lib.hid hS
  have hp : Calls Try.prog 18 #[.pointer (some ⟨K.b, 0, none⟩), .agg F] w3 fun e w' => e = .returned (.int .i64 0) ∧ SesIn w' K s1L ∧ SMv K w3 w' := by
    rw [← HF.out]
    exact peer_ok w3 K s0L 0 0 2 5 10 1 0 0 0 0 false hS rfl (by decide)
  clear h2 hb3 hKB hlo hS
  go_wp2_with (refine wpList_load_row rfl 39 (.tmp 1) rfl x rfl 39 F (0, 0) _ h3 Try.underlying39 rfl (by rw [hsz]; as_aux_lemma => kernel_rfl) ?_)
  refine hp.mono ?_
  clear hp h3
  rintro e w4 ⟨rfl, hS4, hm4⟩
  have HB4 := Lib.hid (live_step HB3.out hm4 HLO.out)
  have hr : Calls Try.prog 16 #[.pointer (some ⟨K.b, 0, none⟩)] w4 fun e w' => e = .returned (.int .i64 2) ∧ Below w4.heap.size w4 w' := room_any w4 K s1L hS4
  have HS4 := Lib.hid hS4
  clear hS4 hm4
  go_wp2_with fail
  refine hr.mono ?_
  clear hr
  rintro e w5 ⟨rfl, hb5⟩
  have hS5 := HS4.out.below hb5
  have HB5 := Lib.hid (HB4.out.trans (hb5.mono HB4.out.size))
  have hh : Calls Try.prog 19 #[.pointer (some ⟨K.b, 0, none⟩)] w5 fun e w' => e = .returned (.tuple #[.int .i64 0, .int .i64 0]) ∧ SesIn w' K s2L ∧ SMv K w5 w' := by
    refine (hand_any w5 K s1L 0 hS5 rfl least_L (by decide)).mono fun e w' h => ?_
    rw [if_neg (by decide)] at h
    exact h
  clear hb5 hS5
  go_wp2_with fail
  refine hh.mono ?_
  clear hh
  rintro e w6 ⟨rfl, hS6, hm6⟩
  have HB6 := Lib.hid (live_step HB5.out hm6 HLO.out)
  have hd : Calls Try.prog 31 #[.pointer (some ⟨K.b, 0, none⟩), .int .i64 0, .string ⟨#[116]⟩, .bool false] w6 fun e w' => e = .returned (.tuple #[.int .i64 0, .int .i64 0]) ∧ SesIn w' K s3L ∧ SMv K w6 w' := by
    have := deliver_any w6 K s2L 0 tagT false hS6 (by unfold IsI64; omega) (by decide)
    rw [deliver_L] at this
    exact this
  clear hS6 hm6
  go_wp2_with fail
  refine hd.mono ?_
  clear hd
  rintro e w7 ⟨rfl, hS7, hm7⟩
  have HB7 := Lib.hid (live_step HB6.out hm7 HLO.out)
  have hg := range_some w7 K s3L true 0 0 hS7 (by decide) (by decide) (by decide) (by simp [SS.way, s3L, s2L, s1L, s0L, SS.put, SS.addH, SS.withPeer, SS.new]) (by
    intro p hp
    obtain rfl : p = ⟨0, 0, tagT⟩ := by simpa [SS.way, s3L, s2L, s1L, s0L, SS.put, SS.addH, SS.withPeer, SS.new] using hp
    show Word 0
    decide) (by decide)
  clear hS7 hm7
  go_wp2_with fail
  refine hg.mono ?_
  clear hg
  rintro e w8 ⟨v, out, rfl, hfr, hrow, hb8⟩
  obtain rfl := from_L hfr
  have HB8 := Lib.hid (HB7.out.trans (hb8.mono HB7.out.size))
  obtain ⟨g, cap, c2⟩ : ∃ g cap, v = .slice (some ⟨g, 0, none⟩) 1 cap ∧ 1 ≤ cap ∧ cap ≤ maxLen ∧ w8.cell? ⟨g, 2, none⟩ = some (.string ⟨#[116]⟩) := by
    rcases hrow.2 with ⟨_, h0⟩ | ⟨g, cap, cur, rfl, _, hbk, h1, h2, _, h4⟩
    · simp at h0
    · refine ⟨g, cap, rfl, h1, h2, ?_⟩
      rw [cell_of_row _ _ 2 _ _ _ hbk]
      have h5 : (cur.toList.take 3)[2]? = some (.string tagT) := by
        have h6 : cur.toList.take 3 = pndRow [⟨0, 0, tagT⟩] := h4
        rw [h6]
        rfl
      rw [List.getElem?_take_of_lt (by omega), Array.getElem?_toList] at h5
      exact h5
  obtain ⟨rfl, hc1, hc2, hcell⟩ := c2
  unfold maxLen at hc2
  clear hrow hb8 hfr
  go_wp2_with fail
  go_ret
  exact ⟨by simp, HB8.out⟩
end Go.Proofs.Ytbkimebmoafbnaa
