/-
  A table's from that holds nothing; a session's Range, whole. Conditions: the session lies in memory.
-/
import Derived.Test.YtbkimebmoafbnaaSsH
namespace Go.Proofs.Ytbkimebmoafbnaa
open Go.RowKit Go.Maps
set_option linter.unusedVariables false

theorem ixf_nil (fv : Value) (w : World) : Calls Try.prog 81 #[.slice none 0 0, fv] w fun e w' => e = .returned (.int .i64 (-1)) ∧ w' = w := by
  go_enter Try.func81, Try.ntmps81
  go_wp2_with fail
  go_loopw [8] (fun v wr => v = .int .i64 0 ∧ wr = w) (fun _ _ => 0)
  case atStart => exact ⟨rfl, rfl⟩
  case round =>
    obtain ⟨rfl, rfl⟩ := hrel
    go_wp2_with fail
    go_ret
    exact ⟨rfl, rfl⟩

theorem delf_nil (fv : Value) (w : World) : Calls Try.prog 56 #[.slice none 0 0, fv] w fun e w' => e = .returned (.slice none 0 0) ∧ w' = w := by
  go_enter Try.func56, Try.ntmps56
  go_wp2_with fail
  refine (ixf_nil fv w).mono ?_
  rintro e w1 ⟨rfl, rfl⟩
  go_wp2_with fail
  go_ret
  exact ⟨rfl, rfl⟩

theorem sortf_nil (fv : Value) (w : World) : Calls Try.prog 60 #[.slice none 0 0, fv] w fun e w' => e = .returned (.tuple #[]) ∧ w' = w :=
  AnyF.slices_SortFunc_none { Try.sort with } none 0 fv w

set_option maxRecDepth 20000 in
set_option maxHeartbeats 4000000 in
theorem from_none (w : World) (t m : Nat) (first many : Int) (ht : w.heap[t]? = some (.cells #[.map (some m)] 92 (0, 0))) (hm : MapOf w m (pend [])) :
    Calls Try.prog 41 #[.pointer (some ⟨t, 0, none⟩), .int .i64 first, .int .i64 many] w fun e w' => e = .returned (.slice none 0 0) ∧ Below w.heap.size w w' := by
  have HM0 := Lib.hid hm
  have HT0 := Lib.hid ht
  clear hm ht
  go_enter Try.func41, Try.ntmps41
  go_upto_region 1 with fail
  have hb1 : Below w.heap.size w ((w.alloc (.cells #[.int .i64 first] 3)).alloc (.cells #[.int .i64 many] 3)) := ((Below.refl _ w).alloc (Nat.le_refl _) _).alloc (by simp) _
  generalize ((w.alloc (.cells #[.int .i64 first] 3)).alloc (.cells #[.int .i64 many] 3)) = w1 at *
  obtain ⟨x, hx⟩ : ∃ x, w.heap.size = x := ⟨_, rfl⟩
  have hm1 : MapOf w1 m (pend []) := HM0.out.same (hb1.block m HM0.out.lt)
  have ht1 := (hb1.block t (Array.getElem?_eq_some_iff.1 HT0.out).1).trans HT0.out
  have ct : w1.cell? ⟨t, 0, none⟩ = some (.map (some m)) := (cell_of_row _ _ 0 _ _ _ ht1).trans rfl
  rw [hx]
  have HB1 := Lib.hid hb1
  obtain ⟨D, hown, hD⟩ := hm1
  have HD := Lib.hid hD
  have HOWN := Lib.hid hown
  have hK : Calls Try.prog 58 #[.map (some m)] w1 fun e w' => e = .returned (.func (.func 83) #[] #[.pointer (some ⟨w1.heap.size, 0, none⟩)]) ∧ w' = w1.alloc (.cells #[.map (some m)] 90) :=
    (callsIn_wide (n := 5)).1 (AnyZI.keys_in Try.keys Fence.wide 5 trivial rfl (some m) w1)
  clear hb1 ht1 hD hown hx
  go_wp2_with fail
  refine hK.mono ?_
  clear hK
  rintro e w2 ⟨rfl, hw2⟩
  have hb2 : Below w1.heap.size w1 w2 := by rw [hw2]; exact (Below.refl _ _).alloc (Nat.le_refl _) _
  have h2 : w2.heap[w1.heap.size]? = some (.cells #[.map (some m)] 90 (0, 0)) := by rw [hw2]; exact _root_.Go.heap_alloc_new _ _
  have hz2 : w1.heap.size < w2.heap.size := by rw [hw2]; simp
  have c2 : w2.cell? ⟨w1.heap.size, 0, none⟩ = some (.map (some m)) := (cell_of_row _ _ 0 _ _ _ h2).trans rfl
  have hown2 : w2.ownsMap Try.prog 3 holdV m (pend []).length D := by
    obtain ⟨es, clock, hb, r⟩ := HOWN.out
    exact ⟨es, clock, (hb2.block m HOWN.out.lt).trans hb, r⟩
  have hN : Maps.size D ≤ 1073741824 := by rw [HD.out.size]; simp [pend]
  have hseq : SeqGives Fence.wide 2 Try.prog 83 #[.pointer (some ⟨w1.heap.size, 0, none⟩)] encZ (fun ss => ss.Perm (intKeys D)) (Maps.size D) w2 :=
    AnyZI.keys_gives (ρ := Try.keys_ren) { Try.keys with } Fence.wide _ trivial rfl (by omega) w1.heap.size m _ D w2 hz2 c2 hown2
  have hC : Calls Try.prog 57 #[.func (.func 83) #[] #[.pointer (some ⟨w1.heap.size, 0, none⟩)]] w2 fun e w' => ∃ (v : Value) (ss : List Int), e = .returned v ∧ ss.Perm (intKeys D) ∧ w'.ownsRow w2.heap.size 3 1 v ss.length (ss.map encZ) ∧ (v = .slice none 0 0 ↔ ss = []) ∧ Below w2.heap.size w2 w' :=
    (callsIn_wide (n := 4)).1 (AnyZI.collect_in Try.collect Fence.wide 4 trivial trivial rfl (by omega) 83 _ trivial (enters_of Try.func83 (by kernel_rfl) rfl) _ (Maps.size D) (by unfold maxLen; omega) (by omega) w2 hseq)
  have HB2 := Lib.hid (HB1.out.trans (hb2.mono HB1.out.size))
  clear hb2 h2 hz2 c2 hown2 hN hseq hw2 ct
  go_wp2_with fail
  refine hC.mono ?_
  clear hC
  rintro e w3 ⟨v, ss, rfl, hS, hrow, hnil, hb3⟩
  have hss : ss = [] := by
    have h1 := (keys_perm HOWN.out HD.out hS).length_eq
    simp only [List.map_nil, List.length_nil] at h1
    exact List.length_eq_zero_iff.1 h1
  obtain rfl := hnil.2 hss
  have HB3 := Lib.hid (HB2.out.trans (hb3.mono HB2.out.size))
  clear hS hrow hnil hb3 hss
  go_wp2_with fail
  refine (delf_nil _ w3).mono ?_
  rintro e w4 ⟨rfl, rfl⟩
  go_wp2_with fail
  refine (sortf_nil _ w4).mono ?_
  rintro e w5 ⟨rfl, rfl⟩
  go_wp2_with fail
  go_loopw [8, 10, 24] (fun v8 v10 v24 wr => v10 = v10 ∧ v8 = .slice none 0 0 ∧ v24 = .int .i64 0 ∧ wr = w5) (fun _ _ _ _ => 0)
  case atStart => exact ⟨rfl, rfl, rfl, rfl⟩
  case round =>
    obtain ⟨_, rfl, rfl, rfl⟩ := hrel
    go_wp2_with fail
    go_ret
    exact ⟨rfl, HB3.out⟩

/-- what Range tells -/
def RangeL (l : List Pnd) (first last : Int) (out : List Pnd) : Prop :=
  if Word first ∧ Word last ∧ 0 ≤ gapS first last then FromL l first (gapS first last) out else out = []

theorem range_no (w : World) (K : SK) (s : SS) (sending : Bool) (first last : Int) (h : SesIn w K s) (hno : ¬ (Word first ∧ Word last ∧ 0 ≤ gapS first last)) :
    Calls Try.prog 21 #[.pointer (some ⟨K.b, 0, none⟩), .bool sending, .int .i64 first, .int .i64 last] w fun e w' => e = .returned (.slice none 0 0) ∧ w' = w := by
  have hgp := gap_all first last w
  have hw1 := word_any first w
  have hw2 := word_any last w
  clear h
  by_cases h1 : Word first
  · rw [decide_eq_true h1] at hw1
    by_cases h2 : Word last
    · rw [decide_eq_true h2] at hw2
      have h3 : gapS first last < 0 := by
        refine Classical.byContradiction fun q => hno ⟨h1, h2, by omega⟩
      clear h1 h2 hno
      generalize gapS first last = many at *
      go_enter Try.func21, Try.ntmps21
      go_wp2_with fail
      refine hgp.mono ?_
      clear hgp
      rintro e w1 ⟨rfl, rfl⟩
      go_wp2_with fail
      refine hw1.mono ?_
      rintro e w1 ⟨rfl, rfl⟩
      go_wp2_with fail
      refine hw2.mono ?_
      rintro e w1 ⟨rfl, rfl⟩
      go_wp2_with fail
      go_ret
      exact ⟨rfl, rfl⟩
    · rw [decide_eq_false h2] at hw2
      clear h1 h2 hno
      generalize gapS first last = many at *
      go_enter Try.func21, Try.ntmps21
      go_wp2_with fail
      refine hgp.mono ?_
      clear hgp
      rintro e w1 ⟨rfl, rfl⟩
      go_wp2_with fail
      refine hw1.mono ?_
      rintro e w1 ⟨rfl, rfl⟩
      go_wp2_with fail
      refine hw2.mono ?_
      rintro e w1 ⟨rfl, rfl⟩
      go_wp2_with fail
      go_ret
      exact ⟨rfl, rfl⟩
  · rw [decide_eq_false h1] at hw1
    clear h1 hno hw2
    generalize gapS first last = many at *
    go_enter Try.func21, Try.ntmps21
    go_wp2_with fail
    refine hgp.mono ?_
    clear hgp
    rintro e w1 ⟨rfl, rfl⟩
    go_wp2_with fail
    refine hw1.mono ?_
    rintro e w1 ⟨rfl, rfl⟩
    go_wp2_with fail
    go_ret
    exact ⟨rfl, rfl⟩

theorem range_nil (w : World) (K : SK) (s : SS) (sending : Bool) (first last : Int) (h : SesIn w K s) (h1 : Word first) (h2 : Word last) (hg : 0 ≤ gapS first last) (hne : s.way sending = []) :
    Calls Try.prog 21 #[.pointer (some ⟨K.b, 0, none⟩), .bool sending, .int .i64 first, .int .i64 last] w fun e w' => e = .returned (.slice none 0 0) ∧ Below w.heap.size w w' := by
  have hgp := gap_all first last w
  have hw1 := word_any first w
  have hw2 := word_any last w
  have hwy := way_any w K s sending h
  rw [decide_eq_true h1] at hw1
  rw [decide_eq_true h2] at hw2
  obtain ⟨t, ht⟩ : ∃ t, (if sending then K.tS else K.tA) = t := ⟨_, rfl⟩
  have hf : Calls Try.prog 41 #[.pointer (some ⟨t, 0, none⟩), .int .i64 first, .int .i64 (gapS first last)] w fun e w' => e = .returned (.slice none 0 0) ∧ Below w.heap.size w w' := by
    cases sending
    · subst ht
      have h5 := h.arr
      rw [show s.arr = [] from hne] at h5
      exact from_none w K.tA K.mA first (gapS first last) h.rowA h5
    · subst ht
      have h5 := h.snd
      rw [show s.snd = [] from hne] at h5
      exact from_none w K.tS K.mS first (gapS first last) h.rowS h5
  rw [ht] at hwy
  clear h h1 h2 hne ht
  generalize gapS first last = many at *
  go_enter Try.func21, Try.ntmps21
  go_wp2_with fail
  refine hgp.mono ?_
  clear hgp
  rintro e w1 ⟨rfl, rfl⟩
  go_wp2_with fail
  refine hw1.mono ?_
  rintro e w1 ⟨rfl, rfl⟩
  go_wp2_with fail
  refine hw2.mono ?_
  rintro e w1 ⟨rfl, rfl⟩
  go_wp2_with fail
  refine hwy.mono ?_
  rintro e w1 ⟨rfl, rfl⟩
  go_wp2_with fail
  refine hf.mono ?_
  clear hf hw1 hw2 hwy
  rintro e w2 ⟨rfl, h3⟩
  go_wp2_with fail
  go_ret
  first | exact ⟨rfl, h3⟩

theorem range_any (w : World) (K : SK) (s : SS) (sending : Bool) (first last : Int) (h : SesIn w K s) (hw : ∀ p ∈ s.way sending, Word p.id) (hlen : (s.way sending).length ≤ 1073741824) :
    Calls Try.prog 21 #[.pointer (some ⟨K.b, 0, none⟩), .bool sending, .int .i64 first, .int .i64 last] w fun e w' => ∃ v out, e = .returned v ∧ RangeL (s.way sending) first last out ∧ w'.ownsRow w.heap.size 59 3 v out.length (pndRow out) ∧ Below w.heap.size w w' := by
  by_cases hg : Word first ∧ Word last ∧ 0 ≤ gapS first last
  · by_cases hne : s.way sending = []
    · refine (range_nil w K s sending first last h hg.1 hg.2.1 hg.2.2 hne).mono ?_
      rintro e w' ⟨rfl, hb⟩
      refine ⟨_, [], rfl, ?_, World.ownsRow_nil _ _ _ _, hb⟩
      rw [RangeL, if_pos hg, hne]
      exact ⟨List.Perm.refl _, List.Pairwise.nil⟩
    · refine (range_some w K s sending first last h hg.1 hg.2.1 hg.2.2 hne hw hlen).mono ?_
      rintro e w' ⟨v, out, rfl, h1, h2, h3⟩
      refine ⟨_, out, rfl, ?_, h2, h3⟩
      rw [RangeL, if_pos hg]
      exact h1
  · refine (range_no w K s sending first last h hg).mono ?_
    rintro e w' ⟨rfl, rfl⟩
    refine ⟨_, [], rfl, ?_, World.ownsRow_nil _ _ _ _, Below.refl _ _⟩
    rw [RangeL, if_neg hg]
end Go.Proofs.Ytbkimebmoafbnaa
