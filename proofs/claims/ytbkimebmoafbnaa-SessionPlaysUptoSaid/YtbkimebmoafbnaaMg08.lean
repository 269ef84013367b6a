/-
  A table's from that holds nothing; a session's Range, whole. Conditions: the session lies in memory.
  Lists of deliveries in memory; samePending; a range is its two parts (plain law). No conditions.
-/
import Derived.Test.YtbkimebmoafbnaaMg07
namespace Go.Proofs.Ytbkimebmoafbnaa
open Go.RowKit Go.Maps
set_option linter.unusedVariables false

theorem ixf_nil (fv : Value) (w : World) : Calls Try.prog 81 #[.slice none 0 0, fv] w fun e w' => e = .returned (.int .i64 (-1)) ∧ w' = w := by
  go_enter Try.func81, Try.ntmps81
  go_wp2_with fail
  go_loopw [8] (fun v wr => v = .int .i64 0 ∧ wr = w) (fun _ _ => 0)
  case atStart => exact ⟨rfl, rfl⟩
  case round =>
    obtain ⟨rfl, rfl⟩ := hrel
    go_wp2_with fail
    go_ret
    exact ⟨rfl, rfl⟩

theorem delf_nil (fv : Value) (w : World) : Calls Try.prog 56 #[.slice none 0 0, fv] w fun e w' => e = .returned (.slice none 0 0) ∧ w' = w := by
  go_enter Try.func56, Try.ntmps56
  go_wp2_with fail
  refine (ixf_nil fv w).mono ?_
  rintro e w1 ⟨rfl, rfl⟩
  go_wp2_with fail
  go_ret
  exact ⟨rfl, rfl⟩

theorem sortf_nil (fv : Value) (w : World) : Calls Try.prog 60 #[.slice none 0 0, fv] w fun e w' => e = .returned (.tuple #[]) ∧ w' = w :=
  AnyF.slices_SortFunc_none { Try.sort with } none 0 fv w

set_option maxRecDepth 20000 in
set_option maxHeartbeats 4000000 in
theorem from_none (w : World) (t m : Nat) (first many : Int) (ht : w.heap[t]? = some (.cells #[.map (some m)] 92 (0, 0))) (hm : MapOf w m (pend [])) :
    Calls Try.prog 41 #[.pointer (some ⟨t, 0, none⟩), .int .i64 first, .int .i64 many] w fun e w' => e = .returned (.slice none 0 0) ∧ Below w.heap.size w w' := by
  have HM0 := Lib.hid hm
  have HT0 := Lib.hid ht
  clear hm ht
  go_enter Try.func41, Try.ntmps41
  go_upto_region 1 with fail
  have hb1 : Below w.heap.size w ((w.alloc (.cells #[.int .i64 first] 3)).alloc (.cells #[.int .i64 many] 3)) := ((Below.refl _ w).alloc (Nat.le_refl _) _).alloc (by simp) _
  generalize ((w.alloc (.cells #[.int .i64 first] 3)).alloc (.cells #[.int .i64 many] 3)) = w1 at *
  obtain ⟨x, hx⟩ : ∃ x, w.heap.size = x := ⟨_, rfl⟩
  have hm1 : MapOf w1 m (pend []) := HM0.out.same (hb1.block m HM0.out.lt)
  have ht1 := (hb1.block t (Array.getElem?_eq_some_iff.1 HT0.out).1).trans HT0.out
  have ct : w1.cell? ⟨t, 0, none⟩ = some (.map (some m)) := (cell_of_row _ _ 0 _ _ _ ht1).trans rfl
  rw [hx]
  have HB1 := Lib.hid hb1
  obtain ⟨D, hown, hD⟩ := hm1
  have HD := Lib.hid hD
  have HOWN := Lib.hid hown
  have hK : Calls Try.prog 58 #[.map (some m)] w1 fun e w' => e = .returned (.func (.func 83) #[] #[.pointer (some ⟨w1.heap.size, 0, none⟩)]) ∧ w' = w1.alloc (.cells #[.map (some m)] 90) :=
    (callsIn_wide (n := 5)).1 (AnyZI.keys_in Try.keys Fence.wide 5 trivial rfl (some m) w1)
  clear hb1 ht1 hD hown hx
  go_wp2_with fail
  refine hK.mono ?_
  clear hK
  rintro e w2 ⟨rfl, hw2⟩
  have hb2 : Below w1.heap.size w1 w2 := by rw [hw2]; exact (Below.refl _ _).alloc (Nat.le_refl _) _
  have h2 : w2.heap[w1.heap.size]? = some (.cells #[.map (some m)] 90 (0, 0)) := by rw [hw2]; exact _root_.Go.heap_alloc_new _ _
  have hz2 : w1.heap.size < w2.heap.size := by rw [hw2]; simp
  have c2 : w2.cell? ⟨w1.heap.size, 0, none⟩ = some (.map (some m)) := (cell_of_row _ _ 0 _ _ _ h2).trans rfl
  have hown2 : w2.ownsMap Try.prog 3 holdV m (pend []).length D := by
    obtain ⟨es, clock, hb, r⟩ := HOWN.out
    exact ⟨es, clock, (hb2.block m HOWN.out.lt).trans hb, r⟩
  have hN : Maps.size D ≤ 1073741824 := by rw [HD.out.size]; simp [pend]
  have hseq : SeqGives Fence.wide 2 Try.prog 83 #[.pointer (some ⟨w1.heap.size, 0, none⟩)] encZ (fun ss => ss.Perm (intKeys D)) (Maps.size D) w2 :=
    AnyZI.keys_gives (ρ := Try.keys_ren) { Try.keys with } Fence.wide _ trivial rfl (by omega) w1.heap.size m _ D w2 hz2 c2 hown2
  have hC : Calls Try.prog 57 #[.func (.func 83) #[] #[.pointer (some ⟨w1.heap.size, 0, none⟩)]] w2 fun e w' => ∃ (v : Value) (ss : List Int), e = .returned v ∧ ss.Perm (intKeys D) ∧ w'.ownsRow w2.heap.size 3 1 v ss.length (ss.map encZ) ∧ (v = .slice none 0 0 ↔ ss = []) ∧ Below w2.heap.size w2 w' :=
    (callsIn_wide (n := 4)).1 (AnyZI.collect_in Try.collect Fence.wide 4 trivial trivial rfl (by omega) 83 _ trivial (enters_of Try.func83 (by kernel_rfl) rfl) _ (Maps.size D) (by unfold maxLen; omega) (by omega) w2 hseq)
  have HB2 := Lib.hid (HB1.out.trans (hb2.mono HB1.out.size))
  clear hb2 h2 hz2 c2 hown2 hN hseq hw2 ct
  go_wp2_with fail
  refine hC.mono ?_
  clear hC
  rintro e w3 ⟨v, ss, rfl, hS, hrow, hnil, hb3⟩
  have hss : ss = [] := by
    have h1 := (keys_perm HOWN.out HD.out hS).length_eq
    simp only [List.map_nil, List.length_nil] at h1
    exact List.length_eq_zero_iff.1 h1
  obtain rfl := hnil.2 hss
  have HB3 := Lib.hid (HB2.out.trans (hb3.mono HB2.out.size))
  clear hS hrow hnil hb3 hss
  go_wp2_with fail
  refine (delf_nil _ w3).mono ?_
  rintro e w4 ⟨rfl, rfl⟩
  go_wp2_with fail
  refine (sortf_nil _ w4).mono ?_
  rintro e w5 ⟨rfl, rfl⟩
  go_wp2_with fail
  go_loopw [8, 10, 24] (fun v8 v10 v24 wr => v10 = v10 ∧ v8 = .slice none 0 0 ∧ v24 = .int .i64 0 ∧ wr = w5) (fun _ _ _ _ => 0)
  case atStart => exact ⟨rfl, rfl, rfl, rfl⟩
  case round =>
    obtain ⟨_, rfl, rfl, rfl⟩ := hrel
    go_wp2_with fail
    go_ret
    exact ⟨rfl, HB3.out⟩

/-- what Range tells -/
def RangeL (l : List Pnd) (first last : Int) (out : List Pnd) : Prop :=
  if Word first ∧ Word last ∧ 0 ≤ gapS first last then FromL l first (gapS first last) out else out = []

theorem range_no (w : World) (K : SK) (s : SS) (sending : Bool) (first last : Int) (h : SesIn w K s) (hno : ¬ (Word first ∧ Word last ∧ 0 ≤ gapS first last)) :
    Calls Try.prog 21 #[.pointer (some ⟨K.b, 0, none⟩), .bool sending, .int .i64 first, .int .i64 last] w fun e w' => e = .returned (.slice none 0 0) ∧ w' = w := by
  have hgp := gap_all first last w
  have hw1 := word_any first w
  have hw2 := word_any last w
  clear h
  by_cases h1 : Word first
  · rw [decide_eq_true h1] at hw1
    by_cases h2 : Word last
    · rw [decide_eq_true h2] at hw2
      have h3 : gapS first last < 0 := by
        refine Classical.byContradiction fun q => hno ⟨h1, h2, by omega⟩
      clear h1 h2 hno
      generalize gapS first last = many at *
      go_enter Try.func21, Try.ntmps21
      go_wp2_with fail
      refine hgp.mono ?_
      clear hgp
      rintro e w1 ⟨rfl, rfl⟩
      go_wp2_with fail
      refine hw1.mono ?_
      rintro e w1 ⟨rfl, rfl⟩
      go_wp2_with fail
      refine hw2.mono ?_
      rintro e w1 ⟨rfl, rfl⟩
      go_wp2_with fail
      go_ret
      exact ⟨rfl, rfl⟩
    · rw [decide_eq_false h2] at hw2
      clear h1 h2 hno
      generalize gapS first last = many at *
      go_enter Try.func21, Try.ntmps21
      go_wp2_with fail
      refine hgp.mono ?_
      clear hgp
      rintro e w1 ⟨rfl, rfl⟩
      go_wp2_with fail
      refine hw1.mono ?_
      rintro e w1 ⟨rfl, rfl⟩
      go_wp2_with fail
      refine hw2.mono ?_
      rintro e w1 ⟨rfl, rfl⟩
      go_wp2_with fail
      go_ret
      exact ⟨rfl, rfl⟩
  · rw [decide_eq_false h1] at hw1
    clear h1 hno hw2
    generalize gapS first last = many at *
    go_enter Try.func21, Try.ntmps21
    go_wp2_with fail
    refine hgp.mono ?_
    clear hgp
    rintro e w1 ⟨rfl, rfl⟩
    go_wp2_with fail
    refine hw1.mono ?_
    rintro e w1 ⟨rfl, rfl⟩
    go_wp2_with fail
    go_ret
    exact ⟨rfl, rfl⟩

theorem range_nil (w : World) (K : SK) (s : SS) (sending : Bool) (first last : Int) (h : SesIn w K s) (h1 : Word first) (h2 : Word last) (hg : 0 ≤ gapS first last) (hne : s.way sending = []) :
    Calls Try.prog 21 #[.pointer (some ⟨K.b, 0, none⟩), .bool sending, .int .i64 first, .int .i64 last] w fun e w' => e = .returned (.slice none 0 0) ∧ Below w.heap.size w w' := by
  have hgp := gap_all first last w
  have hw1 := word_any first w
  have hw2 := word_any last w
  have hwy := way_any w K s sending h
  rw [decide_eq_true h1] at hw1
  rw [decide_eq_true h2] at hw2
  obtain ⟨t, ht⟩ : ∃ t, (if sending then K.tS else K.tA) = t := ⟨_, rfl⟩
  have hf : Calls Try.prog 41 #[.pointer (some ⟨t, 0, none⟩), .int .i64 first, .int .i64 (gapS first last)] w fun e w' => e = .returned (.slice none 0 0) ∧ Below w.heap.size w w' := by
    cases sending
    · subst ht
      have h5 := h.arr
      rw [show s.arr = [] from hne] at h5
      exact from_none w K.tA K.mA first (gapS first last) h.rowA h5
    · subst ht
      have h5 := h.snd
      rw [show s.snd = [] from hne] at h5
      exact from_none w K.tS K.mS first (gapS first last) h.rowS h5
  rw [ht] at hwy
  clear h h1 h2 hne ht
  generalize gapS first last = many at *
  go_enter Try.func21, Try.ntmps21
  go_wp2_with fail
  refine hgp.mono ?_
  clear hgp
  rintro e w1 ⟨rfl, rfl⟩
  go_wp2_with fail
  refine hw1.mono ?_
  rintro e w1 ⟨rfl, rfl⟩
  go_wp2_with fail
  refine hw2.mono ?_
  rintro e w1 ⟨rfl, rfl⟩
  go_wp2_with fail
  refine hwy.mono ?_
  rintro e w1 ⟨rfl, rfl⟩
  go_wp2_with fail
  refine hf.mono ?_
  clear hf hw1 hw2 hwy
  rintro e w2 ⟨rfl, h3⟩
  go_wp2_with fail
  go_ret
  first | exact ⟨rfl, h3⟩

theorem range_any (w : World) (K : SK) (s : SS) (sending : Bool) (first last : Int) (h : SesIn w K s) (hw : ∀ p ∈ s.way sending, Word p.id) (hlen : (s.way sending).length ≤ 1073741824) :
    Calls Try.prog 21 #[.pointer (some ⟨K.b, 0, none⟩), .bool sending, .int .i64 first, .int .i64 last] w fun e w' => ∃ v out, e = .returned v ∧ RangeL (s.way sending) first last out ∧ w'.ownsRow w.heap.size 59 3 v out.length (pndRow out) ∧ Below w.heap.size w w' := by
  by_cases hg : Word first ∧ Word last ∧ 0 ≤ gapS first last
  · by_cases hne : s.way sending = []
    · refine (range_nil w K s sending first last h hg.1 hg.2.1 hg.2.2 hne).mono ?_
      rintro e w' ⟨rfl, hb⟩
      refine ⟨_, [], rfl, ?_, World.ownsRow_nil _ _ _ _, hb⟩
      rw [RangeL, if_pos hg, hne]
      exact ⟨List.Perm.refl _, List.Pairwise.nil⟩
    · refine (range_some w K s sending first last h hg.1 hg.2.1 hg.2.2 hne hw hlen).mono ?_
      rintro e w' ⟨v, out, rfl, h1, h2, h3⟩
      refine ⟨_, out, rfl, ?_, h2, h3⟩
      rw [RangeL, if_pos hg]
      exact h1
  · refine (range_no w K s sending first last h hg).mono ?_
    rintro e w' ⟨rfl, rfl⟩
    refine ⟨_, [], rfl, ?_, World.ownsRow_nil _ _ _ _, Below.refl _ _⟩
    rw [RangeL, if_neg hg]
end Go.Proofs.Ytbkimebmoafbnaa

namespace Go.Proofs.Ytbkimebmoafbnaa
open Go.RowKit Go.Maps
set_option linter.unusedVariables false

/-! ### lists in memory -/
structure PndRd (W : World) (p : Option Addr) (c : Nat) (out : List Pnd) : Prop where
  cap : out.length ≤ c ∧ c ≤ maxLen
  at_ : 0 < out.length → ∃ g, p = some ⟨g, 0, none⟩
  cell : ∀ g, p = some ⟨g, 0, none⟩ → ∀ k (hk : k < out.length), W.cell? ⟨g, k * 3, none⟩ = some (.int .i64 out[k].id) ∧ W.cell? ⟨g, k * 3 + 1, none⟩ = some (.int .i64 out[k].h) ∧ W.cell? ⟨g, k * 3 + 2, none⟩ = some (.string out[k].tag)

theorem pndRow_len (l : List Pnd) : (pndRow l).length = l.length * 3 := by
  induction l with
  | nil => rfl
  | cons a t ih =>
    show ([Value.int .i64 a.id, .int .i64 a.h, .string a.tag] ++ pndRow t).length = _
    rw [List.length_append, ih]
    simp
    omega

theorem pndRow_get : ∀ (L : List Pnd) (k : Nat) (hk : k < L.length) (j : Nat), j < 3 → (pndRow L)[k * 3 + j]? = ([Value.int .i64 L[k].id, .int .i64 L[k].h, .string L[k].tag])[j]? := by
  intro L
  induction L with
  | nil => intro k hk; simp at hk
  | cons a t ih =>
    intro k hk j hj
    show ([Value.int .i64 a.id, .int .i64 a.h, .string a.tag] ++ pndRow t)[k * 3 + j]? = _
    cases k with
    | zero =>
      rw [List.getElem?_append_left (by simp; omega)]
      simp
    | succ k =>
      rw [List.getElem?_append_right (by simp; omega)]
      have := ih k (by simpa using hk) j hj
      simp only [List.getElem_cons_succ] at this ⊢
      rw [← this]
      congr 1
      simp
      omega

theorem PndRd.of_row {W : World} {B : Nat} {v : Value} {out : List Pnd} (h : W.ownsRow B 59 3 v out.length (pndRow out)) : ∃ p c, v = .slice p out.length c ∧ PndRd W p c out ∧ ∀ g, p = some ⟨g, 0, none⟩ → B ≤ g := by
  rcases h.2 with ⟨rfl, h0⟩ | ⟨g, cap, cur, rfl, hB, hb, h1, h2, _, h4⟩
  · exact ⟨none, 0, by rw [h0], ⟨by rw [h0]; exact ⟨Nat.le_refl _, Nat.zero_le _⟩, fun q => by omega, fun g q => by cases q⟩, fun g q => by cases q⟩
  · refine ⟨_, cap, rfl, ⟨⟨h1, h2⟩, fun _ => ⟨g, rfl⟩, fun g' hg k hk => ?_⟩, fun g' hg => by cases hg; exact hB⟩
    obtain rfl : g = g' := by cases hg; rfl
    have hc : ∀ j, j < 3 → W.cell? ⟨g, k * 3 + j, none⟩ = ([Value.int .i64 out[k].id, .int .i64 out[k].h, .string out[k].tag])[j]? := fun j hj => by
      rw [cell_of_row _ _ _ _ _ _ hb, ← pndRow_get out k hk j hj, ← h4, List.getElem?_take_of_lt (by omega), Array.getElem?_toList]
    exact ⟨hc 0 (by omega), hc 1 (by omega), hc 2 (by omega)⟩

theorem PndRd.below {w w' : World} {p : Option Addr} {c : Nat} {out : List Pnd} (h : PndRd w p c out) (hb : Below w.heap.size w w') : PndRd w' p c out :=
  ⟨h.cap, h.at_, fun g hg k hk => by
    obtain ⟨h1, h2, h3⟩ := h.cell g hg k hk
    exact ⟨bs_cell hb h1, bs_cell hb h2, bs_cell hb h3⟩⟩

theorem PndRd.smv {K : SK} {w w' : World} {p : Option Addr} {c : Nat} {out : List Pnd} (h : PndRd w p c out) (hb : SMv K w w') (hp : ∀ g, p = some ⟨g, 0, none⟩ → ¬ K.has g) : PndRd w' p c out :=
  ⟨h.cap, h.at_, fun g hg k hk => by
    obtain ⟨h1, h2, h3⟩ := h.cell g hg k hk
    have e := hb.block g (cell_lt' h1) (hp g hg)
    exact ⟨(World.cell?_of_block e).trans h1, (World.cell?_of_block e).trans h2, (World.cell?_of_block e).trans h3⟩⟩

set_option maxRecDepth 20000 in
set_option maxHeartbeats 4000000 in
theorem samep_any (w : World) (p p' : Option Addr) (c c' : Nat) (L : List Pnd) (n : Nat) (hn : L.length = n) (hl : PndRd w p c L) (hl' : PndRd w p' c' L) :
    Calls Try.prog 22 #[.slice p n c, .slice p' n c'] w fun e w' => e = .returned (.bool true) ∧ Below w.heap.size w w' := by
  have HL := Lib.hid hl
  have HL' := Lib.hid hl'
  have HN := Lib.hid hn
  obtain ⟨hc, hcm⟩ := hl.cap
  obtain ⟨hc', hcm'⟩ := hl'.cap
  unfold maxLen at hcm hcm'
  rw [hn] at hc hc'
  have hp := hl.at_
  have hp' := hl'.at_
  rw [hn] at hp hp'
  clear hl hl' hn
  go_enter Try.func22, Try.ntmps22
  go_wp2_with fail
  go_loopw [5] (fun i wr => ∃ (k : Nat), k ≤ n ∧ i = .int .i64 k ∧ Below w.heap.size w wr) (fun i _ => n - (intOf i).toNat)
  case atStart => exact ⟨0, Nat.zero_le _, rfl, Below.refl _ _⟩
  case round =>
    obtain ⟨k, hk, rfl, hb⟩ := hrel
    by_cases hkN : (k : Int) < n
    · have hk' : k < n := by omega
      obtain ⟨g, rfl⟩ := hp (by omega)
      obtain ⟨g', rfl⟩ := hp' (by omega)
      have hkL : k < L.length := by rw [HN.out]; exact hk'
      obtain ⟨c0, c1, c2⟩ := (HL.out.below hb).cell g rfl k hkL
      obtain ⟨e0, e1, e2⟩ := (HL'.out.below hb).cell g' rfl k hkL
      generalize L[k] = q at *
      obtain ⟨qi, qh, qt⟩ := q
      simp only at c0 c1 c2 e0 e1 e2
      have HB := Lib.hid hb
      clear hb
      go_upto_region 6 with fail
      go_quiet (fail)
      go_wp2_with fail
      go_roundw
      case rel => exact ⟨k + 1, by omega, by go_num, below_drewN HB.out _⟩
      case measure => simp [intOf]; omega
    · have HB := Lib.hid hb
      clear hb
      go_wp2_with fail
      go_ret
      exact ⟨rfl, HB.out⟩

/-! ### the plain law -/
theorem pos_eq_of_sorted {α : Type} {R : α → α → Prop} (hasym : ∀ a b, R a b → R b a → False) : ∀ (l m : List α), l.Perm m → l.Pairwise R → m.Pairwise R → l = m := by
  intro l
  induction l with
  | nil => intro m hp _ _; exact hp.symm.eq_nil.symm
  | cons a t ih =>
    intro m hp hl hm
    cases m with
    | nil => exact absurd hp.length_eq (by simp)
    | cons b u =>
      have hab : a = b := by
        have h1 : a ∈ b :: u := hp.subset (List.mem_cons_self ..)
        have h2 : b ∈ a :: t := hp.symm.subset (List.mem_cons_self ..)
        rcases List.mem_cons.1 h1 with h | h
        · exact h
        · rcases List.mem_cons.1 h2 with h' | h'
          · exact h'.symm
          · exact (hasym _ _ ((List.pairwise_cons.1 hm).1 a h) ((List.pairwise_cons.1 hl).1 b h')).elim
      subst hab
      rw [ih u hp.cons_inv (List.pairwise_cons.1 hl).2 (List.pairwise_cons.1 hm).2]

theorem FromL.one {l : List Pnd} {first many : Int} {a b : List Pnd} (h : FromL l first many a) (h' : FromL l first many b) : a = b :=
  pos_eq_of_sorted (fun x y h1 h2 => by omega) a b (h.1.trans h'.1.symm) h.2 h'.2

theorem perm_split {α : Type} {P Q R : α → Bool} : ∀ (l : List α), (∀ p ∈ l, P p = (Q p || R p)) → (∀ p ∈ l, ¬ (Q p = true ∧ R p = true)) → (l.filter P).Perm (l.filter Q ++ l.filter R) := by
  intro l
  induction l with
  | nil => intro _ _; exact List.Perm.refl _
  | cons a t ih =>
    intro h1 h2
    have := ih (fun p hp => h1 p (List.mem_cons_of_mem _ hp)) (fun p hp => h2 p (List.mem_cons_of_mem _ hp))
    have ha := h1 a (List.mem_cons_self ..)
    have hb := h2 a (List.mem_cons_self ..)
    simp only [List.filter_cons]
    cases hq : Q a <;> cases hr : R a <;> simp only [hq, hr, Bool.or_self, Bool.or_false, Bool.or_true] at ha <;> rw [ha] <;> simp only [if_true, if_false, Bool.false_eq_true]
    · exact this
    · exact (this.cons a).trans List.perm_middle.symm
    · exact this.cons a
    · exact (hb ⟨hq, hr⟩).elim

theorem FromL.mem {l : List Pnd} {first many : Int} {out : List Pnd} (h : FromL l first many out) {p : Pnd} (hp : p ∈ out) : p ∈ l ∧ 0 ≤ gapS first p.id ∧ gapS first p.id ≤ many := by
  obtain ⟨h1, h2⟩ := List.mem_filter.1 (h.1.subset hp)
  refine ⟨h1, ?_⟩
  unfold outR at h2
  simp at h2
  omega

theorem outR_not (f m x : Int) : (!outR f m x) = true ↔ 0 ≤ gapS f x ∧ gapS f x ≤ m := by
  unfold outR
  simp
/-- a range is its two parts -/
theorem range_split {l : List Pnd} {begun one two : Int} (ho : 0 ≤ one) (ho2 : one ≤ 1000000000) (ht : 0 ≤ two) (ht2 : two ≤ 1000000000) (hw : ∀ p ∈ l, Word p.id) {all left right : List Pnd}
    (ha : FromL l begun (one + 1 + two) all) (hl : FromL l begun one left) (hr : FromL l (((begun + one) % 4294967296 + 1) % 4294967296) two right) : all = left ++ right := by
  refine FromL.one ha ⟨?_, ?_⟩
  · refine List.Perm.trans (hl.1.append hr.1) (perm_split l (fun p hp => ?_) (fun p hp => ?_)).symm
    · have := hw p hp
      unfold Word at this
      rw [Bool.eq_iff_iff, Bool.or_eq_true, outR_not, outR_not, outR_not]
      unfold gapS
      omega
    · have := hw p hp
      unfold Word at this
      rw [outR_not, outR_not]
      unfold gapS
      omega
  · refine List.pairwise_append.2 ⟨hl.2, ?_, ?_⟩
    · refine List.Pairwise.imp_of_mem (fun {a b} ha' hb' h => ?_) hr.2
      have h1 := hr.mem ha'
      have h2 := hr.mem hb'
      unfold gapS at *
      omega
    · intro a ha' b hb'
      have h1 := hl.mem ha'
      have h2 := hr.mem hb'
      unfold gapS at *
      omega

theorem gap_last {begun one two : Int} (ho : 0 ≤ one) (ho2 : one ≤ 1000000000) (ht : 0 ≤ two) (ht2 : two ≤ 1000000000) : gapS begun (((begun + one) % 4294967296 + 1 + two) % 4294967296) = one + 1 + two := by unfold gapS; omega
theorem gap_mid {begun one : Int} (ho : 0 ≤ one) (ho2 : one ≤ 1000000000) : gapS begun ((begun + one) % 4294967296) = one := by unfold gapS; omega
theorem gap_next {m two : Int} (ht : 0 ≤ two) (ht2 : two ≤ 1000000000) : gapS ((m + 1) % 4294967296) ((m + 1 + two) % 4294967296) = two := by unfold gapS; omega
theorem mod_word (a : Int) : Word (a % 4294967296) := by unfold Word; omega

/-- what is left behind the first k are taken away -/
def leftBy (l all : List Pnd) (k : Nat) : List Pnd := l.filter fun p => decide (p.id ∉ (all.take k).map Pnd.id)
theorem leftBy_zero (l all : List Pnd) : leftBy l all 0 = l := by simp [leftBy]
theorem leftBy_succ (l all : List Pnd) (k : Nat) (hk : k < all.length) : (leftBy l all k).filter (fun p => decide (p.id ≠ all[k].id)) = leftBy l all (k + 1) := by
  unfold leftBy
  rw [List.filter_filter]
  refine List.filter_congr (fun p _ => ?_)
  rw [List.take_add_one, List.getElem?_eq_getElem hk, Option.toList_some, List.map_append, List.map_cons, List.map_nil]
  simp only [List.mem_append, List.mem_cons, List.not_mem_nil, or_false, not_or, Bool.decide_and]
  rw [Bool.and_comm]
theorem leftBy_word {l all : List Pnd} {k : Nat} (h : ∀ p ∈ l, Word p.id) : ∀ p ∈ leftBy l all k, Word p.id := fun p hp => h p (List.mem_filter.1 hp).1
theorem FromL.ids {l : List Pnd} {first many : Int} {out : List Pnd} (h : FromL l first many out) : (out.map Pnd.id).Nodup := by
  unfold List.Nodup
  rw [List.pairwise_map]
  exact h.2.imp (fun {a b} hab e => by rw [e] at hab; omega)
theorem leftBy_has {l all : List Pnd} {first many : Int} (h : FromL l first many all) {k : Nat} (hk : k < all.length) : all[k].id ∈ (leftBy l all k).map Pnd.id := by
  refine List.mem_map.2 ⟨all[k], List.mem_filter.2 ⟨(h.mem (List.getElem_mem hk)).1, ?_⟩, rfl⟩
  refine decide_eq_true (fun q => ?_)
  rw [List.map_take] at q
  obtain ⟨i, hi, he⟩ := List.mem_iff_getElem.1 q
  simp only [List.length_take, List.length_map] at hi
  rw [List.getElem_take, List.getElem_map] at he
  have h1 := List.pairwise_iff_getElem.1 h.ids i k (by simp; omega) (by simpa using hk) (by omega)
  simp only [List.getElem_map] at h1
  exact h1 he
theorem leftBy_all {l all : List Pnd} {first many : Int} (h : FromL l first many all) : leftBy l all all.length = l.filter fun p => outR first many p.id := by
  unfold leftBy
  rw [List.take_of_length_le (Nat.le_refl _)]
  refine List.filter_congr (fun p hp => ?_)
  by_cases hq : p.id ∈ all.map Pnd.id
  · obtain ⟨q, hq1, hq2⟩ := List.mem_map.1 hq
    have := (List.mem_filter.1 (h.1.subset hq1)).2
    rw [hq2] at this
    simp only [hq, not_true, decide_false]
    simpa using this.symm
  · have : outR first many p.id = true := by
      refine Classical.byContradiction fun hc => hq (List.mem_map.2 ⟨p, h.1.symm.subset (List.mem_filter.2 ⟨hp, by simpa using hc⟩), rfl⟩)
    rw [this]
    simpa using hq
theorem leftBy_len {l all : List Pnd} {first many : Int} (h : FromL l first many all) : (leftBy l all all.length).length + all.length = l.length := by
  rw [leftBy_all h, h.1.length_eq]
  have := perm_split (P := fun _ => true) (Q := fun p : Pnd => outR first many p.id) (R := fun p => !outR first many p.id) l (fun p _ => by simp) (fun p _ => by simp)
  have := this.length_eq
  rw [List.length_append, List.filter_eq_self.2 (fun _ _ => rfl)] at this
  exact this.symm
theorem leftBy_none {l all rest : List Pnd} {first many : Int} (h : FromL l first many all) (hr : FromL (leftBy l all all.length) first many rest) : rest = [] := by
  have := hr.1
  rw [leftBy_all h, List.filter_filter, List.filter_eq_nil_iff.2 (by intro p _; simp)] at this
  exact this.eq_nil
end Go.Proofs.Ytbkimebmoafbnaa
