/-
  The contracts of longshoreref05's headed, Header, begins, ReadHeader. Conditions: the bytes lie in memory and are not past 2^47 bytes.
-/
import Derived.Test.YtofdpccjpodbhaaAwake
namespace Go.Proofs.Ytofdpccjpodbhaa
open Go.RowKit
set_option linter.unusedVariables false

theorem headed_any (w : World) (p : Nat) (hp : p < 256) :
    Calls Try.prog 47 #[.int .i64 p] w fun e w' => e = .returned (.slice (some ⟨w.heap.size, 0, none⟩) 8 8) ∧ Below w.heap.size w w' ∧ Blk w' w.heap.size 5 (headL p) := by
  have hp' : ((UInt8.ofNat p).toNat : Int) = (p : Int) := by
    have : (UInt8.ofNat p).toNat = p % 256 := by simp
    omega
  go_enter Try.func47, Try.ntmps47
  go_wp2_with fail
  go_ret
  refine ⟨rfl, (Below.refl _ _).alloc (Nat.le_refl _) _, ⟨?_⟩⟩
  rw [heap_alloc_new]
  simp only [headL, byteV, List.map_cons, List.map_nil, hp']
  rfl

theorem rHeader_bad (w : World) (P : Int) (h : P ≠ 0 ∧ P ≠ 3) :
    Calls Try.prog 22 #[.int .i64 P] w fun e w' => e = .returned (.tuple #[.slice none 0 0, .int .i64 50]) ∧ w = w' := by
  have h0 : (P != 0) = true := by simpa using h.1
  have h3 : (P != 3) = true := by simpa using h.2
  clear h
  go_enter Try.func22, Try.ntmps22
  go_wp2_with fail
  go_ret2
  exact ⟨rfl, rfl⟩

theorem rHeader_ok (w : World) (p : Nat) (h : p = 0 ∨ p = 3) :
    Calls Try.prog 22 #[.int .i64 p] w fun e w' => ∃ g, e = .returned (.tuple #[.slice (some ⟨g, 0, none⟩) 8 8, .int .i64 0]) ∧ w.heap.size ≤ g ∧ Below w.heap.size w w' ∧ Blk w' g 5 (headL p) := by
  go_enter Try.func22, Try.ntmps22
  rcases h with rfl | rfl
  · go_wp2_with fail
    refine (headed_any w 0 (by decide)).mono ?_
    rintro e w1 ⟨rfl, hb, hk⟩
    go_wp2_with fail
    go_ret2
    exact ⟨w.heap.size, rfl, Nat.le_refl _, hb, hk⟩
  · go_wp2_with fail
    refine (headed_any w 3 (by decide)).mono ?_
    rintro e w1 ⟨rfl, hb, hk⟩
    go_wp2_with fail
    go_ret2
    exact ⟨w.heap.size, rfl, Nat.le_refl _, hb, hk⟩

set_option maxHeartbeats 1000000 in
theorem begins_any (w : World) (a : Option Addr) (n c : Nat) (l R : List UInt8) (A p : Nat) (h : BytesIn w a n c l) (hz : n ≤ 140737488355328) (hA : A ≤ n) (hp : p < 256) (hR : (l.drop A).take 8 = R) :
    Calls Try.prog 48 #[.slice a n c, .int .i64 A, .int .i64 p] w fun e w' => e = .returned (.bool (decide (R = (headL p).take R.length))) ∧ Below w.heap.size w w' := by
  have hle := h.le
  have hcap := h.cap
  have hlen := h.len
  unfold maxLen at hcap
  obtain ⟨K, hK⟩ : ∃ K, R.length = K := ⟨_, rfl⟩
  have hK8 : K = min 8 (n - A) := by rw [← hK, ← hR, List.length_take, List.length_drop, hlen]
  rw [hK]
  have HK := Lib.hid hK
  have HR := Lib.hid hR
  have hK1 : K ≤ 8 := by omega
  have hK2 : A + K ≤ n := by omega
  have hK3 : ¬ K < 8 ∨ ¬ A + K < n := by omega
  clear hK hR hlen hK8
  go_enter Try.func48, Try.ntmps48
  go_wp2_with fail
  refine (headed_any w p hp).mono ?_
  rintro e w1 ⟨rfl, hb, hk⟩
  have h1 := h.below hb
  have HB := Lib.hid hb
  have HH := Lib.hid hk
  have H1 := Lib.hid h1
  clear hb hk h1 h
  go_wp2_with fail
  go_loopw [8] (fun s8 wr => ∃ k : Nat, k ≤ K ∧ s8 = .int .i64 k ∧ Below w1.heap.size w1 wr ∧ Hid (R.take k = (headL p).take k)) (fun s8 _ => K - (intOf s8).toNat)
  case atStart => exact ⟨0, by omega, rfl, Below.refl _ _, Lib.hid rfl⟩
  case round =>
    obtain ⟨k, hkK, rfl, hW, hT⟩ := hrel
    have HW := Lib.hid (HB.out.trans (hW.mono HB.out.size))
    by_cases hlt : k < K
    · have hk8 : (k : Int) < 8 := by omega
      have hAk : (A : Int) + (k : Int) < (n : Int) := by omega
      have hby := H1.out.below hW
      obtain ⟨b, o, rfl, _, hc⟩ := hby.at_ (by omega)
      have hc1 := hc (A + k) (by omega)
      have hc2 := (HH.out.below hW).cell k (by show k < 8; omega)
      have eR := take_succ_getD R k (by rw [HK.out]; exact hlt)
      have eH := take_succ_getD (headL p) k (by show k < 8; omega)
      have hget : R.getD k 0 = l.getD (A + k) 0 := by
        rw [← HR.out, List.getD_eq_getElem?_getD, List.getElem?_take, if_pos (by omega), List.getElem?_drop, ← List.getD_eq_getElem?_getD]
      rw [← hget] at hc1
      obtain ⟨x, hx⟩ : ∃ x, R.getD k 0 = x := ⟨_, rfl⟩
      obtain ⟨y, hy⟩ : ∃ y, (headL p).getD k 0 = y := ⟨_, rfl⟩
      rw [hx] at hc1 eR
      rw [hy] at hc2 eH
      have ER := Lib.hid eR
      have EH := Lib.hid eH
      obtain ⟨m, hm⟩ : ∃ m, A + k = m := ⟨_, rfl⟩
      have hwm : IntKind.i64.wrap ((A : Int) + (k : Int)) = (m : Int) := by
        have : (A : Int) + (k : Int) = (m : Int) := by omega
        rw [this]; unfold IntKind.wrap; simp [IntKind.signed, IntKind.bits]; omega
      have hmn : m < n := by omega
      have hcc1 : wr.cell? ⟨b, o + m, none⟩ = some (.int .u8 x.toNat) := by rw [← hm]; exact hc1
      have hcc2 : wr.cell? ⟨w.heap.size, k, none⟩ = some (.int .u8 y.toNat) := hc2
      clear hx hy hget eR eH hc hby hc1 hc2 hm
      by_cases hxy : x = y
      · subst hxy
        go_wp2_with fail
        go_quiet (fail)
        go_wp2_with fail
        go_roundw
        case rel => exact ⟨k + 1, by omega, by go_num, below_drewN hW _, Lib.hid (by rw [ER.out, EH.out, hT.out])⟩
        case measure => simp [intOf]; omega
      · have hne : ((x.toNat : Int) != (y.toNat : Int)) = true := by
          rw [bne_iff_ne]; intro h; exact hxy (UInt8.toNat_inj.1 (by omega))
        have hfin : ¬ R = (headL p).take K := fun he => by
          have h1 : R.take (k + 1) = (headL p).take (k + 1) := by
            rw [he, List.take_take, Nat.min_eq_left (by omega)]
          rw [ER.out, EH.out, hT.out] at h1
          exact hxy (by simpa using h1)
        have HFN := Lib.hid hfin
        clear hfin
        go_wp2_with fail
        go_quiet (fail)
        go_wp2_with fail
        go_ret
        refine ⟨by rw [decide_eq_false HFN.out]; rfl, ?_⟩
        exact ⟨HW.out.os, HW.out.tape, HW.out.output, HW.out.size, HW.out.block⟩
    · obtain rfl : k = K := by omega
      have hfin : decide (R = (headL p).take R.length) = true := by
        have h1 := hT.out
        rw [← HK.out, List.take_length] at h1
        exact decide_eq_true h1
      rw [HK.out] at hfin
      have HFN := Lib.hid hfin
      clear hfin
      have hcase : ¬ (k : Int) < 8 ∨ ((k : Int) < 8 ∧ ¬ (A : Int) + (k : Int) < (n : Int)) := by omega
      rcases hcase with h1 | ⟨h1, h2⟩ <;>
      · go_wp2_with fail
        go_ret
        refine ⟨by rw [HFN.out]; rfl, ?_⟩
        exact ⟨HW.out.os, HW.out.tape, HW.out.output, HW.out.size, HW.out.block⟩

theorem headL_take (p q k : Nat) (hk : k ≤ 4) : (headL p).take k = (headL q).take k := by
  match k, hk with
  | 0, _ => rfl
  | 1, _ => rfl
  | 2, _ => rfl
  | 3, _ => rfl
  | 4, _ => rfl

/-- the header that the bytes are looked at as -/
theorem headP_cases (R : List UInt8) : headP R = 0 ∨ headP R = 3 := by
  unfold headP
  by_cases h : 4 < R.length ∧ (R.getD 4 0 = 0 ∨ R.getD 4 0 = 3)
  · rw [if_pos h]
    rcases h.2 with e | e
    · rw [e]; exact .inl rfl
    · rw [e]; exact .inr rfl
  · rw [if_neg h]; exact .inl rfl
theorem headP_of (R : List UInt8) (p : Nat) (hp : p = 0 ∨ p = 3) (h : R = (headL p).take R.length) (hl : 4 < R.length) : headP R = p := by
  have h4 : R.getD 4 0 = UInt8.ofNat p := by
    have h0 : R.getD 4 0 = ((headL p).take R.length).getD 4 0 := congrArg (fun l => l.getD 4 0) h
    rw [h0, List.getD_eq_getElem?_getD, List.getElem?_take, if_pos hl]
    rfl
  unfold headP
  rw [h4]
  rcases hp with rfl | rfl
  · rw [if_pos ⟨hl, .inl rfl⟩]; rfl
  · rw [if_pos ⟨hl, .inr rfl⟩]; rfl
/-- it begins as one of the two just where it begins as the one it is looked at as -/
theorem headP_iff (R : List UInt8) : (R = (headL 0).take R.length ∨ R = (headL 3).take R.length) ↔ R = (headL (headP R)).take R.length := by
  constructor
  · intro h
    by_cases hl : 4 < R.length
    · rcases h with h | h
      · rw [headP_of R 0 (.inl rfl) h hl]; exact h
      · rw [headP_of R 3 (.inr rfl) h hl]; exact h
    · rcases h with h | h
      · rw [headL_take (headP R) 0 _ (by omega)]; exact h
      · rw [headL_take (headP R) 3 _ (by omega)]; exact h
  · intro h
    rcases headP_cases R with e | e
    · rw [e] at h; exact .inl h
    · rw [e] at h; exact .inr h

theorem rread_arg (w : World) (a : Option Addr) (n c : Nat) (at_ : Int) (hc : c ≤ maxLen) (hn : n ≤ c) (hb : at_ < 0 ∨ (n : Int) < at_) :
    Calls Try.prog 24 #[.slice a n c, .int .i64 at_] w fun e w' => e = .returned (.tuple #[.int .i64 0, .int .i64 0, .int .i64 1]) ∧ w = w' := by
  have hcase : at_ < 0 ∨ (¬ at_ < 0 ∧ (n : Int) < at_) := by omega
  unfold maxLen at hc
  clear hb
  go_enter Try.func24, Try.ntmps24
  rcases hcase with h1 | ⟨h1, h2⟩ <;>
  · go_wp2_with fail
    go_ret3
    exact ⟨rfl, rfl⟩

set_option maxHeartbeats 1000000 in
theorem rread_in (w : World) (a : Option Addr) (n c : Nat) (l : List UInt8) (A : Nat) (h : BytesIn w a n c l) (hz : n ≤ 140737488355328) (hA : A ≤ n) :
    Calls Try.prog 24 #[.slice a n c, .int .i64 A] w fun e w' => e = .returned (.tuple #[.int .i64 (readH l A).1, .int .i64 (readH l A).2.1, .int .i64 (readH l A).2.2]) ∧ Below w.heap.size w w' := by
  obtain ⟨R, hR⟩ : ∃ R, (l.drop A).take 8 = R := ⟨_, rfl⟩
  have hRI := readH_in l A R (by rw [h.len]; exact hA) hR
  have hRl : R.length = min 8 (n - A) := by rw [← hR, List.length_take, List.length_drop, h.len]
  have hl0 : R.length < 8 ↔ n - A < 8 := by omega
  have hle := h.le
  have hcap := h.cap
  unfold maxLen at hcap
  have hb1 := begins_any w a n c l R A 0 h hz hA (by decide) hR
  obtain ⟨m0, hm0⟩ : ∃ b, decide (R = (headL 0).take R.length) = b := ⟨_, rfl⟩
  obtain ⟨m3, hm3⟩ : ∃ b, decide (R = (headL 3).take R.length) = b := ⟨_, rfl⟩
  have hH : Hid (BytesIn w a n c l) := Lib.hid h
  have hb3 : ∀ w1, Below w.heap.size w w1 → Calls Try.prog 48 #[.slice a n c, .int .i64 A, .int .i64 3] w1 fun e w' => e = .returned (.bool m3) ∧ Below w1.heap.size w1 w' := fun w1 hw => by
    have := begins_any w1 a n c l R A 3 (hH.out.below hw) hz hA (by decide) hR
    rw [hm3] at this
    exact this
  rw [hm0] at hb1
  have hval : readH l A = if m0 = false ∧ m3 = false then (0, 0, 50) else if n - A < 8 then (0, 0, 10) else if m0 = true then (0, (A : Int) + 8, 0) else (3, (A : Int) + 8, 0) := by
    rw [hRI]
    by_cases hbeg : R = (headL (headP R)).take R.length
    · have hor := (headP_iff R).2 hbeg
      rw [if_neg (by simpa using hbeg), if_neg (c := m0 = false ∧ m3 = false) (by
        rintro ⟨e0, e3⟩
        rw [e0] at hm0
        rw [e3] at hm3
        rcases hor with h | h
        · exact of_decide_eq_false hm0 h
        · exact of_decide_eq_false hm3 h)]
      by_cases h8 : R.length < 8
      · rw [if_pos h8, if_pos (hl0.1 h8)]
      · rw [if_neg h8, if_neg (fun h => h8 (hl0.2 h))]
        by_cases hm : m0 = true
        · rw [if_pos hm, headP_of R 0 (.inl rfl) (by rw [hm] at hm0; exact of_decide_eq_true hm0) (by omega)]
          rfl
        · rw [if_neg hm]
          rcases hor with h | h
          · exact absurd (by rw [← hm0]; exact decide_eq_true h) hm
          · rw [headP_of R 3 (.inr rfl) h (by omega)]; rfl
    · have hor : ¬ (R = (headL 0).take R.length ∨ R = (headL 3).take R.length) := fun h => hbeg ((headP_iff R).1 h)
      rw [if_pos hbeg, if_pos ⟨by rw [← hm0]; exact decide_eq_false (fun h => hor (.inl h)), by rw [← hm3]; exact decide_eq_false (fun h => hor (.inr h))⟩]
  have HV := Lib.hid hval
  clear hval hRI hRl hl0 hm0 hm3 hR h
  have hnA : ¬ n < A := by omega
  go_enter Try.func24, Try.ntmps24
  go_wp2_with fail
  refine hb1.mono ?_
  rintro e w1 ⟨rfl, hw1⟩
  have hc3 := hb3 w1 hw1
  go_wp2_with fail
  refine hc3.mono ?_
  rintro e w2 ⟨rfl, hw2⟩
  have hB := hw1.trans (hw2.mono hw1.size)
  have hB' := Lib.hid hB
  clear hb1 hb3 hc3 hw1 hw2 hB
  cases m0 <;> cases m3
  · go_wp2_with fail
    go_ret3
    rw [HV.out.trans (if_pos (by simp))]
    exact ⟨rfl, hB'.out⟩
  all_goals
    by_cases h8 : n - A < 8
    · have h8' : (n : Int) - (A : Int) < 8 := by omega
      go_wp2_with fail
      go_ret3
      rw [HV.out.trans ((if_neg (by simp)).trans (if_pos h8))]
      exact ⟨rfl, hB'.out⟩
    · have h8' : ¬ (n : Int) - (A : Int) < 8 := by omega
      go_wp2_with fail
      go_ret3
      rw [HV.out.trans ((if_neg (by simp)).trans (if_neg h8))]
      exact ⟨rfl, hB'.out⟩

/-- both read alike -/
theorem read_any (w : World) (a : Option Addr) (n c : Nat) (l : List UInt8) (at_ : Int) (h : BytesIn w a n c l) (hz : n ≤ 140737488355328) :
    Calls Try.prog 23 #[.slice a n c, .int .i64 at_] w fun e w' => e = .returned (.tuple #[.int .i64 (readH l at_).1, .int .i64 (readH l at_).2.1, .int .i64 (readH l at_).2.2]) ∧ Below w.heap.size w w' := by
  by_cases hb : at_ < 0 ∨ (n : Int) < at_
  · have e : readH l at_ = (0, 0, 1) := by unfold readH; rw [if_pos (by rw [h.len]; exact hb)]
    rw [e]
    exact (read_arg w a n c l at_ h hz hb).mono fun e w' hh => ⟨hh.1, by rw [← hh.2]; exact Below.refl _ _⟩
  · obtain ⟨A, rfl⟩ := Int.eq_ofNat_of_zero_le (show 0 ≤ at_ by omega)
    exact read_in w a n c l A h hz (by omega)
theorem rread_any (w : World) (a : Option Addr) (n c : Nat) (l : List UInt8) (at_ : Int) (h : BytesIn w a n c l) (hz : n ≤ 140737488355328) :
    Calls Try.prog 24 #[.slice a n c, .int .i64 at_] w fun e w' => e = .returned (.tuple #[.int .i64 (readH l at_).1, .int .i64 (readH l at_).2.1, .int .i64 (readH l at_).2.2]) ∧ Below w.heap.size w w' := by
  by_cases hb : at_ < 0 ∨ (n : Int) < at_
  · have e : readH l at_ = (0, 0, 1) := by unfold readH; rw [if_pos (by rw [h.len]; exact hb)]
    rw [e]
    exact (rread_arg w a n c at_ h.cap h.le hb).mono fun e w' hh => ⟨hh.1, by rw [← hh.2]; exact Below.refl _ _⟩
  · obtain ⟨A, rfl⟩ := Int.eq_ofNat_of_zero_le (show 0 ≤ at_ by omega)
    exact rread_in w a n c l A h hz (by omega)
end Go.Proofs.Ytofdpccjpodbhaa
