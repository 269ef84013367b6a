/-
  What stands behind is not looked at; a beginning is short; what is written tells values apart. Plain lemmas. No conditions.
  What the statements without the document say of the codec, as laws of values and bytes. Plain lemmas. No conditions.
-/
import Derived.Test.YtjipennigjlklaaDoorCd
namespace Go.Proofs.YtjipennigjlklaaDoor
open Go.RowKit
set_option linter.unusedVariables false

theorem take_app {s t : List UInt8} {w : Nat} (h : w ≤ s.length) : (s ++ t).take w = s.take w := List.take_append_of_le_length h
theorem drop_app {s t : List UInt8} {w : Nat} (h : w ≤ s.length) : (s ++ t).drop w = s.drop w ++ t := List.drop_append_of_le_length h
theorem fixed_ext {c : Nat} {s t : List UInt8} (h : fixedR c s ≠ .error .short) : fixedR c (s ++ t) = fixedR c s := by
  unfold fixedR at h ⊢
  by_cases a : s.length < widC c
  · rw [if_pos a] at h; exact absurd rfl h
  rw [if_neg a, if_neg (by rw [List.length_append]; omega), take_app (by omega)]
theorem raw_ext {c : Nat} {s t : List UInt8} (h : rawR c s ≠ .error .short) : rawR c (s ++ t) = rawR c s := by
  unfold rawR at h ⊢
  by_cases a : s.length < 16
  · rw [if_pos a] at h; exact absurd rfl h
  rw [if_neg a, if_neg (by rw [List.length_append]; omega), take_app (by omega)]
theorem text_ext {c : Nat} {s t : List UInt8} (h : textR c s ≠ .error .short) : textR c (s ++ t) = textR c s := by
  unfold textR at h ⊢
  by_cases a : s.length < wOf c
  · rw [if_pos a] at h; exact absurd rfl h
  rw [if_neg a] at h ⊢
  rw [take_app (by omega : wOf c ≤ s.length)]
  by_cases b : s.length < wOf c + beVal (s.take (wOf c))
  · rw [if_pos b] at h; exact absurd rfl h
  rw [if_neg b, if_neg (by rw [List.length_append]; omega), if_neg (by rw [List.length_append]; omega), drop_app (by omega), take_app (by rw [List.length_drop]; omega)]
theorem within_ext {c least : Nat} {rd : Nat → List UInt8 → Res} {s t : List UInt8} (h : withinR c least rd s ≠ .error .short) : withinR c least rd (s ++ t) = withinR c least rd s := by
  unfold withinR at h ⊢
  by_cases a : s.length < wOf c
  · rw [if_pos a] at h; exact absurd rfl h
  rw [if_neg a] at h ⊢
  rw [take_app (by omega : wOf c ≤ s.length), if_neg (by rw [List.length_append]; omega)]
  by_cases d : beVal (s.take (wOf c)) < least
  · rw [if_pos d, if_pos d]
  rw [if_neg d] at h ⊢
  rw [if_neg d]
  by_cases b : s.length < wOf c + beVal (s.take (wOf c))
  · rw [if_pos b] at h; exact absurd rfl h
  rw [if_neg b, if_neg (by rw [List.length_append]; omega), drop_app (by omega), take_app (by rw [List.length_drop]; omega)]
theorem dat_ext {rv : List UInt8 → Res} {rd : Nat → List UInt8 → Res} {c : Nat} {s t : List UInt8} (h : datR rv rd c s ≠ .error .short) : datR rv rd c (s ++ t) = datR rv rd c s := by
  unfold datR at h ⊢
  by_cases a : c / 16 = 9
  · rw [if_pos a] at h; rw [if_pos a, if_pos a]; exact raw_ext h
  rw [if_neg a] at h; rw [if_neg a, if_neg a]
  by_cases a : c / 16 = 10 ∨ c / 16 = 11
  · rw [if_pos a] at h; rw [if_pos a, if_pos a]; exact text_ext h
  rw [if_neg a] at h; rw [if_neg a, if_neg a]
  by_cases a : c / 16 = 12 ∨ c / 16 = 13
  · rw [if_pos a] at h; rw [if_pos a, if_pos a]; exact within_ext h
  rw [if_neg a] at h; rw [if_neg a, if_neg a]
  by_cases a : c / 16 = 14 ∨ c / 16 = 15
  · rw [if_pos a] at h; rw [if_pos a, if_pos a]; exact within_ext h
  rw [if_neg a] at h; rw [if_neg a, if_neg a]
  exact fixed_ext h
theorem headE_short {e : Er} (h : (Except.error (headE e) : Res) ≠ .error .short) : e ≠ .short := by rintro rfl; exact h rfl
theorem shiftE_short {e : Er} {k : Nat} (h : (Except.error (shiftE k e) : Res) ≠ .error .short) : e ≠ .short := by rintro rfl; exact h rfl
theorem err_ne {e : Er} (h : e ≠ .short) : (Except.error e : Res) ≠ .error .short := fun q => h (by cases q; rfl)
theorem val_ext : ∀ (n : Nat) (s t : List UInt8), s.length ≤ maxLen → rdV n s ≠ .error .short → rdV n (s ++ t) = rdV n s
  | 0, [], t, hs, h => absurd rfl h
  | 0, x :: s, t, hs, h => rfl
  | n + 1, [], t, hs, h => absurd rfl h
  | n + 1, x :: s, t, hs, h => by
    simp only [List.length_cons] at hs
    rw [rdV_succ] at h ⊢
    rw [List.cons_append, valR_cons]
    rw [valR_cons] at h
    rw [valR_cons]
    by_cases a : kindC x.toNat < 0
    · rw [if_pos a, if_pos a]
    rw [if_neg a] at h; rw [if_neg a, if_neg a]
    by_cases a : x.toNat = 0
    · rw [if_pos a] at h; rw [if_pos a, if_pos a]
      unfold pairR at h ⊢
      cases h1 : rdV n s with
      | error e =>
        rw [h1] at h
        have h2 := shiftE_short h
        have h3 := val_ext n s t (by omega) (by rw [h1]; exact err_ne h2)
        rw [h1] at h3
        rw [h3]
      | ok p =>
        obtain ⟨d, k⟩ := p
        rw [h1] at h
        have h3 := val_ext n s t (by omega) (by rw [h1]; simp)
        rw [h1] at h3
        rw [h3]
        have hg := ((both_good n).2 s d k (by omega) h1).le
        simp only at h ⊢
        rw [drop_app hg]
        cases h4 : rdV n (s.drop k) with
        | error e =>
          rw [h4] at h
          have h2 := shiftE_short h
          have h5 := val_ext n (s.drop k) t (by rw [List.length_drop]; omega) (by rw [h4]; exact err_ne h2)
          rw [h4] at h5
          rw [h5]
        | ok p =>
          have h5 := val_ext n (s.drop k) t (by rw [List.length_drop]; omega) (by rw [h4]; simp)
          rw [h4] at h5
          rw [h5]
    rw [if_neg a] at h; rw [if_neg a, if_neg a]
    by_cases a : x.toNat / 16 = 4
    · rw [if_pos a, if_pos a]
    rw [if_neg a] at h; rw [if_neg a, if_neg a]
    cases h1 : datR (rdV n) (rdD n) x.toNat s with
    | error e =>
      rw [h1] at h
      have h2 := headE_short h
      have h3 := dat_ext (t := t) (show datR (rdV n) (rdD n) x.toNat s ≠ .error .short by rw [h1]; exact err_ne h2)
      rw [h1] at h3
      rw [h3]
    | ok p =>
      have h3 := dat_ext (t := t) (show datR (rdV n) (rdD n) x.toNat s ≠ .error .short by rw [h1]; simp)
      rw [h1] at h3
      rw [h3]

/-! ### the bytes of a value alone -/
theorem take_self {s : List UInt8} {w k : Nat} (h : w ≤ k) : (s.take k).take w = s.take w := by rw [List.take_take, Nat.min_eq_left h]
theorem take_mid {s : List UInt8} {w m : Nat} : ((s.take (w + m)).drop w).take m = (s.drop w).take m := by rw [List.drop_take, List.take_take, show w + m - w = m by omega, Nat.min_self]
theorem fixed_take {c : Nat} {s : List UInt8} {v : V} {k : Nat} (h : fixedR c s = .ok (v, k)) : fixedR c (s.take k) = .ok (v, k) := by
  obtain ⟨h1, h2, _⟩ := fixed_inv h
  unfold fixedR at h ⊢
  rw [if_neg (by omega)] at h
  rw [if_neg (by rw [List.length_take]; omega), take_self (by omega)]
  exact h
theorem raw_take {c : Nat} {s : List UInt8} {v : V} {k : Nat} (h : rawR c s = .ok (v, k)) : rawR c (s.take k) = .ok (v, k) := by
  unfold rawR at h ⊢
  by_cases a : s.length < 16
  · rw [if_pos a] at h; cases h
  rw [if_neg a] at h
  have hk : k = 16 := by simp only [Except.ok.injEq, Prod.mk.injEq] at h; exact h.2.symm
  rw [if_neg (by rw [List.length_take]; omega), take_self (by omega)]
  exact h
theorem text_take {c : Nat} {s : List UInt8} {v : V} {k : Nat} (h : textR c s = .ok (v, k)) : textR c (s.take k) = .ok (v, k) := by
  have h' := h
  unfold textR at h ⊢
  by_cases a : s.length < wOf c
  · rw [if_pos a] at h; cases h
  rw [if_neg a] at h
  by_cases b : s.length < wOf c + beVal (s.take (wOf c))
  · rw [if_pos b] at h; cases h
  rw [if_neg b] at h
  have hk : k = wOf c + beVal (s.take (wOf c)) := by
    by_cases d : 0 ≤ badT (kindC c) (txB ((s.drop (wOf c)).take (beVal (s.take (wOf c)))))
    · rw [if_pos d] at h; cases h
    · rw [if_neg d] at h
      simp only [Except.ok.injEq, Prod.mk.injEq] at h
      exact h.2.symm
  subst hk
  rw [if_neg (by rw [List.length_take]; omega), take_self (by omega), if_neg (by rw [List.length_take]; omega), take_mid]
  exact h
theorem within_take {c least : Nat} {rd : Nat → List UInt8 → Res} {s : List UInt8} {x : V × Nat} (h : withinR c least rd s = .ok x) : withinR c least rd (s.take (wOf c + beVal (s.take (wOf c)))) = .ok x := by
  obtain ⟨m, h1, h2, h3, h4, h5, h6⟩ := within_inv h
  rw [← h1]
  unfold withinR
  rw [take_self (by omega), ← h1, if_neg (by rw [List.length_take]; omega), if_neg (by omega), if_neg (by rw [List.length_take]; omega), take_mid]
  exact h5
theorem dat_take {rv : List UInt8 → Res} {rd : Nat → List UInt8 → Res} {c : Nat} {s : List UInt8} {v : V} {k : Nat} (h : datR rv rd c s = .ok (v, k)) : datR rv rd c (s.take k) = .ok (v, k) := by
  unfold datR at h ⊢
  by_cases a : c / 16 = 9
  · rw [if_pos a] at h ⊢; exact raw_take h
  rw [if_neg a] at h ⊢
  by_cases a : c / 16 = 10 ∨ c / 16 = 11
  · rw [if_pos a] at h ⊢; exact text_take h
  rw [if_neg a] at h ⊢
  by_cases a : c / 16 = 12 ∨ c / 16 = 13
  · rw [if_pos a] at h ⊢
    obtain ⟨m, h1, h2, h3, h4, h5, h6⟩ := within_inv h
    obtain ⟨_, _, _, _, _, hk, _⟩ := span_inv h5
    have := within_take h
    rwa [← h1, ← hk] at this
  rw [if_neg a] at h ⊢
  by_cases a : c / 16 = 14 ∨ c / 16 = 15
  · rw [if_pos a] at h ⊢
    obtain ⟨m, h1, h2, h3, h4, h5, h6⟩ := within_inv h
    obtain ⟨_, _, _, _, _, _, _, _, hk⟩ := arr_inv h5
    have := within_take h
    rwa [← h1, ← hk] at this
  rw [if_neg a] at h ⊢
  exact fixed_take h
theorem val_take : ∀ (n : Nat) (s : List UInt8) (v : V) (k : Nat), s.length ≤ maxLen → rdV n s = .ok (v, k) → rdV n (s.take k) = .ok (v, k)
  | 0, s, v, k, hs, h => by have := ((both_good 0).2 s v k hs h).dep; have := (dep_bd v).1; omega
  | n + 1, [], v, k, hs, h => by cases h
  | n + 1, x :: s, v, k, hs, h => by
    simp only [List.length_cons] at hs
    rw [rdV_succ] at h ⊢
    rw [valR_cons] at h
    by_cases a : kindC x.toNat < 0
    · rw [if_pos a] at h; cases h
    rw [if_neg a] at h
    by_cases b : x.toNat = 0
    · rw [if_pos b] at h
      unfold pairR at h
      cases h1 : rdV n s with
      | error e => rw [h1] at h; cases h
      | ok p =>
        obtain ⟨d, k1⟩ := p
        rw [h1] at h
        simp only at h
        cases h2 : rdV n (s.drop k1) with
        | error e => rw [h2] at h; cases h
        | ok p =>
          obtain ⟨w, k2⟩ := p
          rw [h2] at h
          simp only [Except.ok.injEq, Prod.mk.injEq] at h
          obtain ⟨rfl, rfl⟩ := h
          have g1 := ((both_good n).2 s d k1 (by omega) h1).le
          have t1 := val_take n s d k1 (by omega) h1
          have t2 := val_take n (s.drop k1) w k2 (by rw [List.length_drop]; omega) h2
          have e1 := val_ext n (s.take k1) ((s.drop k1).take k2) (by rw [List.length_take]; omega) (by rw [t1]; simp)
          rw [t1, ← List.take_add] at e1
          rw [show 1 + k1 + k2 = (k1 + k2) + 1 by omega, List.take_succ_cons]
          rw [valR_cons]
          rw [if_neg a, if_pos b]
          unfold pairR
          rw [e1]
          simp only
          rw [List.drop_take, show k1 + k2 - k1 = k2 by omega, t2]
          simp only
          rw [show 1 + k1 + k2 = k1 + k2 + 1 by omega]
    rw [if_neg b] at h
    by_cases d : x.toNat / 16 = 4
    · rw [if_pos d] at h
      simp only [Except.ok.injEq, Prod.mk.injEq] at h
      obtain ⟨rfl, rfl⟩ := h
      rw [show (1 : Nat) = 0 + 1 from rfl, List.take_succ_cons]
      rw [valR_cons]
      rw [if_neg a, if_neg b, if_pos d]
    rw [if_neg d] at h
    cases h1 : datR (rdV n) (rdD n) x.toNat s with
    | error e => rw [h1] at h; cases h
    | ok p =>
      obtain ⟨w, k1⟩ := p
      rw [h1] at h
      simp only [Except.ok.injEq, Prod.mk.injEq] at h
      obtain ⟨rfl, rfl⟩ := h
      rw [show 1 + k1 = k1 + 1 by omega, List.take_succ_cons]
      rw [valR_cons]
      rw [if_neg a, if_neg b, if_neg d, dat_take h1]
      simp only
      rw [show 1 + k1 = k1 + 1 by omega]

/-! ### apart -/

theorem right_iff {v : V} (hw : AllP V.Wf v 1) : firstBad (v.pre 1) = 0 ↔ Right v ∧ v.dep ≤ 32 := by
  rw [check_law v 1 (by omega)]
  constructor
  · rintro ⟨h1, h2⟩
    exact ⟨fun p hp => ⟨h1 p hp, hw p hp⟩, by omega⟩
  · rintro ⟨h1, h2⟩
    exact ⟨h1.ok, by omega⟩
theorem vin_wf {w : World} : ∀ (v : V) (s : Value), VIn w v s → AllP V.Wf v 1 := by
  refine V.ind (fun v ih s h => ?_)
  refine (allP_iff v 1).2 ⟨h.wf, fun x hx => (allP_any x 1 2).1 ?_⟩
  obtain ⟨i, hi, rfl⟩ := List.getElem_of_mem hx
  obtain ⟨p, c, hs, h1, h2, h3⟩ := h.slice
  obtain ⟨b, o, rfl⟩ := h3 (by omega)
  obtain ⟨t, _, ht⟩ := h.part hs hi
  exact ih _ hx t ht
theorem right_wf {v : V} (h : Right v) : AllP V.Wf v 1 := fun p hp => (h p hp).2
theorem encS_right {v : V} (hr : Right v) (hd : v.dep ≤ 32) (hl : (putV v).length ≤ 1048576) : encS v = (putV v, 0) := by
  unfold encS
  rw [if_neg (by rw [(right_iff (right_wf hr)).2 ⟨hr, hd⟩]; simp), if_neg (by omega)]
noncomputable def ansS (len : Int) (at_ : Int) : Res → V × Int × Int
  | .error .short => (zeroV, len, 10)
  | .error (.own e) => (zeroV, at_, e.1)
  | .error (.pl r e) => (zeroV, at_ + r, e.1)
  | .ok (v, k) => if 1048576 < k then (zeroV, at_, 2) else (v, at_ + k, 0)
theorem decS_in {b : List UInt8} {n : Nat} (h : n ≤ b.length) : decS b n = ansS b.length n (rdV 32 (b.drop n)) := by
  unfold decS
  rw [if_neg (by omega), show ((n : Nat) : Int).toNat = n by omega]
  cases rdV 32 (b.drop n) with
  | error e => cases e <;> rfl
  | ok p => rfl
theorem decS_out {b : List UInt8} {at_ : Int} (h : at_ < 0 ∨ (b.length : Int) < at_) : decS b at_ = (zeroV, 0, 1) := by
  unfold decS
  rw [if_pos h]
theorem ansS_err {len at_ : Int} {r : Res} (h : (ansS len at_ r).2.2 ≠ 0) : (ansS len at_ r).1 = zeroV := by
  cases r with
  | error e => cases e <;> rfl
  | ok p =>
    obtain ⟨v, k⟩ := p
    unfold ansS at h ⊢
    by_cases a : 1048576 < k
    · simp only [if_pos a]
    · simp only [if_neg a] at h
      exact absurd rfl h
theorem decS_err {b : List UInt8} {at_ : Int} (h : (decS b at_).2.2 ≠ 0) : (decS b at_).1 = zeroV := by
  by_cases a : at_ < 0 ∨ (b.length : Int) < at_
  · rw [decS_out a]
  · obtain ⟨n, rfl⟩ : ∃ n : Nat, at_ = n := ⟨at_.toNat, by omega⟩
    rw [decS_in (by omega)] at h ⊢
    exact ansS_err h
theorem decS_good {b : List UInt8} {at_ : Int} (hb : b.length ≤ maxLen) (h : (decS b at_).2.2 = 0) : ∃ n k : Nat, at_ = n ∧ n + k ≤ b.length ∧ 1 ≤ k ∧ k ≤ 1048576 ∧ (decS b at_).2.1 = (n : Int) + k ∧ rdV 32 (b.drop n) = .ok ((decS b at_).1, k) ∧ GoodV 32 (b.drop n) (decS b at_).1 k := by
  by_cases a : at_ < 0 ∨ (b.length : Int) < at_
  · rw [decS_out a] at h; simp at h
  · obtain ⟨n, rfl⟩ : ∃ n : Nat, at_ = n := ⟨at_.toNat, by omega⟩
    have hn : n ≤ b.length := by omega
    rw [decS_in hn] at h ⊢
    cases hr : rdV 32 (b.drop n) with
    | error e =>
      rw [hr] at h
      cases e with
      | short => simp [ansS] at h
      | own e => exact absurd h e.2
      | pl r e => exact absurd h e.2
    | ok p =>
      obtain ⟨v, k⟩ := p
      rw [hr] at h
      unfold ansS at h
      simp only at h
      by_cases c : 1048576 < k
      · rw [if_pos c] at h; simp at h
      have hl : (b.drop n).length = b.length - n := List.length_drop
      have g := read_good (by omega) hr
      have gl := g.le
      refine ⟨n, k, rfl, by omega, g.pos, by omega, ?_, ?_, ?_⟩
      · simp only [ansS, if_neg c]
      · simp only [ansS, if_neg c]; exact hr
      · simp only [ansS, if_neg c]; exact g
theorem decS_of {b : List UInt8} {n k : Nat} {v : V} (hn : n ≤ b.length) (hk : k ≤ 1048576) (h : rdV 32 (b.drop n) = .ok (v, k)) : decS b n = (v, (n : Int) + k, 0) := by
  rw [decS_in hn, h]
  simp only [ansS, if_neg (show ¬ 1048576 < k by omega)]
section
variable {v : V} (hv : Right v) (hd : v.dep ≤ 32) (hw : v.wt ≤ 2000000) (hl : (putV v).length ≤ 1048576)
include hv hd hw hl
theorem back_law (A C : List UInt8) : decS (A ++ (putV v ++ C)) A.length = (v, (A.length : Int) + (putV v).length, 0) := by
  refine decS_of (by rw [List.length_append]; omega) hl ?_
  rw [List.drop_left]
  exact there_back hv hd hw C
theorem dec_put : decS (putV v) 0 = (v, ((putV v).length : Int), 0) := by
  have := back_law hv hd hw hl [] []
  simpa using this
end
theorem again_law {b : List UInt8} {n k : Nat} {v : V} (hb : b.length ≤ maxLen) (hn : n + k ≤ b.length) (hk : k ≤ 1048576) (h : rdV 32 (b.drop n) = .ok (v, k)) (g : GoodV 32 (b.drop n) v k) :
    firstBad (v.pre 1) = 0 ∧ encS v = (putV v, 0) ∧ (putV v).length ≤ k ∧ decS (putV v) 0 = (v, ((putV v).length : Int), 0) ∧ shortestS ((b.drop n).take k) = decide (putV v = (b.drop n).take k) := by
  have gl := g.len
  have gw := g.wt
  have hd : v.dep ≤ 32 := g.dep
  have he := encS_right g.right hd (by omega)
  refine ⟨(right_iff (right_wf g.right)).2 ⟨g.right, hd⟩, he, gl, dec_put g.right hd (by omega) (by omega), ?_⟩
  have hl : (b.drop n).length = b.length - n := List.length_drop
  have ht := val_take 32 _ _ _ (by omega) h
  have hlt : ((b.drop n).take k).length = k := by rw [List.length_take]; omega
  have h1 : decS ((b.drop n).take k) 0 = (v, (k : Int), 0) := by
    have := decS_of (b := (b.drop n).take k) (n := 0) (Nat.zero_le _) hk (by rw [List.drop_zero]; exact ht)
    simpa using this
  have h2 : wholeS ((b.drop n).take k) = (v, 0, 0) := by
    unfold wholeS
    rw [h1, hlt]
    simp
  unfold shortestS
  rw [h2]
  simp only [ne_eq, not_true_eq_false, if_false]
  rw [he]
  simp
end Go.Proofs.YtjipennigjlklaaDoor
