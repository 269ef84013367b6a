/-
  The codec's reader: data and value, whole, at every depth. Conditions: the reader and its bytes lie in memory.
  The codec's Decode: the deferred call that takes a fault. Conditions: the results' cells are there.
-/
import Derived.Test.YtjipennigjlklaaDoorEq
import Derived.Defers
import Derived.Recover
namespace Go.Proofs.YtjipennigjlklaaDoor
open Go.RowKit
set_option linter.unusedVariables false
set_option maxHeartbeats 4000000

theorem text_le {c : Nat} {s : List UInt8} {v : V} {k : Nat} (h : textR c s = .ok (v, k)) : k ≤ s.length := by
  unfold textR at h
  by_cases a : s.length < wOf c
  · rw [if_pos a] at h; cases h
  rw [if_neg a] at h
  by_cases b : s.length < wOf c + beVal (s.take (wOf c))
  · rw [if_pos b] at h; cases h
  rw [if_neg b] at h
  split at h
  · cases h
  · cases h; omega
theorem raw_le {c : Nat} {s : List UInt8} {v : V} {k : Nat} (h : rawR c s = .ok (v, k)) : k ≤ s.length := by
  unfold rawR at h
  by_cases a : s.length < 16
  · rw [if_pos a] at h; cases h
  rw [if_neg a] at h
  cases h
  omega
theorem dat_le {rv : List UInt8 → Res} {rd : Nat → List UInt8 → Res} {c : Nat} {s : List UInt8} {v : V} {k : Nat} (h : datR rv rd c s = .ok (v, k)) : k ≤ s.length := by
  unfold datR at h
  by_cases a : c / 16 = 9
  · rw [if_pos a] at h; exact raw_le h
  rw [if_neg a] at h
  by_cases a : c / 16 = 10 ∨ c / 16 = 11
  · rw [if_pos a] at h; exact text_le h
  rw [if_neg a] at h
  by_cases a : c / 16 = 12 ∨ c / 16 = 13
  · rw [if_pos a] at h
    obtain ⟨m, _, h1, _, _, h2, _⟩ := within_inv h
    obtain ⟨_, _, _, _, _, rfl, _⟩ := span_inv h2
    exact h1
  rw [if_neg a] at h
  by_cases a : c / 16 = 14 ∨ c / 16 = 15
  · rw [if_pos a] at h
    obtain ⟨m, _, h1, _, _, h2, _⟩ := within_inv h
    obtain ⟨_, _, _, _, _, _, _, _, rfl⟩ := arr_inv h2
    exact h1
  rw [if_neg a] at h
  obtain ⟨h1, rfl, _⟩ := fixed_inv h
  exact h1
theorem rdD_le : ∀ (n c : Nat) (s : List UInt8) (v : V) (k : Nat), rdD n c s = .ok (v, k) → k ≤ s.length
  | 0, c, s, v, k, h => by cases h
  | n + 1, c, s, v, k, h => by rw [rdD_succ] at h; exact dat_le h
theorem rdV_le : ∀ (n : Nat) (s : List UInt8) (v : V) (k : Nat), rdV n s = .ok (v, k) → k ≤ s.length
  | 0, [], v, k, h => by cases h
  | 0, x :: t, v, k, h => by
    have h2 : deepR (x :: t) = .ok (v, k) := h
    rw [deepR_cons] at h2
    split at h2 <;> cases h2
  | n + 1, [], v, k, h => by cases h
  | n + 1, x :: t, v, k, h => by
    rw [rdV_succ, valR_cons] at h
    by_cases a : kindC x.toNat < 0
    · rw [if_pos a] at h; cases h
    rw [if_neg a] at h
    by_cases a : x.toNat = 0
    · rw [if_pos a] at h
      unfold pairR at h
      cases h1 : rdV n t with
      | error y => rw [h1] at h; cases h
      | ok z =>
        obtain ⟨d, k1⟩ := z
        rw [h1] at h
        simp only at h
        cases h2 : rdV n (t.drop k1) with
        | error y => rw [h2] at h; cases h
        | ok z2 =>
          obtain ⟨v2, k2⟩ := z2
          rw [h2] at h
          simp only [Except.ok.injEq, Prod.mk.injEq] at h
          obtain ⟨_, rfl⟩ := h
          have q1 := rdV_le n t d k1 h1
          have q2 := rdV_le n _ v2 k2 h2
          rw [List.length_drop] at q2
          rw [List.length_cons]
          omega
    rw [if_neg a] at h
    by_cases a : x.toNat / 16 = 4
    · rw [if_pos a] at h
      simp only [Except.ok.injEq, Prod.mk.injEq] at h
      obtain ⟨_, rfl⟩ := h
      rw [List.length_cons]
      omega
    rw [if_neg a] at h
    cases h1 : datR (rdV n) (rdD n) x.toNat t with
    | error y => rw [h1] at h; cases h
    | ok z =>
      obtain ⟨v2, k2⟩ := z
      rw [h1] at h
      simp only [Except.ok.injEq, Prod.mk.injEq] at h
      obtain ⟨_, rfl⟩ := h
      have := dat_le h1
      rw [List.length_cons]
      omega
theorem good_okk {n : Nat} (hn : n ≤ 32) (s : List UInt8) (v : V) (k : Nat) (hs : s.length ≤ 4294967295) (h : rdV n s = .ok (v, k)) : k ≤ s.length ∧ Okk v := by
  have g := (both_good n).2 s v k (by unfold maxLen; omega) h
  have h1 := g.le
  have h2 := g.wt
  have h3 := g.len
  have h4 := g.dep
  exact ⟨h1, g.right, by omega, by omega, by omega⟩
theorem sOf_nil {B : List UInt8} {a e : Nat} (h : ¬ a < e) : sOf B a e = [] := by
  unfold sOf
  rw [show e - a = 0 by omega]
  rfl
theorem sOf_cons {B : List UInt8} {a e : Nat} (h : a < e) (h2 : e ≤ B.length) : sOf B a e = B.getD a 0 :: sOf B (a + 1) e := by
  have h3 : a < B.length := by omega
  unfold sOf
  rw [List.drop_eq_getElem_cons h3, show e - a = (e - (a + 1)) + 1 by omega, List.take_succ_cons, List.getD_eq_getElem?_getD, List.getElem?_eq_getElem h3]
  rfl
set_option maxRecDepth 20000 in
theorem rdata_any (n0 : Nat) (hn0 : n0 ≤ 31) (d : Int) (hd : d = 32 - (n0 : Int)) (hV : ValC (rdV n0) (d + 1)) (hD : 1 ≤ n0 → DatT (rdD n0) (d + 1)) : DatT (rdD (n0 + 1)) d := by
  intro c hc w r p n cp at_ en sz own B h
  rw [rdD_succ]
  have hwd : IntKind.i64.wrap (d + 1) = d + 1 := IntWalk.i64_in _ (by omega)
  have hl : (sOf B at_ en).length = en - at_ := sOf_len (by rw [h.len]; exact h.hen)
  have hae := h.ha
  have hde : (decide (32 < d + 1) = true ∧ ∀ c s, rdD n0 c s = .error (.pl 0 (ec 26))) ∨ (decide (32 < d + 1) = false ∧ DatT (rdD n0) (d + 1)) := by
    cases n0 with
    | zero => exact .inl ⟨by simp; omega, fun c s => rfl⟩
    | succ m => exact .inr ⟨by simp; omega, hD (by omega)⟩
  unfold datR
  rcases datC_mem hc with rfl | rfl | rfl | rfl | rfl | rfl | rfl | rfl | rfl | rfl | rfl | rfl | rfl | rfl | rfl | rfl | rfl | rfl | rfl | rfl | rfl | rfl | rfl | rfl | rfl | rfl | rfl | rfl | rfl | rfl | rfl | rfl | rfl
  · rw [if_neg (by decide), if_neg (by decide), if_neg (by decide), if_neg (by decide)]
    exact data_fixed 86 own d _ w r p n cp at_ en sz own B h (fun W hW => fixed_any 86 (by decide) (by decide) (by decide) W r p n cp at_ en sz own B hW) (by decide)
  · rw [if_neg (by decide), if_neg (by decide), if_neg (by decide), if_neg (by decide)]
    exact data_fixed 80 own d _ w r p n cp at_ en sz own B h (fun W hW => fixed_any 80 (by decide) (by decide) (by decide) W r p n cp at_ en sz own B hW) (by decide)
  · rw [if_neg (by decide), if_neg (by decide), if_neg (by decide), if_neg (by decide)]
    exact data_fixed 96 own d _ w r p n cp at_ en sz own B h (fun W hW => fixed_any 96 (by decide) (by decide) (by decide) W r p n cp at_ en sz own B hW) (by decide)
  · rw [if_neg (by decide), if_neg (by decide), if_neg (by decide), if_neg (by decide)]
    exact data_fixed 81 own d _ w r p n cp at_ en sz own B h (fun W hW => fixed_any 81 (by decide) (by decide) (by decide) W r p n cp at_ en sz own B hW) (by decide)
  · rw [if_neg (by decide), if_neg (by decide), if_neg (by decide), if_neg (by decide)]
    exact data_fixed 97 own d _ w r p n cp at_ en sz own B h (fun W hW => fixed_any 97 (by decide) (by decide) (by decide) W r p n cp at_ en sz own B hW) (by decide)
  · rw [if_neg (by decide), if_neg (by decide), if_neg (by decide), if_neg (by decide)]
    exact data_fixed 114 own d _ w r p n cp at_ en sz own B h (fun W hW => fixed_any 114 (by decide) (by decide) (by decide) W r p n cp at_ en sz own B hW) (by decide)
  · rw [if_neg (by decide), if_neg (by decide), if_neg (by decide), if_neg (by decide)]
    exact data_fixed 130 own d _ w r p n cp at_ en sz own B h (fun W hW => fixed_any 130 (by decide) (by decide) (by decide) W r p n cp at_ en sz own B hW) (by decide)
  · rw [if_neg (by decide), if_neg (by decide), if_neg (by decide), if_neg (by decide)]
    exact data_fixed 116 own d _ w r p n cp at_ en sz own B h (fun W hW => fixed_any 116 (by decide) (by decide) (by decide) W r p n cp at_ en sz own B hW) (by decide)
  · rw [if_neg (by decide), if_neg (by decide), if_neg (by decide), if_neg (by decide)]
    exact data_fixed 132 own d _ w r p n cp at_ en sz own B h (fun W hW => fixed_any 132 (by decide) (by decide) (by decide) W r p n cp at_ en sz own B hW) (by decide)
  · rw [if_neg (by decide), if_neg (by decide), if_neg (by decide), if_neg (by decide)]
    exact data_fixed 115 own d _ w r p n cp at_ en sz own B h (fun W hW => fixed_any 115 (by decide) (by decide) (by decide) W r p n cp at_ en sz own B hW) (by decide)
  · rw [if_neg (by decide), if_neg (by decide), if_neg (by decide), if_neg (by decide)]
    exact data_fixed 131 own d _ w r p n cp at_ en sz own B h (fun W hW => fixed_any 131 (by decide) (by decide) (by decide) W r p n cp at_ en sz own B hW) (by decide)
  · rw [if_neg (by decide), if_neg (by decide), if_neg (by decide), if_neg (by decide)]
    exact data_fixed 82 own d _ w r p n cp at_ en sz own B h (fun W hW => fixed_any 82 (by decide) (by decide) (by decide) W r p n cp at_ en sz own B hW) (by decide)
  · rw [if_neg (by decide), if_neg (by decide), if_neg (by decide), if_neg (by decide)]
    exact data_fixed 112 own d _ w r p n cp at_ en sz own B h (fun W hW => fixed_any 112 (by decide) (by decide) (by decide) W r p n cp at_ en sz own B hW) (by decide)
  · rw [if_neg (by decide), if_neg (by decide), if_neg (by decide), if_neg (by decide)]
    exact data_fixed 83 own d _ w r p n cp at_ en sz own B h (fun W hW => fixed_any 83 (by decide) (by decide) (by decide) W r p n cp at_ en sz own B hW) (by decide)
  · rw [if_neg (by decide), if_neg (by decide), if_neg (by decide), if_neg (by decide)]
    exact data_fixed 128 own d _ w r p n cp at_ en sz own B h (fun W hW => fixed_any 128 (by decide) (by decide) (by decide) W r p n cp at_ en sz own B hW) (by decide)
  · rw [if_neg (by decide), if_neg (by decide), if_neg (by decide), if_neg (by decide)]
    exact data_fixed 84 own d _ w r p n cp at_ en sz own B h (fun W hW => fixed_any 84 (by decide) (by decide) (by decide) W r p n cp at_ en sz own B hW) (by decide)
  · rw [if_neg (by decide), if_neg (by decide), if_neg (by decide), if_neg (by decide)]
    exact data_fixed 113 own d _ w r p n cp at_ en sz own B h (fun W hW => fixed_any 113 (by decide) (by decide) (by decide) W r p n cp at_ en sz own B hW) (by decide)
  · rw [if_neg (by decide), if_neg (by decide), if_neg (by decide), if_neg (by decide)]
    exact data_fixed 85 own d _ w r p n cp at_ en sz own B h (fun W hW => fixed_any 85 (by decide) (by decide) (by decide) W r p n cp at_ en sz own B hW) (by decide)
  · rw [if_neg (by decide), if_neg (by decide), if_neg (by decide), if_neg (by decide)]
    exact data_fixed 129 own d _ w r p n cp at_ en sz own B h (fun W hW => fixed_any 129 (by decide) (by decide) (by decide) W r p n cp at_ en sz own B hW) (by decide)
  · rw [if_pos (by decide)]
    unfold rawR
    by_cases hs : en < at_ + 16
    · rw [if_pos (by omega)]
      exact (raw_94_short own d w r p n cp at_ en sz own B h hs).mono (fun e w' q => q)
    · rw [if_neg (by omega), sOf_take (by omega)]
      refine (raw_94 own d w r p n cp at_ en sz own B h (by omega)).mono ?_
      rintro e w' ⟨rfl, hmv⟩
      exact RdTo.of_text (K := 14) ⟨by decide, by decide⟩ (by show ((B.drop at_).take 16).toArray.size ≤ maxLen; simp [maxLen]; omega) hmv
  · rw [if_pos (by decide)]
    unfold rawR
    by_cases hs : en < at_ + 16
    · rw [if_pos (by omega)]
      exact (raw_98_short own d w r p n cp at_ en sz own B h hs).mono (fun e w' q => q)
    · rw [if_neg (by omega), sOf_take (by omega)]
      refine (raw_98 own d w r p n cp at_ en sz own B h (by omega)).mono ?_
      rintro e w' ⟨rfl, hmv⟩
      exact RdTo.of_text (K := 17) ⟨by decide, by decide⟩ (by show ((B.drop at_).take 16).toArray.size ≤ maxLen; simp [maxLen]; omega) hmv
  · rw [if_neg (by decide), if_pos (by decide)]
    exact data_ta0 own d _ w r p n cp at_ en sz own B h (fun W hW => text_any 160 (by decide) (by decide) W r p n cp at_ en sz own B hW)
  · rw [if_neg (by decide), if_pos (by decide)]
    exact data_tb0 own d _ w r p n cp at_ en sz own B h (fun W hW => text_any 176 (by decide) (by decide) W r p n cp at_ en sz own B hW)
  · rw [if_neg (by decide), if_pos (by decide)]
    exact data_ta1 own d _ w r p n cp at_ en sz own B h (fun W hW => text_any 161 (by decide) (by decide) W r p n cp at_ en sz own B hW)
  · rw [if_neg (by decide), if_pos (by decide)]
    exact data_tb1 own d _ w r p n cp at_ en sz own B h (fun W hW => text_any 177 (by decide) (by decide) W r p n cp at_ en sz own B hW)
  · rw [if_neg (by decide), if_pos (by decide)]
    exact data_ta3 own d _ w r p n cp at_ en sz own B h (fun W hW => text_any 163 (by decide) (by decide) W r p n cp at_ en sz own B hW)
  · rw [if_neg (by decide), if_pos (by decide)]
    exact data_tb3 own d _ w r p n cp at_ en sz own B h (fun W hW => text_any 179 (by decide) (by decide) W r p n cp at_ en sz own B hW)
  · rw [if_neg (by decide), if_neg (by decide), if_pos (by decide)]
    exact data_sc0 own d _ w r p n cp at_ en sz own B h (fun W hW => span_any 192 (by decide) (by decide) d hwd (rdV n0) (rdV_le n0) (good_okk (by omega)) hV W r p n cp at_ en sz own B hW)
  · rw [if_neg (by decide), if_neg (by decide), if_pos (by decide)]
    exact data_sd0 own d _ w r p n cp at_ en sz own B h (fun W hW => span_any 208 (by decide) (by decide) d hwd (rdV n0) (rdV_le n0) (good_okk (by omega)) hV W r p n cp at_ en sz own B hW)
  · rw [if_neg (by decide), if_neg (by decide), if_pos (by decide)]
    exact data_sc1 own d _ w r p n cp at_ en sz own B h (fun W hW => span_any 193 (by decide) (by decide) d hwd (rdV n0) (rdV_le n0) (good_okk (by omega)) hV W r p n cp at_ en sz own B hW)
  · rw [if_neg (by decide), if_neg (by decide), if_pos (by decide)]
    exact data_sd1 own d _ w r p n cp at_ en sz own B h (fun W hW => span_any 209 (by decide) (by decide) d hwd (rdV n0) (rdV_le n0) (good_okk (by omega)) hV W r p n cp at_ en sz own B hW)
  · rw [if_neg (by decide), if_neg (by decide), if_neg (by decide), if_pos (by decide)]
    exact data_ae0 own d _ w r p n cp at_ en sz own B h (fun W hW => array_any 224 (by decide) (by decide) d hwd (rdD n0) (rdD_le n0) hde W r p n cp at_ en sz own B hW)
  · rw [if_neg (by decide), if_neg (by decide), if_neg (by decide), if_pos (by decide)]
    exact data_af0 own d _ w r p n cp at_ en sz own B h (fun W hW => array_any 240 (by decide) (by decide) d hwd (rdD n0) (rdD_le n0) hde W r p n cp at_ en sz own B hW)
set_option maxRecDepth 20000 in
theorem value_zero : ValC (rdV 0) 33 := by
  intro w r p n cp at_ en sz own B h
  have hen := h.hen
  have hBl := h.len
  by_cases hat : at_ < en
  · rw [sOf_cons hat (by omega)]
    rw [show rdV 0 = deepR from rfl, deepR_cons]
    by_cases hk : kindC (B.getD at_ 0).toNat < 0
    · rw [if_pos hk]
      exact value_code _ _ 33 rfl w r p n cp at_ en sz own B h hat rfl (decide_eq_true hk)
    · rw [if_neg hk]
      exact value_deep _ _ 33 rfl w r p n cp at_ en sz own B h hat rfl (decide_eq_false hk) (by decide)
  · rw [sOf_nil hat]
    exact value_short 33 w r p n cp at_ en sz own B h hat
set_option maxRecDepth 20000 in
theorem value_succ (n0 : Nat) (hn0 : n0 ≤ 31) (d : Int) (hd : d = 32 - (n0 : Int)) (hV : ValC (rdV n0) (d + 1)) (hD : DatT (rdD (n0 + 1)) d) : ValC (rdV (n0 + 1)) d := by
  intro w r p n cp at_ en sz own B h
  have hen := h.hen
  have hBl := h.len
  have hd2 : decide (32 < d) = false := by simp; omega
  by_cases hat : at_ < en
  · rw [sOf_cons hat (by omega), rdV_succ, valR_cons]
    obtain ⟨c, hcd⟩ : ∃ c, (B.getD at_ 0).toNat = c := ⟨_, rfl⟩
    rw [hcd]
    by_cases hk : kindC c < 0
    · rw [if_pos hk]
      exact value_code c _ d rfl w r p n cp at_ en sz own B h hat hcd (by simp [hk])
    rw [if_neg hk]
    by_cases hc0 : c = 0
    · rw [if_pos hc0]
      subst hc0
      exact value_00 d w r p n cp at_ en sz own B h hat hcd hd2 (IntWalk.i64_in _ (by omega)) (rdV n0) (rdV_le n0) (fun a2 o2 W hW => hV W r p n cp a2 en sz o2 B hW)
    rw [if_neg hc0]
    by_cases hc4 : c / 16 = 4
    · rw [if_pos hc4]
      rcases lone_mem (by omega) hc4 with rfl | rfl | rfl | rfl | rfl | rfl
      · refine (value_40 _ rfl d w r p n cp at_ en sz own B h hat hcd hd2).mono ?_
        rintro e w' ⟨rfl, hmv⟩
        exact RdTo.of_ok (K := 0) (N := 0) (k := 1) ⟨by decide, by decide⟩ ⟨by decide, by decide⟩ hmv
      · refine (value_41 _ rfl d w r p n cp at_ en sz own B h hat hcd hd2).mono ?_
        rintro e w' ⟨rfl, hmv⟩
        exact RdTo.of_ok (K := 1) (N := 1) (k := 1) ⟨by decide, by decide⟩ ⟨by decide, by decide⟩ hmv
      · refine (value_42 _ rfl d w r p n cp at_ en sz own B h hat hcd hd2).mono ?_
        rintro e w' ⟨rfl, hmv⟩
        exact RdTo.of_ok (K := 1) (N := 0) (k := 1) ⟨by decide, by decide⟩ ⟨by decide, by decide⟩ hmv
      · refine (value_43 _ rfl d w r p n cp at_ en sz own B h hat hcd hd2).mono ?_
        rintro e w' ⟨rfl, hmv⟩
        exact RdTo.of_ok (K := 4) (N := 0) (k := 1) ⟨by decide, by decide⟩ ⟨by decide, by decide⟩ hmv
      · refine (value_44 _ rfl d w r p n cp at_ en sz own B h hat hcd hd2).mono ?_
        rintro e w' ⟨rfl, hmv⟩
        exact RdTo.of_ok (K := 5) (N := 0) (k := 1) ⟨by decide, by decide⟩ ⟨by decide, by decide⟩ hmv
      · refine (value_45 _ rfl d w r p n cp at_ en sz own B h hat hcd hd2).mono ?_
        rintro e w' ⟨rfl, hmv⟩
        exact RdTo.of_ok (K := 21) (N := 0) (k := 1) ⟨by decide, by decide⟩ ⟨by decide, by decide⟩ hmv
    rw [if_neg hc4]
    have hx := value_data c _ d rfl w r p n cp at_ en sz own B h hat hcd (by simp; omega) hd2 ⟨hc0, hc4⟩ (rdD (n0 + 1) c (sOf B (at_ + 1) en)) (fun W hW => hD c ⟨by omega, hc0, hc4⟩ W r p n cp (at_ + 1) en sz (at_ : Nat) B hW)
    rw [rdD_succ] at hx
    exact hx
  · rw [sOf_nil hat]
    exact value_short d w r p n cp at_ en sz own B h hat
theorem both_levels : ∀ n0 : Nat, n0 ≤ 32 → ValC (rdV n0) (33 - (n0 : Int)) ∧ (1 ≤ n0 → DatT (rdD n0) (33 - (n0 : Int)))
  | 0, _ => ⟨value_zero, fun h => absurd h (by omega)⟩
  | n + 1, hn => by
    obtain ⟨h1, h2⟩ := both_levels n (by omega)
    have e : (33 : Int) - ((n + 1 : Nat) : Int) = 32 - (n : Int) := by omega
    have e2 : (33 : Int) - (n : Int) = (32 - (n : Int)) + 1 := by omega
    rw [e2] at h1 h2
    rw [e]
    have h3 := rdata_any n (by omega) _ rfl h1 h2
    exact ⟨value_succ n (by omega) _ rfl h1 h3, fun _ => h3⟩
theorem value_any : ValC (rdV 32) 1 := by
  have := (both_levels 32 (by omega)).1
  exact this
set_option maxHeartbeats 4000000

attribute [local go_sem] Oper.semAt_some

theorem wp_hide {P : Program} {Q : Exit → Act → World → Prop} {c : Code} {a : Act} {w : World} (h : ∀ Q' : Exit → Act → World → Prop, Hid (∀ a w, Q .normal a w → Q' .normal a w) → Hid (∀ c (a : Act) w, Q' (.panic c) a w → False) → c.wp P Q' a w) : c.wp P Q a w :=
  wp_mono (h (fun x a w => match x with | .normal => Q .normal a w | _ => False) (Lib.hid (fun _ _ h => h)) (Lib.hid (fun _ _ _ h => h))) (fun e a w hh => by cases e <;> first | exact hh | exact hh.elim)
theorem catch_idle (a b c : Value) (w : World) :
    CallsD Tryd.prog 20 #[a, b, c] .returning w fun e u' w' => e = .returned (.tuple #[]) ∧ u' = .returning ∧ w' = w := by
  refine callsD_of_wpS Tryd.func20 rfl fun c₀ cs hu => ?_
  apply wpS_seq
  apply wpS_region
  simp [wpOpsS, go_sem, recoverD, hu, Tryd.ntmps20, Exit.thenS]
  apply wpS_seq
  apply wpS_region
  simp [wpOpsS, go_sem, Exit.thenS]
  refine wpS_cond (t := false) (by simp [Act.eval, Array.replicate]) ?_
  simp only [Bool.false_eq_true, if_false]
  refine wpS_of_wp (wp_skip ?_)
  cases c₀
  simp_all [bodyPostS, results, Tryd.results20]
structure Took (w w' : World) (x y z : Nat) (a c : Int) : Prop where
  keep : KeepF (fun g => g = x ∨ g = y ∨ g = z) w w'
  rx : w'.heap[x]? = some (.cells zR 25 (0, 0))
  ry : w'.cell? ⟨y, 0, none⟩ = some (.int .i64 a)
  rz : w'.cell? ⟨z, 0, none⟩ = some (.int .i64 c)
set_option maxRecDepth 20000 in
theorem catch_fault (x y z : Nat) (a c : Int) (rw0 : Array Value) (y0 z0 : Int) (hne : x ≠ y ∧ x ≠ z ∧ y ≠ z) (w : World) (hx : w.heap[x]? = some (.cells rw0 25 (0, 0))) (hrs : rw0.size = 5)
    (hy : w.heap[y]? = some (.cells #[.int .i64 y0] 3 (0, 0))) (hz : w.heap[z]? = some (.cells #[.int .i64 z0] 29 (0, 0))) :
    CallsD Tryd.prog 20 #[.pointer (some ⟨x, 0, none⟩), .pointer (some ⟨y, 0, none⟩), .pointer (some ⟨z, 0, none⟩)] (.panicking [{ v := .iface 51 (.agg #[.int .i64 a, .int .i64 c]), recovered := false }]) w fun e u' w' =>
      e = .returned (.tuple #[]) ∧ u' = .panicking [{ v := .iface 51 (.agg #[.int .i64 a, .int .i64 c]), recovered := true }] ∧ Took w w' x y z a c := by
  refine callsD_of_wpS Tryd.func20 rfl fun c₀ cs hu => ?_
  apply wpS_seq
  apply wpS_region
  simp [wpOpsS, go_sem, recoverD, hu, Tryd.ntmps20, Exit.thenS]
  apply wpS_seq
  apply wpS_region
  simp [wpOpsS, go_sem, Exit.thenS]
  refine wpS_cond (t := true) (by simp [Act.eval, Array.replicate]) ?_
  simp only [if_true]
  refine wpS_of_wp ?_
  refine wp_hide (fun Q9 HQ9 HP9 => ?_)
  have hrep : Array.replicate 19 undef = #[undef, undef, undef, undef, undef, undef, undef, undef, undef, undef, undef, undef, undef, undef, undef, undef, undef, undef, undef] := by kernel_rfl
  simp only [hrep, List.setIfInBounds_toArray, List.set_cons_zero, List.set_cons_succ, List.append_toArray, List.cons_append, List.nil_append]
  have HX := Lib.hid (And.intro hx (And.intro hrs (And.intro hy (And.intro hz hne))))
  clear hx hrs hy hz hne hu hrep
  have hta : ∀ w : World, (Instr.typeAssert (.iface 51 (.agg #[.int .i64 a, .int .i64 c])) 20 51 true).run Tryd.prog w = .ok (.tuple #[.agg #[.int .i64 a, .int .i64 c], .bool true]) w := fun w => by kernel_rfl
  go_upto_region 5 with (refine wpList_store_rowTo rfl 51 (.tmp 4) (.tmp 12) rfl rfl w.heap.size #[.int .i64 a, .int .i64 c] rfl rfl 51 #[.int .i64 0, .int .i64 0] (_root_.Go.heap_alloc_new _ _) (by as_aux_lemma => kernel_rfl) (by as_aux_lemma => kernel_rfl) (by simp [Value.oneCell']) ?_)
  have hb1 : Below w.heap.size w ((w.alloc (.cells #[.int .i64 0, .int .i64 0] 51)).setRow w.heap.size #[.int .i64 a, .int .i64 c]) := below_setRow ((Below.refl _ _).alloc (Nat.le_refl _) _) (Nat.le_refl _) _
  have of1 := setRow_heap (w.alloc (.cells #[.int .i64 0, .int .i64 0] 51)) w.heap.size _ #[.int .i64 a, .int .i64 c] _ _ (_root_.Go.heap_alloc_new w _)
  change Code.wp _ _ _ _ ((w.alloc (.cells #[.int .i64 0, .int .i64 0] 51)).setRow w.heap.size #[.int .i64 a, .int .i64 c])
  generalize ((w.alloc (.cells #[.int .i64 0, .int .i64 0] 51)).setRow w.heap.size #[.int .i64 a, .int .i64 c]) = w1 at *
  obtain ⟨f, hf⟩ : ∃ f, w.heap.size = f := ⟨_, rfl⟩
  rw [hf] at of1 ⊢
  have x1 := (hb1.block x (gl HX.out.1)).trans HX.out.1
  have y1 := (hb1.block y (gl HX.out.2.2.1)).trans HX.out.2.2.1
  have z1 := (hb1.block z (gl HX.out.2.2.2.1)).trans HX.out.2.2.2.1
  have lx := (gl HX.out.1)
  have ly := (gl HX.out.2.2.1)
  have lz := (gl HX.out.2.2.2.1)
  have H1 := Lib.hid (And.intro hb1 (And.intro of1 (And.intro x1 (And.intro y1 z1))))
  have HF := Lib.hid (show f ≠ x ∧ f ≠ y ∧ f ≠ z from ⟨by omega, by omega, by omega⟩)
  clear hb1 of1 x1 y1 z1 lx ly lz hf hta
  refine wp_region_heldN (fun V => V.cell? ⟨f, 0, none⟩ = some (.int .i64 a) ∧ V.cell? ⟨f, 1, none⟩ = some (.int .i64 c)) 8 rfl (by kernel_rfl) ?_
  have hS : w1.drew.cell? ⟨f, 0, none⟩ = some (.int .i64 a) ∧ w1.drew.cell? ⟨f, 1, none⟩ = some (.int .i64 c) := ⟨(cell_of_row w1 _ 0 _ _ _ H1.out.2.1).trans rfl, (cell_of_row w1 _ 1 _ _ _ H1.out.2.1).trans rfl⟩
  refine tkD (i := 0) (v := .agg zR) (some 17) rfl rfl (by kernel_rfl) (fun c a w h => (HP9.out _ _ _ h).elim) (Or.inl ⟨by rfl, by rintro V h0; go_simp⟩) hS ?_
  try simp only [Act.put, sA, sB, sC]
  refine tkD (i := 1) (v := .pointer (some ⟨f, 0, none⟩)) (some 18) rfl rfl (by kernel_rfl) (fun c a w h => (HP9.out _ _ _ h).elim) (Or.inl ⟨by rfl, by rintro V h0; go_simp⟩) hS ?_
  try simp only [Act.put, sA, sB, sC]
  refine tkD (i := 2) (v := .int .i64 a) (some 19) rfl rfl (by kernel_rfl) (fun c a w h => (HP9.out _ _ _ h).elim) (Or.inl ⟨by rfl, by rintro V ⟨h0, h1⟩; go_simp⟩) hS ?_
  try simp only [Act.put, sA, sB, sC]
  refine tkD (i := 3) (v := .pointer (some ⟨f, 1, none⟩)) (some 20) rfl rfl (by kernel_rfl) (fun c a w h => (HP9.out _ _ _ h).elim) (Or.inl ⟨by rfl, by rintro V h0; go_simp⟩) hS ?_
  try simp only [Act.put, sA, sB, sC]
  refine tkD (i := 4) (v := .int .i64 c) (some 21) rfl rfl (by kernel_rfl) (fun c a w h => (HP9.out _ _ _ h).elim) (Or.inl ⟨by rfl, by rintro V ⟨h0, h1⟩; go_simp⟩) hS ?_
  try simp only [Act.put, sA, sB, sC]
  have k2 : KeepF (fun g => g = x) w1.drew (w1.drew.setRow x zR) := ⟨rfl, rfl, rfl, by simp, fun j hj hne => setRow_other w1.drew x j _ hne⟩
  have rx2 := setRow_heap w1.drew x _ zR _ _ H1.out.2.2.1
  have hS2 : (w1.drew.setRow x zR).cell? ⟨f, 0, none⟩ = some (.int .i64 a) ∧ (w1.drew.setRow x zR).cell? ⟨f, 1, none⟩ = some (.int .i64 c) := ⟨k2.cell hS.1 HF.out.1, k2.cell hS.2 HF.out.1⟩
  refine oneH (i := 5) (by kernel_rfl) ?_
  refine stepD (i := 5) rfl (by rfl) (fun K5 h5 => ?_)
  refine wp_store_rowN 25 (.tmp 0) (.tmp 17) rfl rfl x zR rfl rfl 25 rw0 H1.out.2.2.1 (by as_aux_lemma => kernel_rfl) (by rw [HX.out.2.1]; rfl) (by simp [Value.oneCell']) ?_
  refine h5.out _ _ hS2 ?_
  clear h5
  try simp only [Act.put, sA, sB, sC]
  generalize (w1.drew.setRow x zR) = w2 at *
  have ry2 := (k2.block y (gl H1.out.2.2.2.1) (fun e => HX.out.2.2.2.2.1 e.symm)).trans H1.out.2.2.2.1
  have rz2 := (k2.block z (gl H1.out.2.2.2.2) (fun e => HX.out.2.2.2.2.2.1 e.symm)).trans H1.out.2.2.2.2
  have cy : w2.cell? ⟨y, 0, none⟩ = some (.int .i64 y0) := (cell_of_row _ _ 0 _ _ _ ry2).trans rfl
  have fy : w2.frozen? ⟨y, 0, none⟩ = false := by simp [World.frozen?, ry2]
  have k3 : KeepF (fun g => g = y) w2 (w2.setCell ⟨y, 0, none⟩ (.int .i64 a)) := ⟨rfl, rfl, rfl, by simp, fun j hj hne => set_farV hne⟩
  have ry3 := heap_setCell_same w2 y 0 _ _ (.int .i64 a) ry2
  have hS3 : (w2.setCell ⟨y, 0, none⟩ (.int .i64 a)).cell? ⟨f, 0, none⟩ = some (.int .i64 a) ∧ (w2.setCell ⟨y, 0, none⟩ (.int .i64 a)).cell? ⟨f, 1, none⟩ = some (.int .i64 c) := ⟨k3.cell hS2.1 HF.out.2.1, k3.cell hS2.2 HF.out.2.1⟩
  refine oneH (i := 6) (by kernel_rfl) ?_
  refine stepD (i := 6) rfl (by rfl) (fun K5 h5 => ?_)
  go_simp
  change K5 _ (w2.setCell ⟨y, 0, none⟩ (.int .i64 a))
  refine h5.out _ _ hS3 ?_
  clear h5
  try simp only [Act.put, sA, sB, sC]
  generalize (w2.setCell ⟨y, 0, none⟩ (.int .i64 a)) = w3 at *
  have rz3 := (k3.block z (gl rz2) (fun e => HX.out.2.2.2.2.2.2 e.symm)).trans rz2
  have cz : w3.cell? ⟨z, 0, none⟩ = some (.int .i64 z0) := (cell_of_row _ _ 0 _ _ _ rz3).trans rfl
  have fz : w3.frozen? ⟨z, 0, none⟩ = false := by simp [World.frozen?, rz3]
  have k4 : KeepF (fun g => g = z) w3 (w3.setCell ⟨z, 0, none⟩ (.int .i64 c)) := ⟨rfl, rfl, rfl, by simp, fun j hj hne => set_farV hne⟩
  have rz4 := heap_setCell_same w3 z 0 _ _ (.int .i64 c) rz3
  have hS4 : (w3.setCell ⟨z, 0, none⟩ (.int .i64 c)).cell? ⟨f, 0, none⟩ = some (.int .i64 a) ∧ (w3.setCell ⟨z, 0, none⟩ (.int .i64 c)).cell? ⟨f, 1, none⟩ = some (.int .i64 c) := ⟨k4.cell hS3.1 HF.out.2.2, k4.cell hS3.2 HF.out.2.2⟩
  refine oneH (i := 7) (by kernel_rfl) ?_
  refine stepD (i := 7) rfl (by rfl) (fun K5 h5 => ?_)
  go_simp
  change K5 _ (w3.setCell ⟨z, 0, none⟩ (.int .i64 c))
  refine h5.out _ _ hS4 ?_
  clear h5
  try simp only [Act.put, sA, sB, sC]
  generalize (w3.setCell ⟨z, 0, none⟩ (.int .i64 c)) = w4 at *
  refine wpAnyH_done (by kernel_rfl) ?_ _
  have HT := Lib.hid (show Took w w4 x y z a c from ⟨(KeepF.of_below H1.out.1).trans ((KeepF.of_below (bdrew (Below.refl _ _))).trans ((k2.wide (fun j h => .inl h)).trans ((k3.wide (fun j h => .inr (.inl h))).trans (k4.wide (fun j h => .inr (.inr h)))))), (k4.block x (by have := (gl rx2); have := k3.size; omega) HX.out.2.2.2.2.2.1).trans ((k3.block x (gl rx2) HX.out.2.2.2.2.1).trans rx2), k4.cell ((cell_of_row _ _ 0 _ _ _ ry3).trans rfl) HX.out.2.2.2.2.2.2, (cell_of_row _ _ 0 _ _ _ rz4).trans rfl⟩)
  clear k2 k3 k4 rx2 ry2 ry3 rz2 rz3 rz4 cy cz fy fz hS hS2 hS3 hS4
  refine HQ9.out _ _ ?_
  cases c₀
  simp_all [bodyPostS, results, Tryd.results20]
  exact HT.out
end Go.Proofs.YtjipennigjlklaaDoor
