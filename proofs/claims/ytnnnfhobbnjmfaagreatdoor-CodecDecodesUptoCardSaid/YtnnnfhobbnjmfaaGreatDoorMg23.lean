/-
  Lemmas on the codec. Conditions: as each says.
-/
import Derived.Test.YtnnnfhobbnjmfaaGreatDoorMg22
import Derived.Defers
import Derived.Recover
import Derived.Test.YtnnnfhobbnjmfaaGreatDoorMg18
namespace Go.Proofs.YtnnnfhobbnjmfaaGreatDoor
open Go.RowKit Go.Proofs.Tryz
set_option linter.all false
set_option maxHeartbeats 40000000
set_option maxRecDepth 20000

theorem text_le {c : Nat} {s : List UInt8} {v : V} {k : Nat} (h : textR c s = .ok (v, k)) : k <= s.length := by
 unfold textR at h
 by_cases a : s.length < wOf c
 ·rw [if_pos a] at h; cases h
 rw [if_neg a] at h
 by_cases b : s.length < wOf c + beVal (s.take (wOf c))
 ·rw [if_pos b] at h; cases h
 rw [if_neg b] at h
 split at h
 ·cases h
 ·cases h; omega
theorem raw_le {c : Nat} {s : List UInt8} {v : V} {k : Nat} (h : rawR c s = .ok (v, k)) : k <= s.length := by
 unfold rawR at h
 by_cases a : s.length < 16
 ·rw [if_pos a] at h; cases h
 rw [if_neg a] at h
 cases h
 omega
theorem dat_le {rv : List UInt8 -> Res} {rd : Nat -> List UInt8 -> Res} {c : Nat} {s : List UInt8} {v : V} {k : Nat} (h : datR rv rd c s = .ok (v, k)) : k <= s.length := by
 unfold datR at h
 by_cases a : c / 16 = 9
 ·rw [if_pos a] at h; exact raw_le h
 rw [if_neg a] at h
 by_cases a : c / 16 = 10 ∨ c / 16 = 11
 ·rw [if_pos a] at h; exact text_le h
 rw [if_neg a] at h
 by_cases a : c / 16 = 12 ∨ c / 16 = 13
 ·rw [if_pos a] at h
  obtain ⟨m, _, h1, _, _, h2, _⟩ := within_inv h
  obtain ⟨_, _, _, _, _, rfl, _⟩ := span_inv h2
  exact h1
 rw [if_neg a] at h
 by_cases a : c / 16 = 14 ∨ c / 16 = 15
 ·rw [if_pos a] at h
  obtain ⟨m, _, h1, _, _, h2, _⟩ := within_inv h
  obtain ⟨_, _, _, _, _, _, _, _, rfl⟩ := arr_inv h2
  exact h1
 rw [if_neg a] at h
 obtain ⟨h1, rfl, _⟩ := fixed_inv h
 exact h1
theorem rdD_le : ∀ (n c : Nat) (s : List UInt8) (v : V) (k : Nat), rdD n c s = .ok (v, k) -> k <= s.length
 | 0, c, s, v, k, h => by cases h
 | n + 1, c, s, v, k, h => by rw [rdD_succ] at h; exact dat_le h
theorem rdV_le : ∀ (n : Nat) (s : List UInt8) (v : V) (k : Nat), rdV n s = .ok (v, k) -> k <= s.length
 | 0, [], v, k, h => by cases h
 | 0, x :: t, v, k, h => by
  have h2 : deepR (x :: t) = .ok (v, k) := h
  rw [deepR_cons] at h2
  split at h2 <;> cases h2
 | n + 1, [], v, k, h => by cases h
 | n + 1, x :: t, v, k, h => by
  rw [rdV_succ, valR_cons] at h
  by_cases a : kindC x.toNat < 0
  ·rw [if_pos a] at h; cases h
  rw [if_neg a] at h
  by_cases a : x.toNat = 0
  ·rw [if_pos a] at h
   unfold pairR at h
   cases h1 : rdV n t with
   | error y => rw [h1] at h; cases h
   | ok z =>
    obtain ⟨d, k1⟩ := z
    rw [h1] at h
    simp only at h
    cases h2 : rdV n (t.drop k1) with
    | error y => rw [h2] at h; cases h
    | ok z2 =>
     obtain ⟨v2, k2⟩ := z2
     rw [h2] at h
     simp only [Except.ok.injEq, Prod.mk.injEq] at h
     obtain ⟨_, rfl⟩ := h
     have q1 := rdV_le n t d k1 h1
     have q2 := rdV_le n _ v2 k2 h2
     rw [List.length_drop] at q2
     rw [List.length_cons]
     omega
  rw [if_neg a] at h
  by_cases a : x.toNat / 16 = 4
  ·rw [if_pos a] at h
   simp only [Except.ok.injEq, Prod.mk.injEq] at h
   obtain ⟨_, rfl⟩ := h
   rw [List.length_cons]
   omega
  rw [if_neg a] at h
  cases h1 : datR (rdV n) (rdD n) x.toNat t with
  | error y => rw [h1] at h; cases h
  | ok z =>
   obtain ⟨v2, k2⟩ := z
   rw [h1] at h
   simp only [Except.ok.injEq, Prod.mk.injEq] at h
   obtain ⟨_, rfl⟩ := h
   have := dat_le h1
   rw [List.length_cons]
   omega
theorem good_okk {n : Nat} (hn : n <= 32) (s : List UInt8) (v : V) (k : Nat) (hs : s.length <= 4294967295) (h : rdV n s = .ok (v, k)) : k <= s.length ∧ Okk v := by
 have g := (both_good n).2 s v k (by unfold maxLen; omega) h
 have h1 := g.le
 have h2 := g.wt
 have h3 := g.len
 have h4 := g.dep
 exact ⟨h1, g.right, by omega, by omega, by omega⟩
theorem sOf_nil {B : List UInt8} {a e : Nat} (h : ¬ a < e) : sOf B a e = [] := by
 unfold sOf
 rw [show e - a = 0 by omega]
 rfl
theorem sOf_cons {B : List UInt8} {a e : Nat} (h : a < e) (h2 : e <= B.length) : sOf B a e = B.getD a 0 :: sOf B (a + 1) e := by
 have h3 : a < B.length := by omega
 unfold sOf
 rw [List.drop_eq_getElem_cons h3, show e - a = (e - (a + 1)) + 1 by omega, List.take_succ_cons, List.getD_eq_getElem?_getD, List.getElem?_eq_getElem h3]
 rfl
theorem rdata_any (n0 : Nat) (hn0 : n0 <= 31) (d : Int) (hd : d = 32 - (n0 : Int)) (hV : ValC (rdV n0) (d + 1)) (hD : 1 <= n0 -> DatT (rdD n0) (d + 1)) : DatT (rdD (n0 + 1)) d := by
 intro c hc w r p n cp at_ en sz own B h
 rw [rdD_succ]
 have hwd : IntKind.i64.wrap (d + 1) = d + 1 := IntWalk.i64_in _ (by omega)
 have hl : (sOf B at_ en).length = en - at_ := sOf_len (by rw [h.len]; exact h.hen)
 have hae := h.ha
 have hde : (decide (32 < d + 1) = true ∧ ∀ c s, rdD n0 c s = .error (.pl 0 (ec 26))) ∨ (decide (32 < d + 1) = false ∧ DatT (rdD n0) (d + 1)) := by
  cases n0 with
  | zero => exact .inl ⟨by simp; omega, fun c s => rfl⟩
  | succ m => exact .inr ⟨by simp; omega, hD (by omega)⟩
 unfold datR
 rcases datC_mem hc with rfl | rfl | rfl | rfl | rfl | rfl | rfl | rfl | rfl | rfl | rfl | rfl | rfl | rfl | rfl | rfl | rfl | rfl | rfl | rfl | rfl | rfl | rfl | rfl | rfl | rfl | rfl | rfl | rfl | rfl | rfl | rfl | rfl
 ·rw [if_neg (by decide), if_neg (by decide), if_neg (by decide), if_neg (by decide)]
  exact data_fixed 86 own d _ w r p n cp at_ en sz own B h (fun W hW => fixed_any 86 (by decide) (by decide) (by decide) W r p n cp at_ en sz own B hW) (by decide)
 ·rw [if_neg (by decide), if_neg (by decide), if_neg (by decide), if_neg (by decide)]
  exact data_fixed 80 own d _ w r p n cp at_ en sz own B h (fun W hW => fixed_any 80 (by decide) (by decide) (by decide) W r p n cp at_ en sz own B hW) (by decide)
 ·rw [if_neg (by decide), if_neg (by decide), if_neg (by decide), if_neg (by decide)]
  exact data_fixed 96 own d _ w r p n cp at_ en sz own B h (fun W hW => fixed_any 96 (by decide) (by decide) (by decide) W r p n cp at_ en sz own B hW) (by decide)
 ·rw [if_neg (by decide), if_neg (by decide), if_neg (by decide), if_neg (by decide)]
  exact data_fixed 81 own d _ w r p n cp at_ en sz own B h (fun W hW => fixed_any 81 (by decide) (by decide) (by decide) W r p n cp at_ en sz own B hW) (by decide)
 ·rw [if_neg (by decide), if_neg (by decide), if_neg (by decide), if_neg (by decide)]
  exact data_fixed 97 own d _ w r p n cp at_ en sz own B h (fun W hW => fixed_any 97 (by decide) (by decide) (by decide) W r p n cp at_ en sz own B hW) (by decide)
 ·rw [if_neg (by decide), if_neg (by decide), if_neg (by decide), if_neg (by decide)]
  exact data_fixed 114 own d _ w r p n cp at_ en sz own B h (fun W hW => fixed_any 114 (by decide) (by decide) (by decide) W r p n cp at_ en sz own B hW) (by decide)
 ·rw [if_neg (by decide), if_neg (by decide), if_neg (by decide), if_neg (by decide)]
  exact data_fixed 130 own d _ w r p n cp at_ en sz own B h (fun W hW => fixed_any 130 (by decide) (by decide) (by decide) W r p n cp at_ en sz own B hW) (by decide)
 ·rw [if_neg (by decide), if_neg (by decide), if_neg (by decide), if_neg (by decide)]
  exact data_fixed 116 own d _ w r p n cp at_ en sz own B h (fun W hW => fixed_any 116 (by decide) (by decide) (by decide) W r p n cp at_ en sz own B hW) (by decide)
 ·rw [if_neg (by decide), if_neg (by decide), if_neg (by decide), if_neg (by decide)]
  exact data_fixed 132 own d _ w r p n cp at_ en sz own B h (fun W hW => fixed_any 132 (by decide) (by decide) (by decide) W r p n cp at_ en sz own B hW) (by decide)
 ·rw [if_neg (by decide), if_neg (by decide), if_neg (by decide), if_neg (by decide)]
  exact data_fixed 115 own d _ w r p n cp at_ en sz own B h (fun W hW => fixed_any 115 (by decide) (by decide) (by decide) W r p n cp at_ en sz own B hW) (by decide)
 ·rw [if_neg (by decide), if_neg (by decide), if_neg (by decide), if_neg (by decide)]
  exact data_fixed 131 own d _ w r p n cp at_ en sz own B h (fun W hW => fixed_any 131 (by decide) (by decide) (by decide) W r p n cp at_ en sz own B hW) (by decide)
 ·rw [if_neg (by decide), if_neg (by decide), if_neg (by decide), if_neg (by decide)]
  exact data_fixed 82 own d _ w r p n cp at_ en sz own B h (fun W hW => fixed_any 82 (by decide) (by decide) (by decide) W r p n cp at_ en sz own B hW) (by decide)
 ·rw [if_neg (by decide), if_neg (by decide), if_neg (by decide), if_neg (by decide)]
  exact data_fixed 112 own d _ w r p n cp at_ en sz own B h (fun W hW => fixed_any 112 (by decide) (by decide) (by decide) W r p n cp at_ en sz own B hW) (by decide)
 ·rw [if_neg (by decide), if_neg (by decide), if_neg (by decide), if_neg (by decide)]
  exact data_fixed 83 own d _ w r p n cp at_ en sz own B h (fun W hW => fixed_any 83 (by decide) (by decide) (by decide) W r p n cp at_ en sz own B hW) (by decide)
 ·rw [if_neg (by decide), if_neg (by decide), if_neg (by decide), if_neg (by decide)]
  exact data_fixed 128 own d _ w r p n cp at_ en sz own B h (fun W hW => fixed_any 128 (by decide) (by decide) (by decide) W r p n cp at_ en sz own B hW) (by decide)
 ·rw [if_neg (by decide), if_neg (by decide), if_neg (by decide), if_neg (by decide)]
  exact data_fixed 84 own d _ w r p n cp at_ en sz own B h (fun W hW => fixed_any 84 (by decide) (by decide) (by decide) W r p n cp at_ en sz own B hW) (by decide)
 ·rw [if_neg (by decide), if_neg (by decide), if_neg (by decide), if_neg (by decide)]
  exact data_fixed 113 own d _ w r p n cp at_ en sz own B h (fun W hW => fixed_any 113 (by decide) (by decide) (by decide) W r p n cp at_ en sz own B hW) (by decide)
 ·rw [if_neg (by decide), if_neg (by decide), if_neg (by decide), if_neg (by decide)]
  exact data_fixed 85 own d _ w r p n cp at_ en sz own B h (fun W hW => fixed_any 85 (by decide) (by decide) (by decide) W r p n cp at_ en sz own B hW) (by decide)
 ·rw [if_neg (by decide), if_neg (by decide), if_neg (by decide), if_neg (by decide)]
  exact data_fixed 129 own d _ w r p n cp at_ en sz own B h (fun W hW => fixed_any 129 (by decide) (by decide) (by decide) W r p n cp at_ en sz own B hW) (by decide)
 ·rw [if_pos (by decide)]
  unfold rawR
  by_cases hs : en < at_ + 16
  ·rw [if_pos (by omega)]
   exact (raw_94_short own d w r p n cp at_ en sz own B h hs).mono (fun e w' q => q)
  ·rw [if_neg (by omega), sOf_take (by omega)]
   refine (raw_94 own d w r p n cp at_ en sz own B h (by omega)).mono ?_
   rintro e w' ⟨rfl, hmv⟩
   exact RdTo.of_text (K := 14) ⟨by decide, by decide⟩ (by show ((B.drop at_).take 16).toArray.size <= maxLen; simp [maxLen]; omega) hmv
 ·rw [if_pos (by decide)]
  unfold rawR
  by_cases hs : en < at_ + 16
  ·rw [if_pos (by omega)]
   exact (raw_98_short own d w r p n cp at_ en sz own B h hs).mono (fun e w' q => q)
  ·rw [if_neg (by omega), sOf_take (by omega)]
   refine (raw_98 own d w r p n cp at_ en sz own B h (by omega)).mono ?_
   rintro e w' ⟨rfl, hmv⟩
   exact RdTo.of_text (K := 17) ⟨by decide, by decide⟩ (by show ((B.drop at_).take 16).toArray.size <= maxLen; simp [maxLen]; omega) hmv
 ·rw [if_neg (by decide), if_pos (by decide)]
  exact data_ta0 own d _ w r p n cp at_ en sz own B h (fun W hW => text_any 160 (by decide) (by decide) W r p n cp at_ en sz own B hW)
 ·rw [if_neg (by decide), if_pos (by decide)]
  exact data_tb0 own d _ w r p n cp at_ en sz own B h (fun W hW => text_any 176 (by decide) (by decide) W r p n cp at_ en sz own B hW)
 ·rw [if_neg (by decide), if_pos (by decide)]
  exact data_ta1 own d _ w r p n cp at_ en sz own B h (fun W hW => text_any 161 (by decide) (by decide) W r p n cp at_ en sz own B hW)
 ·rw [if_neg (by decide), if_pos (by decide)]
  exact data_tb1 own d _ w r p n cp at_ en sz own B h (fun W hW => text_any 177 (by decide) (by decide) W r p n cp at_ en sz own B hW)
 ·rw [if_neg (by decide), if_pos (by decide)]
  exact data_ta3 own d _ w r p n cp at_ en sz own B h (fun W hW => text_any 163 (by decide) (by decide) W r p n cp at_ en sz own B hW)
 ·rw [if_neg (by decide), if_pos (by decide)]
  exact data_tb3 own d _ w r p n cp at_ en sz own B h (fun W hW => text_any 179 (by decide) (by decide) W r p n cp at_ en sz own B hW)
 ·rw [if_neg (by decide), if_neg (by decide), if_pos (by decide)]
  exact data_sc0 own d _ w r p n cp at_ en sz own B h (fun W hW => span_any 192 (by decide) (by decide) d hwd (rdV n0) (rdV_le n0) (good_okk (by omega)) hV W r p n cp at_ en sz own B hW)
 ·rw [if_neg (by decide), if_neg (by decide), if_pos (by decide)]
  exact data_sd0 own d _ w r p n cp at_ en sz own B h (fun W hW => span_any 208 (by decide) (by decide) d hwd (rdV n0) (rdV_le n0) (good_okk (by omega)) hV W r p n cp at_ en sz own B hW)
 ·rw [if_neg (by decide), if_neg (by decide), if_pos (by decide)]
  exact data_sc1 own d _ w r p n cp at_ en sz own B h (fun W hW => span_any 193 (by decide) (by decide) d hwd (rdV n0) (rdV_le n0) (good_okk (by omega)) hV W r p n cp at_ en sz own B hW)
 ·rw [if_neg (by decide), if_neg (by decide), if_pos (by decide)]
  exact data_sd1 own d _ w r p n cp at_ en sz own B h (fun W hW => span_any 209 (by decide) (by decide) d hwd (rdV n0) (rdV_le n0) (good_okk (by omega)) hV W r p n cp at_ en sz own B hW)
 ·rw [if_neg (by decide), if_neg (by decide), if_neg (by decide), if_pos (by decide)]
  exact data_ae0 own d _ w r p n cp at_ en sz own B h (fun W hW => array_any 224 (by decide) (by decide) d hwd (rdD n0) (rdD_le n0) hde W r p n cp at_ en sz own B hW)
 rw [if_neg (by decide), if_neg (by decide), if_neg (by decide), if_pos (by decide)]
 exact data_af0 own d _ w r p n cp at_ en sz own B h (fun W hW => array_any 240 (by decide) (by decide) d hwd (rdD n0) (rdD_le n0) hde W r p n cp at_ en sz own B hW)
theorem value_zero : ValC (rdV 0) 33 := by
 intro w r p n cp at_ en sz own B h
 have hen := h.hen
 have hBl := h.len
 by_cases hat : at_ < en
 ·rw [sOf_cons hat (by omega)]
  rw [show rdV 0 = deepR from rfl, deepR_cons]
  by_cases hk : kindC (B.getD at_ 0).toNat < 0
  ·rw [if_pos hk]
   exact value_code _ _ 33 rfl w r p n cp at_ en sz own B h hat rfl (decide_eq_true hk)
  ·rw [if_neg hk]
   exact value_deep _ _ 33 rfl w r p n cp at_ en sz own B h hat rfl (decide_eq_false hk) (by decide)
 rw [sOf_nil hat]
 exact value_short 33 w r p n cp at_ en sz own B h hat
theorem value_succ (n0 : Nat) (hn0 : n0 <= 31) (d : Int) (hd : d = 32 - (n0 : Int)) (hV : ValC (rdV n0) (d + 1)) (hD : DatT (rdD (n0 + 1)) d) : ValC (rdV (n0 + 1)) d := by
 intro w r p n cp at_ en sz own B h
 have hen := h.hen
 have hBl := h.len
 have hd2 : decide (32 < d) = false := by simp; omega
 by_cases hat : at_ < en
 ·rw [sOf_cons hat (by omega), rdV_succ, valR_cons]
  obtain ⟨c, hcd⟩ : ∃ c, (B.getD at_ 0).toNat = c := ⟨_, rfl⟩
  rw [hcd]
  by_cases hk : kindC c < 0
  ·rw [if_pos hk]
   exact value_code c _ d rfl w r p n cp at_ en sz own B h hat hcd (by simp [hk])
  rw [if_neg hk]
  by_cases hc0 : c = 0
  ·rw [if_pos hc0]
   subst hc0
   exact value_00 d w r p n cp at_ en sz own B h hat hcd hd2 (IntWalk.i64_in _ (by omega)) (rdV n0) (rdV_le n0) (fun a2 o2 W hW => hV W r p n cp a2 en sz o2 B hW)
  rw [if_neg hc0]
  by_cases hc4 : c / 16 = 4
  ·rw [if_pos hc4]
   rcases lone_mem (by omega) hc4 with rfl | rfl | rfl | rfl | rfl | rfl
   ·refine (value_40 _ rfl d w r p n cp at_ en sz own B h hat hcd hd2).mono ?_
    rintro e w' ⟨rfl, hmv⟩
    exact RdTo.of_ok (K := 0) (N := 0) (k := 1) ⟨by decide, by decide⟩ ⟨by decide, by decide⟩ hmv
   ·refine (value_41 _ rfl d w r p n cp at_ en sz own B h hat hcd hd2).mono ?_
    rintro e w' ⟨rfl, hmv⟩
    exact RdTo.of_ok (K := 1) (N := 1) (k := 1) ⟨by decide, by decide⟩ ⟨by decide, by decide⟩ hmv
   ·refine (value_42 _ rfl d w r p n cp at_ en sz own B h hat hcd hd2).mono ?_
    rintro e w' ⟨rfl, hmv⟩
    exact RdTo.of_ok (K := 1) (N := 0) (k := 1) ⟨by decide, by decide⟩ ⟨by decide, by decide⟩ hmv
   ·refine (value_43 _ rfl d w r p n cp at_ en sz own B h hat hcd hd2).mono ?_
    rintro e w' ⟨rfl, hmv⟩
    exact RdTo.of_ok (K := 4) (N := 0) (k := 1) ⟨by decide, by decide⟩ ⟨by decide, by decide⟩ hmv
   ·refine (value_44 _ rfl d w r p n cp at_ en sz own B h hat hcd hd2).mono ?_
    rintro e w' ⟨rfl, hmv⟩
    exact RdTo.of_ok (K := 5) (N := 0) (k := 1) ⟨by decide, by decide⟩ ⟨by decide, by decide⟩ hmv
   ·refine (value_45 _ rfl d w r p n cp at_ en sz own B h hat hcd hd2).mono ?_
    rintro e w' ⟨rfl, hmv⟩
    exact RdTo.of_ok (K := 21) (N := 0) (k := 1) ⟨by decide, by decide⟩ ⟨by decide, by decide⟩ hmv
  rw [if_neg hc4]
  have hx := value_data c _ d rfl w r p n cp at_ en sz own B h hat hcd (by simp; omega) hd2 ⟨hc0, hc4⟩ (rdD (n0 + 1) c (sOf B (at_ + 1) en)) (fun W hW => hD c ⟨by omega, hc0, hc4⟩ W r p n cp (at_ + 1) en sz (at_ : Nat) B hW)
  rw [rdD_succ] at hx
  exact hx
 rw [sOf_nil hat]
 exact value_short d w r p n cp at_ en sz own B h hat
theorem both_levels : ∀ n0 : Nat, n0 <= 32 -> ValC (rdV n0) (33 - (n0 : Int)) ∧ (1 <= n0 -> DatT (rdD n0) (33 - (n0 : Int)))
 | 0, _ => ⟨value_zero, fun h => absurd h (by omega)⟩
 | n + 1, hn => by
  obtain ⟨h1, h2⟩ := both_levels n (by omega)
  have e : (33 : Int) - ((n + 1 : Nat) : Int) = 32 - (n : Int) := by omega
  have e2 : (33 : Int) - (n : Int) = (32 - (n : Int)) + 1 := by omega
  rw [e2] at h1 h2
  rw [e]
  have h3 := rdata_any n (by omega) _ rfl h1 h2
  exact ⟨value_succ n (by omega) _ rfl h1 h3, fun _ => h3⟩
theorem value_any : ValC (rdV 32) 1 := by
 have := (both_levels 32 (by omega)).1
 exact this

attribute [local go_sem] Oper.semAt_some

theorem wp_hide {P : Program} {Q : Exit -> Act -> World -> Prop} {c : Code} {a : Act} {w : World} (h : ∀ Q' : Exit -> Act -> World -> Prop, Hid (∀ a w, Q .normal a w -> Q' .normal a w) -> Hid (∀ c (a : Act) w, Q' (.panic c) a w -> False) -> c.wp P Q' a w) : c.wp P Q a w :=
 wp_mono (h (fun x a w => match x with | .normal => Q .normal a w | _ => False) (zH (fun _ _ h => h)) (zH (fun _ _ _ h => h))) (fun e a w hh => by cases e <;> first | exact hh | exact hh.elim)
theorem catch_idle (a b c : Value) (w : World) :
  CallsD prog 37 #[a, b, c] .returning w fun e u' w' => e = .returned (.tuple #[]) ∧ u' = .returning ∧ w' = w := by
 refine callsD_of_wpS func37 rfl fun c₀ cs hu => ?_
 apply wpS_seq
 apply wpS_region
 simp [wpOpsS, go_sem, recoverD, hu, ntmps37, Exit.thenS]
 apply wpS_seq
 apply wpS_region
 simp [wpOpsS, go_sem, Exit.thenS]
 refine wpS_cond (t := false) (by simp [Act.eval, Array.replicate]) ?_
 simp only [Bool.false_eq_true, if_false]
 refine wpS_of_wp (wp_skip ?_)
 cases c₀
 simp_all [bodyPostS, results, results37]
structure Took (w w' : World) (x y z : Nat) (a c : Int) : Prop where
 keep : KeepF (fun g => g = x ∨ g = y ∨ g = z) w w'
 rx : w'.heap[x]? = some (.cells zR 25 (0, 0))
 ry : w'.cell? ⟨y, 0, none⟩ = some (.int .i64 a)
 rz : w'.cell? ⟨z, 0, none⟩ = some (.int .i64 c)
theorem catch_fault (x y z : Nat) (a c : Int) (rw0 : Array Value) (y0 z0 : Int) (hne : x ≠ y ∧ x ≠ z ∧ y ≠ z) (w : World) (hx : w.heap[x]? = some (.cells rw0 25 (0, 0))) (hrs : rw0.size = 5)
  (hy : w.heap[y]? = some (.cells #[.int .i64 y0] 3 (0, 0))) (hz : w.heap[z]? = some (.cells #[.int .i64 z0] 29 (0, 0))) :
  CallsD prog 37 #[.pointer (some ⟨x, 0, none⟩), .pointer (some ⟨y, 0, none⟩), .pointer (some ⟨z, 0, none⟩)] (.panicking [{ v := .iface 68 (.agg #[.int .i64 a, .int .i64 c]), recovered := false }]) w fun e u' w' =>
   e = .returned (.tuple #[]) ∧ u' = .panicking [{ v := .iface 68 (.agg #[.int .i64 a, .int .i64 c]), recovered := true }] ∧ Took w w' x y z a c := by
 refine callsD_of_wpS func37 rfl fun c₀ cs hu => ?_
 apply wpS_seq
 apply wpS_region
 simp [wpOpsS, go_sem, recoverD, hu, ntmps37, Exit.thenS]
 apply wpS_seq
 apply wpS_region
 simp [wpOpsS, go_sem, Exit.thenS]
 refine wpS_cond (t := true) (by simp [Act.eval, Array.replicate]) ?_
 simp only [if_true]
 refine wpS_of_wp ?_
 refine wp_hide (fun Q9 HQ9 HP9 => ?_)
 have hrep : Array.replicate 19 undef = #[undef, undef, undef, undef, undef, undef, undef, undef, undef, undef, undef, undef, undef, undef, undef, undef, undef, undef, undef] := by kernel_rfl
 simp only [hrep, List.setIfInBounds_toArray, List.set_cons_zero, List.set_cons_succ, List.append_toArray, List.cons_append, List.nil_append]
 have HX := zH (And.intro hx (And.intro hrs (And.intro hy (And.intro hz hne))))
 clear hx hrs hy hz hne hu hrep
 have hta : ∀ w : World, (Instr.typeAssert (.iface 68 (.agg #[.int .i64 a, .int .i64 c])) 20 68 true).run prog w = .ok (.tuple #[.agg #[.int .i64 a, .int .i64 c], .bool true]) w := fun w => by kernel_rfl
 go_upto_region 5 with (refine wpList_store_rowTo rfl 68 (.tmp 4) (.tmp 12) rfl rfl w.heap.size #[.int .i64 a, .int .i64 c] rfl rfl 68 #[.int .i64 0, .int .i64 0] (zN _ _) (by as_aux_lemma => kernel_rfl) (by as_aux_lemma => kernel_rfl) (by simp [Value.oneCell']) ?_)
 have hb1 : Below w.heap.size w ((w.alloc (.cells #[.int .i64 0, .int .i64 0] 68)).setRow w.heap.size #[.int .i64 a, .int .i64 c]) := below_setRow ((Below.refl _ _).alloc (Nat.le_refl _) _) (Nat.le_refl _) _
 have of1 := setRow_heap (w.alloc (.cells #[.int .i64 0, .int .i64 0] 68)) w.heap.size _ #[.int .i64 a, .int .i64 c] _ _ (zN w _)
 change Code.wp _ _ _ _ ((w.alloc (.cells #[.int .i64 0, .int .i64 0] 68)).setRow w.heap.size #[.int .i64 a, .int .i64 c])
 generalize ((w.alloc (.cells #[.int .i64 0, .int .i64 0] 68)).setRow w.heap.size #[.int .i64 a, .int .i64 c]) = w1 at *
 obtain ⟨f, hf⟩ : ∃ f, w.heap.size = f := ⟨_, rfl⟩
 rw [hf] at of1 ⊢
 have x1 := (hb1.block x (gl HX.out.1)).trans HX.out.1
 have y1 := (hb1.block y (gl HX.out.2.2.1)).trans HX.out.2.2.1
 have z1 := (hb1.block z (gl HX.out.2.2.2.1)).trans HX.out.2.2.2.1
 have lx := (gl HX.out.1)
 have ly := (gl HX.out.2.2.1)
 have lz := (gl HX.out.2.2.2.1)
 have H1 := zH (And.intro hb1 (And.intro of1 (And.intro x1 (And.intro y1 z1))))
 have HF := zH (show f ≠ x ∧ f ≠ y ∧ f ≠ z from ⟨by omega, by omega, by omega⟩)
 clear hb1 of1 x1 y1 z1 lx ly lz hf hta
 refine wp_region_heldN (fun V => V.cell? ⟨f, 0, none⟩ = some (.int .i64 a) ∧ V.cell? ⟨f, 1, none⟩ = some (.int .i64 c)) 8 rfl (by kernel_rfl) ?_
 have hS : w1.drew.cell? ⟨f, 0, none⟩ = some (.int .i64 a) ∧ w1.drew.cell? ⟨f, 1, none⟩ = some (.int .i64 c) := ⟨(cell_of_row w1 _ 0 _ _ _ H1.out.2.1).trans rfl, (cell_of_row w1 _ 1 _ _ _ H1.out.2.1).trans rfl⟩
 refine tkD (i := 0) (v := .agg zR) (some 17) rfl rfl (by kernel_rfl) (fun c a w h => (HP9.out _ _ _ h).elim) (Or.inl ⟨by rfl, by rintro V h0; go_simp⟩) hS ?_
 try simp only [Act.put, sA, sB, sC]
 refine tkD (i := 1) (v := .pointer (some ⟨f, 0, none⟩)) (some 18) rfl rfl (by kernel_rfl) (fun c a w h => (HP9.out _ _ _ h).elim) (Or.inl ⟨by rfl, by rintro V h0; go_simp⟩) hS ?_
 try simp only [Act.put, sA, sB, sC]
 refine tkD (i := 2) (v := .int .i64 a) (some 19) rfl rfl (by kernel_rfl) (fun c a w h => (HP9.out _ _ _ h).elim) (Or.inl ⟨by rfl, by rintro V ⟨h0, h1⟩; go_simp⟩) hS ?_
 try simp only [Act.put, sA, sB, sC]
 refine tkD (i := 3) (v := .pointer (some ⟨f, 1, none⟩)) (some 20) rfl rfl (by kernel_rfl) (fun c a w h => (HP9.out _ _ _ h).elim) (Or.inl ⟨by rfl, by rintro V h0; go_simp⟩) hS ?_
 try simp only [Act.put, sA, sB, sC]
 refine tkD (i := 4) (v := .int .i64 c) (some 21) rfl rfl (by kernel_rfl) (fun c a w h => (HP9.out _ _ _ h).elim) (Or.inl ⟨by rfl, by rintro V ⟨h0, h1⟩; go_simp⟩) hS ?_
 try simp only [Act.put, sA, sB, sC]
 have k2 : KeepF (fun g => g = x) w1.drew (w1.drew.setRow x zR) := ⟨rfl, rfl, rfl, by simp, fun j hj hne => setRow_other w1.drew x j _ hne⟩
 have rx2 := setRow_heap w1.drew x _ zR _ _ H1.out.2.2.1
 have hS2 : (w1.drew.setRow x zR).cell? ⟨f, 0, none⟩ = some (.int .i64 a) ∧ (w1.drew.setRow x zR).cell? ⟨f, 1, none⟩ = some (.int .i64 c) := ⟨k2.cell hS.1 HF.out.1, k2.cell hS.2 HF.out.1⟩
 refine oneH (i := 5) (by kernel_rfl) ?_
 refine stepD (i := 5) rfl (by rfl) (fun K5 h5 => ?_)
 refine wp_store_rowN 25 (.tmp 0) (.tmp 17) rfl rfl x zR rfl rfl 25 rw0 H1.out.2.2.1 (by as_aux_lemma => kernel_rfl) (by rw [HX.out.2.1]; rfl) (by simp [Value.oneCell']) ?_
 refine h5.out _ _ hS2 ?_
 clear h5
 try simp only [Act.put, sA, sB, sC]
 generalize (w1.drew.setRow x zR) = w2 at *
 have ry2 := (k2.block y (gl H1.out.2.2.2.1) (fun e => HX.out.2.2.2.2.1 e.symm)).trans H1.out.2.2.2.1
 have rz2 := (k2.block z (gl H1.out.2.2.2.2) (fun e => HX.out.2.2.2.2.2.1 e.symm)).trans H1.out.2.2.2.2
 have cy : w2.cell? ⟨y, 0, none⟩ = some (.int .i64 y0) := (cell_of_row _ _ 0 _ _ _ ry2).trans rfl
 have fy : w2.frozen? ⟨y, 0, none⟩ = false := by simp [World.frozen?, ry2]
 have k3 : KeepF (fun g => g = y) w2 (w2.setCell ⟨y, 0, none⟩ (.int .i64 a)) := ⟨rfl, rfl, rfl, by simp, fun j hj hne => set_farV hne⟩
 have ry3 := heap_setCell_same w2 y 0 _ _ (.int .i64 a) ry2
 have hS3 : (w2.setCell ⟨y, 0, none⟩ (.int .i64 a)).cell? ⟨f, 0, none⟩ = some (.int .i64 a) ∧ (w2.setCell ⟨y, 0, none⟩ (.int .i64 a)).cell? ⟨f, 1, none⟩ = some (.int .i64 c) := ⟨k3.cell hS2.1 HF.out.2.1, k3.cell hS2.2 HF.out.2.1⟩
 refine oneH (i := 6) (by kernel_rfl) ?_
 refine stepD (i := 6) rfl (by rfl) (fun K5 h5 => ?_)
 go_simp
 change K5 _ (w2.setCell ⟨y, 0, none⟩ (.int .i64 a))
 refine h5.out _ _ hS3 ?_
 clear h5
 try simp only [Act.put, sA, sB, sC]
 generalize (w2.setCell ⟨y, 0, none⟩ (.int .i64 a)) = w3 at *
 have rz3 := (k3.block z (gl rz2) (fun e => HX.out.2.2.2.2.2.2 e.symm)).trans rz2
 have cz : w3.cell? ⟨z, 0, none⟩ = some (.int .i64 z0) := (cell_of_row _ _ 0 _ _ _ rz3).trans rfl
 have fz : w3.frozen? ⟨z, 0, none⟩ = false := by simp [World.frozen?, rz3]
 have k4 : KeepF (fun g => g = z) w3 (w3.setCell ⟨z, 0, none⟩ (.int .i64 c)) := ⟨rfl, rfl, rfl, by simp, fun j hj hne => set_farV hne⟩
 have rz4 := heap_setCell_same w3 z 0 _ _ (.int .i64 c) rz3
 have hS4 : (w3.setCell ⟨z, 0, none⟩ (.int .i64 c)).cell? ⟨f, 0, none⟩ = some (.int .i64 a) ∧ (w3.setCell ⟨z, 0, none⟩ (.int .i64 c)).cell? ⟨f, 1, none⟩ = some (.int .i64 c) := ⟨k4.cell hS3.1 HF.out.2.2, k4.cell hS3.2 HF.out.2.2⟩
 refine oneH (i := 7) (by kernel_rfl) ?_
 refine stepD (i := 7) rfl (by rfl) (fun K5 h5 => ?_)
 go_simp
 change K5 _ (w3.setCell ⟨z, 0, none⟩ (.int .i64 c))
 refine h5.out _ _ hS4 ?_
 clear h5
 try simp only [Act.put, sA, sB, sC]
 generalize (w3.setCell ⟨z, 0, none⟩ (.int .i64 c)) = w4 at *
 refine wpAnyH_done (by kernel_rfl) ?_ _
 have HT := zH (show Took w w4 x y z a c from ⟨(KeepF.of_below H1.out.1).trans ((KeepF.of_below (bdrew (Below.refl _ _))).trans ((k2.wide (fun j h => .inl h)).trans ((k3.wide (fun j h => .inr (.inl h))).trans (k4.wide (fun j h => .inr (.inr h)))))), (k4.block x (by have := (gl rx2); have := k3.size; omega) HX.out.2.2.2.2.2.1).trans ((k3.block x (gl rx2) HX.out.2.2.2.2.1).trans rx2), k4.cell ((cell_of_row _ _ 0 _ _ _ ry3).trans rfl) HX.out.2.2.2.2.2.2, (cell_of_row _ _ 0 _ _ _ rz4).trans rfl⟩)
 clear k2 k3 k4 rx2 ry2 ry3 rz2 rz3 rz4 cy cz fy fz hS hS2 hS3 hS4
 refine HQ9.out _ _ ?_
 cases c₀
 simp_all [bodyPostS, results, results37]
 exact HT.out

attribute [local go_sem] Oper.semAt_some

theorem results_dec (tmps : Array Value) (w : World) (x y z : Nat) (cs : Array Value) (a c : Int) (hx : tmps.getD 4 undef = .pointer (some ⟨x, 0, none⟩)) (hy : tmps.getD 5 undef = .pointer (some ⟨y, 0, none⟩)) (hz : tmps.getD 6 undef = .pointer (some ⟨z, 0, none⟩)) (rx : w.heap[x]? = some (.cells cs 25 (0, 0))) (hs : cs.size = 5)
  (ry : w.cell? ⟨y, 0, none⟩ = some (.int .i64 a)) (rz : w.cell? ⟨z, 0, none⟩ = some (.int .i64 c)) : (results Tryz.f18 tmps).run prog w = .ok (.tuple #[.agg cs, .int .i64 a, .int .i64 c]) w := by
 have hx' : tmps[4]?.getD undef = .pointer (some ⟨x, 0, none⟩) := by simpa using hx
 have hy' : tmps[5]?.getD undef = .pointer (some ⟨y, 0, none⟩) := by simpa using hy
 have hz' : tmps[6]?.getD undef = .pointer (some ⟨z, 0, none⟩) := by simpa using hz
 have h1 := run_loadVar_row (P := prog) w x 25 25 cs (0, 0) _ rx underlying25 rfl (by rw [hs]; as_aux_lemma => kernel_rfl)
 have h2 : (loadVar 3 ⟨y, 0, none⟩).run prog w = .ok (.int .i64 a) w := by simp [go_sem, ry]
 have h3 : (loadVar 29 ⟨z, 0, none⟩).run prog w = .ok (.int .i64 c) w := by simp [go_sem, rz]
 simp [results, results18, hx', hy', hz', asAddr, h1, h2, h3]
def DecTo (w : World) (B : List UInt8) (at_ : Int) (e : Ending) (w' : World) : Prop :=
 ∃ s F, e = .returned (.tuple #[.agg #[.int .i64 (decS B at_).1.kind, .int .u64 (decS B at_).1.num, .string (decS B at_).1.text, s, .int .i64 (decS B at_).1.elem], .int .i64 (decS B at_).2.1, .int .i64 (decS B at_).2.2]) ∧ VO w' w.heap.size (decS B at_).1 s F ∧ Below w.heap.size w w'
theorem ansS_fault {n a : Nat} (y : Er) : ansS n (a : Nat) (.error y) = (zeroV, erP n (-1) (a : Nat) a y, erC (-1) y) := by
 cases y with
 | short => rfl
 | own e => rfl
 | pl r e => show (zeroV, (a : Int) + r, e.1) = (zeroV, ((a + r : Nat) : Int), e.1); rw [Int.natCast_add]
theorem zero_wf : zeroV.Wf := ⟨by constructor <;> decide, by constructor <;> decide, by decide, by constructor <;> decide⟩
theorem mrg_decode_neg (w : World) (p : Option Addr) (n cp : Nat) (B : List UInt8) (hB : BytesIn w p n cp B) (at_ : Int) : (∀ (hat : at_ < 0), Calls prog 18 #[.slice p n cp, .int .i64 at_] w fun e w' => DecTo w B at_ e w') ∧
  (∀ (hat0 : ¬ at_ < 0) (hat : (n : Int) < at_), Calls prog 18 #[.slice p n cp, .int .i64 at_] w fun e w' => DecTo w B at_ e w') := by
 refine ⟨?_, ?_⟩
 intro hat
 rotate_left
 intro hat0 hat
 rotate_left
 all_goals
  have hdec : decS B at_ = (zeroV, 0, 1) := decS_out (by have := hB.len; omega)
  have HD := zH hdec
 have t1 : decide (at_ < 0) = true := by simp; omega
 rotate_left
 have t1 : decide (at_ < 0) = false := by simp; omega
 have t2 : decide ((n : Int) < at_) = true := by simp; omega
 rotate_left
 all_goals
  clear hdec hB
  go_enter func18, ntmps18
  go_upto_region 1 with fail
  obtain ⟨W0, hW0⟩ : ∃ W0, W0 = (((w.alloc (.cells zR 25)).alloc (.cells #[.int .i64 0] 3)).alloc (.cells #[.int .i64 0] 29)) := ⟨_, rfl⟩
  have h5 := three_allocs w _ _ _ W0 hW0
  rw [← hW0]
  clear hW0
  obtain ⟨b, hb⟩ : ∃ b, w.heap.size = b := ⟨_, rfl⟩
  rw [hb] at h5
  simp only [hb, Nat.add_assoc, Nat.reduceAdd]
  obtain ⟨f0, f1, f2, fz, hb0⟩ := h5
  have hb0w : Below w.heap.size w W0 := by rw [hb]; exact hb0
  have H0 := zH (And.intro hb (And.intro hb0w (And.intro fz (And.intro f0 (And.intro f1 f2)))))
  clear f0 f1 f2 fz hb0 hb0w hb
  have c1 : W0.cell? ⟨b + 1, 0, none⟩ = some (.int .i64 0) := (cell_of_row _ _ 0 _ _ _ H0.out.2.2.2.2.1).trans rfl
  have z1 : W0.frozen? ⟨b + 1, 0, none⟩ = false := by simp [World.frozen?, H0.out.2.2.2.2.1]
  have rx := setRow_heap W0 b _ zR _ _ H0.out.2.2.2.1
  have kx : KeepF (fun g => g = b) W0 (W0.setRow b zR) := ⟨rfl, rfl, rfl, by simp, fun j hj hne => setRow_other W0 b j _ hne⟩
  have r1 := (kx.block (b + 1) (gl H0.out.2.2.2.2.1) (by omega)).trans H0.out.2.2.2.2.1
  have r2 := (kx.block (b + 2) (gl H0.out.2.2.2.2.2) (by omega)).trans H0.out.2.2.2.2.2
  have HK := zH (And.intro kx (And.intro rx (And.intro r1 r2)))
  have c1' : (W0.setRow b zR).cell? ⟨b + 1, 0, none⟩ = some (.int .i64 0) := (cell_of_row _ _ 0 _ _ _ r1).trans rfl
  have z1' : (W0.setRow b zR).frozen? ⟨b + 1, 0, none⟩ = false := by simp [World.frozen?, r1]
  have c2' : (W0.setRow b zR).cell? ⟨b + 2, 0, none⟩ = some (.int .i64 0) := (cell_of_row _ _ 0 _ _ _ r2).trans rfl
  have z2' : (W0.setRow b zR).frozen? ⟨b + 2, 0, none⟩ = false := by simp [World.frozen?, r2]
  clear c1 z1 rx kx r1 r2
  obtain ⟨w2, hw2⟩ : ∃ w2, W0.setRow b zR = w2 := ⟨_, rfl⟩
  rw [hw2] at c1' z1' c2' z2'
  have HK := zH (hw2 ▸ HK.out)
  go_wp2_with (refine stV (.tmp 4) (.tmp 16) rfl rfl rfl rfl rfl H0.out.2.2.2.1 rfl ?_; rw [hw2])
  have kA : KeepF (fun g => g = b + 1) w2 (w2.setCell ⟨b + 1, 0, none⟩ (.int .i64 0)) := ⟨rfl, rfl, rfl, by simp, fun j hj hne => set_farV hne⟩
  have kB : KeepF (fun g => g = b + 2) (w2.setCell ⟨b + 1, 0, none⟩ (.int .i64 0)) ((w2.setCell ⟨b + 1, 0, none⟩ (.int .i64 0)).setCell ⟨b + 2, 0, none⟩ (.int .i64 1)) := ⟨rfl, rfl, rfl, by simp, fun j hj hne => set_farV hne⟩
  have rA := heap_setCell_same w2 (b + 1) 0 _ _ (.int .i64 0) HK.out.2.2.1
  have rA2 := (kA.block (b + 2) (gl HK.out.2.2.2) (by omega)).trans HK.out.2.2.2
  have rB := heap_setCell_same (w2.setCell ⟨b + 1, 0, none⟩ (.int .i64 0)) (b + 2) 0 _ _ (.int .i64 1) rA2
  have rX := (kB.block b (by have := (gl HK.out.2.1); have := kA.size; omega) (by omega)).trans ((kA.block b (gl HK.out.2.1) (by omega)).trans HK.out.2.1)
  have rY := (kB.block (b + 1) (gl rA) (by omega)).trans rA
  refine bodyPost_ret (results_dec _ _ b (b + 1) (b + 2) zR 0 1 rfl rfl rfl rX rfl ((cell_of_row _ _ 0 _ _ _ rY).trans rfl) ((cell_of_row _ _ 0 _ _ _ rB).trans rfl)) rfl ?_
  have hkk := (HK.out.1.wide (fun j h => Or.inl (b := j = b + 1 ∨ j = b + 2) h)).trans ((kA.wide (fun j h => .inr (.inl h))).trans (kB.wide (fun j h => .inr (.inr h))))
  have hbw := KeepF.below H0.out.2.1 hkk (fun j h => by have := H0.out.1; omega) H0.out.2.1.size
  unfold DecTo
  rw [HD.out]
  exact ⟨_, fun _ => False, rfl, VO.nil _ _ zero_wf rfl, hbw⟩
def decode_neg := fun w p n cp B hB at_ => (mrg_decode_neg w p n cp B hB at_).1
def decode_far := fun w p n cp B hB at_ => (mrg_decode_neg w p n cp B hB at_).2
theorem decode_in (w : World) (p : Option Addr) (n cp : Nat) (B : List UInt8) (hB : BytesIn w p n cp B) (hT : Tabs w) (hn : n <= 140737488355328) (a : Nat) (hat : a <= n) : Calls prog 18 #[.slice p n cp, .int .i64 (a : Nat)] w fun e w' => DecTo w B (a : Nat) e w' := by
 have hmf : ∀ (fn : Fn) (first cap : Array Value) (w : World), (Instr.makeFunc fn first cap).run prog w = .ok (.func fn first cap) w := fun _ _ _ _ => rfl
 have t1 : decide ((a : Int) < 0) = false := by simp
 have t2 : decide ((n : Int) < (a : Nat)) = false := by simp; omega
 have t3 : decide (n < a) = false := by simp; omega
 have HB := zH (And.intro hB (And.intro hT (And.intro hn hat)))
 clear hB hT hn hat
 go_enter_defers func18, ntmps18
 go_upto_region 1 with fail
 obtain ⟨W0, hW0⟩ : ∃ W0, W0 = (((w.alloc (.cells zR 25)).alloc (.cells #[.int .i64 0] 3)).alloc (.cells #[.int .i64 0] 29)) := ⟨_, rfl⟩
 have h5 := three_allocs w _ _ _ W0 hW0
 rw [← hW0]
 clear hW0
 obtain ⟨b, hb⟩ : ∃ b, w.heap.size = b := ⟨_, rfl⟩
 rw [hb] at h5
 simp only [hb, Nat.add_assoc, Nat.reduceAdd]
 obtain ⟨f0, f1, f2, fz, hb0⟩ := h5
 have hb0w : Below w.heap.size w W0 := by rw [hb]; exact hb0
 have H0 := zH (And.intro hb (And.intro hb0w (And.intro fz (And.intro f0 (And.intro f1 f2)))))
 clear f0 f1 f2 fz hb0 hb0w hb
 go_upto_region 4 with fail
 have hb1 : Below W0.heap.size W0 (W0.alloc (.cells #[.slice p n cp, .int .i64 (a : Nat), .int .i64 (n : Nat), .int .i64 (-1)] 66)) := (Below.refl _ _).alloc (Nat.le_refl _) _
 have or1 := zN W0 (.cells #[.slice p n cp, .int .i64 (a : Nat), .int .i64 (n : Nat), .int .i64 (-1)] 66)
 generalize W0.alloc (.cells #[.slice p n cp, .int .i64 (a : Nat), .int .i64 (n : Nat), .int .i64 (-1)] 66) = w1 at *
 have hz3 := H0.out.2.2.1
 rw [hz3] at or1 ⊢
 have hbw1 := H0.out.2.1.trans (hb1.mono H0.out.2.1.size)
 have HR1 := zH (show RdIn w1 (b + 3) p n cp a n (-1) B from ⟨or1, ⟨w, HB.out.1, hbw1, by have := H0.out.1; omega, HB.out.2.1⟩, HB.out.2.2.2, Nat.le_refl _, HB.out.2.2.1⟩)
 have q0 := (hb1.block b (by omega)).trans H0.out.2.2.2.1
 have q1 := (hb1.block (b + 1) (by omega)).trans H0.out.2.2.2.2.1
 have q2 := (hb1.block (b + 2) (by omega)).trans H0.out.2.2.2.2.2
 have H1 := zH (And.intro hbw1 (And.intro q0 (And.intro q1 q2)))
 clear hb1 or1 hz3 hbw1 q0 q1 q2 t1 t2 t3
 go_wp2_with fail
 have hsf : sOf B a n = B.drop a := by unfold sOf; rw [List.take_of_length_le (by rw [List.length_drop, HB.out.1.len]; exact Nat.le_refl _)]
 have hdec : decS B (a : Nat) = ansS B.length (a : Nat) (rdV 32 (B.drop a)) := decS_in (by rw [HB.out.1.len]; exact HB.out.2.2.2)
 rw [← hsf, HB.out.1.len] at hdec
 have HD := zH hdec
 clear hsf hdec
 refine (value_any w1 (b + 3) p n cp a n (-1) (a : Nat) B HR1.out).mono ?_
 rintro e w2 hto
 rcases hx : rdV 32 (sOf B a n) with y | ⟨v, k⟩
 ·rw [hx] at hto
  obtain ⟨rfl, hk⟩ := hto
  have k1 := (hk.block b (gl H1.out.2.1) (by omega)).trans H1.out.2.1
  have k2 := (hk.block (b + 1) (gl H1.out.2.2.1) (by omega)).trans H1.out.2.2.1
  have k3 := (hk.block (b + 2) (gl H1.out.2.2.2) (by omega)).trans H1.out.2.2.2
  have HKK := zH hk
  unfold faultE
  dsimp only
  go_wp2_with fail
  refine leaves_cons (f := 37) (args := #[.pointer (some ⟨b, 0, none⟩), .pointer (some ⟨b + 1, 0, none⟩), .pointer (some ⟨b + 2, 0, none⟩)]) (by simp) (by simp [go_sem]) ?_
  refine (catch_fault b (b + 1) (b + 2) _ _ _ 0 0 ⟨by omega, by omega, by omega⟩ w2 k1 rfl k2 k3).mono ?_
  rintro e u' w3 ⟨rfl, rfl, ht⟩
  show Leaves prog Tryz.f18 _ _ [] .returning w3
  refine ⟨_, results_dec _ _ b (b + 1) (b + 2) zR _ _ rfl rfl rfl ht.rx rfl ht.ry ht.rz, ?_⟩
  have hkk := (HKK.out.wide (fun j h => Or.inl (b := j = b ∨ j = b + 1 ∨ j = b + 2) h)).trans (ht.keep.wide (fun j h => .inr h))
  have hbw := KeepF.below H1.out.1 hkk (fun j h => by have := H0.out.1; omega) H1.out.1.size
  unfold DecTo
  rw [HD.out, hx, ansS_fault]
  exact ⟨_, fun _ => False, rfl, VO.nil _ _ zero_wf rfl, hbw⟩
 rw [hx] at hto
 obtain ⟨s, F, rfl, hvo, hmv⟩ := hto
 obtain ⟨ps, cs, hss, _, _⟩ := hvo.slice
 subst hss
 have hkl := rdV_le 32 _ _ _ hx
 rw [sOf_len (by rw [HB.out.1.len]; exact Nat.le_refl _)] at hkl
 obtain ⟨a2, ha2⟩ : ∃ a2, a + k = a2 := ⟨_, rfl⟩
 rw [ha2] at hmv
 have hle2 : a2 <= n := by have := HB.out.2.2.2; omega
 have k1 := (hmv.keep.block b (gl H1.out.2.1) (by omega)).trans H1.out.2.1
 have k2 := (hmv.keep.block (b + 1) (gl H1.out.2.2.1) (by omega)).trans H1.out.2.2.1
 have k3 := (hmv.keep.block (b + 2) (gl H1.out.2.2.2) (by omega)).trans H1.out.2.2.2
 have H2 := zH (And.intro k1 (And.intro k2 (And.intro k3 (And.intro hvo hmv))))
 have HXX := zH (And.intro hx (And.intro ha2 hle2))
 clear hvo hmv hx hkl k1 k2 k3
 go_upto_region 6 with (refine stV (.tmp 4) (.tmp 25) rfl rfl rfl rfl rfl H2.out.1 rfl ?_)
 have kx : KeepF (fun g => g = b) w2 (w2.setRow b #[.int .i64 v.kind, .int .u64 v.num, .string v.text, .slice ps v.list.length cs, .int .i64 v.elem]) := ⟨rfl, rfl, rfl, by simp, fun j hj hne => setRow_other w2 b j _ hne⟩
 have rx := setRow_heap w2 b _ #[.int .i64 v.kind, .int .u64 v.num, .string v.text, .slice ps v.list.length cs, .int .i64 v.elem] _ _ H2.out.1
 change Code.wp _ _ _ _ (w2.setRow b #[.int .i64 v.kind, .int .u64 v.num, .string v.text, .slice ps v.list.length cs, .int .i64 v.elem])
 generalize w2.setRow b #[.int .i64 v.kind, .int .u64 v.num, .string v.text, .slice ps v.list.length cs, .int .i64 v.elem] = w3 at *
 have r1 := (kx.block (b + 1) (gl H2.out.2.1) (by omega)).trans H2.out.2.1
 have r2 := (kx.block (b + 2) (gl H2.out.2.2.1) (by omega)).trans H2.out.2.2.1
 have rr := (kx.block (b + 3) (gl H2.out.2.2.2.2.at_) (by omega)).trans H2.out.2.2.2.2.at_
 have H3 := zH (And.intro kx (And.intro rx (And.intro r1 (And.intro r2 rr))))
 have cr : w3.cell? ⟨b + 3, 1, none⟩ = some (.int .i64 (a2 : Nat)) := (cell_of_row _ _ 1 _ _ _ rr).trans rfl
 have hsub : wrap64 ((a2 : Int) - (a : Nat)) = (k : Nat) := by have h1 := HXX.out.2.1; have h2 := HB.out.2.2.1; have h3 := hle2; unfold wrap64; omega
 have hsub2 : IntKind.i64.wrap ((a2 : Int) - (a : Nat)) = (k : Nat) := by have h1 := HXX.out.2.1; have h2 := HB.out.2.2.1; have h3 := hle2; rw [IntWalk.i64_in _ (by omega)]; omega
 clear kx rx r1 r2 rr hle2 ha2
 by_cases hbig : 1048576 < k
 ·have d1 : decide (1048576 < k) = true := decide_eq_true hbig
  have d2 : decide ((1048576 : Int) < (k : Nat)) = true := decide_eq_true (by omega)
  have HBIG := zH hbig
  clear hbig
  go_wp2_with fail
  refine (wrong_any _ _ _).mono ?_
  rintro e w4 ⟨rfl, rfl⟩
  unfold faultE
  dsimp only
  go_wp2_with fail
  refine leaves_cons (f := 37) (args := #[.pointer (some ⟨b, 0, none⟩), .pointer (some ⟨b + 1, 0, none⟩), .pointer (some ⟨b + 2, 0, none⟩)]) (by simp) (by simp [go_sem]) ?_
  refine (catch_fault b (b + 1) (b + 2) _ _ _ 0 0 ⟨by omega, by omega, by omega⟩ w3 H3.out.2.1 rfl H3.out.2.2.1 H3.out.2.2.2.1).mono ?_
  rintro e u' w5 ⟨rfl, rfl, ht⟩
  show Leaves prog Tryz.f18 _ _ [] .returning w5
  refine ⟨_, results_dec _ _ b (b + 1) (b + 2) zR _ _ rfl rfl rfl ht.rx rfl ht.ry ht.rz, ?_⟩
  have hkk := (H2.out.2.2.2.2.keep.wide (fun j h => Or.inl (b := j = b ∨ j = b + 1 ∨ j = b + 2) h)).trans ((H3.out.1.wide (fun j h => .inr (.inl h))).trans (ht.keep.wide (fun j h => .inr h)))
  have hbw := KeepF.below H1.out.1 hkk (fun j h => by have := H0.out.1; omega) H1.out.1.size
  have he : ansS n (a : Nat) (.ok (v, k)) = (zeroV, ((a : Nat) : Int), 2) := if_pos HBIG.out
  unfold DecTo
  rw [HD.out, HXX.out.1, he]
  exact ⟨_, fun _ => False, rfl, VO.nil _ _ zero_wf rfl, hbw⟩
 have d1 : decide (1048576 < k) = false := decide_eq_false hbig
 have d2 : decide ((1048576 : Int) < (k : Nat)) = false := decide_eq_false (by omega)
 have HBIG := zH hbig
 clear hbig
 go_upto_region 8 with fail
 clear cr hsub hsub2 d1 d2
 refine wp_hide (fun Q9 HQ9 HP9 => ?_)
 refine wp_region_heldN (fun V => V.heap[b]? = some (.cells #[.int .i64 v.kind, .int .u64 v.num, .string v.text, .slice ps v.list.length cs, .int .i64 v.elem] 25 (0, 0)) ∧ V.heap[b + 3]? = some (.cells #[.slice p n cp, .int .i64 (a2 : Nat), .int .i64 (n : Nat), .int .i64 (-1)] 66 (0, 0))) 8 rfl (by kernel_rfl) ?_
 have hS : w3.drew.heap[b]? = some (.cells #[.int .i64 v.kind, .int .u64 v.num, .string v.text, .slice ps v.list.length cs, .int .i64 v.elem] 25 (0, 0)) ∧ w3.drew.heap[b + 3]? = some (.cells #[.slice p n cp, .int .i64 (a2 : Nat), .int .i64 (n : Nat), .int .i64 (-1)] 66 (0, 0)) := ⟨H3.out.2.1, H3.out.2.2.2.2⟩
 refine tkD (i := 0) (v := .agg #[.int .i64 v.kind, .int .u64 v.num, .string v.text, .slice ps v.list.length cs, .int .i64 v.elem]) (some 35) rfl rfl (by kernel_rfl) (fun c a w h => (HP9.out _ _ _ h).elim) (yieldsIf_load_row 25 (.tmp 4) rfl (by rfl) b rfl 25 _ (0, 0) _ (fun V h => h.1) underlying25 rfl (by as_aux_lemma => kernel_rfl)) hS ?_
 try simp only [Act.put, sA, sB, sC]
 refine tkD (i := 1) (v := .pointer (some ⟨b + 3, 0, none⟩)) (some 36) rfl rfl (by kernel_rfl) (fun c a w h => (HP9.out _ _ _ h).elim) (Or.inl ⟨by rfl, by rintro V ⟨h0, h1⟩; go_simp⟩) hS ?_
 try simp only [Act.put, sA, sB, sC]
 refine tkD (i := 2) (v := .pointer (some ⟨b + 3, 0, none⟩)) (some 37) rfl rfl (by kernel_rfl) (fun c a w h => (HP9.out _ _ _ h).elim) (Or.inl ⟨by rfl, by rintro V ⟨h0, h1⟩; go_simp⟩) hS ?_
 try simp only [Act.put, sA, sB, sC]
 refine tkD (i := 3) (v := .pointer (some ⟨b + 3, 1, none⟩)) (some 38) rfl rfl (by kernel_rfl) (fun c a w h => (HP9.out _ _ _ h).elim) (Or.inl ⟨by rfl, by rintro V ⟨h0, h1⟩; go_simp⟩) hS ?_
 try simp only [Act.put, sA, sB, sC]
 refine tkD (i := 4) (v := .int .i64 (a2 : Nat)) (some 39) rfl rfl (by kernel_rfl) (fun c a w h => (HP9.out _ _ _ h).elim) (Or.inl ⟨by rfl, by rintro V ⟨h0, h1⟩; have y1 := (cell_of_row V _ 1 _ _ _ h1).trans rfl; go_simp⟩) hS ?_
 try simp only [Act.put, sA, sB, sC]
 have k4 : KeepF (fun g => g = b) w3.drew (w3.drew.setRow b #[.int .i64 v.kind, .int .u64 v.num, .string v.text, .slice ps v.list.length cs, .int .i64 v.elem]) := ⟨rfl, rfl, rfl, by simp, fun j hj hne => setRow_other w3.drew b j _ hne⟩
 have rb4 := setRow_heap w3.drew b _ #[.int .i64 v.kind, .int .u64 v.num, .string v.text, .slice ps v.list.length cs, .int .i64 v.elem] _ _ hS.1
 have rr4 := (k4.block (b + 3) (gl hS.2) (by omega)).trans hS.2
 have ra4 := (k4.block (b + 1) (gl H3.out.2.2.1) (by omega)).trans H3.out.2.2.1
 have rc4 := (k4.block (b + 2) (gl H3.out.2.2.2.1) (by omega)).trans H3.out.2.2.2.1
 refine oneH (i := 5) (by kernel_rfl) ?_
 refine stepD (i := 5) rfl (by rfl) (fun K5 h5 => ?_)
 refine wp_store_rowN 25 (.tmp 4) (.tmp 35) rfl rfl b #[.int .i64 v.kind, .int .u64 v.num, .string v.text, .slice ps v.list.length cs, .int .i64 v.elem] rfl rfl 25 _ hS.1 (by as_aux_lemma => kernel_rfl) (by as_aux_lemma => kernel_rfl) (by simp [Value.oneCell']) ?_
 refine h5.out _ _ ⟨rb4, rr4⟩ ?_
 clear h5
 try simp only [Act.put, sA, sB, sC]
 generalize (w3.drew.setRow b #[.int .i64 v.kind, .int .u64 v.num, .string v.text, .slice ps v.list.length cs, .int .i64 v.elem]) = w4 at *
 have cw5 : w4.cell? ⟨b + 1, 0, none⟩ = some (.int .i64 0) := (cell_of_row _ _ 0 _ _ _ ra4).trans rfl
 have fw5 : w4.frozen? ⟨b + 1, 0, none⟩ = false := by simp [World.frozen?, ra4]
 have k5 : KeepF (fun g => g = b + 1) w4 (w4.setCell ⟨b + 1, 0, none⟩ (.int .i64 (a2 : Nat))) := ⟨rfl, rfl, rfl, by simp, fun j hj hne => set_farV hne⟩
 have ownw5 := heap_setCell_same w4 (b + 1) 0 _ _ (.int .i64 (a2 : Nat)) ra4
 have rb5 := (k5.block (b) (gl rb4) (by omega)).trans rb4
 have rr5 := (k5.block (b + 3) (gl rr4) (by omega)).trans rr4
 have rc5 := (k5.block (b + 2) (gl rc4) (by omega)).trans rc4
 refine oneH (i := 6) (by kernel_rfl) ?_
 refine stepD (i := 6) rfl (by rfl) (fun K5 h5 => ?_)
 go_simp
 change K5 _ (w4.setCell ⟨b + 1, 0, none⟩ (.int .i64 (a2 : Nat)))
 refine h5.out _ _ ⟨rb5, rr5⟩ ?_
 clear h5
 try simp only [Act.put, sA, sB, sC]
 generalize (w4.setCell ⟨b + 1, 0, none⟩ (.int .i64 (a2 : Nat))) = w5 at *
 have cw6 : w5.cell? ⟨b + 2, 0, none⟩ = some (.int .i64 0) := (cell_of_row _ _ 0 _ _ _ rc5).trans rfl
 have fw6 : w5.frozen? ⟨b + 2, 0, none⟩ = false := by simp [World.frozen?, rc5]
 have k6 : KeepF (fun g => g = b + 2) w5 (w5.setCell ⟨b + 2, 0, none⟩ (.int .i64 0)) := ⟨rfl, rfl, rfl, by simp, fun j hj hne => set_farV hne⟩
 have ownw6 := heap_setCell_same w5 (b + 2) 0 _ _ (.int .i64 0) rc5
 have rb6 := (k6.block (b) (gl rb5) (by omega)).trans rb5
 have rr6 := (k6.block (b + 3) (gl rr5) (by omega)).trans rr5
 have ra6 := (k6.block (b + 1) (gl ownw5) (by omega)).trans ownw5
 refine oneH (i := 7) (by kernel_rfl) ?_
 refine stepD (i := 7) rfl (by rfl) (fun K5 h5 => ?_)
 go_simp
 change K5 _ (w5.setCell ⟨b + 2, 0, none⟩ (.int .i64 0))
 refine h5.out _ _ ⟨rb6, rr6⟩ ?_
 clear h5
 try simp only [Act.put, sA, sB, sC]
 generalize (w5.setCell ⟨b + 2, 0, none⟩ (.int .i64 0)) = w6 at *
 refine wpAnyH_done (by kernel_rfl) ?_ _
 have HZZ := zH (show w6.heap[b]? = some (.cells #[.int .i64 v.kind, .int .u64 v.num, .string v.text, .slice ps v.list.length cs, .int .i64 v.elem] 25 (0, 0)) ∧ w6.cell? ⟨b + 1, 0, none⟩ = some (.int .i64 (a2 : Nat)) ∧ w6.cell? ⟨b + 2, 0, none⟩ = some (.int .i64 0) ∧ KeepF (fun j => j = b ∨ j = b + 1 ∨ j = b + 2) w3 w6 from ⟨rb6, (cell_of_row _ _ 0 _ _ _ ra6).trans rfl, (cell_of_row _ _ 0 _ _ _ ownw6).trans rfl, (KeepF.of_below (bdrew (Below.refl _ _))).trans ((k4.wide (fun j h => .inl h)).trans ((k5.wide (fun j h => .inr (.inl h))).trans (k6.wide (fun j h => .inr (.inr h)))))⟩)
 clear k4 k5 k6 rb4 rr4 ra4 rc4 rb5 rr5 rc5 rb6 rr6 ra6 cw5 cw6 fw5 fw6 ownw5 ownw6 hS
 refine HQ9.out _ _ ?_
 change Exit.then _ _ _ _ w6
 go_wp2_with fail
 refine leaves_cons (f := 37) (args := #[.pointer (some ⟨b, 0, none⟩), .pointer (some ⟨b + 1, 0, none⟩), .pointer (some ⟨b + 2, 0, none⟩)]) (by simp) (by simp [go_sem]) ?_
 refine (catch_idle _ _ _ w6).mono ?_
 rintro e u' w7 ⟨rfl, rfl, rfl⟩
 show Leaves prog Tryz.f18 _ _ [] .returning w7
 refine ⟨_, results_dec _ _ b (b + 1) (b + 2) #[.int .i64 v.kind, .int .u64 v.num, .string v.text, .slice ps v.list.length cs, .int .i64 v.elem] (a2 : Nat) 0 rfl rfl rfl HZZ.out.1 rfl HZZ.out.2.1 HZZ.out.2.2.1, ?_⟩
 have hkk := (H2.out.2.2.2.2.keep.wide (fun j h => Or.inl (b := j = b ∨ j = b + 1 ∨ j = b + 2) h)).trans ((H3.out.1.wide (fun j h => .inr (.inl h))).trans (HZZ.out.2.2.2.wide (fun j h => .inr h)))
 have hbw := KeepF.below H1.out.1 hkk (fun j h => by have := H0.out.1; omega) H1.out.1.size
 have he : ansS n (a : Nat) (.ok (v, k)) = (v, (a : Int) + k, 0) := if_neg HBIG.out
 have hk3 := (H3.out.1.wide (fun j h => Or.inl (b := j = b + 1 ∨ j = b + 2) h)).trans HZZ.out.2.2.2
 unfold DecTo
 rw [HD.out, HXX.out.1, he]
 refine ⟨_, F, ?_, ((H2.out.2.2.2.1.mono H1.out.1.size).keep (fun j hj => hk3.block j (H2.out.2.2.2.1.lt j hj).2 (fun e => by have := (H2.out.2.2.2.1.lt j hj).1; have := (gl H1.out.2.2.2); omega))), hbw⟩
 rw [← HXX.out.2.1]
 rfl
end Go.Proofs.YtnnnfhobbnjmfaaGreatDoor

namespace Go.Proofs.YtnnnfhobbnjmfaaGreatDoor
end Go.Proofs.YtnnnfhobbnjmfaaGreatDoor
