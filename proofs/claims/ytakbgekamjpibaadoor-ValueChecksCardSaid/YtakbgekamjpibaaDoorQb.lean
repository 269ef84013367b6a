/-
  The reference's Text: the same strings as octet's Utf8. Condition: the string is no longer than a string may be.
-/
import Derived.Test.YtakbgekamjpibaaDoorQa
namespace Go.Proofs.YtakbgekamjpibaaDoor
open Go.RowKit
set_option linter.unusedVariables false

theorem byteS_extract (s : ByteArray) (k j : Nat) : ((s.extract k s.size).get! j).toNat = byteS s (k + j) := by
  have e : (s.extract k s.size).get! j = (s.data.extract k s.data.size)[j]! := by
    show (s.extract k s.size).data[j]! = _
    rw [ByteArray.data_extract]; rfl
  rw [e]
  unfold byteS
  split
  · rename_i h
    have h' : k + j < s.data.size := h
    rw [getElem!_pos (s.data.extract k s.data.size) j (by simp; omega)]
    simp
    rfl
  · rename_i h
    have h' : ¬ k + j < s.data.size := h
    rw [getElem!_neg (s.data.extract k s.data.size) j (by simp; omega)]
    rfl
theorem byteS_ext (s : ByteArray) (k j : Nat) : byteS (s.extract k s.size) j = byteS s (k + j) := by
  have hsz : (s.extract k s.size).size = s.size - k := by simp
  by_cases h : j < (s.extract k s.size).size
  · rw [byteS_in _ _ h, ← byteS_extract]
    congr 1
    show (s.extract k s.size).data[j] = (s.extract k s.size).data[j]!
    have h' : j < (s.extract k s.size).data.size := h
    rw [getElem!_pos (s.extract k s.size).data j h']
  · unfold byteS
    rw [dif_neg h, dif_neg (by omega)]
def letN (n b0 b1 b2 b3 : Nat) : Int :=
  if b0 < 128 then 1
  else if 194 ≤ b0 ∧ b0 < 224 then (if n < 2 then 0 else if b1 < 128 ∨ 191 < b1 then 0 else if (64 * ((b0 : Int) - 192) + b1 - 128 < 128) ∨ 1114111 < 64 * ((b0 : Int) - 192) + b1 - 128 ∨ (55296 ≤ 64 * ((b0 : Int) - 192) + b1 - 128 ∧ 64 * ((b0 : Int) - 192) + b1 - 128 ≤ 57343) then 0 else 2)
  else if 224 ≤ b0 ∧ b0 < 240 then (if n < 3 then 0 else if b1 < 128 ∨ 191 < b1 then 0 else if b2 < 128 ∨ 191 < b2 then 0 else if (64 * (64 * ((b0 : Int) - 224) + b1 - 128) + b2 - 128 < 2048) ∨ 1114111 < 64 * (64 * ((b0 : Int) - 224) + b1 - 128) + b2 - 128 ∨ (55296 ≤ 64 * (64 * ((b0 : Int) - 224) + b1 - 128) + b2 - 128 ∧ 64 * (64 * ((b0 : Int) - 224) + b1 - 128) + b2 - 128 ≤ 57343) then 0 else 3)
  else if 240 ≤ b0 ∧ b0 < 245 then (if n < 4 then 0 else if b1 < 128 ∨ 191 < b1 then 0 else if b2 < 128 ∨ 191 < b2 then 0 else if b3 < 128 ∨ 191 < b3 then 0 else if (64 * (64 * (64 * ((b0 : Int) - 240) + b1 - 128) + b2 - 128) + b3 - 128 < 65536) ∨ 1114111 < 64 * (64 * (64 * ((b0 : Int) - 240) + b1 - 128) + b2 - 128) + b3 - 128 ∨ (55296 ≤ 64 * (64 * (64 * ((b0 : Int) - 240) + b1 - 128) + b2 - 128) + b3 - 128 ∧ 64 * (64 * (64 * ((b0 : Int) - 240) + b1 - 128) + b2 - 128) + b3 - 128 ≤ 57343) then 0 else 4)
  else 0
theorem letS_N (t : ByteArray) : letS t = letN t.size (byteS t 0) (byteS t 1) (byteS t 2) (byteS t 3) := by
  have f2 : ∀ p, letF t (2 - 1) 1 p = if byteS t 1 < 128 ∨ 191 < byteS t 1 then none else some (64 * p + byteS t 1 - 128) := fun p => by
    show letF t 1 1 p = _
    rw [letF, letF]
  have f3 : ∀ p, letF t (3 - 1) 1 p = if byteS t 1 < 128 ∨ 191 < byteS t 1 then none else if byteS t 2 < 128 ∨ 191 < byteS t 2 then none else some (64 * (64 * p + byteS t 1 - 128) + byteS t 2 - 128) := fun p => by
    show letF t 2 1 p = _
    rw [letF, letF, letF]
  have f4 : ∀ p, letF t (4 - 1) 1 p = if byteS t 1 < 128 ∨ 191 < byteS t 1 then none else if byteS t 2 < 128 ∨ 191 < byteS t 2 then none else if byteS t 3 < 128 ∨ 191 < byteS t 3 then none else some (64 * (64 * (64 * p + byteS t 1 - 128) + byteS t 2 - 128) + byteS t 3 - 128) := fun p => by
    show letF t 3 1 p = _
    rw [letF, letF, letF, letF]
  unfold letS letR letN
  rw [f2, f3, f4]
  clear f2 f3 f4
  generalize byteS t 0 = b0
  generalize byteS t 1 = b1
  generalize byteS t 2 = b2
  generalize byteS t 3 = b3
  generalize t.size = n
  by_cases c1 : b1 < 128 ∨ 191 < b1 <;> by_cases c2 : b2 < 128 ∨ 191 < b2 <;> by_cases c3 : b3 < 128 ∨ 191 < b3 <;> simp [c1, c2, c3]

set_option maxHeartbeats 8000000 in
theorem letN_decode (n b0 b1 b2 b3 : Nat) (hn : 1 ≤ n) (h0 : b0 < 256) (h1 : b1 < 256) (h2 : b2 < 256) (h3 : b3 < 256) :
    letN n b0 b1 b2 b3 = if (Lib.decodeN n b0 b1 b2 b3).1 = 65533 ∧ (Lib.decodeN n b0 b1 b2 b3).2 = 1 then 0 else ((Lib.decodeN n b0 b1 b2 b3).2 : Int) := by
  unfold letN Lib.decodeN
  repeat' split
  all_goals first | rfl | (exfalso; omega) | (simp only at *; omega)

theorem let_decode (s : ByteArray) (p : Nat) (h : p < s.size) :
    letS (s.extract p s.size) = if (Lib.decodeGo (s.extract p s.size)).1 = 65533 ∧ (Lib.decodeGo (s.extract p s.size)).2 = 1 then 0 else ((Lib.decodeGo (s.extract p s.size)).2 : Int) := by
  have hsz : (s.extract p s.size).size = s.size - p := by simp
  have hdg : Lib.decodeGo (s.extract p s.size) = Lib.decodeN (s.size - p) (byteS s p) (byteS s (p + 1)) (byteS s (p + 2)) (byteS s (p + 3)) := by
    unfold Lib.decodeGo
    rw [if_neg (by omega), Lib.decode_at, hsz, byteS_extract, byteS_extract, byteS_extract, byteS_extract]
    simp only [Nat.sub_zero, Nat.zero_add, Nat.add_zero]
  rw [letS_N, hsz, byteS_ext, byteS_ext, byteS_ext, byteS_ext, hdg, Nat.add_zero]
  exact letN_decode _ _ _ _ _ (by omega) (byteS_lt _ _) (byteS_lt _ _) (byteS_lt _ _) (byteS_lt _ _)

set_option maxHeartbeats 4000000 in
theorem text_any (s : ByteArray) (w : World) (hs : s.size ≤ 9223372036854775800) :
    Calls Tryd.prog 90 #[.string s] w fun e w' => e = .returned (.bool (decide (utf8S s < 0))) ∧ w = w' := by
  go_enter Tryd.func90, Tryd.ntmps90
  go_wp2
  go_loop [3] (fun i => ∃ k f : Nat, k ≤ s.size ∧ s.size - k ≤ f ∧ i = .int .i64 k ∧ Hid (utf8S s = utf8F s f k)) (fun i => s.size - (intOf i).toNat)
  case atStart => exact ⟨0, s.size, by omega, by omega, rfl, Lib.hid rfl⟩
  case round =>
    obtain ⟨k, f, hk, hf, rfl, H⟩ := hrel
    by_cases hlt : k < s.size
    · obtain ⟨f, rfl⟩ : ∃ f', f = f' + 1 := ⟨f - 1, by omega⟩
      obtain ⟨hd1, hd2, hd3⟩ := decodeGo_bd s k hlt
      have hs1 := H.out
      rw [utf8F, if_pos hlt] at hs1
      have hcd := let_decode s k hlt
      have hc := letter_any (s.extract k s.size) w (by simp; omega) (by simp; omega)
      rw [hcd] at hc
      clear hcd hd3
      obtain ⟨r, hr⟩ : ∃ r, (Lib.decodeGo (s.extract k s.size)).1 = r := ⟨_, rfl⟩
      obtain ⟨m, hm⟩ : ∃ m, (Lib.decodeGo (s.extract k s.size)).2 = m := ⟨_, rfl⟩
      rw [hr, hm] at hs1 hc
      rw [hm] at hd1 hd2
      clear hr hm H
      by_cases c1 : r = 65533 ∧ m = 1
      · rw [if_pos c1] at hs1 hc
        have HE := Lib.hid (show decide (utf8S s < 0) = false from by rw [hs1]; exact decide_eq_false (by omega))
        have HC := Lib.hid hc
        clear hs1 hc
        go_wp2_with fail
        refine HC.out.mono ?_
        rintro e w' ⟨rfl, rfl⟩
        go_wp2_with fail
        go_ret
        exact ⟨ret_bool HE.out.symm, rfl⟩
      · rw [if_neg c1] at hs1 hc
        have HE := Lib.hid hs1
        have HC := Lib.hid hc
        clear hs1 hc
        have hm1 : ((m : Int) == 0) = false := by simp; omega
        go_wp2_with fail
        refine HC.out.mono ?_
        rintro e w' ⟨rfl, rfl⟩
        go_wp2_with fail
        go_round
        case rel => exact ⟨k + m, f, by omega, by omega, by go_num, HE⟩
        case measure => simp [intOf]; omega
    · have HE := Lib.hid (show decide (utf8S s < 0) = true from by rw [H.out]; cases f <;> simp [utf8F, hlt])
      go_wp2
      go_ret
      exact ⟨ret_bool HE.out.symm, rfl⟩

end Go.Proofs.YtakbgekamjpibaaDoor
