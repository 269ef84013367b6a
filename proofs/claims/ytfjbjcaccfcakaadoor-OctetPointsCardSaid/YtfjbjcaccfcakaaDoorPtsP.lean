/-
  The plain law of OctetPoints: code points' forms one behind the other are a text. It speaks of no program. No conditions.
-/
import Derived.Test.YtfjbjcaccfcakaaDoorTxt
namespace Go.Proofs.YtfjbjcaccfcakaaDoor
open Go.RowKit
set_option linter.unusedVariables false

/-- a list of bytes as a string -/
def strL (l : List UInt8) : ByteArray := ⟨l.toArray⟩
theorem strL_size (l : List UInt8) : (strL l).size = l.length := by simp [strL, ByteArray.size]
theorem strL_append (l r : List UInt8) : strL l ++ strL r = strL (l ++ r) := by
  apply ByteArray.ext
  simp [strL]
theorem strL_get (l : List UInt8) (i : Nat) : (strL l).get! i = l.getD i 0 := by
  unfold strL ByteArray.get!
  simp [List.getD_eq_getElem?_getD]
  rfl
theorem strL_extract (l : List UInt8) (a b : Nat) : (strL l).extract a b = strL ((l.take b).drop a) := by
  apply ByteArray.ext
  simp [strL, List.drop_take]

/-- the decoder at a list's beginning -/
def dN (l : List UInt8) : Nat × Nat := Lib.decodeN l.length (l.getD 0 0).toNat (l.getD 1 0).toNat (l.getD 2 0).toNat (l.getD 3 0).toNat
theorem decode_list (l : List UInt8) (k : Nat) (h : k < l.length) : Lib.decodeGo ((strL l).extract k (strL l).size) = dN (l.drop k) := by
  rw [strL_size, strL_extract, List.take_of_length_le (Nat.le_refl _)]
  unfold Lib.decodeGo
  rw [if_neg (by rw [strL_size, List.length_drop]; omega), Lib.decode_at, strL_size]
  simp only [strL_get, Nat.sub_zero, Nat.zero_add]
  rfl

/-- the place of the first fault, over lists -/
def uF (l : List UInt8) : Nat → Nat → Int
  | 0, _ => -1
  | f + 1, k => if k < l.length then (if (dN (l.drop k)).1 = 65533 ∧ (dN (l.drop k)).2 = 1 then (k : Int) else uF l f (k + (dN (l.drop k)).2)) else -1
theorem utf8F_list (l : List UInt8) : ∀ (f k : Nat), utf8F (strL l) f k = uF l f k
  | 0, k => rfl
  | f + 1, k => by
    rw [utf8F, uF, strL_size]
    by_cases h : k < l.length
    · have hd := decode_list l k h
      rw [strL_size] at hd
      rw [if_pos h, if_pos h, hd, utf8F_list l f]
    · rw [if_neg h, if_neg h]

/-- a code point's bytes -/
def wrC (c : Nat) : List UInt8 :=
  if c < 128 then [UInt8.ofNat c]
  else if c < 2048 then [UInt8.ofNat (192 + c / 64), UInt8.ofNat (128 + c % 64)]
  else if c < 65536 then [UInt8.ofNat (224 + c / 4096), UInt8.ofNat (128 + c / 64 % 64), UInt8.ofNat (128 + c % 64)]
  else [UInt8.ofNat (240 + c / 262144), UInt8.ofNat (128 + c / 4096 % 64), UInt8.ofNat (128 + c / 64 % 64), UInt8.ofNat (128 + c % 64)]
/-- one that has a form -/
def okC (c : Nat) : Prop := c ≤ 1114111 ∧ (c < 55296 ∨ 57344 ≤ c)

theorem ofNat_toNat (n : Nat) (h : n < 256) : (UInt8.ofNat n).toNat = n := by rw [UInt8.toNat_ofNat', Nat.mod_eq_of_lt h]

theorem wrC_len (c : Nat) : 1 ≤ (wrC c).length ∧ (wrC c).length ≤ 4 := by
  unfold wrC
  repeat' split
  all_goals simp

theorem dN_wrC (c : Nat) (h : okC c) (r : List UInt8) : dN (wrC c ++ r) = (c, (wrC c).length) := by
  obtain ⟨h1, h2⟩ := h
  unfold dN wrC
  by_cases c1 : c < 128
  · simp only [if_pos c1, List.cons_append, List.nil_append, List.length_cons, List.getD_cons_zero, List.getD_cons_succ, List.length_nil]
    rw [ofNat_toNat c (by omega)]
    unfold Lib.decodeN
    rw [if_pos c1]
  by_cases c2 : c < 2048
  · simp only [if_neg c1, if_pos c2, List.cons_append, List.nil_append, List.length_cons, List.getD_cons_zero, List.getD_cons_succ, List.length_nil]
    rw [ofNat_toNat (192 + c / 64) (by omega), ofNat_toNat (128 + c % 64) (by omega)]
    unfold Lib.decodeN
    rw [if_neg (by omega), if_pos (by omega), if_pos (by omega)]
    exact Prod.ext (by show _ = c; omega) rfl
  by_cases c3 : c < 65536
  · simp only [if_neg c1, if_neg c2, if_pos c3, List.cons_append, List.nil_append, List.length_cons, List.getD_cons_zero, List.getD_cons_succ, List.length_nil]
    rw [ofNat_toNat (224 + c / 4096) (by omega), ofNat_toNat (128 + c / 64 % 64) (by omega), ofNat_toNat (128 + c % 64) (by omega)]
    unfold Lib.decodeN
    rw [if_neg (by omega), if_neg (by omega), if_pos (by omega), if_pos (by omega)]
    exact Prod.ext (by show _ = c; omega) rfl
  · simp only [if_neg c1, if_neg c2, if_neg c3, List.cons_append, List.nil_append, List.length_cons, List.getD_cons_zero, List.getD_cons_succ, List.length_nil]
    rw [ofNat_toNat (240 + c / 262144) (by omega), ofNat_toNat (128 + c / 4096 % 64) (by omega), ofNat_toNat (128 + c / 64 % 64) (by omega), ofNat_toNat (128 + c % 64) (by omega)]
    unfold Lib.decodeN
    rw [if_neg (by omega), if_neg (by omega), if_neg (by omega), if_pos (by omega), if_pos (by omega)]
    exact Prod.ext (by show _ = c; omega) rfl

/-- a beginning of a form is none -/
theorem dN_cut (c k : Nat) (h : okC c) (h1 : 1 ≤ k) (h2 : k < (wrC c).length) : dN ((wrC c).take k) = (65533, 1) := by
  obtain ⟨ha, hb⟩ := h
  unfold dN
  unfold wrC at h2 ⊢
  by_cases c1 : c < 128
  · rw [if_pos c1] at h2; simp at h2; omega
  by_cases c2 : c < 2048
  · rw [if_neg c1, if_pos c2] at h2 ⊢
    simp only [List.length_cons, List.length_nil] at h2
    obtain rfl : k = 1 := by omega
    simp only [List.take_succ_cons, List.take_zero, List.length_cons, List.length_nil, List.getD_cons_zero, List.getD_cons_succ]
    rw [ofNat_toNat (192 + c / 64) (by omega)]
    unfold Lib.decodeN
    rw [if_neg (by omega), if_neg (by omega), if_neg (by omega), if_neg (by omega)]
  by_cases c3 : c < 65536
  · rw [if_neg c1, if_neg c2, if_pos c3] at h2 ⊢
    simp only [List.length_cons, List.length_nil] at h2
    have hk : k = 1 ∨ k = 2 := by omega
    rcases hk with rfl | rfl <;>
    · simp only [List.take_succ_cons, List.take_zero, List.length_cons, List.length_nil, List.getD_cons_zero, List.getD_cons_succ]
      rw [ofNat_toNat (224 + c / 4096) (by omega)]
      unfold Lib.decodeN
      rw [if_neg (by omega), if_neg (by omega), if_neg (by omega), if_neg (by omega)]
  · rw [if_neg c1, if_neg c2, if_neg c3] at h2 ⊢
    simp only [List.length_cons, List.length_nil] at h2
    have hk : k = 1 ∨ k = 2 ∨ k = 3 := by omega
    rcases hk with rfl | rfl | rfl <;>
    · simp only [List.take_succ_cons, List.take_zero, List.length_cons, List.length_nil, List.getD_cons_zero, List.getD_cons_succ]
      rw [ofNat_toNat (240 + c / 262144) (by omega)]
      unfold Lib.decodeN
      rw [if_neg (by omega), if_neg (by omega), if_neg (by omega), if_neg (by omega)]

def txt (W : List Nat) : List UInt8 := W.flatMap wrC
theorem txt_snoc (W : List Nat) (c : Nat) : txt (W ++ [c]) = txt W ++ wrC c := by simp [txt, List.flatMap_append]
theorem txt_len (W : List Nat) : W.length ≤ (txt W).length ∧ (txt W).length ≤ 4 * W.length := by
  induction W with
  | nil => simp [txt]
  | cons c W ih =>
    have : txt (c :: W) = wrC c ++ txt W := by simp [txt]
    have := wrC_len c
    rw [show txt (c :: W) = wrC c ++ txt W by simp [txt], List.length_append, List.length_cons]
    omega

theorem uF_step : ∀ (W : List Nat) (P r : List UInt8) (f : Nat), (∀ c ∈ W, okC c) → uF (P ++ (txt W ++ r)) (f + W.length) P.length = uF (P ++ (txt W ++ r)) f (P.length + (txt W).length)
  | [], P, r, f, _ => by simp [txt]
  | c :: W, P, r, f, h => by
    have hc := h c (by simp)
    have e : txt (c :: W) = wrC c ++ txt W := by simp [txt]
    have hl := wrC_len c
    have hd : (P ++ (txt (c :: W) ++ r)).drop P.length = wrC c ++ (txt W ++ r) := by rw [List.drop_left' rfl, e, List.append_assoc]
    have hk : P.length < (P ++ (txt (c :: W) ++ r)).length := by rw [e]; simp only [List.length_append]; omega
    rw [List.length_cons, ← Nat.add_assoc, uF, if_pos hk, hd, dN_wrC c hc]
    rw [if_neg (by
      show ¬ (c = 65533 ∧ (wrC c).length = 1)
      rintro ⟨rfl, h2⟩
      simp [wrC] at h2)]
    have ih := uF_step W (P ++ wrC c) r f (fun d hd => h d (by simp [hd]))
    rw [e, ← List.append_assoc, ← List.append_assoc, ← List.append_assoc] at *
    simp only [List.length_append, List.append_assoc] at ih ⊢
    rw [ih]
    congr 1
    omega

/-- what is laid behind a text -/
theorem utf8_behind (W : List Nat) (r : List UInt8) (h : ∀ c ∈ W, okC c) (h0 : 0 < r.length) (hr : dN r = (65533, 1)) : utf8S (strL (txt W ++ r)) = (txt W).length := by
  unfold utf8S
  rw [utf8F_list, strL_size, List.length_append]
  have hl := (txt_len W).1
  have := uF_step W [] r ((txt W).length + r.length - W.length) h
  simp only [List.nil_append, List.length_nil, Nat.zero_add] at this
  rw [show (txt W).length + r.length = (txt W).length + r.length - W.length + W.length by omega, this]
  obtain ⟨f, hf⟩ : ∃ f, (txt W).length + r.length - W.length = f + 1 := ⟨(txt W).length + r.length - W.length - 1, by omega⟩
  rw [hf, uF, if_pos (by rw [List.length_append]; omega), List.drop_left' rfl, hr, if_pos ⟨rfl, rfl⟩]
theorem utf8_whole (W : List Nat) (h : ∀ c ∈ W, okC c) : utf8S (strL (txt W)) = -1 := by
  unfold utf8S
  rw [utf8F_list, strL_size]
  have hl := (txt_len W).1
  have := uF_step W [] [] ((txt W).length - W.length) h
  simp only [List.nil_append, List.length_nil, Nat.zero_add, List.append_nil] at this
  rw [show (txt W).length = (txt W).length - W.length + W.length by omega, this]
  cases hh : (txt W).length - W.length with
  | zero => rfl
  | succ f => rw [uF, if_neg (by omega)]
theorem utf8_cut (W : List Nat) (c k : Nat) (h : ∀ d ∈ W, okC d) (hc : okC c) (h1 : 1 ≤ k) (h2 : k < (wrC c).length) : utf8S (strL (txt W ++ (wrC c).take k)) = (txt W).length :=
  utf8_behind W _ h (by rw [List.length_take]; omega) (dN_cut c k hc h1 h2)

/-- the forms that are none -/
def badL : List (List UInt8) := [[128], [191], [192, 128], [193, 191], [224, 128, 128], [224, 159, 191], [237, 160, 128], [237, 191, 191], [240, 128, 128, 128], [240, 143, 191, 191], [244, 144, 128, 128], [245, 128, 128, 128], [248, 136, 128, 128, 128], [254], [255]]
theorem bad_none : ∀ b ∈ badL, dN (b ++ [97]) = (65533, 1) ∧ 0 < b.length := by decide
theorem utf8_bad (W : List Nat) (h : ∀ c ∈ W, okC c) (b : List UInt8) (hb : b ∈ badL) : utf8S (strL (txt W ++ b ++ [97])) = (txt W).length := by
  rw [List.append_assoc]
  exact utf8_behind W _ h (by simp) (bad_none b hb).1

theorem byteS_list (l : List UInt8) (k : Nat) : byteS (strL l) k = (l.getD k 0).toNat := by
  unfold byteS
  by_cases h : k < l.length
  · rw [dif_pos (by rw [strL_size]; exact h)]
    simp [strL, List.getD_eq_getElem?_getD, h, ByteArray.getElem_eq_getElem_data]
  · rw [dif_neg (by rw [strL_size]; exact h), List.getD_eq_getElem?_getD, List.getElem?_eq_none (by omega)]
    rfl

theorem asciiF_list (l : List UInt8) (b : UInt8) (hb : 128 ≤ b.toNat) : ∀ (f k : Nat), k + f = l.length → asciiF (strL (l ++ [b])) (f + 1) k = if asciiF (strL l) f k = -1 then (l.length : Int) else asciiF (strL l) f k
  | 0, k, h => by
    have e : (l ++ [b]).getD k 0 = b := by
      obtain rfl : k = l.length := by omega
      simp
    show (if 128 ≤ byteS (strL (l ++ [b])) k then (k : Int) else asciiF (strL (l ++ [b])) 0 (k + 1)) = if (-1 : Int) = -1 then (l.length : Int) else -1
    rw [byteS_list, e, if_pos hb, if_pos rfl]
    omega
  | f + 1, k, h => by
    have e : (l ++ [b]).getD k 0 = l.getD k 0 := by
      rw [List.getD_eq_getElem?_getD, List.getElem?_append_left (by omega), ← List.getD_eq_getElem?_getD]
    have e1 : asciiF (strL (l ++ [b])) (f + 1 + 1) k = if 128 ≤ byteS (strL (l ++ [b])) k then (k : Int) else asciiF (strL (l ++ [b])) (f + 1) (k + 1) := rfl
    have e2 : asciiF (strL l) (f + 1) k = if 128 ≤ byteS (strL l) k then (k : Int) else asciiF (strL l) f (k + 1) := rfl
    rw [e1, e2, byteS_list, e, byteS_list]
    by_cases h8 : 128 ≤ (l.getD k 0).toNat
    · rw [if_pos h8, if_pos h8, if_neg (by omega)]
    · rw [if_neg h8, if_neg h8, asciiF_list l b hb f (k + 1) (by omega)]
theorem ascii_snoc (l : List UInt8) (b : UInt8) (hb : 128 ≤ b.toNat) : asciiS (strL (l ++ [b])) = if asciiS (strL l) = -1 then (l.length : Int) else asciiS (strL l) := by
  unfold asciiS
  rw [strL_size, strL_size, List.length_append]
  exact asciiF_list l b hb l.length 0 (by omega)
end Go.Proofs.YtfjbjcaccfcakaaDoor
