/-
  What is sealed is opened: plain lemmas on lists of bytes. No program in sight.
-/
import Derived.Test.YtofdpccjpodbhaaAwake
namespace Go.Proofs.Ytofdpccjpodbhaa
open Go.RowKit
set_option linter.unusedVariables false

/-- what Open finds, from its place on -/
def openL (L : List UInt8) (p : Nat) (M : Nat) : Nat × Nat × List UInt8 × List UInt8 × Int × Int :=
  if L.length < 4 then (0, 0, [], [], 0, 10)
  else
    let size := beVal (L.take 4)
    if size < 8 ∨ (M : Int) < size then (0, 0, [], [], 0, 51)
    else if L.length < 5 then (0, 0, [], [], 0, 10)
    else
      let off := 4 * (L.getD 4 0).toNat
      if off < 8 ∨ size < off then (0, 0, [], [], 0, 52)
      else if L.length < 6 then (0, 0, [], [], 0, 10)
      else
        let kind := (L.getD 5 0).toNat
        if 1 < kind then (0, 0, [], [], 0, 53)
        else if L.length < size then (0, 0, [], [], 0, 10)
        else (kind, if kind = 0 then beVal ((L.drop 6).take 2) else 0, (L.drop 8).take (off - 8), (L.drop off).take (size - off), (p : Int) + size, 0)

theorem openR_at (b : List UInt8) (p M : Nat) (hp : p ≤ b.length) (h1 : 512 ≤ M) (h2 : M ≤ 1048576) : openR b p M = openL (b.drop p) p M := by
  unfold openR
  rw [if_neg (by omega), Int.toNat_natCast]
  rfl

theorem list4 {l : List UInt8} (h : l.length = 4) : ∃ a b c d, l = [a, b, c, d] := by
  match l, h with
  | [a, b, c, d], _ => exact ⟨a, b, c, d, rfl⟩
theorem list2 {l : List UInt8} (h : l.length = 2) : ∃ a b, l = [a, b] := by
  match l, h with
  | [a, b], _ => exact ⟨a, b, rfl⟩

/-- what a sealed frame's bytes look like -/
theorem seal_form (T C : Int) (ext body : List UInt8) (hE : sealE T C ext.length body.length = 0) :
    ∃ s0 s1 s2 s3 o t c0 c1 : UInt8, sealB T C ext body = s0 :: s1 :: s2 :: s3 :: o :: t :: c0 :: c1 :: (ext ++ body) ∧ beVal [s0, s1, s2, s3] = 8 + ext.length + body.length ∧ 4 * o.toNat = 8 + ext.length ∧ t.toNat = T.toNat ∧ beVal [c0, c1] = C.toNat ∧
      (T = 0 ∨ T = 1 ∧ C = 0) ∧ 0 ≤ C ∧ C ≤ 65535 ∧ 8 + ext.length + body.length ≤ 1048576 ∧ ext.length ≤ 1012 ∧ ext.length % 4 = 0 := by
  unfold sealE at hE
  by_cases h1 : T ≠ 0 ∧ T ≠ 1
  · rw [if_pos h1] at hE; simp at hE
  rw [if_neg h1] at hE
  by_cases h2 : C < 0 ∨ 65535 < C ∨ (T = 1 ∧ C ≠ 0)
  · rw [if_pos h2] at hE; simp at hE
  rw [if_neg h2] at hE
  by_cases h3 : ext.length % 4 ≠ 0 ∨ 1012 < ext.length
  · rw [if_pos h3] at hE; simp at hE
  rw [if_neg h3] at hE
  by_cases h4 : 1048576 < 8 + ext.length + body.length
  · rw [if_pos h4] at hE; simp at hE
  obtain ⟨s0, s1, s2, s3, hs⟩ := list4 (putL_length (8 + ext.length + body.length) 4)
  obtain ⟨c0, c1, hc⟩ := list2 (putL_length C.toNat 2)
  have e1 := beVal_put (8 + ext.length + body.length) 4
  have e2 := beVal_put C.toNat 2
  rw [hs] at e1
  rw [hc] at e2
  refine ⟨s0, s1, s2, s3, UInt8.ofNat ((8 + ext.length) / 4), UInt8.ofNat T.toNat, c0, c1, ?_, ?_, ?_, ?_, ?_, ?_, by omega, by omega, by omega, by omega, by omega⟩
  · unfold sealB
    rw [hs, hc]
    simp
  · rw [e1]; omega
  · have : (UInt8.ofNat ((8 + ext.length) / 4)).toNat = (8 + ext.length) / 4 % 256 := by simp
    omega
  · have : (UInt8.ofNat T.toNat).toNat = T.toNat % 256 := by simp
    omega
  · rw [e2]; omega
  · omega

/-- THE LAW: what is sealed is opened -/
theorem openL_seal (T C : Int) (ext body X : List UInt8) (p M : Nat) (hE : sealE T C ext.length body.length = 0) (hM : 8 + ext.length + body.length ≤ M) :
    openL (sealB T C ext body ++ X) p M = (T.toNat, C.toNat, ext, body, (p : Int) + (8 + ext.length + body.length : Nat), 0) := by
  obtain ⟨s0, s1, s2, s3, o, t, c0, c1, hS, h4, ho, ht, hc, hTC, h0, h5, h6, h7, h8⟩ := seal_form T C ext body hE
  rw [hS]
  obtain ⟨n, hn⟩ : ∃ n, 8 + ext.length + body.length = n := ⟨_, rfl⟩
  rw [hn] at h4 h6 hM ⊢
  have hlen : (s0 :: s1 :: s2 :: s3 :: o :: t :: c0 :: c1 :: (ext ++ body) ++ X).length = n + X.length := by simp; omega
  have e4 : beVal ((s0 :: s1 :: s2 :: s3 :: o :: t :: c0 :: c1 :: (ext ++ body) ++ X).take 4) = n := h4
  have e5 : ((s0 :: s1 :: s2 :: s3 :: o :: t :: c0 :: c1 :: (ext ++ body) ++ X).getD 4 0) = o := rfl
  have e6 : ((s0 :: s1 :: s2 :: s3 :: o :: t :: c0 :: c1 :: (ext ++ body) ++ X).getD 5 0) = t := rfl
  have e7 : beVal (((s0 :: s1 :: s2 :: s3 :: o :: t :: c0 :: c1 :: (ext ++ body) ++ X).drop 6).take 2) = C.toNat := hc
  have e8 : (s0 :: s1 :: s2 :: s3 :: o :: t :: c0 :: c1 :: (ext ++ body) ++ X).drop 8 = ext ++ body ++ X := rfl
  have e9 : (s0 :: s1 :: s2 :: s3 :: o :: t :: c0 :: c1 :: (ext ++ body) ++ X).drop (8 + ext.length) = body ++ X := by
    rw [← List.drop_drop, e8, List.append_assoc]
    exact List.drop_left' rfl
  unfold openL
  simp only [hlen, e4, e5, e6, e7, e8]
  rw [if_neg (by omega), if_neg (by omega), if_neg (by omega), ho, if_neg (by omega), if_neg (by omega), ht, if_neg (by omega), if_neg (by omega), e9]
  refine Prod.ext rfl (Prod.ext ?_ (Prod.ext ?_ (Prod.ext ?_ rfl)))
  · show (if T.toNat = 0 then C.toNat else 0) = C.toNat
    split <;> omega
  · show List.take (8 + ext.length - 8) (ext ++ body ++ X) = ext
    rw [List.append_assoc]
    exact List.take_left' (by omega)
  · show List.take (n - (8 + ext.length)) (body ++ X) = body
    exact List.take_left' (by omega)

/-- .. and a beginning of it is short -/
theorem openL_cut (T C : Int) (ext body X : List UInt8) (p M k : Nat) (hE : sealE T C ext.length body.length = 0) (hM : 8 + ext.length + body.length ≤ M) (hk : k < 8 + ext.length + body.length) :
    openL ((sealB T C ext body ++ X).take k) p M = (0, 0, [], [], 0, 10) := by
  obtain ⟨s0, s1, s2, s3, o, t, c0, c1, hS, h4, ho, ht, hc, hTC, h0, h5, h6, h7, h8⟩ := seal_form T C ext body hE
  rw [hS]
  obtain ⟨n, hn⟩ : ∃ n, 8 + ext.length + body.length = n := ⟨_, rfl⟩
  rw [hn] at h4 h6 hM hk
  have hlen : ((s0 :: s1 :: s2 :: s3 :: o :: t :: c0 :: c1 :: (ext ++ body) ++ X).take k).length = k := by
    rw [List.length_take]; simp; omega
  obtain ⟨L, hL⟩ : ∃ L, (s0 :: s1 :: s2 :: s3 :: o :: t :: c0 :: c1 :: (ext ++ body) ++ X).take k = L := ⟨_, rfl⟩
  unfold openL
  rw [hL] at hlen ⊢
  simp only [hlen]
  by_cases k4 : k < 4
  · rw [if_pos k4]
  have e4 : beVal (L.take 4) = n := by
    rw [← hL, List.take_take, Nat.min_eq_left (by omega)]; exact h4
  rw [if_neg k4]
  simp only [e4]
  rw [if_neg (by omega)]
  by_cases k5 : k < 5
  · rw [if_pos k5]
  have e5 : L.getD 4 0 = o := by
    rw [← hL, List.getD_eq_getElem?_getD, List.getElem?_take, if_pos (by omega)]; rfl
  rw [if_neg k5, e5, ho, if_neg (by omega)]
  by_cases k6 : k < 6
  · rw [if_pos k6]
  have e6 : L.getD 5 0 = t := by
    rw [← hL, List.getD_eq_getElem?_getD, List.getElem?_take, if_pos (by omega)]; rfl
  rw [if_neg k6, e6, ht, if_neg (by omega), if_pos hk]

theorem sealB_length (T C : Int) (ext body : List UInt8) : (sealB T C ext body).length = 8 + ext.length + body.length := by
  unfold sealB
  simp [putL_length]
  omega

/-- a header at the end is read -/
theorem readH_end (l : List UInt8) (p : Nat) (hp : p = 0 ∨ p = 3) : readH (l ++ headL p) l.length = ((p : Int), (l.length : Int) + 8, 0) := by
  have hR : (((l ++ headL p).drop l.length).take 8) = headL p := by
    rw [List.drop_left' rfl]; rfl
  rw [readH_in _ _ _ (by simp) hR]
  rcases hp with rfl | rfl
  · rfl
  · rfl
end Go.Proofs.Ytofdpccjpodbhaa
