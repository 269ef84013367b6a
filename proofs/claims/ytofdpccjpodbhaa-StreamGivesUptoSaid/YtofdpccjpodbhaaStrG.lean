/-
  What layer 5 has written comes out of the stream's machine as it was, in plain Lean. It speaks of no program. Conditions: fewer bytes than 2 to the 62nd.
-/
import Derived.Test.YtofdpccjpodbhaaStrF
import Derived.Test.YtofdpccjpodbhaaFrm
namespace Go.Proofs.Ytofdpccjpodbhaa
open Go.RowKit
set_option linter.unusedVariables false

theorem feed_cons (s : SM) (c : UInt8) (t : List UInt8) : feed s (c :: t) = ((feed (stepE s c).1 t).1, (if (stepE s c).2.kind = 0 then [] else [(stepE s c).2]) ++ (feed (stepE s c).1 t).2) := by
  have h := feed_append s [c] t
  rw [List.singleton_append] at h
  rw [h]
  have h1 : feed s [c] = ((stepE s c).1, if (stepE s c).2.kind = 0 then [] else [(stepE s c).2]) := by
    show feedF (s, []) c = _
    simp only [feedF]
    split <;> simp
  rw [h1]

theorem feed_quiet {s s' : SM} {c : UInt8} {t : List UInt8} (h : stepE s c = (s', .no)) : feed s (c :: t) = feed s' t := by
  rw [feed_cons, h]
  simp [Itm.no]

theorem step_rest (h : List UInt8) (t a : Int) (M n : Nat) (kd : Int) (c : UInt8) (ht : 0 ≤ t ∧ t < 9000000000000000000) (hl : h.length + 1 < n) :
    stepE ⟨4, h, t, a, M, n, false, kd, 0⟩ c = (⟨4, h ++ [c], t + 1, a, M, n, false, kd, 0⟩, .no) := by
  have hw : wrap64 (t + 1) = t + 1 := by unfold wrap64; omega
  simp only [stepE, if_true, step, SM.take1, hw, next1]
  rw [if_neg (by omega), if_neg (by omega), if_neg (by omega), if_neg (by omega), if_pos (by simp; omega)]

theorem step_last (h : List UInt8) (t a : Int) (M n : Nat) (kd : Int) (c : UInt8) (ht : 0 ≤ t ∧ t < 9000000000000000000) (hl : h.length + 1 = n) (T C : Nat) (e b : List UInt8) (p : Int) (ho : openR (h ++ [c]) 0 1048576 = (T, C, e, b, p, 0)) :
    stepE ⟨4, h, t, a, M, n, false, kd, 0⟩ c = (⟨1, [], t + 1, t + 1, M, n, false, kd, 0⟩, ⟨2, 0, T, C, e, b⟩) := by
  have hw : wrap64 (t + 1) = t + 1 := by unfold wrap64; omega
  simp only [stepE, if_true, step, SM.take1, hw, next1]
  rw [if_neg (by omega), if_neg (by omega), if_neg (by omega), if_neg (by omega), if_neg (by simp; omega), if_pos (by rw [ho])]
  rw [ho]
  rfl

theorem feed_rest : ∀ (r h : List UInt8) (t a : Int) (M n : Nat) (kd : Int) (T C : Nat) (e b : List UInt8) (p : Int), r ≠ [] → 0 ≤ t → t + r.length < 9000000000000000000 → h.length + r.length = n → openR (h ++ r) 0 1048576 = (T, C, e, b, p, 0) →
    feed ⟨4, h, t, a, M, n, false, kd, 0⟩ r = (⟨1, [], t + r.length, t + r.length, M, n, false, kd, 0⟩, [⟨2, 0, T, C, e, b⟩])
  | [], _, _, _, _, _, _, _, _, _, _, _, h0, _, _, _, _ => absurd rfl h0
  | [c], h, t, a, M, n, kd, T, C, e, b, p, _, ht, ht2, hl, ho => by
    rw [feed_cons, step_last h t a M n kd c ⟨ht, by simp at ht2; omega⟩ (by simpa using hl) T C e b p ho]
    simp [feed]
  | c :: d :: r, h, t, a, M, n, kd, T, C, e, b, p, _, ht, ht2, hl, ho => by
    simp only [List.length_cons] at hl ht2
    rw [feed_quiet (step_rest h t a M n kd c ⟨ht, by push_cast at ht2; omega⟩ (by omega))]
    rw [feed_rest (d :: r) (h ++ [c]) (t + 1) a M n kd T C e b p (by simp) (by omega) (by simp only [List.length_cons]; push_cast at ht2 ⊢; omega) (by simp; omega) (by rw [List.append_assoc]; exact ho)]
    have : t + 1 + ((d :: r).length : Int) = t + ((c :: d :: r).length : Int) := by simp; omega
    rw [this]

/-- a sealed frame comes out as it was -/
theorem feed_seal (T C : Int) (ext body : List UInt8) (hE : sealE T C ext.length body.length = 0) (t : Int) (ht : 0 ≤ t) (ht2 : t < 4000000000000000000) (sz : Nat) :
    feed ⟨1, [], t, t, 1048576, sz, false, T, 0⟩ (sealB T C ext body) = (⟨1, [], t + (8 + ext.length + body.length : Nat), t + (8 + ext.length + body.length : Nat), 1048576, 8 + ext.length + body.length, false, T, 0⟩, [⟨2, 0, T.toNat, C.toNat, ext, body⟩]) := by
  have hop := openL_seal T C ext body [] 0 1048576 hE (by
    unfold sealE at hE
    split at hE <;> try (simp at hE)
    split at hE <;> try (simp at hE)
    split at hE <;> try (simp at hE)
    omega)
  rw [List.append_nil] at hop
  have hopen : openR (sealB T C ext body) 0 1048576 = (T.toNat, C.toNat, ext, body, (0 : Int) + (8 + ext.length + body.length : Nat), 0) := by
    have h9 := openR_at (sealB T C ext body) 0 1048576 (Nat.zero_le _) (by decide) (by decide)
    rw [List.drop_zero] at h9
    exact h9.trans hop
  obtain ⟨s0, s1, s2, s3, o, ty, c0, c1, hS, h4, ho, hty, hc, hTC, h0, h5, h6, h7, h8⟩ := seal_form T C ext body hE
  obtain ⟨n, hn⟩ : ∃ n, 8 + ext.length + body.length = n := ⟨_, rfl⟩
  rw [hn] at h4 h6 hopen ⊢
  rw [hS] at hopen ⊢
  have hw : ∀ k : Int, 0 ≤ k → k < 9000000000000000000 → wrap64 (k + 1) = k + 1 := fun k _ _ => by unfold wrap64; omega
  have q1 : stepE ⟨1, [], t, t, 1048576, sz, false, T, 0⟩ s0 = (⟨1, [s0], t + 1, t, 1048576, sz, false, T, 0⟩, .no) := by
    simp [stepE, step, SM.take1, next1, hw t ht (by omega)]
  have q2 : stepE ⟨1, [s0], t + 1, t, 1048576, sz, false, T, 0⟩ s1 = (⟨1, [s0, s1], t + 1 + 1, t, 1048576, sz, false, T, 0⟩, .no) := by
    simp [stepE, step, SM.take1, next1, hw (t + 1) (by omega) (by omega)]
  have q3 : stepE ⟨1, [s0, s1], t + 1 + 1, t, 1048576, sz, false, T, 0⟩ s2 = (⟨1, [s0, s1, s2], t + 1 + 1 + 1, t, 1048576, sz, false, T, 0⟩, .no) := by
    simp [stepE, step, SM.take1, next1, hw (t + 1 + 1) (by omega) (by omega)]
  have hne : ¬ ([s0, s1, s2, s3] : List UInt8) = [76, 83, 72, 82] := by
    intro h
    rw [h] at h4
    have : beVal [76, 83, 72, 82] = 1280526418 := by decide
    omega
  have hn8 : 8 ≤ n := by omega
  have q4 : stepE ⟨1, [s0, s1, s2], t + 1 + 1 + 1, t, 1048576, sz, false, T, 0⟩ s3 = (⟨2, [s0, s1, s2, s3], t + 1 + 1 + 1 + 1, t, 1048576, n, false, T, 0⟩, .no) := by
    have hb : beVal (([s0, s1, s2] ++ [s3]).take 4) = n := h4
    simp only [stepE, if_true, step, SM.take1, next1, hw (t + 1 + 1 + 1) (by omega) (by omega)]
    rw [if_neg (by decide), if_neg (by simp), if_neg (by exact hne), if_neg (by rw [hb]; omega), hb]
    rfl
  have q5 : stepE ⟨2, [s0, s1, s2, s3], t + 1 + 1 + 1 + 1, t, 1048576, n, false, T, 0⟩ o = (⟨3, [s0, s1, s2, s3, o], t + 1 + 1 + 1 + 1 + 1, t, 1048576, n, false, T, 0⟩, .no) := by
    have hg : (([s0, s1, s2, s3] ++ [o]).getD 4 0) = o := rfl
    simp only [stepE, if_true, step, SM.take1, next1, hw (t + 1 + 1 + 1 + 1) (by omega) (by omega)]
    rw [if_neg (by decide), if_neg (by decide), if_neg (by rw [hg]; omega)]
    rfl
  have q6 : stepE ⟨3, [s0, s1, s2, s3, o], t + 1 + 1 + 1 + 1 + 1, t, 1048576, n, false, T, 0⟩ ty = (⟨4, [s0, s1, s2, s3, o, ty], t + 1 + 1 + 1 + 1 + 1 + 1, t, 1048576, n, false, T, 0⟩, .no) := by
    have hg : (([s0, s1, s2, s3, o] ++ [ty]).getD 5 0) = ty := rfl
    simp only [stepE, if_true, step, SM.take1, next1, hw (t + 1 + 1 + 1 + 1 + 1) (by omega) (by omega)]
    rw [if_neg (by decide), if_neg (by decide), if_neg (by decide), if_neg (by rw [hg]; omega), if_neg (by rw [hg]; omega)]
    rfl
  rw [feed_quiet q1, feed_quiet q2, feed_quiet q3, feed_quiet q4, feed_quiet q5, feed_quiet q6]
  have hlen : (c0 :: c1 :: (ext ++ body)).length + 6 = n := by simp; omega
  rw [feed_rest (c0 :: c1 :: (ext ++ body)) [s0, s1, s2, s3, o, ty] _ t 1048576 n T T.toNat C.toNat ext body _ (by simp) (by omega) (by omega) (by simp; omega) hopen]
  have : t + 1 + 1 + 1 + 1 + 1 + 1 + ((c0 :: c1 :: (ext ++ body)).length : Int) = t + n := by omega
  rw [this]

theorem feed_head0 : feed (SM.new 1048576) (headL 0) = (⟨1, [], 8, 8, 1048576, 0, false, 0, 0⟩, [⟨1, 0, 0, 0, [], []⟩]) := by kernel_rfl
theorem feed_head3 : feed (SM.new 1048576) (headL 3) = (⟨1, [], 8, 8, 1048576, 0, false, 1, 0⟩, [⟨1, 3, 0, 0, [], []⟩]) := by kernel_rfl
end Go.Proofs.Ytofdpccjpodbhaa
