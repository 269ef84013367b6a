/-
  The stream's machine over many bytes, in plain Lean: what comes of chunks comes of all bytes in one; how it stands. It speaks of no program. Conditions: fewer bytes than 2 to the 63rd.
-/
import Derived.Test.YtofdpccjpodbhaaStr9
namespace Go.Proofs.Ytofdpccjpodbhaa
open Go.RowKit
set_option linter.unusedVariables false

/-- a byte, at a stream that may be closed -/
def stepE (s : SM) (c : UInt8) : SM × Itm := if s.err = 0 then step s c else (s, .no)
def feedF (p : SM × List Itm) (c : UInt8) : SM × List Itm := ((stepE p.1 c).1, if (stepE p.1 c).2.kind = 0 then p.2 else p.2 ++ [(stepE p.1 c).2])
/-- all items of some bytes -/
def feed (s : SM) (l : List UInt8) : SM × List Itm := l.foldl feedF (s, [])

theorem feedF_acc (l : List UInt8) (s : SM) (a : List Itm) : l.foldl feedF (s, a) = ((feed s l).1, a ++ (feed s l).2) := by
  induction l generalizing s a with
  | nil => simp [feed]
  | cons c t ih =>
    unfold feed
    simp only [List.foldl_cons]
    rw [ih, ih (feedF (s, []) c).1 (feedF (s, []) c).2]
    have h1 : (feedF (s, a) c).1 = (feedF (s, []) c).1 := rfl
    have h2 : (feedF (s, a) c).2 = a ++ (feedF (s, []) c).2 := by
      simp only [feedF]
      split <;> simp
    rw [h1, h2, List.append_assoc]

theorem feed_append (s : SM) (a b : List UInt8) : feed s (a ++ b) = ((feed (feed s a).1 b).1, (feed s a).2 ++ (feed (feed s a).1 b).2) := by
  show List.foldl feedF (s, []) (a ++ b) = _
  rw [List.foldl_append]
  exact feedF_acc b (feed s a).1 (feed s a).2

theorem feed_closed (s : SM) (l : List UInt8) (h : s.err ≠ 0) : feed s l = (s, []) := by
  induction l with
  | nil => rfl
  | cons c t ih =>
    show List.foldl feedF (feedF (s, []) c) t = _
    have : feedF (s, []) c = (s, []) := by simp [feedF, stepE, h, Itm.no]
    rw [this]
    exact ih

/-- so far a range has come -/
def FeedAt (s : SM) (ch : List UInt8) (k : Nat) (s' : SM) (its : List Itm) : Prop := feed s (ch.take k) = (s', its)

theorem FeedAt.start (s : SM) (ch : List UInt8) : FeedAt s ch 0 s [] := by simp [FeedAt, feed]

theorem FeedAt.next {s s' : SM} {ch : List UInt8} {k : Nat} {its : List Itm} (h : FeedAt s ch k s' its) (hk : k < ch.length) (he : s'.err = 0) :
    FeedAt s ch (k + 1) (step s' (ch.getD k 0)).1 (if (step s' (ch.getD k 0)).2.kind = 0 then its else its ++ [(step s' (ch.getD k 0)).2]) := by
  unfold FeedAt at *
  have ht : ch.take (k + 1) = ch.take k ++ [ch.getD k 0] := by
    rw [List.getD_eq_getElem?_getD, List.getElem?_eq_getElem hk]
    simp
  rw [ht]
  show List.foldl feedF (s, []) _ = _
  rw [List.foldl_append, show List.foldl feedF (s, []) (List.take k ch) = (s', its) from h]
  simp only [List.foldl_cons, List.foldl_nil, feedF, stepE, if_pos he]

theorem FeedAt.done {s s' : SM} {ch : List UInt8} {k : Nat} {its : List Itm} (h : FeedAt s ch k s' its) (hk : k = ch.length ∨ s'.err ≠ 0) : feed s ch = (s', its) := by
  unfold FeedAt at h
  rcases hk with rfl | he
  · rwa [List.take_length] at h
  · have := feed_append s (ch.take k) (ch.drop k)
    rw [List.take_append_drop] at this
    rw [this, h, feed_closed s' _ he]
    simp

/-- how it stands when k bytes have come -/
structure Std (s : SM) (k : Nat) : Prop where
  most : 512 ≤ s.most
  good : s.err = 0 → s.taken = k ∧ s.at_ + s.held.length = k ∧ (s.hdr = true → s.ph = 0) ∧ (2 ≤ s.ph → s.size ≤ s.most)
  bad : s.err ≠ 0 → s.taken ≤ k ∧ s.at_ < s.taken

theorem Std.new (m : Nat) (h : 512 ≤ m) : Std (SM.new m) 0 := ⟨h, fun _ => ⟨rfl, rfl, fun _ => rfl, fun h => by simp [SM.new] at h⟩, fun h => absurd rfl h⟩

theorem Std.step {s : SM} {k : Nat} (h : Std s k) (ho : Ok s) (he : s.err = 0) (hk : k < 9000000000000000000) (c : UInt8) : Std (step s c).1 (k + 1) := by
  obtain ⟨h1, h2, h3, h4⟩ := h.good he
  have hm := h.most
  have hp := ho.pre he c
  have hl := ho.len he
  obtain ⟨ph, l, t, a, mo, sz, hr, kd, er⟩ := s
  simp only at he h1 h2 h3 h4 hm hl
  subst he h1
  have hw : wrap64 ((k : Int) + 1) = (k : Int) + 1 := by unfold wrap64; omega
  have hlen : ((l ++ [c]).length : Int) = l.length + 1 := by simp
  unfold Go.Proofs.Ytofdpccjpodbhaa.step SM.take1
  simp only [hw]
  generalize hL : l ++ [c] = L at hlen ⊢
  unfold next1
  simp only
  split
  · rename_i h0
    split
    · exact ⟨hm, fun _ => ⟨by simp, by simp only; push_cast; omega, h3, fun h => by simp only at h; omega⟩, fun h => absurd rfl h⟩
    · split
      · exact ⟨hm, fun _ => ⟨by simp [SM.tell], by simp [SM.tell], fun h => by simp [SM.tell] at h, fun h => by simp [SM.tell] at h⟩, fun h => absurd rfl h⟩
      · rename_i q1 q2
        exact ⟨hm, fun h => absurd h q2, fun _ => ⟨by simp [SM.fail], by simp only [SM.fail]; omega⟩⟩
  · rename_i h0
    have hh : hr = false := by
      cases hr with
      | true => exact absurd (h3 rfl) h0
      | false => rfl
    split
    · rename_i hp1
      split
      · exact ⟨hm, fun _ => ⟨by simp, by simp only; push_cast; omega, h3, fun h => by simp only at h; omega⟩, fun h => absurd rfl h⟩
      · split
        · exact ⟨hm, fun h => by simp [SM.fail] at h, fun _ => ⟨by simp [SM.fail], by simp only [SM.fail]; omega⟩⟩
        · split
          · exact ⟨hm, fun h => by simp [SM.fail] at h, fun _ => ⟨by simp [SM.fail], by simp only [SM.fail]; omega⟩⟩
          · rename_i q
            exact ⟨hm, fun _ => ⟨by simp, by simp only; push_cast; omega, fun h => by simp [hh] at h, fun _ => by simp only; omega⟩, fun h => absurd rfl h⟩
    · split
      · rename_i hp1
        split
        · exact ⟨hm, fun h => by simp [SM.fail] at h, fun _ => ⟨by simp [SM.fail], by simp only [SM.fail]; omega⟩⟩
        · exact ⟨hm, fun _ => ⟨by simp, by simp only; push_cast; omega, fun h => by simp [hh] at h, fun _ => h4 (by omega)⟩, fun h => absurd rfl h⟩
      · split
        · rename_i hp1
          split
          · exact ⟨hm, fun h => by simp [SM.fail] at h, fun _ => ⟨by simp [SM.fail], by simp only [SM.fail]; omega⟩⟩
          · split
            · exact ⟨hm, fun h => by simp [SM.fail] at h, fun _ => ⟨by simp [SM.fail], by simp only [SM.fail]; omega⟩⟩
            · exact ⟨hm, fun _ => ⟨by simp, by simp only; push_cast; omega, fun h => by simp [hh] at h, fun _ => h4 (by omega)⟩, fun h => absurd rfl h⟩
        · split
          · exact ⟨hm, fun _ => ⟨by simp, by simp only; push_cast; omega, fun h => by simp [hh] at h, fun h => h4 h⟩, fun h => absurd rfl h⟩
          · split
            · exact ⟨hm, fun _ => ⟨by simp [SM.tell], by simp [SM.tell], fun h => by simp [SM.tell, hh] at h, fun h => by simp [SM.tell] at h⟩, fun h => absurd rfl h⟩
            · rename_i q1 q2
              exact ⟨hm, fun h => absurd h q2, fun _ => ⟨by simp [SM.fail], by simp only [SM.fail]; omega⟩⟩

theorem Std.mono {s : SM} {k : Nat} (h : Std s k) (he : s.err ≠ 0) : Std s (k + 1) := ⟨h.most, fun h => absurd h he, fun hq => ⟨by have := (h.bad hq).1; push_cast; omega, (h.bad hq).2⟩⟩

theorem feed_std (l : List UInt8) (s : SM) (k : Nat) (h : Std s k) (ho : Ok s) (hk : k + l.length ≤ 9000000000000000000) : Std (feed s l).1 (k + l.length) ∧ Ok (feed s l).1 := by
  induction l generalizing s k with
  | nil => exact ⟨h, ho⟩
  | cons c t ih =>
    have hc : feed s (c :: t) = feed s ([c] ++ t) := rfl
    rw [hc, feed_append]
    simp only
    simp only [List.length_cons] at hk ⊢
    have h1 : (feed s [c]).1 = (stepE s c).1 := rfl
    rw [h1]
    have h2 : Std (stepE s c).1 (k + 1) ∧ Ok (stepE s c).1 := by
      unfold stepE
      split
      · rename_i he
        exact ⟨h.step ho he (by omega) c, ho.step he c⟩
      · rename_i he
        exact ⟨h.mono he, ho⟩
    have := ih (stepE s c).1 (k + 1) h2.1 h2.2 (by omega)
    rw [show k + (t.length + 1) = k + 1 + t.length by omega]
    exact this

theorem step_most (s : SM) (c : UInt8) : (step s c).1.most = s.most := by
  unfold Go.Proofs.Ytofdpccjpodbhaa.step next1
  repeat' split
  all_goals rfl

theorem feed_most (l : List UInt8) (s : SM) : (feed s l).1.most = s.most := by
  induction l generalizing s with
  | nil => rfl
  | cons c t ih =>
    have hc : feed s (c :: t) = feed s ([c] ++ t) := rfl
    rw [hc, feed_append]
    simp only
    rw [ih]
    show (stepE s c).1.most = s.most
    unfold stepE
    split
    · exact step_most s c
    · rfl
end Go.Proofs.Ytofdpccjpodbhaa
