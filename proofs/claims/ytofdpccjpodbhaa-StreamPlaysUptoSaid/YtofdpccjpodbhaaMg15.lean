/-
  The stream as a machine of its own: its state, what one more byte means; each method of the stream does just that. Conditions: the stream lies in a block of its own.
  A range over a function whose iterator keeps state of its own in cells: one law, which leaves the invariant to the caller. It speaks of no program. No conditions.
-/
import Derived.Test.YtofdpccjpodbhaaMg14
import Derived.RangeFuncNested
import Derived.RangeFuncBound
import Derived.RangeFuncCalls
import Derived.RangeFuncLeaves
import Derived.Shelf.Abstract
import Derived.Shelf.RegionOpen
import Derived.WalkKit
import Derived.OwnWalkIn
import Derived.TacticsInMore
import Derived.LoopNIn
import Derived.LoopIn
namespace Go.Proofs.Ytofdpccjpodbhaa
open Go.RowKit
set_option linter.unusedVariables false

/-- a stream's state: which method comes next (0 proto, 1 length, 2 offset, 3 sort, 4 rest), what is held, and the numbers -/
structure SM where
  ph : Nat
  held : List UInt8
  taken : Int
  at_ : Int
  most : Nat
  size : Nat
  hdr : Bool
  kind : Int
  err : Int
/-- an item; kind 0: none -/
structure Itm where
  kind : Int
  proto : Int
  T : Nat
  ch : Nat
  ext : List UInt8
  body : List UInt8

def Itm.no : Itm := ⟨0, 0, 0, 0, [], []⟩
def SM.fail (s : SM) (e : Int) : SM := { s with err := e, held := [] }
def SM.tell (s : SM) : SM := { s with held := [], at_ := s.taken, ph := 1 }

/-- what the byte that was taken last means -/
def next1 (s : SM) : SM × Itm :=
  if s.ph = 0 then
    if (readH s.held 0).2.2 = 10 then (s, .no)
    else if (readH s.held 0).2.2 = 0 then (({ s with hdr := false, kind := if (readH s.held 0).1 = 3 then 1 else 0 } : SM).tell, ⟨1, (readH s.held 0).1, 0, 0, [], []⟩)
    else (s.fail (readH s.held 0).2.2, .no)
  else if s.ph = 1 then
    if s.held.length < 4 then (s, .no)
    else if s.held = [76, 83, 72, 82] then (s.fail 60, .no)
    else if beVal (s.held.take 4) < 8 ∨ s.most < beVal (s.held.take 4) then (s.fail 51, .no)
    else ({ s with size := beVal (s.held.take 4), ph := 2 }, .no)
  else if s.ph = 2 then
    if (s.held.getD 4 0).toNat < 2 ∨ s.size < 4 * (s.held.getD 4 0).toNat then (s.fail 52, .no)
    else ({ s with ph := 3 }, .no)
  else if s.ph = 3 then
    if (s.held.getD 5 0).toNat ≠ 0 ∧ (s.held.getD 5 0).toNat ≠ 1 then (s.fail 53, .no)
    else if ((s.held.getD 5 0).toNat : Int) ≠ s.kind then (s.fail 60, .no)
    else ({ s with ph := 4 }, .no)
  else
    if s.held.length < s.size then (s, .no)
    else if (openR s.held 0 1048576).2.2.2.2.2 = 0 then
      (s.tell, ⟨2, 0, (openR s.held 0 1048576).1, (openR s.held 0 1048576).2.1, (openR s.held 0 1048576).2.2.1, (openR s.held 0 1048576).2.2.2.1⟩)
    else (s.fail (openR s.held 0 1048576).2.2.2.2.2, .no)

/-- the byte has been laid into held, and is not looked at yet -/
structure Pre (s : SM) : Prop where
  most : s.most ≤ 1048576
  size : s.size ≤ 1048576
  len : (s.ph = 0 ∧ s.held.length ≤ 8) ∨ (s.ph = 1 ∧ s.held.length ≤ 4) ∨ (s.ph = 2 ∧ s.held.length = 5) ∨ (s.ph = 3 ∧ s.held.length = 6) ∨ (s.ph = 4 ∧ 6 < s.held.length ∧ s.held.length ≤ s.size)

/-- the method of a phase -/
def fnOf : Nat → Nat
  | 0 => 51
  | 1 => 71
  | 2 => 73
  | 3 => 76
  | _ => 78

/-- the stream in memory: its block, its held bytes -/
structure InS (w : World) (b B : Nat) (s : SM) (hv : Value) (it : Itm) (ve vb : Value) : Prop where
  row : w.heap[b]? = some (.cells #[nextF b (fnOf s.ph), hv, .int .i64 s.taken, .int .i64 s.at_, .int .i64 s.most, .int .i64 s.size, .bool s.hdr, .int .i64 s.kind, .int .i64 s.err, .int .i64 it.kind, .int .i64 it.proto, .int .i64 it.T, .int .i64 it.ch, ve, vb] 91 (0, 0))
  held : OwnBytes w B 5 hv s.held
  lt : b < B
  le : B ≤ w.heap.size

/-- an item's bytes are new -/
structure ItO (n : Nat) (w : World) (it : Itm) (ve vb : Value) : Prop where
  nil : it.kind = 0 → it = .no ∧ ve = .slice none 0 0 ∧ vb = .slice none 0 0
  ext : OwnBytes w n 5 ve it.ext
  body : OwnBytes w n 5 vb it.body
  apart : Apart ve vb

theorem ItO.no (n : Nat) (w : World) : ItO n w .no (.slice none 0 0) (.slice none 0 0) := ⟨fun _ => ⟨rfl, rfl, rfl⟩, OwnBytes.nil _ _ _, OwnBytes.nil _ _ _, .inl rfl⟩

theorem OwnBytes.cut0 {w : World} {B T n c : Nat} {p : Option Addr} {l : List UInt8} (h : OwnBytes w B T (.slice p n c) l) : OwnBytes w B T (.slice p 0 c) [] := by
  obtain ⟨h1, h2⟩ := h.row
  refine ⟨rfl, ?_⟩
  rcases h2 with ⟨h2, _⟩ | ⟨g, cap, cur, e, hg, hh, h3, h4, h5, _⟩
  · simp only [Value.slice.injEq] at h2
    obtain ⟨rfl, _, rfl⟩ := h2
    exact .inl ⟨rfl, rfl⟩
  · simp only [Value.slice.injEq] at e
    obtain ⟨rfl, _, rfl⟩ := e
    exact .inr ⟨g, c, cur, rfl, hg, hh, Nat.zero_le _, h4, h5, by simp⟩

theorem ownBlock_cut (p : Option Addr) (n c : Nat) : (Value.slice p 0 c).ownBlock = (Value.slice p n c).ownBlock := by cases p <;> rfl

theorem OwnBytes.off' {w : World} {B T b : Nat} {v : Value} {l : List UInt8} (h : OwnBytes w B T v l) (hb : b < B) : v.ownBlock = none ∨ v.ownBlock ≠ some b := by
  have h1 := h.row
  rcases h1.2 with ⟨rfl, _⟩ | ⟨g, cap, cur, rfl, hg, _⟩
  · exact .inl rfl
  · refine .inr fun hq => ?_
    simp only [Value.ownBlock, Option.some.injEq] at hq
    omega

/-- what a method leaves -/
def MPost (w : World) (b B : Nat) (s : SM) (hv : Value) (e : Ending) (w' : World) : Prop :=
  e = .returned (.tuple #[]) ∧ ∃ hv' ve vb, InS w' b B (next1 s).1 hv' (next1 s).2 ve vb ∧ w.grownBy w' (some b) ∧ (hv' = .slice none 0 0 ∨ hv'.ownBlock = hv.ownBlock) ∧ ItO w.heap.size w' (next1 s).2 ve vb

theorem meth_any (w : World) (b B : Nat) (s : SM) (hv : Value) (hS : InS w b B s hv .no (.slice none 0 0) (.slice none 0 0)) (hp : Pre s) :
    Calls Try.prog (fnOf s.ph) #[.pointer (some ⟨b, 0, none⟩)] w (MPost w b B s hv) := by
  obtain ⟨ph, l, t, a, mo, sz, hr, kd, er⟩ := s
  obtain ⟨hs, ho, hlt, hle⟩ := hS
  obtain ⟨hmo, hsz, hlen⟩ := hp
  simp only at hs ho hmo hsz hlen ⊢
  obtain ⟨p, c, rfl, hby⟩ := ho.bytes
  have hcap := hby.cap
  have hno : ∀ {w' : World}, w.grownBy w' (some b) → OwnBytes w' B 5 (.slice p l.length c) l := fun hg => ho.kept hg (ho.off' hlt)
  have hle' : ∀ {w' : World}, w.grownBy w' (some b) → B ≤ w'.heap.size := fun hg => Nat.le_trans hle hg.size
  have h9 : ∃ x0 x1 x2 x3 p4 n4 c4 p5 n5 c5, Value.int .i64 Itm.no.kind = .int .i64 x0 ∧ Value.int .i64 Itm.no.proto = .int .i64 x1 ∧ Value.int .i64 Itm.no.T = .int .i64 x2 ∧ Value.int .i64 Itm.no.ch = .int .i64 x3 ∧ Value.slice none 0 0 = .slice p4 n4 c4 ∧ Value.slice none 0 0 = .slice p5 n5 c5 := ⟨_, _, _, _, _, _, _, _, _, _, rfl, rfl, rfl, rfl, rfl, rfl⟩
  rcases hlen with ⟨rfl, hl⟩ | ⟨rfl, hl⟩ | ⟨rfl, hl⟩ | ⟨rfl, hl⟩ | ⟨rfl, hl, hl2⟩
  · -- a header's byte
    have hz : l.length ≤ 140737488355328 := by omega
    obtain ⟨r1, r2, r3, hr3⟩ : ∃ r1 r2 r3, readH l 0 = (r1, r2, r3) := ⟨_, _, _, rfl⟩
    by_cases h10 : r3 = 10
    · subst h10
      refine (proto_short w b _ _ _ _ _ _ _ _ _ p _ c t a kd er hr l hs hby hz r1 r2 hr3).mono ?_
      rintro e w' ⟨rfl, hh, hg⟩
      have hn : next1 ⟨0, l, t, a, mo, sz, hr, kd, er⟩ = (⟨0, l, t, a, mo, sz, hr, kd, er⟩, .no) := by simp [next1, hr3]
      unfold MPost
      rw [hn]
      exact ⟨rfl, _, _, _, ⟨hh, hno hg, hlt, hle' hg⟩, hg, .inr rfl, ItO.no _ _⟩
    · by_cases h0 : r3 = 0
      · subst h0
        refine (proto_ok w b _ _ _ _ _ _ _ _ _ p _ c t a kd er hr l hs hby hz h9 ⟨_, _, _, rfl⟩ r1 r2 hr3).mono ?_
        rintro e w' ⟨rfl, hh, hg⟩
        have hn : next1 ⟨0, l, t, a, mo, sz, hr, kd, er⟩ = (⟨1, [], t, t, mo, sz, false, if r1 = 3 then 1 else 0, er⟩, ⟨1, r1, 0, 0, [], []⟩) := by simp [next1, hr3, SM.tell]
        unfold MPost
        rw [hn]
        exact ⟨rfl, _, _, _, ⟨hh, (hno hg).cut0, hlt, hle' hg⟩, hg, .inr (ownBlock_cut _ _ _), ⟨fun h => by simp at h, OwnBytes.nil _ _ _, OwnBytes.nil _ _ _, .inl rfl⟩⟩
      · refine (proto_bad w b _ _ _ _ _ _ _ _ _ p _ c t a kd er hr l hs hby hz r1 r2 r3 hr3 h10 h0).mono ?_
        rintro e w' ⟨rfl, hh, hg⟩
        have hn : next1 ⟨0, l, t, a, mo, sz, hr, kd, er⟩ = (⟨0, [], t, a, mo, sz, hr, kd, r3⟩, .no) := by simp [next1, hr3, SM.fail, h10, h0]
        unfold MPost
        rw [hn]
        exact ⟨rfl, _, _, _, ⟨hh, OwnBytes.nil _ _ _, hlt, hle' hg⟩, hg, .inl rfl, ItO.no _ _⟩
  · -- a size's byte
    by_cases h4 : l.length < 4
    · refine (length_wait w b _ _ _ _ _ _ _ _ _ _ _ _ _ p _ c mo sz er l hs hby h4).mono ?_
      rintro e w' ⟨rfl, rfl⟩
      have hn : next1 ⟨1, l, t, a, mo, sz, hr, kd, er⟩ = (⟨1, l, t, a, mo, sz, hr, kd, er⟩, .no) := by simp [next1, h4]
      unfold MPost
      rw [hn]
      have hg : w.grownBy w (some b) := ⟨rfl, rfl, rfl, Nat.le_refl _, fun _ _ _ => rfl⟩
      exact ⟨rfl, _, _, _, ⟨hs, hno hg, hlt, hle' hg⟩, hg, .inr rfl, ItO.no _ _⟩
    · have e4 : l.length = 4 := by omega
      rw [e4] at hs hby
      by_cases ho' : l = [76, 83, 72, 82]
      · refine (length_order w b _ _ _ _ _ _ _ _ _ _ _ _ _ p c mo sz er l hs hby hmo _ rfl ho').mono ?_
        rintro e w' ⟨rfl, hh, hg⟩
        have hn : next1 ⟨1, l, t, a, mo, sz, hr, kd, er⟩ = (⟨1, [], t, a, mo, sz, hr, kd, 60⟩, .no) := by simp [next1, SM.fail, ho']
        unfold MPost
        rw [hn]
        exact ⟨rfl, _, _, _, ⟨hh, OwnBytes.nil _ _ _, hlt, hle' hg⟩, hg, .inl rfl, ItO.no _ _⟩
      · obtain ⟨S, hSS⟩ : ∃ S, beVal (l.take 4) = S := ⟨_, rfl⟩
        by_cases hx : S < 8 ∨ mo < S
        · refine (length_bad w b _ _ _ _ _ _ _ _ _ _ _ _ _ p c mo sz er l hs hby hmo S hSS ho' hx).mono ?_
          rintro e w' ⟨rfl, hh, hg⟩
          have hn : next1 ⟨1, l, t, a, mo, sz, hr, kd, er⟩ = (⟨1, [], t, a, mo, sz, hr, kd, 51⟩, .no) := by
            unfold next1
            simp only [hSS, if_neg (show ¬ (1 = 0) by decide), if_true, if_neg h4, if_neg ho', if_pos hx]
            rfl
          unfold MPost
          rw [hn]
          exact ⟨rfl, _, _, _, ⟨hh, OwnBytes.nil _ _ _, hlt, hle' hg⟩, hg, .inl rfl, ItO.no _ _⟩
        · refine (length_ok w b _ _ _ _ _ _ _ _ _ _ _ _ _ p c mo sz er l hs hby hmo S hSS ho' (by omega)).mono ?_
          rintro e w' ⟨rfl, hh, hg⟩
          have hn : next1 ⟨1, l, t, a, mo, sz, hr, kd, er⟩ = (⟨2, l, t, a, mo, S, hr, kd, er⟩, .no) := by
            unfold next1
            simp only [hSS, if_neg (show ¬ (1 = 0) by decide), if_true, if_neg h4, if_neg ho', if_neg hx]
          unfold MPost
          rw [hn]
          have hno' := hno hg
          rw [e4] at hno'
          exact ⟨rfl, _, _, _, ⟨hh, hno', hlt, hle' hg⟩, hg, .inr (by rw [e4]), ItO.no _ _⟩
  · -- where the body begins
    by_cases hx : (l.getD 4 0).toNat < 2 ∨ sz < 4 * (l.getD 4 0).toNat
    · refine (offset_bad w b _ _ _ _ _ _ _ _ _ _ _ _ _ p _ c sz kd er l hs hby (by omega) hx).mono ?_
      rintro e w' ⟨rfl, hh, hg⟩
      have hn : next1 ⟨2, l, t, a, mo, sz, hr, kd, er⟩ = (⟨2, [], t, a, mo, sz, hr, kd, 52⟩, .no) := by
        unfold next1
        simp only [if_neg (show ¬ (2 = 0) by decide), if_neg (show ¬ (2 = 1) by decide), if_true, if_pos hx]
        rfl
      unfold MPost
      rw [hn]
      exact ⟨rfl, _, _, _, ⟨hh, OwnBytes.nil _ _ _, hlt, hle' hg⟩, hg, .inl rfl, ItO.no _ _⟩
    · refine (offset_ok w b _ _ _ _ _ _ _ _ _ _ _ _ _ p _ c sz kd er l hs hby (by omega) (by omega)).mono ?_
      rintro e w' ⟨rfl, hh, hg⟩
      have hn : next1 ⟨2, l, t, a, mo, sz, hr, kd, er⟩ = (⟨3, l, t, a, mo, sz, hr, kd, er⟩, .no) := by
        unfold next1
        simp only [if_neg (show ¬ (2 = 0) by decide), if_neg (show ¬ (2 = 1) by decide), if_true, if_neg hx]
      unfold MPost
      rw [hn]
      exact ⟨rfl, _, _, _, ⟨hh, hno hg, hlt, hle' hg⟩, hg, .inr rfl, ItO.no _ _⟩
  · -- the type
    obtain ⟨y, hy⟩ : ∃ y, (l.getD 5 0).toNat = y := ⟨_, rfl⟩
    by_cases hx : y ≠ 0 ∧ y ≠ 1
    · refine (sort_type w b _ _ _ _ _ _ _ _ _ _ _ _ _ p _ c sz kd er l hs hby (by omega) (by omega)).mono ?_
      rintro e w' ⟨rfl, hh, hg⟩
      have hn : next1 ⟨3, l, t, a, mo, sz, hr, kd, er⟩ = (⟨3, [], t, a, mo, sz, hr, kd, 53⟩, .no) := by
        unfold next1
        simp only [hy, if_neg (show ¬ (3 = 0) by decide), if_neg (show ¬ (3 = 1) by decide), if_neg (show ¬ (3 = 2) by decide), if_true, if_pos hx]
        rfl
      unfold MPost
      rw [hn]
      exact ⟨rfl, _, _, _, ⟨hh, OwnBytes.nil _ _ _, hlt, hle' hg⟩, hg, .inl rfl, ItO.no _ _⟩
    · by_cases hk : (y : Int) ≠ kd
      · refine (sort_order w b _ _ _ _ _ _ _ _ _ _ _ _ _ p _ c sz kd er l hs hby (by omega) (by omega)).mono ?_
        rintro e w' ⟨rfl, hh, hg⟩
        have hn : next1 ⟨3, l, t, a, mo, sz, hr, kd, er⟩ = (⟨3, [], t, a, mo, sz, hr, kd, 60⟩, .no) := by
          unfold next1
          simp only [hy, if_neg (show ¬ (3 = 0) by decide), if_neg (show ¬ (3 = 1) by decide), if_neg (show ¬ (3 = 2) by decide), if_true, if_neg hx, if_pos hk]
          rfl
        unfold MPost
        rw [hn]
        exact ⟨rfl, _, _, _, ⟨hh, OwnBytes.nil _ _ _, hlt, hle' hg⟩, hg, .inl rfl, ItO.no _ _⟩
      · refine (sort_ok w b _ _ _ _ _ _ _ _ _ _ _ _ _ p _ c sz kd er l hs hby (by omega) (by omega)).mono ?_
        rintro e w' ⟨rfl, hh, hg⟩
        have hn : next1 ⟨3, l, t, a, mo, sz, hr, kd, er⟩ = (⟨4, l, t, a, mo, sz, hr, kd, er⟩, .no) := by
          unfold next1
          simp only [hy, if_neg (show ¬ (3 = 0) by decide), if_neg (show ¬ (3 = 1) by decide), if_neg (show ¬ (3 = 2) by decide), if_true, if_neg hx, if_neg hk]
        unfold MPost
        rw [hn]
        exact ⟨rfl, _, _, _, ⟨hh, hno hg, hlt, hle' hg⟩, hg, .inr rfl, ItO.no _ _⟩
  · -- all other bytes
    have hz : l.length ≤ 140737488355328 := by omega
    by_cases hx : l.length < sz
    · refine (rest_wait w b _ _ _ _ _ _ _ _ _ _ _ _ p _ c sz t a er l hs hby hz hx).mono ?_
      rintro e w' ⟨rfl, hh, hg⟩
      have hn : next1 ⟨4, l, t, a, mo, sz, hr, kd, er⟩ = (⟨4, l, t, a, mo, sz, hr, kd, er⟩, .no) := by simp [next1, hx]
      unfold MPost
      rw [hn]
      exact ⟨rfl, _, _, _, ⟨hh, hno hg, hlt, hle' hg⟩, hg, .inr rfl, ItO.no _ _⟩
    · obtain ⟨T, ch, el, bl, pl, r, hq⟩ : ∃ T ch el bl pl r, openR l 0 1048576 = (T, ch, el, bl, pl, r) := ⟨_, _, _, _, _, _, rfl⟩
      by_cases h0 : r = 0
      · refine (rest_ok w b _ _ _ _ _ _ _ _ _ _ _ _ p _ c sz t a er l hs hby hz h9 hx T ch el bl pl r hq h0).mono ?_
        rintro e w' ⟨rfl, ea, ne, ce, ba, nb, cb, hh, hg, o1, o2, hap⟩
        have hn : next1 ⟨4, l, t, a, mo, sz, hr, kd, er⟩ = (⟨1, [], t, t, mo, sz, hr, kd, er⟩, ⟨2, 0, T, ch, el, bl⟩) := by simp [next1, hx, hq, h0, SM.tell]
        unfold MPost
        rw [hn]
        exact ⟨rfl, _, _, _, ⟨hh, (hno hg).cut0, hlt, hle' hg⟩, hg, .inr (ownBlock_cut _ _ _), ⟨fun h => by simp at h, o1, o2, hap⟩⟩
      · refine (rest_bad w b _ _ _ _ _ _ _ _ _ _ _ _ p _ c sz t a er l hs hby hz hx T ch el bl pl r hq h0).mono ?_
        rintro e w' ⟨rfl, hh, hg⟩
        have hn : next1 ⟨4, l, t, a, mo, sz, hr, kd, er⟩ = (⟨4, [], t, a, mo, sz, hr, kd, r⟩, .no) := by simp [next1, hx, hq, h0, SM.fail]
        unfold MPost
        rw [hn]
        exact ⟨rfl, _, _, _, ⟨hh, OwnBytes.nil _ _ _, hlt, hle' hg⟩, hg, .inl rfl, ItO.no _ _⟩
end Go.Proofs.Ytofdpccjpodbhaa

namespace Go.Proofs.Ytofdpccjpodbhaa
open Go.RowKit
set_option linter.unusedVariables false

/-- one block alone may have turned, none has come -/
def Turn (l : Nat) (W W' : World) : Prop := W.grownBy W' (some l) ∧ W'.heap.size = W.heap.size

theorem turn_putObj (W : World) (l : Nat) (o : Obj) : Turn l W (W.putObj l o) := ⟨grownBy_putObj' W l o, by simp [World.putObj]⟩

/-- the loop's own two blocks: its record l, its deferred calls D -/
structure LoopBook (D l : Nat) where
  rdy : World → Prop
  busy : World → Prop
  fin : Code → World → Prop
  keepR : ∀ A B, rdy A → B.heap[D]? = A.heap[D]? → B.heap[l]? = A.heap[l]? → rdy B
  keepB : ∀ A B, busy A → B.heap[D]? = A.heap[D]? → B.heap[l]? = A.heap[l]? → busy B
  keepF : ∀ c A B, fin c A → B.heap[D]? = A.heap[D]? → B.heap[l]? = A.heap[l]? → fin c B
  rdyN : ∀ A, rdy A → (∃ o, A.heap[D]? = some o ∧ o.isCells = false) ∧ (∃ o, A.heap[l]? = some o ∧ o.isCells = false)
  busyN : ∀ A, busy A → (∃ o, A.heap[D]? = some o ∧ o.isCells = false) ∧ (∃ o, A.heap[l]? = some o ∧ o.isCells = false)
  finN : ∀ c A, fin c A → (∃ o, A.heap[D]? = some o ∧ o.isCells = false) ∧ (∃ o, A.heap[l]? = some o ∧ o.isCells = false)

/-- how the body of a round may be left -/
def bodyP {D l : Nat} (K : LoopBook D l) (I : World → Prop) (Ix : Code → World → Prop) : Exit → Act → World → Prop
  | .normal, _, W => K.busy W ∧ I W
  | .ret, _, W => K.busy W ∧ Ix .ret W
  | .exit id, _, W => K.busy W ∧ Ix (.exit id) W
  | .goto t, _, W => K.busy W ∧ Ix (.goto t) W
  | .panic _, _, _ => False
  | .outgrown, _, _ => False

/-- a round, out of its body's walk -/
def RoundOf {D l : Nat} (P : Program) (K : LoopBook D l) (tmps : Array Value) (ps : Array Tmp) (assign body : Code) (xs : Array Value) (W : World) (I : World → Prop) (Ix : Code → World → Prop) : Prop :=
  assign.wpIn (Fence.wide.inRound l) 3 P (Exit.then (fun a' Wa => K.rdy Wa ∧ ∀ Wb, Turn l Wa Wb → K.busy Wb → body.wpIn (Fence.wide.inRound l) 3 P (bodyP K I Ix) a' Wb) (fun _ _ _ => False))
    { tmps := (ps.zip xs).foldl (fun t (p, v) => t.setIfInBounds p v) tmps, defers := [] } W

/-- what a call of yield leaves -/
def YieldOf {D l : Nat} (K : LoopBook D l) (I : World → Prop) (Ix : Code → World → Prop) (e : Ending) (W' : World) : Prop :=
  (e = .returned (.bool true) ∧ K.rdy W' ∧ ∃ W3, I W3 ∧ Turn l W3 W') ∨ (e = .returned (.bool false) ∧ ∃ c, K.fin c W' ∧ ∃ W3, Ix c W3 ∧ Turn l W3 W')

theorem wp_rangeFunc_any {P : Program} {g : Operand} {ps : Array Tmp} {assign body : Code} {Q : Exit → Act → World → Prop} {a : Act} {w : World} {gf : Nat} {lb : Array Value}
    (hg : a.eval g = .func (.func gf) #[] lb) (eg : ∀ args w, (callFunc gf args).run P w = .ok (.enter gf args) w)
    (hseq : ∀ (K : LoopBook w.heap.size (w.heap.size + 1)) (W1 : World), w.grownBy W1 none → W1.heap.size = w.heap.size + 2 → K.rdy W1 →
      (∀ (xs : Array Value) (W : World) (I : World → Prop) (Ix : Code → World → Prop), xs.size = ps.size → K.rdy W → RoundOf P K a.tmps ps assign body xs W I Ix →
        YieldAt Fence.wide 3 P (w.heap.size + 1) xs W (YieldOf K I Ix)) →
      Calls P gf (#[.func (.yield (w.heap.size + 1)) #[] #[]] ++ lb) W1 fun e W2 => (∃ v, e = .returned v) ∧
        ((K.rdy W2 ∧ ∀ W3, Turn (w.heap.size + 1) W2 W3 → W3.heap[w.heap.size]? = some (.deferred (some [])) → Q .normal { a with defers := { target := .collected w.heap.size, args := #[] } :: a.defers } W3) ∨
         (∃ c, K.fin c W2 ∧ ∀ W3, Turn (w.heap.size + 1) W2 W3 → W3.heap[w.heap.size]? = some (.deferred (some [])) → c.wp P Q { a with defers := { target := .collected w.heap.size, args := #[] } :: a.defers } W3))) :
    (Code.rangeFunc g ps assign body).wp P Q a w := by
  refine (wpIn_wide (n := 5)).1 ?_
  refine wpIn_rangeFunc ?_
  intro fn hfn
  obtain ⟨rec, hrec⟩ : ∃ rec : LoopState → Option Code → Loop, rec = fun st pe => { state := st, pending := pe, fn, tmps := a.tmps, params := ps, assign, body, defers := w.heap.size } := ⟨_, rfl⟩
  obtain ⟨W1, hW1⟩ : ∃ W1, (w.alloc (.deferred (some []))).alloc (.loop (rec .ready none)) = W1 := ⟨_, rfl⟩
  have hL1 : W1.heap[w.heap.size + 1]? = some (.loop (rec .ready none)) := by
    rw [← hW1]; have := World.alloc_heap_new (w.alloc (.deferred (some []))) (.loop (rec .ready none)); rwa [World.size_alloc] at this
  have hK1 : W1.heap[w.heap.size]? = some (.deferred (some [])) := by
    rw [← hW1]; exact (Below.heap_alloc _ _ _ (by simp)).trans (World.alloc_heap_new w _)
  have hg1 : w.grownBy W1 none := by
    have hb : Below w.heap.size w W1 := by rw [← hW1]; exact ((Below.refl _ w).alloc (Nat.le_refl _) _).alloc (by simp) _
    exact ⟨hb.os, hb.tape, hb.output, hb.size, fun k hk _ => hb.block k hk⟩
  have hs1 : W1.heap.size = w.heap.size + 2 := by rw [← hW1]; simp
  refine ⟨w.heap.size + 1, [{ target := .collected w.heap.size, args := #[] }], W1, { target := .fn (.func gf) lb, args := #[.func (.yield (w.heap.size + 1)) #[] #[]] }, W1, gf,
    #[.func (.yield (w.heap.size + 1)) #[] #[]] ++ lb, W1, ?_, ?_, ?_, ?_, fun _ => by omega, ?_⟩
  · rw [← hW1, hrec]; exact run_enterLoop_outer _ _ _ _ _
  · simp only [resolve, hg]
    simp [go_sem]
  · intro f' hf'; trivial
  · simp [invoke, go_sem, eg]
  · obtain ⟨Rd, hRd⟩ : ∃ Rd : World → Prop, Rd = fun W => W.heap[w.heap.size + 1]? = some (.loop (rec .ready none)) ∧ W.heap[w.heap.size]? = some (.deferred (some [])) := ⟨_, rfl⟩
    obtain ⟨Bs, hBs⟩ : ∃ Bs : World → Prop, Bs = fun W => W.heap[w.heap.size + 1]? = some (.loop { rec .ready none with state := .busy }) ∧ W.heap[w.heap.size]? = some (.deferred (some [])) := ⟨_, rfl⟩
    obtain ⟨Fn_, hFn⟩ : ∃ Fn_ : Code → World → Prop, Fn_ = fun c W => W.heap[w.heap.size + 1]? = some (.loop (rec .done (some c))) ∧ W.heap[w.heap.size]? = some (.deferred (some [])) := ⟨_, rfl⟩
    let K : LoopBook w.heap.size (w.heap.size + 1) := {
      rdy := Rd, busy := Bs, fin := Fn_
      keepR := fun A B h h1 h2 => by subst hRd; exact ⟨h2.trans h.1, h1.trans h.2⟩
      keepB := fun A B h h1 h2 => by subst hBs; exact ⟨h2.trans h.1, h1.trans h.2⟩
      keepF := fun c A B h h1 h2 => by subst hFn; exact ⟨h2.trans h.1, h1.trans h.2⟩
      rdyN := fun A h => by subst hRd; exact ⟨⟨_, h.2, rfl⟩, ⟨_, h.1, rfl⟩⟩
      busyN := fun A h => by subst hBs; exact ⟨⟨_, h.2, rfl⟩, ⟨_, h.1, rfl⟩⟩
      finN := fun c A h => by subst hFn; exact ⟨⟨_, h.2, rfl⟩, ⟨_, h.1, rfl⟩⟩ }
    have hcall := hseq K W1 hg1 hs1 (by show Rd W1; subst hRd; exact ⟨hL1, hK1⟩) (by
      intro xs W I Ix hxs hrd hro
      have hrd' : Rd W := hrd
      rw [hRd] at hrd'
      obtain ⟨hl, hk⟩ := hrd'
      have hy := run_yield (P := P) (args := xs) hl (by rw [hrec]; exact hxs)
      rw [hrec] at hy
      refine ⟨fn, _, assign, body, hy, roundIn_of_wpIn trivial (wpIn_mono hro ?_)⟩
      rintro e a3 W3 hp
      cases e with
      | normal =>
        obtain ⟨hrd3, hb3⟩ := hp
        have hrd3' : Rd W3 := hrd3
        rw [hRd] at hrd3'
        obtain ⟨hl3, hk3⟩ := hrd3'
        have hlt : w.heap.size + 1 < W3.heap.size := (Array.getElem?_eq_some_iff.1 hl3).1
        refine ⟨_, run_beginRound hl3 (by rw [hrec]), ?_⟩
        have hl4 : (W3.putObj (w.heap.size + 1) (.loop { rec .ready none with state := .busy })).heap[w.heap.size + 1]? = some (.loop { rec .ready none with state := .busy }) := World.putObj_heap_same hlt
        have hk4 : (W3.putObj (w.heap.size + 1) (.loop { rec .ready none with state := .busy })).heap[w.heap.size]? = some (.deferred (some [])) := (World.putObj_heap_other (by omega)).trans hk3
        refine wpIn_mono (hb3 _ (turn_putObj _ _ _) (by show Bs _; subst hBs; exact ⟨hl4, hk4⟩)) ?_
        have fin : ∀ (jump : Option Code) (W5 : World), Bs W5 →
            (Instr.endRound (w.heap.size + 1) jump).run P W5 = .ok (.bool jump.isNone) (W5.putObj (w.heap.size + 1) (.loop (rec (if jump.isNone then .ready else .done) jump))) ∧
            (W5.putObj (w.heap.size + 1) (.loop (rec (if jump.isNone then .ready else .done) jump))).heap[w.heap.size + 1]? = some (.loop (rec (if jump.isNone then .ready else .done) jump)) ∧
            (W5.putObj (w.heap.size + 1) (.loop (rec (if jump.isNone then .ready else .done) jump))).heap[w.heap.size]? = some (.deferred (some [])) := fun jump W5 hb5 => by
          rw [hBs] at hb5
          obtain ⟨hl5, hk5⟩ := hb5
          have := run_endRound (P := P) jump hl5
          rw [hrec] at this ⊢
          exact ⟨this, World.putObj_heap_same (Array.getElem?_eq_some_iff.1 hl5).1, (World.putObj_heap_other (by omega)).trans hk5⟩
        rintro e a5 W5 hp
        cases e with
        | normal =>
          obtain ⟨hb5, hi5⟩ := hp
          obtain ⟨hr, hl6, hk6⟩ := fin none W5 hb5
          exact ⟨_, _, hr, .inl ⟨rfl, by show Rd _; subst hRd; exact ⟨hl6, hk6⟩, W5, hi5, turn_putObj _ _ _⟩⟩
        | ret =>
          obtain ⟨hb5, hi5⟩ := hp
          obtain ⟨hr, hl6, hk6⟩ := fin (some .ret) W5 hb5
          exact ⟨_, _, hr, .inr ⟨rfl, .ret, by show Fn_ _ _; subst hFn; exact ⟨hl6, hk6⟩, W5, hi5, turn_putObj _ _ _⟩⟩
        | exit id =>
          obtain ⟨hb5, hi5⟩ := hp
          obtain ⟨hr, hl6, hk6⟩ := fin (some (.exit id)) W5 hb5
          exact ⟨_, _, hr, .inr ⟨rfl, .exit id, by show Fn_ _ _; subst hFn; exact ⟨hl6, hk6⟩, W5, hi5, turn_putObj _ _ _⟩⟩
        | goto t =>
          obtain ⟨hb5, hi5⟩ := hp
          obtain ⟨hr, hl6, hk6⟩ := fin (some (.goto t)) W5 hb5
          exact ⟨_, _, hr, .inr ⟨rfl, .goto t, by show Fn_ _ _; subst hFn; exact ⟨hl6, hk6⟩, W5, hi5, turn_putObj _ _ _⟩⟩
        | panic ch => exact hp.elim
        | outgrown => exact hp.elim
      | ret => exact hp.elim
      | exit id => exact hp.elim
      | goto t => exact hp.elim
      | panic ch => exact hp.elim
      | outgrown => exact hp.elim)
    refine (callsIn_wide.2 hcall).mono ?_
    rintro e W2 ⟨⟨v, rfl⟩, (⟨hrd, hq⟩ | ⟨c, hfi, hq⟩)⟩
    · have hrd' : Rd W2 := hrd
      rw [hRd] at hrd'
      obtain ⟨hl, hk⟩ := hrd'
      exact ⟨none, _, by have := run_endLoop (P := P) hl (by rw [hrec]; simp); rw [hrec] at this; exact this, hq _ (turn_putObj _ _ _) ((World.putObj_heap_other (by omega)).trans hk)⟩
    · have hfi' : Fn_ c W2 := hfi
      rw [hFn] at hfi'
      obtain ⟨hl, hk⟩ := hfi'
      exact ⟨some c, _, by have := run_endLoop (P := P) hl (by rw [hrec]; simp); rw [hrec] at this; exact this, (wpIn_wide (n := 5)).2 (hq _ (turn_putObj _ _ _) ((World.putObj_heap_other (by omega)).trans hk))⟩
end Go.Proofs.Ytofdpccjpodbhaa
