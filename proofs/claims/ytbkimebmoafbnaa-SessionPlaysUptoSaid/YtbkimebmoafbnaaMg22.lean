/-
  Two sessions, their references and the book in one world, each in blocks of its own; what an operation keeps. No conditions.
  What each operation does to a session and to its reference, as one. Conditions: both lie in memory.
-/
import Derived.Test.YtbkimebmoafbnaaRfJ
import Derived.Test.YtbkimebmoafbnaaGbR
namespace Go.Proofs.Ytbkimebmoafbnaa
open Go.RowKit Go.Maps
set_option linter.unusedVariables false

/-- a session and its reference -/
structure Sd where
  K : SK
  r : Nat
  B : Nat
  s : SS
  rs : List (Int × Int)
  vh : Value
  vr : Value
  vs : Value
  va : Value

/-- how the two stand to one another behind i operations -/
structure Good (i : Nat) (s : SS) (rs : List (Int × Int)) : Prop where
  tie : Tie s rs
  uniq : ∀ p ∈ s.rem, ∀ q ∈ s.rem, p.2 = q.2 → 0 ≤ p.2 → p.1 = q.1
  l64 : s.rem.length ≤ 64
  lrs : rs.length ≤ i
  lsnd : s.snd.length ≤ i
  larr : s.arr.length ≤ i
  wsnd : ∀ p ∈ s.snd, Word p.id
  warr : ∀ p ∈ s.arr, Word p.id

structure Sd.In (S : Sd) (W : World) (own : Nat → Nat) (a b i : Nat) : Prop where
  ses : SesIn W S.K S.s
  ref : RX W S.r S.B S.s (S.s.rem.map Prod.fst) S.rs S.vh S.vr S.vs S.va
  ownK : ∀ j, S.K.has j → own j = a
  ownR : ∀ j, RBlk S.r S.vh S.vr S.vs S.va j → own j = b
  good : Good i S.s S.rs

/-- blocks that are new are t's -/
def upd (own : Nat → Nat) (n t : Nat) (j : Nat) : Nat := if j < n then own j else t
theorem upd_lt {own : Nat → Nat} {n t j : Nat} (h : j < n) : upd own n t j = own j := by unfold upd; rw [if_pos h]
theorem upd_ge {own : Nat → Nat} {n t j : Nat} (h : n ≤ j) : upd own n t j = t := by unfold upd; rw [if_neg (by omega)]

/-- nothing but blocks of these owners has changed, and new blocks -/
def Mv (own : Nat → Nat) (T : Nat → Prop) (W W' : World) : Prop := BkMv (fun j => T (own j)) W W'

theorem RX.keep {w w' : World} {r B : Nat} {s : SS} {hs : List Int} {rs : List (Int × Int)} {vh vr vs va : Value} (h : RX w r B s hs rs vh vr vs va) (hz : w.heap.size ≤ w'.heap.size) (e : ∀ j, RBlk r vh vr vs va j → w'.heap[j]? = w.heap[j]?) : RX w' r B s hs rs vh vr vs va := ⟨h.inn.keep hz e, h.dj⟩

theorem Good.more {i j : Nat} {s : SS} {rs : List (Int × Int)} (h : Good i s rs) (hij : i ≤ j) : Good j s rs := ⟨h.tie, h.uniq, h.l64, Nat.le_trans h.lrs hij, Nat.le_trans h.lsnd hij, Nat.le_trans h.larr hij, h.wsnd, h.warr⟩

section
variable {S : Sd} {W W1 W2 : World} {own own' : Nat → Nat} {a b c i : Nat}

/-- others have moved -/
theorem Sd.In.keep {T : Nat → Prop} (h : S.In W own a b i) (hm : Mv own T W W1) (ha : ¬ T a) (hb : ¬ T b) (ho : ∀ j, j < W.heap.size → own' j = own j) {i' : Nat} (hi : i ≤ i') : S.In W1 own' a b i' :=
  ⟨h.ses.keep (fun j hj => hm.block j (h.ses.lt j hj) (by rw [h.ownK j hj]; exact ha)), h.ref.keep hm.size (fun j hj => hm.block j (h.ref.inn.blt j hj) (by rw [h.ownR j hj]; exact hb)),
    fun j hj => (ho j (h.ses.lt j hj)).trans (h.ownK j hj), fun j hj => (ho j (h.ref.inn.blt j hj)).trans (h.ownR j hj), h.good.more hi⟩
theorem Sd.In.below (h : S.In W own a b i) (hb : Below W.heap.size W W1) : S.In W1 own a b i :=
  ⟨h.ses.below hb, h.ref.below hb, h.ownK, h.ownR, h.good⟩

/-- .. the reference behind the session's move -/
theorem Sd.In.ref1 (h : S.In W own a b i) (hab : a ≠ b) (hm : SMv S.K W W1) : RX W1 S.r S.B S.s (S.s.rem.map Prod.fst) S.rs S.vh S.vr S.vs S.va :=
  h.ref.keep hm.size (fun j hj => hm.block j (h.ref.inn.blt j hj) (fun q => hab ((h.ownK j q).symm.trans (h.ownR j hj))))

/-- both have moved -/
theorem Sd.In.both (h : S.In W own a b i) (hab : a ≠ b) {s' : SS} {rs' : List (Int × Int)} (hS : SesIn W1 S.K s') (hm : SMv S.K W W1) (hR : RTo W1 W2 S.r S.B s' (s'.rem.map Prod.fst) rs' S.vh S.vr S.vs S.va) (hg : Good (i + 1) s' rs') :
    ∃ S' : Sd, S'.K = S.K ∧ S'.r = S.r ∧ S'.s = s' ∧ S'.In W2 (upd own W.heap.size b) a b (i + 1) ∧ Mv own (fun t => t = a ∨ t = b) W W2 := by
  obtain ⟨vh', vr', vs', va', h1, h2, h3⟩ := hR
  have hz := hm.size
  refine ⟨⟨S.K, S.r, S.B, s', rs', vh', vr', vs', va'⟩, rfl, rfl, rfl, ⟨hS.keep (fun j hj => h3.block j (hS.lt j hj) (fun q => hab ((h.ownK j hj).symm.trans (h.ownR j q)))), h1, fun j hj => ?_, fun j hj => ?_, hg⟩, ⟨h3.os.trans hm.os, h3.tape.trans hm.tape, h3.output.trans hm.output, Nat.le_trans hm.size h3.size, fun j hj hn => ?_⟩⟩
  · exact (upd_lt (h.ses.lt j hj)).trans (h.ownK j hj)
  · rcases h2 j hj with q | q
    · exact (upd_lt (h.ref.inn.blt j q)).trans (h.ownR j q)
    · exact upd_ge (by omega)
  · exact (h3.block j (by omega) (fun q => hn (.inr (h.ownR j q)))).trans (hm.block j hj (fun q => hn (.inl (h.ownK j q))))
end

/-- the book -/
structure Bk where
  B : Nat
  bp : Nat
  N : Int
  vl : Value
  vw : Value
  vs : List Value
  us : List Value
  Ls : List (List Pnd)

structure Bk.In (X : Bk) (W : World) (own : Nat → Nat) (c i : Nat) : Prop where
  inn : BkIn W X.B X.bp X.N X.vl X.vw X.vs X.us X.Ls
  own_ : ∀ j, BkBlk X.bp X.vl X.vw X.vs X.us j → own j = c
  N : X.N ≤ i
  len : X.vs.length ≤ i

section
variable {X : Bk} {W W1 W2 : World} {own own' : Nat → Nat} {c i : Nat}
theorem Bk.In.keep {T : Nat → Prop} (h : X.In W own c i) (hm : Mv own T W W1) (hc : ¬ T c) (ho : ∀ j, j < W.heap.size → own' j = own j) {i' : Nat} (hi : i ≤ i') : X.In W1 own' c i' :=
  ⟨h.inn.keep hm.size (fun j hj => hm.block j (h.inn.blt j hj).2 (by rw [h.own_ j hj]; exact hc)), fun j hj => (ho j (h.inn.blt j hj).2).trans (h.own_ j hj), by have := h.N; omega, Nat.le_trans h.len hi⟩
theorem Bk.In.below (h : X.In W own c i) (hb : Below W.heap.size W W1) : X.In W1 own c i := ⟨h.inn.below hb, h.own_, h.N, h.len⟩
end

/-- a session, its reference and the book -/
structure PW (W : World) (own : Nat → Nat) (a b c i : Nat) (S : Sd) (X : Bk) : Prop where
  sd : S.In W own a b i
  bk : X.In W own c i

/-- behind an operation -/
def StepTo (W W' : World) (own : Nat → Nat) (a b c i : Nat) (S : Sd) (X : Bk) : Prop :=
  ∃ own' S' X', PW W' own' a b c (i + 1) S' X' ∧ S'.K = S.K ∧ S'.r = S.r ∧ X'.bp = X.bp ∧ (∀ j, j < W.heap.size → own' j = own j) ∧ Mv own (fun t => t = a ∨ t = b ∨ t = c) W W'

section
variable {S : Sd} {X : Bk} {W W0 W1 W2 : World} {own : Nat → Nat} {a b c i : Nat}
theorem PW.below (h : PW W own a b c i S X) (hb : Below W.heap.size W W1) : PW W1 own a b c i S X := ⟨h.sd.below hb, h.bk.below hb⟩
theorem StepTo.same (h : PW W own a b c i S X) (hb : Below W.heap.size W W1) : StepTo W W1 own a b c i S X :=
  ⟨own, S, X, ⟨(h.sd.keep (T := fun _ => False) (BkMv.of_below hb) (fun q => q) (fun q => q) (fun _ _ => rfl) (Nat.le_succ i)), h.bk.keep (T := fun _ => False) (BkMv.of_below hb) (fun q => q) (fun _ _ => rfl) (Nat.le_succ i)⟩, rfl, rfl, rfl, fun _ _ => rfl, BkMv.of_below hb⟩
theorem StepTo.behind (hb : Below W0.heap.size W0 W) (h : StepTo W W1 own a b c i S X) : StepTo W0 W1 own a b c i S X := by
  obtain ⟨own', S', X', h1, h2, h3, h4, h5, h6⟩ := h
  exact ⟨own', S', X', h1, h2, h3, h4, fun j hj => h5 j (Nat.lt_of_lt_of_le hj hb.size), (BkMv.of_below (S := fun j => (fun t => t = a ∨ t = b ∨ t = c) (own j)) hb).trans h6⟩
/-- both sessions have moved -/
theorem PW.both (h : PW W own a b c i S X) (hab : a ≠ b) (hac : c ≠ a) (hbc : c ≠ b) {s' : SS} {rs' : List (Int × Int)} (hS : SesIn W1 S.K s') (hm : SMv S.K W W1) (hR : RTo W1 W2 S.r S.B s' (s'.rem.map Prod.fst) rs' S.vh S.vr S.vs S.va) (hg : Good (i + 1) s' rs') : StepTo W W2 own a b c i S X := by
  obtain ⟨S', e1, e2, e3, h1, h2⟩ := h.sd.both hab hS hm hR hg
  refine ⟨_, S', X, ⟨h1, h.bk.keep h2 (by simp [hac, hbc]) (fun j hj => upd_lt hj) (Nat.le_succ i)⟩, e1, e2, rfl, fun j hj => upd_lt hj, h2.mono (fun j _ q => ?_)⟩
  rcases q with q | q
  · exact .inl q
  · exact .inr (.inl q)
end

/-! ### what the operations keep -/
theorem Good.putS {i : Nat} {s : SS} {rs : List (Int × Int)} (h : Good i s rs) {p : Pnd} (hp : Word p.id) (settled : Bool) (nd : Int) : Good (i + 1) { s.put p settled with nd := nd } rs := by
  have h1 := h.lsnd
  refine ⟨h.tie, h.uniq, h.l64, Nat.le_succ_of_le h.lrs, ?_, Nat.le_succ_of_le h.larr, ?_, h.warr⟩
  · show (if settled then s.snd else s.snd ++ [p]).length ≤ i + 1
    split
    · omega
    · simp; omega
  · intro q hq
    have hq : q ∈ (if settled then s.snd else s.snd ++ [p]) := hq
    split at hq
    · exact h.wsnd q hq
    · rcases List.mem_append.1 hq with hq | hq
      · exact h.wsnd q hq
      · obtain rfl := List.mem_singleton.1 hq
        exact hp
theorem Good.putA {i : Nat} {s : SS} {rs : List (Int × Int)} (h : Good i s rs) {p : Pnd} (hp : Word p.id) (settled : Bool) : Good (i + 1) (s.putA p settled) rs := by
  have h1 := h.larr
  refine ⟨h.tie, h.uniq, h.l64, Nat.le_succ_of_le h.lrs, Nat.le_succ_of_le h.lsnd, ?_, h.wsnd, ?_⟩
  · show (if settled then s.arr else s.arr ++ [p]).length ≤ i + 1
    split
    · omega
    · simp; omega
  · intro q hq
    have hq : q ∈ (if settled then s.arr else s.arr ++ [p]) := hq
    split at hq
    · exact h.warr q hq
    · rcases List.mem_append.1 hq with hq | hq
      · exact h.warr q hq
      · obtain rfl := List.mem_singleton.1 hq
        exact hp
theorem Good.del {i : Nat} {s : SS} {rs : List (Int × Int)} (h : Good i s rs) (sending : Bool) (n : Int) : Good (i + 1) (s.del sending n) rs := by
  cases sending
  · exact ⟨h.tie, h.uniq, h.l64, Nat.le_succ_of_le h.lrs, Nat.le_succ_of_le h.lsnd, Nat.le_succ_of_le (Nat.le_trans (List.length_filter_le _ _) h.larr), h.wsnd, fun p hp => h.warr p (List.mem_filter.1 hp).1⟩
  · exact ⟨h.tie, h.uniq, h.l64, Nat.le_succ_of_le h.lrs, Nat.le_succ_of_le (Nat.le_trans (List.length_filter_le _ _) h.lsnd), Nat.le_succ_of_le h.larr, fun p hp => h.wsnd p (List.mem_filter.1 hp).1, h.warr⟩
theorem Good.free {i : Nat} {s : SS} {rs : List (Int × Int)} (h : Good i s rs) (n : Int) : Good (i + 1) (s.free n) (woP n rs) := by
  have hr : ∀ p, p ∈ (s.free n).rem ↔ p ∈ s.rem ∧ p.1 ≠ n := fun p => by show p ∈ s.rem.filter _ ↔ _; simp [List.mem_filter]
  refine ⟨fun x y => ?_, fun p hp q hq => h.uniq p ((hr p).1 hp).1 q ((hr q).1 hq).1, Nat.le_trans (List.length_filter_le _ _) h.l64, Nat.le_succ_of_le (Nat.le_trans (List.length_filter_le _ _) h.lrs), Nat.le_succ_of_le (Nat.le_trans (List.length_filter_le _ _) h.lsnd), Nat.le_succ_of_le (Nat.le_trans (List.length_filter_le _ _) h.larr), fun p hp => h.wsnd p (List.mem_filter.1 hp).1, fun p hp => h.warr p (List.mem_filter.1 hp).1⟩
  rw [hr]
  unfold woP
  rw [List.mem_filter, h.tie x y]
  simp only [decide_eq_true_eq, ne_eq]
  exact ⟨fun ⟨⟨q1, q2⟩, q3⟩ => ⟨⟨q1, q3⟩, q2⟩, fun ⟨⟨q1, q3⟩, q2⟩ => ⟨⟨q1, q2⟩, q3⟩⟩
theorem Good.addH {i : Nat} {s : SS} {rs : List (Int × Int)} (h : Good i s rs) (hl : s.rem.length < 64) (k : Int) : Good (i + 1) (s.addH k) rs := by
  have hr : ∀ p, p ∈ (s.addH k).rem ↔ p ∈ s.rem ∨ p = (k, -1) := fun p => by show p ∈ s.rem ++ [(k, -1)] ↔ _; simp
  refine ⟨fun x y => ?_, fun p hp q hq e h0 => ?_, ?_, Nat.le_succ_of_le h.lrs, Nat.le_succ_of_le h.lsnd, Nat.le_succ_of_le h.larr, h.wsnd, h.warr⟩
  · rw [hr, h.tie x y]
    constructor
    · rintro ⟨q1, q2⟩
      exact ⟨.inl q1, q2⟩
    · rintro ⟨q1 | q1, q2⟩
      · exact ⟨q1, q2⟩
      · simp only [Prod.mk.injEq] at q1
        omega
  · rcases (hr p).1 hp with hp | rfl
    · rcases (hr q).1 hq with hq | rfl
      · exact h.uniq p hp q hq e h0
      · simp only at e; omega
    · simp only at h0; omega
  · show (s.rem ++ [(k, -1)]).length ≤ 64
    simp
    omega
theorem Good.bind {i : Nat} {s : SS} {rs : List (Int × Int)} (h : Good i s rs) {remote n : Int} (hnd : (s.rem.map Prod.fst).Nodup) (hb : ¬ remBad s remote n) : Good (i + 1) (s.bind remote n) (rs ++ [(remote, n)]) := by
  have h0 : 0 ≤ remote := Classical.byContradiction fun q => hb (.inl (by omega))
  have h1 : ∀ p ∈ s.rem, p.2 ≠ remote := fun p hp e => hb (.inr (.inr (.inl ⟨p, hp, e⟩)))
  have h2 : n ∈ s.rem.map Prod.fst := Classical.byContradiction fun q => hb (.inr (.inr (.inr (.inl q))))
  have h3 : ∀ p ∈ s.rem, p.1 = n → p.2 < 0 := fun p hp e => Classical.byContradiction fun q => hb (.inr (.inr (.inr (.inr ⟨p, hp, e, by omega⟩))))
  have hr : ∀ p, p ∈ (s.bind remote n).rem ↔ (p ∈ s.rem ∧ p.1 ≠ n) ∨ p = (n, remote) := fun p => by
    show p ∈ s.rem.map (fun p => if p.1 = n then (n, remote) else p) ↔ _
    rw [List.mem_map]
    constructor
    · rintro ⟨q, hq, rfl⟩
      by_cases e : q.1 = n
      · rw [if_pos e]; exact .inr rfl
      · rw [if_neg e]; exact .inl ⟨hq, e⟩
    · rintro (⟨hp, e⟩ | rfl)
      · exact ⟨p, hp, by rw [if_neg e]⟩
      · obtain ⟨q, hq, e⟩ := List.mem_map.1 h2
        exact ⟨q, hq, by rw [if_pos e]⟩
  refine ⟨fun x y => ?_, fun p hp q hq e h0' => ?_, ?_, by rw [List.length_append, List.length_singleton]; have := h.lrs; omega, Nat.le_succ_of_le h.lsnd, Nat.le_succ_of_le h.larr, h.wsnd, h.warr⟩
  · rw [hr, List.mem_append, h.tie x y, List.mem_singleton]
    constructor
    · rintro (⟨q1, q2⟩ | q)
      · refine ⟨.inl ⟨q1, fun e => ?_⟩, q2⟩
        have := h3 _ q1 e
        simp only at this
        omega
      · simp only [Prod.mk.injEq] at q
        exact ⟨.inr (by simp [q.1, q.2]), by omega⟩
    · rintro ⟨q | q, q2⟩
      · exact .inl ⟨q.1, q2⟩
      · simp only [Prod.mk.injEq] at q
        exact .inr (by simp [q.1, q.2])
  · rcases (hr p).1 hp with hp | rfl
    · rcases (hr q).1 hq with hq | rfl
      · exact h.uniq p hp.1 q hq.1 e h0'
      · exact absurd e (h1 p hp.1)
    · rcases (hr q).1 hq with hq | rfl
      · exact absurd e.symm (h1 q hq.1)
      · rfl
  · show (s.rem.map _).length ≤ 64
    rw [List.length_map]
    exact h.l64
/-- an operation of windows -/
theorem Good.windows {i : Nat} {s s' : SS} {rs : List (Int × Int)} (h : Good i s rs) (h1 : s'.rem = s.rem) (h2 : s'.snd = s.snd) (h3 : s'.arr = s.arr) : Good (i + 1) s' rs :=
  ⟨by unfold Tie; rw [h1]; exact h.tie, by rw [h1]; exact h.uniq, by rw [h1]; exact h.l64, Nat.le_succ_of_le h.lrs, by rw [h2]; exact Nat.le_succ_of_le h.lsnd, by rw [h3]; exact Nat.le_succ_of_le h.larr, by rw [h2]; exact h.wsnd, by rw [h3]; exact h.warr⟩
theorem SesIn.keys_nd {w : World} {K : SK} {s : SS} (h : SesIn w K s) : (s.rem.map Prod.fst).Nodup := by
  have := h.rem_nd
  rw [keys_rems] at this
  exact this
end Go.Proofs.Ytbkimebmoafbnaa

namespace Go.Proofs.Ytbkimebmoafbnaa
open Go.RowKit Go.Maps
set_option linter.unusedVariables false

theorem below_of_drew {w : World} : Below w.heap.size w w.drew := ⟨rfl, rfl, rfl, Nat.le_refl _, fun _ _ => rfl⟩

/-- an operation on a session and on its reference: one answer -/
structure Pair (S : Sd) (i : Nat) (W0 : World) (fP fR : Nat) (aP aR : Array Value) (v : Value) (s' : SS) (rs' : List (Int × Int)) : Prop where
  p : Calls Try.prog fP aP W0 fun e w' => e = .returned v ∧ SesIn w' S.K s' ∧ SMv S.K W0 w'
  r : ∀ W1, RX W1 S.r S.B S.s (S.s.rem.map Prod.fst) S.rs S.vh S.vr S.vs S.va → Calls Try.prog fR aR W1 fun e w' => e = .returned v ∧ RTo W1 w' S.r S.B s' (s'.rem.map Prod.fst) rs' S.vh S.vr S.vs S.va
  good : Good (i + 1) s' rs'

section
variable {S : Sd} {W : World} {own : Nat → Nat} {a b i : Nat}

theorem pair_arrive (h : S.In W own a b i) (hi : i ≤ 2000000) (A A2 : Int) (tag : ByteArray) (flag : Bool) (hA2 : IsI64 A2) :
    ∃ n s' rs', Pair S i W 20 45 #[.pointer (some ⟨S.K.b, 0, none⟩), .int .i64 A, .int .i64 A2, .string tag, .bool flag] #[.pointer (some ⟨S.r, 0, none⟩), .int .i64 A, .int .i64 A2, .string tag, .bool flag] (.int .i64 n) s' rs' := by
  have hrem : (arriveS S.s A A2 tag flag).1.rem = S.s.rem := by
    unfold arriveS
    split
    · rfl
    · split
      · rfl
      · split <;> rfl
  refine ⟨(arriveS S.s A A2 tag flag).2, (arriveS S.s A A2 tag flag).1, S.rs, ⟨arrive_any W S.K S.s A A2 tag flag h.ses hA2 (by have := h.good.larr; unfold maxLen; omega), fun W1 hX => ?_, ?_⟩⟩
  · rw [hrem]
    exact rarrive_any W1 S.r S.B S.s _ S.rs S.vh S.vr S.vs S.va A A2 tag flag hX rfl (by have := h.good.larr; omega)
  · unfold arriveS
    split
    · exact h.good.more (Nat.le_succ i)
    · split
      · exact h.good.more (Nat.le_succ i)
      · split
        · exact h.good.more (Nat.le_succ i)
        · rename_i hw _ _
          exact h.good.putA (p := ⟨A, A2, tag⟩) (Classical.byContradiction hw) flag

theorem pair_deliver (h : S.In W own a b i) (hi : i ≤ 2000000) (A : Int) (tag : ByteArray) (flag : Bool) (hA : IsI64 A) :
    ∃ n m s' rs', Pair S i W 31 44 #[.pointer (some ⟨S.K.b, 0, none⟩), .int .i64 A, .string tag, .bool flag] #[.pointer (some ⟨S.r, 0, none⟩), .int .i64 A, .string tag, .bool flag] (.tuple #[.int .i64 n, .int .i64 m]) s' rs' := by
  have hrem : (deliverS S.s A tag flag).1.rem = S.s.rem := by
    unfold deliverS
    split
    · rfl
    · split <;> rfl
  refine ⟨(deliverS S.s A tag flag).2.1, (deliverS S.s A tag flag).2.2, (deliverS S.s A tag flag).1, S.rs, ⟨deliver_any W S.K S.s A tag flag h.ses hA (by have := h.good.lsnd; unfold maxLen; omega), fun W1 hX => ?_, ?_⟩⟩
  · rw [hrem]
    exact rdeliver_any W1 S.r S.B S.s _ S.rs S.vh S.vr S.vs S.va A tag flag hX rfl (by have := h.good.lsnd; omega)
  · unfold deliverS
    split
    · exact h.good.more (Nat.le_succ i)
    · split
      · exact h.good.more (Nat.le_succ i)
      · exact h.good.putS (p := ⟨S.s.nd, A, tag⟩) h.ses.ok.nd flag _

theorem pair_forget (h : S.In W own a b i) (hi : i ≤ 2000000) (flag : Bool) (A : Int) (hA : IsI64 A) :
    ∃ n s' rs', Pair S i W 23 48 #[.pointer (some ⟨S.K.b, 0, none⟩), .bool flag, .int .i64 A] #[.pointer (some ⟨S.r, 0, none⟩), .bool flag, .int .i64 A] (.int .i64 n) s' rs' := by
  have hrem : (forgetS S.s flag A).1.rem = S.s.rem := by
    unfold forgetS
    split
    · cases flag <;> rfl
    · rfl
  refine ⟨(forgetS S.s flag A).2, (forgetS S.s flag A).1, S.rs, ⟨forget_any W S.K S.s flag A h.ses hA, fun W1 hX => ?_, ?_⟩⟩
  · rw [hrem]
    refine rforget_any W1 S.r S.B S.s _ S.rs S.vh S.vr S.vs S.va flag A hX ?_
    cases flag
    · have := h.good.larr; show S.s.arr.length ≤ _; omega
    · have := h.good.lsnd; show S.s.snd.length ≤ _; omega
  · unfold forgetS
    split
    · exact h.good.del flag A
    · exact h.good.more (Nat.le_succ i)

theorem pair_free (h : S.In W own a b i) (hi : i ≤ 2000000) (A : Int) (hA : IsI64 A) :
    ∃ n s' rs', Pair S i W 25 50 #[.pointer (some ⟨S.K.b, 0, none⟩), .int .i64 A] #[.pointer (some ⟨S.r, 0, none⟩), .int .i64 A] (.int .i64 n) s' rs' := by
  refine ⟨(freeS S.s A).2, (freeS S.s A).1, rsFree S.s S.rs A, ⟨free_any W S.K S.s A h.ses hA, fun W1 hX => ?_, ?_⟩⟩
  · exact rfree_any W1 S.r S.B S.s S.rs S.vh S.vr S.vs S.va A hX (by have := h.good.l64; omega) (by have := h.good.lrs; omega) (by have := h.good.lsnd; omega) (by have := h.good.larr; omega)
  · unfold freeS rsFree
    split
    · exact h.good.free A
    · exact h.good.more (Nat.le_succ i)

theorem pair_hand (h : S.In W own a b i) :
    ∃ n m s' rs', Pair S i W 19 49 #[.pointer (some ⟨S.K.b, 0, none⟩)] #[.pointer (some ⟨S.r, 0, none⟩)] (.tuple #[.int .i64 n, .int .i64 m]) s' rs' := by
  obtain ⟨k, hk⟩ := least_ex S.s.rem
  refine ⟨(handS S.s k).2.1, (handS S.s k).2.2, (handS S.s k).1, S.rs, ⟨hand_all W S.K S.s k h.ses hk h.good.l64, fun W1 hX => rhand_any W1 S.r S.B S.s S.rs S.vh S.vr S.vs S.va k hX hk h.good.l64, ?_⟩⟩
  unfold handS
  split
  · exact h.good.more (Nat.le_succ i)
  · split
    · exact h.good.more (Nat.le_succ i)
    · exact h.good.addH (by omega) _

theorem pair_remote (h : S.In W own a b i) (hi : i ≤ 2000000) (A A2 : Int) (hA2 : IsI64 A2) :
    ∃ n s' rs', Pair S i W 27 51 #[.pointer (some ⟨S.K.b, 0, none⟩), .int .i64 A, .int .i64 A2] #[.pointer (some ⟨S.r, 0, none⟩), .int .i64 A, .int .i64 A2] (.int .i64 n) s' rs' := by
  have h1 := remote_any W S.K S.s A A2 h.ses hA2 (by have := h.good.l64; unfold maxLen; omega)
  have h2 := fun W1 hX => rremote_any W1 S.r S.B S.s S.rs S.vh S.vr S.vs S.va A A2 hX (by have := h.good.lrs; omega)
  have ht := rBad_iff (remote := A) (n := A2) h.good.tie
  by_cases hb : remBad S.s A A2
  · refine ⟨132, S.s, S.rs, ⟨h1.mono (fun e w' q => ?_), fun W1 hX => (h2 W1 hX).mono (fun e w' q => ?_), h.good.more (Nat.le_succ i)⟩⟩
    · rcases q with ⟨_, q1, q2, q3⟩ | ⟨q, _⟩
      · exact ⟨q1, q2, q3⟩
      · exact absurd hb q
    · rcases q with ⟨_, q1, q2⟩ | ⟨q, _⟩
      · exact ⟨q1, q2⟩
      · exact absurd (ht.2 hb) q
  · refine ⟨0, S.s.bind A A2, S.rs ++ [(A, A2)], ⟨h1.mono (fun e w' q => ?_), fun W1 hX => (h2 W1 hX).mono (fun e w' q => ?_), h.good.bind h.ses.keys_nd hb⟩⟩
    · rcases q with ⟨q, _⟩ | ⟨_, q1, q2, q3⟩
      · exact absurd q hb
      · exact ⟨q1, q2, q3⟩
    · rcases q with ⟨q, _⟩ | ⟨_, q1, q2⟩
      · exact absurd (ht.1 q) hb
      · exact ⟨q1, q2⟩

/-- an operation of windows -/
theorem pair_win {fP fR : Nat} {aP aR : Array Value} {s' : SS} {n : Int} (h : S.In W own a b i) (hp : Calls Try.prog fP aP W fun e w' => e = .returned (.int .i64 n) ∧ SesIn w' S.K s' ∧ SMv S.K W w') (hr : ∀ W1, RX W1 S.r S.B S.s (S.s.rem.map Prod.fst) S.rs S.vh S.vr S.vs S.va → Calls Try.prog fR aR W1 fun e w' => e = .returned (.int .i64 n) ∧ RIn w' S.r S.B s' (S.s.rem.map Prod.fst) S.rs S.vh S.vr S.vs S.va ∧ W1.grownBy w' (some S.r))
    (h1 : s'.rem = S.s.rem) (h2 : s'.snd = S.s.snd) (h3 : s'.arr = S.s.arr) : Pair S i W fP fR aP aR (.int .i64 n) s' S.rs :=
  ⟨hp, fun W1 hX => (hr W1 hX).mono (fun e w' ⟨q1, q2, q3⟩ => ⟨q1, by rw [h1]; exact RTo.of_row hX q2 q3⟩), h.good.windows h1 h2 h3⟩
theorem win_peer (s : SS) (k no iw ow hm : Int) : (peerS s k no iw ow hm).1.rem = s.rem ∧ (peerS s k no iw ow hm).1.snd = s.snd ∧ (peerS s k no iw ow hm).1.arr = s.arr := by
  unfold peerS
  split
  · exact ⟨rfl, rfl, rfl⟩
  · split <;> exact ⟨rfl, rfl, rfl⟩
theorem win_flow (s : SS) (k ni iw no ow : Int) : (flowS s k ni iw no ow).1.rem = s.rem ∧ (flowS s k ni iw no ow).1.snd = s.snd ∧ (flowS s k ni iw no ow).1.arr = s.arr := by
  unfold flowS
  repeat' split
  all_goals exact ⟨rfl, rfl, rfl⟩
theorem win_sent (s : SS) : (sentS s).1.rem = s.rem ∧ (sentS s).1.snd = s.snd ∧ (sentS s).1.arr = s.arr := by
  unfold sentS
  split <;> exact ⟨rfl, rfl, rfl⟩
theorem win_got (s : SS) : (gotS s).1.rem = s.rem ∧ (gotS s).1.snd = s.snd ∧ (gotS s).1.arr = s.arr := by
  unfold gotS
  repeat' split
  all_goals exact ⟨rfl, rfl, rfl⟩
theorem win_widen (s : SS) (n : Int) : (widenS s n).1.rem = s.rem ∧ (widenS s n).1.snd = s.snd ∧ (widenS s n).1.arr = s.arr := by
  unfold widenS
  split <;> exact ⟨rfl, rfl, rfl⟩
theorem pair_peer (h : S.In W own a b i) (k re ni iw no ow hm hd ct cr av : Int) (dr : Bool) :
    ∃ n s' rs', Pair S i W 18 70 #[.pointer (some ⟨S.K.b, 0, none⟩), .agg (perfC k re ni iw no ow hm hd ct cr av dr)] #[.pointer (some ⟨S.r, 0, none⟩), .agg (perfC k re ni iw no ow hm hd ct cr av dr)] (.int .i64 n) s' rs' :=
  ⟨_, _, _, pair_win h (peer_any W S.K S.s k re ni iw no ow hm hd ct cr av dr h.ses) (fun W1 hX => rpeer_any W1 S.r S.B S.s _ S.rs S.vh S.vr S.vs S.va k re ni iw no ow hm hd ct cr av dr hX.inn) (win_peer ..).1 (win_peer ..).2.1 (win_peer ..).2.2⟩
theorem pair_flow (h : S.In W own a b i) (k re ni iw no ow hm hd ct cr av : Int) (dr : Bool) :
    ∃ n s' rs', Pair S i W 77 78 #[.pointer (some ⟨S.K.b, 0, none⟩), .agg (perfC k re ni iw no ow hm hd ct cr av dr)] #[.pointer (some ⟨S.r, 0, none⟩), .agg (perfC k re ni iw no ow hm hd ct cr av dr)] (.int .i64 n) s' rs' :=
  ⟨_, _, _, pair_win h (flow_any W S.K S.s k re ni iw no ow hm hd ct cr av dr h.ses) (fun W1 hX => rflow_any W1 S.r S.B S.s _ S.rs S.vh S.vr S.vs S.va k re ni iw no ow hm hd ct cr av dr hX.inn) (win_flow ..).1 (win_flow ..).2.1 (win_flow ..).2.2⟩
theorem pair_sent (h : S.In W own a b i) : ∃ n s' rs', Pair S i W 72 73 #[.pointer (some ⟨S.K.b, 0, none⟩)] #[.pointer (some ⟨S.r, 0, none⟩)] (.int .i64 n) s' rs' :=
  ⟨_, _, _, pair_win h (sent_any W S.K S.s h.ses) (fun W1 hX => rsent_any W1 S.r S.B S.s _ S.rs S.vh S.vr S.vs S.va hX.inn) (win_sent ..).1 (win_sent ..).2.1 (win_sent ..).2.2⟩
theorem pair_got (h : S.In W own a b i) : ∃ n s' rs', Pair S i W 74 75 #[.pointer (some ⟨S.K.b, 0, none⟩)] #[.pointer (some ⟨S.r, 0, none⟩)] (.int .i64 n) s' rs' :=
  ⟨_, _, _, pair_win h (got_any W S.K S.s h.ses) (fun W1 hX => rgot_any W1 S.r S.B S.s _ S.rs S.vh S.vr S.vs S.va hX.inn) (win_got ..).1 (win_got ..).2.1 (win_got ..).2.2⟩
theorem pair_widen (h : S.In W own a b i) (A : Int) : ∃ n s' rs', Pair S i W 79 80 #[.pointer (some ⟨S.K.b, 0, none⟩), .int .i64 A] #[.pointer (some ⟨S.r, 0, none⟩), .int .i64 A] (.int .i64 n) s' rs' :=
  ⟨_, _, _, pair_win h (widen_any W S.K S.s A h.ses) (fun W1 hX => rwiden_any W1 S.r S.B S.s _ S.rs S.vh S.vr S.vs S.va A hX.inn) (win_widen ..).1 (win_widen ..).2.1 (win_widen ..).2.2⟩
end
end Go.Proofs.Ytbkimebmoafbnaa
