/-
  Frames in memory, and what FrameBack keeps. No conditions.
-/
import Derived.Test.YtofdpccjpodbhaaFrm
import Derived.Test.YtofdpccjpodbhaaApp
namespace Go.Proofs.Ytofdpccjpodbhaa
open Go.RowKit
set_option linter.unusedVariables false

/-- a frame as it lies -/
structure FrIn where
  T : Int
  C : Int
  ea : Option Addr
  ne : Nat
  ce : Nat
  ext : List UInt8
  ba : Option Addr
  nb : Nat
  cb : Nat
  body : List UInt8

def FrIn.cells (f : FrIn) : List Value := [.int .i64 f.T, .int .i64 f.C, .slice f.ea f.ne f.ce, .slice f.ba f.nb f.cb]
def FrIn.err (f : FrIn) : Int := sealE f.T f.C f.ne f.nb
def FrIn.bytes (f : FrIn) : List UInt8 := sealB f.T f.C f.ext f.body
def FrIn.size (f : FrIn) : Nat := 8 + f.ne + f.nb

structure FrIn.ok (f : FrIn) (w : World) : Prop where
  e : BytesIn w f.ea f.ne f.ce f.ext
  b : BytesIn w f.ba f.nb f.cb f.body
  el : f.ne ≤ 1048576
  bl : f.nb ≤ 1048576

theorem FrIn.ok.below {f : FrIn} {w w' : World} (h : f.ok w) (hb : Below w.heap.size w w') : f.ok w' := ⟨h.e.below hb, h.b.below hb, h.el, h.bl⟩
theorem FrIn.ok.err {f : FrIn} {w : World} (h : f.ok w) (h0 : f.err = 0) : sealE f.T f.C f.ext.length f.body.length = 0 := by rw [h.e.len, h.b.len]; exact h0
theorem FrIn.ok.len {f : FrIn} {w : World} (h : f.ok w) : f.bytes.length = f.size := by
  unfold FrIn.bytes FrIn.size
  rw [sealB_length, h.e.len, h.b.len]

/-- a slice of frames in memory -/
structure FramesIn (w : World) (a : Option Addr) (n c : Nat) (L : List FrIn) : Prop where
  len : L.length = n
  le : n ≤ c
  cap : c ≤ maxLen
  at_ : 0 < c → ∃ b o, a = some ⟨b, o, none⟩ ∧ b < w.heap.size ∧ ∀ i f, L[i]? = some f → ∀ (k : Nat) v, f.cells[k]? = some v → w.cell? ⟨b, o + i * 4 + k, none⟩ = some v
  ok : ∀ f ∈ L, f.ok w

theorem FramesIn.below {w w' : World} {a : Option Addr} {n c : Nat} {L : List FrIn} (h : FramesIn w a n c L) (hb : Below w.heap.size w w') : FramesIn w' a n c L := by
  refine ⟨h.len, h.le, h.cap, fun hc => ?_, fun f hf => (h.ok f hf).below hb⟩
  obtain ⟨b, o, e, hlt, hcell⟩ := h.at_ hc
  exact ⟨b, o, e, Nat.lt_of_lt_of_le hlt hb.size, fun i f hf k v hv => (hb.cell (p := ⟨b, o + i * 4 + k, none⟩) hlt).trans (hcell i f hf k v hv)⟩

theorem rows_apart {w : World} {B B' T T' k k' n n' : Nat} {u v : Value} {xs ys : List Value} (hu : w.ownsRow B T k u n xs) (hv : w.ownsRow B' T' k' v n' ys) (hT : T ≠ T') : u.ownBlock = none ∨ u.ownBlock ≠ v.ownBlock := by
  rcases hu.2 with ⟨rfl, _⟩ | ⟨g, cap, cur, rfl, _, hh, _⟩
  · exact .inl rfl
  · refine .inr (fun he => ?_)
    rcases hv.2 with ⟨rfl, _⟩ | ⟨g', cap', cur', rfl, _, hh', _⟩
    · simp [Value.ownBlock] at he
    · simp only [Value.ownBlock, Option.some.injEq] at he
      subst he
      rw [hh] at hh'
      simp only [Option.some.injEq, Obj.cells.injEq] at hh'
      exact hT hh'.2.1

/-- frames that stand sealed in a list of bytes -/
def Stand (l : List UInt8) (P : List (Nat × FrIn)) : Prop := ∀ u ∈ P, u.2.err = 0 ∧ u.1 + u.2.size ≤ l.length ∧ ∃ X, l.drop u.1 = u.2.bytes ++ X

theorem Stand.more {l r : List UInt8} {P : List (Nat × FrIn)} (h : Stand l P) : Stand (l ++ r) P := fun u hu => by
  obtain ⟨h1, h2, X, h3⟩ := h u hu
  refine ⟨h1, by rw [List.length_append]; omega, X ++ r, ?_⟩
  rw [List.drop_append_of_le_length (by omega), h3, List.append_assoc]
theorem Stand.put {l : List UInt8} {P : List (Nat × FrIn)} {f : FrIn} (h : Stand l P) (h0 : f.err = 0) (hl : f.bytes.length = f.size) : Stand (l ++ f.bytes) (P ++ [(l.length, f)]) := fun u hu => by
  rcases List.mem_append.1 hu with hu | hu
  · exact h.more u hu
  · obtain rfl : u = (l.length, f) := by simpa using hu
    refine ⟨h0, by rw [List.length_append, hl]; exact Nat.le_refl _, [], ?_⟩
    rw [List.append_nil]
    exact List.drop_left' rfl

/-- what the first loop keeps -/
structure FB (w0 wr : World) (L : List FrIn) (va vp vf : Value) (l : List UInt8) (P : List (Nat × FrIn)) : Prop where
  bel : Below w0.heap.size w0 wr
  all : OwnBytes wr w0.heap.size 5 va l
  places : wr.ownsRow w0.heap.size 3 1 vp P.length (P.map fun u => .int .i64 u.1)
  frames : wr.ownsRow w0.heap.size 24 4 vf P.length (P.flatMap fun u => u.2.cells)
  stand : Stand l P
  mem : ∀ u ∈ P, u.2 ∈ L

theorem FB.below {w0 wr w' : World} {L : List FrIn} {va vp vf : Value} {l : List UInt8} {P : List (Nat × FrIn)} (h : FB w0 wr L va vp vf l P) (hb : Below wr.heap.size wr w') : FB w0 w' L va vp vf l P := by
  have hg : wr.grownBy w' none := ⟨hb.os, hb.tape, hb.output, hb.size, fun k hk _ => hb.block k hk⟩
  refine ⟨h.bel.trans (hb.mono h.bel.size), h.all.of_below hb, h.places.kept hg ?_, h.frames.kept hg ?_, h.stand, h.mem⟩
  · cases h2 : vp.ownBlock with
    | none => exact .inl rfl
    | some g => exact .inr (fun h => by cases h)
  · cases h2 : vf.ownBlock with
    | none => exact .inl rfl
    | some g => exact .inr (fun h => by cases h)

theorem FB.putBytes {w0 wr w' : World} {L : List FrIn} {va va' vp vf : Value} {l r : List UInt8} {P : List (Nat × FrIn)} (h : FB w0 wr L va vp vf l P) (ho : OwnBytes w' w0.heap.size 5 va' (l ++ r)) (hg : wr.grownBy w' va.ownBlock) : FB w0 w' L va' vp vf (l ++ r) P :=
  ⟨h.bel.grown hg h.bel.size (fun k hk => (h.all.row.lt k hk).1), ho, h.places.kept hg (rows_apart h.places h.all.row (by decide)), h.frames.kept hg (rows_apart h.frames h.all.row (by decide)), h.stand.more, h.mem⟩

/-- places and frames lag behind: the three appends one by one -/
structure FB1 (w0 wr : World) (L : List FrIn) (va vp vf : Value) (l : List UInt8) (P : List (Nat × FrIn)) (p : Nat) : Prop where
  bel : Below w0.heap.size w0 wr
  all : OwnBytes wr w0.heap.size 5 va l
  places : wr.ownsRow w0.heap.size 3 1 vp (P.length + 1) ((P.map fun u => .int .i64 u.1) ++ [.int .i64 p])
  frames : wr.ownsRow w0.heap.size 24 4 vf P.length (P.flatMap fun u => u.2.cells)
  stand : Stand l P
  mem : ∀ u ∈ P, u.2 ∈ L
theorem FB.putPlace {w0 wr w' : World} {L : List FrIn} {va vp vp' vf : Value} {l : List UInt8} {P : List (Nat × FrIn)} {p : Nat} (h : FB w0 wr L va vp vf l P) (hr : w'.ownsRow w0.heap.size 3 1 vp' (P.length + 1) ((P.map fun u => .int .i64 u.1) ++ [.int .i64 p])) (hg : wr.grownBy w' vp.ownBlock) : FB1 w0 w' L va vp' vf l P p :=
  ⟨h.bel.grown hg h.bel.size (fun k hk => (h.places.lt k hk).1), h.all.kept hg (rows_apart h.all.row h.places (by decide)), hr, h.frames.kept hg (rows_apart h.frames h.places (by decide)), h.stand, h.mem⟩

structure FB2 (w0 wr : World) (L : List FrIn) (va vp vf : Value) (l : List UInt8) (P : List (Nat × FrIn)) (p : Nat) (f : FrIn) : Prop where
  bel : Below w0.heap.size w0 wr
  all : OwnBytes wr w0.heap.size 5 va l
  places : wr.ownsRow w0.heap.size 3 1 vp (P ++ [(p, f)]).length ((P ++ [(p, f)]).map fun u => .int .i64 u.1)
  frames : wr.ownsRow w0.heap.size 24 4 vf (P ++ [(p, f)]).length ((P ++ [(p, f)]).flatMap fun u => u.2.cells)
  stand : Stand l P
  mem : ∀ u ∈ P ++ [(p, f)], u.2 ∈ L
theorem FB1.putFrame {w0 wr w' : World} {L : List FrIn} {va vp vf vf' : Value} {l : List UInt8} {P : List (Nat × FrIn)} {p : Nat} {f : FrIn} (h : FB1 w0 wr L va vp vf l P p) (hr : w'.ownsRow w0.heap.size 24 4 vf' (P.length + 1) ((P.flatMap fun u => u.2.cells) ++ f.cells)) (hg : wr.grownBy w' vf.ownBlock) (hf : f ∈ L) : FB2 w0 w' L va vp vf' l P p f := by
  refine ⟨h.bel.grown hg h.bel.size (fun k hk => (h.frames.lt k hk).1), h.all.kept hg (rows_apart h.all.row h.frames (by decide)), ?_, ?_, h.stand, fun u hu => ?_⟩
  · have := h.places.kept hg (rows_apart h.places h.frames (by decide))
    rw [List.length_append, List.map_append]
    exact this
  · rw [List.length_append, List.flatMap_append]
    simpa using hr
  · rcases List.mem_append.1 hu with hu | hu
    · exact h.mem u hu
    · obtain rfl : u = (p, f) := by simpa using hu
      exact hf
theorem FB2.putBytes {w0 wr w' : World} {L : List FrIn} {va va' vp vf : Value} {l : List UInt8} {P : List (Nat × FrIn)} {f : FrIn} {p : Nat} (h : FB2 w0 wr L va vp vf l P p f) (hp : l.length = p) (ho : OwnBytes w' w0.heap.size 5 va' (l ++ f.bytes)) (hg : wr.grownBy w' va.ownBlock) (h0 : f.err = 0) (hl : f.bytes.length = f.size) : FB w0 w' L va' vp vf (l ++ f.bytes) (P ++ [(p, f)]) := by
  subst hp
  exact ⟨h.bel.grown hg h.bel.size (fun k hk => (h.all.row.lt k hk).1), ho, h.places.kept hg (rows_apart h.places h.all.row (by decide)), h.frames.kept hg (rows_apart h.frames h.all.row (by decide)), h.stand.put h0 hl, h.mem⟩

theorem flat_get (P : List (Nat × FrIn)) : ∀ (j : Nat) (u : Nat × FrIn) (k : Nat) (v : Value), P[j]? = some u → u.2.cells[k]? = some v → (P.flatMap fun u => u.2.cells)[j * 4 + k]? = some v := by
  induction P with
  | nil => intro j u k v h; simp at h
  | cons x P ih =>
    intro j u k v hj hk
    have hk4 : k < 4 := (List.getElem?_eq_some_iff.1 hk).1
    rw [List.flatMap_cons]
    cases j with
    | zero =>
      simp only [List.getElem?_cons_zero, Option.some.injEq] at hj
      subst hj
      rw [Nat.zero_mul, Nat.zero_add, List.getElem?_append_left hk4]
      exact hk
    | succ j =>
      rw [List.getElem?_cons_succ] at hj
      rw [List.getElem?_append_right (by show 4 ≤ _; omega)]
      have : (j + 1) * 4 + k - x.2.cells.length = j * 4 + k := by
        show (j + 1) * 4 + k - 4 = _
        omega
      rw [this]
      exact ih j u k v hj hk

theorem row_form {w : World} {B T k n : Nat} {v : Value} {xs : List Value} (h : w.ownsRow B T k v n xs) : ∃ a c, v = .slice a n c ∧ n ≤ c ∧ c ≤ maxLen ∧ (0 < n → ∃ g, a = some ⟨g, 0, none⟩ ∧ B ≤ g ∧ g < w.heap.size) := by
  rcases h.2 with ⟨e1, e2⟩ | ⟨g, cap, cur, e1, h1, h2, e3, e4, _⟩
  · exact ⟨none, 0, by rw [e1, e2], by omega, by unfold maxLen; omega, fun h => by omega⟩
  · exact ⟨_, cap, e1, e3, e4, fun _ => ⟨g, rfl, h1, (Array.getElem?_eq_some_iff.1 h2).1⟩⟩

theorem FB.place {w0 wr : World} {L : List FrIn} {va vf : Value} {l : List UInt8} {P : List (Nat × FrIn)} {g c : Nat} (h : FB w0 wr L va (.slice (some ⟨g, 0, none⟩) P.length c) vf l P) (j : Nat) (u : Nat × FrIn) (hu : P[j]? = some u) : wr.cell? ⟨g, j, none⟩ = some (.int .i64 u.1) := by
  have hj := (List.getElem?_eq_some_iff.1 hu).1
  rw [h.places.cellAt j (by omega), List.getElem?_map, hu]
  rfl
theorem FB.frame {w0 wr : World} {L : List FrIn} {va vp : Value} {l : List UInt8} {P : List (Nat × FrIn)} {g c : Nat} (h : FB w0 wr L va vp (.slice (some ⟨g, 0, none⟩) P.length c) l P) (j : Nat) (u : Nat × FrIn) (hu : P[j]? = some u) (k : Nat) (v : Value) (hv : u.2.cells[k]? = some v) : wr.cell? ⟨g, j * 4 + k, none⟩ = some v := by
  have hj := (List.getElem?_eq_some_iff.1 hu).1
  have hk4 : k < 4 := (List.getElem?_eq_some_iff.1 hv).1
  rw [h.frames.cellAt (j * 4 + k) (by omega)]
  exact flat_get P j u k v hu hv

/-- what is read where a frame stands -/
theorem stand_open {l X : List UInt8} {p M : Nat} {f : FrIn} {w : World} (hok : f.ok w) (h0 : f.err = 0) (hp : p + f.size ≤ l.length) (hX : l.drop p = f.bytes ++ X) (hM : f.size ≤ M) (h1 : 512 ≤ M) (h2 : M ≤ 1048576) :
    openR l p M = (f.T.toNat, f.C.toNat, f.ext, f.body, (p : Int) + (f.size : Nat), 0) := by
  rw [openR_at l p M (by omega) h1 h2, hX]
  have := openL_seal f.T f.C f.ext f.body X p M (hok.err h0) (by rw [hok.e.len, hok.b.len]; exact hM)
  rw [hok.e.len, hok.b.len] at this
  exact this
theorem stand_cut {l X : List UInt8} {p M s : Nat} {f : FrIn} {w : World} (hok : f.ok w) (h0 : f.err = 0) (hp : p + f.size ≤ l.length) (hX : l.drop p = f.bytes ++ X) (hM : f.size ≤ M) (h1 : 512 ≤ M) (h2 : M ≤ 1048576) (hs1 : p ≤ s) (hs2 : s < p + f.size) :
    openR (l.take s) p M = (0, 0, [], [], 0, 10) := by
  rw [openR_at _ p M (by rw [List.length_take]; omega) h1 h2, List.drop_take, hX]
  exact openL_cut f.T f.C f.ext f.body X p M (s - p) (hok.err h0) (by rw [hok.e.len, hok.b.len]; exact hM) (by rw [hok.e.len, hok.b.len]; show s - p < f.size; omega)
end Go.Proofs.Ytofdpccjpodbhaa
