/-
  What is sealed is opened: plain lemmas on lists of bytes. No program in sight.
  Frames in memory, and what FrameBack keeps. No conditions.
  The contracts of longshoreref05's number and Same. Conditions: the bytes lie in memory.
-/
import Derived.Test.YtofdpccjpodbhaaMg07
namespace Go.Proofs.Ytofdpccjpodbhaa
open Go.RowKit
set_option linter.unusedVariables false

/-- what Open finds, from its place on -/
def openL (L : List UInt8) (p : Nat) (M : Nat) : Nat × Nat × List UInt8 × List UInt8 × Int × Int :=
  if L.length < 4 then (0, 0, [], [], 0, 10)
  else
    let size := beVal (L.take 4)
    if size < 8 ∨ (M : Int) < size then (0, 0, [], [], 0, 51)
    else if L.length < 5 then (0, 0, [], [], 0, 10)
    else
      let off := 4 * (L.getD 4 0).toNat
      if off < 8 ∨ size < off then (0, 0, [], [], 0, 52)
      else if L.length < 6 then (0, 0, [], [], 0, 10)
      else
        let kind := (L.getD 5 0).toNat
        if 1 < kind then (0, 0, [], [], 0, 53)
        else if L.length < size then (0, 0, [], [], 0, 10)
        else (kind, if kind = 0 then beVal ((L.drop 6).take 2) else 0, (L.drop 8).take (off - 8), (L.drop off).take (size - off), (p : Int) + size, 0)

theorem openR_at (b : List UInt8) (p M : Nat) (hp : p ≤ b.length) (h1 : 512 ≤ M) (h2 : M ≤ 1048576) : openR b p M = openL (b.drop p) p M := by
  unfold openR
  rw [if_neg (by omega), Int.toNat_natCast]
  rfl

theorem list4 {l : List UInt8} (h : l.length = 4) : ∃ a b c d, l = [a, b, c, d] := by
  match l, h with
  | [a, b, c, d], _ => exact ⟨a, b, c, d, rfl⟩
theorem list2 {l : List UInt8} (h : l.length = 2) : ∃ a b, l = [a, b] := by
  match l, h with
  | [a, b], _ => exact ⟨a, b, rfl⟩

/-- what a sealed frame's bytes look like -/
theorem seal_form (T C : Int) (ext body : List UInt8) (hE : sealE T C ext.length body.length = 0) :
    ∃ s0 s1 s2 s3 o t c0 c1 : UInt8, sealB T C ext body = s0 :: s1 :: s2 :: s3 :: o :: t :: c0 :: c1 :: (ext ++ body) ∧ beVal [s0, s1, s2, s3] = 8 + ext.length + body.length ∧ 4 * o.toNat = 8 + ext.length ∧ t.toNat = T.toNat ∧ beVal [c0, c1] = C.toNat ∧
      (T = 0 ∨ T = 1 ∧ C = 0) ∧ 0 ≤ C ∧ C ≤ 65535 ∧ 8 + ext.length + body.length ≤ 1048576 ∧ ext.length ≤ 1012 ∧ ext.length % 4 = 0 := by
  unfold sealE at hE
  by_cases h1 : T ≠ 0 ∧ T ≠ 1
  · rw [if_pos h1] at hE; simp at hE
  rw [if_neg h1] at hE
  by_cases h2 : C < 0 ∨ 65535 < C ∨ (T = 1 ∧ C ≠ 0)
  · rw [if_pos h2] at hE; simp at hE
  rw [if_neg h2] at hE
  by_cases h3 : ext.length % 4 ≠ 0 ∨ 1012 < ext.length
  · rw [if_pos h3] at hE; simp at hE
  rw [if_neg h3] at hE
  by_cases h4 : 1048576 < 8 + ext.length + body.length
  · rw [if_pos h4] at hE; simp at hE
  obtain ⟨s0, s1, s2, s3, hs⟩ := list4 (putL_length (8 + ext.length + body.length) 4)
  obtain ⟨c0, c1, hc⟩ := list2 (putL_length C.toNat 2)
  have e1 := beVal_put (8 + ext.length + body.length) 4
  have e2 := beVal_put C.toNat 2
  rw [hs] at e1
  rw [hc] at e2
  refine ⟨s0, s1, s2, s3, UInt8.ofNat ((8 + ext.length) / 4), UInt8.ofNat T.toNat, c0, c1, ?_, ?_, ?_, ?_, ?_, ?_, by omega, by omega, by omega, by omega, by omega⟩
  · unfold sealB
    rw [hs, hc]
    simp
  · rw [e1]; omega
  · have : (UInt8.ofNat ((8 + ext.length) / 4)).toNat = (8 + ext.length) / 4 % 256 := by simp
    omega
  · have : (UInt8.ofNat T.toNat).toNat = T.toNat % 256 := by simp
    omega
  · rw [e2]; omega
  · omega

/-- THE LAW: what is sealed is opened -/
theorem openL_seal (T C : Int) (ext body X : List UInt8) (p M : Nat) (hE : sealE T C ext.length body.length = 0) (hM : 8 + ext.length + body.length ≤ M) :
    openL (sealB T C ext body ++ X) p M = (T.toNat, C.toNat, ext, body, (p : Int) + (8 + ext.length + body.length : Nat), 0) := by
  obtain ⟨s0, s1, s2, s3, o, t, c0, c1, hS, h4, ho, ht, hc, hTC, h0, h5, h6, h7, h8⟩ := seal_form T C ext body hE
  rw [hS]
  obtain ⟨n, hn⟩ : ∃ n, 8 + ext.length + body.length = n := ⟨_, rfl⟩
  rw [hn] at h4 h6 hM ⊢
  have hlen : (s0 :: s1 :: s2 :: s3 :: o :: t :: c0 :: c1 :: (ext ++ body) ++ X).length = n + X.length := by simp; omega
  have e4 : beVal ((s0 :: s1 :: s2 :: s3 :: o :: t :: c0 :: c1 :: (ext ++ body) ++ X).take 4) = n := h4
  have e5 : ((s0 :: s1 :: s2 :: s3 :: o :: t :: c0 :: c1 :: (ext ++ body) ++ X).getD 4 0) = o := rfl
  have e6 : ((s0 :: s1 :: s2 :: s3 :: o :: t :: c0 :: c1 :: (ext ++ body) ++ X).getD 5 0) = t := rfl
  have e7 : beVal (((s0 :: s1 :: s2 :: s3 :: o :: t :: c0 :: c1 :: (ext ++ body) ++ X).drop 6).take 2) = C.toNat := hc
  have e8 : (s0 :: s1 :: s2 :: s3 :: o :: t :: c0 :: c1 :: (ext ++ body) ++ X).drop 8 = ext ++ body ++ X := rfl
  have e9 : (s0 :: s1 :: s2 :: s3 :: o :: t :: c0 :: c1 :: (ext ++ body) ++ X).drop (8 + ext.length) = body ++ X := by
    rw [← List.drop_drop, e8, List.append_assoc]
    exact List.drop_left' rfl
  unfold openL
  simp only [hlen, e4, e5, e6, e7, e8]
  rw [if_neg (by omega), if_neg (by omega), if_neg (by omega), ho, if_neg (by omega), if_neg (by omega), ht, if_neg (by omega), if_neg (by omega), e9]
  refine Prod.ext rfl (Prod.ext ?_ (Prod.ext ?_ (Prod.ext ?_ rfl)))
  · show (if T.toNat = 0 then C.toNat else 0) = C.toNat
    split <;> omega
  · show List.take (8 + ext.length - 8) (ext ++ body ++ X) = ext
    rw [List.append_assoc]
    exact List.take_left' (by omega)
  · show List.take (n - (8 + ext.length)) (body ++ X) = body
    exact List.take_left' (by omega)

/-- .. and a beginning of it is short -/
theorem openL_cut (T C : Int) (ext body X : List UInt8) (p M k : Nat) (hE : sealE T C ext.length body.length = 0) (hM : 8 + ext.length + body.length ≤ M) (hk : k < 8 + ext.length + body.length) :
    openL ((sealB T C ext body ++ X).take k) p M = (0, 0, [], [], 0, 10) := by
  obtain ⟨s0, s1, s2, s3, o, t, c0, c1, hS, h4, ho, ht, hc, hTC, h0, h5, h6, h7, h8⟩ := seal_form T C ext body hE
  rw [hS]
  obtain ⟨n, hn⟩ : ∃ n, 8 + ext.length + body.length = n := ⟨_, rfl⟩
  rw [hn] at h4 h6 hM hk
  have hlen : ((s0 :: s1 :: s2 :: s3 :: o :: t :: c0 :: c1 :: (ext ++ body) ++ X).take k).length = k := by
    rw [List.length_take]; simp; omega
  obtain ⟨L, hL⟩ : ∃ L, (s0 :: s1 :: s2 :: s3 :: o :: t :: c0 :: c1 :: (ext ++ body) ++ X).take k = L := ⟨_, rfl⟩
  unfold openL
  rw [hL] at hlen ⊢
  simp only [hlen]
  by_cases k4 : k < 4
  · rw [if_pos k4]
  have e4 : beVal (L.take 4) = n := by
    rw [← hL, List.take_take, Nat.min_eq_left (by omega)]; exact h4
  rw [if_neg k4]
  simp only [e4]
  rw [if_neg (by omega)]
  by_cases k5 : k < 5
  · rw [if_pos k5]
  have e5 : L.getD 4 0 = o := by
    rw [← hL, List.getD_eq_getElem?_getD, List.getElem?_take, if_pos (by omega)]; rfl
  rw [if_neg k5, e5, ho, if_neg (by omega)]
  by_cases k6 : k < 6
  · rw [if_pos k6]
  have e6 : L.getD 5 0 = t := by
    rw [← hL, List.getD_eq_getElem?_getD, List.getElem?_take, if_pos (by omega)]; rfl
  rw [if_neg k6, e6, ht, if_neg (by omega), if_pos hk]

theorem sealB_length (T C : Int) (ext body : List UInt8) : (sealB T C ext body).length = 8 + ext.length + body.length := by
  unfold sealB
  simp [putL_length]
  omega

/-- a header at the end is read -/
theorem readH_end (l : List UInt8) (p : Nat) (hp : p = 0 ∨ p = 3) : readH (l ++ headL p) l.length = ((p : Int), (l.length : Int) + 8, 0) := by
  have hR : (((l ++ headL p).drop l.length).take 8) = headL p := by
    rw [List.drop_left' rfl]; rfl
  rw [readH_in _ _ _ (by simp) hR]
  rcases hp with rfl | rfl
  · rfl
  · rfl
end Go.Proofs.Ytofdpccjpodbhaa

namespace Go.Proofs.Ytofdpccjpodbhaa
open Go.RowKit
set_option linter.unusedVariables false

/-- a frame as it lies -/
structure FrIn where
  T : Int
  C : Int
  ea : Option Addr
  ne : Nat
  ce : Nat
  ext : List UInt8
  ba : Option Addr
  nb : Nat
  cb : Nat
  body : List UInt8

def FrIn.cells (f : FrIn) : List Value := [.int .i64 f.T, .int .i64 f.C, .slice f.ea f.ne f.ce, .slice f.ba f.nb f.cb]
def FrIn.err (f : FrIn) : Int := sealE f.T f.C f.ne f.nb
def FrIn.bytes (f : FrIn) : List UInt8 := sealB f.T f.C f.ext f.body
def FrIn.size (f : FrIn) : Nat := 8 + f.ne + f.nb

structure FrIn.ok (f : FrIn) (w : World) : Prop where
  e : BytesIn w f.ea f.ne f.ce f.ext
  b : BytesIn w f.ba f.nb f.cb f.body
  el : f.ne ≤ 1048576
  bl : f.nb ≤ 1048576

theorem FrIn.ok.below {f : FrIn} {w w' : World} (h : f.ok w) (hb : Below w.heap.size w w') : f.ok w' := ⟨h.e.below hb, h.b.below hb, h.el, h.bl⟩
theorem FrIn.ok.err {f : FrIn} {w : World} (h : f.ok w) (h0 : f.err = 0) : sealE f.T f.C f.ext.length f.body.length = 0 := by rw [h.e.len, h.b.len]; exact h0
theorem FrIn.ok.len {f : FrIn} {w : World} (h : f.ok w) : f.bytes.length = f.size := by
  unfold FrIn.bytes FrIn.size
  rw [sealB_length, h.e.len, h.b.len]

/-- a slice of frames in memory -/
structure FramesIn (w : World) (a : Option Addr) (n c : Nat) (L : List FrIn) : Prop where
  len : L.length = n
  le : n ≤ c
  cap : c ≤ maxLen
  at_ : 0 < c → ∃ b o, a = some ⟨b, o, none⟩ ∧ b < w.heap.size ∧ ∀ i f, L[i]? = some f → ∀ (k : Nat) v, f.cells[k]? = some v → w.cell? ⟨b, o + i * 4 + k, none⟩ = some v
  ok : ∀ f ∈ L, f.ok w

theorem FramesIn.below {w w' : World} {a : Option Addr} {n c : Nat} {L : List FrIn} (h : FramesIn w a n c L) (hb : Below w.heap.size w w') : FramesIn w' a n c L := by
  refine ⟨h.len, h.le, h.cap, fun hc => ?_, fun f hf => (h.ok f hf).below hb⟩
  obtain ⟨b, o, e, hlt, hcell⟩ := h.at_ hc
  exact ⟨b, o, e, Nat.lt_of_lt_of_le hlt hb.size, fun i f hf k v hv => (hb.cell (p := ⟨b, o + i * 4 + k, none⟩) hlt).trans (hcell i f hf k v hv)⟩

theorem rows_apart {w : World} {B B' T T' k k' n n' : Nat} {u v : Value} {xs ys : List Value} (hu : w.ownsRow B T k u n xs) (hv : w.ownsRow B' T' k' v n' ys) (hT : T ≠ T') : u.ownBlock = none ∨ u.ownBlock ≠ v.ownBlock := by
  rcases hu.2 with ⟨rfl, _⟩ | ⟨g, cap, cur, rfl, _, hh, _⟩
  · exact .inl rfl
  · refine .inr (fun he => ?_)
    rcases hv.2 with ⟨rfl, _⟩ | ⟨g', cap', cur', rfl, _, hh', _⟩
    · simp [Value.ownBlock] at he
    · simp only [Value.ownBlock, Option.some.injEq] at he
      subst he
      rw [hh] at hh'
      simp only [Option.some.injEq, Obj.cells.injEq] at hh'
      exact hT hh'.2.1

/-- frames that stand sealed in a list of bytes -/
def Stand (l : List UInt8) (P : List (Nat × FrIn)) : Prop := ∀ u ∈ P, u.2.err = 0 ∧ u.1 + u.2.size ≤ l.length ∧ ∃ X, l.drop u.1 = u.2.bytes ++ X

theorem Stand.more {l r : List UInt8} {P : List (Nat × FrIn)} (h : Stand l P) : Stand (l ++ r) P := fun u hu => by
  obtain ⟨h1, h2, X, h3⟩ := h u hu
  refine ⟨h1, by rw [List.length_append]; omega, X ++ r, ?_⟩
  rw [List.drop_append_of_le_length (by omega), h3, List.append_assoc]
theorem Stand.put {l : List UInt8} {P : List (Nat × FrIn)} {f : FrIn} (h : Stand l P) (h0 : f.err = 0) (hl : f.bytes.length = f.size) : Stand (l ++ f.bytes) (P ++ [(l.length, f)]) := fun u hu => by
  rcases List.mem_append.1 hu with hu | hu
  · exact h.more u hu
  · obtain rfl : u = (l.length, f) := by simpa using hu
    refine ⟨h0, by rw [List.length_append, hl]; exact Nat.le_refl _, [], ?_⟩
    rw [List.append_nil]
    exact List.drop_left' rfl

/-- what the first loop keeps -/
structure FB (w0 wr : World) (L : List FrIn) (va vp vf : Value) (l : List UInt8) (P : List (Nat × FrIn)) : Prop where
  bel : Below w0.heap.size w0 wr
  all : OwnBytes wr w0.heap.size 5 va l
  places : wr.ownsRow w0.heap.size 3 1 vp P.length (P.map fun u => .int .i64 u.1)
  frames : wr.ownsRow w0.heap.size 24 4 vf P.length (P.flatMap fun u => u.2.cells)
  stand : Stand l P
  mem : ∀ u ∈ P, u.2 ∈ L

theorem FB.below {w0 wr w' : World} {L : List FrIn} {va vp vf : Value} {l : List UInt8} {P : List (Nat × FrIn)} (h : FB w0 wr L va vp vf l P) (hb : Below wr.heap.size wr w') : FB w0 w' L va vp vf l P := by
  have hg : wr.grownBy w' none := ⟨hb.os, hb.tape, hb.output, hb.size, fun k hk _ => hb.block k hk⟩
  refine ⟨h.bel.trans (hb.mono h.bel.size), h.all.of_below hb, h.places.kept hg ?_, h.frames.kept hg ?_, h.stand, h.mem⟩
  · cases h2 : vp.ownBlock with
    | none => exact .inl rfl
    | some g => exact .inr (fun h => by cases h)
  · cases h2 : vf.ownBlock with
    | none => exact .inl rfl
    | some g => exact .inr (fun h => by cases h)

theorem FB.putBytes {w0 wr w' : World} {L : List FrIn} {va va' vp vf : Value} {l r : List UInt8} {P : List (Nat × FrIn)} (h : FB w0 wr L va vp vf l P) (ho : OwnBytes w' w0.heap.size 5 va' (l ++ r)) (hg : wr.grownBy w' va.ownBlock) : FB w0 w' L va' vp vf (l ++ r) P :=
  ⟨h.bel.grown hg h.bel.size (fun k hk => (h.all.row.lt k hk).1), ho, h.places.kept hg (rows_apart h.places h.all.row (by decide)), h.frames.kept hg (rows_apart h.frames h.all.row (by decide)), h.stand.more, h.mem⟩

/-- places and frames lag behind: the three appends one by one -/
structure FB1 (w0 wr : World) (L : List FrIn) (va vp vf : Value) (l : List UInt8) (P : List (Nat × FrIn)) (p : Nat) : Prop where
  bel : Below w0.heap.size w0 wr
  all : OwnBytes wr w0.heap.size 5 va l
  places : wr.ownsRow w0.heap.size 3 1 vp (P.length + 1) ((P.map fun u => .int .i64 u.1) ++ [.int .i64 p])
  frames : wr.ownsRow w0.heap.size 24 4 vf P.length (P.flatMap fun u => u.2.cells)
  stand : Stand l P
  mem : ∀ u ∈ P, u.2 ∈ L
theorem FB.putPlace {w0 wr w' : World} {L : List FrIn} {va vp vp' vf : Value} {l : List UInt8} {P : List (Nat × FrIn)} {p : Nat} (h : FB w0 wr L va vp vf l P) (hr : w'.ownsRow w0.heap.size 3 1 vp' (P.length + 1) ((P.map fun u => .int .i64 u.1) ++ [.int .i64 p])) (hg : wr.grownBy w' vp.ownBlock) : FB1 w0 w' L va vp' vf l P p :=
  ⟨h.bel.grown hg h.bel.size (fun k hk => (h.places.lt k hk).1), h.all.kept hg (rows_apart h.all.row h.places (by decide)), hr, h.frames.kept hg (rows_apart h.frames h.places (by decide)), h.stand, h.mem⟩

structure FB2 (w0 wr : World) (L : List FrIn) (va vp vf : Value) (l : List UInt8) (P : List (Nat × FrIn)) (p : Nat) (f : FrIn) : Prop where
  bel : Below w0.heap.size w0 wr
  all : OwnBytes wr w0.heap.size 5 va l
  places : wr.ownsRow w0.heap.size 3 1 vp (P ++ [(p, f)]).length ((P ++ [(p, f)]).map fun u => .int .i64 u.1)
  frames : wr.ownsRow w0.heap.size 24 4 vf (P ++ [(p, f)]).length ((P ++ [(p, f)]).flatMap fun u => u.2.cells)
  stand : Stand l P
  mem : ∀ u ∈ P ++ [(p, f)], u.2 ∈ L
theorem FB1.putFrame {w0 wr w' : World} {L : List FrIn} {va vp vf vf' : Value} {l : List UInt8} {P : List (Nat × FrIn)} {p : Nat} {f : FrIn} (h : FB1 w0 wr L va vp vf l P p) (hr : w'.ownsRow w0.heap.size 24 4 vf' (P.length + 1) ((P.flatMap fun u => u.2.cells) ++ f.cells)) (hg : wr.grownBy w' vf.ownBlock) (hf : f ∈ L) : FB2 w0 w' L va vp vf' l P p f := by
  refine ⟨h.bel.grown hg h.bel.size (fun k hk => (h.frames.lt k hk).1), h.all.kept hg (rows_apart h.all.row h.frames (by decide)), ?_, ?_, h.stand, fun u hu => ?_⟩
  · have := h.places.kept hg (rows_apart h.places h.frames (by decide))
    rw [List.length_append, List.map_append]
    exact this
  · rw [List.length_append, List.flatMap_append]
    simpa using hr
  · rcases List.mem_append.1 hu with hu | hu
    · exact h.mem u hu
    · obtain rfl : u = (p, f) := by simpa using hu
      exact hf
theorem FB2.putBytes {w0 wr w' : World} {L : List FrIn} {va va' vp vf : Value} {l : List UInt8} {P : List (Nat × FrIn)} {f : FrIn} {p : Nat} (h : FB2 w0 wr L va vp vf l P p f) (hp : l.length = p) (ho : OwnBytes w' w0.heap.size 5 va' (l ++ f.bytes)) (hg : wr.grownBy w' va.ownBlock) (h0 : f.err = 0) (hl : f.bytes.length = f.size) : FB w0 w' L va' vp vf (l ++ f.bytes) (P ++ [(p, f)]) := by
  subst hp
  exact ⟨h.bel.grown hg h.bel.size (fun k hk => (h.all.row.lt k hk).1), ho, h.places.kept hg (rows_apart h.places h.all.row (by decide)), h.frames.kept hg (rows_apart h.frames h.all.row (by decide)), h.stand.put h0 hl, h.mem⟩

theorem flat_get (P : List (Nat × FrIn)) : ∀ (j : Nat) (u : Nat × FrIn) (k : Nat) (v : Value), P[j]? = some u → u.2.cells[k]? = some v → (P.flatMap fun u => u.2.cells)[j * 4 + k]? = some v := by
  induction P with
  | nil => intro j u k v h; simp at h
  | cons x P ih =>
    intro j u k v hj hk
    have hk4 : k < 4 := (List.getElem?_eq_some_iff.1 hk).1
    rw [List.flatMap_cons]
    cases j with
    | zero =>
      simp only [List.getElem?_cons_zero, Option.some.injEq] at hj
      subst hj
      rw [Nat.zero_mul, Nat.zero_add, List.getElem?_append_left hk4]
      exact hk
    | succ j =>
      rw [List.getElem?_cons_succ] at hj
      rw [List.getElem?_append_right (by show 4 ≤ _; omega)]
      have : (j + 1) * 4 + k - x.2.cells.length = j * 4 + k := by
        show (j + 1) * 4 + k - 4 = _
        omega
      rw [this]
      exact ih j u k v hj hk

theorem row_form {w : World} {B T k n : Nat} {v : Value} {xs : List Value} (h : w.ownsRow B T k v n xs) : ∃ a c, v = .slice a n c ∧ n ≤ c ∧ c ≤ maxLen ∧ (0 < n → ∃ g, a = some ⟨g, 0, none⟩ ∧ B ≤ g ∧ g < w.heap.size) := by
  rcases h.2 with ⟨e1, e2⟩ | ⟨g, cap, cur, e1, h1, h2, e3, e4, _⟩
  · exact ⟨none, 0, by rw [e1, e2], by omega, by unfold maxLen; omega, fun h => by omega⟩
  · exact ⟨_, cap, e1, e3, e4, fun _ => ⟨g, rfl, h1, (Array.getElem?_eq_some_iff.1 h2).1⟩⟩

theorem FB.place {w0 wr : World} {L : List FrIn} {va vf : Value} {l : List UInt8} {P : List (Nat × FrIn)} {g c : Nat} (h : FB w0 wr L va (.slice (some ⟨g, 0, none⟩) P.length c) vf l P) (j : Nat) (u : Nat × FrIn) (hu : P[j]? = some u) : wr.cell? ⟨g, j, none⟩ = some (.int .i64 u.1) := by
  have hj := (List.getElem?_eq_some_iff.1 hu).1
  rw [h.places.cellAt j (by omega), List.getElem?_map, hu]
  rfl
theorem FB.frame {w0 wr : World} {L : List FrIn} {va vp : Value} {l : List UInt8} {P : List (Nat × FrIn)} {g c : Nat} (h : FB w0 wr L va vp (.slice (some ⟨g, 0, none⟩) P.length c) l P) (j : Nat) (u : Nat × FrIn) (hu : P[j]? = some u) (k : Nat) (v : Value) (hv : u.2.cells[k]? = some v) : wr.cell? ⟨g, j * 4 + k, none⟩ = some v := by
  have hj := (List.getElem?_eq_some_iff.1 hu).1
  have hk4 : k < 4 := (List.getElem?_eq_some_iff.1 hv).1
  rw [h.frames.cellAt (j * 4 + k) (by omega)]
  exact flat_get P j u k v hu hv

/-- what is read where a frame stands -/
theorem stand_open {l X : List UInt8} {p M : Nat} {f : FrIn} {w : World} (hok : f.ok w) (h0 : f.err = 0) (hp : p + f.size ≤ l.length) (hX : l.drop p = f.bytes ++ X) (hM : f.size ≤ M) (h1 : 512 ≤ M) (h2 : M ≤ 1048576) :
    openR l p M = (f.T.toNat, f.C.toNat, f.ext, f.body, (p : Int) + (f.size : Nat), 0) := by
  rw [openR_at l p M (by omega) h1 h2, hX]
  have := openL_seal f.T f.C f.ext f.body X p M (hok.err h0) (by rw [hok.e.len, hok.b.len]; exact hM)
  rw [hok.e.len, hok.b.len] at this
  exact this
theorem stand_cut {l X : List UInt8} {p M s : Nat} {f : FrIn} {w : World} (hok : f.ok w) (h0 : f.err = 0) (hp : p + f.size ≤ l.length) (hX : l.drop p = f.bytes ++ X) (hM : f.size ≤ M) (h1 : 512 ≤ M) (h2 : M ≤ 1048576) (hs1 : p ≤ s) (hs2 : s < p + f.size) :
    openR (l.take s) p M = (0, 0, [], [], 0, 10) := by
  rw [openR_at _ p M (by rw [List.length_take]; omega) h1 h2, List.drop_take, hX]
  exact openL_cut f.T f.C f.ext f.body X p M (s - p) (hok.err h0) (by rw [hok.e.len, hok.b.len]; exact hM) (by rw [hok.e.len, hok.b.len]; show s - p < f.size; omega)
end Go.Proofs.Ytofdpccjpodbhaa

namespace Go.Proofs.Ytofdpccjpodbhaa
open Go.RowKit
set_option linter.unusedVariables false

set_option maxHeartbeats 1000000 in
theorem rnumber_ok (w : World) (a : Option Addr) (n c : Nat) (l : List UInt8) (h : BytesIn w a n c l) (hz : n ≤ 140737488355328) (at_ wd : Nat) (h1 : 1 ≤ wd) (h8 : wd ≤ 4) (hat : at_ + wd ≤ n) :
    Calls Try.prog 44 #[.slice a n c, .int .i64 at_, .int .i64 wd] w fun e w' => e = .returned (.int .i64 (beVal ((l.drop at_).take wd))) ∧ w = w' := by
  obtain ⟨hl, hnc, hcm, hat_⟩ := h
  obtain ⟨b, o, rfl, hb, hcell⟩ := hat_ (by omega)
  unfold maxLen at hcm
  have HL := Lib.hid hl
  clear hl
  go_enter Try.func44, Try.ntmps44
  go_wp2
  go_loop [7, 8] (fun m i => ∃ k : Nat, k ≤ wd ∧ i = .int .i64 k ∧ m = .int .i64 (beVal ((l.drop at_).take k))) (fun _ i => wd - (intOf i).toNat)
  case atStart => exact ⟨0, by omega, rfl, rfl⟩
  case round =>
    obtain ⟨k, hk, rfl, rfl⟩ := hrel
    by_cases hlt : k < wd
    · have hc := hcell (at_ + k) (by omega)
      rw [← Nat.add_assoc] at hc
      have hs := beVal_snoc ((l.drop at_).take k) (l.getD (at_ + k) 0)
      rw [← drop_take_succ l at_ k (by rw [HL.out]; omega)] at hs
      have hm : 256 * beVal ((l.drop at_).take k) + 255 < 4294967296 := by
        have h0 := beVal_lt ((l.drop at_).take k)
        have h2 : 256 ^ ((l.drop at_).take k).length ≤ 256 ^ 3 := Nat.pow_le_pow_right (by omega) (by rw [List.length_take]; omega)
        omega
      have hx := (l.getD (at_ + k) 0).toNat_lt
      obtain ⟨y, hy⟩ : ∃ y, (l.getD (at_ + k) 0).toNat = y := ⟨_, rfl⟩
      obtain ⟨m, hm'⟩ : ∃ m, beVal ((l.drop at_).take k) = m := ⟨_, rfl⟩
      rw [hy] at hc hx hs
      rw [hm'] at hm hs ⊢
      have HS := Lib.hid hs
      clear hs hy hm' hcell
      rw [Nat.add_assoc] at hc
      go_wp2
      go_round
      case rel => exact ⟨k + 1, by omega, by go_num, by rw [HS.out]; go_num⟩
      case measure => simp [intOf]; omega
    · obtain rfl : wd = k := by omega
      go_wp2
      go_ret
      exact ⟨rfl, rfl⟩

set_option maxHeartbeats 1000000 in
/-- two frames that read alike are the same -/
theorem same_frames (w : World) (T C : Int) (ea ba ea' ba' : Option Addr) (ne ce nb cb ne' ce' nb' cb' : Nat) (ext body : List UInt8)
    (h1 : BytesIn w ea ne ce ext) (h2 : BytesIn w ba nb cb body) (h3 : BytesIn w ea' ne' ce' ext) (h4 : BytesIn w ba' nb' cb' body) :
    Calls Try.prog 20 #[.agg #[.int .i64 T, .int .i64 C, .slice ea ne ce, .slice ba nb cb], .agg #[.int .i64 T, .int .i64 C, .slice ea' ne' ce', .slice ba' nb' cb']] w fun e w' => e = .returned (.bool true) ∧ Below w.heap.size w w' := by
  have b1 : Below w.heap.size w (w.alloc (.cells #[.int .i64 T, .int .i64 C, .slice ea ne ce, .slice ba nb cb] 24)) := (Below.refl _ _).alloc (Nat.le_refl _) _
  have b2 : Below w.heap.size w ((w.alloc (.cells #[.int .i64 T, .int .i64 C, .slice ea ne ce, .slice ba nb cb] 24)).alloc (.cells #[.int .i64 T, .int .i64 C, .slice ea' ne' ce', .slice ba' nb' cb'] 24)) := b1.alloc (by simp) _
  have v1 := run_string_bytes (P := Try.prog) _ 22 9 5 Try.underlying22 Try.underlying5 Try.underlying9 ea ne ce ext (h1.below b2)
  have v2 := run_string_bytes (P := Try.prog) _ 22 9 5 Try.underlying22 Try.underlying5 Try.underlying9 ba nb cb body (h2.below b2)
  have v3 := run_string_bytes (P := Try.prog) _ 22 9 5 Try.underlying22 Try.underlying5 Try.underlying9 ea' ne' ce' ext (h3.below b2)
  have v4 := run_string_bytes (P := Try.prog) _ 22 9 5 Try.underlying22 Try.underlying5 Try.underlying9 ba' nb' cb' body (h4.below b2)
  generalize (⟨ext.toArray⟩ : ByteArray) = E1 at v1 v3
  generalize (⟨body.toArray⟩ : ByteArray) = E2 at v2 v4
  clear h1 h2 h3 h4 b1
  go_enter Try.func20, Try.ntmps20
  go_wp2_with fail
  go_ret
  exact ⟨rfl, b2⟩
end Go.Proofs.Ytofdpccjpodbhaa
