/-
  What FrameSeals keeps: frames sealed, lent bytes, the book. No conditions.
-/
import Derived.Test.YtofdpccjpodbhaaOpensM
import Derived.Test.YtofdpccjpodbhaaRefSeal
import Derived.Test.YtofdpccjpodbhaaLent
import Derived.Deep.RegionLaw
namespace Go.Proofs.Ytofdpccjpodbhaa
open Go.RowKit
set_option linter.unusedVariables false

theorem info_errno5 : (Try.prog.info? 33).map (fun i => (i.zero, i.size, i.bytes)) = some (some (.int .i64 0), 1, 8) := by kernel_rfl

theorem sealE_zero5 {T C : Int} {ne nb : Nat} (h : sealE T C ne nb = 0) : (T = 0 ∨ T = 1) ∧ 0 ≤ C ∧ C ≤ 65535 ∧ (T = 1 → C = 0) ∧ ne % 4 = 0 ∧ ne ≤ 1012 ∧ 8 + ne + nb ≤ 1048576 := by
  unfold sealE at h
  by_cases h1 : T ≠ 0 ∧ T ≠ 1
  · rw [if_pos h1] at h; simp at h
  rw [if_neg h1] at h
  by_cases h2 : C < 0 ∨ 65535 < C ∨ (T = 1 ∧ C ≠ 0)
  · rw [if_pos h2] at h; simp at h
  rw [if_neg h2] at h
  by_cases h3 : ne % 4 ≠ 0 ∨ 1012 < ne
  · rw [if_pos h3] at h; simp at h
  rw [if_neg h3] at h
  by_cases h4 : 1048576 < 8 + ne + nb
  · rw [if_pos h4] at h; simp at h
  omega

theorem seal_any (w : World) (T C : Int) (ea ba : Option Addr) (ne ce nb cb : Nat) (ext body : List UInt8) (h1 : BytesIn w ea ne ce ext) (h2 : BytesIn w ba nb cb body) (z1 : ne ≤ 1048576) (z2 : nb ≤ 1048576) :
    Calls Try.prog 14 #[.agg #[.int .i64 T, .int .i64 C, .slice ea ne ce, .slice ba nb cb]] w fun e w' => ∃ p k c, e = .returned (.tuple #[.slice p k c, .int .i64 (sealE T C ne nb)]) ∧ Below w.heap.size w w' ∧ OwnBytes w' w.heap.size 5 (.slice p k c) (sealS T C ext body) := by
  have e1 := h1.len
  have e2 := h2.len
  by_cases he : sealE T C ne nb = 0
  · obtain ⟨q1, q2, q3, q4, q5, q6, q7⟩ := sealE_zero5 he
    refine (seal_ok w T C ea ba ne ce nb cb ext body h1 h2 q1 q2 q3 q4 q5 q6 q7).mono fun e w' hh => ?_
    obtain ⟨g, he', hg, hb, hk⟩ := hh
    rw [he]
    refine ⟨_, _, _, he', hb, ?_⟩
    unfold sealS
    rw [e1, e2, if_pos he]
    exact hk.own hg (by rw [sealB_length, e1, e2]) (by unfold maxLen; omega)
  · refine (seal_bad w T C ea ba ne ce nb cb ⟨by omega, by omega⟩ he).mono fun e w' hh => ?_
    refine ⟨none, 0, 0, hh.1, hh.2, ?_⟩
    unfold sealS
    rw [e1, e2, if_neg he]
    exact OwnBytes.nil _ _ _

theorem rseal_any (w : World) (T C : Int) (ea ba : Option Addr) (ne ce nb cb : Nat) (ext body : List UInt8) (h1 : BytesIn w ea ne ce ext) (h2 : BytesIn w ba nb cb body) (z1 : ne ≤ 1048576) (z2 : nb ≤ 1048576) :
    Calls Try.prog 16 #[.agg #[.int .i64 T, .int .i64 C, .slice ea ne ce, .slice ba nb cb]] w fun e w' => ∃ p k c, e = .returned (.tuple #[.slice p k c, .int .i64 (sealE T C ne nb)]) ∧ Below w.heap.size w w' ∧ OwnBytes w' w.heap.size 5 (.slice p k c) (sealS T C ext body) := by
  have e1 := h1.len
  have e2 := h2.len
  by_cases he : sealE T C ne nb = 0
  · obtain ⟨q1, q2, q3, q4, q5, q6, q7⟩ := sealE_zero5 he
    refine (rseal_ok w T C ea ba ne ce nb cb ext body h1 h2 q1 q2 q3 q4 q5 q6 q7).mono fun e w' hh => ?_
    obtain ⟨v, he', ho, hb⟩ := hh
    obtain ⟨p, c, rfl, _⟩ := ho.bytes
    rw [he]
    refine ⟨_, _, _, he', hb, ?_⟩
    unfold sealS
    rw [e1, e2, if_pos he]
    exact ho
  · refine (rseal_bad w T C ea ba ne ce nb cb ⟨by omega, by omega⟩ he).mono fun e w' hh => ?_
    refine ⟨none, 0, 0, hh.1, hh.2, ?_⟩
    unfold sealS
    rw [e1, e2, if_neg he]
    exact OwnBytes.nil _ _ _

theorem sealS_le (T C : Int) (ext body : List UInt8) : (sealS T C ext body).length ≤ 1048576 := by
  unfold sealS
  by_cases he : sealE T C ext.length body.length = 0
  · rw [if_pos he, sealB_length]
    have := sealE_zero5 he
    omega
  · rw [if_neg he]; exact Nat.zero_le _

theorem step_store_row5 {P : Program} {w : World} {ops : Array Oper} {o : Oper} {a : Act} {K : Act → World → Prop} {Q : Exit → Act → World → Prop} {E : Prop} (hgd : o.guard = none) (ty : TypeId) (x y : Operand) (ho : o.op = .store ty x y)
    (g : Nat) (cells : Array Value) (hx : a.eval x = .pointer (some ⟨g, 0, none⟩)) (hy : a.eval y = .agg cells)
    (t : TypeId) (old : Array Value) (hg : w.heap[g]? = some (.cells old t (0, 0))) (hi : (P.info? ty).map (·.size) = some cells.size)
    (hold : old.size = cells.size) (h1 : cells.all (·.oneCell') = true) (h : K (a.put o.dst undef) (w.setRow g cells)) :
    if Region.wanted o (yielded ops a.tmps) = true then Oper.wp P o a w K Q else E := by
  have hw : Region.wanted o (yielded ops a.tmps) = true := by simp [Region.wanted, hgd]
  rw [if_pos hw]
  exact wp_store_row ty x y ho g cells hx hy t old hg hi hold h1 h

/-- lent bytes, as they lie -/
structure LentAt (w : World) (g n cap : Nat) (l : List UInt8) : Prop where
  ex : ∃ L, Lent w g L ∧ L.length = cap ∧ L.take (n + 9) = l ++ spareL
  len : l.length = n
  le : n + 9 ≤ cap
  cap : cap ≤ maxLen
theorem LentAt.lt {w : World} {g n cap : Nat} {l : List UInt8} (h : LentAt w g n cap l) : g < w.heap.size := by
  obtain ⟨L, h1, _⟩ := h.ex
  exact h1.lt
theorem LentAt.of_block {w w' : World} {g n cap : Nat} {l : List UInt8} (h : LentAt w g n cap l) (e : w'.heap[g]? = w.heap[g]?) : LentAt w' g n cap l := by
  obtain ⟨L, h1, h2⟩ := h.ex
  exact ⟨⟨L, h1.of_block e, h2⟩, h.len, h.le, h.cap⟩
theorem LentAt.below {w w' : World} {g n cap : Nat} {l : List UInt8} (h : LentAt w g n cap l) (hb : Below w.heap.size w w') : LentAt w' g n cap l := h.of_block (hb.block g h.lt)
theorem LentAt.bytes {w : World} {g n cap : Nat} {l : List UInt8} (h : LentAt w g n cap l) : BytesIn w (some ⟨g, 0, none⟩) n cap l := by
  obtain ⟨L, h1, h2, h3⟩ := h.ex
  have hle := h.le
  have hb := h1.bytes 0 n cap (by omega) (by omega) h.cap
  have htk : L.take n = l := by
    have := congrArg (List.take n) h3
    rw [List.take_take, Nat.min_eq_left (by omega), List.take_left' h.len] at this
    exact this
  rw [List.drop_zero, htk] at hb
  exact hb
theorem LentAt.copied {w w' : World} {g n cap : Nat} {l r L : List UInt8} (h : LentAt w g n cap l) (hL : Lent w g L) (hw : Lent w' g (r ++ L.drop n)) (hr : r.length = n) (hl : L.length = cap) (h3 : L.take (n + 9) = l ++ spareL) : LentAt w' g n cap r := by
  have hle := h.le
  have hdr : (L.drop n).take 9 = spareL := by
    have := congrArg (List.drop n) h3
    rw [List.drop_take, List.drop_left' h.len] at this
    rwa [show n + 9 - n = 9 by omega] at this
  refine ⟨⟨_, hw, by rw [List.length_append, hr, List.length_drop, hl]; omega, ?_⟩, hr, h.le, h.cap⟩
  rw [List.take_append, hr, List.take_of_length_le (by rw [hr]; omega), show n + 9 - n = 9 by omega, hdr]

/-- a frame's four cells -/
structure FrAt (w : World) (b : Nat) (T C : Int) (e v : Value) : Prop where
  c0 : w.cell? ⟨b, 0, none⟩ = some (.int .i64 T)
  c1 : w.cell? ⟨b, 1, none⟩ = some (.int .i64 C)
  c2 : w.cell? ⟨b, 2, none⟩ = some e
  c3 : w.cell? ⟨b, 3, none⟩ = some v
theorem FrAt.of_heap {w : World} {b : Nat} {T C : Int} {e v : Value} {t : Nat} {fr : Nat × Nat} (h : w.heap[b]? = some (.cells #[.int .i64 T, .int .i64 C, e, v] t fr)) : FrAt w b T C e v := by
  refine ⟨?_, ?_, ?_, ?_⟩ <;> simp [World.cell?, h]
theorem cell_of_block {w w' : World} {b i : Nat} (e : w'.heap[b]? = w.heap[b]?) : w'.cell? ⟨b, i, none⟩ = w.cell? ⟨b, i, none⟩ := by simp [World.cell?, e]
theorem FrAt.of_block {w w' : World} {b : Nat} {T C : Int} {e v : Value} (h : FrAt w b T C e v) (hb : w'.heap[b]? = w.heap[b]?) : FrAt w' b T C e v :=
  ⟨(cell_of_block hb).trans h.c0, (cell_of_block hb).trans h.c1, (cell_of_block hb).trans h.c2, (cell_of_block hb).trans h.c3⟩
theorem FrAt.lt {w : World} {b : Nat} {T C : Int} {e v : Value} (h : FrAt w b T C e v) : b < w.heap.size := by
  have h0 := h.c0
  simp only [World.cell?] at h0
  cases hh : w.heap[b]? with
  | none => rw [hh] at h0; simp at h0
  | some o => exact (Array.getElem?_eq_some_iff.1 hh).1
theorem FrAt.below {w w' : World} {b : Nat} {T C : Int} {e v : Value} (h : FrAt w b T C e v) (hb : Below w.heap.size w w') : FrAt w' b T C e v := h.of_block (hb.block b h.lt)

/-- x: a frame laid anew, its two rows lent -/
def XPost (w1 wx : World) (T C : Int) (ext body : List UInt8) (ne nb : Nat) (s : Value) : Prop :=
  ∃ x g1 c1 g2 c2, s = .pointer (some ⟨x, 0, none⟩) ∧ Below w1.heap.size w1 wx ∧ w1.heap.size ≤ x ∧ w1.heap.size ≤ g1 ∧ w1.heap.size ≤ g2 ∧ g1 ≠ g2 ∧ x ≠ g1 ∧ x ≠ g2 ∧
    FrAt wx x T C (.slice (some ⟨g1, 0, none⟩) ne c1) (.slice (some ⟨g2, 0, none⟩) nb c2) ∧ LentAt wx g1 ne c1 ext ∧ LentAt wx g2 nb c2 body
/-- t: a frame laid anew, its two rows turned -/
def TPost (w1 wx : World) (T C : Int) (ext body : List UInt8) (ne nb : Nat) (s : Value) : Prop :=
  ∃ x p1 c1 p2 c2, s = .pointer (some ⟨x, 0, none⟩) ∧ Below w1.heap.size w1 wx ∧ w1.heap.size ≤ x ∧
    FrAt wx x T C (.slice p1 ne c1) (.slice p2 nb c2) ∧ OwnBytes wx w1.heap.size 5 (.slice p1 ne c1) (turnB ext) ∧ OwnBytes wx w1.heap.size 5 (.slice p2 nb c2) (turnB body)

theorem lentAt_of {w w' : World} {e : Ending} {l : List UInt8} {n : Nat} (h : LentOut w l e w') (hn : l.length = n) : ∃ g cap, e = .returned (.slice (some ⟨g, 0, none⟩) n cap) ∧ w.heap.size ≤ g ∧ Below w.heap.size w w' ∧ LentAt w' g n cap l := by
  obtain ⟨g, cap, L, he, hg, hb, hL, hl, ht, hc, hm⟩ := h
  subst hn
  exact ⟨g, cap, he, hg, hb, ⟨L, hL, hl, ht⟩, rfl, hc, hm⟩

theorem set4_heap {w : World} {x t : Nat} {a b c d v0 v1 v2 v3 : Value} (h : w.heap[x]? = some (.cells #[a, b, c, d] t (0, 0))) :
    ((((w.setCell ⟨x, 0, none⟩ v0).setCell ⟨x, 1, none⟩ v1).setCell ⟨x, 2, none⟩ v2).setCell ⟨x, 3, none⟩ v3).heap[x]? = some (.cells #[v0, v1, v2, v3] t (0, 0)) := by
  have h1 := heap_setCell_same w x 0 _ _ v0 h
  have h2 := heap_setCell_same _ x 1 _ _ v1 h1
  have h3 := heap_setCell_same _ x 2 _ _ v2 h2
  have h4 := heap_setCell_same _ x 3 _ _ v3 h3
  simpa using h4
theorem set4_other {w : World} {x k : Nat} {v0 v1 v2 v3 : Value} (hk : k ≠ x) :
    ((((w.setCell ⟨x, 0, none⟩ v0).setCell ⟨x, 1, none⟩ v1).setCell ⟨x, 2, none⟩ v2).setCell ⟨x, 3, none⟩ v3).heap[k]? = w.heap[k]? :=
  (((heap_setCell_other _ ⟨x, 3, none⟩ k v3 hk).trans (heap_setCell_other _ ⟨x, 2, none⟩ k v2 hk)).trans (heap_setCell_other _ ⟨x, 1, none⟩ k v1 hk)).trans (heap_setCell_other _ ⟨x, 0, none⟩ k v0 hk)
theorem set4_below {B : Nat} {w0 w : World} {x : Nat} {v0 v1 v2 v3 : Value} (h : Below B w0 w) (hx : B ≤ x) :
    Below B w0 ((((w.setCell ⟨x, 0, none⟩ v0).setCell ⟨x, 1, none⟩ v1).setCell ⟨x, 2, none⟩ v2).setCell ⟨x, 3, none⟩ v3) :=
  (((h.setCell hx _).setCell hx _).setCell hx _).setCell hx _
theorem set4_grown {w : World} {x : Nat} {v0 v1 v2 v3 : Value} : w.grownBy ((((w.setCell ⟨x, 0, none⟩ v0).setCell ⟨x, 1, none⟩ v1).setCell ⟨x, 2, none⟩ v2).setCell ⟨x, 3, none⟩ v3) (some x) :=
  ⟨rfl, rfl, rfl, by simp [World.setCell], fun k hk hne => set4_other (fun e => hne (by rw [e]))⟩

theorem xpost_alloc {w1 wb : World} {T C : Int} {ext body : List UInt8} {ne nb g1 c1 g2 c2 : Nat} (hB : Below w1.heap.size w1 wb) (h1 : LentAt wb g1 ne c1 ext) (h2 : LentAt wb g2 nb c2 body) (hg1 : w1.heap.size ≤ g1) (hg2 : w1.heap.size ≤ g2) (hne : g1 ≠ g2) :
    XPost w1 (wb.alloc (.cells #[.int .i64 T, .int .i64 C, .slice (some ⟨g1, 0, none⟩) ne c1, .slice (some ⟨g2, 0, none⟩) nb c2] 24)) T C ext body ne nb (.pointer (some ⟨wb.heap.size, 0, none⟩)) := by
  have l1 := h1.lt
  have l2 := h2.lt
  exact ⟨_, g1, c1, g2, c2, rfl, hB.alloc hB.size _, hB.size, hg1, hg2, hne, by omega, by omega, FrAt.of_heap (heap_alloc_new _ _), h1.of_block (heap_alloc_old _ _ l1), h2.of_block (heap_alloc_old _ _ l2)⟩
theorem xpost_set {w1 wb : World} {T C : Int} {ext body : List UInt8} {ne nb g1 c1 g2 c2 x t : Nat} {a b c d : Value} (hB : Below w1.heap.size w1 wb) (hz : wb.heap[x]? = some (.cells #[a, b, c, d] t (0, 0))) (h1 : LentAt wb g1 ne c1 ext) (h2 : LentAt wb g2 nb c2 body) (hx : w1.heap.size ≤ x)
    (hg1 : w1.heap.size ≤ g1) (hg2 : w1.heap.size ≤ g2) (hne : g1 ≠ g2) (hx1 : x ≠ g1) (hx2 : x ≠ g2) :
    XPost w1 ((((wb.setCell ⟨x, 0, none⟩ (.int .i64 T)).setCell ⟨x, 1, none⟩ (.int .i64 C)).setCell ⟨x, 2, none⟩ (.slice (some ⟨g1, 0, none⟩) ne c1)).setCell ⟨x, 3, none⟩ (.slice (some ⟨g2, 0, none⟩) nb c2)) T C ext body ne nb (.pointer (some ⟨x, 0, none⟩)) :=
  ⟨x, g1, c1, g2, c2, rfl, set4_below hB hx, hx, hg1, hg2, hne, hx1, hx2, FrAt.of_heap (set4_heap hz), h1.of_block (set4_other (fun e => hx1 e.symm)), h2.of_block (set4_other (fun e => hx2 e.symm))⟩

theorem tpost_alloc {w1 wb : World} {T C : Int} {ext body : List UInt8} {ne nb c1 c2 : Nat} {p1 p2 : Option Addr} (hB : Below w1.heap.size w1 wb) (h1 : OwnBytes wb w1.heap.size 5 (.slice p1 ne c1) (turnB ext)) (h2 : OwnBytes wb w1.heap.size 5 (.slice p2 nb c2) (turnB body)) :
    TPost w1 (wb.alloc (.cells #[.int .i64 T, .int .i64 C, .slice p1 ne c1, .slice p2 nb c2] 24)) T C ext body ne nb (.pointer (some ⟨wb.heap.size, 0, none⟩)) := by
  have hb : Below wb.heap.size wb (wb.alloc (.cells #[.int .i64 T, .int .i64 C, .slice p1 ne c1, .slice p2 nb c2] 24)) := (Below.refl _ _).alloc (Nat.le_refl _) _
  exact ⟨_, p1, c1, p2, c2, rfl, hB.alloc hB.size _, hB.size, FrAt.of_heap (heap_alloc_new _ _), h1.of_below hb, h2.of_below hb⟩
theorem tpost_set {w1 wb : World} {T C : Int} {ext body : List UInt8} {ne nb c1 c2 x : Nat} {p1 p2 : Option Addr} {a b c d : Value} (hB : Below w1.heap.size w1 wb) (hz : wb.heap[x]? = some (.cells #[a, b, c, d] 24 (0, 0))) (hx : w1.heap.size ≤ x)
    (h1 : OwnBytes wb w1.heap.size 5 (.slice p1 ne c1) (turnB ext)) (h2 : OwnBytes wb w1.heap.size 5 (.slice p2 nb c2) (turnB body)) :
    TPost w1 ((((wb.setCell ⟨x, 0, none⟩ (.int .i64 T)).setCell ⟨x, 1, none⟩ (.int .i64 C)).setCell ⟨x, 2, none⟩ (.slice p1 ne c1)).setCell ⟨x, 3, none⟩ (.slice p2 nb c2)) T C ext body ne nb (.pointer (some ⟨x, 0, none⟩)) := by
  have off : ∀ {v : Value} {l : List UInt8}, OwnBytes wb w1.heap.size 5 v l → v.ownBlock = none ∨ v.ownBlock ≠ some x := fun h => by
    refine .inr (fun he => ?_)
    have := row_not_block5 h.row hz (by decide)
    exact this he.symm
  exact ⟨x, p1, c1, p2, c2, rfl, set4_below hB hx, hx, FrAt.of_heap (set4_heap hz), h1.kept set4_grown (off h1), h2.kept set4_grown (off h2)⟩
end Go.Proofs.Ytofdpccjpodbhaa
