/-
  Items compared: two items with the same parts are the same; two rows of the same items are. Conditions: the items lie in memory.
-/
import Derived.Test.YtofdpccjpodbhaaStrQ
import Derived.Test.YtofdpccjpodbhaaMg09
import Derived.StillTailTactics
namespace Go.Proofs.Ytofdpccjpodbhaa
open Go.RowKit
set_option linter.unusedVariables false

theorem run_bad (w : World) (most : Int) (hmo : ¬ (512 ≤ most ∧ most ≤ 1048576)) (pb : Option Addr) (n c : Nat) (pk : Option Addr) (nk ck : Nat) :
    Calls Try.prog 26 #[.int .i64 most, .slice pb n c, .slice pk nk ck] w fun e w' => e = .returned (.tuple #[.slice none 0 0, .agg #[.int .i64 0, .int .i64 0, .bool false, .int .i64 0, .int .i64 0], .bool true]) ∧ Below w.heap.size w w' := by
  have HMO := Lib.hid hmo
  clear hmo
  go_enter Try.func26, Try.ntmps26
  go_upto_region 2 with fail
  have y4 : ((w.alloc (.cells #[.int .i64 0, .int .i64 0, .bool false, .int .i64 0, .int .i64 0] 49)).alloc (.cells #[.slice none 0 0] 47)).heap[w.heap.size]? = some (.cells #[.int .i64 0, .int .i64 0, .bool false, .int .i64 0, .int .i64 0] 49 (0, 0)) := (heap_alloc_old _ _ (by simp)).trans (heap_alloc_new w _)
  have d1 : Below w.heap.size w ((w.alloc (.cells #[.int .i64 0, .int .i64 0, .bool false, .int .i64 0, .int .i64 0] 49)).alloc (.cells #[.slice none 0 0] 47)) := ((Below.refl _ _).alloc (Nat.le_refl _) _).alloc (by simp) _
  generalize ((w.alloc (.cells #[.int .i64 0, .int .i64 0, .bool false, .int .i64 0, .int .i64 0] 49)).alloc (.cells #[.slice none 0 0] 47)) = w1 at *
  have hnw := new_bad w1 most HMO.out
  have q0 : w1.cell? ⟨w.heap.size, 0, none⟩ = some (.int .i64 0) := (cell_of_row _ _ 0 _ _ _ y4).trans rfl
  have q1 : w1.cell? ⟨w.heap.size, 1, none⟩ = some (.int .i64 0) := (cell_of_row _ _ 1 _ _ _ y4).trans rfl
  have q2 : w1.cell? ⟨w.heap.size, 2, none⟩ = some (.bool false) := (cell_of_row _ _ 2 _ _ _ y4).trans rfl
  have q3 : w1.cell? ⟨w.heap.size, 3, none⟩ = some (.int .i64 0) := (cell_of_row _ _ 3 _ _ _ y4).trans rfl
  have q4 : w1.cell? ⟨w.heap.size, 4, none⟩ = some (.int .i64 0) := (cell_of_row _ _ 4 _ _ _ y4).trans rfl
  have fz : ∀ k, w1.frozen? ⟨w.heap.size, k, none⟩ = false := fun k => by simp [World.frozen?, y4]
  have Y4 := Lib.hid y4
  have D1 := Lib.hid d1
  clear y4 d1
  go_wp2_with fail
  refine hnw.mono ?_
  clear hnw
  rintro e w2 ⟨rfl, rfl⟩
  go_wp2_with fail
  have s0 := heap_setCell_same w2 w.heap.size 0 _ _ (.int .i64 0) Y4.out
  have s1 := heap_setCell_same _ w.heap.size 1 _ _ (.int .i64 0) s0
  have s2 := heap_setCell_same _ w.heap.size 2 _ _ (.bool false) s1
  have s3 := heap_setCell_same _ w.heap.size 3 _ _ (.int .i64 0) s2
  have s4 := heap_setCell_same _ w.heap.size 4 _ _ (.int .i64 0) s3
  have b4 := ((((D1.out.setCell (p := ⟨w.heap.size, 0, none⟩) (Nat.le_refl _) (.int .i64 0)).setCell (p := ⟨w.heap.size, 1, none⟩) (Nat.le_refl _) (.int .i64 0)).setCell (p := ⟨w.heap.size, 2, none⟩) (Nat.le_refl _) (.bool false)).setCell (p := ⟨w.heap.size, 3, none⟩) (Nat.le_refl _) (.int .i64 0)).setCell (p := ⟨w.heap.size, 4, none⟩) (Nat.le_refl _) (.int .i64 0)
  generalize (((((w2.setCell ⟨w.heap.size, 0, none⟩ (.int .i64 0)).setCell ⟨w.heap.size, 1, none⟩ (.int .i64 0)).setCell ⟨w.heap.size, 2, none⟩ (.bool false)).setCell ⟨w.heap.size, 3, none⟩ (.int .i64 0)).setCell ⟨w.heap.size, 4, none⟩ (.int .i64 0)) = W5 at *
  have k0 : W5.cell? ⟨w.heap.size, 0, none⟩ = some (.int .i64 0) := (cell_of_row _ _ 0 _ _ _ s4).trans rfl
  have k1 : W5.cell? ⟨w.heap.size, 1, none⟩ = some (.int .i64 0) := (cell_of_row _ _ 1 _ _ _ s4).trans rfl
  have k2 : W5.cell? ⟨w.heap.size, 2, none⟩ = some (.bool false) := (cell_of_row _ _ 2 _ _ _ s4).trans rfl
  have k3 : W5.cell? ⟨w.heap.size, 3, none⟩ = some (.int .i64 0) := (cell_of_row _ _ 3 _ _ _ s4).trans rfl
  have k4 : W5.cell? ⟨w.heap.size, 4, none⟩ = some (.int .i64 0) := (cell_of_row _ _ 4 _ _ _ s4).trans rfl
  refine bodyPost_ret (v := .tuple #[.slice none 0 0, .agg #[.int .i64 0, .int .i64 0, .bool false, .int .i64 0, .int .i64 0], .bool true]) (by simp [results, Try.f26, go_sem, k0, k1, k2, k3, k4]) rfl ?_
  exact ⟨rfl, b4⟩

set_option maxHeartbeats 1000000 in
theorem same6_eq (w : World) (it : Itm) (pe pe' pb pb' : Option Addr) (ne ce nb cb ne' ce' nb' cb' : Nat) (h1 : BytesIn w pe ne ce it.ext) (h2 : BytesIn w pb nb cb it.body) (h3 : BytesIn w pe' ne' ce' it.ext) (h4 : BytesIn w pb' nb' cb' it.body) :
    Calls Try.prog 49 #[it.val (.slice pe ne ce) (.slice pb nb cb), it.val (.slice pe' ne' ce') (.slice pb' nb' cb')] w fun e w' => e = .returned (.bool true) ∧ Below w.heap.size w w' := by
  unfold Itm.val
  have b2 : Below w.heap.size w ((w.alloc (.cells #[.int .i64 it.kind, .int .i64 it.proto, .int .i64 it.T, .int .i64 it.ch, .slice pe ne ce, .slice pb nb cb] 71)).alloc (.cells #[.int .i64 it.kind, .int .i64 it.proto, .int .i64 it.T, .int .i64 it.ch, .slice pe' ne' ce', .slice pb' nb' cb'] 71)) := ((Below.refl _ _).alloc (Nat.le_refl _) _).alloc (by simp) _
  have hsm := same_frames ((w.alloc (.cells #[.int .i64 it.kind, .int .i64 it.proto, .int .i64 it.T, .int .i64 it.ch, .slice pe ne ce, .slice pb nb cb] 71)).alloc (.cells #[.int .i64 it.kind, .int .i64 it.proto, .int .i64 it.T, .int .i64 it.ch, .slice pe' ne' ce', .slice pb' nb' cb'] 71)) it.T it.ch pe pb pe' pb' ne ce nb cb ne' ce' nb' cb' it.ext it.body (h1.below b2) (h2.below b2) (h3.below b2) (h4.below b2)
  go_enter Try.func49, Try.ntmps49
  go_upto_region 1 with fail
  have r0 : ((w.alloc (.cells #[.int .i64 it.kind, .int .i64 it.proto, .int .i64 it.T, .int .i64 it.ch, .slice pe ne ce, .slice pb nb cb] 71)).alloc (.cells #[.int .i64 it.kind, .int .i64 it.proto, .int .i64 it.T, .int .i64 it.ch, .slice pe' ne' ce', .slice pb' nb' cb'] 71)).heap[w.heap.size]? = some (.cells #[.int .i64 it.kind, .int .i64 it.proto, .int .i64 it.T, .int .i64 it.ch, .slice pe ne ce, .slice pb nb cb] 71 (0, 0)) := (heap_alloc_old _ _ (by simp)).trans (heap_alloc_new w _)
  have r1 : ((w.alloc (.cells #[.int .i64 it.kind, .int .i64 it.proto, .int .i64 it.T, .int .i64 it.ch, .slice pe ne ce, .slice pb nb cb] 71)).alloc (.cells #[.int .i64 it.kind, .int .i64 it.proto, .int .i64 it.T, .int .i64 it.ch, .slice pe' ne' ce', .slice pb' nb' cb'] 71)).heap[w.heap.size + 1]? = some (.cells #[.int .i64 it.kind, .int .i64 it.proto, .int .i64 it.T, .int .i64 it.ch, .slice pe' ne' ce', .slice pb' nb' cb'] 71 (0, 0)) := heap_alloc2_new _ _ _
  generalize ((w.alloc (.cells #[.int .i64 it.kind, .int .i64 it.proto, .int .i64 it.T, .int .i64 it.ch, .slice pe ne ce, .slice pb nb cb] 71)).alloc (.cells #[.int .i64 it.kind, .int .i64 it.proto, .int .i64 it.T, .int .i64 it.ch, .slice pe' ne' ce', .slice pb' nb' cb'] 71)) = w1 at *
  have k0 : w1.cell? ⟨w.heap.size, 0, none⟩ = some (.int .i64 it.kind) := (cell_of_row _ _ 0 _ _ _ r0).trans rfl
  have k1 : w1.cell? ⟨w.heap.size, 1, none⟩ = some (.int .i64 it.proto) := (cell_of_row _ _ 1 _ _ _ r0).trans rfl
  have k2 : w1.cell? ⟨w.heap.size, 2, none⟩ = some (.int .i64 it.T) := (cell_of_row _ _ 2 _ _ _ r0).trans rfl
  have k3 : w1.cell? ⟨w.heap.size, 3, none⟩ = some (.int .i64 it.ch) := (cell_of_row _ _ 3 _ _ _ r0).trans rfl
  have k4 : w1.cell? ⟨w.heap.size, 4, none⟩ = some (.slice pe ne ce) := (cell_of_row _ _ 4 _ _ _ r0).trans rfl
  have k5 : w1.cell? ⟨w.heap.size, 5, none⟩ = some (.slice pb nb cb) := (cell_of_row _ _ 5 _ _ _ r0).trans rfl
  have l0 : w1.cell? ⟨w.heap.size + 1, 0, none⟩ = some (.int .i64 it.kind) := (cell_of_row _ _ 0 _ _ _ r1).trans rfl
  have l1 : w1.cell? ⟨w.heap.size + 1, 1, none⟩ = some (.int .i64 it.proto) := (cell_of_row _ _ 1 _ _ _ r1).trans rfl
  have l2 : w1.cell? ⟨w.heap.size + 1, 2, none⟩ = some (.int .i64 it.T) := (cell_of_row _ _ 2 _ _ _ r1).trans rfl
  have l3 : w1.cell? ⟨w.heap.size + 1, 3, none⟩ = some (.int .i64 it.ch) := (cell_of_row _ _ 3 _ _ _ r1).trans rfl
  have l4 : w1.cell? ⟨w.heap.size + 1, 4, none⟩ = some (.slice pe' ne' ce') := (cell_of_row _ _ 4 _ _ _ r1).trans rfl
  have l5 : w1.cell? ⟨w.heap.size + 1, 5, none⟩ = some (.slice pb' nb' cb') := (cell_of_row _ _ 5 _ _ _ r1).trans rfl
  have z0 := (Array.getElem?_eq_some_iff.1 r0).1
  have z1 := (Array.getElem?_eq_some_iff.1 r1).1
  go_wp2_with fail
  refine hsm.mono ?_
  clear hsm
  rintro e w2 ⟨rfl, hb2⟩
  have B2 := Lib.hid (b2.trans (hb2.mono b2.size))
  have q0 : w2.cell? ⟨w.heap.size, 0, none⟩ = some (.int .i64 it.kind) := (World.cell?_of_block (hb2.block _ z0)).trans k0
  have q1 : w2.cell? ⟨w.heap.size, 1, none⟩ = some (.int .i64 it.proto) := (World.cell?_of_block (hb2.block _ z0)).trans k1
  have p0 : w2.cell? ⟨w.heap.size + 1, 0, none⟩ = some (.int .i64 it.kind) := (World.cell?_of_block (hb2.block _ z1)).trans l0
  have p1 : w2.cell? ⟨w.heap.size + 1, 1, none⟩ = some (.int .i64 it.proto) := (World.cell?_of_block (hb2.block _ z1)).trans l1
  clear k0 k1 k2 k3 k4 k5 l0 l1 l2 l3 l4 l5 z0 z1 hb2 b2 r0 r1 h1 h2 h3 h4
  go_wp2_with fail
  go_ret
  exact ⟨rfl, B2.out⟩

/-- an item in a row of them -/
theorem item_cell {w : World} {B g n cap : Nat} {L : List (Itm × Value × Value)} (h : w.ownsRow B 71 6 (.slice (some ⟨g, 0, none⟩) n cap) L.length (itRow L)) (i : Nat) (hi : i < L.length) (j : Nat) (hj : j < 6) :
    w.cell? ⟨g, 6 * i + j, none⟩ = (itCells L[i])[j]? := by
  have hlen : ∀ (L : List (Itm × Value × Value)), (itRow L).length = 6 * L.length := by
    intro L
    induction L with
    | nil => rfl
    | cons a t ih =>
      show (itCells a ++ itRow t).length = _
      rw [List.length_append, ih]
      simp [itCells]
      omega
  have hget : ∀ (L : List (Itm × Value × Value)) (i : Nat) (hi : i < L.length), (itRow L)[6 * i + j]? = (itCells L[i])[j]? := by
    intro L
    induction L with
    | nil => intro i hi; simp at hi
    | cons a t ih =>
      intro i hi
      show (itCells a ++ itRow t)[6 * i + j]? = _
      cases i with
      | zero =>
        rw [List.getElem?_append_left (by simp [itCells]; omega)]
        simp
      | succ i =>
        have hl : (itCells a).length = 6 := rfl
        rw [List.getElem?_append_right (by omega), hl, show 6 * (i + 1) + j - 6 = 6 * i + j by omega, ih i (by simp at hi; omega)]
        rfl
  have hx := hget L i hi
  have hlt : j < (itCells L[i]).length := by show j < 6; exact hj
  rw [List.getElem?_eq_getElem hlt] at hx
  have hc := h.cells (g := g) rfl (6 * i + j) _ hx
  have hadd : (⟨g, 0, none⟩ : Addr).add (6 * i + j) = ⟨g, 6 * i + j, none⟩ := by unfold Addr.add; split <;> simp_all
  rw [hadd] at hc
  rw [hc, List.getElem?_eq_getElem hlt]

/-- a row of items, whose bytes lie anywhere -/
structure ItemsIn (B : Nat) (L : List (Itm × Value × Value)) (vl : Value) (W : World) : Prop where
  row : W.ownsRow B 71 6 vl L.length (itRow L)
  its : ∀ p ∈ L, (∃ pe ce, p.2.1 = .slice pe p.1.ext.length ce ∧ BytesIn W pe p.1.ext.length ce p.1.ext) ∧ ∃ pb cb, p.2.2 = .slice pb p.1.body.length cb ∧ BytesIn W pb p.1.body.length cb p.1.body

theorem ItemsAt.in_ {B : Nat} {L : List (Itm × Value × Value)} {vl : Value} {W : World} (h : ItemsAt B L vl W) : ItemsIn B L vl W :=
  ⟨h.row, fun p hp => ⟨(h.its p hp).1.bytes, (h.its p hp).2.bytes⟩⟩

set_option maxRecDepth 20000 in
set_option maxHeartbeats 2000000 in
theorem sameItems_eq (w : World) (B B' : Nat) (L L' : List (Itm × Value × Value)) (vl vl' : Value) (hl : ItemsIn B L vl w) (hl' : ItemsIn B' L' vl' w) (he : L.map Prod.fst = L'.map Prod.fst) :
    Calls Try.prog 27 #[vl, vl'] w fun e w' => e = .returned (.bool true) ∧ Below w.heap.size w w' := by
  have hvs : ∀ {B : Nat} {L : List (Itm × Value × Value)} {v : Value}, ItemsIn B L v w → ∃ p c, v = .slice p L.length c ∧ (L.length ≤ c ∧ c ≤ 9223372036854775807) ∧ (0 < L.length → ∃ g, p = some ⟨g, 0, none⟩) := by
    intro B L v h
    rcases h.row.2 with ⟨rfl, h0⟩ | ⟨g, cap, cur, rfl, _, _, hc, hm, _⟩
    · exact ⟨none, 0, by rw [h0], by omega, fun h => by omega⟩
    · exact ⟨_, _, rfl, ⟨hc, by unfold maxLen at hm; omega⟩, fun _ => ⟨g, rfl⟩⟩
  obtain ⟨p, c, rfl, ⟨hc, hcm⟩, hp⟩ := hvs hl
  obtain ⟨p', c', rfl, ⟨hc', hcm'⟩, hp'⟩ := hvs hl'
  have hlen : L'.length = L.length := by have := congrArg List.length he; simpa using this.symm
  rw [hlen] at hc' hp' ⊢
  have HL := Lib.hid hl
  have HL' := Lib.hid hl'
  have HE := Lib.hid he
  have HLEN := Lib.hid hlen
  clear hl hl' hvs he hlen
  obtain ⟨N, hN⟩ : ∃ N, L.length = N := ⟨_, rfl⟩
  rw [hN] at hc hp hc' hp' ⊢
  have HN := Lib.hid hN
  clear hN
  go_enter Try.func27, Try.ntmps27
  go_wp2_with fail
  go_loopw [5] (fun i wr => ∃ (k : Nat), k ≤ N ∧ i = .int .i64 k ∧ Below w.heap.size w wr) (fun i _ => N - (intOf i).toNat)
  case atStart => exact ⟨0, Nat.zero_le _, rfl, Below.refl _ _⟩
  case round =>
    obtain ⟨k, hk, rfl, hb⟩ := hrel
    by_cases hkN : (k : Int) < N
    · have hk' : k < N := by omega
      obtain ⟨g, rfl⟩ := hp (by omega)
      obtain ⟨g', rfl⟩ := hp' (by omega)
      have hkL : k < L.length := by rw [HN.out]; exact hk'
      have hkL' : k < L'.length := by rw [HLEN.out, HN.out]; exact hk'
      have hkk : (L[k]).1 = (L'[k]).1 := by
        have h9 := HE.out
        have h8 : (L.map Prod.fst)[k]? = (L'.map Prod.fst)[k]? := by rw [h9]
        simpa [List.getElem?_eq_getElem, hkL, hkL'] using h8
      have hrow := HL.out.row
      have hrow' := HL'.out.row
      have ci : ∀ j, j < 6 → wr.cell? ⟨g, 6 * k + j, none⟩ = (itCells L[k])[j]? := fun j hj => by
        have h9 := item_cell hrow k hkL j hj
        obtain ⟨u, hu⟩ : ∃ u, (itCells L[k])[j]? = some u := ⟨_, List.getElem?_eq_getElem (l := itCells L[k]) (by show j < 6; exact hj)⟩
        rw [hu] at h9 ⊢
        exact (hb.cell (p := ⟨g, 6 * k + j, none⟩) (cell_lt h9)).trans h9
      have ci' : ∀ j, j < 6 → wr.cell? ⟨g', 6 * k + j, none⟩ = (itCells L'[k])[j]? := fun j hj => by
        have h9 := item_cell hrow' k hkL' j hj
        obtain ⟨u, hu⟩ : ∃ u, (itCells L'[k])[j]? = some u := ⟨_, List.getElem?_eq_getElem (l := itCells L'[k]) (by show j < 6; exact hj)⟩
        rw [hu] at h9 ⊢
        exact (hb.cell (p := ⟨g', 6 * k + j, none⟩) (cell_lt h9)).trans h9
      obtain ⟨o1, o2⟩ := HL.out.its L[k] (List.getElem_mem _)
      obtain ⟨o1', o2'⟩ := HL'.out.its L'[k] (List.getElem_mem _)
      have hb' : Below w.heap.size w wr := hb
      generalize hq : L[k] = q at *
      generalize hq' : L'[k] = q' at *
      obtain ⟨it, ve, vb⟩ := q
      obtain ⟨it', ve', vb'⟩ := q'
      simp only at hkk o1 o2 o1' o2'
      subst hkk
      obtain ⟨pe, ce, rfl, i1⟩ := o1
      obtain ⟨pb, cb, rfl, i2⟩ := o2
      obtain ⟨pe', ce', rfl, i3⟩ := o1'
      obtain ⟨pb', cb', rfl, i4⟩ := o2'
      have c0 : wr.cell? ⟨g, k * 6, none⟩ = some (.int .i64 it.kind) := (by rw [Nat.mul_comm]; rfl : _ = _).trans (ci 0 (by omega))
      have c1 : wr.cell? ⟨g, k * 6 + 1, none⟩ = some (.int .i64 it.proto) := (by rw [Nat.mul_comm] : _ = _).trans (ci 1 (by omega))
      have c2 : wr.cell? ⟨g, k * 6 + 2, none⟩ = some (.int .i64 it.T) := (by rw [Nat.mul_comm] : _ = _).trans (ci 2 (by omega))
      have c3 : wr.cell? ⟨g, k * 6 + 3, none⟩ = some (.int .i64 it.ch) := (by rw [Nat.mul_comm] : _ = _).trans (ci 3 (by omega))
      have c4 : wr.cell? ⟨g, k * 6 + 4, none⟩ = some (.slice pe it.ext.length ce) := (by rw [Nat.mul_comm] : _ = _).trans (ci 4 (by omega))
      have c5 : wr.cell? ⟨g, k * 6 + 5, none⟩ = some (.slice pb it.body.length cb) := (by rw [Nat.mul_comm] : _ = _).trans (ci 5 (by omega))
      have e0 : wr.cell? ⟨g', k * 6, none⟩ = some (.int .i64 it.kind) := (by rw [Nat.mul_comm]; rfl : _ = _).trans (ci' 0 (by omega))
      have e1 : wr.cell? ⟨g', k * 6 + 1, none⟩ = some (.int .i64 it.proto) := (by rw [Nat.mul_comm] : _ = _).trans (ci' 1 (by omega))
      have e2 : wr.cell? ⟨g', k * 6 + 2, none⟩ = some (.int .i64 it.T) := (by rw [Nat.mul_comm] : _ = _).trans (ci' 2 (by omega))
      have e3 : wr.cell? ⟨g', k * 6 + 3, none⟩ = some (.int .i64 it.ch) := (by rw [Nat.mul_comm] : _ = _).trans (ci' 3 (by omega))
      have e4 : wr.cell? ⟨g', k * 6 + 4, none⟩ = some (.slice pe' it.ext.length ce') := (by rw [Nat.mul_comm] : _ = _).trans (ci' 4 (by omega))
      have e5 : wr.cell? ⟨g', k * 6 + 5, none⟩ = some (.slice pb' it.body.length cb') := (by rw [Nat.mul_comm] : _ = _).trans (ci' 5 (by omega))
      have hdr : Below w.heap.size w wr.drew := hb.trans ⟨rfl, rfl, rfl, Nat.le_refl _, fun _ _ => rfl⟩
      have hsm := same6_eq wr.drew it pe pe' pb pb' _ ce _ cb _ ce' _ cb' (i1.below hdr) (i2.below hdr) (i3.below hdr) (i4.below hdr)
      unfold Itm.val at hsm
      have HD := Lib.hid hdr
      clear ci ci' hrow hrow' hb hb' hdr hq hq' i1 i2 i3 i4
      go_upto_region 6 with fail
      go_still_tail 8, (by kernel_rfl)
      change wpList _ _ _ _ _ wr.drew
      generalize wr.drew = wd at *
      clear c0 c1 c2 c3 c4 c5 e0 e1 e2 e3 e4 e5
      go_wp2_with fail
      refine hsm.mono ?_
      clear hsm
      rintro e w2 ⟨rfl, hb2⟩
      have HB2 := Lib.hid (HD.out.trans (hb2.mono HD.out.size))
      clear hb2
      go_wp2_with fail
      go_roundw
      case rel => exact ⟨k + 1, by omega, by go_num, HB2.out⟩
      case measure => simp [intOf]; omega
    · have HB := Lib.hid hb
      clear hb
      go_wp2_with fail
      go_ret
      exact ⟨rfl, HB.out⟩
end Go.Proofs.Ytofdpccjpodbhaa
