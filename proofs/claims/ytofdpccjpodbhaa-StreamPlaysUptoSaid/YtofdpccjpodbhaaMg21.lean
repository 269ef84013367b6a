/-
  The stream's State. Conditions: the stream lies in a block of its own.
  The reference's stream: how it lies in memory; New, first, proto, Expect, Most, State. Conditions: it lies in a block of its own.
-/
import Derived.Test.YtofdpccjpodbhaaStr8
import Derived.Test.YtofdpccjpodbhaaMg07
import Derived.Handy
import Derived.StillTailTactics
import Derived.Test.YtofdpccjpodbhaaStrT
import Derived.Test.YtofdpccjpodbhaaRefOpen2
namespace Go.Proofs.Ytofdpccjpodbhaa
open Go.RowKit
set_option linter.unusedVariables false

/-- State -/
def SM.state (s : SM) : Value := .agg #[.int .i64 s.taken, .int .i64 s.held.length, .bool s.hdr, .int .i64 s.err, .int .i64 s.at_]

set_option maxRecDepth 20000 in
set_option maxHeartbeats 1000000 in
theorem state_any (w : World) (b B : Nat) (s : SM) (hv : Value) (hS : StS w b B s hv) :
    Calls Try.prog 34 #[.pointer (some ⟨b, 0, none⟩)] w fun e w' => e = .returned s.state ∧ Below w.heap.size w w' := by
  have ho := hS.ins.held
  have hrow := hS.ins.row
  obtain ⟨p, d, rfl, hb⟩ := ho.bytes
  have c1 : w.cell? ⟨b, 1, none⟩ = some (.slice p s.held.length d) := (cell_of_row _ _ 1 _ _ _ hrow).trans rfl
  have c2 : w.cell? ⟨b, 2, none⟩ = some (.int .i64 s.taken) := (cell_of_row _ _ 2 _ _ _ hrow).trans rfl
  have c3 : w.cell? ⟨b, 3, none⟩ = some (.int .i64 s.at_) := (cell_of_row _ _ 3 _ _ _ hrow).trans rfl
  have c6 : w.cell? ⟨b, 6, none⟩ = some (.bool s.hdr) := (cell_of_row _ _ 6 _ _ _ hrow).trans rfl
  have c8 : w.cell? ⟨b, 8, none⟩ = some (.int .i64 s.err) := (cell_of_row _ _ 8 _ _ _ hrow).trans rfl
  clear hS ho hrow hb
  unfold SM.state
  go_enter Try.func34, Try.ntmps34
  go_upto_region 1 with fail
  have k1 : (w.alloc (.cells #[.int .i64 0, .int .i64 0, .bool false, .int .i64 0, .int .i64 0] 49)).cell? ⟨b, 1, none⟩ = some (.slice p s.held.length d) := (World.cell?_of_block (heap_alloc_old w _ (cell_lt c1))).trans c1
  have k2 : (w.alloc (.cells #[.int .i64 0, .int .i64 0, .bool false, .int .i64 0, .int .i64 0] 49)).cell? ⟨b, 2, none⟩ = some (.int .i64 s.taken) := (World.cell?_of_block (heap_alloc_old w _ (cell_lt c2))).trans c2
  have k3 : (w.alloc (.cells #[.int .i64 0, .int .i64 0, .bool false, .int .i64 0, .int .i64 0] 49)).cell? ⟨b, 3, none⟩ = some (.int .i64 s.at_) := (World.cell?_of_block (heap_alloc_old w _ (cell_lt c3))).trans c3
  have k6 : (w.alloc (.cells #[.int .i64 0, .int .i64 0, .bool false, .int .i64 0, .int .i64 0] 49)).cell? ⟨b, 6, none⟩ = some (.bool s.hdr) := (World.cell?_of_block (heap_alloc_old w _ (cell_lt c6))).trans c6
  have k8 : (w.alloc (.cells #[.int .i64 0, .int .i64 0, .bool false, .int .i64 0, .int .i64 0] 49)).cell? ⟨b, 8, none⟩ = some (.int .i64 s.err) := (World.cell?_of_block (heap_alloc_old w _ (cell_lt c8))).trans c8
  have a1 : (w.alloc (.cells #[.int .i64 0, .int .i64 0, .bool false, .int .i64 0, .int .i64 0] 49)).heap[w.heap.size]? = some (.cells #[.int .i64 0, .int .i64 0, .bool false, .int .i64 0, .int .i64 0] 49 (0, 0)) := heap_alloc_new _ _
  have hb1 : Below w.heap.size w (w.alloc (.cells #[.int .i64 0, .int .i64 0, .bool false, .int .i64 0, .int .i64 0] 49)) := (Below.refl _ w).alloc (Nat.le_refl _) _
  generalize (w.alloc (.cells #[.int .i64 0, .int .i64 0, .bool false, .int .i64 0, .int .i64 0] 49)) = w1 at *
  clear c1 c2 c3 c6 c8
  have A1 := Lib.hid a1
  have HB1 := Lib.hid hb1
  clear a1 hb1
  have q0 : w1.cell? ⟨w.heap.size, 0, none⟩ = some (.int .i64 0) := (cell_of_row _ _ 0 _ _ _ A1.out).trans rfl
  have q1 : w1.cell? ⟨w.heap.size, 1, none⟩ = some (.int .i64 0) := (cell_of_row _ _ 1 _ _ _ A1.out).trans rfl
  have q2 : w1.cell? ⟨w.heap.size, 2, none⟩ = some (.bool false) := (cell_of_row _ _ 2 _ _ _ A1.out).trans rfl
  have q3 : w1.cell? ⟨w.heap.size, 3, none⟩ = some (.int .i64 0) := (cell_of_row _ _ 3 _ _ _ A1.out).trans rfl
  have q4 : w1.cell? ⟨w.heap.size, 4, none⟩ = some (.int .i64 0) := (cell_of_row _ _ 4 _ _ _ A1.out).trans rfl
  have fz : ∀ k, w1.frozen? ⟨w.heap.size, k, none⟩ = false := fun k => by have := A1.out; simp [World.frozen?, this]
  go_still_tail 22, (by kernel_rfl)
  change wpList _ _ _ _ _ w1.drew
  have A2 : w1.drew.heap[w.heap.size]? = some (.cells #[.int .i64 0, .int .i64 0, .bool false, .int .i64 0, .int .i64 0] 49 (0, 0)) := A1.out
  have hbd : Below w.heap.size w w1.drew := HB1.out.trans ⟨rfl, rfl, rfl, Nat.le_refl _, fun _ _ => rfl⟩
  generalize w1.drew = wd at *
  clear q0 q1 q2 q3 q4 fz A1 HB1
  have q0 : wd.cell? ⟨w.heap.size, 0, none⟩ = some (.int .i64 0) := (cell_of_row _ _ 0 _ _ _ A2).trans rfl
  have q1 : wd.cell? ⟨w.heap.size, 1, none⟩ = some (.int .i64 0) := (cell_of_row _ _ 1 _ _ _ A2).trans rfl
  have q2 : wd.cell? ⟨w.heap.size, 2, none⟩ = some (.bool false) := (cell_of_row _ _ 2 _ _ _ A2).trans rfl
  have q3 : wd.cell? ⟨w.heap.size, 3, none⟩ = some (.int .i64 0) := (cell_of_row _ _ 3 _ _ _ A2).trans rfl
  have q4 : wd.cell? ⟨w.heap.size, 4, none⟩ = some (.int .i64 0) := (cell_of_row _ _ 4 _ _ _ A2).trans rfl
  have fz : ∀ k, wd.frozen? ⟨w.heap.size, k, none⟩ = false := fun k => by simp [World.frozen?, A2]
  have HA2 := Lib.hid A2
  have HBD := Lib.hid hbd
  clear A2 hbd
  go_wp2_with fail
  have s0 := heap_setCell_same wd w.heap.size 0 _ _ (.int .i64 s.taken) HA2.out
  have s1 := heap_setCell_same _ w.heap.size 1 _ _ (.int .i64 s.held.length) s0
  have s2 := heap_setCell_same _ w.heap.size 2 _ _ (.bool s.hdr) s1
  have s3 := heap_setCell_same _ w.heap.size 3 _ _ (.int .i64 s.err) s2
  have s4 := heap_setCell_same _ w.heap.size 4 _ _ (.int .i64 s.at_) s3
  have b4 := ((((HBD.out.setCell (p := ⟨w.heap.size, 0, none⟩) (Nat.le_refl _) (.int .i64 s.taken)).setCell (p := ⟨w.heap.size, 1, none⟩) (Nat.le_refl _) (.int .i64 s.held.length)).setCell (p := ⟨w.heap.size, 2, none⟩) (Nat.le_refl _) (.bool s.hdr)).setCell (p := ⟨w.heap.size, 3, none⟩) (Nat.le_refl _) (.int .i64 s.err)).setCell (p := ⟨w.heap.size, 4, none⟩) (Nat.le_refl _) (.int .i64 s.at_)
  refine bodyPost_ret (results_cell_row rfl _ _ w.heap.size _ _ _ _ rfl s4 Try.underlying49 rfl (by kernel_rfl)) rfl ?_
  exact ⟨rfl, b4⟩
end Go.Proofs.Ytofdpccjpodbhaa

namespace Go.Proofs.Ytofdpccjpodbhaa
open Go.RowKit
set_option linter.unusedVariables false

/-- the reference's stream in memory: its block r; fr: the limit of the frame that it is in -/
structure InR (w : World) (r B fr : Nat) (s : SM) (rv : Value) : Prop where
  row : w.heap[r]? = some (.cells #[.int .i64 s.most, .int .i64 fr, rv, .int .i64 s.taken, .int .i64 s.at_, .bool s.hdr, .int .i64 s.kind, .int .i64 s.err] 93 (0, 0))
  held : OwnBytes w B 5 rv s.held
  lt : r < B
  le : B ≤ w.heap.size

theorem InR.cells {w : World} {r B fr : Nat} {s : SM} {rv : Value} (h : InR w r B fr s rv) : ∃ p d, rv = .slice p s.held.length d ∧
    w.heap[r]? = some (.cells #[.int .i64 s.most, .int .i64 fr, .slice p s.held.length d, .int .i64 s.taken, .int .i64 s.at_, .bool s.hdr, .int .i64 s.kind, .int .i64 s.err] 93 (0, 0)) := by
  obtain ⟨p, d, rfl, _⟩ := h.held.bytes
  exact ⟨p, d, rfl, h.row⟩

theorem InR.held_lt {W : World} {r B fr : Nat} {s : SM} {rv : Value} (h : InR W r B fr s rv) : ∀ j, rv.ownBlock = some j → B ≤ j ∧ j < W.heap.size := by
  intro j hq
  rcases h.held.row.2 with ⟨hz, _⟩ | ⟨g', cap, cur, hz, hb, hh, _⟩
  · rw [hz] at hq; simp [Value.ownBlock] at hq
  · rw [hz] at hq
    simp only [Value.ownBlock, Option.some.injEq] at hq
    subst hq
    exact ⟨hb, (Array.getElem?_eq_some_iff.1 hh).1⟩

/-- no block of its own has turned -/
theorem InR.keep {W W' : World} {r B fr : Nat} {s : SM} {rv : Value} (h : InR W r B fr s rv) (hz : W.heap.size ≤ W'.heap.size) (e : ∀ j, j = r ∨ rv.ownBlock = some j → W'.heap[j]? = W.heap[j]?) : InR W' r B fr s rv :=
  ⟨(e r (.inl rfl)).trans h.row, h.held.same' (fun k hk => e k (.inr hk)), h.lt, Nat.le_trans h.le hz⟩

theorem rnew_bad (w : World) (m : Int) (h : ¬ (512 ≤ m ∧ m ≤ 1048576)) :
    Calls Try.prog 29 #[.int .i64 m] w fun e w' => e = .returned (.pointer none) ∧ w' = w := by
  have hc : m < 512 ∨ (¬ m < 512 ∧ 1048576 < m) := by omega
  clear h
  go_enter Try.func29, Try.ntmps29
  rcases hc with h1 | ⟨h1, h2⟩
  · go_wp2_with fail
    go_ret
    exact ⟨rfl, rfl⟩
  · go_wp2_with fail
    go_ret
    exact ⟨rfl, rfl⟩

theorem rnew_ok (w : World) (m : Nat) (h : 512 ≤ m ∧ m ≤ 1048576) :
    Calls Try.prog 29 #[.int .i64 m] w fun e w' => e = .returned (.pointer (some ⟨w.heap.size, 0, none⟩)) ∧ InR w' w.heap.size (w.heap.size + 1) 0 (SM.new m) (.slice none 0 0) ∧ w.grownBy w' none ∧ w'.heap.size = w.heap.size + 1 := by
  have h1 : ¬ (m : Int) < 512 := by omega
  have h2 : ¬ 1048576 < (m : Int) := by omega
  clear h
  go_enter Try.func29, Try.ntmps29
  go_wp2_with fail
  go_ret
  exact ⟨rfl, ⟨heap_alloc_new _ _, OwnBytes.nil _ _ _, Nat.lt_succ_self _, by simp⟩, grown_alloc _ _ _, by simp⟩

theorem first_four (w : World) (a : Option Addr) (c : Nat) (l : List UInt8) (h : BytesIn w a 4 c l) :
    Calls Try.prog 77 #[.slice a 4 c] w fun e w' => e = .returned (.bool (decide (l = [76, 83, 72, 82]))) ∧ w' = w := by
  have hcap := h.cap
  have hle := h.le
  unfold maxLen at hcap
  obtain ⟨x0, x1, x2, x3, rfl⟩ := list4 h.len
  obtain ⟨g, o, rfl, hgl, hcell⟩ := h.at_ (by omega)
  have k0 := hcell 0 (by omega)
  have k1 := hcell 1 (by omega)
  have k2 := hcell 2 (by omega)
  have k3 := hcell 3 (by omega)
  simp only [List.getD_cons_zero, List.getD_cons_succ, Nat.add_zero] at k0 k1 k2 k3
  have hq : ∀ (x : UInt8) (m : Nat), m < 256 → ((x.toNat : Int) = (m : Int) ↔ x = UInt8.ofNat m) := by
    intro x m hm
    constructor
    · intro hx
      apply UInt8.toNat_inj.1
      simp only [UInt8.toNat_ofNat']
      omega
    · intro hx
      rw [hx]
      simp only [UInt8.toNat_ofNat']
      omega
  have q0 := hq x0 76 (by decide)
  have q1 := hq x1 83 (by decide)
  have q2 := hq x2 72 (by decide)
  have q3 := hq x3 82 (by decide)
  have hR : ∀ P : Bool, P = decide ((x0.toNat : Int) = 76 ∧ (x1.toNat : Int) = 83 ∧ (x2.toNat : Int) = 72 ∧ (x3.toNat : Int) = 82) → P = decide ([x0, x1, x2, x3] = [76, 83, 72, 82]) := by
    rintro P rfl
    apply decide_eq_decide.2
    simp only [List.cons.injEq, and_true]
    exact and_congr q0 (and_congr q1 (and_congr q2 q3))
  have HR := Lib.hid hR
  clear hq q0 q1 q2 q3 hR hcell h
  generalize (x0.toNat : Int) = y0 at *
  generalize (x1.toNat : Int) = y1 at *
  generalize (x2.toNat : Int) = y2 at *
  generalize (x3.toNat : Int) = y3 at *
  go_enter Try.func77, Try.ntmps77
  by_cases h0 : y0 = 76
  · have t0 : (y0 == 76) = true := by simpa using h0
    by_cases h1 : y1 = 83
    · have t1 : (y1 == 83) = true := by simpa using h1
      by_cases h2 : y2 = 72
      · have t2 : (y2 == 72) = true := by simpa using h2
        go_wp2_with fail
        go_ret
        exact ⟨by rw [← HR.out _ rfl]; simp [h0, h1, h2]; rfl, rfl⟩
      · have t2 : (y2 == 72) = false := by simpa using h2
        go_wp2_with fail
        go_ret
        exact ⟨by rw [← HR.out _ rfl]; simp [h2], rfl⟩
    · have t1 : (y1 == 83) = false := by simpa using h1
      go_wp2_with fail
      go_ret
      exact ⟨by rw [← HR.out _ rfl]; simp [h1], rfl⟩
  · have t0 : (y0 == 76) = false := by simpa using h0
    go_wp2_with fail
    go_ret
    exact ⟨by rw [← HR.out _ rfl]; simp [h0], rfl⟩

theorem rexpect_any (w : World) (r B fr : Nat) (s : SM) (rv : Value) (hS : InR w r B fr s rv) :
    Calls Try.prog 55 #[.pointer (some ⟨r, 0, none⟩)] w fun e w' => e = .returned (.int .i64 (expectR s).2) ∧ InR w' r B fr (expectR s).1 rv ∧ w.grownBy w' (some r) ∧ w'.heap.size = w.heap.size := by
  obtain ⟨p, d, rfl, hrow⟩ := hS.cells
  have c2 : w.cell? ⟨r, 2, none⟩ = some (.slice p s.held.length d) := (cell_of_row _ _ 2 _ _ _ hrow).trans rfl
  have c5 : w.cell? ⟨r, 5, none⟩ = some (.bool s.hdr) := (cell_of_row _ _ 5 _ _ _ hrow).trans rfl
  have c7 : w.cell? ⟨r, 7, none⟩ = some (.int .i64 s.err) := (cell_of_row _ _ 7 _ _ _ hrow).trans rfl
  have fz : ∀ k, w.frozen? ⟨r, k, none⟩ = false := fun k => by simp [World.frozen?, hrow]
  have HS := Lib.hid hS
  clear hrow hS
  by_cases h1 : s.hdr = true
  · have hr : Hid (expectR s = (s, 4)) := Lib.hid (by simp [expectR, h1])
    go_enter Try.func55, Try.ntmps55
    go_wp2_with fail
    go_ret
    rw [hr.out]
    exact ⟨rfl, HS.out, World.grownBy.refl _ _, rfl⟩
  · have h1' : s.hdr = false := by simpa using h1
    clear h1
    by_cases h2 : s.held = []
    · have h2' : s.held.length = 0 := by rw [h2]; rfl
      have H2 := Lib.hid h2
      clear h2
      by_cases h3 : s.err = 0
      · have hr : Hid (expectR s = ({ s with hdr := true, ph := 0 }, 0)) := Lib.hid (by simp [expectR, h1', H2.out, h3])
        have h3' : (s.err != 0) = false := by simp [h3]
        clear h3
        go_enter Try.func55, Try.ntmps55
        go_wp2_with fail
        go_ret
        rw [hr.out]
        have hst := HS.out
        have g2 := setCell_grown w r 5 (.bool true)
        refine ⟨rfl, ⟨heap_setCell_same w r 5 _ _ (.bool true) hst.row, hst.held.kept g2 (hst.held.off' hst.lt), hst.lt, Nat.le_trans hst.le g2.size⟩, g2, by simp⟩
      · have hr : Hid (expectR s = (s, 4)) := Lib.hid (by simp [expectR, h3])
        have h3' : (s.err != 0) = true := by simpa using h3
        clear h3
        go_enter Try.func55, Try.ntmps55
        go_wp2_with fail
        go_ret
        rw [hr.out]
        exact ⟨rfl, HS.out, World.grownBy.refl _ _, rfl⟩
    · have hr : Hid (expectR s = (s, 4)) := Lib.hid (by simp [expectR, h2])
      have h2' : 0 < s.held.length := List.length_pos_iff.2 h2
      clear h2
      go_enter Try.func55, Try.ntmps55
      go_wp2_with fail
      go_ret
      rw [hr.out]
      exact ⟨rfl, HS.out, World.grownBy.refl _ _, rfl⟩

theorem rmost_any (w : World) (r B fr : Nat) (s : SM) (rv : Value) (m : Int) (hS : InR w r B fr s rv) :
    Calls Try.prog 56 #[.pointer (some ⟨r, 0, none⟩), .int .i64 m] w fun e w' => e = .returned (.int .i64 (mostR s m).2) ∧ InR w' r B fr (mostR s m).1 rv ∧ w.grownBy w' (some r) ∧ w'.heap.size = w.heap.size := by
  obtain ⟨p, d, rfl, hrow⟩ := hS.cells
  have c0 : w.cell? ⟨r, 0, none⟩ = some (.int .i64 s.most) := (cell_of_row _ _ 0 _ _ _ hrow).trans rfl
  have c7 : w.cell? ⟨r, 7, none⟩ = some (.int .i64 s.err) := (cell_of_row _ _ 7 _ _ _ hrow).trans rfl
  have fz : ∀ k, w.frozen? ⟨r, k, none⟩ = false := fun k => by simp [World.frozen?, hrow]
  have HS := Lib.hid hS
  clear hrow hS
  by_cases h1 : 512 ≤ m ∧ m ≤ 1048576
  · have u1 : ¬ m < 512 := by omega
    have u2 : ¬ 1048576 < m := by omega
    by_cases h3 : s.err = 0
    · have hr : Hid (mostR s m = ({ s with most := m.toNat }, 0)) := Lib.hid (by simp [mostR, h1, h3])
      have H1 := Lib.hid h1
      have h3' : (s.err != 0) = false := by simp [h3]
      clear h3 h1
      go_enter Try.func56, Try.ntmps56
      go_wp2_with fail
      go_ret
      rw [hr.out]
      have hst := HS.out
      have hmn : ((m.toNat : Nat) : Int) = m := by have := H1.out; omega
      have s1 := heap_setCell_same w r 0 _ _ (.int .i64 m) hst.row
      have g2 := setCell_grown w r 0 (.int .i64 m)
      refine ⟨rfl, ⟨?_, hst.held.kept g2 (hst.held.off' hst.lt), hst.lt, Nat.le_trans hst.le g2.size⟩, g2, by simp⟩
      simp only [hmn]
      exact s1
    · have hr : Hid (mostR s m = (s, 4)) := Lib.hid (by simp [mostR, h1, h3])
      have h3' : (s.err != 0) = true := by simpa using h3
      clear h3 h1
      go_enter Try.func56, Try.ntmps56
      go_wp2_with fail
      go_ret
      rw [hr.out]
      exact ⟨rfl, HS.out, World.grownBy.refl _ _, rfl⟩
  · have hr : Hid (mostR s m = (s, 1)) := Lib.hid (by simp only [mostR, if_pos h1])
    have hc : m < 512 ∨ (¬ m < 512 ∧ 1048576 < m) := by omega
    clear h1
    rcases hc with h1 | ⟨h1, h2⟩
    · go_enter Try.func56, Try.ntmps56
      go_wp2_with fail
      go_ret
      rw [hr.out]
      exact ⟨rfl, HS.out, World.grownBy.refl _ _, rfl⟩
    · go_enter Try.func56, Try.ntmps56
      go_wp2_with fail
      go_ret
      rw [hr.out]
      exact ⟨rfl, HS.out, World.grownBy.refl _ _, rfl⟩

set_option maxRecDepth 20000 in
set_option maxHeartbeats 1000000 in
theorem rstate_any (w : World) (r B fr : Nat) (s : SM) (rv : Value) (hS : InR w r B fr s rv) :
    Calls Try.prog 57 #[.pointer (some ⟨r, 0, none⟩)] w fun e w' => e = .returned s.state ∧ Below w.heap.size w w' := by
  obtain ⟨p, d, rfl, hrow⟩ := hS.cells
  have c2 : w.cell? ⟨r, 2, none⟩ = some (.slice p s.held.length d) := (cell_of_row _ _ 2 _ _ _ hrow).trans rfl
  have c3 : w.cell? ⟨r, 3, none⟩ = some (.int .i64 s.taken) := (cell_of_row _ _ 3 _ _ _ hrow).trans rfl
  have c4 : w.cell? ⟨r, 4, none⟩ = some (.int .i64 s.at_) := (cell_of_row _ _ 4 _ _ _ hrow).trans rfl
  have c5 : w.cell? ⟨r, 5, none⟩ = some (.bool s.hdr) := (cell_of_row _ _ 5 _ _ _ hrow).trans rfl
  have c7 : w.cell? ⟨r, 7, none⟩ = some (.int .i64 s.err) := (cell_of_row _ _ 7 _ _ _ hrow).trans rfl
  clear hS hrow
  unfold SM.state
  go_enter Try.func57, Try.ntmps57
  go_upto_region 1 with fail
  have k2 : (w.alloc (.cells #[.int .i64 0, .int .i64 0, .bool false, .int .i64 0, .int .i64 0] 49)).cell? ⟨r, 2, none⟩ = some (.slice p s.held.length d) := (World.cell?_of_block (heap_alloc_old w _ (cell_lt c2))).trans c2
  have k3 : (w.alloc (.cells #[.int .i64 0, .int .i64 0, .bool false, .int .i64 0, .int .i64 0] 49)).cell? ⟨r, 3, none⟩ = some (.int .i64 s.taken) := (World.cell?_of_block (heap_alloc_old w _ (cell_lt c3))).trans c3
  have k4 : (w.alloc (.cells #[.int .i64 0, .int .i64 0, .bool false, .int .i64 0, .int .i64 0] 49)).cell? ⟨r, 4, none⟩ = some (.int .i64 s.at_) := (World.cell?_of_block (heap_alloc_old w _ (cell_lt c4))).trans c4
  have k5 : (w.alloc (.cells #[.int .i64 0, .int .i64 0, .bool false, .int .i64 0, .int .i64 0] 49)).cell? ⟨r, 5, none⟩ = some (.bool s.hdr) := (World.cell?_of_block (heap_alloc_old w _ (cell_lt c5))).trans c5
  have k7 : (w.alloc (.cells #[.int .i64 0, .int .i64 0, .bool false, .int .i64 0, .int .i64 0] 49)).cell? ⟨r, 7, none⟩ = some (.int .i64 s.err) := (World.cell?_of_block (heap_alloc_old w _ (cell_lt c7))).trans c7
  have a1 : (w.alloc (.cells #[.int .i64 0, .int .i64 0, .bool false, .int .i64 0, .int .i64 0] 49)).heap[w.heap.size]? = some (.cells #[.int .i64 0, .int .i64 0, .bool false, .int .i64 0, .int .i64 0] 49 (0, 0)) := heap_alloc_new _ _
  have hb1 : Below w.heap.size w (w.alloc (.cells #[.int .i64 0, .int .i64 0, .bool false, .int .i64 0, .int .i64 0] 49)) := (Below.refl _ w).alloc (Nat.le_refl _) _
  generalize (w.alloc (.cells #[.int .i64 0, .int .i64 0, .bool false, .int .i64 0, .int .i64 0] 49)) = w1 at *
  clear c2 c3 c4 c5 c7
  have A1 := Lib.hid a1
  have HB1 := Lib.hid hb1
  clear a1 hb1
  have q0 : w1.cell? ⟨w.heap.size, 0, none⟩ = some (.int .i64 0) := (cell_of_row _ _ 0 _ _ _ A1.out).trans rfl
  have q1 : w1.cell? ⟨w.heap.size, 1, none⟩ = some (.int .i64 0) := (cell_of_row _ _ 1 _ _ _ A1.out).trans rfl
  have q2 : w1.cell? ⟨w.heap.size, 2, none⟩ = some (.bool false) := (cell_of_row _ _ 2 _ _ _ A1.out).trans rfl
  have q3 : w1.cell? ⟨w.heap.size, 3, none⟩ = some (.int .i64 0) := (cell_of_row _ _ 3 _ _ _ A1.out).trans rfl
  have q4 : w1.cell? ⟨w.heap.size, 4, none⟩ = some (.int .i64 0) := (cell_of_row _ _ 4 _ _ _ A1.out).trans rfl
  have fz : ∀ k, w1.frozen? ⟨w.heap.size, k, none⟩ = false := fun k => by have := A1.out; simp [World.frozen?, this]
  go_still_tail 22, (by kernel_rfl)
  change wpList _ _ _ _ _ w1.drew
  have A2 : w1.drew.heap[w.heap.size]? = some (.cells #[.int .i64 0, .int .i64 0, .bool false, .int .i64 0, .int .i64 0] 49 (0, 0)) := A1.out
  have hbd : Below w.heap.size w w1.drew := HB1.out.trans ⟨rfl, rfl, rfl, Nat.le_refl _, fun _ _ => rfl⟩
  generalize w1.drew = wd at *
  clear q0 q1 q2 q3 q4 fz A1 HB1
  have q0 : wd.cell? ⟨w.heap.size, 0, none⟩ = some (.int .i64 0) := (cell_of_row _ _ 0 _ _ _ A2).trans rfl
  have q1 : wd.cell? ⟨w.heap.size, 1, none⟩ = some (.int .i64 0) := (cell_of_row _ _ 1 _ _ _ A2).trans rfl
  have q2 : wd.cell? ⟨w.heap.size, 2, none⟩ = some (.bool false) := (cell_of_row _ _ 2 _ _ _ A2).trans rfl
  have q3 : wd.cell? ⟨w.heap.size, 3, none⟩ = some (.int .i64 0) := (cell_of_row _ _ 3 _ _ _ A2).trans rfl
  have q4 : wd.cell? ⟨w.heap.size, 4, none⟩ = some (.int .i64 0) := (cell_of_row _ _ 4 _ _ _ A2).trans rfl
  have fz : ∀ k, wd.frozen? ⟨w.heap.size, k, none⟩ = false := fun k => by simp [World.frozen?, A2]
  have HA2 := Lib.hid A2
  have HBD := Lib.hid hbd
  clear A2 hbd
  go_wp2_with fail
  have s0 := heap_setCell_same wd w.heap.size 0 _ _ (.int .i64 s.taken) HA2.out
  have s1 := heap_setCell_same _ w.heap.size 1 _ _ (.int .i64 s.held.length) s0
  have s2 := heap_setCell_same _ w.heap.size 2 _ _ (.bool s.hdr) s1
  have s3 := heap_setCell_same _ w.heap.size 3 _ _ (.int .i64 s.err) s2
  have s4 := heap_setCell_same _ w.heap.size 4 _ _ (.int .i64 s.at_) s3
  have b4 := ((((HBD.out.setCell (p := ⟨w.heap.size, 0, none⟩) (Nat.le_refl _) (.int .i64 s.taken)).setCell (p := ⟨w.heap.size, 1, none⟩) (Nat.le_refl _) (.int .i64 s.held.length)).setCell (p := ⟨w.heap.size, 2, none⟩) (Nat.le_refl _) (.bool s.hdr)).setCell (p := ⟨w.heap.size, 3, none⟩) (Nat.le_refl _) (.int .i64 s.err)).setCell (p := ⟨w.heap.size, 4, none⟩) (Nat.le_refl _) (.int .i64 s.at_)
  refine bodyPost_ret (results_cell_row rfl _ _ w.heap.size _ _ _ _ rfl s4 Try.underlying49 rfl (by kernel_rfl)) rfl ?_
  exact ⟨rfl, b4⟩
end Go.Proofs.Ytofdpccjpodbhaa
