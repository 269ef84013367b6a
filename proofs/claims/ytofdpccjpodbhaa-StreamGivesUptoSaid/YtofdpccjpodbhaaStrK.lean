/-
  StreamCuts' walk. Conditions: rows that can be in memory, the bytes and the cuts fewer than 2 to the 30th.
-/
import Derived.Test.YtofdpccjpodbhaaStrE
namespace Go.Proofs.Ytofdpccjpodbhaa
open Go.RowKit
set_option linter.unusedVariables false

/-- what run answers: the items, the five numbers of the state -/
def runR (most : Int) (l : List UInt8) : List Itm × Int × Int × Bool × Int × Int :=
  if 512 ≤ most ∧ most ≤ 1048576 then ((feed (SM.new most.toNat) l).2, (feed (SM.new most.toNat) l).1.taken, (feed (SM.new most.toNat) l).1.held.length, (feed (SM.new most.toNat) l).1.hdr, (feed (SM.new most.toNat) l).1.err, (feed (SM.new most.toNat) l).1.at_)
  else ([], 0, 0, false, 0, 0)

def RunAny (w : World) (r : List Itm × Int × Int × Bool × Int × Int) (e : Ending) (w' : World) : Prop :=
  ∃ vl L, e = .returned (.tuple #[vl, .agg #[.int .i64 r.2.1, .int .i64 r.2.2.1, .bool r.2.2.2.1, .int .i64 r.2.2.2.2.1, .int .i64 r.2.2.2.2.2], .bool true]) ∧ Below w.heap.size w w' ∧ ItemsAt w.heap.size L vl w' ∧ L.map Prod.fst = r.1

theorem run_any (w : World) (most : Int) (pb : Option Addr) (n c : Nat) (l : List UInt8) (pk : Option Addr) (nk ck : Nat) (cuts : List Int) (hb : BytesIn w pb n c l) (hk : IntsIn .i64 w pk nk ck cuts) (hn : n ≤ 1073741823) (hnk : nk ≤ 1073741823) :
    Calls Try.prog 26 #[.int .i64 most, .slice pb n c, .slice pk nk ck] w (RunAny w (runR most l)) := by
  by_cases h : 512 ≤ most ∧ most ≤ 1048576
  · obtain ⟨mo, rfl⟩ : ∃ mo : Nat, most = mo := ⟨most.toNat, by omega⟩
    refine (run_ok w mo (by omega) pb n c l pk nk ck cuts hb hk hn hnk).mono ?_
    rintro e w' ⟨vl, L, rfl, h1, h2, h3⟩
    refine ⟨vl, L, ?_, h1, h2, ?_⟩
    · simp only [runR, if_pos h, Int.toNat_natCast]
      rfl
    · simp only [runR, if_pos h, Int.toNat_natCast]
      exact h3
  · refine (run_bad w most h pb n c pk nk ck).mono ?_
    rintro e w' ⟨rfl, h1⟩
    refine ⟨.slice none 0 0, [], ?_, h1, ⟨World.ownsRow_nil _ _ _ _, fun p hp => by simp at hp⟩, ?_⟩
    · simp only [runR, if_neg h]
    · simp only [runR, if_neg h, List.map_nil]

theorem ItemsAt.below {w w' : World} {B : Nat} {L : List (Itm × Value × Value)} {vl : Value} (h : ItemsAt B L vl w) (hb : Below w.heap.size w w') : ItemsAt B L vl w' :=
  ⟨ownsRow_same h.row (fun j hj => hb.block j (h.row.lt j hj).2), fun p hp => ⟨(h.its p hp).1.of_below hb, (h.its p hp).2.of_below hb⟩⟩

set_option maxRecDepth 20000 in
set_option maxHeartbeats 2000000 in
theorem cuts_walk (w : World) (most : Int) (pb : Option Addr) (n c : Nat) (l : List UInt8) (pk : Option Addr) (nk ck : Nat) (cuts : List Int) (hb : BytesIn w pb n c l) (hk : IntsIn .i64 w pk nk ck cuts) (hn : n ≤ 1073741823) (hnk : nk ≤ 1073741823) :
    Calls Try.prog 7 #[.int .i64 most, .slice pb n c, .slice pk nk ck] w fun e w' => e = .returned (.bool true) ∧ Below w.heap.size w w' := by
  have HB := Lib.hid hb
  have HK := Lib.hid hk
  clear hb hk
  have ha := awake6_any w
  obtain ⟨r, hr⟩ : ∃ r, runR most l = r := ⟨_, rfl⟩
  obtain ⟨its, t, h, d, er, at_⟩ := r
  have HR := Lib.hid hr
  clear hr
  go_enter Try.func7, Try.ntmps7
  go_wp2_with fail
  refine ha.mono ?_
  clear ha
  rintro e w1 ⟨rfl, d1⟩
  have hr1 := run_any w1 most pb n c l pk nk ck cuts (HB.out.below d1) (HK.out.below d1) hn hnk
  rw [HR.out] at hr1
  go_wp2_with fail
  refine hr1.mono ?_
  clear hr1
  rintro e w2 ⟨vx, Lx, rfl, hb2, hi2, hm2⟩
  go_upto_region 5 with fail
  have d2 := d1.trans (hb2.mono d1.size)
  have r3 := heap_alloc_new w2 (.cells #[.int .i64 t, .int .i64 h, .bool d, .int .i64 er, .int .i64 at_] 49)
  have b3 : Below w2.heap.size w2 (w2.alloc (.cells #[.int .i64 t, .int .i64 h, .bool d, .int .i64 er, .int .i64 at_] 49)) := (Below.refl _ _).alloc (Nat.le_refl _) _
  have z3 : w2.heap.size < (w2.alloc (.cells #[.int .i64 t, .int .i64 h, .bool d, .int .i64 er, .int .i64 at_] 49)).heap.size := by simp
  generalize (w2.alloc (.cells #[.int .i64 t, .int .i64 h, .bool d, .int .i64 er, .int .i64 at_] 49)) = w3 at *
  have d3 := d2.trans (b3.mono d2.size)
  have hi3 := hi2.below b3
  obtain ⟨x9, hx9⟩ : ∃ x, w2.heap.size = x := ⟨_, rfl⟩
  rw [hx9] at r3 z3 ⊢
  have HI3 := Lib.hid hi3
  have HM2 := Lib.hid hm2
  clear d1 hb2 hi2 hm2 d2 b3 hi3 hx9
  have hr2 := run_any w3 most pb n c l none 0 0 [] (HB.out.below d3) ⟨rfl, Nat.le_refl _, Nat.zero_le _, fun z hz => by simp at hz, fun h => absurd h (by omega)⟩ hn (Nat.zero_le _)
  rw [HR.out] at hr2
  go_wp2_with fail
  refine hr2.mono ?_
  clear hr2
  rintro e w4 ⟨vy, Ly, rfl, hb4, hi4, hm4⟩
  go_upto_region 6 with fail
  have r4 := (hb4.block x9 z3).trans r3
  have z4 := Nat.lt_of_lt_of_le z3 hb4.size
  have d4 := d3.trans (hb4.mono d3.size)
  have hx4 := HI3.out.below hb4
  have r5 := heap_alloc_new w4 (.cells #[.int .i64 t, .int .i64 h, .bool d, .int .i64 er, .int .i64 at_] 49)
  have b5 : Below w4.heap.size w4 (w4.alloc (.cells #[.int .i64 t, .int .i64 h, .bool d, .int .i64 er, .int .i64 at_] 49)) := (Below.refl _ _).alloc (Nat.le_refl _) _
  have z5 : w4.heap.size < (w4.alloc (.cells #[.int .i64 t, .int .i64 h, .bool d, .int .i64 er, .int .i64 at_] 49)).heap.size := by simp
  generalize (w4.alloc (.cells #[.int .i64 t, .int .i64 h, .bool d, .int .i64 er, .int .i64 at_] 49)) = w5 at *
  have d5 := d4.trans (b5.mono d4.size)
  have r5' := (b5.block x9 z4).trans r4
  have hx5 := hx4.below b5
  have hy5 := hi4.below b5
  obtain ⟨x12, hx12⟩ : ∃ x, w4.heap.size = x := ⟨_, rfl⟩
  rw [hx12] at r5 z5 ⊢
  have hsm := sameItems_eq w5 _ _ Lx Ly vx vy hx5.in_ hy5.in_ (HM2.out.trans hm4.symm)
  have D5 := Lib.hid d5
  have R5 := Lib.hid (And.intro r5 r5')
  have Z5 := Lib.hid (And.intro z5 (Nat.lt_of_lt_of_le z4 b5.size))
  clear r4 z4 d4 hx4 b5 r5 r5' hx5 hy5 hx12 d3 r3 z3 HI3 HM2 hb4 hi4 hm4 z5 d5
  go_wp2_with fail
  refine hsm.mono ?_
  clear hsm
  rintro e w6 ⟨rfl, hb6⟩
  have q9 := (hb6.block x9 Z5.out.2).trans R5.out.2
  have q12 := (hb6.block x12 Z5.out.1).trans R5.out.1
  have k0 : w6.cell? ⟨x9, 0, none⟩ = some (.int .i64 t) := (cell_of_row _ _ 0 _ _ _ q9).trans rfl
  have k1 : w6.cell? ⟨x9, 1, none⟩ = some (.int .i64 h) := (cell_of_row _ _ 1 _ _ _ q9).trans rfl
  have k2 : w6.cell? ⟨x9, 2, none⟩ = some (.bool d) := (cell_of_row _ _ 2 _ _ _ q9).trans rfl
  have k3 : w6.cell? ⟨x9, 3, none⟩ = some (.int .i64 er) := (cell_of_row _ _ 3 _ _ _ q9).trans rfl
  have k4 : w6.cell? ⟨x9, 4, none⟩ = some (.int .i64 at_) := (cell_of_row _ _ 4 _ _ _ q9).trans rfl
  have l0 : w6.cell? ⟨x12, 0, none⟩ = some (.int .i64 t) := (cell_of_row _ _ 0 _ _ _ q12).trans rfl
  have l1 : w6.cell? ⟨x12, 1, none⟩ = some (.int .i64 h) := (cell_of_row _ _ 1 _ _ _ q12).trans rfl
  have l2 : w6.cell? ⟨x12, 2, none⟩ = some (.bool d) := (cell_of_row _ _ 2 _ _ _ q12).trans rfl
  have l3 : w6.cell? ⟨x12, 3, none⟩ = some (.int .i64 er) := (cell_of_row _ _ 3 _ _ _ q12).trans rfl
  have l4 : w6.cell? ⟨x12, 4, none⟩ = some (.int .i64 at_) := (cell_of_row _ _ 4 _ _ _ q12).trans rfl
  have D6 := Lib.hid (D5.out.trans (hb6.mono D5.out.size))
  have hse := state_eql
  have hse2 := state_eq
  clear q9 q12 hb6
  go_wp2_with fail
  go_ret
  exact ⟨rfl, D6.out⟩
end Go.Proofs.Ytofdpccjpodbhaa
