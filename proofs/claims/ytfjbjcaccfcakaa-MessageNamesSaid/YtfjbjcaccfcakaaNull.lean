/-
  longshoreref02's Equal, EqualAll where all is null; the blank message. No conditions but that lists lie in memory.
-/
import Derived.Test.YtfjbjcaccfcakaaLib
import Derived.Test.YtfjbjcaccfcakaaRows
import Derived.Deep.DeepCutAuto
import Derived.StillTailTactics
import Derived.Deep.QuietTactic
import Derived.BigQuiet
import Derived.Laws.Rows
import Derived.Laws.Tables
namespace Go.Proofs.Ytfjbjcaccfcakaa
open Go.RowKit
set_option linter.unusedVariables false

theorem below_two (w : World) (o1 o2 : Obj) : Below w.heap.size w ((w.alloc o1).alloc o2) := ((Below.refl _ w).alloc (Nat.le_refl _) _).alloc (by simp) _
theorem below_drewN' {B : Nat} {w w' : World} (h : Below B w w') (m : Nat) : Below B w (w'.drewN m) := ⟨h.os, h.tape, h.output, h.size, h.block⟩
theorem below_drew' {B : Nat} {w w' : World} (h : Below B w w') : Below B w w'.drew := ⟨h.os, h.tape, h.output, h.size, h.block⟩

set_option maxHeartbeats 1000000 in
theorem equal_null (w : World) :
    Calls Try.prog 8 #[.agg #[.int .i64 0, .int .u64 0, .string ⟨#[]⟩, .slice none 0 0, .int .i64 0], .agg #[.int .i64 0, .int .u64 0, .string ⟨#[]⟩, .slice none 0 0, .int .i64 0]] w fun e w' => e = .returned (.bool true) ∧ Below w.heap.size w w' := by
  go_enter Try.func8, Try.ntmps8
  go_wp2_with fail
  go_loop [5] (fun s5 => s5 = .int .i64 0) (fun _ => 0)
  case atStart => rfl
  case round =>
    subst hrel
    go_wp2_with fail
    go_ret
    exact ⟨rfl, below_two _ _ _⟩

/-- so many nulls lie in memory -/
structure NullsIn (w : World) (a : Option Addr) (n c : Nat) : Prop where
  le : n ≤ c
  cap : c ≤ maxLen
  at_ : 0 < n → ∃ b o, a = some ⟨b, o, none⟩ ∧ b < w.heap.size ∧ ∀ i, i < n → w.cell? ⟨b, o + i * 5, none⟩ = some (.int .i64 0) ∧ w.cell? ⟨b, o + i * 5 + 1, none⟩ = some (.int .u64 0) ∧
    w.cell? ⟨b, o + i * 5 + 2, none⟩ = some (.string ⟨#[]⟩) ∧ w.cell? ⟨b, o + i * 5 + 3, none⟩ = some (.slice none 0 0) ∧ w.cell? ⟨b, o + i * 5 + 4, none⟩ = some (.int .i64 0)
theorem NullsIn.below {w w' : World} {a : Option Addr} {n c : Nat} (h : NullsIn w a n c) (hb : Below w.heap.size w w') : NullsIn w' a n c := by
  refine ⟨h.le, h.cap, fun h0 => ?_⟩
  obtain ⟨b, o, e, hlt, hc⟩ := h.at_ h0
  refine ⟨b, o, e, Nat.lt_of_lt_of_le hlt hb.size, fun i hi => ?_⟩
  obtain ⟨c0, c1, c2, c3, c4⟩ := hc i hi
  exact ⟨(hb.cell hlt).trans c0, (hb.cell hlt).trans c1, (hb.cell hlt).trans c2, (hb.cell hlt).trans c3, (hb.cell hlt).trans c4⟩

set_option maxHeartbeats 2000000 in
theorem equal_nulls (w : World) (a b : Option Addr) (n c d : Nat) (h1 : NullsIn w a n c) (h2 : NullsIn w b n d) :
    Calls Try.prog 8 #[.agg #[.int .i64 0, .int .u64 0, .string ⟨#[]⟩, .slice a n c, .int .i64 0], .agg #[.int .i64 0, .int .u64 0, .string ⟨#[]⟩, .slice b n d, .int .i64 0]] w fun e w' => e = .returned (.bool true) ∧ Below w.heap.size w w' := by
  have hle := h1.le
  have hcap := h1.cap
  have hle2 := h2.le
  have hcap2 := h2.cap
  unfold maxLen at hcap hcap2
  go_enter Try.func8, Try.ntmps8
  go_wp2_with fail
  have hB := below_two w (.cells #[.int .i64 0, .int .u64 0, .string ⟨#[]⟩, .slice a n c, .int .i64 0] 28) (.cells #[.int .i64 0, .int .u64 0, .string ⟨#[]⟩, .slice b n d, .int .i64 0] 28)
  have hc1 : ((w.alloc (.cells #[.int .i64 0, .int .u64 0, .string ⟨#[]⟩, .slice a n c, .int .i64 0] 28)).alloc (.cells #[.int .i64 0, .int .u64 0, .string ⟨#[]⟩, .slice b n d, .int .i64 0] 28)).cell? ⟨w.heap.size, 3, none⟩ = some (.slice a n c) := by simp
  have hc2 : ((w.alloc (.cells #[.int .i64 0, .int .u64 0, .string ⟨#[]⟩, .slice a n c, .int .i64 0] 28)).alloc (.cells #[.int .i64 0, .int .u64 0, .string ⟨#[]⟩, .slice b n d, .int .i64 0] 28)).cell? ⟨w.heap.size + 1, 3, none⟩ = some (.slice b n d) := by
    have hh := heap_alloc2_new w (.cells #[.int .i64 0, .int .u64 0, .string ⟨#[]⟩, .slice a n c, .int .i64 0] 28) (.cells #[.int .i64 0, .int .u64 0, .string ⟨#[]⟩, .slice b n d, .int .i64 0] 28)
    simp only [World.cell?, hh]
    rfl
  have hsz : ((w.alloc (.cells #[.int .i64 0, .int .u64 0, .string ⟨#[]⟩, .slice a n c, .int .i64 0] 28)).alloc (.cells #[.int .i64 0, .int .u64 0, .string ⟨#[]⟩, .slice b n d, .int .i64 0] 28)).heap.size = w.heap.size + 2 := by simp
  generalize ((w.alloc (.cells #[.int .i64 0, .int .u64 0, .string ⟨#[]⟩, .slice a n c, .int .i64 0] 28)).alloc (.cells #[.int .i64 0, .int .u64 0, .string ⟨#[]⟩, .slice b n d, .int .i64 0] 28)) = w2 at *
  have g1 := h1.below hB
  have g2 := h2.below hB
  have HSZ := Lib.hid hsz
  have l1 : w.heap.size < w2.heap.size := by omega
  have l2 : w.heap.size + 1 < w2.heap.size := by omega
  clear h1 h2 hsz
  go_loopw [5] (fun s5 wr => ∃ k : Nat, k ≤ n ∧ s5 = .int .i64 k ∧ Below w2.heap.size w2 wr) (fun s5 _ => n - (intOf s5).toNat)
  case atStart => exact ⟨0, by omega, rfl, Below.refl _ _⟩
  case round =>
    obtain ⟨k, hk, rfl, hBr⟩ := hrel
    have hd1 : wr.cell? ⟨w.heap.size, 3, none⟩ = some (.slice a n c) := (hBr.cell l1).trans hc1
    have hd2 : wr.cell? ⟨w.heap.size + 1, 3, none⟩ = some (.slice b n d) := (hBr.cell l2).trans hc2
    by_cases hkt : k < n
    · obtain ⟨ba, oa, rfl, _, ca⟩ := (g1.below hBr).at_ (by omega)
      obtain ⟨bb, ob, rfl, _, cb⟩ := (g2.below hBr).at_ (by omega)
      obtain ⟨x0, x1, x2, x3, x4⟩ := ca k hkt
      obtain ⟨y0, y1, y2, y3, y4⟩ := cb k hkt
      have hq := equal_null wr.drew
      have hBd : Below w2.heap.size w2 wr.drew := below_drew' hBr
      clear ca cb
      go_wp2_with fail
      go_still_tail 10, (by kernel_rfl)
      change wpList _ _ _ _ _ wr.drew
      generalize wr.drew = wd at *
      go_wp2_with fail
      refine hq.mono ?_
      rintro e w3 ⟨rfl, hb3⟩
      go_wp2_with fail
      go_roundw
      case rel => exact ⟨k + 1, by omega, by go_num, hBd.trans (hb3.mono hBd.size)⟩
      case measure => simp [intOf]; omega
    · obtain rfl : k = n := by omega
      go_wp2_with fail
      go_ret
      exact ⟨rfl, hB.trans (hBr.mono hB.size)⟩

theorem equalAll_nulls (w : World) (a b : Option Addr) (n c d : Nat) (h1 : NullsIn w a n c) (h2 : NullsIn w b n d) :
    Calls Try.prog 7 #[.slice a n c, .slice b n d] w fun e w' => e = .returned (.bool true) ∧ Below w.heap.size w w' := by
  have hcc := equal_nulls w a b n c d h1 h2
  go_enter Try.func7, Try.ntmps7
  go_wp2_with fail
  refine hcc.mono ?_
  rintro e w3 ⟨rfl, hb3⟩
  go_wp2_with fail
  go_ret
  exact ⟨rfl, hb3⟩

end Go.Proofs.Ytfjbjcaccfcakaa
