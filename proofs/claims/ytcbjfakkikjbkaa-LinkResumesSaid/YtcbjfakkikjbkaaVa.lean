/-
  The reference's weigh, Great, GreatAll. Conditions: the value lies in memory.
-/
import Derived.Test.YtcbjfakkikjbkaaVm
import Derived.Test.YtcbjfakkikjbkaaRows
import Derived.WalkKit
import Derived.Deep.Draws
import Derived.Deep.DeepCutAuto
import Derived.StillTailTactics
import Derived.Deep.QuietTactic
import Derived.BigQuiet
import Derived.Laws.CopyOwn
import Derived.Laws.Tables
import Derived.Laws.Rows
import Derived.Great.BuildSlice
import Derived.Deep.RegionHeld3
namespace Go.Proofs.Ytcbjfakkikjbkaa
open Go.RowKit
set_option linter.all false

/-- the five cells of a part, as the walk spells them -/
theorem part_cells {w : World} {b o i : Nat} {x : V} {t : Value} (h : w.rangeAt b (o + i * 5) (vcells x t)) : w.cell? ⟨b, o + i * 5, none⟩ = some (.int .i64 x.kind) ∧ w.cell? ⟨b, o + i * 5 + 1, none⟩ = some (.int .u64 x.num) ∧ w.cell? ⟨b, o + i * 5 + 2, none⟩ = some (.string x.text) ∧ w.cell? ⟨b, o + i * 5 + 3, none⟩ = some t ∧ w.cell? ⟨b, o + i * 5 + 4, none⟩ = some (.int .i64 x.elem) :=
  ⟨h 0 _ rfl, h 1 _ rfl, h 2 _ rfl, h 3 _ rfl, h 4 _ rfl⟩
theorem wghs_drop {l : List V} {k : Nat} (h : k < l.length) {m : Int} (hm : m ≤ 100000) : wghs (l.drop k) m = wghs (l.drop (k + 1)) (wgh l[k] m) := by
  rw [List.drop_eq_getElem_cons h, wghs, if_pos hm]

set_option maxRecDepth 20000 in
set_option maxHeartbeats 4000000 in
theorem weigh_any : ∀ (v : V) (w : World) (s : Value) (n : Int), VIn w v s → 0 ≤ n → n ≤ 100000 →
    Calls Try.prog 50 #[.agg #[.int .i64 v.kind, .int .u64 v.num, .string v.text, s, .int .i64 v.elem], .int .i64 n] w fun e w' => e = .returned (.int .i64 (wgh v n)) ∧ Below w.heap.size w w' := by
  refine V.ind (fun v ih w s n h hn0 hn1 => ?_)
  obtain ⟨p, c, hs, h1, h2, h3⟩ := h.slice
  obtain ⟨N, hN⟩ : ∃ N, v.list.length = N := ⟨_, rfl⟩
  rw [hN] at hs h1 h3
  subst hs
  unfold maxLen at h2
  have htz := h.wf.t
  unfold maxLen at htz
  obtain ⟨D, hD⟩ : ∃ D, wgh v n = D := ⟨_, rfl⟩
  have HD := Lib.hid (show wghs (v.list.drop 0) (n + 1 + (v.text.size / 64 : Nat)) = D by rw [List.drop_zero, ← hD, wgh_eq])
  rw [hD]
  have HI := Lib.hid ih
  have HN := Lib.hid hN
  have HV := Lib.hid h
  clear ih h hN hD
  go_enter Try.func50, Try.ntmps50
  go_upto_region 1 with fail
  have hb0 : Below w.heap.size w (w.alloc (.cells #[.int .i64 v.kind, .int .u64 v.num, .string v.text, (.slice p N c), .int .i64 v.elem] 28)) := ((Below.refl _ _).alloc (Nat.le_refl _) _)
  have ox : (w.alloc (.cells #[.int .i64 v.kind, .int .u64 v.num, .string v.text, (.slice p N c), .int .i64 v.elem] 28)).heap[w.heap.size]? = some (.cells #[.int .i64 v.kind, .int .u64 v.num, .string v.text, (.slice p N c), .int .i64 v.elem] 28 (0, 0)) := _root_.Go.heap_alloc_new _ _
  generalize (w.alloc (.cells #[.int .i64 v.kind, .int .u64 v.num, .string v.text, (.slice p N c), .int .i64 v.elem] 28)) = w0 at *
  obtain ⟨x, hx⟩ : ∃ x, w.heap.size = x := ⟨_, rfl⟩
  rw [hx] at ox ⊢
  have HB0 := Lib.hid hb0
  have HOx := Lib.hid ox
  clear hb0 ox hx
  have x2 : w0.cell? ⟨x, 2, none⟩ = some (.string v.text) := (cell_of_row _ _ 2 _ _ _ HOx.out).trans rfl
  have x3 : w0.cell? ⟨x, 3, none⟩ = some (.slice p N c) := (cell_of_row _ _ 3 _ _ _ HOx.out).trans rfl
  have hd64 : ((v.text.size / 64 : Nat) : Int) = (v.text.size : Int) / 64 := by omega
  have HD2 : Hid (wghs (v.list.drop 0) (n + 1 + (v.text.size : Int) / 64) = D) := Lib.hid (by rw [← hd64]; exact HD.out)
  clear hd64
  go_wp2_with fail
  go_loopw [1, 5] (fun v1 v5 wr => ∃ (k : Nat) (m : Int), k ≤ N ∧ v5 = .int .i64 k ∧ v1 = .int .i64 m ∧ 0 ≤ m ∧ wghs (v.list.drop k) m = D ∧ Below w0.heap.size w0 wr) (fun _ v5 _ => N - (intOf v5).toNat)
  case atStart => exact ⟨0, _, Nat.zero_le _, rfl, rfl, by omega, HD2.out, Below.refl _ _⟩
  case round =>
    obtain ⟨k, m, hk, rfl, rfl, hm0, hrest, hb⟩ := hrel
    have HR := Lib.hid (And.intro hrest hb)
    have x3 := bs_cellV hb x3
    clear hrest hb x2
    by_cases hkN : (k : Int) < N
    · by_cases hmm : m ≤ 100000
      · have hk' : k < v.list.length := by rw [HN.out]; omega
        obtain ⟨b, o, rfl⟩ := h3 (by omega)
        have hB := HB0.out.trans (HR.out.2.mono HB0.out.size)
        obtain ⟨t, ht, hin⟩ := (HV.out.blw hB).part rfl hk'
        obtain ⟨c0, c1, c2, c3, c4⟩ := part_cells ht
        have hc := HI.out _ (List.getElem_mem hk') wr t m hin hm0 hmm
        have hstep := wghs_drop hk' hmm
        rw [HR.out.1] at hstep
        have hpos := (wgh_spec v.list[k] m).2.2
        generalize wgh v.list[k] m = m2 at *
        generalize v.list[k] = y at *
        have HS := Lib.hid hstep
        clear hB ht hin hstep
        go_wp2_with fail
        refine hc.mono ?_
        clear hc
        rintro e w1 ⟨rfl, hb1⟩
        have HB1 := Lib.hid (HR.out.2.trans (hb1.mono HR.out.2.size))
        clear hb1
        go_wp2_with fail
        go_roundw
        case rel => exact ⟨k + 1, m2, by omega, by go_num, rfl, by omega, HS.out.symm, HB1.out⟩
        case measure => simp [intOf]; omega
      · have hr : D = m := by rw [← HR.out.1, wghs_big (by omega)]
        subst hr
        go_wp2_with fail
        go_ret
        exact ⟨rfl, HB0.out.trans (HR.out.2.mono HB0.out.size)⟩
    · have hr : D = m := by rw [← HR.out.1, List.drop_eq_nil_of_le (by rw [HN.out]; omega), wghs]
      subst hr
      by_cases hmm : D ≤ 100000
      all_goals
        go_wp2_with fail
        go_ret
        exact ⟨rfl, HB0.out.trans (HR.out.2.mono HB0.out.size)⟩

set_option maxRecDepth 20000 in
set_option maxHeartbeats 4000000 in
theorem great_any (v : V) (w : World) (s : Value) (h : VIn w v s) :
    Calls Try.prog 39 #[.agg #[.int .i64 v.kind, .int .u64 v.num, .string v.text, s, .int .i64 v.elem]] w fun e w' => e = .returned (.bool (decide (100000 < v.wt))) ∧ Below w.heap.size w w' := by
  obtain ⟨p, c, hs, _⟩ := h.slice
  have hg : decide (100000 < v.wt) = decide (100000 < wgh v 0) := by
    obtain ⟨g1, g2, _⟩ := wgh_spec v 0
    rw [decide_eq_decide]
    constructor
    · intro q
      exact g2 (by omega)
    · intro q
      refine Classical.byContradiction fun q2 => ?_
      rw [g1 (by omega)] at q
      omega
  rw [hg]
  subst hs
  obtain ⟨N, hN⟩ : ∃ N, v.list.length = N := ⟨_, rfl⟩
  rw [hN] at h
  rw [hN]
  have HV := Lib.hid h
  obtain ⟨D, hD⟩ : ∃ D, wgh v 0 = D := ⟨_, rfl⟩
  rw [hD]
  have HD := Lib.hid hD
  clear h hN hg hD
  go_enter Try.func39, Try.ntmps39
  go_upto_region 1 with fail
  have hb0 : Below w.heap.size w (w.alloc (.cells #[.int .i64 v.kind, .int .u64 v.num, .string v.text, (.slice p N c), .int .i64 v.elem] 28)) := ((Below.refl _ _).alloc (Nat.le_refl _) _)
  have ox : (w.alloc (.cells #[.int .i64 v.kind, .int .u64 v.num, .string v.text, (.slice p N c), .int .i64 v.elem] 28)).heap[w.heap.size]? = some (.cells #[.int .i64 v.kind, .int .u64 v.num, .string v.text, (.slice p N c), .int .i64 v.elem] 28 (0, 0)) := _root_.Go.heap_alloc_new _ _
  generalize (w.alloc (.cells #[.int .i64 v.kind, .int .u64 v.num, .string v.text, (.slice p N c), .int .i64 v.elem] 28)) = w0 at *
  obtain ⟨x, hx⟩ : ∃ x, w.heap.size = x := ⟨_, rfl⟩
  rw [hx] at ox ⊢
  have HB0 := Lib.hid hb0
  have HOx := Lib.hid ox
  clear hb0 ox hx
  have x0 : w0.cell? ⟨x, 0, none⟩ = some (.int .i64 v.kind) := (cell_of_row _ _ 0 _ _ _ HOx.out).trans rfl
  have x1 : w0.cell? ⟨x, 1, none⟩ = some (.int .u64 v.num) := (cell_of_row _ _ 1 _ _ _ HOx.out).trans rfl
  have x2 : w0.cell? ⟨x, 2, none⟩ = some (.string v.text) := (cell_of_row _ _ 2 _ _ _ HOx.out).trans rfl
  have x3 : w0.cell? ⟨x, 3, none⟩ = some (.slice p N c) := (cell_of_row _ _ 3 _ _ _ HOx.out).trans rfl
  have x4 : w0.cell? ⟨x, 4, none⟩ = some (.int .i64 v.elem) := (cell_of_row _ _ 4 _ _ _ HOx.out).trans rfl
  have hc := weigh_any v w0 _ 0 (HV.out.blw HB0.out) (by omega) (by omega)
  rw [HD.out] at hc
  go_wp2_with fail
  refine hc.mono ?_
  clear hc
  rintro e w1 ⟨rfl, hb1⟩
  have HB1 := Lib.hid (HB0.out.trans (hb1.mono HB0.out.size))
  clear hb1
  go_wp2_with fail
  go_ret
  exact ⟨by simp, HB1.out⟩

end Go.Proofs.Ytcbjfakkikjbkaa
