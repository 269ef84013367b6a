/-
  Contracts of same, lent, back of the statements of layer 1. Condition: slices of bytes lie in memory.
-/
import Derived.Test.YtabemlpkajhglaaDoorSer
import Derived.Test.YtabemlpkajhglaaDoorOct
import Derived.Test.YtabemlpkajhglaaDoorLib2
import Derived.Deep.QuietTactic
import Derived.BigQuiet
import Derived.Laws.CopyOwn
import Derived.Deep.DeepCutAuto
namespace Go.Proofs.YtabemlpkajhglaaDoor
open Go.RowKit
set_option linter.unusedVariables false

theorem below_drewN {B : Nat} {w w' : World} (h : Below B w w') (m : Nat) : Below B w (w'.drewN m) := ⟨h.os, h.tape, h.output, h.size, h.block⟩

theorem eq_of_takes {l m : List UInt8} {n : Nat} (h1 : l.length = n) (h2 : m.length = n) (h : l.take n = m.take n) : l = m := by
  rw [List.take_of_length_le (by omega), List.take_of_length_le (by omega)] at h; exact h

set_option maxHeartbeats 1000000 in
theorem same_any (w : World) (a b : Option Addr) (n c m d : Nat) (l r : List UInt8) (h1 : BytesIn w a n c l) (h2 : BytesIn w b m d r) :
    Calls Tryd.prog 15 #[.slice a n c, .slice b m d] w fun e w' => e = .returned (.bool (decide (l = r))) ∧ Below w.heap.size w w' := by
  have hnc := h1.le
  have hcm := h1.cap
  have hmd := h2.le
  have hdm := h2.cap
  unfold maxLen at hcm hdm
  by_cases hnm : n = m
  · subst hnm
    go_enter Tryd.func15, Tryd.ntmps15
    go_wp2
    go_loopw [5] (fun i wr => ∃ k : Nat, k ≤ n ∧ i = .int .i64 k ∧ Hid (l.take k = r.take k) ∧ Below w.heap.size w wr) (fun i _ => n - (intOf i).toNat)
    case atStart => exact ⟨0, by omega, rfl, Lib.hid rfl, Below.refl _ _⟩
    case round =>
      obtain ⟨k, hk, rfl, H, hB⟩ := hrel
      by_cases hlt : k < n
      · obtain ⟨b1, o1, rfl, _, _⟩ := h1.at_ (by omega)
        obtain ⟨b2, o2, rfl, _, _⟩ := h2.at_ (by omega)
        have hc1 := (h1.below hB).cell rfl k hlt
        have hc2 := (h2.below hB).cell rfl k hlt
        have e1 := take_succ_getD l k (by rw [h1.len]; exact hlt)
        have e2 := take_succ_getD r k (by rw [h2.len]; exact hlt)
        have hgl : l.getD k 0 = r.getD k 0 ↔ l.take (k + 1) = r.take (k + 1) := by
          rw [e1, e2, H.out]; simp
        obtain ⟨x, hx⟩ : ∃ x, l.getD k 0 = x := ⟨_, rfl⟩
        obtain ⟨y, hy⟩ : ∃ y, r.getD k 0 = y := ⟨_, rfl⟩
        rw [hx] at hc1
        rw [hy] at hc2
        rw [hx, hy] at hgl
        clear hx hy e1 e2
        have HG := Lib.hid hgl
        clear hgl
        by_cases hxy : x = y
        · subst hxy
          go_wp2_with fail
          go_quiet (fail)
          go_wp2_with fail
          go_roundw
          case rel => exact ⟨k + 1, by omega, by go_num, Lib.hid (HG.out.1 (by trivial)), below_drewN hB _⟩
          case measure => simp [intOf]; omega
        · have hne : ((x.toNat : Int) != (y.toNat : Int)) = true := by
            rw [bne_iff_ne]; intro h; exact hxy (UInt8.toNat_inj.1 (by omega))
          have hlr : ¬ l = r := by
            intro h; exact hxy (HG.out.2 (by rw [h]))
          go_wp2_with fail
          go_quiet (fail)
          go_wp2_with fail
          go_ret
          exact ⟨ret_bool (by simp [hlr]), below_drewN hB _⟩
      · obtain rfl : n = k := by omega
        have hlr : l = r := eq_of_takes h1.len h2.len H.out
        have HL := Lib.hid hlr
        clear hlr
        go_wp2_with fail
        go_ret
        exact ⟨ret_bool (by simp [HL.out]), hB⟩
  · have hne : ((n : Int) != (m : Int)) = true := by rw [bne_iff_ne]; omega
    have hlr : ¬ l = r := by intro h; apply hnm; rw [← h1.len, ← h2.len, h]
    have HL := Lib.hid hlr
    clear hlr
    go_enter Tryd.func15, Tryd.ntmps15
    go_wp2
    go_ret
    exact ⟨ret_bool (by simp [HL.out]), Below.refl _ _⟩

theorem same_true (w : World) (a b : Option Addr) (n c m d : Nat) (l : List UInt8) (h1 : BytesIn w a n c l) (h2 : BytesIn w b m d l) :
    Calls Tryd.prog 15 #[.slice a n c, .slice b m d] w fun e w' => e = .returned (.bool true) ∧ Below w.heap.size w w' :=
  (same_any w a b n c m d l l h1 h2).mono fun e w' ⟨he, hb⟩ => ⟨by rw [he, decide_eq_true rfl], hb⟩

set_option maxHeartbeats 1000000 in
theorem lent_any (w : World) (a : Option Addr) (n c : Nat) (l : List UInt8) (h : BytesIn w a n c l) (hn : n ≤ 140737488355328) :
    Calls Tryd.prog 18 #[.slice a n c] w fun e w' =>
      e = .returned (.tuple #[.slice (some ⟨w.heap.size, 0, none⟩) n (n + 2), .slice (some ⟨w.heap.size, 0, none⟩) (n + 2) (n + 2)]) ∧ Below w.heap.size w w' ∧ Blk w' w.heap.size 5 (l ++ [71, 72]) := by
  have hmk := run_make_row' (P := Tryd.prog) 24 5 (.int .u8 0) 1 Tryd.underlying24 info_u8 rfl .i64 .i64 (n + 2) (by omega) (by omega)
  rw [show ((n + 2 : Nat) : Int) = (n : Int) + 2 by omega] at hmk
  have hl := h.len
  go_enter Tryd.func18, Tryd.ntmps18
  go_upto_region 3 with fail
  clear hmk
  have hB := Blk.made w (n + 2) 5
  have hb : Below w.heap.size w (w.alloc (.cells (madeCells #[.int .u8 0] (n + 2)) 5)) := (Below.refl _ _).alloc (Nat.le_refl _) _
  generalize (w.alloc (.cells (madeCells #[.int .u8 0] (n + 2)) 5)) = w1 at *
  go_wp2_with (refine wpList_copy_bytes rfl (.tmp 11) (.tmp 12) 24 rfl 5 Tryd.underlying24 info_u8 _ _ _ _ _ _ rfl rfl w.heap.size 0 _ l hB (h.below hb) (fun _ => rfl) ?hfit ?_)
  case hfit => simp
  intro w2 hB2 hb2 _ _
  have e2 : copyL (List.replicate (n + 2) (0 : UInt8)) l 0 (n + 2) n = l ++ [0, 0] := by
    unfold copyL
    rw [List.take_zero, List.nil_append, List.take_of_length_le (by omega), List.drop_replicate, show n + 2 - (0 + min n (n + 2)) = 2 by omega]; rfl
  rw [e2] at hB2
  have HB2 := Lib.hid hB2
  have hbb := hb.trans hb2
  clear hb hb2 hB e2
  have hw2 := hB2.lt
  have f0 := hB2.frozen n
  have f1 := hB2.frozen (n + 1)
  have c0 := hB2.cell n (by simp; omega)
  have c1 := hB2.cell (n + 1) (by simp; omega)
  have c1' : (w2.setCell ⟨w.heap.size, n, none⟩ (.int .u8 71)).cell? ⟨w.heap.size, n + 1, none⟩ = some (.int .u8 (((l ++ [0, 0]).set n 71).getD (n + 1) 0).toNat) := (hB2.set n 71).cell (n + 1) (by simp; omega)
  have f1' : (w2.setCell ⟨w.heap.size, n, none⟩ (.int .u8 71)).frozen? ⟨w.heap.size, n + 1, none⟩ = false := (hB2.set n 71).frozen (n + 1)
  clear hB2
  go_wp2
  go_ret2
  refine ⟨rfl, (hbb.setCell (Nat.le_refl _) _).setCell (Nat.le_refl _) _, ?_⟩
  have := (HB2.out.set n 71).set (n + 1) 72
  have e3 : ((l ++ [0, 0]).set n 71).set (n + 1) 72 = l ++ [71, 72] := by
    rw [← hl, List.set_append_right _ _ (by omega), List.set_append_right _ _ (by omega)]
    simp
  rw [e3] at this
  exact this

set_option maxHeartbeats 1000000 in
theorem back_any (w : World) (B : Nat) (a : Option Addr) (n c : Nat) (l : List UInt8) (h : BytesIn w a n c l) (hn : n ≤ 140737488355328) (hB : Blk w B 5 (l ++ [71, 72])) :
    Calls Tryd.prog 21 #[.slice (some ⟨B, 0, none⟩) (n + 2) (n + 2), .slice a n c] w fun e w' => e = .returned (.bool true) ∧ Below w.heap.size w w' := by
  have hl := h.len
  have hc1 := (hB.cell n (by simp; omega))
  have hc2 := (hB.cell (n + 1) (by simp; omega))
  have hby := hB.bytes 0 n (n + 2) (by simp; omega) (by omega) (by unfold maxLen; omega)
  rw [List.drop_zero, List.take_left' hl] at hby
  have e1 : (l ++ [71, 72]).getD n 0 = (71 : UInt8) := by rw [← hl]; simp
  have e2 : (l ++ [71, 72]).getD (n + 1) 0 = (72 : UInt8) := by rw [← hl]; simp
  rw [e1] at hc1
  rw [e2] at hc2
  have hc1' : w.cell? ⟨B, n, none⟩ = some (.int .u8 71) := hc1
  have hc2' : w.cell? ⟨B, n + 1, none⟩ = some (.int .u8 72) := hc2
  have hlt := hB.lt
  clear hc1 hc2 e1 e2
  have hs := same_true w (some ⟨B, 0, none⟩) a n (n + 2) n c l hby h
  have HS := Lib.hid hs
  have HL := Lib.hid hl
  clear hs hl
  go_enter Tryd.func21, Tryd.ntmps21
  go_wp2_with fail
  refine HS.out.mono ?_
  rintro e w1 ⟨rfl, hb1⟩
  have hd1 := (hb1.cell (p := ⟨B, n, none⟩) hlt).trans hc1'
  have hd2 := (hb1.cell (p := ⟨B, n + 1, none⟩) hlt).trans hc2'
  clear HS hc1' hc2' hby hB
  go_wp2_with fail
  go_ret
  exact ⟨rfl, hb1⟩
end Go.Proofs.YtabemlpkajhglaaDoor
