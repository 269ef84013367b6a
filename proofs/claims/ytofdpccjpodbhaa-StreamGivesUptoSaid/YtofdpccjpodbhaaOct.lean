/-
  Contracts of octet.Put and octet.Get: what each returns for every argument, in every world. Conditions: a slice of bytes lies in memory.
-/
import Derived.Test.YtofdpccjpodbhaaLib
import Derived.Test.YtofdpccjpodbhaaRows
namespace Go.Proofs.Ytofdpccjpodbhaa
open Go.RowKit
set_option linter.unusedVariables false

theorem info_u8 : (Try.prog.info? 5).map (fun i => (i.zero, i.size, i.bytes)) = some (some (.int .u8 0), 1, 1) := by kernel_rfl

theorem put_ok (n wd : Nat) (w : World) (h1 : 1 ≤ wd) (h8 : wd ≤ 8) (hn : n < 18446744073709551616) :
    Calls Try.prog 39 #[.int .u64 n, .int .i64 wd] w fun e w' =>
      e = .returned (.slice (some ⟨w.heap.size, 0, none⟩) wd wd) ∧ Below w.heap.size w w' ∧ w'.rowIs w.heap.size 5 wd (fun i => .int .u8 (byteAt n wd i)) := by
  have hmk := run_make_row' (P := Try.prog) 22 5 (.int .u8 0) 1 Try.underlying22 info_u8 rfl .i64 .i64 wd (by omega) (by omega)
  go_enter Try.func39, Try.ntmps39
  go_wp2
  clear hmk
  have hrow := World.rowIs_made w (.int .u8 0) wd 5
  have hb : Below w.heap.size w (w.alloc (.cells (madeCells #[.int .u8 0] wd) 5)) := (Below.refl _ _).alloc (Nat.le_refl _) _
  generalize (w.alloc (.cells (madeCells #[.int .u8 0] wd) 5)) = w1 at *
  go_loopw [0, 6] (fun m i wr => ∃ k : Nat, k ≤ wd ∧ i = .int .i64 ((k : Int) - 1) ∧ m = .int .u64 (n / 256 ^ (wd - k) : Nat) ∧ Below w.heap.size w wr ∧ wr.rowIs w.heap.size 5 wd (fun j => .int .u8 (if k ≤ j then byteAt n wd j else 0))) (fun _ i _ => (intOf i + 1).toNat)
  case atStart => exact ⟨wd, by omega, rfl, by simp, hb, hrow.congr fun i hi => by rw [if_neg (by omega)]⟩
  case round =>
    obtain ⟨k, hk, rfl, rfl, hB, hR⟩ := hrel
    cases k with
    | zero =>
      go_wp2
      go_ret
      exact ⟨rfl, hB, hR.congr fun i hi => by rw [if_pos (Nat.zero_le _)]⟩
    | succ k =>
      have hc := hR.cell (i := k) (by omega)
      have hf := hR.frozen k
      have hle : n / 256 ^ (wd - (k+1)) < 18446744073709551616 := Nat.lt_of_le_of_lt (Nat.div_le_self _ _) hn
      obtain ⟨m, hm⟩ : ∃ m, n / 256 ^ (wd - (k+1)) = m := ⟨_, rfl⟩
      have Hm := Lib.hid hm
      rw [hm]
      rw [hm] at hle
      clear hm
      go_wp2
      go_roundw
      case rel =>
        have hm := Hm.out
        have hd : m / 256 = n / 256 ^ (wd - k) := by
          rw [← hm, Nat.div_div_eq_div_mul, ← Nat.pow_succ]
          congr 2; omega
        have hby : byteAt n wd k = m % 256 := by
          rw [← hm]; unfold byteAt; congr 3; omega
        refine ⟨k, by omega, rfl, by rw [← hd]; rfl, hB.setCell (Nat.le_refl _) _, (hR.set k _).congr fun j hj => ?_⟩
        by_cases e : j = k
        · subst e
          rw [if_pos rfl, if_pos (Nat.le_refl _), hby]; rfl
        · rw [if_neg e]
          by_cases h2 : k + 1 ≤ j
          · rw [if_pos h2, if_pos (by omega)]
          · rw [if_neg h2, if_neg (by omega)]
      case measure => simp [intOf]

theorem put_bytes (n wd : Nat) (w : World) (h1 : 1 ≤ wd) (h8 : wd ≤ 8) (hn : n < 18446744073709551616) :
    Calls Try.prog 39 #[.int .u64 n, .int .i64 wd] w fun e w' =>
      e = .returned (.slice (some ⟨w.heap.size, 0, none⟩) wd wd) ∧ Below w.heap.size w w' ∧ BytesIn w' (some ⟨w.heap.size, 0, none⟩) wd wd (putL n wd) :=
  (put_ok n wd w h1 h8 hn).mono fun e w' ⟨he, hb, hr⟩ => ⟨he, hb, rowIs_bytes (putL n wd) hr (putL_length n wd) (by unfold maxLen; omega) fun i hi => by rw [putL_getD n wd i hi]⟩

theorem put_arg (n wd : Int) (w : World) (h : wd < 1 ∨ 8 < wd) :
    Calls Try.prog 39 #[.int .u64 n, .int .i64 wd] w fun e w' => e = .returned (.slice none 0 0) ∧ w = w' := by
  by_cases h1 : wd < 1
  · go_enter Try.func39, Try.ntmps39
    go_wp2
    go_ret
    exact ⟨rfl, rfl⟩
  · have h8 : 8 < wd := by omega
    clear h
    go_enter Try.func39, Try.ntmps39
    go_wp2
    go_ret
    exact ⟨rfl, rfl⟩

theorem get_short : ∀ (w : World) (a : Option Addr) (n c : Nat) (at_ wd : Nat) (hn : n ≤ maxLen) (h1 : 1 ≤ wd) (h8 : wd ≤ 8) (h : at_ ≤ n) (h' : n < at_ + wd),
    Calls Try.prog 62 #[.slice a n c, .int .i64 at_, .int .i64 wd] w fun e w' =>
      e = .returned (.tuple #[.int .u64 0, .int .i64 10]) ∧ w = w' := by
  intro w a n c at_ wd hn h1 h8 h h'
  unfold maxLen at hn
  have h5 : (n : Int) - (at_ : Int) < (wd : Int) := by omega
  go_enter Try.func62, Try.ntmps62
  go_wp2
  go_ret2
  exact ⟨rfl, rfl⟩
theorem get_arg (w : World) (a : Option Addr) (n c : Nat) (at_ wd : Int) (hn : n ≤ maxLen) (h : wd < 1 ∨ 8 < wd ∨ at_ < 0 ∨ n < at_) :
    Calls Try.prog 62 #[.slice a n c, .int .i64 at_, .int .i64 wd] w fun e w' =>
      e = .returned (.tuple #[.int .u64 0, .int .i64 1]) ∧ w = w' := by
  unfold maxLen at hn
  by_cases h1 : wd < 1
  · clear hn
    go_enter Try.func62, Try.ntmps62
    go_wp2
    go_ret2
    exact ⟨rfl, rfl⟩
  by_cases h2 : 8 < wd
  · go_enter Try.func62, Try.ntmps62
    go_wp2
    go_ret2
    exact ⟨rfl, rfl⟩
  by_cases h3 : at_ < 0
  · go_enter Try.func62, Try.ntmps62
    go_wp2
    go_ret2
    exact ⟨rfl, rfl⟩
  have h4 : (n : Int) < at_ := by omega
  clear h
  go_enter Try.func62, Try.ntmps62
  go_wp2
  go_ret2
  exact ⟨rfl, rfl⟩

theorem get_ok (w : World) (a : Option Addr) (n c : Nat) (l : List UInt8) (h : BytesIn w a n c l) (at_ wd : Nat) (h1 : 1 ≤ wd) (h8 : wd ≤ 8) (hat : at_ + wd ≤ n) :
    Calls Try.prog 62 #[.slice a n c, .int .i64 at_, .int .i64 wd] w fun e w' =>
      e = .returned (.tuple #[.int .u64 (beVal ((l.drop at_).take wd)), .int .i64 0]) ∧ w = w' := by
  obtain ⟨hl, hnc, hcm, hat_⟩ := h
  obtain ⟨b, o, rfl, hb, hcell⟩ := hat_ (by omega)
  unfold maxLen at hcm
  have HL := Lib.hid hl
  clear hl
  go_enter Try.func62, Try.ntmps62
  go_wp2
  go_loop [8, 42] (fun m i => ∃ k : Nat, k ≤ wd ∧ i = .int .i64 k ∧ m = .int .u64 (beVal ((l.drop at_).take k))) (fun _ i => wd - (intOf i).toNat)
  case atStart => exact ⟨0, by omega, rfl, rfl⟩
  case round =>
    obtain ⟨k, hk, rfl, rfl⟩ := hrel
    by_cases hlt : k < wd
    · have hc := hcell (at_ + k) (by omega)
      rw [← Nat.add_assoc] at hc
      have hs := beVal_snoc ((l.drop at_).take k) (l.getD (at_ + k) 0)
      rw [← drop_take_succ l at_ k (by rw [HL.out]; omega)] at hs
      have hm : 256 * beVal ((l.drop at_).take k) + 255 < 18446744073709551616 := by
        have h0 := beVal_lt ((l.drop at_).take k)
        have h2 : 256 ^ ((l.drop at_).take k).length ≤ 256 ^ 7 := Nat.pow_le_pow_right (by omega) (by rw [List.length_take]; omega)
        omega
      have hx := (l.getD (at_ + k) 0).toNat_lt
      obtain ⟨y, hy⟩ : ∃ y, (l.getD (at_ + k) 0).toNat = y := ⟨_, rfl⟩
      obtain ⟨m, hm'⟩ : ∃ m, beVal ((l.drop at_).take k) = m := ⟨_, rfl⟩
      rw [hy] at hc hx hs
      rw [hm'] at hm hs ⊢
      have HS := Lib.hid hs
      clear hs hy hm' hcell
      go_wp2
      go_round
      case rel => exact ⟨k + 1, by omega, by go_num, by rw [HS.out, shl8_or m y hm hx]⟩
      case measure => simp [intOf]; omega
    · obtain rfl : wd = k := by omega
      go_wp2
      go_ret2
      exact ⟨rfl, rfl⟩

end Go.Proofs.Ytofdpccjpodbhaa
