/-
  Contracts of the reference's Step and Sum: the same check sum. Condition: the parts lie in memory.
-/
import Derived.Test.YtabemlpkajhglaaDoorCrcP
namespace Go.Proofs.YtabemlpkajhglaaDoor
open Go.RowKit
set_option linter.unusedVariables false

theorem bsN_succ (k r : Nat) : bsN (k + 1) r = bs (bsN k r) := by rw [bsN_add k 1]; rfl

set_option maxHeartbeats 1000000 in
theorem step_any (r : Nat) (x : UInt8) (w : World) (hr : r < 4294967296) :
    Calls Tryd.prog 40 #[.int .u32 r, .int .u8 (x.toNat : Int)] w fun e w' => e = .returned (.int .u32 (crcB r x)) ∧ w = w' := by
  have hx := x.toNat_lt
  have hx1 := xor_u32 r x.toNat hr (by omega)
  have hx2 : r ^^^ x.toNat < 4294967296 := Nat.xor_lt_two_pow (n := 32) hr (by omega)
  have HX := Lib.hid (crcB_bs r x)
  obtain ⟨q, hq⟩ : ∃ q, r ^^^ x.toNat = q := ⟨_, rfl⟩
  rw [hq] at hx1 hx2
  have HQ := Lib.hid hq
  clear hq
  go_enter Tryd.func40, Tryd.ntmps40
  go_wp2
  go_loop [5, 6] (fun v i => ∃ k : Nat, k ≤ 8 ∧ i = .int .i64 k ∧ v = .int .u32 (bsN k q : Nat)) (fun _ i => 8 - (intOf i).toNat)
  case atStart => exact ⟨0, by omega, rfl, rfl⟩
  case round =>
    obtain ⟨k, hk, rfl, rfl⟩ := hrel
    have hm := bsN_lt k q hx2
    have hs := bsN_succ k q
    obtain ⟨m, hm'⟩ : ∃ m, bsN k q = m := ⟨_, rfl⟩
    rw [hm'] at hm hs ⊢
    have HM := Lib.hid hm'
    have HS := Lib.hid hs
    clear hm' hs
    by_cases hlt : k < 8
    · by_cases hodd : m % 2 = 1
      · have hb := xor_u32 (m / 2) 3988292384 (by omega) (by omega)
        have he : bs m = m / 2 ^^^ 3988292384 := by unfold bs; rw [if_pos hodd]
        rw [← he] at hb
        have hb' : bits BinOp.xor IntKind.u32 ((m : Int) / 2) 3988292384 = ((bs m : Nat) : Int) := hb
        obtain ⟨z, hz⟩ : ∃ z, bs m = z := ⟨_, rfl⟩
        rw [hz] at hb'
        have HZ := Lib.hid hz
        clear hb he hz
        have hodd' : (((m : Int) % 2) == 1) = true := by simp; omega
        have hodd2 : (m : Int) % 2 = 1 := by omega
        go_wp2
        go_round
        case rel => exact ⟨k + 1, by omega, by go_num, by rw [HS.out, HZ.out]⟩
        case measure => simp [intOf]; omega
      · have he : bs m = m / 2 := by unfold bs; rw [if_neg hodd, Nat.xor_zero]
        have HE := Lib.hid he
        clear he
        have hodd2 : ((m : Int) % 2 == 1) = false := by simp; omega
        go_wp2
        go_round
        case rel => exact ⟨k + 1, by omega, by go_num, by rw [HS.out, HE.out]; go_num⟩
        case measure => simp [intOf]; omega
    · obtain rfl : k = 8 := by omega
      have HF := Lib.hid (show crcB r x = m by rw [HX.out, HQ.out, HM.out])
      go_wp2
      go_ret
      exact ⟨ret_u32 (by rw [HF.out]), rfl⟩

set_option maxHeartbeats 2000000 in
theorem refSum_any (w : World) (a : Option Addr) (n c : Nat) (L : List (List UInt8)) (h : PartsIn w a n c L) :
    Calls Tryd.prog 29 #[.slice a n c] w fun e w' => e = .returned (.int .u32 (crcSum L.flatten)) ∧ w = w' := by
  have hnc := h.le
  have hcm := h.cap
  unfold maxLen at hcm
  go_enter Tryd.func29, Tryd.ntmps29
  go_wp2
  go_loop [3, 4] (fun r i => ∃ k : Nat, k ≤ n ∧ i = .int .i64 k ∧ r = .int .u32 (crcL 4294967295 (L.take k).flatten)) (fun _ i => n - (intOf i).toNat)
  case atStart => exact ⟨0, by omega, rfl, rfl⟩
  case round =>
    obtain ⟨k, hk, rfl, rfl⟩ := hrel
    have hr0 := crcL_lt (L.take k).flatten 4294967295 (by omega)
    by_cases hlt : k < n
    · have HS := Lib.hid (takeL_succ L k (by rw [h.len]; exact hlt))
      obtain ⟨b, o, rfl, hbl, hcell⟩ := h.at_ (by omega)
      obtain ⟨ai, ci, hc, hby⟩ := hcell k hlt
      clear hcell
      obtain ⟨p, hp⟩ : ∃ p, L.getD k [] = p := ⟨_, rfl⟩
      rw [hp] at HS hc hby
      clear hp
      have hpl := hby.le
      have hpc := hby.cap
      unfold maxLen at hpc
      obtain ⟨r0, hr⟩ : ∃ r0, crcL 4294967295 (L.take k).flatten = r0 := ⟨_, rfl⟩
      have HR := Lib.hid hr
      rw [hr] at hr0 ⊢
      clear hr
      obtain ⟨m, hm⟩ : ∃ m, p.length = m := ⟨_, rfl⟩
      rw [hm] at hc hby hpl
      have HM := Lib.hid hm
      clear hm
      go_wp2
      go_loop [3, 5] (fun r i => ∃ j : Nat, j ≤ m ∧ i = .int .i64 j ∧ r = .int .u32 (crcL r0 (p.take j))) (fun _ i => m - (intOf i).toNat)
      case atStart => exact ⟨0, by omega, rfl, rfl⟩
      case round =>
        obtain ⟨j, hj, rfl, rfl⟩ := hrel
        have hr1 := crcL_lt (p.take j) r0 hr0
        by_cases hjt : j < m
        · have hS2 := crcL_snoc r0 (p.take j) (p.getD j 0)
          rw [← take_succ_getD p j (by rw [HM.out]; exact hjt)] at hS2
          obtain ⟨b2, o2, rfl, hbl2, hcell2⟩ := hby.at_ (by omega)
          have hcx := hcell2 j hjt
          clear hcell2
          obtain ⟨y, hy⟩ : ∃ y, p.getD j 0 = y := ⟨_, rfl⟩
          rw [hy] at hS2 hcx
          clear hy
          obtain ⟨r1, hr1'⟩ : ∃ r1, crcL r0 (p.take j) = r1 := ⟨_, rfl⟩
          rw [hr1'] at hr1 hS2 ⊢
          clear hr1'
          have HS2 := Lib.hid hS2
          clear hS2
          go_wp2_with fail
          refine (step_any r1 y _ hr1).mono ?_
          rintro e w2 ⟨rfl, rfl⟩
          go_wp2_with fail
          go_round
          case rel => exact ⟨j + 1, by omega, by go_num, by rw [HS2.out]⟩
          case measure => simp [intOf]; omega
        · obtain rfl : m = j := by omega
          have hfin : crcL r0 (p.take m) = crcL 4294967295 (L.take (k + 1)).flatten := by
            rw [HS.out, crcL_append, HR.out, List.take_of_length_le (by rw [HM.out]; exact Nat.le_refl _)]
          have HF := Lib.hid hfin
          clear hfin
          go_wp2_with fail
          go_round
          case rel => exact ⟨k + 1, by omega, by go_num, by rw [HF.out]⟩
          case measure => simp [intOf]; omega
    · obtain rfl : n = k := by omega
      rw [List.take_of_length_le (by rw [h.len]; exact Nat.le_refl _)]
      rw [List.take_of_length_le (by rw [h.len]; exact Nat.le_refl _)] at hr0
      have hf := xor_u32 _ 4294967295 hr0 (by omega)
      have HF := Lib.hid (show crcSum L.flatten = crcL 4294967295 L.flatten ^^^ 4294967295 from rfl)
      obtain ⟨q, hq⟩ : ∃ q, crcL 4294967295 L.flatten ^^^ 4294967295 = q := ⟨_, rfl⟩
      rw [hq] at hf
      have HF2 := Lib.hid (show crcSum L.flatten = q by rw [← hq]; rfl)
      clear hq HF
      go_wp2_with fail
      go_ret
      refine ⟨ret_u32 ?_, rfl⟩
      rw [HF2.out]
      first | exact hf | rfl
end Go.Proofs.YtabemlpkajhglaaDoor
