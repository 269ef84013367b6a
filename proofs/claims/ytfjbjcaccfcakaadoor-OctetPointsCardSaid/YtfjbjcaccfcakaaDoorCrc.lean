/-
  Contracts of octet.half and octet.Sum: the check sum of the parts, for every list of parts. Condition: the parts lie in memory.
-/
import Derived.Test.YtfjbjcaccfcakaaDoorSer
import Derived.Deep.DeepCutAuto
namespace Go.Proofs.YtfjbjcaccfcakaaDoor
open Go.RowKit
set_option linter.unusedVariables false

theorem ret_u32 {a b : Int} (h : a = b) : Ending.returned (.int .u32 a) = .returned (.int .u32 b) := by rw [h]

def halfL : List Nat := [0, 498536548, 997073096, 651767980, 1994146192, 1802195444, 1303535960, 1342533948, 3988292384, 4027552580, 3604390888, 3412177804, 2607071920, 2262029012, 2685067896, 3183342108]
def halfT (r : Nat) : Nat := halfL.getD (r % 16) 0
theorem half_lt_list : ∀ k, k < 16 → halfL.getD k 0 < 4294967296 := by decide
theorem halfT_lt (r : Nat) : halfT r < 4294967296 := half_lt_list _ (Nat.mod_lt _ (by decide))

theorem half_cells (w : World) (T k : Nat) (h : k < 16) :
    (w.alloc (.cells #[.int .u32 0, .int .u32 498536548, .int .u32 997073096, .int .u32 651767980, .int .u32 1994146192, .int .u32 1802195444, .int .u32 1303535960, .int .u32 1342533948, .int .u32 3988292384, .int .u32 4027552580, .int .u32 3604390888, .int .u32 3412177804, .int .u32 2607071920, .int .u32 2262029012, .int .u32 2685067896, .int .u32 3183342108] T)).cell? ⟨w.heap.size, k, none⟩ = some (.int .u32 ((halfL.getD k 0 : Nat) : Int)) := by
  match k, h with
  | 0, _ | 1, _ | 2, _ | 3, _ | 4, _ | 5, _ | 6, _ | 7, _ | 8, _ | 9, _ | 10, _ | 11, _ | 12, _ | 13, _ | 14, _ | 15, _ => simp only [World.cell?, heap_alloc_new]; rfl
  | k + 16, h => exact absurd h (by omega)

theorem half_any (r : Nat) (w : World) (hr : r < 4294967296) :
    Calls Tryd.prog 15 #[.int .u32 r] w fun e w' => e = .returned (.int .u32 (halfT r)) ∧ Below w.heap.size w w' := by
  go_enter Tryd.func15, Tryd.ntmps15
  go_upto_region 2 with fail
  have hC := half_cells w 43 (r % 16) (by omega)
  have hB : Below w.heap.size w (w.alloc (.cells #[.int .u32 0, .int .u32 498536548, .int .u32 997073096, .int .u32 651767980, .int .u32 1994146192, .int .u32 1802195444, .int .u32 1303535960, .int .u32 1342533948, .int .u32 3988292384, .int .u32 4027552580, .int .u32 3604390888, .int .u32 3412177804, .int .u32 2607071920, .int .u32 2262029012, .int .u32 2685067896, .int .u32 3183342108] 43)) := (Below.refl _ _).alloc (Nat.le_refl _) _
  generalize (w.alloc (.cells #[.int .u32 0, .int .u32 498536548, .int .u32 997073096, .int .u32 651767980, .int .u32 1994146192, .int .u32 1802195444, .int .u32 1303535960, .int .u32 1342533948, .int .u32 3988292384, .int .u32 4027552580, .int .u32 3604390888, .int .u32 3412177804, .int .u32 2607071920, .int .u32 2262029012, .int .u32 2685067896, .int .u32 3183342108] 43)) = w1 at *
  have hb : bits BinOp.and IntKind.u32 (r : Int) 15 = ((r % 16 : Nat) : Int) := by
    have := u32_and_nat r 15 hr (by decide)
    rw [nat_mask4] at this; exact this
  have hj : r % 16 < 16 := by omega
  have HT := Lib.hid (show halfT r = halfL.getD (r % 16) 0 from rfl)
  obtain ⟨v, hv⟩ : ∃ v, halfL.getD (r % 16) 0 = v := ⟨_, rfl⟩
  rw [hv] at hC HT
  clear hv
  obtain ⟨j, hj'⟩ : ∃ j, r % 16 = j := ⟨_, rfl⟩
  rw [hj'] at hb hj hC
  clear hj'
  go_wp2
  go_ret
  exact ⟨ret_u32 (by rw [HT.out]), hB⟩

def nib (r : Nat) : Nat := halfT r ^^^ r / 16
theorem nib_lt (r : Nat) (h : r < 4294967296) : nib r < 4294967296 := Nat.xor_lt_two_pow (n := 32) (halfT_lt r) (by omega)
def crcB (r : Nat) (x : UInt8) : Nat := nib (nib (r ^^^ x.toNat))
theorem crcB_lt (r : Nat) (x : UInt8) (h : r < 4294967296) : crcB r x < 4294967296 :=
  nib_lt _ (nib_lt _ (Nat.xor_lt_two_pow (n := 32) h (by have := x.toNat_lt; omega)))
def crcL (r : Nat) (l : List UInt8) : Nat := l.foldl crcB r
theorem crcL_lt (l : List UInt8) : ∀ (r : Nat), r < 4294967296 → crcL r l < 4294967296 := by
  induction l with
  | nil => intro r h; exact h
  | cons x l ih => intro r h; exact ih _ (crcB_lt r x h)
theorem crcL_snoc (r : Nat) (l : List UInt8) (x : UInt8) : crcL r (l ++ [x]) = crcB (crcL r l) x := by simp [crcL]
theorem crcL_append (r : Nat) (l m : List UInt8) : crcL r (l ++ m) = crcL (crcL r l) m := by simp [crcL]
def crcSum (l : List UInt8) : Nat := crcL 4294967295 l ^^^ 4294967295
theorem crcSum_lt (l : List UInt8) : crcSum l < 4294967296 := Nat.xor_lt_two_pow (n := 32) (crcL_lt l _ (by omega)) (by omega)

/-- parts in memory -/
structure PartsIn (w : World) (a : Option Addr) (n c : Nat) (L : List (List UInt8)) : Prop where
  len : L.length = n
  le : n ≤ c
  cap : c ≤ maxLen
  at_ : 0 < c → ∃ b o, a = some ⟨b, o, none⟩ ∧ b < w.heap.size ∧ ∀ i, i < n → ∃ ai ci, w.cell? ⟨b, o + i, none⟩ = some (.slice ai (L.getD i []).length ci) ∧ BytesIn w ai (L.getD i []).length ci (L.getD i [])

theorem PartsIn.below {w w' : World} {a : Option Addr} {n c : Nat} {L : List (List UInt8)} (h : PartsIn w a n c L) (hb : Below w.heap.size w w') : PartsIn w' a n c L := by
  obtain ⟨h1, h2, h3, h4⟩ := h
  refine ⟨h1, h2, h3, fun hc => ?_⟩
  obtain ⟨b, o, e, hlt, hcell⟩ := h4 hc
  refine ⟨b, o, e, Nat.lt_of_lt_of_le hlt hb.size, fun i hi => ?_⟩
  obtain ⟨ai, ci, e1, e2⟩ := hcell i hi
  exact ⟨ai, ci, (hb.cell (p := ⟨b, o + i, none⟩) hlt).trans e1, e2.below hb⟩

theorem takeL_succ (L : List (List UInt8)) (k : Nat) (h : k < L.length) : (L.take (k + 1)).flatten = (L.take k).flatten ++ L.getD k [] := by
  rw [List.take_succ_eq_append_getElem h, List.flatten_append]
  simp [List.getD_eq_getElem?_getD, h]

theorem xor_u32 (a b : Nat) (ha : a < 4294967296) (hb : b < 4294967296) : bits BinOp.xor IntKind.u32 (a : Int) (b : Int) = ((a ^^^ b : Nat) : Int) := u32_xor_nat a b ha hb

set_option maxHeartbeats 2000000 in
theorem sum_any (w : World) (a : Option Addr) (n c : Nat) (L : List (List UInt8)) (h : PartsIn w a n c L) :
    Calls Tryd.prog 13 #[.slice a n c] w fun e w' => e = .returned (.int .u32 (crcSum L.flatten)) ∧ Below w.heap.size w w' := by
  have hnc := h.le
  have hcm := h.cap
  unfold maxLen at hcm
  go_enter Tryd.func13, Tryd.ntmps13
  go_wp2
  go_loopw [3, 10] (fun r i wr => ∃ k : Nat, k ≤ n ∧ i = .int .i64 k ∧ r = .int .u32 (crcL 4294967295 (L.take k).flatten) ∧ Below w.heap.size w wr) (fun _ i _ => n - (intOf i).toNat)
  case atStart => exact ⟨0, by omega, rfl, rfl, Below.refl _ _⟩
  case round =>
    obtain ⟨k, hk, rfl, rfl, hB⟩ := hrel
    have hr0 := crcL_lt (L.take k).flatten 4294967295 (by omega)
    by_cases hlt : k < n
    · have HS := Lib.hid (takeL_succ L k (by rw [h.len]; exact hlt))
      obtain ⟨b, o, rfl, hbl, hcell⟩ := h.at_ (by omega)
      obtain ⟨ai, ci, hc, hby⟩ := hcell k hlt
      have hc' := (hB.cell (p := ⟨b, o + k, none⟩) hbl).trans hc
      clear hc hcell
      have hby' := hby.below hB
      clear hby
      obtain ⟨p, hp⟩ : ∃ p, L.getD k [] = p := ⟨_, rfl⟩
      rw [hp] at HS hc' hby'
      clear hp
      have hpl := hby'.le
      have hpc := hby'.cap
      unfold maxLen at hpc
      obtain ⟨r0, hr⟩ : ∃ r0, crcL 4294967295 (L.take k).flatten = r0 := ⟨_, rfl⟩
      have HR := Lib.hid hr
      rw [hr] at hr0 ⊢
      clear hr
      obtain ⟨m, hm⟩ : ∃ m, p.length = m := ⟨_, rfl⟩
      rw [hm] at hc' hby' hpl
      have HM := Lib.hid hm
      clear hm
      go_wp2
      obtain ⟨wo, hwo⟩ : ∃ wo : World, wo = wr := ⟨_, rfl⟩
      have HWO := Lib.hid hwo
      clear hwo
      go_loopw [3, 16] (fun r i wq => ∃ j : Nat, j ≤ m ∧ i = .int .i64 j ∧ r = .int .u32 (crcL r0 (p.take j)) ∧ Below wo.heap.size wo wq) (fun _ i _ => m - (intOf i).toNat)
      case atStart => exact ⟨0, by omega, rfl, rfl, by rw [HWO.out]; exact Below.refl _ _⟩
      case round =>
        obtain ⟨j, hj, rfl, rfl, hBq⟩ := hrel
        have hr1 := crcL_lt (p.take j) r0 hr0
        by_cases hjt : j < m
        · have hS2 := crcL_snoc r0 (p.take j) (p.getD j 0)
          rw [← take_succ_getD p j (by rw [HM.out]; exact hjt)] at hS2
          obtain ⟨b2, o2, rfl, hbl2, hcell2⟩ := hby'.at_ (by omega)
          have hcx := hcell2 j hjt
          rw [← HWO.out] at hcx hbl2
          have hcx' := (hBq.cell (p := ⟨b2, o2 + j, none⟩) hbl2).trans hcx
          clear hcx hcell2
          obtain ⟨y, hy⟩ : ∃ y, p.getD j 0 = y := ⟨_, rfl⟩
          rw [hy] at hS2 hcx'
          clear hy
          obtain ⟨r1, hr1'⟩ : ∃ r1, crcL r0 (p.take j) = r1 := ⟨_, rfl⟩
          rw [hr1'] at hr1 hS2 ⊢
          clear hr1'
          have HS2 := Lib.hid hS2
          clear hS2
          have hyl := y.toNat_lt
          have hx1 := xor_u32 r1 y.toNat hr1 (by omega)
          have hx2 := Nat.xor_lt_two_pow (n := 32) hr1 (show y.toNat < 2 ^ 32 by omega)
          obtain ⟨q1, hq1⟩ : ∃ q1, r1 ^^^ y.toNat = q1 := ⟨_, rfl⟩
          rw [hq1] at hx1 hx2
          have HQ1 := Lib.hid hq1
          clear hq1
          go_wp2_with fail
          refine (half_any q1 _ (by omega)).mono ?_
          rintro e w2 ⟨rfl, hb2⟩
          have hh1 := halfT_lt q1
          have hx3 := xor_u32 (halfT q1) (q1 / 16) hh1 (by omega)
          have hx4 := nib_lt q1 (by omega)
          unfold nib at hx4
          obtain ⟨t1, ht1⟩ : ∃ t1, halfT q1 = t1 := ⟨_, rfl⟩
          rw [ht1] at hx3 hx4 hh1 ⊢
          obtain ⟨q2, hq2⟩ : ∃ q2, t1 ^^^ q1 / 16 = q2 := ⟨_, rfl⟩
          rw [hq2] at hx3 hx4
          have HQ2 := Lib.hid (show nib q1 = q2 by unfold nib; rw [ht1, hq2])
          clear ht1 hq2
          have hx3' : bits BinOp.xor IntKind.u32 (t1 : Int) ((q1 : Int) / 16) = (q2 : Int) := hx3
          clear hx3
          go_wp2_with fail
          refine (half_any q2 _ (by omega)).mono ?_
          rintro e w3 ⟨rfl, hb3⟩
          have hh2 := halfT_lt q2
          have hy3 := xor_u32 (halfT q2) (q2 / 16) hh2 (by omega)
          obtain ⟨t2, ht2⟩ : ∃ t2, halfT q2 = t2 := ⟨_, rfl⟩
          rw [ht2] at hy3 hh2 ⊢
          obtain ⟨q3, hq3⟩ : ∃ q3, t2 ^^^ q2 / 16 = q3 := ⟨_, rfl⟩
          rw [hq3] at hy3
          have HQ3 := Lib.hid (show nib q2 = q3 by unfold nib; rw [ht2, hq3])
          clear ht2 hq3
          have hy3' : bits BinOp.xor IntKind.u32 (t2 : Int) ((q2 : Int) / 16) = (q3 : Int) := hy3
          clear hy3
          go_wp2_with fail
          go_roundw
          case rel => exact ⟨j + 1, by omega, by go_num, by rw [HS2.out]; unfold crcB; rw [HQ1.out, HQ2.out, HQ3.out], (hBq.trans (hb2.mono hBq.size)).trans (hb3.mono (by have := hb2.size; have := hBq.size; omega))⟩
          case measure => simp [intOf]; omega
        · obtain rfl : m = j := by omega
          have hfin : crcL r0 (p.take m) = crcL 4294967295 (L.take (k + 1)).flatten := by
            rw [HS.out, crcL_append, HR.out, List.take_of_length_le (by rw [HM.out]; exact Nat.le_refl _)]
          have HF := Lib.hid hfin
          clear hfin
          go_wp2_with fail
          go_roundw
          case rel => exact ⟨k + 1, by omega, by go_num, by rw [HF.out], hB.trans (by rw [← HWO.out]; exact hBq.mono (by rw [HWO.out]; exact hB.size))⟩
          case measure => simp [intOf]; omega
    · obtain rfl : n = k := by omega
      rw [List.take_of_length_le (by rw [h.len]; exact Nat.le_refl _)]
      rw [List.take_of_length_le (by rw [h.len]; exact Nat.le_refl _)] at hr0
      go_wp2_with fail
      go_ret
      refine ⟨ret_u32 ?_, hB⟩
      have hm : IntKind.u32.max = ((4294967295 : Nat) : Int) := by decide
      rw [hm]
      refine (xor_u32 4294967295 _ (by omega) hr0).trans ?_
      unfold crcSum
      rw [Nat.xor_comm]

theorem parts_one {w : World} {a : Option Addr} {n c : Nat} {l : List UInt8} (T : Nat) (h : BytesIn w a n c l) :
    PartsIn (w.alloc (.cells #[.slice a n c] T)) (some ⟨w.heap.size, 0, none⟩) 1 1 [l] := by
  have hb : Below w.heap.size w (w.alloc (.cells #[.slice a n c] T)) := (Below.refl _ _).alloc (Nat.le_refl _) _
  refine ⟨rfl, Nat.le_refl _, by unfold maxLen; omega, fun _ => ⟨w.heap.size, 0, rfl, by simp, fun i hi => ?_⟩⟩
  obtain rfl : i = 0 := by omega
  refine ⟨a, c, ?_, ?_⟩
  · simp only [World.cell?, heap_alloc_new]
    simp [h.len]
  · have := h.below hb
    simp only [List.getD_cons_zero, h.len]
    exact this
theorem bytes_one (w : World) (T : Nat) (x : UInt8) : BytesIn (w.alloc (.cells #[.int .u8 (x.toNat : Int)] T)) (some ⟨w.heap.size, 0, none⟩) 1 1 [x] := by
  refine ⟨rfl, Nat.le_refl _, by unfold maxLen; omega, fun _ => ⟨w.heap.size, 0, rfl, by simp, fun i hi => ?_⟩⟩
  obtain rfl : i = 0 := by omega
  simp only [World.cell?, heap_alloc_new]
  simp

/-- the sum of one part: the slice that holds it has just been laid -/
theorem sum_one (w : World) (a : Option Addr) (n c : Nat) (l : List UInt8) (h : BytesIn w a n c l) :
    Calls Tryd.prog 13 #[.slice (some ⟨w.heap.size, 0, none⟩) 1 1] (w.alloc (.cells #[.slice a n c] 25)) fun e w' =>
      e = .returned (.int .u32 (crcSum l)) ∧ Below w.heap.size w w' := by
  refine (sum_any _ _ 1 1 [l] (parts_one 25 h)).mono fun e w' ⟨he, hb⟩ => ⟨?_, ?_⟩
  · rw [he]; simp
  · exact ((Below.refl _ w).alloc (Nat.le_refl _) _).trans (hb.mono (by simp))

end Go.Proofs.YtfjbjcaccfcakaaDoor
