/-
  Lemmas on the codec. Conditions: as each says.
-/
import Derived.Test.YtnnnfhobbnjmfaaGreatDoorMg06
import Derived.Test.YtnnnfhobbnjmfaaGreatDoorCd
import Derived.Test.YtnnnfhobbnjmfaaGreatDoorMg04
import Derived.Test.YtnnnfhobbnjmfaaGreatDoorMg01
import Derived.Laws.CopyOwn
import Derived.Deep.Draws
namespace Go.Proofs.YtnnnfhobbnjmfaaGreatDoor
open Go.RowKit Go.Proofs.Tryz
set_option linter.all false
set_option maxHeartbeats 40000000
set_option maxRecDepth 20000

attribute [local go_sem] Oper.semAt_some

/-! ### numbers out of bytes -/
theorem rnumber_any (w : World) (a : Option Addr) (n c : Nat) (l : List UInt8) (h : BytesIn w a n c l) (h8 : n <= 8) :
  Calls prog 95 #[.slice a n c] w fun e w' => e = .returned (.int .u64 (beVal l)) ∧ w = w' := by
 obtain ⟨hl, hnc, hcm, hat_⟩ := h
 unfold maxLen at hcm
 have HL := zH hl
 have HA := zH hat_
 clear hl hat_
 go_enter func95, ntmps95
 go_wp2
 go_loop [3, 4] (fun m i => ∃ k : Nat, k <= n ∧ i = .int .i64 k ∧ m = .int .u64 (beVal (l.take k))) (fun _ i => n - (intOf i).toNat)
 case atStart => exact ⟨0, by omega, rfl, rfl⟩
 obtain ⟨k, hk, rfl, rfl⟩ := hrel
 by_cases hlt : k < n
 ·obtain ⟨b, o, rfl, hb, hcell⟩ := HA.out (by omega)
  have hc := hcell k (by omega)
  have hs := beVal_snoc (l.take k) (l.getD k 0)
  rw [← take_succ_getD l k (by rw [HL.out]; omega)] at hs
  have hm : 256 * beVal (l.take k) + 255 < 18446744073709551616 := by
   have h0 := beVal_lt (l.take k)
   have h2 : 256 ^ (l.take k).length <= 256 ^ 7 := Nat.pow_le_pow_right (by omega) (by rw [List.length_take]; omega)
   omega
  have hx := (l.getD k 0).toNat_lt
  obtain ⟨y, hy⟩ : ∃ y, (l.getD k 0).toNat = y := ⟨_, rfl⟩
  obtain ⟨m, hm'⟩ : ∃ m, beVal (l.take k) = m := ⟨_, rfl⟩
  rw [hy] at hc hx hs
  rw [hm'] at hm hs ⊢
  have HS := zH hs
  clear hs hy hm' hcell
  go_wp2
  go_round
  case rel => exact ⟨k + 1, by omega, by go_num, by rw [HS.out, shl8_or m y hm hx]⟩
  case measure => simp [intOf]; omega
 obtain rfl : n = k := by omega
 have HE := zH (show l.take n = l by rw [List.take_of_length_le (by rw [HL.out]; omega)])
 go_wp2
 go_ret
 exact ⟨(by rw [HE.out]; rfl), rfl⟩
theorem rnumber_some (w : World) (a : Option Addr) (n c : Nat) (l : List UInt8) (h : BytesIn w a n c l) :
  Calls prog 95 #[.slice a n c] w fun e w' => (∃ m : Int, e = .returned (.int .u64 m)) ∧ w = w' := by
 obtain ⟨hl, hnc, hcm, hat_⟩ := h
 unfold maxLen at hcm
 have HL := zH hl
 have HA := zH hat_
 clear hl hat_
 go_enter func95, ntmps95
 go_wp2
 go_loop [3, 4] (fun m i => ∃ k : Nat, k <= n ∧ i = .int .i64 k ∧ ∃ z : Int, m = .int .u64 z) (fun _ i => n - (intOf i).toNat)
 case atStart => exact ⟨0, by omega, rfl, 0, rfl⟩
 obtain ⟨k, hk, rfl, z, rfl⟩ := hrel
 by_cases hlt : k < n
 ·obtain ⟨b, o, rfl, hb, hcell⟩ := HA.out (by omega)
  have hc := hcell k (by omega)
  have hx := (l.getD k 0).toNat_lt
  obtain ⟨y, hy⟩ : ∃ y, (l.getD k 0).toNat = y := ⟨_, rfl⟩
  rw [hy] at hc hx
  clear hy hcell
  go_wp2
  go_round
  case rel => exact ⟨k + 1, by omega, by go_num, _, rfl⟩
  case measure => simp [intOf]; omega
 obtain rfl : n = k := by omega
 go_wp2
 go_ret
 exact ⟨⟨_, rfl⟩, rfl⟩
/-! ### widths -/
def widR (c : Nat) : Int := if c / 16 = 4 then 0 else if c / 16 <= 9 then widC c else -1
theorem kindC_mem {c : Nat} (h : 0 <= kindC c) (h0 : c ≠ 0) : c = 64 ∨ c = 65 ∨ c = 66 ∨ c = 86 ∨ c = 80 ∨ c = 96 ∨ c = 67 ∨ c = 82 ∨ c = 112 ∨ c = 68 ∨ c = 83 ∨ c = 128 ∨ c = 81 ∨ c = 97 ∨ c = 84 ∨ c = 113 ∨ c = 85 ∨ c = 129 ∨ c = 114 ∨ c = 130 ∨ c = 116 ∨ c = 132 ∨ c = 148 ∨ c = 115 ∨ c = 131 ∨ c = 152 ∨ c = 160 ∨ c = 176 ∨ c = 161 ∨ c = 177 ∨ c = 163 ∨ c = 179 ∨ c = 69 ∨ c = 192 ∨ c = 208 ∨ c = 193 ∨ c = 209 ∨ c = 224 ∨ c = 240 := by
 unfold kindC at h
 repeat' split at h
 all_goals first | omega | (revert h; decide)
theorem rwidth_any (c : Nat) (w : World) (h : 0 <= kindC c) (h0 : c ≠ 0) : Calls prog 94 #[.int .i64 (c : Int)] w fun e w' => e = .returned (.int .i64 (widR c)) ∧ w = w' := by
 have hm := kindC_mem h h0
 clear h h0
 rcases hm with rfl | rfl | rfl | rfl | rfl | rfl | rfl | rfl | rfl | rfl | rfl | rfl | rfl | rfl | rfl | rfl | rfl | rfl | rfl | rfl | rfl | rfl | rfl | rfl | rfl | rfl | rfl | rfl | rfl | rfl | rfl | rfl | rfl | rfl | rfl | rfl | rfl | rfl | rfl
 ·rw [show widR 64 = (0 : Int) from rfl]
  go_enter func94, ntmps94
  go_wp2_with fail
  go_ret
  exact ⟨rfl, rfl⟩
 ·rw [show widR 65 = (0 : Int) from rfl]
  go_enter func94, ntmps94
  go_wp2_with fail
  go_ret
  exact ⟨rfl, rfl⟩
 ·rw [show widR 66 = (0 : Int) from rfl]
  go_enter func94, ntmps94
  go_wp2_with fail
  go_ret
  exact ⟨rfl, rfl⟩
 ·rw [show widR 86 = (1 : Int) from rfl]
  go_enter func94, ntmps94
  go_wp2_with fail
  go_ret
  exact ⟨rfl, rfl⟩
 ·rw [show widR 80 = (1 : Int) from rfl]
  go_enter func94, ntmps94
  go_wp2_with fail
  go_ret
  exact ⟨rfl, rfl⟩
 ·rw [show widR 96 = (2 : Int) from rfl]
  go_enter func94, ntmps94
  go_wp2_with fail
  go_ret
  exact ⟨rfl, rfl⟩
 ·rw [show widR 67 = (0 : Int) from rfl]
  go_enter func94, ntmps94
  go_wp2_with fail
  go_ret
  exact ⟨rfl, rfl⟩
 ·rw [show widR 82 = (1 : Int) from rfl]
  go_enter func94, ntmps94
  go_wp2_with fail
  go_ret
  exact ⟨rfl, rfl⟩
 ·rw [show widR 112 = (4 : Int) from rfl]
  go_enter func94, ntmps94
  go_wp2_with fail
  go_ret
  exact ⟨rfl, rfl⟩
 ·rw [show widR 68 = (0 : Int) from rfl]
  go_enter func94, ntmps94
  go_wp2_with fail
  go_ret
  exact ⟨rfl, rfl⟩
 ·rw [show widR 83 = (1 : Int) from rfl]
  go_enter func94, ntmps94
  go_wp2_with fail
  go_ret
  exact ⟨rfl, rfl⟩
 ·rw [show widR 128 = (8 : Int) from rfl]
  go_enter func94, ntmps94
  go_wp2_with fail
  go_ret
  exact ⟨rfl, rfl⟩
 ·rw [show widR 81 = (1 : Int) from rfl]
  go_enter func94, ntmps94
  go_wp2_with fail
  go_ret
  exact ⟨rfl, rfl⟩
 ·rw [show widR 97 = (2 : Int) from rfl]
  go_enter func94, ntmps94
  go_wp2_with fail
  go_ret
  exact ⟨rfl, rfl⟩
 ·rw [show widR 84 = (1 : Int) from rfl]
  go_enter func94, ntmps94
  go_wp2_with fail
  go_ret
  exact ⟨rfl, rfl⟩
 ·rw [show widR 113 = (4 : Int) from rfl]
  go_enter func94, ntmps94
  go_wp2_with fail
  go_ret
  exact ⟨rfl, rfl⟩
 ·rw [show widR 85 = (1 : Int) from rfl]
  go_enter func94, ntmps94
  go_wp2_with fail
  go_ret
  exact ⟨rfl, rfl⟩
 ·rw [show widR 129 = (8 : Int) from rfl]
  go_enter func94, ntmps94
  go_wp2_with fail
  go_ret
  exact ⟨rfl, rfl⟩
 ·rw [show widR 114 = (4 : Int) from rfl]
  go_enter func94, ntmps94
  go_wp2_with fail
  go_ret
  exact ⟨rfl, rfl⟩
 ·rw [show widR 130 = (8 : Int) from rfl]
  go_enter func94, ntmps94
  go_wp2_with fail
  go_ret
  exact ⟨rfl, rfl⟩
 ·rw [show widR 116 = (4 : Int) from rfl]
  go_enter func94, ntmps94
  go_wp2_with fail
  go_ret
  exact ⟨rfl, rfl⟩
 ·rw [show widR 132 = (8 : Int) from rfl]
  go_enter func94, ntmps94
  go_wp2_with fail
  go_ret
  exact ⟨rfl, rfl⟩
 ·rw [show widR 148 = (16 : Int) from rfl]
  go_enter func94, ntmps94
  go_wp2_with fail
  go_ret
  exact ⟨rfl, rfl⟩
 ·rw [show widR 115 = (4 : Int) from rfl]
  go_enter func94, ntmps94
  go_wp2_with fail
  go_ret
  exact ⟨rfl, rfl⟩
 ·rw [show widR 131 = (8 : Int) from rfl]
  go_enter func94, ntmps94
  go_wp2_with fail
  go_ret
  exact ⟨rfl, rfl⟩
 ·rw [show widR 152 = (16 : Int) from rfl]
  go_enter func94, ntmps94
  go_wp2_with fail
  go_ret
  exact ⟨rfl, rfl⟩
 ·rw [show widR 160 = (-1 : Int) from rfl]
  go_enter func94, ntmps94
  go_wp2_with fail
  go_ret
  exact ⟨rfl, rfl⟩
 ·rw [show widR 176 = (-1 : Int) from rfl]
  go_enter func94, ntmps94
  go_wp2_with fail
  go_ret
  exact ⟨rfl, rfl⟩
 ·rw [show widR 161 = (-1 : Int) from rfl]
  go_enter func94, ntmps94
  go_wp2_with fail
  go_ret
  exact ⟨rfl, rfl⟩
 ·rw [show widR 177 = (-1 : Int) from rfl]
  go_enter func94, ntmps94
  go_wp2_with fail
  go_ret
  exact ⟨rfl, rfl⟩
 ·rw [show widR 163 = (-1 : Int) from rfl]
  go_enter func94, ntmps94
  go_wp2_with fail
  go_ret
  exact ⟨rfl, rfl⟩
 ·rw [show widR 179 = (-1 : Int) from rfl]
  go_enter func94, ntmps94
  go_wp2_with fail
  go_ret
  exact ⟨rfl, rfl⟩
 ·rw [show widR 69 = (0 : Int) from rfl]
  go_enter func94, ntmps94
  go_wp2_with fail
  go_ret
  exact ⟨rfl, rfl⟩
 ·rw [show widR 192 = (-1 : Int) from rfl]
  go_enter func94, ntmps94
  go_wp2_with fail
  go_ret
  exact ⟨rfl, rfl⟩
 ·rw [show widR 208 = (-1 : Int) from rfl]
  go_enter func94, ntmps94
  go_wp2_with fail
  go_ret
  exact ⟨rfl, rfl⟩
 ·rw [show widR 193 = (-1 : Int) from rfl]
  go_enter func94, ntmps94
  go_wp2_with fail
  go_ret
  exact ⟨rfl, rfl⟩
 ·rw [show widR 209 = (-1 : Int) from rfl]
  go_enter func94, ntmps94
  go_wp2_with fail
  go_ret
  exact ⟨rfl, rfl⟩
 ·rw [show widR 224 = (-1 : Int) from rfl]
  go_enter func94, ntmps94
  go_wp2_with fail
  go_ret
  exact ⟨rfl, rfl⟩
 rw [show widR 240 = (-1 : Int) from rfl]
 go_enter func94, ntmps94
 go_wp2_with fail
 go_ret
 exact ⟨rfl, rfl⟩
theorem wide_mem {c : Nat} (h : 0 <= kindC c) (h1 : 10 <= c / 16) : c = 160 ∨ c = 176 ∨ c = 161 ∨ c = 177 ∨ c = 163 ∨ c = 179 ∨ c = 192 ∨ c = 208 ∨ c = 193 ∨ c = 209 ∨ c = 224 ∨ c = 240 := by
 rcases kindC_mem h (by omega) with rfl | rfl | rfl | rfl | rfl | rfl | rfl | rfl | rfl | rfl | rfl | rfl | rfl | rfl | rfl | rfl | rfl | rfl | rfl | rfl | rfl | rfl | rfl | rfl | rfl | rfl | rfl | rfl | rfl | rfl | rfl | rfl | rfl | rfl | rfl | rfl | rfl | rfl | rfl
 all_goals first | omega | simp at h1
theorem rwide_any (c : Nat) (w : World) (h : 0 <= kindC c) (h1 : 10 <= c / 16) : Calls prog 64 #[.int .i64 (c : Int)] w fun e w' => e = .returned (.int .i64 (wOf c : Nat)) ∧ w = w' := by
 have hm := wide_mem h h1
 clear h h1
 rcases hm with rfl | rfl | rfl | rfl | rfl | rfl | rfl | rfl | rfl | rfl | rfl | rfl
 ·rw [show wOf 160 = 1 from rfl]
  go_enter func64, ntmps64
  go_wp2_with fail
  go_ret
  exact ⟨rfl, rfl⟩
 ·rw [show wOf 176 = 4 from rfl]
  go_enter func64, ntmps64
  go_wp2_with fail
  go_ret
  exact ⟨rfl, rfl⟩
 ·rw [show wOf 161 = 1 from rfl]
  go_enter func64, ntmps64
  go_wp2_with fail
  go_ret
  exact ⟨rfl, rfl⟩
 ·rw [show wOf 177 = 4 from rfl]
  go_enter func64, ntmps64
  go_wp2_with fail
  go_ret
  exact ⟨rfl, rfl⟩
 ·rw [show wOf 163 = 1 from rfl]
  go_enter func64, ntmps64
  go_wp2_with fail
  go_ret
  exact ⟨rfl, rfl⟩
 ·rw [show wOf 179 = 4 from rfl]
  go_enter func64, ntmps64
  go_wp2_with fail
  go_ret
  exact ⟨rfl, rfl⟩
 ·rw [show wOf 192 = 1 from rfl]
  go_enter func64, ntmps64
  go_wp2_with fail
  go_ret
  exact ⟨rfl, rfl⟩
 ·rw [show wOf 208 = 4 from rfl]
  go_enter func64, ntmps64
  go_wp2_with fail
  go_ret
  exact ⟨rfl, rfl⟩
 ·rw [show wOf 193 = 1 from rfl]
  go_enter func64, ntmps64
  go_wp2_with fail
  go_ret
  exact ⟨rfl, rfl⟩
 ·rw [show wOf 209 = 4 from rfl]
  go_enter func64, ntmps64
  go_wp2_with fail
  go_ret
  exact ⟨rfl, rfl⟩
 ·rw [show wOf 224 = 1 from rfl]
  go_enter func64, ntmps64
  go_wp2_with fail
  go_ret
  exact ⟨rfl, rfl⟩
 rw [show wOf 240 = 4 from rfl]
 go_enter func64, ntmps64
 go_wp2_with fail
 go_ret
 exact ⟨rfl, rfl⟩
/-! ### kinds and letters -/
def sgnK (k : Int) : Bool := k == 6 || k == 7 || k == 8 || k == 9 || k == 16
theorem rsigned_kind (k : Int) (w : World) : Calls prog 96 #[.int .i64 k] w fun e w' => e = .returned (.bool (sgnK k)) ∧ w = w' := by
 go_enter func96, ntmps96
 go_wp2_with fail
 all_goals
  go_ret
  refine ⟨?_, rfl⟩
  simp [sgnK, *]
theorem rchar_any (n : Nat) (w : World) (hn : n < 18446744073709551616) : Calls prog 133 #[.int .u64 (n : Int)] w fun e w' => e = .returned (.bool (isCh n)) ∧ w = w' := by
 by_cases h1 : n <= 1114111
 ·by_cases h2 : n < 55296
  ·rw [show isCh n = true by unfold isCh; simp; omega]
   have d1 : (n : Int) <= 1114111 := by omega
   have d2 : (n : Int) < 55296 := by omega
   go_enter func133, ntmps133
   go_wp2_with fail
   go_ret
   exact ⟨rfl, rfl⟩
  ·by_cases h3 : 57343 < n
   ·rw [show isCh n = true by unfold isCh; simp; omega]
    have d1 : (n : Int) <= 1114111 := by omega
    have d2 : ¬ (n : Int) < 55296 := by omega
    have d3 : (57343 : Int) < n := by omega
    go_enter func133, ntmps133
    go_wp2_with fail
    go_ret
    exact ⟨rfl, rfl⟩
   ·rw [show isCh n = false by unfold isCh; simp; omega]
    have d1 : (n : Int) <= 1114111 := by omega
    have d2 : ¬ (n : Int) < 55296 := by omega
    have d3 : ¬ (57343 : Int) < n := by omega
    go_enter func133, ntmps133
    go_wp2_with fail
    go_ret
    exact ⟨rfl, rfl⟩
 rw [show isCh n = false by unfold isCh; simp; omega]
 have d1 : ¬ (n : Int) <= 1114111 := by omega
 go_enter func133, ntmps133
 go_wp2_with fail
 go_ret
 exact ⟨rfl, rfl⟩

attribute [local go_sem] Oper.semAt_some

def codesL (k : Nat) : List Nat :=
 match k with
 | 0 => [64]
 | 1 => [65, 66, 86]
 | 2 => [80]
 | 3 => [96]
 | 4 => [67, 82, 112]
 | 5 => [68, 83, 128]
 | 6 => [81]
 | 7 => [97]
 | 8 => [84, 113]
 | 9 => [85, 129]
 | 10 => [114]
 | 11 => [130]
 | 12 => [116]
 | 13 => [132]
 | 14 => [148]
 | 15 => [115]
 | 16 => [131]
 | 17 => [152]
 | 18 => [160, 176]
 | 19 => [161, 177]
 | 20 => [163, 179]
 | 21 => [69, 192, 208]
 | 22 => [193, 209]
 | 23 => [224, 240]
 | 24 => [0]
 | _ => []
def CodesAt (w : World) (b : Nat) (l : List Nat) : Prop := ∀ i, i < l.length -> w.cell? ⟨b, i, none⟩ = some (.int .i64 (l.getD i 0 : Nat))
theorem CodesAt.below {w w' : World} {b : Nat} {l : List Nat} (h : CodesAt w b l) (hb : Below w.heap.size w w') : CodesAt w' b l := fun i hi => bs_cellV hb (h i hi)
theorem codesAt_new (w : World) (cs : List Value) (t : TypeId) (l : List Nat) (h : cs = l.map (fun c => Value.int .i64 (c : Nat))) : CodesAt (w.alloc (.cells cs.toArray t)) w.heap.size l := by
 intro i hi
 subst h
 rw [cell_of_row _ _ i _ _ _ (zN _ _)]
 simp [hi, List.getD_eq_getElem?_getD]
theorem codesL_len (k : Nat) (hk : k <= 24) : (codesL k).length <= 3 := by
 have hm : k = 0 ∨ k = 1 ∨ k = 2 ∨ k = 3 ∨ k = 4 ∨ k = 5 ∨ k = 6 ∨ k = 7 ∨ k = 8 ∨ k = 9 ∨ k = 10 ∨ k = 11 ∨ k = 12 ∨ k = 13 ∨ k = 14 ∨ k = 15 ∨ k = 16 ∨ k = 17 ∨ k = 18 ∨ k = 19 ∨ k = 20 ∨ k = 21 ∨ k = 22 ∨ k = 23 ∨ k = 24 := by omega
 rcases hm with rfl | rfl | rfl | rfl | rfl | rfl | rfl | rfl | rfl | rfl | rfl | rfl | rfl | rfl | rfl | rfl | rfl | rfl | rfl | rfl | rfl | rfl | rfl | rfl | rfl <;> decide
def CodesTo (w : World) (l : List Nat) (e : Ending) (w' : World) : Prop := ∃ b, e = .returned (.slice (some ⟨b, 0, none⟩) l.length l.length) ∧ CodesAt w' b l ∧ Below w.heap.size w w'
theorem rfurther_any (k : Nat) (w : World) (h : 12 <= k) (h2 : k <= 24) : Calls prog 61 #[.int .i64 (k : Int)] w fun e w' => CodesTo w (codesL k) e w' := by
 have hm : k = 12 ∨ k = 13 ∨ k = 14 ∨ k = 15 ∨ k = 16 ∨ k = 17 ∨ k = 18 ∨ k = 19 ∨ k = 20 ∨ k = 21 ∨ k = 22 ∨ k = 23 ∨ k = 24 := by omega
 clear h h2
 rcases hm with rfl | rfl | rfl | rfl | rfl | rfl | rfl | rfl | rfl | rfl | rfl | rfl | rfl
 ·rw [show codesL 12 = [116] from rfl]
  go_enter func61, ntmps61
  go_wp2_with fail
  go_ret
  exact ⟨w.heap.size, rfl, codesAt_new w [.int .i64 116] _ [116] rfl, (Below.refl _ _).alloc (Nat.le_refl _) _⟩
 ·rw [show codesL 13 = [132] from rfl]
  go_enter func61, ntmps61
  go_wp2_with fail
  go_ret
  exact ⟨w.heap.size, rfl, codesAt_new w [.int .i64 132] _ [132] rfl, (Below.refl _ _).alloc (Nat.le_refl _) _⟩
 ·rw [show codesL 14 = [148] from rfl]
  go_enter func61, ntmps61
  go_wp2_with fail
  go_ret
  exact ⟨w.heap.size, rfl, codesAt_new w [.int .i64 148] _ [148] rfl, (Below.refl _ _).alloc (Nat.le_refl _) _⟩
 ·rw [show codesL 15 = [115] from rfl]
  go_enter func61, ntmps61
  go_wp2_with fail
  go_ret
  exact ⟨w.heap.size, rfl, codesAt_new w [.int .i64 115] _ [115] rfl, (Below.refl _ _).alloc (Nat.le_refl _) _⟩
 ·rw [show codesL 16 = [131] from rfl]
  go_enter func61, ntmps61
  go_wp2_with fail
  go_ret
  exact ⟨w.heap.size, rfl, codesAt_new w [.int .i64 131] _ [131] rfl, (Below.refl _ _).alloc (Nat.le_refl _) _⟩
 ·rw [show codesL 17 = [152] from rfl]
  go_enter func61, ntmps61
  go_wp2_with fail
  go_ret
  exact ⟨w.heap.size, rfl, codesAt_new w [.int .i64 152] _ [152] rfl, (Below.refl _ _).alloc (Nat.le_refl _) _⟩
 ·rw [show codesL 18 = [160, 176] from rfl]
  go_enter func61, ntmps61
  go_wp2_with fail
  go_ret
  exact ⟨w.heap.size, rfl, codesAt_new w [.int .i64 160, .int .i64 176] _ [160, 176] rfl, (Below.refl _ _).alloc (Nat.le_refl _) _⟩
 ·rw [show codesL 19 = [161, 177] from rfl]
  go_enter func61, ntmps61
  go_wp2_with fail
  go_ret
  exact ⟨w.heap.size, rfl, codesAt_new w [.int .i64 161, .int .i64 177] _ [161, 177] rfl, (Below.refl _ _).alloc (Nat.le_refl _) _⟩
 ·rw [show codesL 20 = [163, 179] from rfl]
  go_enter func61, ntmps61
  go_wp2_with fail
  go_ret
  exact ⟨w.heap.size, rfl, codesAt_new w [.int .i64 163, .int .i64 179] _ [163, 179] rfl, (Below.refl _ _).alloc (Nat.le_refl _) _⟩
 ·rw [show codesL 21 = [69, 192, 208] from rfl]
  go_enter func61, ntmps61
  go_wp2_with fail
  go_ret
  exact ⟨w.heap.size, rfl, codesAt_new w [.int .i64 69, .int .i64 192, .int .i64 208] _ [69, 192, 208] rfl, (Below.refl _ _).alloc (Nat.le_refl _) _⟩
 ·rw [show codesL 22 = [193, 209] from rfl]
  go_enter func61, ntmps61
  go_wp2_with fail
  go_ret
  exact ⟨w.heap.size, rfl, codesAt_new w [.int .i64 193, .int .i64 209] _ [193, 209] rfl, (Below.refl _ _).alloc (Nat.le_refl _) _⟩
 ·rw [show codesL 23 = [224, 240] from rfl]
  go_enter func61, ntmps61
  go_wp2_with fail
  go_ret
  exact ⟨w.heap.size, rfl, codesAt_new w [.int .i64 224, .int .i64 240] _ [224, 240] rfl, (Below.refl _ _).alloc (Nat.le_refl _) _⟩
 rw [show codesL 24 = [0] from rfl]
 go_enter func61, ntmps61
 go_wp2_with fail
 go_ret
 exact ⟨w.heap.size, rfl, codesAt_new w [.int .i64 0] _ [0] rfl, (Below.refl _ _).alloc (Nat.le_refl _) _⟩
theorem rcodes_any (k : Nat) (w : World) (h2 : k <= 24) : Calls prog 45 #[.int .i64 (k : Int)] w fun e w' => CodesTo w (codesL k) e w' := by
 have hm : k = 0 ∨ k = 1 ∨ k = 2 ∨ k = 3 ∨ k = 4 ∨ k = 5 ∨ k = 6 ∨ k = 7 ∨ k = 8 ∨ k = 9 ∨ k = 10 ∨ k = 11 ∨ k = 12 ∨ k = 13 ∨ k = 14 ∨ k = 15 ∨ k = 16 ∨ k = 17 ∨ k = 18 ∨ k = 19 ∨ k = 20 ∨ k = 21 ∨ k = 22 ∨ k = 23 ∨ k = 24 := by omega
 clear h2
 rcases hm with rfl | rfl | rfl | rfl | rfl | rfl | rfl | rfl | rfl | rfl | rfl | rfl | rfl | rfl | rfl | rfl | rfl | rfl | rfl | rfl | rfl | rfl | rfl | rfl | rfl
 ·rw [show codesL 0 = [64] from rfl]
  go_enter func45, ntmps45
  go_wp2_with fail
  go_ret
  exact ⟨w.heap.size, rfl, codesAt_new w [.int .i64 64] _ [64] rfl, (Below.refl _ _).alloc (Nat.le_refl _) _⟩
 ·rw [show codesL 1 = [65, 66, 86] from rfl]
  go_enter func45, ntmps45
  go_wp2_with fail
  go_ret
  exact ⟨w.heap.size, rfl, codesAt_new w [.int .i64 65, .int .i64 66, .int .i64 86] _ [65, 66, 86] rfl, (Below.refl _ _).alloc (Nat.le_refl _) _⟩
 ·rw [show codesL 2 = [80] from rfl]
  go_enter func45, ntmps45
  go_wp2_with fail
  go_ret
  exact ⟨w.heap.size, rfl, codesAt_new w [.int .i64 80] _ [80] rfl, (Below.refl _ _).alloc (Nat.le_refl _) _⟩
 ·rw [show codesL 3 = [96] from rfl]
  go_enter func45, ntmps45
  go_wp2_with fail
  go_ret
  exact ⟨w.heap.size, rfl, codesAt_new w [.int .i64 96] _ [96] rfl, (Below.refl _ _).alloc (Nat.le_refl _) _⟩
 ·rw [show codesL 4 = [67, 82, 112] from rfl]
  go_enter func45, ntmps45
  go_wp2_with fail
  go_ret
  exact ⟨w.heap.size, rfl, codesAt_new w [.int .i64 67, .int .i64 82, .int .i64 112] _ [67, 82, 112] rfl, (Below.refl _ _).alloc (Nat.le_refl _) _⟩
 ·rw [show codesL 5 = [68, 83, 128] from rfl]
  go_enter func45, ntmps45
  go_wp2_with fail
  go_ret
  exact ⟨w.heap.size, rfl, codesAt_new w [.int .i64 68, .int .i64 83, .int .i64 128] _ [68, 83, 128] rfl, (Below.refl _ _).alloc (Nat.le_refl _) _⟩
 ·rw [show codesL 6 = [81] from rfl]
  go_enter func45, ntmps45
  go_wp2_with fail
  go_ret
  exact ⟨w.heap.size, rfl, codesAt_new w [.int .i64 81] _ [81] rfl, (Below.refl _ _).alloc (Nat.le_refl _) _⟩
 ·rw [show codesL 7 = [97] from rfl]
  go_enter func45, ntmps45
  go_wp2_with fail
  go_ret
  exact ⟨w.heap.size, rfl, codesAt_new w [.int .i64 97] _ [97] rfl, (Below.refl _ _).alloc (Nat.le_refl _) _⟩
 ·rw [show codesL 8 = [84, 113] from rfl]
  go_enter func45, ntmps45
  go_wp2_with fail
  go_ret
  exact ⟨w.heap.size, rfl, codesAt_new w [.int .i64 84, .int .i64 113] _ [84, 113] rfl, (Below.refl _ _).alloc (Nat.le_refl _) _⟩
 ·rw [show codesL 9 = [85, 129] from rfl]
  go_enter func45, ntmps45
  go_wp2_with fail
  go_ret
  exact ⟨w.heap.size, rfl, codesAt_new w [.int .i64 85, .int .i64 129] _ [85, 129] rfl, (Below.refl _ _).alloc (Nat.le_refl _) _⟩
 ·rw [show codesL 10 = [114] from rfl]
  go_enter func45, ntmps45
  go_wp2_with fail
  go_ret
  exact ⟨w.heap.size, rfl, codesAt_new w [.int .i64 114] _ [114] rfl, (Below.refl _ _).alloc (Nat.le_refl _) _⟩
 ·rw [show codesL 11 = [130] from rfl]
  go_enter func45, ntmps45
  go_wp2_with fail
  go_ret
  exact ⟨w.heap.size, rfl, codesAt_new w [.int .i64 130] _ [130] rfl, (Below.refl _ _).alloc (Nat.le_refl _) _⟩
 ·have HC := zH (rfurther_any 12 w (by decide) (by decide))
  generalize codesL 12 = l at *
  go_enter func45, ntmps45
  go_wp2_with fail
  refine HC.out.mono ?_
  rintro e w1 ⟨b, rfl, ha, hb⟩
  have H1 := zH (And.intro ha hb)
  clear ha hb
  go_wp2_with fail
  go_ret
  exact ⟨b, rfl, H1.out.1, H1.out.2⟩
 ·have HC := zH (rfurther_any 13 w (by decide) (by decide))
  generalize codesL 13 = l at *
  go_enter func45, ntmps45
  go_wp2_with fail
  refine HC.out.mono ?_
  rintro e w1 ⟨b, rfl, ha, hb⟩
  have H1 := zH (And.intro ha hb)
  clear ha hb
  go_wp2_with fail
  go_ret
  exact ⟨b, rfl, H1.out.1, H1.out.2⟩
 ·have HC := zH (rfurther_any 14 w (by decide) (by decide))
  generalize codesL 14 = l at *
  go_enter func45, ntmps45
  go_wp2_with fail
  refine HC.out.mono ?_
  rintro e w1 ⟨b, rfl, ha, hb⟩
  have H1 := zH (And.intro ha hb)
  clear ha hb
  go_wp2_with fail
  go_ret
  exact ⟨b, rfl, H1.out.1, H1.out.2⟩
 ·have HC := zH (rfurther_any 15 w (by decide) (by decide))
  generalize codesL 15 = l at *
  go_enter func45, ntmps45
  go_wp2_with fail
  refine HC.out.mono ?_
  rintro e w1 ⟨b, rfl, ha, hb⟩
  have H1 := zH (And.intro ha hb)
  clear ha hb
  go_wp2_with fail
  go_ret
  exact ⟨b, rfl, H1.out.1, H1.out.2⟩
 ·have HC := zH (rfurther_any 16 w (by decide) (by decide))
  generalize codesL 16 = l at *
  go_enter func45, ntmps45
  go_wp2_with fail
  refine HC.out.mono ?_
  rintro e w1 ⟨b, rfl, ha, hb⟩
  have H1 := zH (And.intro ha hb)
  clear ha hb
  go_wp2_with fail
  go_ret
  exact ⟨b, rfl, H1.out.1, H1.out.2⟩
 ·have HC := zH (rfurther_any 17 w (by decide) (by decide))
  generalize codesL 17 = l at *
  go_enter func45, ntmps45
  go_wp2_with fail
  refine HC.out.mono ?_
  rintro e w1 ⟨b, rfl, ha, hb⟩
  have H1 := zH (And.intro ha hb)
  clear ha hb
  go_wp2_with fail
  go_ret
  exact ⟨b, rfl, H1.out.1, H1.out.2⟩
 ·have HC := zH (rfurther_any 18 w (by decide) (by decide))
  generalize codesL 18 = l at *
  go_enter func45, ntmps45
  go_wp2_with fail
  refine HC.out.mono ?_
  rintro e w1 ⟨b, rfl, ha, hb⟩
  have H1 := zH (And.intro ha hb)
  clear ha hb
  go_wp2_with fail
  go_ret
  exact ⟨b, rfl, H1.out.1, H1.out.2⟩
 ·have HC := zH (rfurther_any 19 w (by decide) (by decide))
  generalize codesL 19 = l at *
  go_enter func45, ntmps45
  go_wp2_with fail
  refine HC.out.mono ?_
  rintro e w1 ⟨b, rfl, ha, hb⟩
  have H1 := zH (And.intro ha hb)
  clear ha hb
  go_wp2_with fail
  go_ret
  exact ⟨b, rfl, H1.out.1, H1.out.2⟩
 ·have HC := zH (rfurther_any 20 w (by decide) (by decide))
  generalize codesL 20 = l at *
  go_enter func45, ntmps45
  go_wp2_with fail
  refine HC.out.mono ?_
  rintro e w1 ⟨b, rfl, ha, hb⟩
  have H1 := zH (And.intro ha hb)
  clear ha hb
  go_wp2_with fail
  go_ret
  exact ⟨b, rfl, H1.out.1, H1.out.2⟩
 ·have HC := zH (rfurther_any 21 w (by decide) (by decide))
  generalize codesL 21 = l at *
  go_enter func45, ntmps45
  go_wp2_with fail
  refine HC.out.mono ?_
  rintro e w1 ⟨b, rfl, ha, hb⟩
  have H1 := zH (And.intro ha hb)
  clear ha hb
  go_wp2_with fail
  go_ret
  exact ⟨b, rfl, H1.out.1, H1.out.2⟩
 ·have HC := zH (rfurther_any 22 w (by decide) (by decide))
  generalize codesL 22 = l at *
  go_enter func45, ntmps45
  go_wp2_with fail
  refine HC.out.mono ?_
  rintro e w1 ⟨b, rfl, ha, hb⟩
  have H1 := zH (And.intro ha hb)
  clear ha hb
  go_wp2_with fail
  go_ret
  exact ⟨b, rfl, H1.out.1, H1.out.2⟩
 ·have HC := zH (rfurther_any 23 w (by decide) (by decide))
  generalize codesL 23 = l at *
  go_enter func45, ntmps45
  go_wp2_with fail
  refine HC.out.mono ?_
  rintro e w1 ⟨b, rfl, ha, hb⟩
  have H1 := zH (And.intro ha hb)
  clear ha hb
  go_wp2_with fail
  go_ret
  exact ⟨b, rfl, H1.out.1, H1.out.2⟩
 have HC := zH (rfurther_any 24 w (by decide) (by decide))
 generalize codesL 24 = l at *
 go_enter func45, ntmps45
 go_wp2_with fail
 refine HC.out.mono ?_
 rintro e w1 ⟨b, rfl, ha, hb⟩
 have H1 := zH (And.intro ha hb)
 clear ha hb
 go_wp2_with fail
 go_ret
 exact ⟨b, rfl, H1.out.1, H1.out.2⟩
/-! ### the kind of a constructor -/
theorem codes_kind (k : Nat) (hk : k <= 24) (c : Nat) (hc : c ∈ codesL k) : kindC c = k := by
 have hm : k = 0 ∨ k = 1 ∨ k = 2 ∨ k = 3 ∨ k = 4 ∨ k = 5 ∨ k = 6 ∨ k = 7 ∨ k = 8 ∨ k = 9 ∨ k = 10 ∨ k = 11 ∨ k = 12 ∨ k = 13 ∨ k = 14 ∨ k = 15 ∨ k = 16 ∨ k = 17 ∨ k = 18 ∨ k = 19 ∨ k = 20 ∨ k = 21 ∨ k = 22 ∨ k = 23 ∨ k = 24 := by omega
 rcases hm with rfl | rfl | rfl | rfl | rfl | rfl | rfl | rfl | rfl | rfl | rfl | rfl | rfl | rfl | rfl | rfl | rfl | rfl | rfl | rfl | rfl | rfl | rfl | rfl | rfl
 all_goals
  simp only [codesL, List.mem_cons, List.not_mem_nil, or_false] at hc
  first
   | (subst hc; rfl)
   | (rcases hc with rfl | rfl <;> rfl)
   | (rcases hc with rfl | rfl | rfl <;> rfl)
theorem kind_codes (c : Nat) (h : 0 <= kindC c) : ∃ k, k <= 24 ∧ c ∈ codesL k := by
 by_cases h0 : c = 0
 ·exact ⟨24, by decide, by subst h0; decide⟩
 rcases kindC_mem h h0 with rfl | rfl | rfl | rfl | rfl | rfl | rfl | rfl | rfl | rfl | rfl | rfl | rfl | rfl | rfl | rfl | rfl | rfl | rfl | rfl | rfl | rfl | rfl | rfl | rfl | rfl | rfl | rfl | rfl | rfl | rfl | rfl | rfl | rfl | rfl | rfl | rfl | rfl | rfl
 ·exact ⟨0, by decide, by decide⟩
 ·exact ⟨1, by decide, by decide⟩
 ·exact ⟨1, by decide, by decide⟩
 ·exact ⟨1, by decide, by decide⟩
 ·exact ⟨2, by decide, by decide⟩
 ·exact ⟨3, by decide, by decide⟩
 ·exact ⟨4, by decide, by decide⟩
 ·exact ⟨4, by decide, by decide⟩
 ·exact ⟨4, by decide, by decide⟩
 ·exact ⟨5, by decide, by decide⟩
 ·exact ⟨5, by decide, by decide⟩
 ·exact ⟨5, by decide, by decide⟩
 ·exact ⟨6, by decide, by decide⟩
 ·exact ⟨7, by decide, by decide⟩
 ·exact ⟨8, by decide, by decide⟩
 ·exact ⟨8, by decide, by decide⟩
 ·exact ⟨9, by decide, by decide⟩
 ·exact ⟨9, by decide, by decide⟩
 ·exact ⟨10, by decide, by decide⟩
 ·exact ⟨11, by decide, by decide⟩
 ·exact ⟨12, by decide, by decide⟩
 ·exact ⟨13, by decide, by decide⟩
 ·exact ⟨14, by decide, by decide⟩
 ·exact ⟨15, by decide, by decide⟩
 ·exact ⟨16, by decide, by decide⟩
 ·exact ⟨17, by decide, by decide⟩
 ·exact ⟨18, by decide, by decide⟩
 ·exact ⟨18, by decide, by decide⟩
 ·exact ⟨19, by decide, by decide⟩
 ·exact ⟨19, by decide, by decide⟩
 ·exact ⟨20, by decide, by decide⟩
 ·exact ⟨20, by decide, by decide⟩
 ·exact ⟨21, by decide, by decide⟩
 ·exact ⟨21, by decide, by decide⟩
 ·exact ⟨21, by decide, by decide⟩
 ·exact ⟨22, by decide, by decide⟩
 ·exact ⟨22, by decide, by decide⟩
 ·exact ⟨23, by decide, by decide⟩
 exact ⟨23, by decide, by decide⟩
theorem rkind_any (c : Nat) (w : World) (hc : c < 256) : Calls prog 86 #[.int .i64 (c : Int)] w fun e w' => e = .returned (.int .i64 (kindC c)) ∧ Below w.heap.size w w' := by
 have HC := zH rcodes_any
 go_enter func86, ntmps86
 go_wp2_with fail
 go_loopw [3] (fun v3 wr => ∃ k : Nat, k <= 25 ∧ v3 = .int .i64 k ∧ (∀ j, j < k -> c ∉ codesL j) ∧ Below w.heap.size w wr) (fun v3 _ => 25 - (intOf v3).toNat)
 case atStart => exact ⟨0, by omega, rfl, fun j hj => by omega, Below.refl _ _⟩
 obtain ⟨k, hk, rfl, hno, hbw⟩ := hrel
 have HR := zH (And.intro hno hbw)
 clear hno hbw
 by_cases hlt : k < 25
 ·have hlt2 : (k : Int) <= 24 := by omega
  have hcc := HC.out k wr (by omega)
  have HK := zH (fun hh => codes_kind k (by omega) c hh)
  have hl3 := codesL_len k (by omega)
  have HS := zH (show c ∉ codesL k -> ∀ j, j < k + 1 -> c ∉ codesL j from fun q j hj => by
   by_cases e : j = k
   ·subst e; exact q
   ·exact HR.out.1 j (by omega))
  generalize codesL k = l at hcc HK hl3 HS
  have HCC := zH hcc
  clear hcc
  go_wp2_with fail
  refine HCC.out.mono ?_
  rintro e w1 ⟨b, rfl, ha, hb1⟩
  have H1 := zH (And.intro ha (HR.out.2.trans (hb1.mono HR.out.2.size)))
  obtain ⟨N, hN⟩ : ∃ N, l.length = N := ⟨_, rfl⟩
  rw [hN] at hl3 ⊢
  have HN := zH hN
  clear ha hb1 hN HCC
  go_wp2_with fail
  go_loopw [5] (fun v5 wq => ∃ i : Nat, i <= N ∧ v5 = .int .i64 i ∧ (∀ j, j < i -> l.getD j 0 ≠ c) ∧ wq = w1) (fun v5 _ => N - (intOf v5).toNat)
  case atStart => exact ⟨0, by omega, rfl, fun j hj => by omega, rfl⟩
  case round =>
   obtain ⟨i, hi, rfl, hne, rfl⟩ := hrel
   have HI := zH hne
   clear hne
   by_cases hiN : i < N
   ·have hiN2 : (i : Int) < N := by omega
    have x0 := H1.out.1 i (by rw [HN.out]; exact hiN)
    have HX := zH (show l.getD i 0 ∈ l from by rw [List.getD_eq_getElem?_getD, List.getElem?_eq_getElem (by rw [HN.out]; exact hiN)]; exact List.getElem_mem _)
    have HJ := zH (show ∀ j, j < i + 1 -> l.getD i 0 ≠ c -> l.getD j 0 ≠ c from fun j hj q => by
     by_cases e : j = i
     ·subst e; exact q
     ·exact HI.out j (by omega))
    obtain ⟨x, hx⟩ : ∃ x, l.getD i 0 = x := ⟨_, rfl⟩
    rw [hx] at x0 HX HJ
    clear hx
    by_cases hxc : x = c
    ·have hxc_t : ((x : Int) == (c : Int)) = true := by simp [hxc]
     have HE := zH (HK.out (hxc ▸ HX.out))
     clear hxc
     go_wp2_with fail
     go_ret
     exact ⟨(by rw [HE.out]; rfl), H1.out.2⟩
    ·have hxc_t : ((x : Int) == (c : Int)) = false := by simp; omega
     have HE := zH hxc
     clear hxc
     go_wp2_with fail
     go_roundw
     case rel => exact ⟨i + 1, by omega, by go_num, fun j hj => HJ.out j hj HE.out, by first | trivial | rfl⟩
     case measure => simp [intOf]; omega
   ·obtain rfl : N = i := by omega
    have HE := zH (show c ∉ l from fun q => by
     obtain ⟨j, hj, e⟩ := List.mem_iff_getElem.1 q
     exact HI.out j (by rw [← HN.out]; exact hj) (by rw [List.getD_eq_getElem?_getD, List.getElem?_eq_getElem hj]; exact e))
    go_wp2_with fail
    go_roundw
    case rel => exact ⟨k + 1, by omega, by go_num, HS.out HE.out, H1.out.2⟩
    case measure => simp [intOf]; omega
 have hlt2 : ¬ (k : Int) <= 24 := by omega
 have HE := zH (show kindC c = -1 from by
  by_cases h : 0 <= kindC c
  ·obtain ⟨j, hj, hcj⟩ := kind_codes c h
   exact absurd hcj (HR.out.1 j (by omega))
  ·unfold kindC at h ⊢
   repeat' split at h
   all_goals first | omega | (exfalso; revert h; decide) | simp [*])
 go_wp2_with fail
 go_ret
 exact ⟨(by rw [HE.out]; rfl), HR.out.2⟩

attribute [local go_sem] Oper.semAt_some

theorem narrow_any (v : V) (w : World) (s : Value) (h : VIn w v s) :
  Calls prog 55 #[.agg #[.int .i64 v.kind, .int .u64 v.num, .string v.text, s, .int .i64 v.elem]] w fun e w' => e = .returned (.bool (narrowV v)) ∧ Below w.heap.size w w' := by
 have e := wrap_twoC h.wf.n
 have HE := zH e
 obtain ⟨n0, n1⟩ := h.wf.n
 clear h e
 go_enter func55, ntmps55
 go_upto_region 1 with fail
 have hb0 : Below w.heap.size w (w.alloc (.cells #[.int .i64 v.kind, .int .u64 v.num, .string v.text, s, .int .i64 v.elem] 25)) := ((Below.refl _ _).alloc (Nat.le_refl _) _)
 have ox := zN w (.cells #[.int .i64 v.kind, .int .u64 v.num, .string v.text, s, .int .i64 v.elem] 25)
 generalize (w.alloc (.cells #[.int .i64 v.kind, .int .u64 v.num, .string v.text, s, .int .i64 v.elem] 25)) = w0 at *
 obtain ⟨x, hx⟩ : ∃ x, w.heap.size = x := ⟨_, rfl⟩
 rw [hx] at ox ⊢
 have HB0 := zH hb0
 have x0 : w0.cell? ⟨x, 0, none⟩ = some (.int .i64 v.kind) := (cell_of_row _ _ 0 _ _ _ ox).trans rfl
 have x1 : w0.cell? ⟨x, 1, none⟩ = some (.int .u64 v.num) := (cell_of_row _ _ 1 _ _ _ ox).trans rfl
 have x2 : w0.cell? ⟨x, 2, none⟩ = some (.string v.text) := (cell_of_row _ _ 2 _ _ _ ox).trans rfl
 have HX := zH hx
 have HOX := zH ox
 clear hb0 ox hx
 go_wp2_with fail
 all_goals
  go_ret
  refine ⟨ret_boolV ?_, HB0.out⟩
  unfold narrowV
  have e := HE.out
  simp_all
  try omega
def OneK (k : Int) : Prop := k = 1 ∨ k = 2 ∨ k = 3 ∨ k = 6 ∨ k = 7 ∨ k = 10 ∨ k = 11 ∨ k = 12 ∨ k = 13 ∨ k = 15 ∨ k = 16
theorem plain_one (k : Int) (w : World) (h : OneK k) :
  Calls prog 76 #[.int .i64 k] w fun e w' => (∃ m : Int, e = .returned (.tuple #[.int .u8 (codeK k true : Nat), .int .i64 m]) ∧ 0 < m) ∧ w = w' := by
 unfold OneK at h
 rcases h with rfl | rfl | rfl | rfl | rfl | rfl | rfl | rfl | rfl | rfl | rfl
 ·have e : codeK 1 true = 86 := rfl
  rw [e]
  clear e
  go_enter func76, ntmps76
  go_wp2_with fail
  go_ret2
  exact ⟨⟨1, rfl, by omega⟩, rfl⟩
 ·have e : codeK 2 true = 80 := rfl
  rw [e]
  clear e
  go_enter func76, ntmps76
  go_wp2_with fail
  go_ret2
  exact ⟨⟨1, rfl, by omega⟩, rfl⟩
 ·have e : codeK 3 true = 96 := rfl
  rw [e]
  clear e
  go_enter func76, ntmps76
  go_wp2_with fail
  go_ret2
  exact ⟨⟨2, rfl, by omega⟩, rfl⟩
 ·have e : codeK 6 true = 81 := rfl
  rw [e]
  clear e
  go_enter func76, ntmps76
  go_wp2_with fail
  go_ret2
  exact ⟨⟨1, rfl, by omega⟩, rfl⟩
 ·have e : codeK 7 true = 97 := rfl
  rw [e]
  clear e
  go_enter func76, ntmps76
  go_wp2_with fail
  go_ret2
  exact ⟨⟨2, rfl, by omega⟩, rfl⟩
 ·have e : codeK 10 true = 114 := rfl
  rw [e]
  clear e
  go_enter func76, ntmps76
  go_wp2_with fail
  go_ret2
  exact ⟨⟨4, rfl, by omega⟩, rfl⟩
 ·have e : codeK 11 true = 130 := rfl
  rw [e]
  clear e
  go_enter func76, ntmps76
  go_wp2_with fail
  go_ret2
  exact ⟨⟨8, rfl, by omega⟩, rfl⟩
 ·have e : codeK 12 true = 116 := rfl
  rw [e]
  clear e
  go_enter func76, ntmps76
  go_wp2_with fail
  go_ret2
  exact ⟨⟨4, rfl, by omega⟩, rfl⟩
 ·have e : codeK 13 true = 132 := rfl
  rw [e]
  clear e
  go_enter func76, ntmps76
  go_wp2_with fail
  go_ret2
  exact ⟨⟨8, rfl, by omega⟩, rfl⟩
 ·have e : codeK 15 true = 115 := rfl
  rw [e]
  clear e
  go_enter func76, ntmps76
  go_wp2_with fail
  go_ret2
  exact ⟨⟨4, rfl, by omega⟩, rfl⟩
 have e : codeK 16 true = 131 := rfl
 rw [e]
 clear e
 go_enter func76, ntmps76
 go_wp2_with fail
 go_ret2
 exact ⟨⟨8, rfl, by omega⟩, rfl⟩
theorem plain_none (k : Int) (w : World) (h : ¬ OneK k) :
  Calls prog 76 #[.int .i64 k] w fun e w' => e = .returned (.tuple #[.int .u8 0, .int .i64 0]) ∧ w = w' := by
 unfold OneK at h
 simp only [not_or] at h
 obtain ⟨h1, h2, h3, h6, h7, h10, h11, h12, h13, h15, h16⟩ := h
 go_enter func76, ntmps76
 go_wp2_with fail
 go_ret2
 exact ⟨rfl, rfl⟩
theorem pick_any (a b : Int) (q : Nat) (u : Bool) (w : World) (h : w.cell? ⟨q, 0, none⟩ = some (.bool u)) :
  Calls prog 77 #[.int .u8 a, .int .u8 b, .pointer (some ⟨q, 0, none⟩)] w fun e w' => e = .returned (.int .u8 (if u then a else b)) ∧ w = w' := by
 cases u
 all_goals
  go_enter func77, ntmps77
  go_wp2_with fail
  go_ret
  exact ⟨rfl, rfl⟩
theorem code_any (k : Int) (u : Bool) (w : World) :
  Calls prog 52 #[.int .i64 k, .bool u] w fun e w' => e = .returned (.int .u8 (codeK k u : Nat)) ∧ Below w.heap.size w w' := by
 have hmf : ∀ (fn : Fn) (first cap : Array Value) (w : World), (Instr.makeFunc fn first cap).run prog w = .ok (.func fn first cap) w := fun _ _ _ _ => rfl
 obtain ⟨D, hD⟩ : ∃ D, codeK k u = D := ⟨_, rfl⟩
 rw [hD]
 have HD := zH hD
 clear hD
 go_enter func52, ntmps52
 go_upto_region 1 with fail
 have hb0 : Below w.heap.size w (w.alloc (.cells #[.bool u] 4)) := ((Below.refl _ _).alloc (Nat.le_refl _) _)
 have ox := zN w (.cells #[.bool u] 4)
 generalize (w.alloc (.cells #[.bool u] 4)) = w0 at *
 obtain ⟨x, hx⟩ : ∃ x, w.heap.size = x := ⟨_, rfl⟩
 rw [hx] at ox ⊢
 have HB0 := zH hb0
 have hp := fun a b => pick_any a b x u w0 ((cell_of_row _ _ 0 _ _ _ ox).trans rfl)
 have HP := zH hp
 clear hb0 ox hx hp
 by_cases h : OneK k
 ·have hc := plain_one k w0 h
  have e : codeK k true = codeK k u := by unfold OneK at h; rcases h with rfl | rfl | rfl | rfl | rfl | rfl | rfl | rfl | rfl | rfl | rfl <;> rfl
  rw [e, HD.out] at hc
  have HC := zH hc
  clear h hc e
  go_wp2_with fail
  refine HC.out.mono ?_
  rintro e w1 ⟨⟨m, rfl, hm⟩, rfl⟩
  go_wp2_with fail
  go_ret
  exact ⟨rfl, HB0.out⟩
 have hc := plain_none k w0 h
 have HC := zH hc
 have HO := zH h
 clear h hc
 go_wp2_with fail
 refine HC.out.mono ?_
 rintro e w1 ⟨rfl, rfl⟩
 by_cases e4 : k = 4
 ·have hD := HD.out
  rw [e4] at hD
  clear HD HO
  have hD2 : (D : Int) = if u = true then (82 : Int) else (112 : Int) := by rw [← hD]; cases u <;> rfl
  have HD2 := zH hD2
  clear hD hD2
  go_wp2_with fail
  refine (HP.out 82 112).mono ?_
  rintro e w1 ⟨rfl, rfl⟩
  rw [← HD2.out]
  clear HD2
  go_wp2_with fail
  go_ret
  exact ⟨rfl, HB0.out⟩
 by_cases e5 : k = 5
 ·have hD := HD.out
  rw [e5] at hD
  clear HD HO
  have hD2 : (D : Int) = if u = true then (83 : Int) else (128 : Int) := by rw [← hD]; cases u <;> rfl
  have HD2 := zH hD2
  clear hD hD2
  go_wp2_with fail
  refine (HP.out 83 128).mono ?_
  rintro e w1 ⟨rfl, rfl⟩
  rw [← HD2.out]
  clear HD2
  go_wp2_with fail
  go_ret
  exact ⟨rfl, HB0.out⟩
 by_cases e8 : k = 8
 ·have hD := HD.out
  rw [e8] at hD
  clear HD HO
  have hD2 : (D : Int) = if u = true then (84 : Int) else (113 : Int) := by rw [← hD]; cases u <;> rfl
  have HD2 := zH hD2
  clear hD hD2
  go_wp2_with fail
  refine (HP.out 84 113).mono ?_
  rintro e w1 ⟨rfl, rfl⟩
  rw [← HD2.out]
  clear HD2
  go_wp2_with fail
  go_ret
  exact ⟨rfl, HB0.out⟩
 by_cases e9 : k = 9
 ·have hD := HD.out
  rw [e9] at hD
  clear HD HO
  have hD2 : (D : Int) = if u = true then (85 : Int) else (129 : Int) := by rw [← hD]; cases u <;> rfl
  have HD2 := zH hD2
  clear hD hD2
  go_wp2_with fail
  refine (HP.out 85 129).mono ?_
  rintro e w1 ⟨rfl, rfl⟩
  rw [← HD2.out]
  clear HD2
  go_wp2_with fail
  go_ret
  exact ⟨rfl, HB0.out⟩
 by_cases e14 : k = 14
 ·have hD := HD.out
  rw [e14] at hD
  clear HD HO
  have hD2 : (D : Int) = 148 := by rw [← hD]; rfl
  have HD2 := zH hD2
  clear hD hD2
  go_wp2_with fail
  rw [HD2.out]
  go_ret
  exact ⟨rfl, HB0.out⟩
 by_cases e17 : k = 17
 ·have hD := HD.out
  rw [e17] at hD
  clear HD HO
  have hD2 : (D : Int) = 152 := by rw [← hD]; rfl
  have HD2 := zH hD2
  clear hD hD2
  go_wp2_with fail
  rw [HD2.out]
  go_ret
  exact ⟨rfl, HB0.out⟩
 by_cases e18 : k = 18
 ·have hD := HD.out
  rw [e18] at hD
  clear HD HO
  have hD2 : (D : Int) = if u = true then (160 : Int) else (176 : Int) := by rw [← hD]; cases u <;> rfl
  have HD2 := zH hD2
  clear hD hD2
  go_wp2_with fail
  refine (HP.out 160 176).mono ?_
  rintro e w1 ⟨rfl, rfl⟩
  rw [← HD2.out]
  clear HD2
  go_wp2_with fail
  go_ret
  exact ⟨rfl, HB0.out⟩
 by_cases e19 : k = 19
 ·have hD := HD.out
  rw [e19] at hD
  clear HD HO
  have hD2 : (D : Int) = if u = true then (161 : Int) else (177 : Int) := by rw [← hD]; cases u <;> rfl
  have HD2 := zH hD2
  clear hD hD2
  go_wp2_with fail
  refine (HP.out 161 177).mono ?_
  rintro e w1 ⟨rfl, rfl⟩
  rw [← HD2.out]
  clear HD2
  go_wp2_with fail
  go_ret
  exact ⟨rfl, HB0.out⟩
 by_cases e20 : k = 20
 ·have hD := HD.out
  rw [e20] at hD
  clear HD HO
  have hD2 : (D : Int) = if u = true then (163 : Int) else (179 : Int) := by rw [← hD]; cases u <;> rfl
  have HD2 := zH hD2
  clear hD hD2
  go_wp2_with fail
  refine (HP.out 163 179).mono ?_
  rintro e w1 ⟨rfl, rfl⟩
  rw [← HD2.out]
  clear HD2
  go_wp2_with fail
  go_ret
  exact ⟨rfl, HB0.out⟩
 by_cases e21 : k = 21
 ·have hD := HD.out
  rw [e21] at hD
  clear HD HO
  have hD2 : (D : Int) = if u = true then (192 : Int) else (208 : Int) := by rw [← hD]; cases u <;> rfl
  have HD2 := zH hD2
  clear hD hD2
  go_wp2_with fail
  refine (HP.out 192 208).mono ?_
  rintro e w1 ⟨rfl, rfl⟩
  rw [← HD2.out]
  clear HD2
  go_wp2_with fail
  go_ret
  exact ⟨rfl, HB0.out⟩
 by_cases e22 : k = 22
 ·have hD := HD.out
  rw [e22] at hD
  clear HD HO
  have hD2 : (D : Int) = if u = true then (193 : Int) else (209 : Int) := by rw [← hD]; cases u <;> rfl
  have HD2 := zH hD2
  clear hD hD2
  go_wp2_with fail
  refine (HP.out 193 209).mono ?_
  rintro e w1 ⟨rfl, rfl⟩
  rw [← HD2.out]
  clear HD2
  go_wp2_with fail
  go_ret
  exact ⟨rfl, HB0.out⟩
 have hD2 : (D : Int) = if u = true then (224 : Int) else (240 : Int) := by
  rw [← HD.out]
  have hn := HO.out
  unfold OneK at hn
  simp only [not_or] at hn
  obtain ⟨h1, h2, h3, h6, h7, h10, h11, h12, h13, h15, h16⟩ := hn
  unfold codeK
  rw [if_neg h1, if_neg h2, if_neg h3, if_neg h6, if_neg h7, if_neg h10, if_neg h11, if_neg h12, if_neg h13, if_neg h15, if_neg h16, if_neg e4, if_neg e5, if_neg e8, if_neg e9, if_neg e14, if_neg e17, if_neg e18, if_neg e19, if_neg e20, if_neg e21, if_neg e22]
  cases u <;> rfl
 have HD2 := zH hD2
 clear hD2 HD HO
 go_wp2_with fail
 refine (HP.out 224 240).mono ?_
 rintro e w1 ⟨rfl, rfl⟩
 rw [← HD2.out]
 clear HD2
 go_wp2_with fail
 go_ret
 exact ⟨rfl, HB0.out⟩
theorem width_any (c : Nat) (w : World) (hc : c < 256) :
  Calls prog 79 #[.int .u8 (c : Int)] w fun e w' => e = .returned (.int .i64 (widC c : Nat)) ∧ w = w' := by
 obtain ⟨D, hD⟩ : ∃ D, widC c = D := ⟨_, rfl⟩
 rw [hD]
 unfold widC at hD
 go_enter func79, ntmps79
 have HD := zH hD
 clear hD
 by_cases e5 : (c : Int) / 16 = 5
 ·have hD := HD.out
  rw [if_pos (by omega)] at hD
  subst hD
  clear HD
  go_wp2_with fail
  go_ret
  exact ⟨rfl, rfl⟩
 by_cases e6 : (c : Int) / 16 = 6
 ·have hD := HD.out
  rw [if_neg (by omega), if_pos (by omega)] at hD
  subst hD
  clear HD
  go_wp2_with fail
  go_ret
  exact ⟨rfl, rfl⟩
 by_cases e7 : (c : Int) / 16 = 7
 ·have hD := HD.out
  rw [if_neg (by omega), if_neg (by omega), if_pos (by omega)] at hD
  subst hD
  clear HD
  go_wp2_with fail
  go_ret
  exact ⟨rfl, rfl⟩
 by_cases e8 : (c : Int) / 16 = 8
 ·have hD := HD.out
  rw [if_neg (by omega), if_neg (by omega), if_neg (by omega), if_pos (by omega)] at hD
  subst hD
  clear HD
  go_wp2_with fail
  go_ret
  exact ⟨rfl, rfl⟩
 have hD := HD.out
 rw [if_neg (by omega), if_neg (by omega), if_neg (by omega), if_neg (by omega)] at hD
 subst hD
 clear HD
 go_wp2_with fail
 go_ret
 exact ⟨rfl, rfl⟩
theorem mrg_lone_any (v : V) (w : World) (s : Value) (h : VIn w v s) : (Calls prog 50 #[.agg #[.int .i64 v.kind, .int .u64 v.num, .string v.text, s, .int .i64 v.elem]] w fun e w' => e = .returned (.tuple #[.int .u8 ((loneC v).getD 0 : Nat), .bool (loneC v).isSome]) ∧ Below w.heap.size w w') ∧
  (∀ (q : Option Addr) (m cc : Nat) (hm : (m : Int) <= 1000000000000), Calls prog 53 #[.agg #[.int .i64 v.kind, .int .u64 v.num, .string v.text, s, .int .i64 v.elem], .slice q m cc] w fun e w' => e = .returned (.bool (spansB v.list.length m)) ∧ Below w.heap.size w w') := by
 refine ⟨?_, ?_⟩
 rotate_left
 intro q m cc hm
 rotate_left
 all_goals
  obtain ⟨p, c, hs, h1, h2, h3⟩ := h.slice
  obtain ⟨N, hN⟩ : ∃ N, v.list.length = N := ⟨_, rfl⟩
 focus
  rw [hN] at hs h1 h3
  subst hs
  have hl : v.list = [] ↔ N = 0 := by rw [← hN]; exact List.length_eq_zero_iff.symm
  obtain ⟨D, hD⟩ : ∃ D, loneC v = D := ⟨_, rfl⟩
  rw [hD]
  unfold loneC at hD
  simp only [hl] at hD
  have HD := zH hD
  clear h h1 h2 h3 hN hl hD
  go_enter func50, ntmps50
 rotate_left
 focus
  rw [hN] at hs h1 h3 ⊢
  subst hs
  clear h h1 h2 h3 hN
  have hD : (decide ((N : Int) <= 255) && decide (1 + (m : Int) <= 255)) = spansB N m := by
   unfold spansB
   rw [Bool.eq_iff_iff]
   simp only [Bool.and_eq_true, decide_eq_true_eq]
   omega
  have HD := zH hD
  clear hD
  go_enter func53, ntmps53
 rotate_left
 all_goals
  go_upto_region 1 with fail
  have hb0 : Below w.heap.size w (w.alloc (.cells #[.int .i64 v.kind, .int .u64 v.num, .string v.text, (.slice p N c), .int .i64 v.elem] 25)) := ((Below.refl _ _).alloc (Nat.le_refl _) _)
  have ox := zN w (.cells #[.int .i64 v.kind, .int .u64 v.num, .string v.text, (.slice p N c), .int .i64 v.elem] 25)
  generalize (w.alloc (.cells #[.int .i64 v.kind, .int .u64 v.num, .string v.text, (.slice p N c), .int .i64 v.elem] 25)) = w0 at *
  obtain ⟨x, hx⟩ : ∃ x, w.heap.size = x := ⟨_, rfl⟩
  rw [hx] at ox ⊢
  have HB0 := zH hb0
 have x0 : w0.cell? ⟨x, 0, none⟩ = some (.int .i64 v.kind) := (cell_of_row _ _ 0 _ _ _ ox).trans rfl
 have x1 : w0.cell? ⟨x, 1, none⟩ = some (.int .u64 v.num) := (cell_of_row _ _ 1 _ _ _ ox).trans rfl
 have x2 : w0.cell? ⟨x, 2, none⟩ = some (.string v.text) := (cell_of_row _ _ 2 _ _ _ ox).trans rfl
 rotate_left 2
 all_goals
  have x3 : w0.cell? ⟨x, 3, none⟩ = some ((.slice p N c)) := (cell_of_row _ _ 3 _ _ _ ox).trans rfl
  have HX := zH hx
  have HOX := zH ox
  clear hb0 ox hx
 ·by_cases e0 : v.kind = 0
  ·have hD := HD.out
   rw [if_pos e0] at hD
   subst hD
   go_wp2_with fail
   go_ret2
   exact ⟨rfl, HB0.out⟩
  by_cases e1 : v.kind = 1
  ·by_cases n1 : v.num = 1
   ·have hD := HD.out
    rw [if_neg e0, if_pos ⟨e1, n1⟩] at hD
    subst hD
    go_wp2_with fail
    go_ret2
    exact ⟨rfl, HB0.out⟩
   ·have hD := HD.out
    rw [if_neg e0, if_neg (fun q => n1 q.2), if_pos e1] at hD
    subst hD
    have n1' : (v.num == 1) = false := by simp [n1]
    go_wp2_with fail
    go_ret2
    exact ⟨rfl, HB0.out⟩
  by_cases e4 : v.kind = 4
  ·by_cases n0 : v.num = 0
   ·have hD := HD.out
    rw [if_neg e0, if_neg (fun q => e1 q.1), if_neg e1, if_pos ⟨e4, n0⟩] at hD
    subst hD
    go_wp2_with fail
    go_ret2
    exact ⟨rfl, HB0.out⟩
   ·have hD := HD.out
    rw [if_neg e0, if_neg (fun q => e1 q.1), if_neg e1, if_neg (fun q => n0 q.2), if_neg (by omega), if_neg (by omega)] at hD
    subst hD
    have n0' : (v.num == 0) = false := by simp [n0]
    go_wp2_with fail
    go_ret2
    exact ⟨rfl, HB0.out⟩
  by_cases e5 : v.kind = 5
  ·by_cases n0 : v.num = 0
   ·have hD := HD.out
    rw [if_neg e0, if_neg (fun q => e1 q.1), if_neg e1, if_neg (fun q => e4 q.1), if_pos ⟨e5, n0⟩] at hD
    subst hD
    go_wp2_with fail
    go_ret2
    exact ⟨rfl, HB0.out⟩
   ·have hD := HD.out
    rw [if_neg e0, if_neg (fun q => e1 q.1), if_neg e1, if_neg (fun q => e4 q.1), if_neg (fun q => n0 q.2), if_neg (by omega)] at hD
    subst hD
    have n0' : (v.num == 0) = false := by simp [n0]
    go_wp2_with fail
    go_ret2
    exact ⟨rfl, HB0.out⟩
  by_cases e21 : v.kind = 21
  ·by_cases hN : N = 0
   ·have hD := HD.out
    rw [if_neg e0, if_neg (fun q => e1 q.1), if_neg e1, if_neg (fun q => e4 q.1), if_neg (fun q => e5 q.1), if_pos ⟨e21, hN⟩] at hD
    subst hD
    subst hN
    go_wp2_with fail
    go_ret2
    exact ⟨rfl, HB0.out⟩
   ·have hD := HD.out
    rw [if_neg e0, if_neg (fun q => e1 q.1), if_neg e1, if_neg (fun q => e4 q.1), if_neg (fun q => e5 q.1), if_neg (fun q => hN q.2)] at hD
    subst hD
    have hN' : ((N : Int) == 0) = false := by simp [hN]
    go_wp2_with fail
    go_ret2
    exact ⟨rfl, HB0.out⟩
  have hD := HD.out
  rw [if_neg e0, if_neg (fun q => e1 q.1), if_neg e1, if_neg (fun q => e4 q.1), if_neg (fun q => e5 q.1), if_neg (fun q => e21 q.1)] at hD
  subst hD
  go_wp2_with fail
  go_ret2
  exact ⟨rfl, HB0.out⟩
 by_cases h1 : (N : Int) <= 255
 ·go_wp2_with fail
  go_ret
  refine ⟨ret_boolV ?_, HB0.out⟩
  rw [← HD.out]
  simp [h1]
 have h1' : decide ((N : Int) <= 255) = false := by simp; omega
 go_wp2_with fail
 go_ret
 refine ⟨ret_boolV ?_, HB0.out⟩
 rw [← HD.out]
 simp [h1']
def lone_any := fun v w s h => (mrg_lone_any v w s h).1
def spans_any := fun v w s h => (mrg_lone_any v w s h).2

structure Blk (w : World) (b T : Nat) (l : List UInt8) : Prop where
 blk : w.heap[b]? = some (.cells (l.map byteV).toArray T (0, 0))

theorem Blk.lt {w : World} {b T : Nat} {l : List UInt8} (h : Blk w b T l) : b < w.heap.size := (Array.getElem?_eq_some_iff.1 h.blk).1
theorem Blk.of_block {w w' : World} {b T : Nat} {l : List UInt8} (h : Blk w b T l) (e : w'.heap[b]? = w.heap[b]?) : Blk w' b T l := ⟨e.trans h.blk⟩
theorem Blk.below {w w' : World} {b T : Nat} {l : List UInt8} (h : Blk w b T l) (hb : Below w.heap.size w w') : Blk w' b T l := h.of_block (hb.block b h.lt)
theorem Blk.drewN {w : World} {b T : Nat} {l : List UInt8} (h : Blk w b T l) (m : Nat) : Blk (w.drewN m) b T l := ⟨h.blk⟩
theorem Blk.cell {w : World} {b T : Nat} {l : List UInt8} (h : Blk w b T l) (i : Nat) (hi : i < l.length) : w.cell? ⟨b, i, none⟩ = some (.int .u8 (l.getD i 0).toNat) := by
 simp only [World.cell?, h.blk, Option.isSome_none, Bool.false_eq_true, if_false]
 simp [byteV, List.getD_eq_getElem?_getD, hi]
theorem Blk.frozen {w : World} {b T : Nat} {l : List UInt8} (h : Blk w b T l) (i : Nat) : w.frozen? ⟨b, i, none⟩ = false := by
 simp [World.frozen?, h.blk]
theorem Blk.set {w : World} {b T : Nat} {l : List UInt8} (h : Blk w b T l) (i : Nat) (x : UInt8) : Blk (w.setCell ⟨b, i, none⟩ (.int .u8 (x.toNat : Int))) b T (l.set i x) := by
 refine ⟨?_⟩
 simp only [World.setCell, Array.getElem?_modify, h.blk, if_true, Option.map_some, Option.isSome_none, Bool.false_eq_true, if_false]
 congr 2
 simp [byteV]
theorem Blk.bytes {w : World} {b T : Nat} {l : List UInt8} (h : Blk w b T l) (off n c : Nat) (hn : off + n ≤ l.length) (hc : n ≤ c) (hm : c ≤ maxLen) :
  BytesIn w (some ⟨b, off, none⟩) n c ((l.drop off).take n) := by
 refine ⟨by rw [List.length_take, List.length_drop]; omega, hc, hm, fun _ => ⟨b, off, rfl, h.lt, fun i hi => ?_⟩⟩
 rw [h.cell (off + i) (by omega)]
 simp only [List.getD_eq_getElem?_getD, List.getElem?_take, if_pos hi, List.getElem?_drop]
theorem Blk.all {w : World} {b T : Nat} {l : List UInt8} (h : Blk w b T l) (n c : Nat) (hn : n = l.length) (hc : n ≤ c) (hm : c ≤ maxLen) : BytesIn w (some ⟨b, 0, none⟩) n c l := by
 have := h.bytes 0 n c (by omega) hc hm
 rwa [List.drop_zero, List.take_of_length_le (by omega)] at this
theorem Blk.made (w : World) (n T : Nat) : Blk (w.alloc (.cells (madeCells #[.int .u8 0] n) T)) w.heap.size T (List.replicate n 0) := by
 obtain ⟨c, h1, h2, h3⟩ := World.rowIs_made w (.int .u8 0) n T
 refine ⟨h1.trans ?_⟩
 congr 2
 apply Array.ext
 ·simp [h2]
 ·intro i hi1 hi2
  have := h3 i (by omega)
  rw [Array.getElem?_eq_getElem hi1] at this
  simp only [Option.some.injEq] at this
  rw [this]
  simp [byteV]
theorem Blk.of_cells {w : World} {b T : Nat} {l : List UInt8} {c : Array Value} (h : w.heap[b]? = some (.cells c T (0, 0))) (e : c = (l.map byteV).toArray) : Blk w b T l := ⟨by rw [h, e]⟩


def SameOrNew (w : World) (v v' : Value) : Prop := v'.ownBlock = v.ownBlock ∨ ∃ g, v'.ownBlock = some g ∧ w.heap.size ≤ g

theorem append_fresh {P : Program} {w w' : World} {base t ty e : Nat} {i : TypeInfo} {z v v' : Value} {bytes n : Nat} {xs : List Value} (ht : P.underlying t = some (.slice e)) (hi : P.info? e = some i) (hz : i.zero = some z)
  (hsize : i.size = 1) (hby : i.bytes = bytes) (hown : w.ownsRow base e 1 v n xs)
  (a : Addr) (c : Nat) (y : Value) (hy : w.cell? a = some y) (h1 : y.oneCell' = true) (h63 : n + 1 ≤ maxLen) (hbytes : (n + 1) * bytes ≤ 140737488355328)
  (hr : (Builtin.append_ #[t, t] ty #[v, .slice (some a) 1 c]).run P w = .ok v' w') : SameOrNew w v v' := by
 have hnews : ∀ j u, [y][j]? = some u → w.cell? (a.add j) = some u := by
  intro j u hj
  match j, hj with
  | 0, hj => simp at hj; subst hj; simpa [Addr.add] using hy
 have hl : [y].length = 1 * i.size := by rw [hsize]; rfl
 have hm : n + 1 ≤ 9223372036854775807 := by unfold maxLen at h63; omega
 rcases hown.2 with ⟨rfl, rfl⟩ | ⟨g, cap, cur, rfl, hbg, hg, hnc, hcm, hcs, htake⟩
 ·have hq := run_append_nil (P := P) w t ty e i z ht hi hz a 1 c [y] hl hnews (by decide) (by decide) (by rw [hby]; omega)
  rw [hr] at hq
  simp only [Result.ok.injEq] at hq
  exact .inr ⟨w.heap.size, by rw [hq.1]; rfl, Nat.le_refl _⟩
 ·by_cases hroom : n + 1 ≤ cap
  ·have hq := run_append_room (P := P) w t ty e i ht hi g n cap cur hg a 1 c [y] hl hnews (by intro u hu; simp at hu; subst hu; exact h1) hroom (by rw [hsize, hcs]; simp; omega)
   rw [hr] at hq
   simp only [Result.ok.injEq] at hq
   exact .inl (by rw [hq.1]; rfl)
  ·have holds : ∀ j u, xs[j]? = some u → w.cell? ((⟨g, 0, none⟩ : Addr).add j) = some u := hown.cells (g := g) rfl
   have hq := run_append_grow (P := P) w t ty e i z ht hi hz ⟨g, 0, none⟩ n cap xs (by rw [hsize]; exact hown.1) holds a 1 c [y] hl hnews (by omega) (by omega) (growslice_fits (by omega) (by rw [hby]; exact hbytes))
   rw [hr] at hq
   simp only [Result.ok.injEq] at hq
   exact .inr ⟨w.heap.size, by rw [hq.1]; rfl, Nat.le_refl _⟩

theorem wpList_append_new {P : Program} {w : World} {ops : Array Oper} {rest : List Oper} {o : Oper} {a : Act} {Q : Exit → Act → World → Prop} (hgd : o.guard = none)
  (s x : Operand) (t : TypeId) (ho : o.op = .call { callee := .builtin .append, args := #[s, x], argTypes := #[t, t] })
  (B e : Nat) (z : Value) (bytes : Nat) (ht : P.underlying t = some (.slice e)) (hinfo : (P.info? e).map (fun i => (i.zero, i.size, i.bytes)) = some (some z, 1, bytes)) (hz1 : z.cells.size = 1)
  (v : Value) (n : Nat) (xs : List Value) (y : Value) (hy : y.oneCell' = true) (ad : Addr) (c : Nat)
  (hs : a.eval s = v) (hx : a.eval x = .slice (some ad) 1 c) (hown : w.ownsRow B e 1 v n xs) (hcell : w.cell? ad = some y)
  (h63 : n + 1 ≤ maxLen) (hbytes : (n + 1) * bytes ≤ 140737488355328) (hbase : B ≤ w.heap.size)
  (h : ∀ v' w', w'.ownsRow B e 1 v' (n + 1) (xs ++ [y]) → w.grownBy w' v.ownBlock → Below B w w' → SameOrNew w v v' → wpList P ops Q rest (a.put o.dst v') w') :
  wpList P ops Q (o :: rest) a w := by
 obtain ⟨i, hi, hzz⟩ := Option.map_eq_some_iff.1 hinfo
 simp only [Prod.mk.injEq] at hzz
 obtain ⟨hz, hsz, hb⟩ := hzz
 refine wpList_plain hgd fun K hK => ?_
 have hnews : ∀ j u, [y][j]? = some u → w.cell? (ad.add j) = some u := by
  intro j u hj
  match j, hj with
  | 0, hj => simp at hj; subst hj; simpa [Addr.add] using hcell
 obtain ⟨v', w', hr, h2, h3, h4⟩ := run_append_own (P := P) w B t o.type e i z 1 bytes ht hi hz hsz hb hz1 (by decide) v n xs hown ad 1 c [y] rfl hnews
  (by intro u hu; simp at hu; subst hu; exact hy) h63 hbytes hbase
 have hf := append_fresh ht hi hz hsz hb hown ad c y hcell hy h63 hbytes hr
 unfold Oper.wp execOp
 simp only [ho, resolve, invoke, builtin, Sem.run_bind, Sem.run_pure, Result.andThen_ok, List.map_toArray, List.map_cons, List.map_nil, hs, hx, hr]
 exact hK _ _ (h v' w' h2 h3 ((Below.refl _ _).grown h3 hbase fun k hk => (hown.lt k hk).1) hf)

theorem wpList_append_val {P : Program} {wr : World} {ops : Array Oper} {rest : List Oper} {o : Oper} {a : Act} {Q : Exit → Act → World → Prop} (hgd : o.guard = none)
  (s x : Operand) (t : TypeId) (ho : o.op = .call { callee := .builtin .append, args := #[s, x], argTypes := #[t, t] })
  (B e : Nat) (z : Value) (bytes : Nat) (ht : P.underlying t = some (.slice e)) (hinfo : (P.info? e).map (fun i => (i.zero, i.size, i.bytes)) = some (some z, 1, bytes)) (hz1 : z.cells.size = 1)
  (v : Value) (n : Nat) (xs : List Value) (y : Value) (hy : y.oneCell' = true)
  (hs : a.eval s = v) (hx : a.eval x = .slice (some ⟨wr.heap.size, 0, none⟩) 1 1) (hown : wr.ownsRow B e 1 v n xs)
  (h63 : n + 1 ≤ maxLen) (hbytes : (n + 1) * bytes ≤ 140737488355328) (hbase : B ≤ wr.heap.size)
  (h : ∀ v' w', w'.ownsRow B e 1 v' (n + 1) (xs ++ [y]) → wr.grownBy w' v.ownBlock → Below B wr w' → SameOrNew wr v v' → wpList P ops Q rest (a.put o.dst v') w') :
  wpList P ops Q (o :: rest) a (wr.alloc (.cells #[y] e)) := by
 refine wpList_append_new hgd s x t ho B e z bytes ht hinfo hz1 v n xs y hy ⟨wr.heap.size, 0, none⟩ 1 hs hx (hown.alloc _) ?_ h63 hbytes (by simp; omega) ?_
 ·simp only [World.cell?, heap_alloc_new]; rfl
 ·intro v' w' h1 h2 _ h4
  have hlt := hown.lt
  have hg : wr.grownBy w' v.ownBlock :=
   ⟨h2.os, h2.tape, h2.output, Nat.le_trans (by simp) h2.size, fun k hk hne => (h2.block k (by simp; omega) hne).trans (Below.heap_alloc wr _ k hk)⟩
  refine h v' w' h1 hg ((Below.refl _ _).grown hg hbase fun k hk => (hlt k hk).1) ?_
  rcases h4 with h4 | ⟨g, h4, h5⟩
  ·exact .inl h4
  ·exact .inr ⟨g, h4, by simp at h5; omega⟩
end Go.Proofs.YtnnnfhobbnjmfaaGreatDoor
