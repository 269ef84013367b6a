/-
  Lemmas on the codec. Conditions: as each says.
-/
import Derived.Test.YtnnnfhobbnjmfaaGreatDoorEn09
import Derived.Test.YtnnnfhobbnjmfaaGreatDoorEn10
import Derived.Test.YtnnnfhobbnjmfaaGreatDoorEn01
import Derived.Laws.CopyOwn
import Derived.Deep.Draws
namespace Go.Proofs.YtnnnfhobbnjmfaaGreatDoor
open Go.RowKit
set_option linter.all false
set_option maxHeartbeats 4000000

attribute [local go_sem] Oper.semAt_some

/-! ### numbers out of bytes -/
theorem rnumber_any (w : World) (a : Option Addr) (n c : Nat) (l : List UInt8) (h : BytesIn w a n c l) (h8 : n ≤ 8) :
    Calls Tryz.prog 95 #[.slice a n c] w fun e w' => e = .returned (.int .u64 (beVal l)) ∧ w = w' := by
  obtain ⟨hl, hnc, hcm, hat_⟩ := h
  unfold maxLen at hcm
  have HL := Lib.hid hl
  have HA := Lib.hid hat_
  clear hl hat_
  go_enter Tryz.func95, Tryz.ntmps95
  go_wp2
  go_loop [3, 4] (fun m i => ∃ k : Nat, k ≤ n ∧ i = .int .i64 k ∧ m = .int .u64 (beVal (l.take k))) (fun _ i => n - (intOf i).toNat)
  case atStart => exact ⟨0, by omega, rfl, rfl⟩
  case round =>
    obtain ⟨k, hk, rfl, rfl⟩ := hrel
    by_cases hlt : k < n
    · obtain ⟨b, o, rfl, hb, hcell⟩ := HA.out (by omega)
      have hc := hcell k (by omega)
      have hs := beVal_snoc (l.take k) (l.getD k 0)
      rw [← take_succ_getD l k (by rw [HL.out]; omega)] at hs
      have hm : 256 * beVal (l.take k) + 255 < 18446744073709551616 := by
        have h0 := beVal_lt (l.take k)
        have h2 : 256 ^ (l.take k).length ≤ 256 ^ 7 := Nat.pow_le_pow_right (by omega) (by rw [List.length_take]; omega)
        omega
      have hx := (l.getD k 0).toNat_lt
      obtain ⟨y, hy⟩ : ∃ y, (l.getD k 0).toNat = y := ⟨_, rfl⟩
      obtain ⟨m, hm'⟩ : ∃ m, beVal (l.take k) = m := ⟨_, rfl⟩
      rw [hy] at hc hx hs
      rw [hm'] at hm hs ⊢
      have HS := Lib.hid hs
      clear hs hy hm' hcell
      go_wp2
      go_round
      case rel => exact ⟨k + 1, by omega, by go_num, by rw [HS.out, shl8_or m y hm hx]⟩
      case measure => simp [intOf]; omega
    · obtain rfl : n = k := by omega
      have HE := Lib.hid (show l.take n = l by rw [List.take_of_length_le (by rw [HL.out]; omega)])
      go_wp2
      go_ret
      exact ⟨(by rw [HE.out]; rfl), rfl⟩
/-! ### widths -/
def widR (c : Nat) : Int := if c / 16 = 4 then 0 else if c / 16 ≤ 9 then widC c else -1
theorem kindC_mem {c : Nat} (h : 0 ≤ kindC c) (h0 : c ≠ 0) : c = 64 ∨ c = 65 ∨ c = 66 ∨ c = 86 ∨ c = 80 ∨ c = 96 ∨ c = 67 ∨ c = 82 ∨ c = 112 ∨ c = 68 ∨ c = 83 ∨ c = 128 ∨ c = 81 ∨ c = 97 ∨ c = 84 ∨ c = 113 ∨ c = 85 ∨ c = 129 ∨ c = 114 ∨ c = 130 ∨ c = 116 ∨ c = 132 ∨ c = 148 ∨ c = 115 ∨ c = 131 ∨ c = 152 ∨ c = 160 ∨ c = 176 ∨ c = 161 ∨ c = 177 ∨ c = 163 ∨ c = 179 ∨ c = 69 ∨ c = 192 ∨ c = 208 ∨ c = 193 ∨ c = 209 ∨ c = 224 ∨ c = 240 := by
  unfold kindC at h
  repeat' split at h
  all_goals first | omega | (revert h; decide)
set_option maxRecDepth 20000 in
theorem rwidth_any (c : Nat) (w : World) (h : 0 ≤ kindC c) (h0 : c ≠ 0) : Calls Tryz.prog 94 #[.int .i64 (c : Int)] w fun e w' => e = .returned (.int .i64 (widR c)) ∧ w = w' := by
  have hm := kindC_mem h h0
  clear h h0
  rcases hm with rfl | rfl | rfl | rfl | rfl | rfl | rfl | rfl | rfl | rfl | rfl | rfl | rfl | rfl | rfl | rfl | rfl | rfl | rfl | rfl | rfl | rfl | rfl | rfl | rfl | rfl | rfl | rfl | rfl | rfl | rfl | rfl | rfl | rfl | rfl | rfl | rfl | rfl | rfl
  · rw [show widR 64 = (0 : Int) from rfl]
    go_enter Tryz.func94, Tryz.ntmps94
    go_wp2_with fail
    go_ret
    exact ⟨rfl, rfl⟩
  · rw [show widR 65 = (0 : Int) from rfl]
    go_enter Tryz.func94, Tryz.ntmps94
    go_wp2_with fail
    go_ret
    exact ⟨rfl, rfl⟩
  · rw [show widR 66 = (0 : Int) from rfl]
    go_enter Tryz.func94, Tryz.ntmps94
    go_wp2_with fail
    go_ret
    exact ⟨rfl, rfl⟩
  · rw [show widR 86 = (1 : Int) from rfl]
    go_enter Tryz.func94, Tryz.ntmps94
    go_wp2_with fail
    go_ret
    exact ⟨rfl, rfl⟩
  · rw [show widR 80 = (1 : Int) from rfl]
    go_enter Tryz.func94, Tryz.ntmps94
    go_wp2_with fail
    go_ret
    exact ⟨rfl, rfl⟩
  · rw [show widR 96 = (2 : Int) from rfl]
    go_enter Tryz.func94, Tryz.ntmps94
    go_wp2_with fail
    go_ret
    exact ⟨rfl, rfl⟩
  · rw [show widR 67 = (0 : Int) from rfl]
    go_enter Tryz.func94, Tryz.ntmps94
    go_wp2_with fail
    go_ret
    exact ⟨rfl, rfl⟩
  · rw [show widR 82 = (1 : Int) from rfl]
    go_enter Tryz.func94, Tryz.ntmps94
    go_wp2_with fail
    go_ret
    exact ⟨rfl, rfl⟩
  · rw [show widR 112 = (4 : Int) from rfl]
    go_enter Tryz.func94, Tryz.ntmps94
    go_wp2_with fail
    go_ret
    exact ⟨rfl, rfl⟩
  · rw [show widR 68 = (0 : Int) from rfl]
    go_enter Tryz.func94, Tryz.ntmps94
    go_wp2_with fail
    go_ret
    exact ⟨rfl, rfl⟩
  · rw [show widR 83 = (1 : Int) from rfl]
    go_enter Tryz.func94, Tryz.ntmps94
    go_wp2_with fail
    go_ret
    exact ⟨rfl, rfl⟩
  · rw [show widR 128 = (8 : Int) from rfl]
    go_enter Tryz.func94, Tryz.ntmps94
    go_wp2_with fail
    go_ret
    exact ⟨rfl, rfl⟩
  · rw [show widR 81 = (1 : Int) from rfl]
    go_enter Tryz.func94, Tryz.ntmps94
    go_wp2_with fail
    go_ret
    exact ⟨rfl, rfl⟩
  · rw [show widR 97 = (2 : Int) from rfl]
    go_enter Tryz.func94, Tryz.ntmps94
    go_wp2_with fail
    go_ret
    exact ⟨rfl, rfl⟩
  · rw [show widR 84 = (1 : Int) from rfl]
    go_enter Tryz.func94, Tryz.ntmps94
    go_wp2_with fail
    go_ret
    exact ⟨rfl, rfl⟩
  · rw [show widR 113 = (4 : Int) from rfl]
    go_enter Tryz.func94, Tryz.ntmps94
    go_wp2_with fail
    go_ret
    exact ⟨rfl, rfl⟩
  · rw [show widR 85 = (1 : Int) from rfl]
    go_enter Tryz.func94, Tryz.ntmps94
    go_wp2_with fail
    go_ret
    exact ⟨rfl, rfl⟩
  · rw [show widR 129 = (8 : Int) from rfl]
    go_enter Tryz.func94, Tryz.ntmps94
    go_wp2_with fail
    go_ret
    exact ⟨rfl, rfl⟩
  · rw [show widR 114 = (4 : Int) from rfl]
    go_enter Tryz.func94, Tryz.ntmps94
    go_wp2_with fail
    go_ret
    exact ⟨rfl, rfl⟩
  · rw [show widR 130 = (8 : Int) from rfl]
    go_enter Tryz.func94, Tryz.ntmps94
    go_wp2_with fail
    go_ret
    exact ⟨rfl, rfl⟩
  · rw [show widR 116 = (4 : Int) from rfl]
    go_enter Tryz.func94, Tryz.ntmps94
    go_wp2_with fail
    go_ret
    exact ⟨rfl, rfl⟩
  · rw [show widR 132 = (8 : Int) from rfl]
    go_enter Tryz.func94, Tryz.ntmps94
    go_wp2_with fail
    go_ret
    exact ⟨rfl, rfl⟩
  · rw [show widR 148 = (16 : Int) from rfl]
    go_enter Tryz.func94, Tryz.ntmps94
    go_wp2_with fail
    go_ret
    exact ⟨rfl, rfl⟩
  · rw [show widR 115 = (4 : Int) from rfl]
    go_enter Tryz.func94, Tryz.ntmps94
    go_wp2_with fail
    go_ret
    exact ⟨rfl, rfl⟩
  · rw [show widR 131 = (8 : Int) from rfl]
    go_enter Tryz.func94, Tryz.ntmps94
    go_wp2_with fail
    go_ret
    exact ⟨rfl, rfl⟩
  · rw [show widR 152 = (16 : Int) from rfl]
    go_enter Tryz.func94, Tryz.ntmps94
    go_wp2_with fail
    go_ret
    exact ⟨rfl, rfl⟩
  · rw [show widR 160 = (-1 : Int) from rfl]
    go_enter Tryz.func94, Tryz.ntmps94
    go_wp2_with fail
    go_ret
    exact ⟨rfl, rfl⟩
  · rw [show widR 176 = (-1 : Int) from rfl]
    go_enter Tryz.func94, Tryz.ntmps94
    go_wp2_with fail
    go_ret
    exact ⟨rfl, rfl⟩
  · rw [show widR 161 = (-1 : Int) from rfl]
    go_enter Tryz.func94, Tryz.ntmps94
    go_wp2_with fail
    go_ret
    exact ⟨rfl, rfl⟩
  · rw [show widR 177 = (-1 : Int) from rfl]
    go_enter Tryz.func94, Tryz.ntmps94
    go_wp2_with fail
    go_ret
    exact ⟨rfl, rfl⟩
  · rw [show widR 163 = (-1 : Int) from rfl]
    go_enter Tryz.func94, Tryz.ntmps94
    go_wp2_with fail
    go_ret
    exact ⟨rfl, rfl⟩
  · rw [show widR 179 = (-1 : Int) from rfl]
    go_enter Tryz.func94, Tryz.ntmps94
    go_wp2_with fail
    go_ret
    exact ⟨rfl, rfl⟩
  · rw [show widR 69 = (0 : Int) from rfl]
    go_enter Tryz.func94, Tryz.ntmps94
    go_wp2_with fail
    go_ret
    exact ⟨rfl, rfl⟩
  · rw [show widR 192 = (-1 : Int) from rfl]
    go_enter Tryz.func94, Tryz.ntmps94
    go_wp2_with fail
    go_ret
    exact ⟨rfl, rfl⟩
  · rw [show widR 208 = (-1 : Int) from rfl]
    go_enter Tryz.func94, Tryz.ntmps94
    go_wp2_with fail
    go_ret
    exact ⟨rfl, rfl⟩
  · rw [show widR 193 = (-1 : Int) from rfl]
    go_enter Tryz.func94, Tryz.ntmps94
    go_wp2_with fail
    go_ret
    exact ⟨rfl, rfl⟩
  · rw [show widR 209 = (-1 : Int) from rfl]
    go_enter Tryz.func94, Tryz.ntmps94
    go_wp2_with fail
    go_ret
    exact ⟨rfl, rfl⟩
  · rw [show widR 224 = (-1 : Int) from rfl]
    go_enter Tryz.func94, Tryz.ntmps94
    go_wp2_with fail
    go_ret
    exact ⟨rfl, rfl⟩
  · rw [show widR 240 = (-1 : Int) from rfl]
    go_enter Tryz.func94, Tryz.ntmps94
    go_wp2_with fail
    go_ret
    exact ⟨rfl, rfl⟩
theorem wide_mem {c : Nat} (h : 0 ≤ kindC c) (h1 : 10 ≤ c / 16) : c = 160 ∨ c = 176 ∨ c = 161 ∨ c = 177 ∨ c = 163 ∨ c = 179 ∨ c = 192 ∨ c = 208 ∨ c = 193 ∨ c = 209 ∨ c = 224 ∨ c = 240 := by
  rcases kindC_mem h (by omega) with rfl | rfl | rfl | rfl | rfl | rfl | rfl | rfl | rfl | rfl | rfl | rfl | rfl | rfl | rfl | rfl | rfl | rfl | rfl | rfl | rfl | rfl | rfl | rfl | rfl | rfl | rfl | rfl | rfl | rfl | rfl | rfl | rfl | rfl | rfl | rfl | rfl | rfl | rfl
  all_goals first | omega | simp at h1
set_option maxRecDepth 20000 in
theorem rwide_any (c : Nat) (w : World) (h : 0 ≤ kindC c) (h1 : 10 ≤ c / 16) : Calls Tryz.prog 64 #[.int .i64 (c : Int)] w fun e w' => e = .returned (.int .i64 (wOf c : Nat)) ∧ w = w' := by
  have hm := wide_mem h h1
  clear h h1
  rcases hm with rfl | rfl | rfl | rfl | rfl | rfl | rfl | rfl | rfl | rfl | rfl | rfl
  · rw [show wOf 160 = 1 from rfl]
    go_enter Tryz.func64, Tryz.ntmps64
    go_wp2_with fail
    go_ret
    exact ⟨rfl, rfl⟩
  · rw [show wOf 176 = 4 from rfl]
    go_enter Tryz.func64, Tryz.ntmps64
    go_wp2_with fail
    go_ret
    exact ⟨rfl, rfl⟩
  · rw [show wOf 161 = 1 from rfl]
    go_enter Tryz.func64, Tryz.ntmps64
    go_wp2_with fail
    go_ret
    exact ⟨rfl, rfl⟩
  · rw [show wOf 177 = 4 from rfl]
    go_enter Tryz.func64, Tryz.ntmps64
    go_wp2_with fail
    go_ret
    exact ⟨rfl, rfl⟩
  · rw [show wOf 163 = 1 from rfl]
    go_enter Tryz.func64, Tryz.ntmps64
    go_wp2_with fail
    go_ret
    exact ⟨rfl, rfl⟩
  · rw [show wOf 179 = 4 from rfl]
    go_enter Tryz.func64, Tryz.ntmps64
    go_wp2_with fail
    go_ret
    exact ⟨rfl, rfl⟩
  · rw [show wOf 192 = 1 from rfl]
    go_enter Tryz.func64, Tryz.ntmps64
    go_wp2_with fail
    go_ret
    exact ⟨rfl, rfl⟩
  · rw [show wOf 208 = 4 from rfl]
    go_enter Tryz.func64, Tryz.ntmps64
    go_wp2_with fail
    go_ret
    exact ⟨rfl, rfl⟩
  · rw [show wOf 193 = 1 from rfl]
    go_enter Tryz.func64, Tryz.ntmps64
    go_wp2_with fail
    go_ret
    exact ⟨rfl, rfl⟩
  · rw [show wOf 209 = 4 from rfl]
    go_enter Tryz.func64, Tryz.ntmps64
    go_wp2_with fail
    go_ret
    exact ⟨rfl, rfl⟩
  · rw [show wOf 224 = 1 from rfl]
    go_enter Tryz.func64, Tryz.ntmps64
    go_wp2_with fail
    go_ret
    exact ⟨rfl, rfl⟩
  · rw [show wOf 240 = 4 from rfl]
    go_enter Tryz.func64, Tryz.ntmps64
    go_wp2_with fail
    go_ret
    exact ⟨rfl, rfl⟩

/-! ### kinds and letters -/
def sgnK (k : Int) : Bool := k == 6 || k == 7 || k == 8 || k == 9 || k == 16
theorem rsigned_kind (k : Int) (w : World) : Calls Tryz.prog 96 #[.int .i64 k] w fun e w' => e = .returned (.bool (sgnK k)) ∧ w = w' := by
  go_enter Tryz.func96, Tryz.ntmps96
  go_wp2_with fail
  all_goals
    go_ret
    refine ⟨?_, rfl⟩
    simp [sgnK, *]
set_option maxHeartbeats 4000000

attribute [local go_sem] Oper.semAt_some

def codesL (k : Nat) : List Nat :=
  match k with
  | 0 => [64]
  | 1 => [65, 66, 86]
  | 2 => [80]
  | 3 => [96]
  | 4 => [67, 82, 112]
  | 5 => [68, 83, 128]
  | 6 => [81]
  | 7 => [97]
  | 8 => [84, 113]
  | 9 => [85, 129]
  | 10 => [114]
  | 11 => [130]
  | 12 => [116]
  | 13 => [132]
  | 14 => [148]
  | 15 => [115]
  | 16 => [131]
  | 17 => [152]
  | 18 => [160, 176]
  | 19 => [161, 177]
  | 20 => [163, 179]
  | 21 => [69, 192, 208]
  | 22 => [193, 209]
  | 23 => [224, 240]
  | 24 => [0]
  | _ => []
def CodesAt (w : World) (b : Nat) (l : List Nat) : Prop := ∀ i, i < l.length → w.cell? ⟨b, i, none⟩ = some (.int .i64 (l.getD i 0 : Nat))
theorem CodesAt.below {w w' : World} {b : Nat} {l : List Nat} (h : CodesAt w b l) (hb : Below w.heap.size w w') : CodesAt w' b l := fun i hi => bs_cellV hb (h i hi)
theorem codesAt_new (w : World) (cs : List Value) (t : TypeId) (l : List Nat) (h : cs = l.map (fun c => Value.int .i64 (c : Nat))) : CodesAt (w.alloc (.cells cs.toArray t)) w.heap.size l := by
  intro i hi
  subst h
  rw [cell_of_row _ _ i _ _ _ (_root_.Go.heap_alloc_new _ _)]
  simp [hi, List.getD_eq_getElem?_getD]
theorem codesL_len (k : Nat) (hk : k ≤ 24) : (codesL k).length ≤ 3 := by
  have hm : k = 0 ∨ k = 1 ∨ k = 2 ∨ k = 3 ∨ k = 4 ∨ k = 5 ∨ k = 6 ∨ k = 7 ∨ k = 8 ∨ k = 9 ∨ k = 10 ∨ k = 11 ∨ k = 12 ∨ k = 13 ∨ k = 14 ∨ k = 15 ∨ k = 16 ∨ k = 17 ∨ k = 18 ∨ k = 19 ∨ k = 20 ∨ k = 21 ∨ k = 22 ∨ k = 23 ∨ k = 24 := by omega
  rcases hm with rfl | rfl | rfl | rfl | rfl | rfl | rfl | rfl | rfl | rfl | rfl | rfl | rfl | rfl | rfl | rfl | rfl | rfl | rfl | rfl | rfl | rfl | rfl | rfl | rfl <;> decide
def CodesTo (w : World) (l : List Nat) (e : Ending) (w' : World) : Prop := ∃ b, e = .returned (.slice (some ⟨b, 0, none⟩) l.length l.length) ∧ CodesAt w' b l ∧ Below w.heap.size w w'
set_option maxRecDepth 20000 in
theorem rfurther_any (k : Nat) (w : World) (h : 12 ≤ k) (h2 : k ≤ 24) : Calls Tryz.prog 61 #[.int .i64 (k : Int)] w fun e w' => CodesTo w (codesL k) e w' := by
  have hm : k = 12 ∨ k = 13 ∨ k = 14 ∨ k = 15 ∨ k = 16 ∨ k = 17 ∨ k = 18 ∨ k = 19 ∨ k = 20 ∨ k = 21 ∨ k = 22 ∨ k = 23 ∨ k = 24 := by omega
  clear h h2
  rcases hm with rfl | rfl | rfl | rfl | rfl | rfl | rfl | rfl | rfl | rfl | rfl | rfl | rfl
  · rw [show codesL 12 = [116] from rfl]
    go_enter Tryz.func61, Tryz.ntmps61
    go_wp2_with fail
    go_ret
    exact ⟨w.heap.size, rfl, codesAt_new w [.int .i64 116] _ [116] rfl, (Below.refl _ _).alloc (Nat.le_refl _) _⟩
  · rw [show codesL 13 = [132] from rfl]
    go_enter Tryz.func61, Tryz.ntmps61
    go_wp2_with fail
    go_ret
    exact ⟨w.heap.size, rfl, codesAt_new w [.int .i64 132] _ [132] rfl, (Below.refl _ _).alloc (Nat.le_refl _) _⟩
  · rw [show codesL 14 = [148] from rfl]
    go_enter Tryz.func61, Tryz.ntmps61
    go_wp2_with fail
    go_ret
    exact ⟨w.heap.size, rfl, codesAt_new w [.int .i64 148] _ [148] rfl, (Below.refl _ _).alloc (Nat.le_refl _) _⟩
  · rw [show codesL 15 = [115] from rfl]
    go_enter Tryz.func61, Tryz.ntmps61
    go_wp2_with fail
    go_ret
    exact ⟨w.heap.size, rfl, codesAt_new w [.int .i64 115] _ [115] rfl, (Below.refl _ _).alloc (Nat.le_refl _) _⟩
  · rw [show codesL 16 = [131] from rfl]
    go_enter Tryz.func61, Tryz.ntmps61
    go_wp2_with fail
    go_ret
    exact ⟨w.heap.size, rfl, codesAt_new w [.int .i64 131] _ [131] rfl, (Below.refl _ _).alloc (Nat.le_refl _) _⟩
  · rw [show codesL 17 = [152] from rfl]
    go_enter Tryz.func61, Tryz.ntmps61
    go_wp2_with fail
    go_ret
    exact ⟨w.heap.size, rfl, codesAt_new w [.int .i64 152] _ [152] rfl, (Below.refl _ _).alloc (Nat.le_refl _) _⟩
  · rw [show codesL 18 = [160, 176] from rfl]
    go_enter Tryz.func61, Tryz.ntmps61
    go_wp2_with fail
    go_ret
    exact ⟨w.heap.size, rfl, codesAt_new w [.int .i64 160, .int .i64 176] _ [160, 176] rfl, (Below.refl _ _).alloc (Nat.le_refl _) _⟩
  · rw [show codesL 19 = [161, 177] from rfl]
    go_enter Tryz.func61, Tryz.ntmps61
    go_wp2_with fail
    go_ret
    exact ⟨w.heap.size, rfl, codesAt_new w [.int .i64 161, .int .i64 177] _ [161, 177] rfl, (Below.refl _ _).alloc (Nat.le_refl _) _⟩
  · rw [show codesL 20 = [163, 179] from rfl]
    go_enter Tryz.func61, Tryz.ntmps61
    go_wp2_with fail
    go_ret
    exact ⟨w.heap.size, rfl, codesAt_new w [.int .i64 163, .int .i64 179] _ [163, 179] rfl, (Below.refl _ _).alloc (Nat.le_refl _) _⟩
  · rw [show codesL 21 = [69, 192, 208] from rfl]
    go_enter Tryz.func61, Tryz.ntmps61
    go_wp2_with fail
    go_ret
    exact ⟨w.heap.size, rfl, codesAt_new w [.int .i64 69, .int .i64 192, .int .i64 208] _ [69, 192, 208] rfl, (Below.refl _ _).alloc (Nat.le_refl _) _⟩
  · rw [show codesL 22 = [193, 209] from rfl]
    go_enter Tryz.func61, Tryz.ntmps61
    go_wp2_with fail
    go_ret
    exact ⟨w.heap.size, rfl, codesAt_new w [.int .i64 193, .int .i64 209] _ [193, 209] rfl, (Below.refl _ _).alloc (Nat.le_refl _) _⟩
  · rw [show codesL 23 = [224, 240] from rfl]
    go_enter Tryz.func61, Tryz.ntmps61
    go_wp2_with fail
    go_ret
    exact ⟨w.heap.size, rfl, codesAt_new w [.int .i64 224, .int .i64 240] _ [224, 240] rfl, (Below.refl _ _).alloc (Nat.le_refl _) _⟩
  · rw [show codesL 24 = [0] from rfl]
    go_enter Tryz.func61, Tryz.ntmps61
    go_wp2_with fail
    go_ret
    exact ⟨w.heap.size, rfl, codesAt_new w [.int .i64 0] _ [0] rfl, (Below.refl _ _).alloc (Nat.le_refl _) _⟩
set_option maxRecDepth 20000 in
theorem rcodes_any (k : Nat) (w : World) (h2 : k ≤ 24) : Calls Tryz.prog 45 #[.int .i64 (k : Int)] w fun e w' => CodesTo w (codesL k) e w' := by
  have hm : k = 0 ∨ k = 1 ∨ k = 2 ∨ k = 3 ∨ k = 4 ∨ k = 5 ∨ k = 6 ∨ k = 7 ∨ k = 8 ∨ k = 9 ∨ k = 10 ∨ k = 11 ∨ k = 12 ∨ k = 13 ∨ k = 14 ∨ k = 15 ∨ k = 16 ∨ k = 17 ∨ k = 18 ∨ k = 19 ∨ k = 20 ∨ k = 21 ∨ k = 22 ∨ k = 23 ∨ k = 24 := by omega
  clear h2
  rcases hm with rfl | rfl | rfl | rfl | rfl | rfl | rfl | rfl | rfl | rfl | rfl | rfl | rfl | rfl | rfl | rfl | rfl | rfl | rfl | rfl | rfl | rfl | rfl | rfl | rfl
  · rw [show codesL 0 = [64] from rfl]
    go_enter Tryz.func45, Tryz.ntmps45
    go_wp2_with fail
    go_ret
    exact ⟨w.heap.size, rfl, codesAt_new w [.int .i64 64] _ [64] rfl, (Below.refl _ _).alloc (Nat.le_refl _) _⟩
  · rw [show codesL 1 = [65, 66, 86] from rfl]
    go_enter Tryz.func45, Tryz.ntmps45
    go_wp2_with fail
    go_ret
    exact ⟨w.heap.size, rfl, codesAt_new w [.int .i64 65, .int .i64 66, .int .i64 86] _ [65, 66, 86] rfl, (Below.refl _ _).alloc (Nat.le_refl _) _⟩
  · rw [show codesL 2 = [80] from rfl]
    go_enter Tryz.func45, Tryz.ntmps45
    go_wp2_with fail
    go_ret
    exact ⟨w.heap.size, rfl, codesAt_new w [.int .i64 80] _ [80] rfl, (Below.refl _ _).alloc (Nat.le_refl _) _⟩
  · rw [show codesL 3 = [96] from rfl]
    go_enter Tryz.func45, Tryz.ntmps45
    go_wp2_with fail
    go_ret
    exact ⟨w.heap.size, rfl, codesAt_new w [.int .i64 96] _ [96] rfl, (Below.refl _ _).alloc (Nat.le_refl _) _⟩
  · rw [show codesL 4 = [67, 82, 112] from rfl]
    go_enter Tryz.func45, Tryz.ntmps45
    go_wp2_with fail
    go_ret
    exact ⟨w.heap.size, rfl, codesAt_new w [.int .i64 67, .int .i64 82, .int .i64 112] _ [67, 82, 112] rfl, (Below.refl _ _).alloc (Nat.le_refl _) _⟩
  · rw [show codesL 5 = [68, 83, 128] from rfl]
    go_enter Tryz.func45, Tryz.ntmps45
    go_wp2_with fail
    go_ret
    exact ⟨w.heap.size, rfl, codesAt_new w [.int .i64 68, .int .i64 83, .int .i64 128] _ [68, 83, 128] rfl, (Below.refl _ _).alloc (Nat.le_refl _) _⟩
  · rw [show codesL 6 = [81] from rfl]
    go_enter Tryz.func45, Tryz.ntmps45
    go_wp2_with fail
    go_ret
    exact ⟨w.heap.size, rfl, codesAt_new w [.int .i64 81] _ [81] rfl, (Below.refl _ _).alloc (Nat.le_refl _) _⟩
  · rw [show codesL 7 = [97] from rfl]
    go_enter Tryz.func45, Tryz.ntmps45
    go_wp2_with fail
    go_ret
    exact ⟨w.heap.size, rfl, codesAt_new w [.int .i64 97] _ [97] rfl, (Below.refl _ _).alloc (Nat.le_refl _) _⟩
  · rw [show codesL 8 = [84, 113] from rfl]
    go_enter Tryz.func45, Tryz.ntmps45
    go_wp2_with fail
    go_ret
    exact ⟨w.heap.size, rfl, codesAt_new w [.int .i64 84, .int .i64 113] _ [84, 113] rfl, (Below.refl _ _).alloc (Nat.le_refl _) _⟩
  · rw [show codesL 9 = [85, 129] from rfl]
    go_enter Tryz.func45, Tryz.ntmps45
    go_wp2_with fail
    go_ret
    exact ⟨w.heap.size, rfl, codesAt_new w [.int .i64 85, .int .i64 129] _ [85, 129] rfl, (Below.refl _ _).alloc (Nat.le_refl _) _⟩
  · rw [show codesL 10 = [114] from rfl]
    go_enter Tryz.func45, Tryz.ntmps45
    go_wp2_with fail
    go_ret
    exact ⟨w.heap.size, rfl, codesAt_new w [.int .i64 114] _ [114] rfl, (Below.refl _ _).alloc (Nat.le_refl _) _⟩
  · rw [show codesL 11 = [130] from rfl]
    go_enter Tryz.func45, Tryz.ntmps45
    go_wp2_with fail
    go_ret
    exact ⟨w.heap.size, rfl, codesAt_new w [.int .i64 130] _ [130] rfl, (Below.refl _ _).alloc (Nat.le_refl _) _⟩
  · have HC := Lib.hid (rfurther_any 12 w (by decide) (by decide))
    generalize codesL 12 = l at *
    go_enter Tryz.func45, Tryz.ntmps45
    go_wp2_with fail
    refine HC.out.mono ?_
    rintro e w1 ⟨b, rfl, ha, hb⟩
    have H1 := Lib.hid (And.intro ha hb)
    clear ha hb
    go_wp2_with fail
    go_ret
    exact ⟨b, rfl, H1.out.1, H1.out.2⟩
  · have HC := Lib.hid (rfurther_any 13 w (by decide) (by decide))
    generalize codesL 13 = l at *
    go_enter Tryz.func45, Tryz.ntmps45
    go_wp2_with fail
    refine HC.out.mono ?_
    rintro e w1 ⟨b, rfl, ha, hb⟩
    have H1 := Lib.hid (And.intro ha hb)
    clear ha hb
    go_wp2_with fail
    go_ret
    exact ⟨b, rfl, H1.out.1, H1.out.2⟩
  · have HC := Lib.hid (rfurther_any 14 w (by decide) (by decide))
    generalize codesL 14 = l at *
    go_enter Tryz.func45, Tryz.ntmps45
    go_wp2_with fail
    refine HC.out.mono ?_
    rintro e w1 ⟨b, rfl, ha, hb⟩
    have H1 := Lib.hid (And.intro ha hb)
    clear ha hb
    go_wp2_with fail
    go_ret
    exact ⟨b, rfl, H1.out.1, H1.out.2⟩
  · have HC := Lib.hid (rfurther_any 15 w (by decide) (by decide))
    generalize codesL 15 = l at *
    go_enter Tryz.func45, Tryz.ntmps45
    go_wp2_with fail
    refine HC.out.mono ?_
    rintro e w1 ⟨b, rfl, ha, hb⟩
    have H1 := Lib.hid (And.intro ha hb)
    clear ha hb
    go_wp2_with fail
    go_ret
    exact ⟨b, rfl, H1.out.1, H1.out.2⟩
  · have HC := Lib.hid (rfurther_any 16 w (by decide) (by decide))
    generalize codesL 16 = l at *
    go_enter Tryz.func45, Tryz.ntmps45
    go_wp2_with fail
    refine HC.out.mono ?_
    rintro e w1 ⟨b, rfl, ha, hb⟩
    have H1 := Lib.hid (And.intro ha hb)
    clear ha hb
    go_wp2_with fail
    go_ret
    exact ⟨b, rfl, H1.out.1, H1.out.2⟩
  · have HC := Lib.hid (rfurther_any 17 w (by decide) (by decide))
    generalize codesL 17 = l at *
    go_enter Tryz.func45, Tryz.ntmps45
    go_wp2_with fail
    refine HC.out.mono ?_
    rintro e w1 ⟨b, rfl, ha, hb⟩
    have H1 := Lib.hid (And.intro ha hb)
    clear ha hb
    go_wp2_with fail
    go_ret
    exact ⟨b, rfl, H1.out.1, H1.out.2⟩
  · have HC := Lib.hid (rfurther_any 18 w (by decide) (by decide))
    generalize codesL 18 = l at *
    go_enter Tryz.func45, Tryz.ntmps45
    go_wp2_with fail
    refine HC.out.mono ?_
    rintro e w1 ⟨b, rfl, ha, hb⟩
    have H1 := Lib.hid (And.intro ha hb)
    clear ha hb
    go_wp2_with fail
    go_ret
    exact ⟨b, rfl, H1.out.1, H1.out.2⟩
  · have HC := Lib.hid (rfurther_any 19 w (by decide) (by decide))
    generalize codesL 19 = l at *
    go_enter Tryz.func45, Tryz.ntmps45
    go_wp2_with fail
    refine HC.out.mono ?_
    rintro e w1 ⟨b, rfl, ha, hb⟩
    have H1 := Lib.hid (And.intro ha hb)
    clear ha hb
    go_wp2_with fail
    go_ret
    exact ⟨b, rfl, H1.out.1, H1.out.2⟩
  · have HC := Lib.hid (rfurther_any 20 w (by decide) (by decide))
    generalize codesL 20 = l at *
    go_enter Tryz.func45, Tryz.ntmps45
    go_wp2_with fail
    refine HC.out.mono ?_
    rintro e w1 ⟨b, rfl, ha, hb⟩
    have H1 := Lib.hid (And.intro ha hb)
    clear ha hb
    go_wp2_with fail
    go_ret
    exact ⟨b, rfl, H1.out.1, H1.out.2⟩
  · have HC := Lib.hid (rfurther_any 21 w (by decide) (by decide))
    generalize codesL 21 = l at *
    go_enter Tryz.func45, Tryz.ntmps45
    go_wp2_with fail
    refine HC.out.mono ?_
    rintro e w1 ⟨b, rfl, ha, hb⟩
    have H1 := Lib.hid (And.intro ha hb)
    clear ha hb
    go_wp2_with fail
    go_ret
    exact ⟨b, rfl, H1.out.1, H1.out.2⟩
  · have HC := Lib.hid (rfurther_any 22 w (by decide) (by decide))
    generalize codesL 22 = l at *
    go_enter Tryz.func45, Tryz.ntmps45
    go_wp2_with fail
    refine HC.out.mono ?_
    rintro e w1 ⟨b, rfl, ha, hb⟩
    have H1 := Lib.hid (And.intro ha hb)
    clear ha hb
    go_wp2_with fail
    go_ret
    exact ⟨b, rfl, H1.out.1, H1.out.2⟩
  · have HC := Lib.hid (rfurther_any 23 w (by decide) (by decide))
    generalize codesL 23 = l at *
    go_enter Tryz.func45, Tryz.ntmps45
    go_wp2_with fail
    refine HC.out.mono ?_
    rintro e w1 ⟨b, rfl, ha, hb⟩
    have H1 := Lib.hid (And.intro ha hb)
    clear ha hb
    go_wp2_with fail
    go_ret
    exact ⟨b, rfl, H1.out.1, H1.out.2⟩
  · have HC := Lib.hid (rfurther_any 24 w (by decide) (by decide))
    generalize codesL 24 = l at *
    go_enter Tryz.func45, Tryz.ntmps45
    go_wp2_with fail
    refine HC.out.mono ?_
    rintro e w1 ⟨b, rfl, ha, hb⟩
    have H1 := Lib.hid (And.intro ha hb)
    clear ha hb
    go_wp2_with fail
    go_ret
    exact ⟨b, rfl, H1.out.1, H1.out.2⟩

/-! ### the kind of a constructor -/
theorem codes_kind (k : Nat) (hk : k ≤ 24) (c : Nat) (hc : c ∈ codesL k) : kindC c = k := by
  have hm : k = 0 ∨ k = 1 ∨ k = 2 ∨ k = 3 ∨ k = 4 ∨ k = 5 ∨ k = 6 ∨ k = 7 ∨ k = 8 ∨ k = 9 ∨ k = 10 ∨ k = 11 ∨ k = 12 ∨ k = 13 ∨ k = 14 ∨ k = 15 ∨ k = 16 ∨ k = 17 ∨ k = 18 ∨ k = 19 ∨ k = 20 ∨ k = 21 ∨ k = 22 ∨ k = 23 ∨ k = 24 := by omega
  rcases hm with rfl | rfl | rfl | rfl | rfl | rfl | rfl | rfl | rfl | rfl | rfl | rfl | rfl | rfl | rfl | rfl | rfl | rfl | rfl | rfl | rfl | rfl | rfl | rfl | rfl
  all_goals
    simp only [codesL, List.mem_cons, List.not_mem_nil, or_false] at hc
    first
      | (subst hc; rfl)
      | (rcases hc with rfl | rfl <;> rfl)
      | (rcases hc with rfl | rfl | rfl <;> rfl)

structure Blk (w : World) (b T : Nat) (l : List UInt8) : Prop where
  blk : w.heap[b]? = some (.cells (l.map byteV).toArray T (0, 0))

theorem Blk.lt {w : World} {b T : Nat} {l : List UInt8} (h : Blk w b T l) : b < w.heap.size := (Array.getElem?_eq_some_iff.1 h.blk).1
theorem Blk.of_block {w w' : World} {b T : Nat} {l : List UInt8} (h : Blk w b T l) (e : w'.heap[b]? = w.heap[b]?) : Blk w' b T l := ⟨e.trans h.blk⟩
theorem Blk.below {w w' : World} {b T : Nat} {l : List UInt8} (h : Blk w b T l) (hb : Below w.heap.size w w') : Blk w' b T l := h.of_block (hb.block b h.lt)
theorem Blk.drewN {w : World} {b T : Nat} {l : List UInt8} (h : Blk w b T l) (m : Nat) : Blk (w.drewN m) b T l := ⟨h.blk⟩
theorem Blk.cell {w : World} {b T : Nat} {l : List UInt8} (h : Blk w b T l) (i : Nat) (hi : i < l.length) : w.cell? ⟨b, i, none⟩ = some (.int .u8 (l.getD i 0).toNat) := by
  simp only [World.cell?, h.blk, Option.isSome_none, Bool.false_eq_true, if_false]
  simp [byteV, List.getD_eq_getElem?_getD, hi]
theorem Blk.frozen {w : World} {b T : Nat} {l : List UInt8} (h : Blk w b T l) (i : Nat) : w.frozen? ⟨b, i, none⟩ = false := by
  simp [World.frozen?, h.blk]
theorem Blk.set {w : World} {b T : Nat} {l : List UInt8} (h : Blk w b T l) (i : Nat) (x : UInt8) : Blk (w.setCell ⟨b, i, none⟩ (.int .u8 (x.toNat : Int))) b T (l.set i x) := by
  refine ⟨?_⟩
  simp only [World.setCell, Array.getElem?_modify, h.blk, if_true, Option.map_some, Option.isSome_none, Bool.false_eq_true, if_false]
  congr 2
  simp [byteV]
theorem Blk.bytes {w : World} {b T : Nat} {l : List UInt8} (h : Blk w b T l) (off n c : Nat) (hn : off + n ≤ l.length) (hc : n ≤ c) (hm : c ≤ maxLen) :
    BytesIn w (some ⟨b, off, none⟩) n c ((l.drop off).take n) := by
  refine ⟨by rw [List.length_take, List.length_drop]; omega, hc, hm, fun _ => ⟨b, off, rfl, h.lt, fun i hi => ?_⟩⟩
  rw [h.cell (off + i) (by omega)]
  simp only [List.getD_eq_getElem?_getD, List.getElem?_take, if_pos hi, List.getElem?_drop]
theorem Blk.all {w : World} {b T : Nat} {l : List UInt8} (h : Blk w b T l) (n c : Nat) (hn : n = l.length) (hc : n ≤ c) (hm : c ≤ maxLen) : BytesIn w (some ⟨b, 0, none⟩) n c l := by
  have := h.bytes 0 n c (by omega) hc hm
  rwa [List.drop_zero, List.take_of_length_le (by omega)] at this
theorem Blk.of_cells {w : World} {b T : Nat} {l : List UInt8} {c : Array Value} (h : w.heap[b]? = some (.cells c T (0, 0))) (e : c = (l.map byteV).toArray) : Blk w b T l := ⟨by rw [h, e]⟩


def SameOrNew (w : World) (v v' : Value) : Prop := v'.ownBlock = v.ownBlock ∨ ∃ g, v'.ownBlock = some g ∧ w.heap.size ≤ g

theorem append_fresh {P : Program} {w w' : World} {base t ty e : Nat} {i : TypeInfo} {z v v' : Value} {bytes n : Nat} {xs : List Value} (ht : P.underlying t = some (.slice e)) (hi : P.info? e = some i) (hz : i.zero = some z)
    (hsize : i.size = 1) (hby : i.bytes = bytes) (hown : w.ownsRow base e 1 v n xs)
    (a : Addr) (c : Nat) (y : Value) (hy : w.cell? a = some y) (h1 : y.oneCell' = true) (h63 : n + 1 ≤ maxLen) (hbytes : (n + 1) * bytes ≤ 140737488355328)
    (hr : (Builtin.append_ #[t, t] ty #[v, .slice (some a) 1 c]).run P w = .ok v' w') : SameOrNew w v v' := by
  have hnews : ∀ j u, [y][j]? = some u → w.cell? (a.add j) = some u := by
    intro j u hj
    match j, hj with
    | 0, hj => simp at hj; subst hj; simpa [Addr.add] using hy
  have hl : [y].length = 1 * i.size := by rw [hsize]; rfl
  have hm : n + 1 ≤ 9223372036854775807 := by unfold maxLen at h63; omega
  rcases hown.2 with ⟨rfl, rfl⟩ | ⟨g, cap, cur, rfl, hbg, hg, hnc, hcm, hcs, htake⟩
  · have hq := run_append_nil (P := P) w t ty e i z ht hi hz a 1 c [y] hl hnews (by decide) (by decide) (by rw [hby]; omega)
    rw [hr] at hq
    simp only [Result.ok.injEq] at hq
    exact .inr ⟨w.heap.size, by rw [hq.1]; rfl, Nat.le_refl _⟩
  · by_cases hroom : n + 1 ≤ cap
    · have hq := run_append_room (P := P) w t ty e i ht hi g n cap cur hg a 1 c [y] hl hnews (by intro u hu; simp at hu; subst hu; exact h1) hroom (by rw [hsize, hcs]; simp; omega)
      rw [hr] at hq
      simp only [Result.ok.injEq] at hq
      exact .inl (by rw [hq.1]; rfl)
    · have holds : ∀ j u, xs[j]? = some u → w.cell? ((⟨g, 0, none⟩ : Addr).add j) = some u := hown.cells (g := g) rfl
      have hq := run_append_grow (P := P) w t ty e i z ht hi hz ⟨g, 0, none⟩ n cap xs (by rw [hsize]; exact hown.1) holds a 1 c [y] hl hnews (by omega) (by omega) (growslice_fits (by omega) (by rw [hby]; exact hbytes))
      rw [hr] at hq
      simp only [Result.ok.injEq] at hq
      exact .inr ⟨w.heap.size, by rw [hq.1]; rfl, Nat.le_refl _⟩

theorem wpList_append_new {P : Program} {w : World} {ops : Array Oper} {rest : List Oper} {o : Oper} {a : Act} {Q : Exit → Act → World → Prop} (hgd : o.guard = none)
    (s x : Operand) (t : TypeId) (ho : o.op = .call { callee := .builtin .append, args := #[s, x], argTypes := #[t, t] })
    (B e : Nat) (z : Value) (bytes : Nat) (ht : P.underlying t = some (.slice e)) (hinfo : (P.info? e).map (fun i => (i.zero, i.size, i.bytes)) = some (some z, 1, bytes)) (hz1 : z.cells.size = 1)
    (v : Value) (n : Nat) (xs : List Value) (y : Value) (hy : y.oneCell' = true) (ad : Addr) (c : Nat)
    (hs : a.eval s = v) (hx : a.eval x = .slice (some ad) 1 c) (hown : w.ownsRow B e 1 v n xs) (hcell : w.cell? ad = some y)
    (h63 : n + 1 ≤ maxLen) (hbytes : (n + 1) * bytes ≤ 140737488355328) (hbase : B ≤ w.heap.size)
    (h : ∀ v' w', w'.ownsRow B e 1 v' (n + 1) (xs ++ [y]) → w.grownBy w' v.ownBlock → Below B w w' → SameOrNew w v v' → wpList P ops Q rest (a.put o.dst v') w') :
    wpList P ops Q (o :: rest) a w := by
  obtain ⟨i, hi, hzz⟩ := Option.map_eq_some_iff.1 hinfo
  simp only [Prod.mk.injEq] at hzz
  obtain ⟨hz, hsz, hb⟩ := hzz
  refine wpList_plain hgd fun K hK => ?_
  have hnews : ∀ j u, [y][j]? = some u → w.cell? (ad.add j) = some u := by
    intro j u hj
    match j, hj with
    | 0, hj => simp at hj; subst hj; simpa [Addr.add] using hcell
  obtain ⟨v', w', hr, h2, h3, h4⟩ := run_append_own (P := P) w B t o.type e i z 1 bytes ht hi hz hsz hb hz1 (by decide) v n xs hown ad 1 c [y] rfl hnews
    (by intro u hu; simp at hu; subst hu; exact hy) h63 hbytes hbase
  have hf := append_fresh ht hi hz hsz hb hown ad c y hcell hy h63 hbytes hr
  unfold Oper.wp execOp
  simp only [ho, resolve, invoke, builtin, Sem.run_bind, Sem.run_pure, Result.andThen_ok, List.map_toArray, List.map_cons, List.map_nil, hs, hx, hr]
  exact hK _ _ (h v' w' h2 h3 ((Below.refl _ _).grown h3 hbase fun k hk => (hown.lt k hk).1) hf)

theorem wpList_append_val {P : Program} {wr : World} {ops : Array Oper} {rest : List Oper} {o : Oper} {a : Act} {Q : Exit → Act → World → Prop} (hgd : o.guard = none)
    (s x : Operand) (t : TypeId) (ho : o.op = .call { callee := .builtin .append, args := #[s, x], argTypes := #[t, t] })
    (B e : Nat) (z : Value) (bytes : Nat) (ht : P.underlying t = some (.slice e)) (hinfo : (P.info? e).map (fun i => (i.zero, i.size, i.bytes)) = some (some z, 1, bytes)) (hz1 : z.cells.size = 1)
    (v : Value) (n : Nat) (xs : List Value) (y : Value) (hy : y.oneCell' = true)
    (hs : a.eval s = v) (hx : a.eval x = .slice (some ⟨wr.heap.size, 0, none⟩) 1 1) (hown : wr.ownsRow B e 1 v n xs)
    (h63 : n + 1 ≤ maxLen) (hbytes : (n + 1) * bytes ≤ 140737488355328) (hbase : B ≤ wr.heap.size)
    (h : ∀ v' w', w'.ownsRow B e 1 v' (n + 1) (xs ++ [y]) → wr.grownBy w' v.ownBlock → Below B wr w' → SameOrNew wr v v' → wpList P ops Q rest (a.put o.dst v') w') :
    wpList P ops Q (o :: rest) a (wr.alloc (.cells #[y] e)) := by
  refine wpList_append_new hgd s x t ho B e z bytes ht hinfo hz1 v n xs y hy ⟨wr.heap.size, 0, none⟩ 1 hs hx (hown.alloc _) ?_ h63 hbytes (by simp; omega) ?_
  · simp only [World.cell?, heap_alloc_new]; rfl
  · intro v' w' h1 h2 _ h4
    have hlt := hown.lt
    have hg : wr.grownBy w' v.ownBlock :=
      ⟨h2.os, h2.tape, h2.output, Nat.le_trans (by simp) h2.size, fun k hk hne => (h2.block k (by simp; omega) hne).trans (Below.heap_alloc wr _ k hk)⟩
    refine h v' w' h1 hg ((Below.refl _ _).grown hg hbase fun k hk => (hlt k hk).1) ?_
    rcases h4 with h4 | ⟨g, h4, h5⟩
    · exact .inl h4
    · exact .inr ⟨g, h4, by simp at h5; omega⟩
set_option maxHeartbeats 4000000

attribute [local go_sem] Oper.semAt_some

/-! ### two's complements -/
def sgnX (wd n : Nat) : Int := if wd < 8 ∧ 256 ^ wd / 2 ≤ n then (n : Int) + 18446744073709551616 - (256 ^ wd : Nat) else n
theorem high_1 (l : List UInt8) (h : l.length = 1) : 128 ≤ (l.getD 0 0).toNat ↔ 128 ≤ beVal l := by
  match l, h with
  | [x0], _ =>
    have h0 := UInt8.toNat_lt x0
    simp only [beVal, List.foldl, List.getD_cons_zero]
    omega
set_option maxRecDepth 20000 in
theorem rsigned_1_1 (w : World) (a : Option Addr) (c : Nat) (l : List UInt8) (h : BytesIn w a 1 c l) (hx : 128 ≤ (l.getD 0 0).toNat) :
    Calls Tryz.prog 97 #[.slice a 1 c] w fun e w' => e = .returned (.int .u64 (sgnX 1 (beVal l))) ∧ w = w' := by
  have hl := h.len
  have hlt := beVal_lt l
  rw [hl] at hlt
  have hm := (high_1 l hl)
  obtain ⟨b, o, rfl, hb, hcell⟩ := h.at_ (Nat.lt_of_lt_of_le (by decide) h.le)
  have hc := hcell 0 (by decide)
  rw [Nat.add_zero] at hc
  have HN := Lib.hid (rnumber_any w _ _ _ _ h (by decide))
  obtain ⟨x, hx0⟩ : ∃ x, (l.getD 0 0).toNat = x := ⟨_, rfl⟩
  rw [hx0] at hc hx hm
  have HE : sgnX 1 (beVal l) = ((beVal l : Nat) : Int) + 18446744073709551360 := by
    unfold sgnX
    rw [show (256 : Nat) ^ 1 = 256 from rfl] at *
    rw [if_pos ⟨by decide, by omega⟩]
    omega
  rw [HE]
  have d1 :  (128 : Int) ≤ x := by omega
  generalize beVal l = m at *
  have HM := Lib.hid hlt
  clear h hl hcell hm hx hx0 HE hlt
  go_enter Tryz.func97, Tryz.ntmps97
  go_wp2_with fail
  refine HN.out.mono ?_
  rintro e w1 ⟨rfl, rfl⟩
  go_wp2_with fail
  go_ret
  refine ⟨?_, rfl⟩
  have := HM.out
  show Ending.returned (Value.int _ (IntKind.wrap _ _)) = _
  congr 2
  simp only [IntKind.wrap, IntKind.bits, IntKind.signed, Bool.false_and, Bool.false_eq_true, if_false]
  omega
set_option maxRecDepth 20000 in
theorem rsigned_1_0 (w : World) (a : Option Addr) (c : Nat) (l : List UInt8) (h : BytesIn w a 1 c l) (hx : ¬ 128 ≤ (l.getD 0 0).toNat) :
    Calls Tryz.prog 97 #[.slice a 1 c] w fun e w' => e = .returned (.int .u64 (sgnX 1 (beVal l))) ∧ w = w' := by
  have hl := h.len
  have hlt := beVal_lt l
  rw [hl] at hlt
  have hm := (high_1 l hl)
  obtain ⟨b, o, rfl, hb, hcell⟩ := h.at_ (Nat.lt_of_lt_of_le (by decide) h.le)
  have hc := hcell 0 (by decide)
  rw [Nat.add_zero] at hc
  have HN := Lib.hid (rnumber_any w _ _ _ _ h (by decide))
  obtain ⟨x, hx0⟩ : ∃ x, (l.getD 0 0).toNat = x := ⟨_, rfl⟩
  rw [hx0] at hc hx hm
  have HE : sgnX 1 (beVal l) = (beVal l : Nat) := by
    unfold sgnX
    rw [show (256 : Nat) ^ 1 = 256 from rfl] at *
    rw [if_neg (by omega)]
  rw [HE]
  have d1 : ¬ (128 : Int) ≤ x := by omega
  generalize beVal l = m at *
  have HM := Lib.hid hlt
  clear h hl hcell hm hx hx0 HE hlt
  go_enter Tryz.func97, Tryz.ntmps97
  go_wp2_with fail
  refine HN.out.mono ?_
  rintro e w1 ⟨rfl, rfl⟩
  go_wp2_with fail
  go_ret
  refine ⟨?_, rfl⟩
  have := HM.out
  rfl
theorem high_2 (l : List UInt8) (h : l.length = 2) : 128 ≤ (l.getD 0 0).toNat ↔ 32768 ≤ beVal l := by
  match l, h with
  | [x0, x1], _ =>
    have h0 := UInt8.toNat_lt x0
    have h1 := UInt8.toNat_lt x1
    simp only [beVal, List.foldl, List.getD_cons_zero]
    omega
set_option maxRecDepth 20000 in
theorem rsigned_2_1 (w : World) (a : Option Addr) (c : Nat) (l : List UInt8) (h : BytesIn w a 2 c l) (hx : 128 ≤ (l.getD 0 0).toNat) :
    Calls Tryz.prog 97 #[.slice a 2 c] w fun e w' => e = .returned (.int .u64 (sgnX 2 (beVal l))) ∧ w = w' := by
  have hl := h.len
  have hlt := beVal_lt l
  rw [hl] at hlt
  have hm := (high_2 l hl)
  obtain ⟨b, o, rfl, hb, hcell⟩ := h.at_ (Nat.lt_of_lt_of_le (by decide) h.le)
  have hc := hcell 0 (by decide)
  rw [Nat.add_zero] at hc
  have HN := Lib.hid (rnumber_any w _ _ _ _ h (by decide))
  obtain ⟨x, hx0⟩ : ∃ x, (l.getD 0 0).toNat = x := ⟨_, rfl⟩
  rw [hx0] at hc hx hm
  have HE : sgnX 2 (beVal l) = ((beVal l : Nat) : Int) + 18446744073709486080 := by
    unfold sgnX
    rw [show (256 : Nat) ^ 2 = 65536 from rfl] at *
    rw [if_pos ⟨by decide, by omega⟩]
    omega
  rw [HE]
  have d1 :  (128 : Int) ≤ x := by omega
  generalize beVal l = m at *
  have HM := Lib.hid hlt
  clear h hl hcell hm hx hx0 HE hlt
  go_enter Tryz.func97, Tryz.ntmps97
  go_wp2_with fail
  refine HN.out.mono ?_
  rintro e w1 ⟨rfl, rfl⟩
  go_wp2_with fail
  go_ret
  refine ⟨?_, rfl⟩
  have := HM.out
  show Ending.returned (Value.int _ (IntKind.wrap _ _)) = _
  congr 2
  simp only [IntKind.wrap, IntKind.bits, IntKind.signed, Bool.false_and, Bool.false_eq_true, if_false]
  omega
set_option maxRecDepth 20000 in
theorem rsigned_2_0 (w : World) (a : Option Addr) (c : Nat) (l : List UInt8) (h : BytesIn w a 2 c l) (hx : ¬ 128 ≤ (l.getD 0 0).toNat) :
    Calls Tryz.prog 97 #[.slice a 2 c] w fun e w' => e = .returned (.int .u64 (sgnX 2 (beVal l))) ∧ w = w' := by
  have hl := h.len
  have hlt := beVal_lt l
  rw [hl] at hlt
  have hm := (high_2 l hl)
  obtain ⟨b, o, rfl, hb, hcell⟩ := h.at_ (Nat.lt_of_lt_of_le (by decide) h.le)
  have hc := hcell 0 (by decide)
  rw [Nat.add_zero] at hc
  have HN := Lib.hid (rnumber_any w _ _ _ _ h (by decide))
  obtain ⟨x, hx0⟩ : ∃ x, (l.getD 0 0).toNat = x := ⟨_, rfl⟩
  rw [hx0] at hc hx hm
  have HE : sgnX 2 (beVal l) = (beVal l : Nat) := by
    unfold sgnX
    rw [show (256 : Nat) ^ 2 = 65536 from rfl] at *
    rw [if_neg (by omega)]
  rw [HE]
  have d1 : ¬ (128 : Int) ≤ x := by omega
  generalize beVal l = m at *
  have HM := Lib.hid hlt
  clear h hl hcell hm hx hx0 HE hlt
  go_enter Tryz.func97, Tryz.ntmps97
  go_wp2_with fail
  refine HN.out.mono ?_
  rintro e w1 ⟨rfl, rfl⟩
  go_wp2_with fail
  go_ret
  refine ⟨?_, rfl⟩
  have := HM.out
  rfl
theorem high_4 (l : List UInt8) (h : l.length = 4) : 128 ≤ (l.getD 0 0).toNat ↔ 2147483648 ≤ beVal l := by
  match l, h with
  | [x0, x1, x2, x3], _ =>
    have h0 := UInt8.toNat_lt x0
    have h1 := UInt8.toNat_lt x1
    have h2 := UInt8.toNat_lt x2
    have h3 := UInt8.toNat_lt x3
    simp only [beVal, List.foldl, List.getD_cons_zero]
    omega
set_option maxRecDepth 20000 in
theorem rsigned_4_1 (w : World) (a : Option Addr) (c : Nat) (l : List UInt8) (h : BytesIn w a 4 c l) (hx : 128 ≤ (l.getD 0 0).toNat) :
    Calls Tryz.prog 97 #[.slice a 4 c] w fun e w' => e = .returned (.int .u64 (sgnX 4 (beVal l))) ∧ w = w' := by
  have hl := h.len
  have hlt := beVal_lt l
  rw [hl] at hlt
  have hm := (high_4 l hl)
  obtain ⟨b, o, rfl, hb, hcell⟩ := h.at_ (Nat.lt_of_lt_of_le (by decide) h.le)
  have hc := hcell 0 (by decide)
  rw [Nat.add_zero] at hc
  have HN := Lib.hid (rnumber_any w _ _ _ _ h (by decide))
  obtain ⟨x, hx0⟩ : ∃ x, (l.getD 0 0).toNat = x := ⟨_, rfl⟩
  rw [hx0] at hc hx hm
  have HE : sgnX 4 (beVal l) = ((beVal l : Nat) : Int) + 18446744069414584320 := by
    unfold sgnX
    rw [show (256 : Nat) ^ 4 = 4294967296 from rfl] at *
    rw [if_pos ⟨by decide, by omega⟩]
    omega
  rw [HE]
  have d1 :  (128 : Int) ≤ x := by omega
  generalize beVal l = m at *
  have HM := Lib.hid hlt
  clear h hl hcell hm hx hx0 HE hlt
  go_enter Tryz.func97, Tryz.ntmps97
  go_wp2_with fail
  refine HN.out.mono ?_
  rintro e w1 ⟨rfl, rfl⟩
  go_wp2_with fail
  go_ret
  refine ⟨?_, rfl⟩
  have := HM.out
  show Ending.returned (Value.int _ (IntKind.wrap _ _)) = _
  congr 2
  simp only [IntKind.wrap, IntKind.bits, IntKind.signed, Bool.false_and, Bool.false_eq_true, if_false]
  omega
set_option maxRecDepth 20000 in
theorem rsigned_4_0 (w : World) (a : Option Addr) (c : Nat) (l : List UInt8) (h : BytesIn w a 4 c l) (hx : ¬ 128 ≤ (l.getD 0 0).toNat) :
    Calls Tryz.prog 97 #[.slice a 4 c] w fun e w' => e = .returned (.int .u64 (sgnX 4 (beVal l))) ∧ w = w' := by
  have hl := h.len
  have hlt := beVal_lt l
  rw [hl] at hlt
  have hm := (high_4 l hl)
  obtain ⟨b, o, rfl, hb, hcell⟩ := h.at_ (Nat.lt_of_lt_of_le (by decide) h.le)
  have hc := hcell 0 (by decide)
  rw [Nat.add_zero] at hc
  have HN := Lib.hid (rnumber_any w _ _ _ _ h (by decide))
  obtain ⟨x, hx0⟩ : ∃ x, (l.getD 0 0).toNat = x := ⟨_, rfl⟩
  rw [hx0] at hc hx hm
  have HE : sgnX 4 (beVal l) = (beVal l : Nat) := by
    unfold sgnX
    rw [show (256 : Nat) ^ 4 = 4294967296 from rfl] at *
    rw [if_neg (by omega)]
  rw [HE]
  have d1 : ¬ (128 : Int) ≤ x := by omega
  generalize beVal l = m at *
  have HM := Lib.hid hlt
  clear h hl hcell hm hx hx0 HE hlt
  go_enter Tryz.func97, Tryz.ntmps97
  go_wp2_with fail
  refine HN.out.mono ?_
  rintro e w1 ⟨rfl, rfl⟩
  go_wp2_with fail
  go_ret
  refine ⟨?_, rfl⟩
  have := HM.out
  rfl
set_option maxRecDepth 20000 in
theorem rsigned_8 (w : World) (a : Option Addr) (c : Nat) (l : List UInt8) (h : BytesIn w a 8 c l) :
    Calls Tryz.prog 97 #[.slice a 8 c] w fun e w' => e = .returned (.int .u64 (sgnX 8 (beVal l))) ∧ w = w' := by
  have hl := h.len
  obtain ⟨b, o, rfl, hb, hcell⟩ := h.at_ (Nat.lt_of_lt_of_le (by decide) h.le)
  have HN := Lib.hid (rnumber_any w _ _ _ _ h (by decide))
  have HE : sgnX 8 (beVal l) = (beVal l : Nat) := by
    unfold sgnX
    rw [if_neg (by omega)]
  rw [HE]
  generalize beVal l = m at *
  clear h hl hcell HE
  go_enter Tryz.func97, Tryz.ntmps97
  go_wp2_with fail
  refine HN.out.mono ?_
  rintro e w1 ⟨rfl, rfl⟩
  go_wp2_with fail
  go_ret
  exact ⟨rfl, rfl⟩
theorem rsigned_any (w : World) (a : Option Addr) (wd c : Nat) (l : List UInt8) (h : BytesIn w a wd c l) (hw : wd = 1 ∨ wd = 2 ∨ wd = 4 ∨ wd = 8) :
    Calls Tryz.prog 97 #[.slice a wd c] w fun e w' => e = .returned (.int .u64 (sgnX wd (beVal l))) ∧ w = w' := by
  rcases hw with rfl | rfl | rfl | rfl
  · by_cases hx : 128 ≤ (l.getD 0 0).toNat
    · exact rsigned_1_1 w a c l h hx
    · exact rsigned_1_0 w a c l h hx
  · by_cases hx : 128 ≤ (l.getD 0 0).toNat
    · exact rsigned_2_1 w a c l h hx
    · exact rsigned_2_0 w a c l h hx
  · by_cases hx : 128 ≤ (l.getD 0 0).toNat
    · exact rsigned_4_1 w a c l h hx
    · exact rsigned_4_0 w a c l h hx
  · exact rsigned_8 w a c l h
end Go.Proofs.YtnnnfhobbnjmfaaGreatDoor
