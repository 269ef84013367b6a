/-
  What was written is read as it was: the readers. Plain lemmas. No conditions but that the value is right and no greater than a million.
-/
import Derived.Test.YtjipennigjlklaaDoorMg18
namespace Go.Proofs.YtjipennigjlklaaDoor
open Go.RowKit
set_option linter.unusedVariables false

theorem sgn_un {k : Int} {w : Nat} {n : Int} (hk : ¬ (k = 6 ∨ k = 7 ∨ k = 8 ∨ k = 9) ∨ w = 8) (h0 : 0 ≤ n) (h1 : n.toNat < 256 ^ w) : sgnW k w (n.toNat % 256 ^ w) = n := by
  unfold sgnW
  have e : n.toNat % 256 ^ w = n.toNat := Nat.mod_eq_of_lt h1
  rw [if_neg (by omega), e]
  omega
theorem sgn_1 {k n : Int} (hk : k = 6 ∨ k = 7 ∨ k = 8 ∨ k = 9) (hu : IsU64 n) (h : -128 ≤ twoC n ∧ twoC n < 128) : sgnW k 1 (n.toNat % 256 ^ 1) = n := by
  obtain ⟨h0, h1⟩ := hu
  unfold twoC at h
  unfold sgnW
  by_cases e : n < 9223372036854775808
  · rw [if_pos e] at h
    rw [if_neg (by omega)]; omega
  · rw [if_neg e] at h
    rw [if_pos ⟨hk, by omega, by omega⟩]; omega
theorem sgn_2 {k n : Int} (hk : k = 6 ∨ k = 7 ∨ k = 8 ∨ k = 9) (hu : IsU64 n) (h : -32768 ≤ twoC n ∧ twoC n < 32768) : sgnW k 2 (n.toNat % 256 ^ 2) = n := by
  obtain ⟨h0, h1⟩ := hu
  unfold twoC at h
  unfold sgnW
  by_cases e : n < 9223372036854775808
  · rw [if_pos e] at h
    rw [if_neg (by omega)]; omega
  · rw [if_neg e] at h
    rw [if_pos ⟨hk, by omega, by omega⟩]; omega
theorem sgn_4 {k n : Int} (hk : k = 6 ∨ k = 7 ∨ k = 8 ∨ k = 9) (hu : IsU64 n) (h : -2147483648 ≤ twoC n ∧ twoC n < 2147483648) : sgnW k 4 (n.toNat % 256 ^ 4) = n := by
  obtain ⟨h0, h1⟩ := hu
  unfold twoC at h
  unfold sgnW
  by_cases e : n < 9223372036854775808
  · rw [if_pos e] at h
    rw [if_neg (by omega)]; omega
  · rw [if_neg e] at h
    rw [if_pos ⟨hk, by omega, by omega⟩]; omega
theorem codeK_kind (k : Int) (s : Bool) (h1 : 1 ≤ k) (h2 : k ≤ 23) : kindC (codeK k s) = k ∧ DatC (codeK k s) := by
  have hk : k = 1 ∨ k = 2 ∨ k = 3 ∨ k = 4 ∨ k = 5 ∨ k = 6 ∨ k = 7 ∨ k = 8 ∨ k = 9 ∨ k = 10 ∨ k = 11 ∨ k = 12 ∨ k = 13 ∨ k = 14 ∨ k = 15 ∨ k = 16 ∨ k = 17 ∨ k = 18 ∨ k = 19 ∨ k = 20 ∨ k = 21 ∨ k = 22 ∨ k = 23 := by omega
  rcases hk with rfl | rfl | rfl | rfl | rfl | rfl | rfl | rfl | rfl | rfl | rfl | rfl | rfl | rfl | rfl | rfl | rfl | rfl | rfl | rfl | rfl | rfl | rfl <;> cases s <;> decide
theorem smV_text {v : V} (hk : v.kind = 18 ∨ v.kind = 19 ∨ v.kind = 20) (h : smV v = true) : v.text.size ≤ 255 := by
  unfold smV smallV narrowV at h
  rw [if_neg (by unfold IsSp; omega), if_neg (by omega), if_neg (by omega), if_pos hk] at h
  simpa using h
theorem smV_span {v : V} (hk : v.kind = 21 ∨ v.kind = 22 ∨ v.kind = 23) (h : smV v = true) : v.list.length ≤ 255 ∧ 1 + (inn v).length ≤ 255 := by
  unfold smV smallV at h
  rw [if_pos (show IsSp v.kind from hk)] at h
  simpa [spansB] using h
theorem smV_un {v : V} (hk : v.kind = 4 ∨ v.kind = 5) (h : smV v = true) : v.num ≤ 255 := by
  unfold smV smallV narrowV at h
  rw [if_neg (by unfold IsSp; omega), if_pos hk] at h
  simpa using h
theorem smV_sg {v : V} (hk : v.kind = 8 ∨ v.kind = 9) (h : smV v = true) : -128 ≤ twoC v.num ∧ twoC v.num ≤ 127 := by
  unfold smV smallV narrowV at h
  rw [if_neg (by unfold IsSp; omega), if_neg (by omega), if_pos hk] at h
  simpa using h

theorem dat_56 {v : V} {rv : List UInt8 → Res} {rd : Nat → List UInt8 → Res} (hr : Right v) (e : v.kind = 1) (t : List UInt8) : datR rv rd 86 (datV 86 v ++ t) = .ok (v, (datV 86 v).length) := by
  have f := hr.fields
  have hu := hr.wf.n
  unfold datR
  rw [if_neg (by decide), if_neg (by decide), if_neg (by decide), if_neg (by decide)]
  exact fixed_rt (w := 1) (by decide) (by decide) (V.ext e rfl (f.text (by rw [e]; decide)) (f.list (by rw [e]; decide)) (f.elem (by omega))) (sgn_un (by decide) hu.1 (by have h := f.numOk; rw [e] at h; simp [numOk] at h; omega)) (fun _ => by have h := f.numOk; rw [e] at h; simp [numOk] at h; have := hu.1; omega) (fun q => absurd q (by decide))
theorem dat_50 {v : V} {rv : List UInt8 → Res} {rd : Nat → List UInt8 → Res} (hr : Right v) (e : v.kind = 2) (t : List UInt8) : datR rv rd 80 (datV 80 v ++ t) = .ok (v, (datV 80 v).length) := by
  have f := hr.fields
  have hu := hr.wf.n
  unfold datR
  rw [if_neg (by decide), if_neg (by decide), if_neg (by decide), if_neg (by decide)]
  exact fixed_rt (w := 1) (by decide) (by decide) (V.ext e rfl (f.text (by rw [e]; decide)) (f.list (by rw [e]; decide)) (f.elem (by omega))) (sgn_un (by decide) hu.1 (by have h := f.numOk; rw [e] at h; simp [numOk] at h; omega)) (fun q => absurd q (by decide)) (fun q => absurd q (by decide))
theorem dat_60 {v : V} {rv : List UInt8 → Res} {rd : Nat → List UInt8 → Res} (hr : Right v) (e : v.kind = 3) (t : List UInt8) : datR rv rd 96 (datV 96 v ++ t) = .ok (v, (datV 96 v).length) := by
  have f := hr.fields
  have hu := hr.wf.n
  unfold datR
  rw [if_neg (by decide), if_neg (by decide), if_neg (by decide), if_neg (by decide)]
  exact fixed_rt (w := 2) (by decide) (by decide) (V.ext e rfl (f.text (by rw [e]; decide)) (f.list (by rw [e]; decide)) (f.elem (by omega))) (sgn_un (by decide) hu.1 (by have h := f.numOk; rw [e] at h; simp [numOk] at h; omega)) (fun q => absurd q (by decide)) (fun q => absurd q (by decide))
theorem dat_51 {v : V} {rv : List UInt8 → Res} {rd : Nat → List UInt8 → Res} (hr : Right v) (e : v.kind = 6) (t : List UInt8) : datR rv rd 81 (datV 81 v ++ t) = .ok (v, (datV 81 v).length) := by
  have f := hr.fields
  have hu := hr.wf.n
  unfold datR
  rw [if_neg (by decide), if_neg (by decide), if_neg (by decide), if_neg (by decide)]
  exact fixed_rt (w := 1) (by decide) (by decide) (V.ext e rfl (f.text (by rw [e]; decide)) (f.list (by rw [e]; decide)) (f.elem (by omega))) (sgn_1 (by decide) hu (by have h := f.numOk; rw [e] at h; simpa [numOk, within2] using h)) (fun q => absurd q (by decide)) (fun q => absurd q (by decide))
theorem dat_61 {v : V} {rv : List UInt8 → Res} {rd : Nat → List UInt8 → Res} (hr : Right v) (e : v.kind = 7) (t : List UInt8) : datR rv rd 97 (datV 97 v ++ t) = .ok (v, (datV 97 v).length) := by
  have f := hr.fields
  have hu := hr.wf.n
  unfold datR
  rw [if_neg (by decide), if_neg (by decide), if_neg (by decide), if_neg (by decide)]
  exact fixed_rt (w := 2) (by decide) (by decide) (V.ext e rfl (f.text (by rw [e]; decide)) (f.list (by rw [e]; decide)) (f.elem (by omega))) (sgn_2 (by decide) hu (by have h := f.numOk; rw [e] at h; simpa [numOk, within2] using h)) (fun q => absurd q (by decide)) (fun q => absurd q (by decide))
theorem dat_72 {v : V} {rv : List UInt8 → Res} {rd : Nat → List UInt8 → Res} (hr : Right v) (e : v.kind = 10) (t : List UInt8) : datR rv rd 114 (datV 114 v ++ t) = .ok (v, (datV 114 v).length) := by
  have f := hr.fields
  have hu := hr.wf.n
  unfold datR
  rw [if_neg (by decide), if_neg (by decide), if_neg (by decide), if_neg (by decide)]
  exact fixed_rt (w := 4) (by decide) (by decide) (V.ext e rfl (f.text (by rw [e]; decide)) (f.list (by rw [e]; decide)) (f.elem (by omega))) (sgn_un (by decide) hu.1 (by have h := f.numOk; rw [e] at h; simp [numOk] at h; omega)) (fun q => absurd q (by decide)) (fun q => absurd q (by decide))
theorem dat_82 {v : V} {rv : List UInt8 → Res} {rd : Nat → List UInt8 → Res} (hr : Right v) (e : v.kind = 11) (t : List UInt8) : datR rv rd 130 (datV 130 v ++ t) = .ok (v, (datV 130 v).length) := by
  have f := hr.fields
  have hu := hr.wf.n
  unfold datR
  rw [if_neg (by decide), if_neg (by decide), if_neg (by decide), if_neg (by decide)]
  exact fixed_rt (w := 8) (by decide) (by decide) (V.ext e rfl (f.text (by rw [e]; decide)) (f.list (by rw [e]; decide)) (f.elem (by omega))) (sgn_un (by decide) hu.1 (by have h := hu.2; omega)) (fun q => absurd q (by decide)) (fun q => absurd q (by decide))
theorem dat_74 {v : V} {rv : List UInt8 → Res} {rd : Nat → List UInt8 → Res} (hr : Right v) (e : v.kind = 12) (t : List UInt8) : datR rv rd 116 (datV 116 v ++ t) = .ok (v, (datV 116 v).length) := by
  have f := hr.fields
  have hu := hr.wf.n
  unfold datR
  rw [if_neg (by decide), if_neg (by decide), if_neg (by decide), if_neg (by decide)]
  exact fixed_rt (w := 4) (by decide) (by decide) (V.ext e rfl (f.text (by rw [e]; decide)) (f.list (by rw [e]; decide)) (f.elem (by omega))) (sgn_un (by decide) hu.1 (by have h := f.numOk; rw [e] at h; simp [numOk] at h; omega)) (fun q => absurd q (by decide)) (fun q => absurd q (by decide))
theorem dat_84 {v : V} {rv : List UInt8 → Res} {rd : Nat → List UInt8 → Res} (hr : Right v) (e : v.kind = 13) (t : List UInt8) : datR rv rd 132 (datV 132 v ++ t) = .ok (v, (datV 132 v).length) := by
  have f := hr.fields
  have hu := hr.wf.n
  unfold datR
  rw [if_neg (by decide), if_neg (by decide), if_neg (by decide), if_neg (by decide)]
  exact fixed_rt (w := 8) (by decide) (by decide) (V.ext e rfl (f.text (by rw [e]; decide)) (f.list (by rw [e]; decide)) (f.elem (by omega))) (sgn_un (by decide) hu.1 (by have h := hu.2; omega)) (fun q => absurd q (by decide)) (fun q => absurd q (by decide))
theorem dat_73 {v : V} {rv : List UInt8 → Res} {rd : Nat → List UInt8 → Res} (hr : Right v) (e : v.kind = 15) (t : List UInt8) : datR rv rd 115 (datV 115 v ++ t) = .ok (v, (datV 115 v).length) := by
  have f := hr.fields
  have hu := hr.wf.n
  unfold datR
  rw [if_neg (by decide), if_neg (by decide), if_neg (by decide), if_neg (by decide)]
  exact fixed_rt (w := 4) (by decide) (by decide) (V.ext e rfl (f.text (by rw [e]; decide)) (f.list (by rw [e]; decide)) (f.elem (by omega))) (sgn_un (by decide) hu.1 (by have h := f.numOk; rw [e] at h; simp [numOk] at h; omega)) (fun q => absurd q (by decide)) (fun _ => by have h := f.numOk; rw [e] at h; simp [numOk] at h; have := hu.1; unfold isCh; rw [decide_eq_true_eq]; omega)
theorem dat_83 {v : V} {rv : List UInt8 → Res} {rd : Nat → List UInt8 → Res} (hr : Right v) (e : v.kind = 16) (t : List UInt8) : datR rv rd 131 (datV 131 v ++ t) = .ok (v, (datV 131 v).length) := by
  have f := hr.fields
  have hu := hr.wf.n
  unfold datR
  rw [if_neg (by decide), if_neg (by decide), if_neg (by decide), if_neg (by decide)]
  exact fixed_rt (w := 8) (by decide) (by decide) (V.ext e rfl (f.text (by rw [e]; decide)) (f.list (by rw [e]; decide)) (f.elem (by omega))) (sgn_un (by decide) hu.1 (by have h := hu.2; omega)) (fun q => absurd q (by decide)) (fun q => absurd q (by decide))
theorem dat_52 {v : V} {rv : List UInt8 → Res} {rd : Nat → List UInt8 → Res} (hr : Right v) (e : v.kind = 4) (hs : smV v = true) (t : List UInt8) : datR rv rd 82 (datV 82 v ++ t) = .ok (v, (datV 82 v).length) := by
  have f := hr.fields
  have hu := hr.wf.n
  unfold datR
  rw [if_neg (by decide), if_neg (by decide), if_neg (by decide), if_neg (by decide)]
  exact fixed_rt (w := 1) (by decide) (by decide) (V.ext e rfl (f.text (by rw [e]; decide)) (f.list (by rw [e]; decide)) (f.elem (by omega))) (sgn_un (by decide) hu.1 (by have h := smV_un (by rw [e]; decide) hs; omega)) (fun q => absurd q (by decide)) (fun q => absurd q (by decide))
theorem dat_70 {v : V} {rv : List UInt8 → Res} {rd : Nat → List UInt8 → Res} (hr : Right v) (e : v.kind = 4) (t : List UInt8) : datR rv rd 112 (datV 112 v ++ t) = .ok (v, (datV 112 v).length) := by
  have f := hr.fields
  have hu := hr.wf.n
  unfold datR
  rw [if_neg (by decide), if_neg (by decide), if_neg (by decide), if_neg (by decide)]
  exact fixed_rt (w := 4) (by decide) (by decide) (V.ext e rfl (f.text (by rw [e]; decide)) (f.list (by rw [e]; decide)) (f.elem (by omega))) (sgn_un (by decide) hu.1 (by have h := f.numOk; rw [e] at h; simp [numOk] at h; omega)) (fun q => absurd q (by decide)) (fun q => absurd q (by decide))
theorem dat_53 {v : V} {rv : List UInt8 → Res} {rd : Nat → List UInt8 → Res} (hr : Right v) (e : v.kind = 5) (hs : smV v = true) (t : List UInt8) : datR rv rd 83 (datV 83 v ++ t) = .ok (v, (datV 83 v).length) := by
  have f := hr.fields
  have hu := hr.wf.n
  unfold datR
  rw [if_neg (by decide), if_neg (by decide), if_neg (by decide), if_neg (by decide)]
  exact fixed_rt (w := 1) (by decide) (by decide) (V.ext e rfl (f.text (by rw [e]; decide)) (f.list (by rw [e]; decide)) (f.elem (by omega))) (sgn_un (by decide) hu.1 (by have h := smV_un (by rw [e]; decide) hs; omega)) (fun q => absurd q (by decide)) (fun q => absurd q (by decide))
theorem dat_80 {v : V} {rv : List UInt8 → Res} {rd : Nat → List UInt8 → Res} (hr : Right v) (e : v.kind = 5) (t : List UInt8) : datR rv rd 128 (datV 128 v ++ t) = .ok (v, (datV 128 v).length) := by
  have f := hr.fields
  have hu := hr.wf.n
  unfold datR
  rw [if_neg (by decide), if_neg (by decide), if_neg (by decide), if_neg (by decide)]
  exact fixed_rt (w := 8) (by decide) (by decide) (V.ext e rfl (f.text (by rw [e]; decide)) (f.list (by rw [e]; decide)) (f.elem (by omega))) (sgn_un (by decide) hu.1 (by have h := hu.2; omega)) (fun q => absurd q (by decide)) (fun q => absurd q (by decide))
theorem dat_54 {v : V} {rv : List UInt8 → Res} {rd : Nat → List UInt8 → Res} (hr : Right v) (e : v.kind = 8) (hs : smV v = true) (t : List UInt8) : datR rv rd 84 (datV 84 v ++ t) = .ok (v, (datV 84 v).length) := by
  have f := hr.fields
  have hu := hr.wf.n
  unfold datR
  rw [if_neg (by decide), if_neg (by decide), if_neg (by decide), if_neg (by decide)]
  exact fixed_rt (w := 1) (by decide) (by decide) (V.ext e rfl (f.text (by rw [e]; decide)) (f.list (by rw [e]; decide)) (f.elem (by omega))) (sgn_1 (by decide) hu (by have h := smV_sg (by rw [e]; decide) hs; omega)) (fun q => absurd q (by decide)) (fun q => absurd q (by decide))
theorem dat_71 {v : V} {rv : List UInt8 → Res} {rd : Nat → List UInt8 → Res} (hr : Right v) (e : v.kind = 8) (t : List UInt8) : datR rv rd 113 (datV 113 v ++ t) = .ok (v, (datV 113 v).length) := by
  have f := hr.fields
  have hu := hr.wf.n
  unfold datR
  rw [if_neg (by decide), if_neg (by decide), if_neg (by decide), if_neg (by decide)]
  exact fixed_rt (w := 4) (by decide) (by decide) (V.ext e rfl (f.text (by rw [e]; decide)) (f.list (by rw [e]; decide)) (f.elem (by omega))) (sgn_4 (by decide) hu (by have h := f.numOk; rw [e] at h; simpa [numOk, within2] using h)) (fun q => absurd q (by decide)) (fun q => absurd q (by decide))
theorem dat_55 {v : V} {rv : List UInt8 → Res} {rd : Nat → List UInt8 → Res} (hr : Right v) (e : v.kind = 9) (hs : smV v = true) (t : List UInt8) : datR rv rd 85 (datV 85 v ++ t) = .ok (v, (datV 85 v).length) := by
  have f := hr.fields
  have hu := hr.wf.n
  unfold datR
  rw [if_neg (by decide), if_neg (by decide), if_neg (by decide), if_neg (by decide)]
  exact fixed_rt (w := 1) (by decide) (by decide) (V.ext e rfl (f.text (by rw [e]; decide)) (f.list (by rw [e]; decide)) (f.elem (by omega))) (sgn_1 (by decide) hu (by have h := smV_sg (by rw [e]; decide) hs; omega)) (fun q => absurd q (by decide)) (fun q => absurd q (by decide))
theorem dat_81 {v : V} {rv : List UInt8 → Res} {rd : Nat → List UInt8 → Res} (hr : Right v) (e : v.kind = 9) (t : List UInt8) : datR rv rd 129 (datV 129 v ++ t) = .ok (v, (datV 129 v).length) := by
  have f := hr.fields
  have hu := hr.wf.n
  unfold datR
  rw [if_neg (by decide), if_neg (by decide), if_neg (by decide), if_neg (by decide)]
  exact fixed_rt (w := 8) (by decide) (by decide) (V.ext e rfl (f.text (by rw [e]; decide)) (f.list (by rw [e]; decide)) (f.elem (by omega))) (sgn_un (by decide) hu.1 (by have h := hu.2; omega)) (fun q => absurd q (by decide)) (fun q => absurd q (by decide))
theorem dat_94 {v : V} {rv : List UInt8 → Res} {rd : Nat → List UInt8 → Res} (hr : Right v) (e : v.kind = 14) (t : List UInt8) : datR rv rd 148 (datV 148 v ++ t) = .ok (v, (datV 148 v).length) := by
  have f := hr.fields
  unfold datR
  rw [if_pos (by decide)]
  exact raw_rt (by decide) (by have h := f.textOk; rw [e] at h; simpa [textOk] using h) (V.ext e (f.num (by rw [e]; decide)) rfl (f.list (by rw [e]; decide)) (f.elem (by omega)))
theorem dat_98 {v : V} {rv : List UInt8 → Res} {rd : Nat → List UInt8 → Res} (hr : Right v) (e : v.kind = 17) (t : List UInt8) : datR rv rd 152 (datV 152 v ++ t) = .ok (v, (datV 152 v).length) := by
  have f := hr.fields
  unfold datR
  rw [if_pos (by decide)]
  exact raw_rt (by decide) (by have h := f.textOk; rw [e] at h; simpa [textOk] using h) (V.ext e (f.num (by rw [e]; decide)) rfl (f.list (by rw [e]; decide)) (f.elem (by omega)))
theorem dat_a0 {v : V} {rv : List UInt8 → Res} {rd : Nat → List UInt8 → Res} (hr : Right v) (e : v.kind = 18) (hs : smV v = true) (t : List UInt8) : datR rv rd 160 (datV 160 v ++ t) = .ok (v, (datV 160 v).length) := by
  have f := hr.fields
  unfold datR
  rw [if_neg (by decide), if_pos (by decide)]
  exact text_rt (by decide) (by have h := smV_text (by rw [e]; decide) hs; show _ < 256 ^ 1; omega) (by show (-1 : Int) < 0; omega) (V.ext e (f.num (by rw [e]; decide)) rfl (f.list (by rw [e]; decide)) (f.elem (by omega)))
theorem dat_a1 {v : V} {rv : List UInt8 → Res} {rd : Nat → List UInt8 → Res} (hr : Right v) (e : v.kind = 19) (hs : smV v = true) (t : List UInt8) : datR rv rd 161 (datV 161 v ++ t) = .ok (v, (datV 161 v).length) := by
  have f := hr.fields
  unfold datR
  rw [if_neg (by decide), if_pos (by decide)]
  exact text_rt (by decide) (by have h := smV_text (by rw [e]; decide) hs; show _ < 256 ^ 1; omega) (by have h := f.textOk; rw [e] at h; simp [textOk] at h; exact h) (V.ext e (f.num (by rw [e]; decide)) rfl (f.list (by rw [e]; decide)) (f.elem (by omega)))
theorem dat_a3 {v : V} {rv : List UInt8 → Res} {rd : Nat → List UInt8 → Res} (hr : Right v) (e : v.kind = 20) (hs : smV v = true) (t : List UInt8) : datR rv rd 163 (datV 163 v ++ t) = .ok (v, (datV 163 v).length) := by
  have f := hr.fields
  unfold datR
  rw [if_neg (by decide), if_pos (by decide)]
  exact text_rt (by decide) (by have h := smV_text (by rw [e]; decide) hs; show _ < 256 ^ 1; omega) (by have h := f.textOk; rw [e] at h; simp [textOk] at h; exact h) (V.ext e (f.num (by rw [e]; decide)) rfl (f.list (by rw [e]; decide)) (f.elem (by omega)))
theorem inn_wt (v : V) : (inn v).length < 81 * v.wt := by have h1 := inn_len v; have h2 := v.wt_eq; omega
theorem list_wt (v : V) : v.list.length < v.wt := v.len_lt
theorem dat_c0 {v : V} {rv : List UInt8 → Res} {rd : Nat → List UInt8 → Res} (hr : Right v) (e : v.kind = 21) (hs : smV v = true) (hrv : ∀ x ∈ v.list, ∀ t, rv (putV x ++ t) = .ok (x, (putV x).length)) (t : List UInt8) : datR rv rd 192 (datV 192 v ++ t) = .ok (v, (datV 192 v).length) := by
  have f := hr.fields
  unfold datR
  rw [if_neg (by decide), if_neg (by decide), if_pos (by decide), within_rt (c := 192) (by decide) (by have h := smV_span (by rw [e]; decide) hs; show 1 + _ < 256 ^ 1; omega) (by omega), span_rt (c := 192) (by decide) (by rw [e]; decide) (by have h := smV_span (by rw [e]; decide) hs; show _ < 256 ^ 1; omega) hrv (fun q => absurd q (by decide)) (V.ext e (f.num (by rw [e]; decide)) (f.text (by rw [e]; decide)) rfl (f.elem (by omega)))]
  rw [span_form (by decide)]
  simp only [List.length_append, putL_length]
theorem dat_c1 {v : V} {rv : List UInt8 → Res} {rd : Nat → List UInt8 → Res} (hr : Right v) (e : v.kind = 22) (hs : smV v = true) (hrv : ∀ x ∈ v.list, ∀ t, rv (putV x ++ t) = .ok (x, (putV x).length)) (t : List UInt8) : datR rv rd 193 (datV 193 v ++ t) = .ok (v, (datV 193 v).length) := by
  have f := hr.fields
  unfold datR
  rw [if_neg (by decide), if_neg (by decide), if_pos (by decide), within_rt (c := 193) (by decide) (by have h := smV_span (by rw [e]; decide) hs; show 1 + _ < 256 ^ 1; omega) (by omega), span_rt (c := 193) (by decide) (by rw [e]; decide) (by have h := smV_span (by rw [e]; decide) hs; show _ < 256 ^ 1; omega) hrv (fun _ => f.map e) (V.ext e (f.num (by rw [e]; decide)) (f.text (by rw [e]; decide)) rfl (f.elem (by omega)))]
  rw [span_form (by decide)]
  simp only [List.length_append, putL_length]
theorem dat_e0 {v : V} {rv : List UInt8 → Res} {rd : Nat → List UInt8 → Res} (hr : Right v) (e : v.kind = 23) (hs : smV v = true) (hrd : ∀ x ∈ v.list, ∀ t, rd (uniC v) (datV (uniC v) x ++ t) = .ok (x, (datV (uniC v) x).length)) (t : List UInt8) : datR rv rd 224 (datV 224 v ++ t) = .ok (v, (datV 224 v).length) := by
  have f := hr.fields
  have ha := f.arr e
  simp only [arrOk, decide_eq_true_eq] at ha
  have hc := codeK_kind v.elem (v.list.all smV) (by omega) (by omega)
  have hl : 1 ≤ (inn v).length := by rw [inn_eq, if_pos e, List.length_cons]; omega
  unfold datR
  rw [if_neg (by decide), if_neg (by decide), if_neg (by decide), if_pos (by decide), within_rt (c := 224) (by decide) (by have h := smV_span (by rw [e]; decide) hs; show 1 + _ < 256 ^ 1; omega) (by omega), arr_rt (c := 224) (by decide) e (by have h := smV_span (by rw [e]; decide) hs; show _ < 256 ^ 1; omega) hc.2 hrd hc.1 (V.ext e (f.num (by rw [e]; decide)) (f.text (by rw [e]; decide)) rfl rfl)]
  rw [span_form (by decide)]
  simp only [List.length_append, putL_length]
theorem lone_form {v : V} {c : Nat} (hr : Right v) (h : loneC v = some c) : c < 256 ∧ ¬ kindC c < 0 ∧ c ≠ 0 ∧ c / 16 = 4 ∧ v = .mk (kindC c) (if c = 0x41 then 1 else 0) ⟨#[]⟩ [] 0 := by
  have f := hr.fields
  have hu := hr.wf.n.1
  unfold loneC at h
  by_cases a : v.kind = 0
  · rw [if_pos a, Option.some.injEq] at h
    subst h
    exact ⟨by decide, by decide, by decide, by decide, V.ext a (f.num (by rw [a]; decide)) (f.text (by rw [a]; decide)) (f.list (by rw [a]; decide)) (f.elem (by omega))⟩
  rw [if_neg a] at h
  by_cases a : v.kind = 1 ∧ v.num = 1
  · rw [if_pos a, Option.some.injEq] at h
    subst h
    obtain ⟨a, b⟩ := a
    exact ⟨by decide, by decide, by decide, by decide, V.ext a b (f.text (by rw [a]; decide)) (f.list (by rw [a]; decide)) (f.elem (by omega))⟩
  rw [if_neg a] at h
  have a1 := a
  by_cases a : v.kind = 1
  · rw [if_pos a, Option.some.injEq] at h
    subst h
    have hn := f.numOk
    rw [a] at hn
    simp [numOk] at hn
    exact ⟨by decide, by decide, by decide, by decide, V.ext a (show v.num = 0 by omega) (f.text (by rw [a]; decide)) (f.list (by rw [a]; decide)) (f.elem (by omega))⟩
  rw [if_neg a] at h
  by_cases a : v.kind = 4 ∧ v.num = 0
  · rw [if_pos a, Option.some.injEq] at h
    subst h
    obtain ⟨a, b⟩ := a
    exact ⟨by decide, by decide, by decide, by decide, V.ext a b (f.text (by rw [a]; decide)) (f.list (by rw [a]; decide)) (f.elem (by omega))⟩
  rw [if_neg a] at h
  by_cases a : v.kind = 5 ∧ v.num = 0
  · rw [if_pos a, Option.some.injEq] at h
    subst h
    obtain ⟨a, b⟩ := a
    exact ⟨by decide, by decide, by decide, by decide, V.ext a b (f.text (by rw [a]; decide)) (f.list (by rw [a]; decide)) (f.elem (by omega))⟩
  rw [if_neg a] at h
  by_cases a : v.kind = 21 ∧ v.list = []
  · rw [if_pos a, Option.some.injEq] at h
    subst h
    obtain ⟨a, b⟩ := a
    exact ⟨by decide, by decide, by decide, by decide, V.ext a (f.num (by rw [a]; decide)) (f.text (by rw [a]; decide)) b (f.elem (by omega))⟩
  rw [if_neg a] at h
  cases h
theorem lone_none {v : V} (h : loneC v = none) : v.kind ≠ 0 := by
  intro a
  unfold loneC at h
  rw [if_pos a] at h
  cases h
end Go.Proofs.YtjipennigjlklaaDoor
