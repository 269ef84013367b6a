/-
  The codec's small functions: narrow, lone, plain, code, width, spans. Conditions: the value lies in memory.
-/
import Derived.Test.YtjipennigjlklaaDoorMg16
import Derived.Test.YtjipennigjlklaaDoorVi
namespace Go.Proofs.YtjipennigjlklaaDoor
open Go.RowKit
set_option linter.unusedVariables false
set_option maxHeartbeats 4000000

attribute [local go_sem] Oper.semAt_some

set_option maxRecDepth 20000 in
theorem narrow_any (v : V) (w : World) (s : Value) (h : VIn w v s) :
    Calls Tryd.prog 31 #[.agg #[.int .i64 v.kind, .int .u64 v.num, .string v.text, s, .int .i64 v.elem]] w fun e w' => e = .returned (.bool (narrowV v)) ∧ Below w.heap.size w w' := by
  have e := wrap_twoC h.wf.n
  have HE := Lib.hid e
  obtain ⟨n0, n1⟩ := h.wf.n
  clear h e
  go_enter Tryd.func31, Tryd.ntmps31
  go_upto_region 1 with fail
  have hb0 : Below w.heap.size w (w.alloc (.cells #[.int .i64 v.kind, .int .u64 v.num, .string v.text, s, .int .i64 v.elem] 25)) := ((Below.refl _ _).alloc (Nat.le_refl _) _)
  have ox := _root_.Go.heap_alloc_new w (.cells #[.int .i64 v.kind, .int .u64 v.num, .string v.text, s, .int .i64 v.elem] 25)
  generalize (w.alloc (.cells #[.int .i64 v.kind, .int .u64 v.num, .string v.text, s, .int .i64 v.elem] 25)) = w0 at *
  obtain ⟨x, hx⟩ : ∃ x, w.heap.size = x := ⟨_, rfl⟩
  rw [hx] at ox ⊢
  have HB0 := Lib.hid hb0
  have x0 : w0.cell? ⟨x, 0, none⟩ = some (.int .i64 v.kind) := (cell_of_row _ _ 0 _ _ _ ox).trans rfl
  have x1 : w0.cell? ⟨x, 1, none⟩ = some (.int .u64 v.num) := (cell_of_row _ _ 1 _ _ _ ox).trans rfl
  have x2 : w0.cell? ⟨x, 2, none⟩ = some (.string v.text) := (cell_of_row _ _ 2 _ _ _ ox).trans rfl
  have HX := Lib.hid hx
  have HOX := Lib.hid ox
  clear hb0 ox hx
  go_wp2_with fail
  all_goals
    go_ret
    refine ⟨ret_boolV ?_, HB0.out⟩
    unfold narrowV
    have e := HE.out
    simp_all
    try omega
set_option maxRecDepth 20000 in
theorem lone_any (v : V) (w : World) (s : Value) (h : VIn w v s) :
    Calls Tryd.prog 26 #[.agg #[.int .i64 v.kind, .int .u64 v.num, .string v.text, s, .int .i64 v.elem]] w fun e w' => e = .returned (.tuple #[.int .u8 ((loneC v).getD 0 : Nat), .bool (loneC v).isSome]) ∧ Below w.heap.size w w' := by
  obtain ⟨p, c, hs, h1, h2, h3⟩ := h.slice
  obtain ⟨N, hN⟩ : ∃ N, v.list.length = N := ⟨_, rfl⟩
  rw [hN] at hs h1 h3
  subst hs
  have hl : v.list = [] ↔ N = 0 := by rw [← hN]; exact List.length_eq_zero_iff.symm
  obtain ⟨D, hD⟩ : ∃ D, loneC v = D := ⟨_, rfl⟩
  rw [hD]
  unfold loneC at hD
  simp only [hl] at hD
  have HD := Lib.hid hD
  clear h h1 h2 h3 hN hl hD
  go_enter Tryd.func26, Tryd.ntmps26
  go_upto_region 1 with fail
  have hb0 : Below w.heap.size w (w.alloc (.cells #[.int .i64 v.kind, .int .u64 v.num, .string v.text, (.slice p N c), .int .i64 v.elem] 25)) := ((Below.refl _ _).alloc (Nat.le_refl _) _)
  have ox := _root_.Go.heap_alloc_new w (.cells #[.int .i64 v.kind, .int .u64 v.num, .string v.text, (.slice p N c), .int .i64 v.elem] 25)
  generalize (w.alloc (.cells #[.int .i64 v.kind, .int .u64 v.num, .string v.text, (.slice p N c), .int .i64 v.elem] 25)) = w0 at *
  obtain ⟨x, hx⟩ : ∃ x, w.heap.size = x := ⟨_, rfl⟩
  rw [hx] at ox ⊢
  have HB0 := Lib.hid hb0
  have x0 : w0.cell? ⟨x, 0, none⟩ = some (.int .i64 v.kind) := (cell_of_row _ _ 0 _ _ _ ox).trans rfl
  have x1 : w0.cell? ⟨x, 1, none⟩ = some (.int .u64 v.num) := (cell_of_row _ _ 1 _ _ _ ox).trans rfl
  have x2 : w0.cell? ⟨x, 2, none⟩ = some (.string v.text) := (cell_of_row _ _ 2 _ _ _ ox).trans rfl
  have x3 : w0.cell? ⟨x, 3, none⟩ = some ((.slice p N c)) := (cell_of_row _ _ 3 _ _ _ ox).trans rfl
  have HX := Lib.hid hx
  have HOX := Lib.hid ox
  clear hb0 ox hx
  by_cases e0 : v.kind = 0
  · have hD := HD.out
    rw [if_pos e0] at hD
    subst hD
    go_wp2_with fail
    go_ret2
    exact ⟨rfl, HB0.out⟩
  · by_cases e1 : v.kind = 1
    · by_cases n1 : v.num = 1
      · have hD := HD.out
        rw [if_neg e0, if_pos ⟨e1, n1⟩] at hD
        subst hD
        go_wp2_with fail
        go_ret2
        exact ⟨rfl, HB0.out⟩
      · have hD := HD.out
        rw [if_neg e0, if_neg (fun q => n1 q.2), if_pos e1] at hD
        subst hD
        have n1' : (v.num == 1) = false := by simp [n1]
        go_wp2_with fail
        go_ret2
        exact ⟨rfl, HB0.out⟩
    · by_cases e4 : v.kind = 4
      · by_cases n0 : v.num = 0
        · have hD := HD.out
          rw [if_neg e0, if_neg (fun q => e1 q.1), if_neg e1, if_pos ⟨e4, n0⟩] at hD
          subst hD
          go_wp2_with fail
          go_ret2
          exact ⟨rfl, HB0.out⟩
        · have hD := HD.out
          rw [if_neg e0, if_neg (fun q => e1 q.1), if_neg e1, if_neg (fun q => n0 q.2), if_neg (by omega), if_neg (by omega)] at hD
          subst hD
          have n0' : (v.num == 0) = false := by simp [n0]
          go_wp2_with fail
          go_ret2
          exact ⟨rfl, HB0.out⟩
      · by_cases e5 : v.kind = 5
        · by_cases n0 : v.num = 0
          · have hD := HD.out
            rw [if_neg e0, if_neg (fun q => e1 q.1), if_neg e1, if_neg (fun q => e4 q.1), if_pos ⟨e5, n0⟩] at hD
            subst hD
            go_wp2_with fail
            go_ret2
            exact ⟨rfl, HB0.out⟩
          · have hD := HD.out
            rw [if_neg e0, if_neg (fun q => e1 q.1), if_neg e1, if_neg (fun q => e4 q.1), if_neg (fun q => n0 q.2), if_neg (by omega)] at hD
            subst hD
            have n0' : (v.num == 0) = false := by simp [n0]
            go_wp2_with fail
            go_ret2
            exact ⟨rfl, HB0.out⟩
        · by_cases e21 : v.kind = 21
          · by_cases hN : N = 0
            · have hD := HD.out
              rw [if_neg e0, if_neg (fun q => e1 q.1), if_neg e1, if_neg (fun q => e4 q.1), if_neg (fun q => e5 q.1), if_pos ⟨e21, hN⟩] at hD
              subst hD
              subst hN
              go_wp2_with fail
              go_ret2
              exact ⟨rfl, HB0.out⟩
            · have hD := HD.out
              rw [if_neg e0, if_neg (fun q => e1 q.1), if_neg e1, if_neg (fun q => e4 q.1), if_neg (fun q => e5 q.1), if_neg (fun q => hN q.2)] at hD
              subst hD
              have hN' : ((N : Int) == 0) = false := by simp [hN]
              go_wp2_with fail
              go_ret2
              exact ⟨rfl, HB0.out⟩
          · have hD := HD.out
            rw [if_neg e0, if_neg (fun q => e1 q.1), if_neg e1, if_neg (fun q => e4 q.1), if_neg (fun q => e5 q.1), if_neg (fun q => e21 q.1)] at hD
            subst hD
            go_wp2_with fail
            go_ret2
            exact ⟨rfl, HB0.out⟩
def OneK (k : Int) : Prop := k = 1 ∨ k = 2 ∨ k = 3 ∨ k = 6 ∨ k = 7 ∨ k = 10 ∨ k = 11 ∨ k = 12 ∨ k = 13 ∨ k = 15 ∨ k = 16
set_option maxRecDepth 20000 in
theorem plain_one (k : Int) (w : World) (h : OneK k) :
    Calls Tryd.prog 43 #[.int .i64 k] w fun e w' => (∃ m : Int, e = .returned (.tuple #[.int .u8 (codeK k true : Nat), .int .i64 m]) ∧ 0 < m) ∧ w = w' := by
  unfold OneK at h
  rcases h with rfl | rfl | rfl | rfl | rfl | rfl | rfl | rfl | rfl | rfl | rfl
  · have e : codeK 1 true = 86 := rfl
    rw [e]
    clear e
    go_enter Tryd.func43, Tryd.ntmps43
    go_wp2_with fail
    go_ret2
    exact ⟨⟨1, rfl, by omega⟩, rfl⟩
  · have e : codeK 2 true = 80 := rfl
    rw [e]
    clear e
    go_enter Tryd.func43, Tryd.ntmps43
    go_wp2_with fail
    go_ret2
    exact ⟨⟨1, rfl, by omega⟩, rfl⟩
  · have e : codeK 3 true = 96 := rfl
    rw [e]
    clear e
    go_enter Tryd.func43, Tryd.ntmps43
    go_wp2_with fail
    go_ret2
    exact ⟨⟨2, rfl, by omega⟩, rfl⟩
  · have e : codeK 6 true = 81 := rfl
    rw [e]
    clear e
    go_enter Tryd.func43, Tryd.ntmps43
    go_wp2_with fail
    go_ret2
    exact ⟨⟨1, rfl, by omega⟩, rfl⟩
  · have e : codeK 7 true = 97 := rfl
    rw [e]
    clear e
    go_enter Tryd.func43, Tryd.ntmps43
    go_wp2_with fail
    go_ret2
    exact ⟨⟨2, rfl, by omega⟩, rfl⟩
  · have e : codeK 10 true = 114 := rfl
    rw [e]
    clear e
    go_enter Tryd.func43, Tryd.ntmps43
    go_wp2_with fail
    go_ret2
    exact ⟨⟨4, rfl, by omega⟩, rfl⟩
  · have e : codeK 11 true = 130 := rfl
    rw [e]
    clear e
    go_enter Tryd.func43, Tryd.ntmps43
    go_wp2_with fail
    go_ret2
    exact ⟨⟨8, rfl, by omega⟩, rfl⟩
  · have e : codeK 12 true = 116 := rfl
    rw [e]
    clear e
    go_enter Tryd.func43, Tryd.ntmps43
    go_wp2_with fail
    go_ret2
    exact ⟨⟨4, rfl, by omega⟩, rfl⟩
  · have e : codeK 13 true = 132 := rfl
    rw [e]
    clear e
    go_enter Tryd.func43, Tryd.ntmps43
    go_wp2_with fail
    go_ret2
    exact ⟨⟨8, rfl, by omega⟩, rfl⟩
  · have e : codeK 15 true = 115 := rfl
    rw [e]
    clear e
    go_enter Tryd.func43, Tryd.ntmps43
    go_wp2_with fail
    go_ret2
    exact ⟨⟨4, rfl, by omega⟩, rfl⟩
  · have e : codeK 16 true = 131 := rfl
    rw [e]
    clear e
    go_enter Tryd.func43, Tryd.ntmps43
    go_wp2_with fail
    go_ret2
    exact ⟨⟨8, rfl, by omega⟩, rfl⟩
set_option maxRecDepth 20000 in
theorem plain_none (k : Int) (w : World) (h : ¬ OneK k) :
    Calls Tryd.prog 43 #[.int .i64 k] w fun e w' => e = .returned (.tuple #[.int .u8 0, .int .i64 0]) ∧ w = w' := by
  unfold OneK at h
  simp only [not_or] at h
  obtain ⟨h1, h2, h3, h6, h7, h10, h11, h12, h13, h15, h16⟩ := h
  go_enter Tryd.func43, Tryd.ntmps43
  go_wp2_with fail
  go_ret2
  exact ⟨rfl, rfl⟩
theorem pick_any (a b : Int) (q : Nat) (u : Bool) (w : World) (h : w.cell? ⟨q, 0, none⟩ = some (.bool u)) :
    Calls Tryd.prog 44 #[.int .u8 a, .int .u8 b, .pointer (some ⟨q, 0, none⟩)] w fun e w' => e = .returned (.int .u8 (if u then a else b)) ∧ w = w' := by
  cases u
  all_goals
    go_enter Tryd.func44, Tryd.ntmps44
    go_wp2_with fail
    go_ret
    exact ⟨rfl, rfl⟩
set_option maxRecDepth 20000 in
theorem code_any (k : Int) (u : Bool) (w : World) :
    Calls Tryd.prog 28 #[.int .i64 k, .bool u] w fun e w' => e = .returned (.int .u8 (codeK k u : Nat)) ∧ Below w.heap.size w w' := by
  have hmf : ∀ (fn : Fn) (first cap : Array Value) (w : World), (Instr.makeFunc fn first cap).run Tryd.prog w = .ok (.func fn first cap) w := fun _ _ _ _ => rfl
  obtain ⟨D, hD⟩ : ∃ D, codeK k u = D := ⟨_, rfl⟩
  rw [hD]
  have HD := Lib.hid hD
  clear hD
  go_enter Tryd.func28, Tryd.ntmps28
  go_upto_region 1 with fail
  have hb0 : Below w.heap.size w (w.alloc (.cells #[.bool u] 4)) := ((Below.refl _ _).alloc (Nat.le_refl _) _)
  have ox := _root_.Go.heap_alloc_new w (.cells #[.bool u] 4)
  generalize (w.alloc (.cells #[.bool u] 4)) = w0 at *
  obtain ⟨x, hx⟩ : ∃ x, w.heap.size = x := ⟨_, rfl⟩
  rw [hx] at ox ⊢
  have HB0 := Lib.hid hb0
  have hp := fun a b => pick_any a b x u w0 ((cell_of_row _ _ 0 _ _ _ ox).trans rfl)
  have HP := Lib.hid hp
  clear hb0 ox hx hp
  by_cases h : OneK k
  · have hc := plain_one k w0 h
    have e : codeK k true = codeK k u := by unfold OneK at h; rcases h with rfl | rfl | rfl | rfl | rfl | rfl | rfl | rfl | rfl | rfl | rfl <;> rfl
    rw [e, HD.out] at hc
    have HC := Lib.hid hc
    clear h hc e
    go_wp2_with fail
    refine HC.out.mono ?_
    rintro e w1 ⟨⟨m, rfl, hm⟩, rfl⟩
    go_wp2_with fail
    go_ret
    exact ⟨rfl, HB0.out⟩
  · have hc := plain_none k w0 h
    have HC := Lib.hid hc
    have HO := Lib.hid h
    clear h hc
    go_wp2_with fail
    refine HC.out.mono ?_
    rintro e w1 ⟨rfl, rfl⟩
    by_cases e4 : k = 4
    · have hD := HD.out
      rw [e4] at hD
      clear HD HO
      have hD2 : (D : Int) = if u = true then (82 : Int) else (112 : Int) := by rw [← hD]; cases u <;> rfl
      have HD2 := Lib.hid hD2
      clear hD hD2
      go_wp2_with fail
      refine (HP.out 82 112).mono ?_
      rintro e w1 ⟨rfl, rfl⟩
      rw [← HD2.out]
      clear HD2
      go_wp2_with fail
      go_ret
      exact ⟨rfl, HB0.out⟩
    by_cases e5 : k = 5
    · have hD := HD.out
      rw [e5] at hD
      clear HD HO
      have hD2 : (D : Int) = if u = true then (83 : Int) else (128 : Int) := by rw [← hD]; cases u <;> rfl
      have HD2 := Lib.hid hD2
      clear hD hD2
      go_wp2_with fail
      refine (HP.out 83 128).mono ?_
      rintro e w1 ⟨rfl, rfl⟩
      rw [← HD2.out]
      clear HD2
      go_wp2_with fail
      go_ret
      exact ⟨rfl, HB0.out⟩
    by_cases e8 : k = 8
    · have hD := HD.out
      rw [e8] at hD
      clear HD HO
      have hD2 : (D : Int) = if u = true then (84 : Int) else (113 : Int) := by rw [← hD]; cases u <;> rfl
      have HD2 := Lib.hid hD2
      clear hD hD2
      go_wp2_with fail
      refine (HP.out 84 113).mono ?_
      rintro e w1 ⟨rfl, rfl⟩
      rw [← HD2.out]
      clear HD2
      go_wp2_with fail
      go_ret
      exact ⟨rfl, HB0.out⟩
    by_cases e9 : k = 9
    · have hD := HD.out
      rw [e9] at hD
      clear HD HO
      have hD2 : (D : Int) = if u = true then (85 : Int) else (129 : Int) := by rw [← hD]; cases u <;> rfl
      have HD2 := Lib.hid hD2
      clear hD hD2
      go_wp2_with fail
      refine (HP.out 85 129).mono ?_
      rintro e w1 ⟨rfl, rfl⟩
      rw [← HD2.out]
      clear HD2
      go_wp2_with fail
      go_ret
      exact ⟨rfl, HB0.out⟩
    by_cases e14 : k = 14
    · have hD := HD.out
      rw [e14] at hD
      clear HD HO
      have hD2 : (D : Int) = 148 := by rw [← hD]; rfl
      have HD2 := Lib.hid hD2
      clear hD hD2
      go_wp2_with fail
      rw [HD2.out]
      go_ret
      exact ⟨rfl, HB0.out⟩
    by_cases e17 : k = 17
    · have hD := HD.out
      rw [e17] at hD
      clear HD HO
      have hD2 : (D : Int) = 152 := by rw [← hD]; rfl
      have HD2 := Lib.hid hD2
      clear hD hD2
      go_wp2_with fail
      rw [HD2.out]
      go_ret
      exact ⟨rfl, HB0.out⟩
    by_cases e18 : k = 18
    · have hD := HD.out
      rw [e18] at hD
      clear HD HO
      have hD2 : (D : Int) = if u = true then (160 : Int) else (176 : Int) := by rw [← hD]; cases u <;> rfl
      have HD2 := Lib.hid hD2
      clear hD hD2
      go_wp2_with fail
      refine (HP.out 160 176).mono ?_
      rintro e w1 ⟨rfl, rfl⟩
      rw [← HD2.out]
      clear HD2
      go_wp2_with fail
      go_ret
      exact ⟨rfl, HB0.out⟩
    by_cases e19 : k = 19
    · have hD := HD.out
      rw [e19] at hD
      clear HD HO
      have hD2 : (D : Int) = if u = true then (161 : Int) else (177 : Int) := by rw [← hD]; cases u <;> rfl
      have HD2 := Lib.hid hD2
      clear hD hD2
      go_wp2_with fail
      refine (HP.out 161 177).mono ?_
      rintro e w1 ⟨rfl, rfl⟩
      rw [← HD2.out]
      clear HD2
      go_wp2_with fail
      go_ret
      exact ⟨rfl, HB0.out⟩
    by_cases e20 : k = 20
    · have hD := HD.out
      rw [e20] at hD
      clear HD HO
      have hD2 : (D : Int) = if u = true then (163 : Int) else (179 : Int) := by rw [← hD]; cases u <;> rfl
      have HD2 := Lib.hid hD2
      clear hD hD2
      go_wp2_with fail
      refine (HP.out 163 179).mono ?_
      rintro e w1 ⟨rfl, rfl⟩
      rw [← HD2.out]
      clear HD2
      go_wp2_with fail
      go_ret
      exact ⟨rfl, HB0.out⟩
    by_cases e21 : k = 21
    · have hD := HD.out
      rw [e21] at hD
      clear HD HO
      have hD2 : (D : Int) = if u = true then (192 : Int) else (208 : Int) := by rw [← hD]; cases u <;> rfl
      have HD2 := Lib.hid hD2
      clear hD hD2
      go_wp2_with fail
      refine (HP.out 192 208).mono ?_
      rintro e w1 ⟨rfl, rfl⟩
      rw [← HD2.out]
      clear HD2
      go_wp2_with fail
      go_ret
      exact ⟨rfl, HB0.out⟩
    by_cases e22 : k = 22
    · have hD := HD.out
      rw [e22] at hD
      clear HD HO
      have hD2 : (D : Int) = if u = true then (193 : Int) else (209 : Int) := by rw [← hD]; cases u <;> rfl
      have HD2 := Lib.hid hD2
      clear hD hD2
      go_wp2_with fail
      refine (HP.out 193 209).mono ?_
      rintro e w1 ⟨rfl, rfl⟩
      rw [← HD2.out]
      clear HD2
      go_wp2_with fail
      go_ret
      exact ⟨rfl, HB0.out⟩
    have hD2 : (D : Int) = if u = true then (224 : Int) else (240 : Int) := by
      rw [← HD.out]
      have hn := HO.out
      unfold OneK at hn
      simp only [not_or] at hn
      obtain ⟨h1, h2, h3, h6, h7, h10, h11, h12, h13, h15, h16⟩ := hn
      unfold codeK
      rw [if_neg h1, if_neg h2, if_neg h3, if_neg h6, if_neg h7, if_neg h10, if_neg h11, if_neg h12, if_neg h13, if_neg h15, if_neg h16, if_neg e4, if_neg e5, if_neg e8, if_neg e9, if_neg e14, if_neg e17, if_neg e18, if_neg e19, if_neg e20, if_neg e21, if_neg e22]
      cases u <;> rfl
    have HD2 := Lib.hid hD2
    clear hD2 HD HO
    go_wp2_with fail
    refine (HP.out 224 240).mono ?_
    rintro e w1 ⟨rfl, rfl⟩
    rw [← HD2.out]
    clear HD2
    go_wp2_with fail
    go_ret
    exact ⟨rfl, HB0.out⟩
set_option maxRecDepth 20000 in
theorem width_any (c : Nat) (w : World) (hc : c < 256) :
    Calls Tryd.prog 46 #[.int .u8 (c : Int)] w fun e w' => e = .returned (.int .i64 (widC c : Nat)) ∧ w = w' := by
  obtain ⟨D, hD⟩ : ∃ D, widC c = D := ⟨_, rfl⟩
  rw [hD]
  unfold widC at hD
  go_enter Tryd.func46, Tryd.ntmps46
  have HD := Lib.hid hD
  clear hD
  by_cases e5 : (c : Int) / 16 = 5
  · have hD := HD.out
    rw [if_pos (by omega)] at hD
    subst hD
    clear HD
    go_wp2_with fail
    go_ret
    exact ⟨rfl, rfl⟩
  by_cases e6 : (c : Int) / 16 = 6
  · have hD := HD.out
    rw [if_neg (by omega), if_pos (by omega)] at hD
    subst hD
    clear HD
    go_wp2_with fail
    go_ret
    exact ⟨rfl, rfl⟩
  by_cases e7 : (c : Int) / 16 = 7
  · have hD := HD.out
    rw [if_neg (by omega), if_neg (by omega), if_pos (by omega)] at hD
    subst hD
    clear HD
    go_wp2_with fail
    go_ret
    exact ⟨rfl, rfl⟩
  by_cases e8 : (c : Int) / 16 = 8
  · have hD := HD.out
    rw [if_neg (by omega), if_neg (by omega), if_neg (by omega), if_pos (by omega)] at hD
    subst hD
    clear HD
    go_wp2_with fail
    go_ret
    exact ⟨rfl, rfl⟩
  have hD := HD.out
  rw [if_neg (by omega), if_neg (by omega), if_neg (by omega), if_neg (by omega)] at hD
  subst hD
  clear HD
  go_wp2_with fail
  go_ret
  exact ⟨rfl, rfl⟩
set_option maxRecDepth 20000 in
theorem spans_any (v : V) (w : World) (s : Value) (h : VIn w v s) (q : Option Addr) (m cc : Nat) (hm : (m : Int) ≤ 1000000000000) :
    Calls Tryd.prog 29 #[.agg #[.int .i64 v.kind, .int .u64 v.num, .string v.text, s, .int .i64 v.elem], .slice q m cc] w fun e w' => e = .returned (.bool (spansB v.list.length m)) ∧ Below w.heap.size w w' := by
  obtain ⟨p, c, hs, h1, h2, h3⟩ := h.slice
  obtain ⟨N, hN⟩ : ∃ N, v.list.length = N := ⟨_, rfl⟩
  rw [hN] at hs h1 h3 ⊢
  subst hs
  clear h h1 h2 h3 hN
  have hD : (decide ((N : Int) ≤ 255) && decide (1 + (m : Int) ≤ 255)) = spansB N m := by
    unfold spansB
    rw [Bool.eq_iff_iff]
    simp only [Bool.and_eq_true, decide_eq_true_eq]
    omega
  have HD := Lib.hid hD
  clear hD
  go_enter Tryd.func29, Tryd.ntmps29
  go_upto_region 1 with fail
  have hb0 : Below w.heap.size w (w.alloc (.cells #[.int .i64 v.kind, .int .u64 v.num, .string v.text, (.slice p N c), .int .i64 v.elem] 25)) := ((Below.refl _ _).alloc (Nat.le_refl _) _)
  have ox := _root_.Go.heap_alloc_new w (.cells #[.int .i64 v.kind, .int .u64 v.num, .string v.text, (.slice p N c), .int .i64 v.elem] 25)
  generalize (w.alloc (.cells #[.int .i64 v.kind, .int .u64 v.num, .string v.text, (.slice p N c), .int .i64 v.elem] 25)) = w0 at *
  obtain ⟨x, hx⟩ : ∃ x, w.heap.size = x := ⟨_, rfl⟩
  rw [hx] at ox ⊢
  have HB0 := Lib.hid hb0
  have x3 : w0.cell? ⟨x, 3, none⟩ = some ((.slice p N c)) := (cell_of_row _ _ 3 _ _ _ ox).trans rfl
  have HX := Lib.hid hx
  have HOX := Lib.hid ox
  clear hb0 ox hx
  by_cases h1 : (N : Int) ≤ 255
  · go_wp2_with fail
    go_ret
    refine ⟨ret_boolV ?_, HB0.out⟩
    rw [← HD.out]
    simp [h1]
  · have h1' : decide ((N : Int) ≤ 255) = false := by simp; omega
    go_wp2_with fail
    go_ret
    refine ⟨ret_boolV ?_, HB0.out⟩
    rw [← HD.out]
    simp [h1']
end Go.Proofs.YtjipennigjlklaaDoor
