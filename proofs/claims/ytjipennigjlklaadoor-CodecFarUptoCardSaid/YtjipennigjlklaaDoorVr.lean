/-
  alone: what is amiss with a value by itself. Conditions: the value lies in memory; the tables stand.
-/
import Derived.Test.YtjipennigjlklaaDoorMg13
namespace Go.Proofs.YtjipennigjlklaaDoor
open Go.RowKit
set_option linter.unusedVariables false

noncomputable def aloneC (v : V) (d : Int) : Int :=
  if v.kind < 0 then 20 else if 24 < v.kind then 20 else if 32 < d then 26 else if extraV v = true then 25 else if numOk v.kind v.num = false then 21 else if textOk v.kind v.text = false then 22 else
  if v.kind = 22 then (if mapOk v.list = false then 23 else 0) else if v.kind = 23 then (if arrOk v = false then 24 else 0) else if v.kind = 24 then (if v.list.length = 2 then 0 else 27) else 0
def InK (v : V) (d : Int) : Prop := ¬ v.kind < 0 ∧ ¬ 24 < v.kind ∧ ¬ 32 < d
theorem aloneC_in {v : V} {d : Int} (h : InK v d) : aloneC v d = if extraV v = true then 25 else if numOk v.kind v.num = false then 21 else if textOk v.kind v.text = false then 22 else
    if v.kind = 22 then (if mapOk v.list = false then 23 else 0) else if v.kind = 23 then (if arrOk v = false then 24 else 0) else if v.kind = 24 then (if v.list.length = 2 then 0 else 27) else 0 := by
  rw [aloneC, if_neg h.1, if_neg h.2.1, if_neg h.2.2]
theorem aloneC_in3 {v : V} {d : Int} (h : InK v d ∧ extraV v = false ∧ numOk v.kind v.num = true ∧ textOk v.kind v.text = true) : aloneC v d =
    if v.kind = 22 then (if mapOk v.list = false then 23 else 0) else if v.kind = 23 then (if arrOk v = false then 24 else 0) else if v.kind = 24 then (if v.list.length = 2 then 0 else 27) else 0 := by
  rw [aloneC_in h.1, if_neg (by rw [h.2.1]; simp), if_neg (by rw [h.2.2.1]; simp), if_neg (by rw [h.2.2.2]; simp)]
set_option maxRecDepth 20000 in
set_option maxHeartbeats 4000000 in
theorem alone_any (v : V) (d : Int) (w : World) (s : Value) (h : VIn w v s) (hT : Tabs w) (hts : v.text.size ≤ 9223372036854775800) :
    Calls Tryd.prog 24 #[.agg #[.int .i64 v.kind, .int .u64 v.num, .string v.text, s, .int .i64 v.elem], .int .i64 d] w fun e w' => e = .returned (.int .i64 (aloneC v d)) ∧ Below w.heap.size w w' := by
  obtain ⟨p, c, hs, h1, h2, h3⟩ := h.slice
  obtain ⟨N, hN⟩ : ∃ N, v.list.length = N := ⟨_, rfl⟩
  rw [hN] at hs h1 h3
  subst hs
  unfold maxLen at h2
  obtain ⟨D, hD⟩ : ∃ D, aloneC v d = D := ⟨_, rfl⟩
  rw [hD]
  have HD := Lib.hid hD
  have HV := Lib.hid h
  have HN := Lib.hid hN
  have HT := Lib.hid hT
  have HTS := Lib.hid hts
  clear h hN hD hT hts
  go_enter Tryd.func24, Tryd.ntmps24
  go_upto_region 1 with fail
  have hb0 : Below w.heap.size w (w.alloc (.cells #[.int .i64 v.kind, .int .u64 v.num, .string v.text, (.slice p N c), .int .i64 v.elem] 25)) := ((Below.refl _ _).alloc (Nat.le_refl _) _)
  have ox : (w.alloc (.cells #[.int .i64 v.kind, .int .u64 v.num, .string v.text, (.slice p N c), .int .i64 v.elem] 25)).heap[w.heap.size]? = some (.cells #[.int .i64 v.kind, .int .u64 v.num, .string v.text, (.slice p N c), .int .i64 v.elem] 25 (0, 0)) := _root_.Go.heap_alloc_new _ _
  generalize (w.alloc (.cells #[.int .i64 v.kind, .int .u64 v.num, .string v.text, (.slice p N c), .int .i64 v.elem] 25)) = w0 at *
  obtain ⟨x, hx⟩ : ∃ x, w.heap.size = x := ⟨_, rfl⟩
  rw [hx] at ox ⊢
  have HB0 := Lib.hid hb0
  have HOx := Lib.hid ox
  clear hb0 ox hx
  have x0 : w0.cell? ⟨x, 0, none⟩ = some (.int .i64 v.kind) := (cell_of_row _ _ 0 _ _ _ HOx.out).trans rfl
  have x1 : w0.cell? ⟨x, 1, none⟩ = some (.int .u64 v.num) := (cell_of_row _ _ 1 _ _ _ HOx.out).trans rfl
  have x2 : w0.cell? ⟨x, 2, none⟩ = some (.string v.text) := (cell_of_row _ _ 2 _ _ _ HOx.out).trans rfl
  have x3 : w0.cell? ⟨x, 3, none⟩ = some (.slice p N c) := (cell_of_row _ _ 3 _ _ _ HOx.out).trans rfl
  have x4 : w0.cell? ⟨x, 4, none⟩ = some (.int .i64 v.elem) := (cell_of_row _ _ 4 _ _ _ HOx.out).trans rfl
  have HX : Hid (∀ W', Below w0.heap.size w0 W' → W'.cell? ⟨x, 0, none⟩ = some (.int .i64 v.kind) ∧ W'.cell? ⟨x, 1, none⟩ = some (.int .u64 v.num) ∧ W'.cell? ⟨x, 2, none⟩ = some (.string v.text) ∧ W'.cell? ⟨x, 3, none⟩ = some (.slice p N c) ∧ W'.cell? ⟨x, 4, none⟩ = some (.int .i64 v.elem)) := Lib.hid (fun W' hB => ⟨bs_cellV hB x0, bs_cellV hB x1, bs_cellV hB x2, bs_cellV hB x3, bs_cellV hB x4⟩)
  by_cases k0 : v.kind < 0
  · clear x1 x2 x3 x4
    have HDX := Lib.hid (show D = 20 by rw [← HD.out]; simp [aloneC, k0])
    go_wp2_with fail
    go_ret
    exact ⟨by rw [HDX.out]; rfl, HB0.out⟩
  by_cases k1 : 24 < v.kind
  · clear x1 x2 x3 x4
    have HDX := Lib.hid (show D = 20 by rw [← HD.out]; simp [aloneC, k0, k1])
    go_wp2_with fail
    go_ret
    exact ⟨by rw [HDX.out]; rfl, HB0.out⟩
  by_cases k2 : 32 < d
  · clear x1 x2 x3 x4
    have HDX := Lib.hid (show D = 26 by rw [← HD.out]; simp [aloneC, k0, k1, k2])
    go_wp2_with fail
    go_ret
    exact ⟨by rw [HDX.out]; rfl, HB0.out⟩
  have K : Hid (InK v d) := Lib.hid (And.intro k0 (And.intro k1 k2))
  have hc := extra_any v w0 _ (HV.out.blw HB0.out)
  obtain ⟨z1, hz1⟩ : ∃ z, extraV v = z := ⟨_, rfl⟩
  rw [hz1] at hc
  have Z1 := Lib.hid hz1
  clear hz1
  have HC := Lib.hid hc
  clear hc
  go_wp2_with fail
  refine HC.out.mono ?_
  rintro e w1 ⟨rfl, hb1⟩
  have HB1 := Lib.hid hb1
  clear hb1 x0 x1 x2 x3 x4 HC
  obtain ⟨x0, x1, x2, x3, x4⟩ := HX.out w1 HB1.out
  cases z1
  rotate_left
  · clear x0 x1 x2 x3 x4
    have HDX := Lib.hid (show D = 25 by rw [← HD.out]; rw [aloneC_in K.out]; simp [Z1.out])
    go_wp2_with fail
    go_ret
    exact ⟨by rw [HDX.out]; rfl, HB0.out.trans (HB1.out.mono HB0.out.size)⟩
  have hc := isNum_any v w1 _ (HV.out.blw (HB0.out.trans (HB1.out.mono HB0.out.size)))
  obtain ⟨z2, hz2⟩ : ∃ z, numOk v.kind v.num = z := ⟨_, rfl⟩
  rw [hz2] at hc
  have Z2 := Lib.hid hz2
  clear hz2
  have HC := Lib.hid hc
  clear hc
  go_wp2_with fail
  refine HC.out.mono ?_
  rintro e w2 ⟨rfl, hb2⟩
  have HB2 := Lib.hid (HB1.out.trans (hb2.mono HB1.out.size))
  clear hb2 x0 x1 x2 x3 x4 HC
  obtain ⟨x0, x1, x2, x3, x4⟩ := HX.out w2 HB2.out
  cases z2
  · clear x0 x1 x2 x3 x4
    have HDX := Lib.hid (show D = 21 by rw [← HD.out]; rw [aloneC_in K.out]; simp [Z1.out, Z2.out])
    go_wp2_with fail
    go_ret
    exact ⟨by rw [HDX.out]; rfl, HB0.out.trans (HB2.out.mono HB0.out.size)⟩
  have hc := isText_any v w2 _ (HV.out.blw (HB0.out.trans (HB2.out.mono HB0.out.size))) (HT.out.below (HB0.out.trans (HB2.out.mono HB0.out.size))) HTS.out
  obtain ⟨z3, hz3⟩ : ∃ z, textOk v.kind v.text = z := ⟨_, rfl⟩
  rw [hz3] at hc
  have Z3 := Lib.hid hz3
  clear hz3
  have HC := Lib.hid hc
  clear hc
  go_wp2_with fail
  refine HC.out.mono ?_
  rintro e w3 ⟨rfl, hb3⟩
  have HB3 := Lib.hid (HB2.out.trans (hb3.mono HB2.out.size))
  clear hb3 x0 x1 x2 x3 x4 HC
  obtain ⟨x0, x1, x2, x3, x4⟩ := HX.out w3 HB3.out
  cases z3
  · clear x0 x1 x2 x3 x4
    have HDX := Lib.hid (show D = 22 by rw [← HD.out]; rw [aloneC_in K.out]; simp [Z1.out, Z2.out, Z3.out])
    go_wp2_with fail
    go_ret
    exact ⟨by rw [HDX.out]; rfl, HB0.out.trans (HB3.out.mono HB0.out.size)⟩
  have ZZ := Lib.hid (And.intro K.out (And.intro Z1.out (And.intro Z2.out Z3.out)))
  by_cases m22 : v.kind = 22
  · have t22 : (v.kind == 22) = true := by simpa using m22
    have t23 : (v.kind == 23) = false := by simp [m22]
    have t24 : (v.kind == 24) = false := by simp [m22]
    have M := Lib.hid m22
    clear m22
    have hc := isMap_any v w3 _ (HV.out.blw (HB0.out.trans (HB3.out.mono HB0.out.size)))
    obtain ⟨z4, hz4⟩ : ∃ z, mapOk v.list = z := ⟨_, rfl⟩
    rw [hz4] at hc
    have Z4 := Lib.hid hz4
    clear hz4
    have HC := Lib.hid hc
    clear hc
    go_wp2_with fail
    refine HC.out.mono ?_
    rintro e w4 ⟨rfl, hb4⟩
    have HB4 := Lib.hid (HB3.out.trans (hb4.mono HB3.out.size))
    clear hb4 x0 x1 x2 x3 x4 HC
    obtain ⟨x0, x1, x2, x3, x4⟩ := HX.out w4 HB4.out
    cases z4
    · clear x1 x2 x3 x4
      have HDX := Lib.hid (show D = 23 by rw [← HD.out]; rw [aloneC_in3 ZZ.out]; simp [M.out, Z4.out])
      go_wp2_with fail
      go_ret
      exact ⟨by rw [HDX.out]; rfl, HB0.out.trans (HB4.out.mono HB0.out.size)⟩
    · clear x1 x2 x3 x4
      have HDX := Lib.hid (show D = 0 by rw [← HD.out]; rw [aloneC_in3 ZZ.out]; simp [M.out, Z4.out])
      go_wp2_with fail
      go_ret
      exact ⟨by rw [HDX.out]; rfl, HB0.out.trans (HB4.out.mono HB0.out.size)⟩
  have t22 : (v.kind == 22) = false := by simpa using m22
  have M := Lib.hid m22
  clear m22
  by_cases m23 : v.kind = 23
  · have t23 : (v.kind == 23) = true := by simpa using m23
    have t24 : (v.kind == 24) = false := by simp [m23]
    have M2 := Lib.hid m23
    clear m23
    have hc := isArray_any v w3 _ (HV.out.blw (HB0.out.trans (HB3.out.mono HB0.out.size)))
    obtain ⟨z4, hz4⟩ : ∃ z, arrOk v = z := ⟨_, rfl⟩
    rw [hz4] at hc
    have Z4 := Lib.hid hz4
    clear hz4
    have HC := Lib.hid hc
    clear hc
    go_wp2_with fail
    refine HC.out.mono ?_
    rintro e w4 ⟨rfl, hb4⟩
    have HB4 := Lib.hid (HB3.out.trans (hb4.mono HB3.out.size))
    clear hb4 x0 x1 x2 x3 x4 HC
    obtain ⟨x0, x1, x2, x3, x4⟩ := HX.out w4 HB4.out
    cases z4
    · clear x1 x2 x3 x4
      have HDX := Lib.hid (show D = 24 by rw [← HD.out]; rw [aloneC_in3 ZZ.out]; simp [M2.out, Z4.out])
      go_wp2_with fail
      go_ret
      exact ⟨by rw [HDX.out]; rfl, HB0.out.trans (HB4.out.mono HB0.out.size)⟩
    · clear x1 x2 x3 x4
      have HDX := Lib.hid (show D = 0 by rw [← HD.out]; rw [aloneC_in3 ZZ.out]; simp [M2.out, Z4.out])
      go_wp2_with fail
      go_ret
      exact ⟨by rw [HDX.out]; rfl, HB0.out.trans (HB4.out.mono HB0.out.size)⟩
  have t23 : (v.kind == 23) = false := by simpa using m23
  have M2 := Lib.hid m23
  clear m23
  by_cases m24 : v.kind = 24
  · have t24 : (v.kind == 24) = true := by simpa using m24
    have M3 := Lib.hid m24
    clear m24
    by_cases q : N = 2
    · have qn : ((N : Int) != 2) = false := by simp [q]
      have Q := Lib.hid q
      clear q
      clear x1 x2 x4
      have HDX := Lib.hid (show D = 0 by rw [← HD.out]; rw [aloneC_in3 ZZ.out]; simp [M3.out, HN.out, Q.out])
      go_wp2_with fail
      go_ret
      exact ⟨by rw [HDX.out]; rfl, HB0.out.trans (HB3.out.mono HB0.out.size)⟩
    · have qn : ((N : Int) != 2) = true := by simp; omega
      have Q := Lib.hid q
      clear q
      clear x1 x2 x4
      have HDX := Lib.hid (show D = 27 by rw [← HD.out]; rw [aloneC_in3 ZZ.out]; simp [M3.out, HN.out, Q.out])
      go_wp2_with fail
      go_ret
      exact ⟨by rw [HDX.out]; rfl, HB0.out.trans (HB3.out.mono HB0.out.size)⟩
  have t24 : (v.kind == 24) = false := by simpa using m24
  have M3 := Lib.hid m24
  clear m24 x1 x2 x4
  have HDX := Lib.hid (show D = 0 by rw [← HD.out]; rw [aloneC_in3 ZZ.out]; simp [M.out, M2.out, M3.out])
  go_wp2_with fail
  go_ret
  exact ⟨by rw [HDX.out]; rfl, HB0.out.trans (HB3.out.mono HB0.out.size)⟩

end Go.Proofs.YtjipennigjlklaaDoor
