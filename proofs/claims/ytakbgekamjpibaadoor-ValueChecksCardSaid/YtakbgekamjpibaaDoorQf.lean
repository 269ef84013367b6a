/-
  ValueChecks. Conditions: the value lies in memory; the tables stand.
-/
import Derived.Test.YtakbgekamjpibaaDoorNf
import Derived.Test.YtakbgekamjpibaaDoorQe
namespace Go.Proofs.YtakbgekamjpibaaDoor
open Go.RowKit
set_option linter.unusedVariables false

attribute [local go_sem] Oper.semAt_some

set_option maxRecDepth 20000 in
set_option maxHeartbeats 4000000 in
theorem checks_walk (w : World) (hT : Tabs w) (a : V) (s : Value) (ha : VIn w a s) :
    Calls Tryd.prog 3 #[.agg #[.int .i64 a.kind, .int .u64 a.num, .string a.text, s, .int .i64 a.elem]] w fun e w' => e = .returned (.bool true) ∧ Below w.heap.size w w' := by
  obtain ⟨pa, ca, hsa, hja⟩ := ha.slice
  clear hja
  obtain ⟨na, hna⟩ : ∃ n, a.list.length = n := ⟨_, rfl⟩
  rw [hna] at hsa
  subst hsa
  have HV := Lib.hid ha
  have HT := Lib.hid hT
  clear ha hT
  have HNA := Lib.hid hna
  clear hna
  go_enter Tryd.func3, Tryd.ntmps3
  go_upto_region 1 with fail
  have hb0 : Below w.heap.size w (w.alloc (.cells #[.int .i64 a.kind, .int .u64 a.num, .string a.text, .slice pa na ca, .int .i64 a.elem] 25)) := (Below.refl _ _).alloc (Nat.le_refl _) _
  have o0 : (w.alloc (.cells #[.int .i64 a.kind, .int .u64 a.num, .string a.text, .slice pa na ca, .int .i64 a.elem] 25)).heap[w.heap.size]? = some (.cells #[.int .i64 a.kind, .int .u64 a.num, .string a.text, .slice pa na ca, .int .i64 a.elem] 25 (0, 0)) := _root_.Go.heap_alloc_new w _
  generalize (w.alloc (.cells #[.int .i64 a.kind, .int .u64 a.num, .string a.text, .slice pa na ca, .int .i64 a.elem] 25)) = w0 at *
  obtain ⟨x0, hx0⟩ : ∃ x, w.heap.size = x := ⟨_, rfl⟩
  rw [hx0] at o0
  rw [hx0]
  have HX_x0 := Lib.hid hx0
  have HZw := Lib.hid hb0.size
  have hlt0 := (Array.getElem?_eq_some_iff.1 o0).1
  have HLT0 := Lib.hid hlt0
  clear hlt0
  have HM1 : Hid ((Below w.heap.size w w0) ∧ (w0.heap[x0]? = some (.cells #[.int .i64 a.kind, .int .u64 a.num, .string a.text, .slice pa na ca, .int .i64 a.elem] 25 (0, 0)))) := Lib.hid ((And.intro hb0 o0))
  clear hb0 o0 hx0
  have hc := awake_any w0 (HT.out.below HM1.out.1)
  have HC1 := Lib.hid hc
  clear hc
  go_wp2_with fail
  refine HC1.out.mono ?_
  rintro e W1 ⟨rfl, hb⟩
  have hz1 : w0.heap.size ≤ W1.heap.size := hb.size
  have HZ1 := Lib.hid hz1
  clear hz1
  have HM2 : Hid ((Below w.heap.size w W1) ∧ (W1.heap[x0]? = some (.cells #[.int .i64 a.kind, .int .u64 a.num, .string a.text, .slice pa na ca, .int .i64 a.elem] 25 (0, 0)))) := Lib.hid ((And.intro (HM1.out.1.trans (hb.mono HM1.out.1.size)) ((hb.block _ (Array.getElem?_eq_some_iff.1 HM1.out.2).1).trans HM1.out.2)))
  clear HM1
  clear hb
  obtain ⟨G, hG⟩ : ∃ G, decide (100000 < a.wt) = G := ⟨_, rfl⟩
  have HGD := Lib.hid hG
  clear hG
  have hc := great_any a W1 _ (HV.out.blw HM2.out.1)
  rw [HGD.out] at hc
  have HC2 := Lib.hid hc
  clear hc
  have q := HM2.out.2
  have x0_0 : W1.cell? ⟨x0, 0, none⟩ = some (.int .i64 a.kind) := (cell_of_row _ _ 0 _ _ _ q).trans rfl
  have x0_1 : W1.cell? ⟨x0, 1, none⟩ = some (.int .u64 a.num) := (cell_of_row _ _ 1 _ _ _ q).trans rfl
  have x0_2 : W1.cell? ⟨x0, 2, none⟩ = some (.string a.text) := (cell_of_row _ _ 2 _ _ _ q).trans rfl
  have x0_3 : W1.cell? ⟨x0, 3, none⟩ = some (.slice pa na ca) := (cell_of_row _ _ 3 _ _ _ q).trans rfl
  have x0_4 : W1.cell? ⟨x0, 4, none⟩ = some (.int .i64 a.elem) := (cell_of_row _ _ 4 _ _ _ q).trans rfl
  clear q
  go_wp2_with fail
  refine HC2.out.mono ?_
  clear x0_0 x0_1 x0_2 x0_3 x0_4
  rintro e W2 ⟨rfl, hb⟩
  have hz2 : W1.heap.size ≤ W2.heap.size := hb.size
  have HZ2 := Lib.hid hz2
  clear hz2
  have HM3 : Hid ((Below w.heap.size w W2) ∧ (W2.heap[x0]? = some (.cells #[.int .i64 a.kind, .int .u64 a.num, .string a.text, .slice pa na ca, .int .i64 a.elem] 25 (0, 0)))) := Lib.hid ((And.intro (HM2.out.1.trans (hb.mono HM2.out.1.size)) ((hb.block _ (Array.getElem?_eq_some_iff.1 HM2.out.2).1).trans HM2.out.2)))
  clear HM2
  clear hb
  cases G
  rotate_left
  · go_wp2_with fail
    go_ret
    exact ⟨rfl, HM3.out.1⟩
  have HW := Lib.hid (show a.wt ≤ 100000 from by have h1 := of_decide_eq_false HGD.out; omega)
  have HWF : Hid (V.Wf (V.mk a.kind (xor1 a.num) a.text (a.list.map V.turned) a.elem)) := Lib.hid (by have h := HV.out.wf.turned; rwa [V.turned_eq] at h)
  have HWTT : Hid (V.wt (V.mk a.kind (xor1 a.num) a.text (a.list.map V.turned) a.elem) ≤ 1000000) := Lib.hid (by have h := HW.out; have h2 := a.wt_eq; rw [V.wt_eq]; show 1 + a.text.size / 64 + wts (a.list.map V.turned) ≤ 1000000; rw [xor1_wt]; omega)
  obtain ⟨A1, hA1⟩ : ∃ D, firstBad (a.pre 1) = D := ⟨_, rfl⟩
  have HA1 := Lib.hid hA1
  clear hA1
  obtain ⟨B1, hB1⟩ : ∃ D, firstBad ((V.mk a.kind (xor1 a.num) a.text (a.list.map V.turned) a.elem).pre 1) = D := ⟨_, rfl⟩
  have HB1x := Lib.hid hB1
  clear hB1
  have hc := lent_on a W2 _ (HV.out.blw HM3.out.1) (by have := HW.out; omega)
  have HC3 := Lib.hid hc
  clear hc
  have q := HM3.out.2
  have x0_0 : W2.cell? ⟨x0, 0, none⟩ = some (.int .i64 a.kind) := (cell_of_row _ _ 0 _ _ _ q).trans rfl
  have x0_1 : W2.cell? ⟨x0, 1, none⟩ = some (.int .u64 a.num) := (cell_of_row _ _ 1 _ _ _ q).trans rfl
  have x0_2 : W2.cell? ⟨x0, 2, none⟩ = some (.string a.text) := (cell_of_row _ _ 2 _ _ _ q).trans rfl
  have x0_3 : W2.cell? ⟨x0, 3, none⟩ = some (.slice pa na ca) := (cell_of_row _ _ 3 _ _ _ q).trans rfl
  have x0_4 : W2.cell? ⟨x0, 4, none⟩ = some (.int .i64 a.elem) := (cell_of_row _ _ 4 _ _ _ q).trans rfl
  clear q
  go_wp2_with fail
  refine HC3.out.mono ?_
  clear x0_0 x0_1 x0_2 x0_3 x0_4
  rintro e W3 ⟨t_x5, F5, rfl, hvl, hb⟩
  obtain ⟨g_x5, hs, hj1, hj2⟩ := hvl.slice
  clear hj1 hj2
  rw [HNA.out] at hs
  subst hs
  have HIN_F5 : Hid (∀ g, F5 g → W2.heap.size ≤ g ∧ g < W3.heap.size) := Lib.hid (hvl.lt)
  have hz3 : W2.heap.size ≤ W3.heap.size := hb.size
  have HZ3 := Lib.hid hz3
  clear hz3
  have HM4 : Hid ((Below w.heap.size w W3) ∧ (W3.heap[x0]? = some (.cells #[.int .i64 a.kind, .int .u64 a.num, .string a.text, .slice pa na ca, .int .i64 a.elem] 25 (0, 0))) ∧ (VL W3 W2.heap.size a (.slice (some ⟨g_x5, 0, none⟩) na (na + 3)) F5)) := Lib.hid ((And.intro (HM3.out.1.trans (hb.mono HM3.out.1.size)) (And.intro ((hb.block _ (Array.getElem?_eq_some_iff.1 HM3.out.2).1).trans HM3.out.2) hvl)))
  clear HM3
  clear hb hvl
  go_upto_region 8 with (refine wpList_store_rowTo rfl 25 (.tmp 5) (.tmp 21) rfl rfl W3.heap.size #[.int .i64 a.kind, .int .u64 a.num, .string a.text, .slice (some ⟨g_x5, 0, none⟩) na (na + 3), .int .i64 a.elem] rfl rfl 25 #[.int .i64 0, .int .u64 0, .string ⟨#[]⟩, .slice none 0 0, .int .i64 0] (_root_.Go.heap_alloc_new W3 _) (by as_aux_lemma => kernel_rfl) (by as_aux_lemma => kernel_rfl) (by simp [Value.oneCell']) ?_)
  have hb_W4 : Below W3.heap.size W3 ((W3.alloc (.cells #[.int .i64 0, .int .u64 0, .string ⟨#[]⟩, .slice none 0 0, .int .i64 0] 25)).setRow W3.heap.size #[.int .i64 a.kind, .int .u64 a.num, .string a.text, .slice (some ⟨g_x5, 0, none⟩) na (na + 3), .int .i64 a.elem]) := below_setRow ((Below.refl _ _).alloc (Nat.le_refl _) _) (Nat.le_refl _) _
  have ox5 := setRow_heap (W3.alloc (.cells #[.int .i64 0, .int .u64 0, .string ⟨#[]⟩, .slice none 0 0, .int .i64 0] 25)) W3.heap.size _ #[.int .i64 a.kind, .int .u64 a.num, .string a.text, .slice (some ⟨g_x5, 0, none⟩) na (na + 3), .int .i64 a.elem] _ _ (_root_.Go.heap_alloc_new W3 _)
  change Code.wp _ _ _ _ ((W3.alloc (.cells #[.int .i64 0, .int .u64 0, .string ⟨#[]⟩, .slice none 0 0, .int .i64 0] 25)).setRow W3.heap.size #[.int .i64 a.kind, .int .u64 a.num, .string a.text, .slice (some ⟨g_x5, 0, none⟩) na (na + 3), .int .i64 a.elem])
  generalize ((W3.alloc (.cells #[.int .i64 0, .int .u64 0, .string ⟨#[]⟩, .slice none 0 0, .int .i64 0] 25)).setRow W3.heap.size #[.int .i64 a.kind, .int .u64 a.num, .string a.text, .slice (some ⟨g_x5, 0, none⟩) na (na + 3), .int .i64 a.elem]) = W4 at *
  obtain ⟨x5, hx_x5⟩ : ∃ x, W3.heap.size = x := ⟨_, rfl⟩
  rw [hx_x5] at ox5 ⊢
  have HX_x5 := Lib.hid hx_x5
  clear hx_x5
  have hlt := (Array.getElem?_eq_some_iff.1 ox5).1
  have HLT_x5 := Lib.hid hlt
  clear hlt
  have hz4 : W3.heap.size ≤ W4.heap.size := hb_W4.size
  have HZ4 := Lib.hid hz4
  clear hz4
  have HM5 : Hid ((Below w.heap.size w W4) ∧ (W4.heap[x0]? = some (.cells #[.int .i64 a.kind, .int .u64 a.num, .string a.text, .slice pa na ca, .int .i64 a.elem] 25 (0, 0))) ∧ (VL W4 W2.heap.size a (.slice (some ⟨g_x5, 0, none⟩) na (na + 3)) F5) ∧ (W4.heap[x5]? = some (.cells #[.int .i64 a.kind, .int .u64 a.num, .string a.text, .slice (some ⟨g_x5, 0, none⟩) na (na + 3), .int .i64 a.elem] 25 (0, 0)))) := Lib.hid ((And.intro (HM4.out.1.trans (hb_W4.mono HM4.out.1.size)) (And.intro ((hb_W4.block _ (Array.getElem?_eq_some_iff.1 HM4.out.2.1).1).trans HM4.out.2.1) (And.intro (HM4.out.2.2.blw hb_W4) ox5))))
  clear HM4
  clear hb_W4 ox5
  have hc := check_any a W4 _ HM5.out.2.2.1.vin (HT.out.below HM5.out.1) (by have := HW.out; omega)
  rw [HA1.out] at hc
  have HC5 := Lib.hid hc
  clear hc
  have q := HM5.out.2.2.2
  have x5_0 : W4.cell? ⟨x5, 0, none⟩ = some (.int .i64 a.kind) := (cell_of_row _ _ 0 _ _ _ q).trans rfl
  have x5_1 : W4.cell? ⟨x5, 1, none⟩ = some (.int .u64 a.num) := (cell_of_row _ _ 1 _ _ _ q).trans rfl
  have x5_2 : W4.cell? ⟨x5, 2, none⟩ = some (.string a.text) := (cell_of_row _ _ 2 _ _ _ q).trans rfl
  have x5_3 : W4.cell? ⟨x5, 3, none⟩ = some (.slice (some ⟨g_x5, 0, none⟩) na (na + 3)) := (cell_of_row _ _ 3 _ _ _ q).trans rfl
  have x5_4 : W4.cell? ⟨x5, 4, none⟩ = some (.int .i64 a.elem) := (cell_of_row _ _ 4 _ _ _ q).trans rfl
  clear q
  go_wp2_with fail
  refine HC5.out.mono ?_
  clear x5_0 x5_1 x5_2 x5_3 x5_4
  rintro e W5 ⟨rfl, hb⟩
  have hz5 : W4.heap.size ≤ W5.heap.size := hb.size
  have HZ5 := Lib.hid hz5
  clear hz5
  have HM6 : Hid ((Below w.heap.size w W5) ∧ (W5.heap[x0]? = some (.cells #[.int .i64 a.kind, .int .u64 a.num, .string a.text, .slice pa na ca, .int .i64 a.elem] 25 (0, 0))) ∧ (VL W5 W2.heap.size a (.slice (some ⟨g_x5, 0, none⟩) na (na + 3)) F5) ∧ (W5.heap[x5]? = some (.cells #[.int .i64 a.kind, .int .u64 a.num, .string a.text, .slice (some ⟨g_x5, 0, none⟩) na (na + 3), .int .i64 a.elem] 25 (0, 0)))) := Lib.hid ((And.intro (HM5.out.1.trans (hb.mono HM5.out.1.size)) (And.intro ((hb.block _ (Array.getElem?_eq_some_iff.1 HM5.out.2.1).1).trans HM5.out.2.1) (And.intro (HM5.out.2.2.1.blw hb) ((hb.block _ (Array.getElem?_eq_some_iff.1 HM5.out.2.2.2).1).trans HM5.out.2.2.2)))))
  clear HM5
  clear hb
  have hc := turned_on a W5 _ (HV.out.blw HM6.out.1) (by have := HW.out; omega)
  have HC6 := Lib.hid hc
  clear hc
  have q := HM6.out.2.1
  have x0_0 : W5.cell? ⟨x0, 0, none⟩ = some (.int .i64 a.kind) := (cell_of_row _ _ 0 _ _ _ q).trans rfl
  have x0_1 : W5.cell? ⟨x0, 1, none⟩ = some (.int .u64 a.num) := (cell_of_row _ _ 1 _ _ _ q).trans rfl
  have x0_2 : W5.cell? ⟨x0, 2, none⟩ = some (.string a.text) := (cell_of_row _ _ 2 _ _ _ q).trans rfl
  have x0_3 : W5.cell? ⟨x0, 3, none⟩ = some (.slice pa na ca) := (cell_of_row _ _ 3 _ _ _ q).trans rfl
  have x0_4 : W5.cell? ⟨x0, 4, none⟩ = some (.int .i64 a.elem) := (cell_of_row _ _ 4 _ _ _ q).trans rfl
  clear q
  go_wp2_with fail
  refine HC6.out.mono ?_
  clear x0_0 x0_1 x0_2 x0_3 x0_4
  rintro e W6 ⟨t_x7, FT, rfl, hvo, hb⟩
  rw [V.turned_eq] at hvo
  obtain ⟨p_x7, c_x7, hs, hj1, hj2⟩ := hvo.slice
  clear hj1 hj2
  rw [show (V.mk a.kind (xor1 a.num) a.text (a.list.map V.turned) a.elem).list.length = na by show (a.list.map V.turned).length = na; rw [List.length_map, HNA.out]] at hs
  subst hs
  have HIN_FT : Hid (∀ g, FT g → W5.heap.size ≤ g ∧ g < W6.heap.size) := Lib.hid (hvo.lt)
  have hz6 : W5.heap.size ≤ W6.heap.size := hb.size
  have HZ6 := Lib.hid hz6
  clear hz6
  have HM7 : Hid ((Below w.heap.size w W6) ∧ (W6.heap[x0]? = some (.cells #[.int .i64 a.kind, .int .u64 a.num, .string a.text, .slice pa na ca, .int .i64 a.elem] 25 (0, 0))) ∧ (VL W6 W2.heap.size a (.slice (some ⟨g_x5, 0, none⟩) na (na + 3)) F5) ∧ (W6.heap[x5]? = some (.cells #[.int .i64 a.kind, .int .u64 a.num, .string a.text, .slice (some ⟨g_x5, 0, none⟩) na (na + 3), .int .i64 a.elem] 25 (0, 0))) ∧ (VO W6 W5.heap.size (V.mk a.kind (xor1 a.num) a.text (a.list.map V.turned) a.elem) (.slice p_x7 na c_x7) FT)) := Lib.hid ((And.intro (HM6.out.1.trans (hb.mono HM6.out.1.size)) (And.intro ((hb.block _ (Array.getElem?_eq_some_iff.1 HM6.out.2.1).1).trans HM6.out.2.1) (And.intro (HM6.out.2.2.1.blw hb) (And.intro ((hb.block _ (Array.getElem?_eq_some_iff.1 HM6.out.2.2.2).1).trans HM6.out.2.2.2) hvo)))))
  clear HM6
  clear hb hvo
  go_upto_region 10 with (refine wpList_store_rowTo rfl 25 (.tmp 7) (.tmp 25) rfl rfl W6.heap.size #[.int .i64 a.kind, .int .u64 (xor1 a.num), .string a.text, .slice p_x7 na c_x7, .int .i64 a.elem] rfl rfl 25 #[.int .i64 0, .int .u64 0, .string ⟨#[]⟩, .slice none 0 0, .int .i64 0] (_root_.Go.heap_alloc_new W6 _) (by as_aux_lemma => kernel_rfl) (by as_aux_lemma => kernel_rfl) (by simp [Value.oneCell']) ?_)
  have hb_W7 : Below W6.heap.size W6 ((W6.alloc (.cells #[.int .i64 0, .int .u64 0, .string ⟨#[]⟩, .slice none 0 0, .int .i64 0] 25)).setRow W6.heap.size #[.int .i64 a.kind, .int .u64 (xor1 a.num), .string a.text, .slice p_x7 na c_x7, .int .i64 a.elem]) := below_setRow ((Below.refl _ _).alloc (Nat.le_refl _) _) (Nat.le_refl _) _
  have ox7 := setRow_heap (W6.alloc (.cells #[.int .i64 0, .int .u64 0, .string ⟨#[]⟩, .slice none 0 0, .int .i64 0] 25)) W6.heap.size _ #[.int .i64 a.kind, .int .u64 (xor1 a.num), .string a.text, .slice p_x7 na c_x7, .int .i64 a.elem] _ _ (_root_.Go.heap_alloc_new W6 _)
  change Code.wp _ _ _ _ ((W6.alloc (.cells #[.int .i64 0, .int .u64 0, .string ⟨#[]⟩, .slice none 0 0, .int .i64 0] 25)).setRow W6.heap.size #[.int .i64 a.kind, .int .u64 (xor1 a.num), .string a.text, .slice p_x7 na c_x7, .int .i64 a.elem])
  generalize ((W6.alloc (.cells #[.int .i64 0, .int .u64 0, .string ⟨#[]⟩, .slice none 0 0, .int .i64 0] 25)).setRow W6.heap.size #[.int .i64 a.kind, .int .u64 (xor1 a.num), .string a.text, .slice p_x7 na c_x7, .int .i64 a.elem]) = W7 at *
  obtain ⟨x7, hx_x7⟩ : ∃ x, W6.heap.size = x := ⟨_, rfl⟩
  rw [hx_x7] at ox7 ⊢
  have HX_x7 := Lib.hid hx_x7
  clear hx_x7
  have hlt := (Array.getElem?_eq_some_iff.1 ox7).1
  have HLT_x7 := Lib.hid hlt
  clear hlt
  have hz7 : W6.heap.size ≤ W7.heap.size := hb_W7.size
  have HZ7 := Lib.hid hz7
  clear hz7
  have HM8 : Hid ((Below w.heap.size w W7) ∧ (W7.heap[x0]? = some (.cells #[.int .i64 a.kind, .int .u64 a.num, .string a.text, .slice pa na ca, .int .i64 a.elem] 25 (0, 0))) ∧ (VL W7 W2.heap.size a (.slice (some ⟨g_x5, 0, none⟩) na (na + 3)) F5) ∧ (W7.heap[x5]? = some (.cells #[.int .i64 a.kind, .int .u64 a.num, .string a.text, .slice (some ⟨g_x5, 0, none⟩) na (na + 3), .int .i64 a.elem] 25 (0, 0))) ∧ (VO W7 W5.heap.size (V.mk a.kind (xor1 a.num) a.text (a.list.map V.turned) a.elem) (.slice p_x7 na c_x7) FT) ∧ (W7.heap[x7]? = some (.cells #[.int .i64 a.kind, .int .u64 (xor1 a.num), .string a.text, .slice p_x7 na c_x7, .int .i64 a.elem] 25 (0, 0)))) := Lib.hid ((And.intro (HM7.out.1.trans (hb_W7.mono HM7.out.1.size)) (And.intro ((hb_W7.block _ (Array.getElem?_eq_some_iff.1 HM7.out.2.1).1).trans HM7.out.2.1) (And.intro (HM7.out.2.2.1.blw hb_W7) (And.intro ((hb_W7.block _ (Array.getElem?_eq_some_iff.1 HM7.out.2.2.2.1).1).trans HM7.out.2.2.2.1) (And.intro (HM7.out.2.2.2.2.blw hb_W7) ox7))))))
  clear HM7
  clear hb_W7 ox7
  have hc := requal_any a W7 _ a _ HM8.out.2.2.1.vin (HV.out.blw HM8.out.1)
  rw [decide_eq_true rfl] at hc
  have HC8 := Lib.hid hc
  clear hc
  have q := HM8.out.2.2.2.1
  have x5_0 : W7.cell? ⟨x5, 0, none⟩ = some (.int .i64 a.kind) := (cell_of_row _ _ 0 _ _ _ q).trans rfl
  have x5_1 : W7.cell? ⟨x5, 1, none⟩ = some (.int .u64 a.num) := (cell_of_row _ _ 1 _ _ _ q).trans rfl
  have x5_2 : W7.cell? ⟨x5, 2, none⟩ = some (.string a.text) := (cell_of_row _ _ 2 _ _ _ q).trans rfl
  have x5_3 : W7.cell? ⟨x5, 3, none⟩ = some (.slice (some ⟨g_x5, 0, none⟩) na (na + 3)) := (cell_of_row _ _ 3 _ _ _ q).trans rfl
  have x5_4 : W7.cell? ⟨x5, 4, none⟩ = some (.int .i64 a.elem) := (cell_of_row _ _ 4 _ _ _ q).trans rfl
  clear q
  have q := HM8.out.2.1
  have x0_0 : W7.cell? ⟨x0, 0, none⟩ = some (.int .i64 a.kind) := (cell_of_row _ _ 0 _ _ _ q).trans rfl
  have x0_1 : W7.cell? ⟨x0, 1, none⟩ = some (.int .u64 a.num) := (cell_of_row _ _ 1 _ _ _ q).trans rfl
  have x0_2 : W7.cell? ⟨x0, 2, none⟩ = some (.string a.text) := (cell_of_row _ _ 2 _ _ _ q).trans rfl
  have x0_3 : W7.cell? ⟨x0, 3, none⟩ = some (.slice pa na ca) := (cell_of_row _ _ 3 _ _ _ q).trans rfl
  have x0_4 : W7.cell? ⟨x0, 4, none⟩ = some (.int .i64 a.elem) := (cell_of_row _ _ 4 _ _ _ q).trans rfl
  clear q
  go_wp2_with fail
  refine HC8.out.mono ?_
  clear x5_0 x5_1 x5_2 x5_3 x5_4 x0_0 x0_1 x0_2 x0_3 x0_4
  rintro e W8 ⟨rfl, hb⟩
  have hz8 : W7.heap.size ≤ W8.heap.size := hb.size
  have HZ8 := Lib.hid hz8
  clear hz8
  have HM9 : Hid ((Below w.heap.size w W8) ∧ (W8.heap[x0]? = some (.cells #[.int .i64 a.kind, .int .u64 a.num, .string a.text, .slice pa na ca, .int .i64 a.elem] 25 (0, 0))) ∧ (VL W8 W2.heap.size a (.slice (some ⟨g_x5, 0, none⟩) na (na + 3)) F5) ∧ (W8.heap[x5]? = some (.cells #[.int .i64 a.kind, .int .u64 a.num, .string a.text, .slice (some ⟨g_x5, 0, none⟩) na (na + 3), .int .i64 a.elem] 25 (0, 0))) ∧ (VO W8 W5.heap.size (V.mk a.kind (xor1 a.num) a.text (a.list.map V.turned) a.elem) (.slice p_x7 na c_x7) FT) ∧ (W8.heap[x7]? = some (.cells #[.int .i64 a.kind, .int .u64 (xor1 a.num), .string a.text, .slice p_x7 na c_x7, .int .i64 a.elem] 25 (0, 0)))) := Lib.hid ((And.intro (HM8.out.1.trans (hb.mono HM8.out.1.size)) (And.intro ((hb.block _ (Array.getElem?_eq_some_iff.1 HM8.out.2.1).1).trans HM8.out.2.1) (And.intro (HM8.out.2.2.1.blw hb) (And.intro ((hb.block _ (Array.getElem?_eq_some_iff.1 HM8.out.2.2.2.1).1).trans HM8.out.2.2.2.1) (And.intro (HM8.out.2.2.2.2.1.blw hb) ((hb.block _ (Array.getElem?_eq_some_iff.1 HM8.out.2.2.2.2.2).1).trans HM8.out.2.2.2.2.2)))))))
  clear HM8
  clear hb
  have hc := over_on a W8 (Proofs.YtakbgekamjpibaaDoor.only W8 FT) _ _ _ F5 (V.mk a.kind (xor1 a.num) a.text (a.list.map V.turned) a.elem) HM9.out.2.2.1 (VO.only HM9.out.2.2.2.2.1) rfl (fun W hW => only_rd (fun j hj => hW.block j (VO.lt HM9.out.2.2.2.2.1 j hj).2 (fun q => by have h1 := HIN_F5.out j q; have h2 := HIN_FT.out j hj; have z0 := HX_x0.out; have z1 := HZw.out; have z2 := HLT0.out; have z3 := HZ1.out; have z4 := HZ2.out; have z5 := HZ3.out; have z6 := HX_x5.out; have z7 := HLT_x5.out; have z8 := HZ4.out; have z9 := HZ5.out; have z10 := HZ6.out; have z11 := HX_x7.out; have z12 := HLT_x7.out; have z13 := HZ7.out; have z14 := HZ8.out; omega))) (by have := HW.out; omega)
  have HC9 := Lib.hid hc
  clear hc
  have q := HM9.out.2.2.2.1
  have x5_0 : W8.cell? ⟨x5, 0, none⟩ = some (.int .i64 a.kind) := (cell_of_row _ _ 0 _ _ _ q).trans rfl
  have x5_1 : W8.cell? ⟨x5, 1, none⟩ = some (.int .u64 a.num) := (cell_of_row _ _ 1 _ _ _ q).trans rfl
  have x5_2 : W8.cell? ⟨x5, 2, none⟩ = some (.string a.text) := (cell_of_row _ _ 2 _ _ _ q).trans rfl
  have x5_3 : W8.cell? ⟨x5, 3, none⟩ = some (.slice (some ⟨g_x5, 0, none⟩) na (na + 3)) := (cell_of_row _ _ 3 _ _ _ q).trans rfl
  have x5_4 : W8.cell? ⟨x5, 4, none⟩ = some (.int .i64 a.elem) := (cell_of_row _ _ 4 _ _ _ q).trans rfl
  clear q
  have q := HM9.out.2.2.2.2.2
  have x7_0 : W8.cell? ⟨x7, 0, none⟩ = some (.int .i64 a.kind) := (cell_of_row _ _ 0 _ _ _ q).trans rfl
  have x7_1 : W8.cell? ⟨x7, 1, none⟩ = some (.int .u64 (xor1 a.num)) := (cell_of_row _ _ 1 _ _ _ q).trans rfl
  have x7_2 : W8.cell? ⟨x7, 2, none⟩ = some (.string a.text) := (cell_of_row _ _ 2 _ _ _ q).trans rfl
  have x7_3 : W8.cell? ⟨x7, 3, none⟩ = some (.slice p_x7 na c_x7) := (cell_of_row _ _ 3 _ _ _ q).trans rfl
  have x7_4 : W8.cell? ⟨x7, 4, none⟩ = some (.int .i64 a.elem) := (cell_of_row _ _ 4 _ _ _ q).trans rfl
  clear q
  go_wp2_with fail
  refine HC9.out.mono ?_
  clear x5_0 x5_1 x5_2 x5_3 x5_4 x7_0 x7_1 x7_2 x7_3 x7_4
  rintro e W9 ⟨rfl, hv, hk⟩
  have HM10 : Hid ((Below w.heap.size w W8) ∧ (W8.heap[x0]? = some (.cells #[.int .i64 a.kind, .int .u64 a.num, .string a.text, .slice pa na ca, .int .i64 a.elem] 25 (0, 0))) ∧ (W8.heap[x5]? = some (.cells #[.int .i64 a.kind, .int .u64 a.num, .string a.text, .slice (some ⟨g_x5, 0, none⟩) na (na + 3), .int .i64 a.elem] 25 (0, 0))) ∧ (VO W8 W5.heap.size (V.mk a.kind (xor1 a.num) a.text (a.list.map V.turned) a.elem) (.slice p_x7 na c_x7) FT) ∧ (W8.heap[x7]? = some (.cells #[.int .i64 a.kind, .int .u64 (xor1 a.num), .string a.text, .slice p_x7 na c_x7, .int .i64 a.elem] 25 (0, 0)))) := Lib.hid ((And.intro HM9.out.1 (And.intro HM9.out.2.1 (And.intro HM9.out.2.2.2.1 (And.intro HM9.out.2.2.2.2.1 HM9.out.2.2.2.2.2)))))
  clear HM9
  have hz10 : W8.heap.size ≤ W9.heap.size := hk.size
  have HZ10 := Lib.hid hz10
  clear hz10
  have HM11 : Hid ((Below w.heap.size w W9) ∧ (W9.heap[x0]? = some (.cells #[.int .i64 a.kind, .int .u64 a.num, .string a.text, .slice pa na ca, .int .i64 a.elem] 25 (0, 0))) ∧ (W9.heap[x5]? = some (.cells #[.int .i64 a.kind, .int .u64 a.num, .string a.text, .slice (some ⟨g_x5, 0, none⟩) na (na + 3), .int .i64 a.elem] 25 (0, 0))) ∧ (VO W9 W5.heap.size (V.mk a.kind (xor1 a.num) a.text (a.list.map V.turned) a.elem) (.slice p_x7 na c_x7) FT) ∧ (W9.heap[x7]? = some (.cells #[.int .i64 a.kind, .int .u64 (xor1 a.num), .string a.text, .slice p_x7 na c_x7, .int .i64 a.elem] 25 (0, 0))) ∧ (VL W9 W2.heap.size (V.mk a.kind (xor1 a.num) a.text (a.list.map V.turned) a.elem) (.slice (some ⟨g_x5, 0, none⟩) na (na + 3)) F5)) := Lib.hid ((And.intro (KeepF.below HM10.out.1 hk (fun j q => by have h1 := HIN_F5.out j q; have z0 := HX_x0.out; have z1 := HZw.out; have z2 := HLT0.out; have z3 := HZ1.out; have z4 := HZ2.out; have z5 := HZ3.out; have z6 := HX_x5.out; have z7 := HLT_x5.out; have z8 := HZ4.out; have z9 := HZ5.out; have z10 := HZ6.out; have z11 := HX_x7.out; have z12 := HLT_x7.out; have z13 := HZ7.out; have z14 := HZ8.out; have z15 := HZ10.out; omega) HM10.out.1.size) (And.intro ((hk.block _ (Array.getElem?_eq_some_iff.1 HM10.out.2.1).1 (fun q => by have h1 := HIN_F5.out _ q; have z0 := HX_x0.out; have z1 := HZw.out; have z2 := HLT0.out; have z3 := HZ1.out; have z4 := HZ2.out; have z5 := HZ3.out; have z6 := HX_x5.out; have z7 := HLT_x5.out; have z8 := HZ4.out; have z9 := HZ5.out; have z10 := HZ6.out; have z11 := HX_x7.out; have z12 := HLT_x7.out; have z13 := HZ7.out; have z14 := HZ8.out; have z15 := HZ10.out; omega)).trans HM10.out.2.1) (And.intro ((hk.block _ (Array.getElem?_eq_some_iff.1 HM10.out.2.2.1).1 (fun q => by have h1 := HIN_F5.out _ q; have z0 := HX_x0.out; have z1 := HZw.out; have z2 := HLT0.out; have z3 := HZ1.out; have z4 := HZ2.out; have z5 := HZ3.out; have z6 := HX_x5.out; have z7 := HLT_x5.out; have z8 := HZ4.out; have z9 := HZ5.out; have z10 := HZ6.out; have z11 := HX_x7.out; have z12 := HLT_x7.out; have z13 := HZ7.out; have z14 := HZ8.out; have z15 := HZ10.out; omega)).trans HM10.out.2.2.1) (And.intro (HM10.out.2.2.2.1.keepF hk (fun j g q => by have h1 := HIN_F5.out j q; have h2 := HIN_FT.out j g; have z0 := HX_x0.out; have z1 := HZw.out; have z2 := HLT0.out; have z3 := HZ1.out; have z4 := HZ2.out; have z5 := HZ3.out; have z6 := HX_x5.out; have z7 := HLT_x5.out; have z8 := HZ4.out; have z9 := HZ5.out; have z10 := HZ6.out; have z11 := HX_x7.out; have z12 := HLT_x7.out; have z13 := HZ7.out; have z14 := HZ8.out; have z15 := HZ10.out; omega)) (And.intro ((hk.block _ (Array.getElem?_eq_some_iff.1 HM10.out.2.2.2.2).1 (fun q => by have h1 := HIN_F5.out _ q; have z0 := HX_x0.out; have z1 := HZw.out; have z2 := HLT0.out; have z3 := HZ1.out; have z4 := HZ2.out; have z5 := HZ3.out; have z6 := HX_x5.out; have z7 := HLT_x5.out; have z8 := HZ4.out; have z9 := HZ5.out; have z10 := HZ6.out; have z11 := HX_x7.out; have z12 := HLT_x7.out; have z13 := HZ7.out; have z14 := HZ8.out; have z15 := HZ10.out; omega)).trans HM10.out.2.2.2.2) (VL.as (v' := (V.mk a.kind (xor1 a.num) a.text (a.list.map V.turned) a.elem)) hv rfl (Hid.out HWF))))))))
  clear HM10
  clear hk hv
  have q := HM11.out.2.2.1
  have x5_0 : W9.cell? ⟨x5, 0, none⟩ = some (.int .i64 a.kind) := (cell_of_row _ _ 0 _ _ _ q).trans rfl
  have x5_1 : W9.cell? ⟨x5, 1, none⟩ = some (.int .u64 a.num) := (cell_of_row _ _ 1 _ _ _ q).trans rfl
  have x5_2 : W9.cell? ⟨x5, 2, none⟩ = some (.string a.text) := (cell_of_row _ _ 2 _ _ _ q).trans rfl
  have x5_3 : W9.cell? ⟨x5, 3, none⟩ = some (.slice (some ⟨g_x5, 0, none⟩) na (na + 3)) := (cell_of_row _ _ 3 _ _ _ q).trans rfl
  have x5_4 : W9.cell? ⟨x5, 4, none⟩ = some (.int .i64 a.elem) := (cell_of_row _ _ 4 _ _ _ q).trans rfl
  clear q
  have q := HM11.out.2.2.2.2.1
  have x7_0 : W9.cell? ⟨x7, 0, none⟩ = some (.int .i64 a.kind) := (cell_of_row _ _ 0 _ _ _ q).trans rfl
  have x7_1 : W9.cell? ⟨x7, 1, none⟩ = some (.int .u64 (xor1 a.num)) := (cell_of_row _ _ 1 _ _ _ q).trans rfl
  have x7_2 : W9.cell? ⟨x7, 2, none⟩ = some (.string a.text) := (cell_of_row _ _ 2 _ _ _ q).trans rfl
  have x7_3 : W9.cell? ⟨x7, 3, none⟩ = some (.slice p_x7 na c_x7) := (cell_of_row _ _ 3 _ _ _ q).trans rfl
  have x7_4 : W9.cell? ⟨x7, 4, none⟩ = some (.int .i64 a.elem) := (cell_of_row _ _ 4 _ _ _ q).trans rfl
  clear q
  have fz : W9.frozen? ⟨x5, 1, none⟩ = false := by have q := HM11.out.2.2.1; simp [World.frozen?, q]
  have ox2 : (W9.setCell ⟨x5, 1, none⟩ (.int .u64 (xor1 a.num))).heap[x5]? = some (.cells #[.int .i64 a.kind, .int .u64 (xor1 a.num), .string a.text, .slice (some ⟨g_x5, 0, none⟩) na (na + 3), .int .i64 a.elem] 25 (0, 0)) := heap_setCell_same W9 x5 1 _ _ (.int .u64 (xor1 a.num)) HM11.out.2.2.1
  have hk : KeepF (fun g => g = x5) W9 (W9.setCell ⟨x5, 1, none⟩ (.int .u64 (xor1 a.num))) := keepF_setCell W9 x5 1 (.int .u64 (xor1 a.num))
  go_upto_region 13 with fail
  generalize (W9.setCell ⟨x5, 1, none⟩ (.int .u64 (xor1 a.num))) = W10 at *
  clear fz x5_0 x5_1 x5_2 x5_3 x5_4 x7_0 x7_1 x7_2 x7_3 x7_4
  have HIN_sx5 : Hid (∀ g, g = x5 → x5 ≤ g ∧ g < x5 + 1) := Lib.hid (fun g h => by omega)
  have HM12 : Hid ((Below w.heap.size w W9) ∧ (W9.heap[x0]? = some (.cells #[.int .i64 a.kind, .int .u64 a.num, .string a.text, .slice pa na ca, .int .i64 a.elem] 25 (0, 0))) ∧ (VO W9 W5.heap.size (V.mk a.kind (xor1 a.num) a.text (a.list.map V.turned) a.elem) (.slice p_x7 na c_x7) FT) ∧ (W9.heap[x7]? = some (.cells #[.int .i64 a.kind, .int .u64 (xor1 a.num), .string a.text, .slice p_x7 na c_x7, .int .i64 a.elem] 25 (0, 0))) ∧ (VL W9 W2.heap.size (V.mk a.kind (xor1 a.num) a.text (a.list.map V.turned) a.elem) (.slice (some ⟨g_x5, 0, none⟩) na (na + 3)) F5)) := Lib.hid ((And.intro HM11.out.1 (And.intro HM11.out.2.1 (And.intro HM11.out.2.2.2.1 (And.intro HM11.out.2.2.2.2.1 HM11.out.2.2.2.2.2)))))
  clear HM11
  have hz12 : W9.heap.size ≤ W10.heap.size := hk.size
  have HZ12 := Lib.hid hz12
  clear hz12
  have HM13 : Hid ((Below w.heap.size w W10) ∧ (W10.heap[x0]? = some (.cells #[.int .i64 a.kind, .int .u64 a.num, .string a.text, .slice pa na ca, .int .i64 a.elem] 25 (0, 0))) ∧ (VO W10 W5.heap.size (V.mk a.kind (xor1 a.num) a.text (a.list.map V.turned) a.elem) (.slice p_x7 na c_x7) FT) ∧ (W10.heap[x7]? = some (.cells #[.int .i64 a.kind, .int .u64 (xor1 a.num), .string a.text, .slice p_x7 na c_x7, .int .i64 a.elem] 25 (0, 0))) ∧ (VL W10 W2.heap.size (V.mk a.kind (xor1 a.num) a.text (a.list.map V.turned) a.elem) (.slice (some ⟨g_x5, 0, none⟩) na (na + 3)) F5) ∧ (W10.heap[x5]? = some (.cells #[.int .i64 a.kind, .int .u64 (xor1 a.num), .string a.text, .slice (some ⟨g_x5, 0, none⟩) na (na + 3), .int .i64 a.elem] 25 (0, 0)))) := Lib.hid ((And.intro (KeepF.below HM12.out.1 hk (fun j q => by have h1 := HIN_sx5.out j q; have z0 := HX_x0.out; have z1 := HZw.out; have z2 := HLT0.out; have z3 := HZ1.out; have z4 := HZ2.out; have z5 := HZ3.out; have z6 := HX_x5.out; have z7 := HLT_x5.out; have z8 := HZ4.out; have z9 := HZ5.out; have z10 := HZ6.out; have z11 := HX_x7.out; have z12 := HLT_x7.out; have z13 := HZ7.out; have z14 := HZ8.out; have z15 := HZ10.out; have z16 := HZ12.out; omega) HM12.out.1.size) (And.intro ((hk.block _ (Array.getElem?_eq_some_iff.1 HM12.out.2.1).1 (fun q => by have h1 := HIN_sx5.out _ q; have z0 := HX_x0.out; have z1 := HZw.out; have z2 := HLT0.out; have z3 := HZ1.out; have z4 := HZ2.out; have z5 := HZ3.out; have z6 := HX_x5.out; have z7 := HLT_x5.out; have z8 := HZ4.out; have z9 := HZ5.out; have z10 := HZ6.out; have z11 := HX_x7.out; have z12 := HLT_x7.out; have z13 := HZ7.out; have z14 := HZ8.out; have z15 := HZ10.out; have z16 := HZ12.out; omega)).trans HM12.out.2.1) (And.intro (HM12.out.2.2.1.keepF hk (fun j g q => by have h1 := HIN_sx5.out j q; have h2 := HIN_FT.out j g; have z0 := HX_x0.out; have z1 := HZw.out; have z2 := HLT0.out; have z3 := HZ1.out; have z4 := HZ2.out; have z5 := HZ3.out; have z6 := HX_x5.out; have z7 := HLT_x5.out; have z8 := HZ4.out; have z9 := HZ5.out; have z10 := HZ6.out; have z11 := HX_x7.out; have z12 := HLT_x7.out; have z13 := HZ7.out; have z14 := HZ8.out; have z15 := HZ10.out; have z16 := HZ12.out; omega)) (And.intro ((hk.block _ (Array.getElem?_eq_some_iff.1 HM12.out.2.2.2.1).1 (fun q => by have h1 := HIN_sx5.out _ q; have z0 := HX_x0.out; have z1 := HZw.out; have z2 := HLT0.out; have z3 := HZ1.out; have z4 := HZ2.out; have z5 := HZ3.out; have z6 := HX_x5.out; have z7 := HLT_x5.out; have z8 := HZ4.out; have z9 := HZ5.out; have z10 := HZ6.out; have z11 := HX_x7.out; have z12 := HLT_x7.out; have z13 := HZ7.out; have z14 := HZ8.out; have z15 := HZ10.out; have z16 := HZ12.out; omega)).trans HM12.out.2.2.2.1) (And.intro (HM12.out.2.2.2.2.keepF hk (fun j g q => by have h1 := HIN_sx5.out j q; have h2 := HIN_F5.out j g; have z0 := HX_x0.out; have z1 := HZw.out; have z2 := HLT0.out; have z3 := HZ1.out; have z4 := HZ2.out; have z5 := HZ3.out; have z6 := HX_x5.out; have z7 := HLT_x5.out; have z8 := HZ4.out; have z9 := HZ5.out; have z10 := HZ6.out; have z11 := HX_x7.out; have z12 := HLT_x7.out; have z13 := HZ7.out; have z14 := HZ8.out; have z15 := HZ10.out; have z16 := HZ12.out; omega)) ox2))))))
  clear HM12
  clear hk ox2
  have hc : Calls Tryd.prog 15 #[.agg #[.int .i64 a.kind, .int .u64 (xor1 a.num), .string a.text, .slice (some ⟨g_x5, 0, none⟩) na (na + 3), .int .i64 a.elem]] W10 _ := check_any (V.mk a.kind (xor1 a.num) a.text (a.list.map V.turned) a.elem) W10 _ HM13.out.2.2.2.2.1.vin (HT.out.below HM13.out.1) HWTT.out
  rw [HB1x.out] at hc
  have HC11 := Lib.hid hc
  clear hc
  have q := HM13.out.2.2.2.2.2
  have x5_0 : W10.cell? ⟨x5, 0, none⟩ = some (.int .i64 a.kind) := (cell_of_row _ _ 0 _ _ _ q).trans rfl
  have x5_1 : W10.cell? ⟨x5, 1, none⟩ = some (.int .u64 (xor1 a.num)) := (cell_of_row _ _ 1 _ _ _ q).trans rfl
  have x5_2 : W10.cell? ⟨x5, 2, none⟩ = some (.string a.text) := (cell_of_row _ _ 2 _ _ _ q).trans rfl
  have x5_3 : W10.cell? ⟨x5, 3, none⟩ = some (.slice (some ⟨g_x5, 0, none⟩) na (na + 3)) := (cell_of_row _ _ 3 _ _ _ q).trans rfl
  have x5_4 : W10.cell? ⟨x5, 4, none⟩ = some (.int .i64 a.elem) := (cell_of_row _ _ 4 _ _ _ q).trans rfl
  clear q
  go_wp2_with fail
  refine HC11.out.mono ?_
  clear x5_0 x5_1 x5_2 x5_3 x5_4
  rintro e W11 ⟨rfl, hb⟩
  have hz13 : W10.heap.size ≤ W11.heap.size := hb.size
  have HZ13 := Lib.hid hz13
  clear hz13
  have HM14 : Hid ((Below w.heap.size w W11) ∧ (W11.heap[x0]? = some (.cells #[.int .i64 a.kind, .int .u64 a.num, .string a.text, .slice pa na ca, .int .i64 a.elem] 25 (0, 0))) ∧ (VO W11 W5.heap.size (V.mk a.kind (xor1 a.num) a.text (a.list.map V.turned) a.elem) (.slice p_x7 na c_x7) FT) ∧ (W11.heap[x7]? = some (.cells #[.int .i64 a.kind, .int .u64 (xor1 a.num), .string a.text, .slice p_x7 na c_x7, .int .i64 a.elem] 25 (0, 0))) ∧ (VL W11 W2.heap.size (V.mk a.kind (xor1 a.num) a.text (a.list.map V.turned) a.elem) (.slice (some ⟨g_x5, 0, none⟩) na (na + 3)) F5) ∧ (W11.heap[x5]? = some (.cells #[.int .i64 a.kind, .int .u64 (xor1 a.num), .string a.text, .slice (some ⟨g_x5, 0, none⟩) na (na + 3), .int .i64 a.elem] 25 (0, 0)))) := Lib.hid ((And.intro (HM13.out.1.trans (hb.mono HM13.out.1.size)) (And.intro ((hb.block _ (Array.getElem?_eq_some_iff.1 HM13.out.2.1).1).trans HM13.out.2.1) (And.intro (HM13.out.2.2.1.blw hb) (And.intro ((hb.block _ (Array.getElem?_eq_some_iff.1 HM13.out.2.2.2.1).1).trans HM13.out.2.2.2.1) (And.intro (HM13.out.2.2.2.2.1.blw hb) ((hb.block _ (Array.getElem?_eq_some_iff.1 HM13.out.2.2.2.2.2).1).trans HM13.out.2.2.2.2.2)))))))
  clear HM13
  clear hb
  have hc : Calls Tryd.prog 19 #[.agg #[.int .i64 a.kind, .int .u64 (xor1 a.num), .string a.text, .slice (some ⟨g_x5, 0, none⟩) na (na + 3), .int .i64 a.elem], .agg #[.int .i64 a.kind, .int .u64 (xor1 a.num), .string a.text, .slice p_x7 na c_x7, .int .i64 a.elem]] W11 _ := asl_on (V.mk a.kind (xor1 a.num) a.text (a.list.map V.turned) a.elem) W11 (Proofs.YtakbgekamjpibaaDoor.only W11 FT) _ _ _ F5 HM14.out.2.2.2.2.1 (VO.only HM14.out.2.2.1) (fun W hW => only_rd (fun j hj => hW.block j (VO.lt HM14.out.2.2.1 j hj).2 (fun q => by have h1 := HIN_F5.out j q; have h2 := HIN_FT.out j hj; have z0 := HX_x0.out; have z1 := HZw.out; have z2 := HLT0.out; have z3 := HZ1.out; have z4 := HZ2.out; have z5 := HZ3.out; have z6 := HX_x5.out; have z7 := HLT_x5.out; have z8 := HZ4.out; have z9 := HZ5.out; have z10 := HZ6.out; have z11 := HX_x7.out; have z12 := HLT_x7.out; have z13 := HZ7.out; have z14 := HZ8.out; have z15 := HZ10.out; have z16 := HZ12.out; have z17 := HZ13.out; omega))) HWTT.out
  have HC12 := Lib.hid hc
  clear hc
  have q := HM14.out.2.2.2.2.2
  have x5_0 : W11.cell? ⟨x5, 0, none⟩ = some (.int .i64 a.kind) := (cell_of_row _ _ 0 _ _ _ q).trans rfl
  have x5_1 : W11.cell? ⟨x5, 1, none⟩ = some (.int .u64 (xor1 a.num)) := (cell_of_row _ _ 1 _ _ _ q).trans rfl
  have x5_2 : W11.cell? ⟨x5, 2, none⟩ = some (.string a.text) := (cell_of_row _ _ 2 _ _ _ q).trans rfl
  have x5_3 : W11.cell? ⟨x5, 3, none⟩ = some (.slice (some ⟨g_x5, 0, none⟩) na (na + 3)) := (cell_of_row _ _ 3 _ _ _ q).trans rfl
  have x5_4 : W11.cell? ⟨x5, 4, none⟩ = some (.int .i64 a.elem) := (cell_of_row _ _ 4 _ _ _ q).trans rfl
  clear q
  have q := HM14.out.2.2.2.1
  have x7_0 : W11.cell? ⟨x7, 0, none⟩ = some (.int .i64 a.kind) := (cell_of_row _ _ 0 _ _ _ q).trans rfl
  have x7_1 : W11.cell? ⟨x7, 1, none⟩ = some (.int .u64 (xor1 a.num)) := (cell_of_row _ _ 1 _ _ _ q).trans rfl
  have x7_2 : W11.cell? ⟨x7, 2, none⟩ = some (.string a.text) := (cell_of_row _ _ 2 _ _ _ q).trans rfl
  have x7_3 : W11.cell? ⟨x7, 3, none⟩ = some (.slice p_x7 na c_x7) := (cell_of_row _ _ 3 _ _ _ q).trans rfl
  have x7_4 : W11.cell? ⟨x7, 4, none⟩ = some (.int .i64 a.elem) := (cell_of_row _ _ 4 _ _ _ q).trans rfl
  clear q
  go_wp2_with fail
  refine HC12.out.mono ?_
  clear x5_0 x5_1 x5_2 x5_3 x5_4 x7_0 x7_1 x7_2 x7_3 x7_4
  rintro e W12 ⟨rfl, hk⟩
  have HM15 : Hid ((Below w.heap.size w W11) ∧ (W11.heap[x0]? = some (.cells #[.int .i64 a.kind, .int .u64 a.num, .string a.text, .slice pa na ca, .int .i64 a.elem] 25 (0, 0))) ∧ (VO W11 W5.heap.size (V.mk a.kind (xor1 a.num) a.text (a.list.map V.turned) a.elem) (.slice p_x7 na c_x7) FT) ∧ (W11.heap[x7]? = some (.cells #[.int .i64 a.kind, .int .u64 (xor1 a.num), .string a.text, .slice p_x7 na c_x7, .int .i64 a.elem] 25 (0, 0))) ∧ (W11.heap[x5]? = some (.cells #[.int .i64 a.kind, .int .u64 (xor1 a.num), .string a.text, .slice (some ⟨g_x5, 0, none⟩) na (na + 3), .int .i64 a.elem] 25 (0, 0)))) := Lib.hid ((And.intro HM14.out.1 (And.intro HM14.out.2.1 (And.intro HM14.out.2.2.1 (And.intro HM14.out.2.2.2.1 HM14.out.2.2.2.2.2)))))
  clear HM14
  have hz15 : W11.heap.size ≤ W12.heap.size := hk.size
  have HZ15 := Lib.hid hz15
  clear hz15
  have HM16 : Hid ((Below w.heap.size w W12) ∧ (W12.heap[x0]? = some (.cells #[.int .i64 a.kind, .int .u64 a.num, .string a.text, .slice pa na ca, .int .i64 a.elem] 25 (0, 0))) ∧ (VO W12 W5.heap.size (V.mk a.kind (xor1 a.num) a.text (a.list.map V.turned) a.elem) (.slice p_x7 na c_x7) FT) ∧ (W12.heap[x7]? = some (.cells #[.int .i64 a.kind, .int .u64 (xor1 a.num), .string a.text, .slice p_x7 na c_x7, .int .i64 a.elem] 25 (0, 0))) ∧ (W12.heap[x5]? = some (.cells #[.int .i64 a.kind, .int .u64 (xor1 a.num), .string a.text, .slice (some ⟨g_x5, 0, none⟩) na (na + 3), .int .i64 a.elem] 25 (0, 0)))) := Lib.hid ((And.intro (KeepF.below HM15.out.1 hk (fun j q => by have h1 := HIN_F5.out j q; have z0 := HX_x0.out; have z1 := HZw.out; have z2 := HLT0.out; have z3 := HZ1.out; have z4 := HZ2.out; have z5 := HZ3.out; have z6 := HX_x5.out; have z7 := HLT_x5.out; have z8 := HZ4.out; have z9 := HZ5.out; have z10 := HZ6.out; have z11 := HX_x7.out; have z12 := HLT_x7.out; have z13 := HZ7.out; have z14 := HZ8.out; have z15 := HZ10.out; have z16 := HZ12.out; have z17 := HZ13.out; have z18 := HZ15.out; omega) HM15.out.1.size) (And.intro ((hk.block _ (Array.getElem?_eq_some_iff.1 HM15.out.2.1).1 (fun q => by have h1 := HIN_F5.out _ q; have z0 := HX_x0.out; have z1 := HZw.out; have z2 := HLT0.out; have z3 := HZ1.out; have z4 := HZ2.out; have z5 := HZ3.out; have z6 := HX_x5.out; have z7 := HLT_x5.out; have z8 := HZ4.out; have z9 := HZ5.out; have z10 := HZ6.out; have z11 := HX_x7.out; have z12 := HLT_x7.out; have z13 := HZ7.out; have z14 := HZ8.out; have z15 := HZ10.out; have z16 := HZ12.out; have z17 := HZ13.out; have z18 := HZ15.out; omega)).trans HM15.out.2.1) (And.intro (HM15.out.2.2.1.keepF hk (fun j g q => by have h1 := HIN_F5.out j q; have h2 := HIN_FT.out j g; have z0 := HX_x0.out; have z1 := HZw.out; have z2 := HLT0.out; have z3 := HZ1.out; have z4 := HZ2.out; have z5 := HZ3.out; have z6 := HX_x5.out; have z7 := HLT_x5.out; have z8 := HZ4.out; have z9 := HZ5.out; have z10 := HZ6.out; have z11 := HX_x7.out; have z12 := HLT_x7.out; have z13 := HZ7.out; have z14 := HZ8.out; have z15 := HZ10.out; have z16 := HZ12.out; have z17 := HZ13.out; have z18 := HZ15.out; omega)) (And.intro ((hk.block _ (Array.getElem?_eq_some_iff.1 HM15.out.2.2.2.1).1 (fun q => by have h1 := HIN_F5.out _ q; have z0 := HX_x0.out; have z1 := HZw.out; have z2 := HLT0.out; have z3 := HZ1.out; have z4 := HZ2.out; have z5 := HZ3.out; have z6 := HX_x5.out; have z7 := HLT_x5.out; have z8 := HZ4.out; have z9 := HZ5.out; have z10 := HZ6.out; have z11 := HX_x7.out; have z12 := HLT_x7.out; have z13 := HZ7.out; have z14 := HZ8.out; have z15 := HZ10.out; have z16 := HZ12.out; have z17 := HZ13.out; have z18 := HZ15.out; omega)).trans HM15.out.2.2.2.1) ((hk.block _ (Array.getElem?_eq_some_iff.1 HM15.out.2.2.2.2).1 (fun q => by have h1 := HIN_F5.out _ q; have z0 := HX_x0.out; have z1 := HZw.out; have z2 := HLT0.out; have z3 := HZ1.out; have z4 := HZ2.out; have z5 := HZ3.out; have z6 := HX_x5.out; have z7 := HLT_x5.out; have z8 := HZ4.out; have z9 := HZ5.out; have z10 := HZ6.out; have z11 := HX_x7.out; have z12 := HLT_x7.out; have z13 := HZ7.out; have z14 := HZ8.out; have z15 := HZ10.out; have z16 := HZ12.out; have z17 := HZ13.out; have z18 := HZ15.out; omega)).trans HM15.out.2.2.2.2))))))
  clear HM15
  clear hk
  have hc := check_any a W12 _ (HV.out.blw HM16.out.1) (HT.out.below HM16.out.1) (by have := HW.out; omega)
  rw [HA1.out] at hc
  have HC13 := Lib.hid hc
  clear hc
  have q := HM16.out.2.1
  have x0_0 : W12.cell? ⟨x0, 0, none⟩ = some (.int .i64 a.kind) := (cell_of_row _ _ 0 _ _ _ q).trans rfl
  have x0_1 : W12.cell? ⟨x0, 1, none⟩ = some (.int .u64 a.num) := (cell_of_row _ _ 1 _ _ _ q).trans rfl
  have x0_2 : W12.cell? ⟨x0, 2, none⟩ = some (.string a.text) := (cell_of_row _ _ 2 _ _ _ q).trans rfl
  have x0_3 : W12.cell? ⟨x0, 3, none⟩ = some (.slice pa na ca) := (cell_of_row _ _ 3 _ _ _ q).trans rfl
  have x0_4 : W12.cell? ⟨x0, 4, none⟩ = some (.int .i64 a.elem) := (cell_of_row _ _ 4 _ _ _ q).trans rfl
  clear q
  go_wp2_with fail
  refine HC13.out.mono ?_
  clear x0_0 x0_1 x0_2 x0_3 x0_4
  rintro e W13 ⟨rfl, hb⟩
  have hz16 : W12.heap.size ≤ W13.heap.size := hb.size
  have HZ16 := Lib.hid hz16
  clear hz16
  have HM17 : Hid ((Below w.heap.size w W13) ∧ (W13.heap[x0]? = some (.cells #[.int .i64 a.kind, .int .u64 a.num, .string a.text, .slice pa na ca, .int .i64 a.elem] 25 (0, 0))) ∧ (VO W13 W5.heap.size (V.mk a.kind (xor1 a.num) a.text (a.list.map V.turned) a.elem) (.slice p_x7 na c_x7) FT) ∧ (W13.heap[x7]? = some (.cells #[.int .i64 a.kind, .int .u64 (xor1 a.num), .string a.text, .slice p_x7 na c_x7, .int .i64 a.elem] 25 (0, 0))) ∧ (W13.heap[x5]? = some (.cells #[.int .i64 a.kind, .int .u64 (xor1 a.num), .string a.text, .slice (some ⟨g_x5, 0, none⟩) na (na + 3), .int .i64 a.elem] 25 (0, 0)))) := Lib.hid ((And.intro (HM16.out.1.trans (hb.mono HM16.out.1.size)) (And.intro ((hb.block _ (Array.getElem?_eq_some_iff.1 HM16.out.2.1).1).trans HM16.out.2.1) (And.intro (HM16.out.2.2.1.blw hb) (And.intro ((hb.block _ (Array.getElem?_eq_some_iff.1 HM16.out.2.2.2.1).1).trans HM16.out.2.2.2.1) ((hb.block _ (Array.getElem?_eq_some_iff.1 HM16.out.2.2.2.2).1).trans HM16.out.2.2.2.2))))))
  clear HM16
  clear hb
  have hc := rcheck_any a W13 _ (HV.out.blw HM17.out.1) (by have := HW.out; omega)
  rw [HA1.out] at hc
  have HC14 := Lib.hid hc
  clear hc
  have q := HM17.out.2.1
  have x0_0 : W13.cell? ⟨x0, 0, none⟩ = some (.int .i64 a.kind) := (cell_of_row _ _ 0 _ _ _ q).trans rfl
  have x0_1 : W13.cell? ⟨x0, 1, none⟩ = some (.int .u64 a.num) := (cell_of_row _ _ 1 _ _ _ q).trans rfl
  have x0_2 : W13.cell? ⟨x0, 2, none⟩ = some (.string a.text) := (cell_of_row _ _ 2 _ _ _ q).trans rfl
  have x0_3 : W13.cell? ⟨x0, 3, none⟩ = some (.slice pa na ca) := (cell_of_row _ _ 3 _ _ _ q).trans rfl
  have x0_4 : W13.cell? ⟨x0, 4, none⟩ = some (.int .i64 a.elem) := (cell_of_row _ _ 4 _ _ _ q).trans rfl
  clear q
  go_wp2_with fail
  refine HC14.out.mono ?_
  clear x0_0 x0_1 x0_2 x0_3 x0_4
  rintro e W14 ⟨rfl, hb⟩
  have hz17 : W13.heap.size ≤ W14.heap.size := hb.size
  have HZ17 := Lib.hid hz17
  clear hz17
  have HM18 : Hid ((Below w.heap.size w W14) ∧ (W14.heap[x0]? = some (.cells #[.int .i64 a.kind, .int .u64 a.num, .string a.text, .slice pa na ca, .int .i64 a.elem] 25 (0, 0))) ∧ (VO W14 W5.heap.size (V.mk a.kind (xor1 a.num) a.text (a.list.map V.turned) a.elem) (.slice p_x7 na c_x7) FT) ∧ (W14.heap[x7]? = some (.cells #[.int .i64 a.kind, .int .u64 (xor1 a.num), .string a.text, .slice p_x7 na c_x7, .int .i64 a.elem] 25 (0, 0))) ∧ (W14.heap[x5]? = some (.cells #[.int .i64 a.kind, .int .u64 (xor1 a.num), .string a.text, .slice (some ⟨g_x5, 0, none⟩) na (na + 3), .int .i64 a.elem] 25 (0, 0)))) := Lib.hid ((And.intro (HM17.out.1.trans (hb.mono HM17.out.1.size)) (And.intro ((hb.block _ (Array.getElem?_eq_some_iff.1 HM17.out.2.1).1).trans HM17.out.2.1) (And.intro (HM17.out.2.2.1.blw hb) (And.intro ((hb.block _ (Array.getElem?_eq_some_iff.1 HM17.out.2.2.2.1).1).trans HM17.out.2.2.2.1) ((hb.block _ (Array.getElem?_eq_some_iff.1 HM17.out.2.2.2.2).1).trans HM17.out.2.2.2.2))))))
  clear HM17
  clear hb
  have hc : Calls Tryd.prog 20 #[.agg #[.int .i64 a.kind, .int .u64 (xor1 a.num), .string a.text, .slice p_x7 na c_x7, .int .i64 a.elem]] W14 _ := rcheck_any (V.mk a.kind (xor1 a.num) a.text (a.list.map V.turned) a.elem) W14 _ HM18.out.2.2.1.vin HWTT.out
  rw [HB1x.out] at hc
  have HC15 := Lib.hid hc
  clear hc
  have q := HM18.out.2.2.2.1
  have x7_0 : W14.cell? ⟨x7, 0, none⟩ = some (.int .i64 a.kind) := (cell_of_row _ _ 0 _ _ _ q).trans rfl
  have x7_1 : W14.cell? ⟨x7, 1, none⟩ = some (.int .u64 (xor1 a.num)) := (cell_of_row _ _ 1 _ _ _ q).trans rfl
  have x7_2 : W14.cell? ⟨x7, 2, none⟩ = some (.string a.text) := (cell_of_row _ _ 2 _ _ _ q).trans rfl
  have x7_3 : W14.cell? ⟨x7, 3, none⟩ = some (.slice p_x7 na c_x7) := (cell_of_row _ _ 3 _ _ _ q).trans rfl
  have x7_4 : W14.cell? ⟨x7, 4, none⟩ = some (.int .i64 a.elem) := (cell_of_row _ _ 4 _ _ _ q).trans rfl
  clear q
  go_wp2_with fail
  refine HC15.out.mono ?_
  clear x7_0 x7_1 x7_2 x7_3 x7_4
  rintro e W15 ⟨rfl, hb⟩
  have hz18 : W14.heap.size ≤ W15.heap.size := hb.size
  have HZ18 := Lib.hid hz18
  clear hz18
  have HM19 : Hid ((Below w.heap.size w W15) ∧ (W15.heap[x0]? = some (.cells #[.int .i64 a.kind, .int .u64 a.num, .string a.text, .slice pa na ca, .int .i64 a.elem] 25 (0, 0))) ∧ (VO W15 W5.heap.size (V.mk a.kind (xor1 a.num) a.text (a.list.map V.turned) a.elem) (.slice p_x7 na c_x7) FT) ∧ (W15.heap[x7]? = some (.cells #[.int .i64 a.kind, .int .u64 (xor1 a.num), .string a.text, .slice p_x7 na c_x7, .int .i64 a.elem] 25 (0, 0))) ∧ (W15.heap[x5]? = some (.cells #[.int .i64 a.kind, .int .u64 (xor1 a.num), .string a.text, .slice (some ⟨g_x5, 0, none⟩) na (na + 3), .int .i64 a.elem] 25 (0, 0)))) := Lib.hid ((And.intro (HM18.out.1.trans (hb.mono HM18.out.1.size)) (And.intro ((hb.block _ (Array.getElem?_eq_some_iff.1 HM18.out.2.1).1).trans HM18.out.2.1) (And.intro (HM18.out.2.2.1.blw hb) (And.intro ((hb.block _ (Array.getElem?_eq_some_iff.1 HM18.out.2.2.2.1).1).trans HM18.out.2.2.2.1) ((hb.block _ (Array.getElem?_eq_some_iff.1 HM18.out.2.2.2.2).1).trans HM18.out.2.2.2.2))))))
  clear HM18
  clear hb
  go_wp2_with fail
  go_ret
  exact ⟨rfl, HM19.out.1⟩

end Go.Proofs.YtakbgekamjpibaaDoor
