/-
  ValueMakes. Conditions: the values lie in memory; the tables stand.
-/
import Derived.Test.YtakbgekamjpibaaDoorNf
import Derived.Test.YtakbgekamjpibaaDoorMg30
namespace Go.Proofs.YtakbgekamjpibaaDoor
open Go.RowKit
set_option linter.unusedVariables false

attribute [local go_sem] Oper.semAt_some

theorem VIn.as {w : World} {v v' : V} {s : Value} (h : VIn w v s) (hl : v'.list = v.list) (hw : v'.Wf) : VIn w v' s := by
  cases h with
  | mk _ p c ss wf hc hm ha hcell hin =>
    have key : ∀ (L : List V) (e : L = v.list), v'.list = L → VIn w v' (.slice p L.length c) := by
      intro L e e2
      subst e2
      refine .mk v' p c ss hw (by rw [e]; exact hc) hm (by rw [e]; exact ha) (fun b o eb i hi => ?_) (fun i hi => ?_)
      · have := hcell b o eb i (e ▸ hi)
        simpa only [e] using this
      · have := hin i (e ▸ hi)
        simpa only [e] using this
    exact key v.list rfl hl
theorem sz_le_wt : ∀ v : V, v.sz ≤ v.wt := by
  refine V.ind (fun v ih => ?_)
  have hl : ∀ (l : List V), (∀ x ∈ l, x.sz ≤ x.wt) → szs l ≤ wts l := by
    intro l
    induction l with
    | nil => intro _; exact Nat.le_refl _
    | cons a r ihl =>
      intro h
      have h1 := h a (List.mem_cons_self ..)
      have h2 := ihl (fun x hx => h x (List.mem_cons_of_mem _ hx))
      simp only [szs, wts]
      omega
  have := hl v.list ih
  rw [v.sz_eq, v.wt_eq]
  omega
theorem wf_bare (k : Int) (l : List V) (h : IsI64 k) : (V.mk k 0 ⟨#[]⟩ l 0).Wf := ⟨h, ⟨by show (0 : Int) ≤ 0; omega, by show (0 : Int) ≤ 18446744073709551615; omega⟩, Nat.zero_le _, ⟨by show (-9223372036854775808 : Int) ≤ 0; omega, by show (0 : Int) ≤ 9223372036854775807; omega⟩⟩
theorem VO.isVal' {w : World} {B : Nat} {v : V} {s : Value} {F : Nat → Prop} (h : VO w B v s F) : ∀ g, F g → IsVal w g := h.isVal

set_option maxRecDepth 20000 in
set_option maxHeartbeats 4000000 in
theorem makes_walk (w : World) (hT : Tabs w) (a : V) (s : Value) (ha : VIn w a s) :
    Calls Tryd.prog 7 #[s] w fun e w' => e = .returned (.bool true) ∧ Below w.heap.size w w' := by
  obtain ⟨pa, ca, hsa, hja⟩ := ha.slice
  clear hja
  obtain ⟨na, hna⟩ : ∃ n, a.list.length = n := ⟨_, rfl⟩
  rw [hna] at hsa
  subst hsa
  have HV := Lib.hid ha
  have HT := Lib.hid hT
  have HNA := Lib.hid hna
  clear ha hT hna
  go_enter Tryd.func7, Tryd.ntmps7
  have HM1 : Hid ((Below w.heap.size w w)) := Lib.hid ((Below.refl _ _))
  have hc := awake_any w (HT.out)
  have HC1 := Lib.hid hc
  clear hc
  go_wp2_with fail
  refine HC1.out.mono ?_
  rintro e W1 ⟨rfl, hb⟩
  have hz1 : w.heap.size ≤ W1.heap.size := hb.size
  have HZ1 := Lib.hid hz1
  clear hz1
  have HM2 : Hid ((Below w.heap.size w W1)) := Lib.hid ((HM1.out.trans (hb.mono HM1.out.size)))
  clear HM1
  clear hb
  obtain ⟨G, hG⟩ : ∃ G, decide (100000 < wts a.list) = G := ⟨_, rfl⟩
  have HGD := Lib.hid hG
  clear hG
  have hc := greatAll_any a W1 _ (HV.out.blw HM2.out)
  rw [HGD.out] at hc
  have HC2 := Lib.hid hc
  clear hc
  go_wp2_with fail
  refine HC2.out.mono ?_
  rintro e W2 ⟨rfl, hb⟩
  have hz2 : W1.heap.size ≤ W2.heap.size := hb.size
  have HZ2 := Lib.hid hz2
  clear hz2
  have HM3 : Hid ((Below w.heap.size w W2)) := Lib.hid ((HM2.out.trans (hb.mono HM2.out.size)))
  clear HM2
  clear hb
  cases G
  rotate_left
  · go_wp2_with fail
    go_ret
    exact ⟨rfl, HM3.out⟩
  have HW := Lib.hid (show wts a.list ≤ 100000 from by have h1 := of_decide_eq_false HGD.out; omega)
  have HWL := Lib.hid (show (V.listed a.list).wt ≤ 1000000 ∧ (V.listed a.list).sz ≤ 1000000 ∧ (V.mapped a.list).wt ≤ 1000000 ∧ (V.mapped a.list).sz ≤ 1000000 from by
    have h := HW.out
    have e1 : (V.listed a.list).wt = 1 + 0 + wts a.list := by
      have h0 : (V.listed a.list).text.size = 0 := rfl
      have h1 : (V.listed a.list).list = a.list := rfl
      rw [V.wt_eq, h0, h1]
    have e2 : (V.mapped a.list).wt = 1 + 0 + wts a.list := by
      have h0 : (V.mapped a.list).text.size = 0 := rfl
      have h1 : (V.mapped a.list).list = a.list := rfl
      rw [V.wt_eq, h0, h1]
    have h1 := sz_le_wt (V.listed a.list)
    have h2 := sz_le_wt (V.mapped a.list)
    omega)
  have hc := lents_any a (fun x _ => lent_on x) W2 _ (HV.out.blw HM3.out) (by have := HW.out; omega)
  have HC3 := Lib.hid hc
  clear hc
  go_wp2_with fail
  refine HC3.out.mono ?_
  rintro e W3 ⟨t_x, FX, rfl, hvl, hb⟩
  obtain ⟨g_x, hs, hj1, hj2⟩ := hvl.slice
  clear hj1 hj2
  rw [HNA.out] at hs
  subst hs
  have HIN_FX : Hid (∀ g, FX g → W2.heap.size ≤ g ∧ g < W3.heap.size) := Lib.hid (hvl.lt)
  have hz3 : W2.heap.size ≤ W3.heap.size := hb.size
  have HZ3 := Lib.hid hz3
  clear hz3
  have HM4 : Hid ((Below w.heap.size w W3) ∧ (VL W3 W2.heap.size a (.slice (some ⟨g_x, 0, none⟩) na (na + 3)) FX)) := Lib.hid ((And.intro (HM3.out.trans (hb.mono HM3.out.size)) hvl))
  clear HM3
  clear hb hvl
  have hc := listed_any a W3 _ HM4.out.2.vin (by have := HW.out; omega)
  have HC4 := Lib.hid hc
  clear hc
  go_wp2_with fail
  refine HC4.out.mono ?_
  rintro e W4 ⟨t_x6, F6, rfl, hvo, hb⟩
  obtain ⟨p_x6, c_x6, hs, hj1, hj2⟩ := hvo.slice
  clear hj1 hj2
  rw [show (V.listed a.list).list.length = na from HNA.out] at hs
  subst hs
  have HIN_F6 : Hid (∀ g, F6 g → W3.heap.size ≤ g ∧ g < W4.heap.size) := Lib.hid (hvo.lt)
  have hz4 : W3.heap.size ≤ W4.heap.size := hb.size
  have HZ4 := Lib.hid hz4
  clear hz4
  have HM5 : Hid ((Below w.heap.size w W4) ∧ (VL W4 W2.heap.size a (.slice (some ⟨g_x, 0, none⟩) na (na + 3)) FX) ∧ (VO W4 W3.heap.size (V.listed a.list) (.slice p_x6 na c_x6) F6)) := Lib.hid ((And.intro (HM4.out.1.trans (hb.mono HM4.out.1.size)) (And.intro (HM4.out.2.blw hb) hvo)))
  clear HM4
  clear hb hvo
  go_upto_region 9 with (refine wpList_store_rowTo rfl 25 (.tmp 6) (.tmp 28) rfl rfl W4.heap.size #[.int .i64 21, .int .u64 0, .string ⟨#[]⟩, .slice p_x6 na c_x6, .int .i64 0] rfl rfl 25 #[.int .i64 0, .int .u64 0, .string ⟨#[]⟩, .slice none 0 0, .int .i64 0] (_root_.Go.heap_alloc_new W4 _) (by as_aux_lemma => kernel_rfl) (by as_aux_lemma => kernel_rfl) (by simp [Value.oneCell']) ?_)
  have hb_W5 : Below W4.heap.size W4 ((W4.alloc (.cells #[.int .i64 0, .int .u64 0, .string ⟨#[]⟩, .slice none 0 0, .int .i64 0] 25)).setRow W4.heap.size #[.int .i64 21, .int .u64 0, .string ⟨#[]⟩, .slice p_x6 na c_x6, .int .i64 0]) := below_setRow ((Below.refl _ _).alloc (Nat.le_refl _) _) (Nat.le_refl _) _
  have ox6 := setRow_heap (W4.alloc (.cells #[.int .i64 0, .int .u64 0, .string ⟨#[]⟩, .slice none 0 0, .int .i64 0] 25)) W4.heap.size _ #[.int .i64 21, .int .u64 0, .string ⟨#[]⟩, .slice p_x6 na c_x6, .int .i64 0] _ _ (_root_.Go.heap_alloc_new W4 _)
  change Code.wp _ _ _ _ ((W4.alloc (.cells #[.int .i64 0, .int .u64 0, .string ⟨#[]⟩, .slice none 0 0, .int .i64 0] 25)).setRow W4.heap.size #[.int .i64 21, .int .u64 0, .string ⟨#[]⟩, .slice p_x6 na c_x6, .int .i64 0])
  generalize ((W4.alloc (.cells #[.int .i64 0, .int .u64 0, .string ⟨#[]⟩, .slice none 0 0, .int .i64 0] 25)).setRow W4.heap.size #[.int .i64 21, .int .u64 0, .string ⟨#[]⟩, .slice p_x6 na c_x6, .int .i64 0]) = W5 at *
  obtain ⟨x6, hx_x6⟩ : ∃ x, W4.heap.size = x := ⟨_, rfl⟩
  rw [hx_x6] at ox6 ⊢
  have HX_x6 := Lib.hid hx_x6
  clear hx_x6
  have hlt := (Array.getElem?_eq_some_iff.1 ox6).1
  have HLT_x6 := Lib.hid hlt
  clear hlt
  have hz5 : W4.heap.size ≤ W5.heap.size := hb_W5.size
  have HZ5 := Lib.hid hz5
  clear hz5
  have HM6 : Hid ((Below w.heap.size w W5) ∧ (VL W5 W2.heap.size a (.slice (some ⟨g_x, 0, none⟩) na (na + 3)) FX) ∧ (VO W5 W3.heap.size (V.listed a.list) (.slice p_x6 na c_x6) F6) ∧ (W5.heap[x6]? = some (.cells #[.int .i64 21, .int .u64 0, .string ⟨#[]⟩, .slice p_x6 na c_x6, .int .i64 0] 25 (0, 0)))) := Lib.hid ((And.intro (HM5.out.1.trans (hb_W5.mono HM5.out.1.size)) (And.intro (HM5.out.2.1.blw hb_W5) (And.intro (HM5.out.2.2.blw hb_W5) ox6))))
  clear HM5
  clear hb_W5 ox6
  have hc := mapped_any a W5 _ HM6.out.2.1.vin (by have := HW.out; omega)
  have HC6 := Lib.hid hc
  clear hc
  go_wp2_with fail
  refine HC6.out.mono ?_
  rintro e W6 ⟨t_x7, F7, rfl, hvo, hb⟩
  obtain ⟨p_x7, c_x7, hs, hj1, hj2⟩ := hvo.slice
  clear hj1 hj2
  rw [show (V.mapped a.list).list.length = na from HNA.out] at hs
  subst hs
  have HIN_F7 : Hid (∀ g, F7 g → W5.heap.size ≤ g ∧ g < W6.heap.size) := Lib.hid (hvo.lt)
  have hz6 : W5.heap.size ≤ W6.heap.size := hb.size
  have HZ6 := Lib.hid hz6
  clear hz6
  have HM7 : Hid ((Below w.heap.size w W6) ∧ (VL W6 W2.heap.size a (.slice (some ⟨g_x, 0, none⟩) na (na + 3)) FX) ∧ (VO W6 W3.heap.size (V.listed a.list) (.slice p_x6 na c_x6) F6) ∧ (W6.heap[x6]? = some (.cells #[.int .i64 21, .int .u64 0, .string ⟨#[]⟩, .slice p_x6 na c_x6, .int .i64 0] 25 (0, 0))) ∧ (VO W6 W5.heap.size (V.mapped a.list) (.slice p_x7 na c_x7) F7)) := Lib.hid ((And.intro (HM6.out.1.trans (hb.mono HM6.out.1.size)) (And.intro (HM6.out.2.1.blw hb) (And.intro (HM6.out.2.2.1.blw hb) (And.intro ((hb.block _ (Array.getElem?_eq_some_iff.1 HM6.out.2.2.2).1).trans HM6.out.2.2.2) hvo)))))
  clear HM6
  clear hb hvo
  go_upto_region 10 with (refine wpList_store_rowTo rfl 25 (.tmp 7) (.tmp 30) rfl rfl W6.heap.size #[.int .i64 22, .int .u64 0, .string ⟨#[]⟩, .slice p_x7 na c_x7, .int .i64 0] rfl rfl 25 #[.int .i64 0, .int .u64 0, .string ⟨#[]⟩, .slice none 0 0, .int .i64 0] (_root_.Go.heap_alloc_new W6 _) (by as_aux_lemma => kernel_rfl) (by as_aux_lemma => kernel_rfl) (by simp [Value.oneCell']) ?_)
  have hb_W7 : Below W6.heap.size W6 ((W6.alloc (.cells #[.int .i64 0, .int .u64 0, .string ⟨#[]⟩, .slice none 0 0, .int .i64 0] 25)).setRow W6.heap.size #[.int .i64 22, .int .u64 0, .string ⟨#[]⟩, .slice p_x7 na c_x7, .int .i64 0]) := below_setRow ((Below.refl _ _).alloc (Nat.le_refl _) _) (Nat.le_refl _) _
  have ox7 := setRow_heap (W6.alloc (.cells #[.int .i64 0, .int .u64 0, .string ⟨#[]⟩, .slice none 0 0, .int .i64 0] 25)) W6.heap.size _ #[.int .i64 22, .int .u64 0, .string ⟨#[]⟩, .slice p_x7 na c_x7, .int .i64 0] _ _ (_root_.Go.heap_alloc_new W6 _)
  change Code.wp _ _ _ _ ((W6.alloc (.cells #[.int .i64 0, .int .u64 0, .string ⟨#[]⟩, .slice none 0 0, .int .i64 0] 25)).setRow W6.heap.size #[.int .i64 22, .int .u64 0, .string ⟨#[]⟩, .slice p_x7 na c_x7, .int .i64 0])
  generalize ((W6.alloc (.cells #[.int .i64 0, .int .u64 0, .string ⟨#[]⟩, .slice none 0 0, .int .i64 0] 25)).setRow W6.heap.size #[.int .i64 22, .int .u64 0, .string ⟨#[]⟩, .slice p_x7 na c_x7, .int .i64 0]) = W7 at *
  obtain ⟨x7, hx_x7⟩ : ∃ x, W6.heap.size = x := ⟨_, rfl⟩
  rw [hx_x7] at ox7 ⊢
  have HX_x7 := Lib.hid hx_x7
  clear hx_x7
  have hlt := (Array.getElem?_eq_some_iff.1 ox7).1
  have HLT_x7 := Lib.hid hlt
  clear hlt
  have hz7 : W6.heap.size ≤ W7.heap.size := hb_W7.size
  have HZ7 := Lib.hid hz7
  clear hz7
  have HM8 : Hid ((Below w.heap.size w W7) ∧ (VL W7 W2.heap.size a (.slice (some ⟨g_x, 0, none⟩) na (na + 3)) FX) ∧ (VO W7 W3.heap.size (V.listed a.list) (.slice p_x6 na c_x6) F6) ∧ (W7.heap[x6]? = some (.cells #[.int .i64 21, .int .u64 0, .string ⟨#[]⟩, .slice p_x6 na c_x6, .int .i64 0] 25 (0, 0))) ∧ (VO W7 W5.heap.size (V.mapped a.list) (.slice p_x7 na c_x7) F7) ∧ (W7.heap[x7]? = some (.cells #[.int .i64 22, .int .u64 0, .string ⟨#[]⟩, .slice p_x7 na c_x7, .int .i64 0] 25 (0, 0)))) := Lib.hid ((And.intro (HM7.out.1.trans (hb_W7.mono HM7.out.1.size)) (And.intro (HM7.out.2.1.blw hb_W7) (And.intro (HM7.out.2.2.1.blw hb_W7) (And.intro ((hb_W7.block _ (Array.getElem?_eq_some_iff.1 HM7.out.2.2.2.1).1).trans HM7.out.2.2.2.1) (And.intro (HM7.out.2.2.2.2.blw hb_W7) ox7))))))
  clear HM7
  clear hb_W7 ox7
  have hc := listed_any a W7 _ HM8.out.2.1.vin (by have := HW.out; omega)
  have HC8 := Lib.hid hc
  clear hc
  go_wp2_with fail
  refine HC8.out.mono ?_
  rintro e W8 ⟨t_x8, F8, rfl, hvo, hb⟩
  obtain ⟨p_x8, c_x8, hs, hj1, hj2⟩ := hvo.slice
  clear hj1 hj2
  rw [show (V.listed a.list).list.length = na from HNA.out] at hs
  subst hs
  have HIN_F8 : Hid (∀ g, F8 g → W7.heap.size ≤ g ∧ g < W8.heap.size) := Lib.hid (hvo.lt)
  have hz8 : W7.heap.size ≤ W8.heap.size := hb.size
  have HZ8 := Lib.hid hz8
  clear hz8
  have HM9 : Hid ((Below w.heap.size w W8) ∧ (VL W8 W2.heap.size a (.slice (some ⟨g_x, 0, none⟩) na (na + 3)) FX) ∧ (VO W8 W3.heap.size (V.listed a.list) (.slice p_x6 na c_x6) F6) ∧ (W8.heap[x6]? = some (.cells #[.int .i64 21, .int .u64 0, .string ⟨#[]⟩, .slice p_x6 na c_x6, .int .i64 0] 25 (0, 0))) ∧ (VO W8 W5.heap.size (V.mapped a.list) (.slice p_x7 na c_x7) F7) ∧ (W8.heap[x7]? = some (.cells #[.int .i64 22, .int .u64 0, .string ⟨#[]⟩, .slice p_x7 na c_x7, .int .i64 0] 25 (0, 0))) ∧ (VO W8 W7.heap.size (V.listed a.list) (.slice p_x8 na c_x8) F8)) := Lib.hid ((And.intro (HM8.out.1.trans (hb.mono HM8.out.1.size)) (And.intro (HM8.out.2.1.blw hb) (And.intro (HM8.out.2.2.1.blw hb) (And.intro ((hb.block _ (Array.getElem?_eq_some_iff.1 HM8.out.2.2.2.1).1).trans HM8.out.2.2.2.1) (And.intro (HM8.out.2.2.2.2.1.blw hb) (And.intro ((hb.block _ (Array.getElem?_eq_some_iff.1 HM8.out.2.2.2.2.2).1).trans HM8.out.2.2.2.2.2) hvo)))))))
  clear HM8
  clear hb hvo
  go_upto_region 11 with (refine wpList_store_rowTo rfl 25 (.tmp 8) (.tmp 32) rfl rfl W8.heap.size #[.int .i64 21, .int .u64 0, .string ⟨#[]⟩, .slice p_x8 na c_x8, .int .i64 0] rfl rfl 25 #[.int .i64 0, .int .u64 0, .string ⟨#[]⟩, .slice none 0 0, .int .i64 0] (_root_.Go.heap_alloc_new W8 _) (by as_aux_lemma => kernel_rfl) (by as_aux_lemma => kernel_rfl) (by simp [Value.oneCell']) ?_)
  have hb_W9 : Below W8.heap.size W8 ((W8.alloc (.cells #[.int .i64 0, .int .u64 0, .string ⟨#[]⟩, .slice none 0 0, .int .i64 0] 25)).setRow W8.heap.size #[.int .i64 21, .int .u64 0, .string ⟨#[]⟩, .slice p_x8 na c_x8, .int .i64 0]) := below_setRow ((Below.refl _ _).alloc (Nat.le_refl _) _) (Nat.le_refl _) _
  have ox8 := setRow_heap (W8.alloc (.cells #[.int .i64 0, .int .u64 0, .string ⟨#[]⟩, .slice none 0 0, .int .i64 0] 25)) W8.heap.size _ #[.int .i64 21, .int .u64 0, .string ⟨#[]⟩, .slice p_x8 na c_x8, .int .i64 0] _ _ (_root_.Go.heap_alloc_new W8 _)
  change Code.wp _ _ _ _ ((W8.alloc (.cells #[.int .i64 0, .int .u64 0, .string ⟨#[]⟩, .slice none 0 0, .int .i64 0] 25)).setRow W8.heap.size #[.int .i64 21, .int .u64 0, .string ⟨#[]⟩, .slice p_x8 na c_x8, .int .i64 0])
  generalize ((W8.alloc (.cells #[.int .i64 0, .int .u64 0, .string ⟨#[]⟩, .slice none 0 0, .int .i64 0] 25)).setRow W8.heap.size #[.int .i64 21, .int .u64 0, .string ⟨#[]⟩, .slice p_x8 na c_x8, .int .i64 0]) = W9 at *
  obtain ⟨x8, hx_x8⟩ : ∃ x, W8.heap.size = x := ⟨_, rfl⟩
  rw [hx_x8] at ox8 ⊢
  have HX_x8 := Lib.hid hx_x8
  clear hx_x8
  have hlt := (Array.getElem?_eq_some_iff.1 ox8).1
  have HLT_x8 := Lib.hid hlt
  clear hlt
  have hz9 : W8.heap.size ≤ W9.heap.size := hb_W9.size
  have HZ9 := Lib.hid hz9
  clear hz9
  have HM10 : Hid ((Below w.heap.size w W9) ∧ (VL W9 W2.heap.size a (.slice (some ⟨g_x, 0, none⟩) na (na + 3)) FX) ∧ (VO W9 W3.heap.size (V.listed a.list) (.slice p_x6 na c_x6) F6) ∧ (W9.heap[x6]? = some (.cells #[.int .i64 21, .int .u64 0, .string ⟨#[]⟩, .slice p_x6 na c_x6, .int .i64 0] 25 (0, 0))) ∧ (VO W9 W5.heap.size (V.mapped a.list) (.slice p_x7 na c_x7) F7) ∧ (W9.heap[x7]? = some (.cells #[.int .i64 22, .int .u64 0, .string ⟨#[]⟩, .slice p_x7 na c_x7, .int .i64 0] 25 (0, 0))) ∧ (VO W9 W7.heap.size (V.listed a.list) (.slice p_x8 na c_x8) F8) ∧ (W9.heap[x8]? = some (.cells #[.int .i64 21, .int .u64 0, .string ⟨#[]⟩, .slice p_x8 na c_x8, .int .i64 0] 25 (0, 0)))) := Lib.hid ((And.intro (HM9.out.1.trans (hb_W9.mono HM9.out.1.size)) (And.intro (HM9.out.2.1.blw hb_W9) (And.intro (HM9.out.2.2.1.blw hb_W9) (And.intro ((hb_W9.block _ (Array.getElem?_eq_some_iff.1 HM9.out.2.2.2.1).1).trans HM9.out.2.2.2.1) (And.intro (HM9.out.2.2.2.2.1.blw hb_W9) (And.intro ((hb_W9.block _ (Array.getElem?_eq_some_iff.1 HM9.out.2.2.2.2.2.1).1).trans HM9.out.2.2.2.2.2.1) (And.intro (HM9.out.2.2.2.2.2.2.blw hb_W9) ox8))))))))
  clear HM9
  clear hb_W9 ox8
  have hc := mapped_any a W9 _ HM10.out.2.1.vin (by have := HW.out; omega)
  have HC10 := Lib.hid hc
  clear hc
  go_wp2_with fail
  refine HC10.out.mono ?_
  rintro e W10 ⟨t_x9, F9, rfl, hvo, hb⟩
  obtain ⟨p_x9, c_x9, hs, hj1, hj2⟩ := hvo.slice
  clear hj1 hj2
  rw [show (V.mapped a.list).list.length = na from HNA.out] at hs
  subst hs
  have HIN_F9 : Hid (∀ g, F9 g → W9.heap.size ≤ g ∧ g < W10.heap.size) := Lib.hid (hvo.lt)
  have hz10 : W9.heap.size ≤ W10.heap.size := hb.size
  have HZ10 := Lib.hid hz10
  clear hz10
  have HM11 : Hid ((Below w.heap.size w W10) ∧ (VL W10 W2.heap.size a (.slice (some ⟨g_x, 0, none⟩) na (na + 3)) FX) ∧ (VO W10 W3.heap.size (V.listed a.list) (.slice p_x6 na c_x6) F6) ∧ (W10.heap[x6]? = some (.cells #[.int .i64 21, .int .u64 0, .string ⟨#[]⟩, .slice p_x6 na c_x6, .int .i64 0] 25 (0, 0))) ∧ (VO W10 W5.heap.size (V.mapped a.list) (.slice p_x7 na c_x7) F7) ∧ (W10.heap[x7]? = some (.cells #[.int .i64 22, .int .u64 0, .string ⟨#[]⟩, .slice p_x7 na c_x7, .int .i64 0] 25 (0, 0))) ∧ (VO W10 W7.heap.size (V.listed a.list) (.slice p_x8 na c_x8) F8) ∧ (W10.heap[x8]? = some (.cells #[.int .i64 21, .int .u64 0, .string ⟨#[]⟩, .slice p_x8 na c_x8, .int .i64 0] 25 (0, 0))) ∧ (VO W10 W9.heap.size (V.mapped a.list) (.slice p_x9 na c_x9) F9)) := Lib.hid ((And.intro (HM10.out.1.trans (hb.mono HM10.out.1.size)) (And.intro (HM10.out.2.1.blw hb) (And.intro (HM10.out.2.2.1.blw hb) (And.intro ((hb.block _ (Array.getElem?_eq_some_iff.1 HM10.out.2.2.2.1).1).trans HM10.out.2.2.2.1) (And.intro (HM10.out.2.2.2.2.1.blw hb) (And.intro ((hb.block _ (Array.getElem?_eq_some_iff.1 HM10.out.2.2.2.2.2.1).1).trans HM10.out.2.2.2.2.2.1) (And.intro (HM10.out.2.2.2.2.2.2.1.blw hb) (And.intro ((hb.block _ (Array.getElem?_eq_some_iff.1 HM10.out.2.2.2.2.2.2.2).1).trans HM10.out.2.2.2.2.2.2.2) hvo)))))))))
  clear HM10
  clear hb hvo
  go_upto_region 12 with (refine wpList_store_rowTo rfl 25 (.tmp 9) (.tmp 34) rfl rfl W10.heap.size #[.int .i64 22, .int .u64 0, .string ⟨#[]⟩, .slice p_x9 na c_x9, .int .i64 0] rfl rfl 25 #[.int .i64 0, .int .u64 0, .string ⟨#[]⟩, .slice none 0 0, .int .i64 0] (_root_.Go.heap_alloc_new W10 _) (by as_aux_lemma => kernel_rfl) (by as_aux_lemma => kernel_rfl) (by simp [Value.oneCell']) ?_)
  have hb_W11 : Below W10.heap.size W10 ((W10.alloc (.cells #[.int .i64 0, .int .u64 0, .string ⟨#[]⟩, .slice none 0 0, .int .i64 0] 25)).setRow W10.heap.size #[.int .i64 22, .int .u64 0, .string ⟨#[]⟩, .slice p_x9 na c_x9, .int .i64 0]) := below_setRow ((Below.refl _ _).alloc (Nat.le_refl _) _) (Nat.le_refl _) _
  have ox9 := setRow_heap (W10.alloc (.cells #[.int .i64 0, .int .u64 0, .string ⟨#[]⟩, .slice none 0 0, .int .i64 0] 25)) W10.heap.size _ #[.int .i64 22, .int .u64 0, .string ⟨#[]⟩, .slice p_x9 na c_x9, .int .i64 0] _ _ (_root_.Go.heap_alloc_new W10 _)
  change Code.wp _ _ _ _ ((W10.alloc (.cells #[.int .i64 0, .int .u64 0, .string ⟨#[]⟩, .slice none 0 0, .int .i64 0] 25)).setRow W10.heap.size #[.int .i64 22, .int .u64 0, .string ⟨#[]⟩, .slice p_x9 na c_x9, .int .i64 0])
  generalize ((W10.alloc (.cells #[.int .i64 0, .int .u64 0, .string ⟨#[]⟩, .slice none 0 0, .int .i64 0] 25)).setRow W10.heap.size #[.int .i64 22, .int .u64 0, .string ⟨#[]⟩, .slice p_x9 na c_x9, .int .i64 0]) = W11 at *
  obtain ⟨x9, hx_x9⟩ : ∃ x, W10.heap.size = x := ⟨_, rfl⟩
  rw [hx_x9] at ox9 ⊢
  have HX_x9 := Lib.hid hx_x9
  clear hx_x9
  have hlt := (Array.getElem?_eq_some_iff.1 ox9).1
  have HLT_x9 := Lib.hid hlt
  clear hlt
  have hz11 : W10.heap.size ≤ W11.heap.size := hb_W11.size
  have HZ11 := Lib.hid hz11
  clear hz11
  have HM12 : Hid ((Below w.heap.size w W11) ∧ (VL W11 W2.heap.size a (.slice (some ⟨g_x, 0, none⟩) na (na + 3)) FX) ∧ (VO W11 W3.heap.size (V.listed a.list) (.slice p_x6 na c_x6) F6) ∧ (W11.heap[x6]? = some (.cells #[.int .i64 21, .int .u64 0, .string ⟨#[]⟩, .slice p_x6 na c_x6, .int .i64 0] 25 (0, 0))) ∧ (VO W11 W5.heap.size (V.mapped a.list) (.slice p_x7 na c_x7) F7) ∧ (W11.heap[x7]? = some (.cells #[.int .i64 22, .int .u64 0, .string ⟨#[]⟩, .slice p_x7 na c_x7, .int .i64 0] 25 (0, 0))) ∧ (VO W11 W7.heap.size (V.listed a.list) (.slice p_x8 na c_x8) F8) ∧ (W11.heap[x8]? = some (.cells #[.int .i64 21, .int .u64 0, .string ⟨#[]⟩, .slice p_x8 na c_x8, .int .i64 0] 25 (0, 0))) ∧ (VO W11 W9.heap.size (V.mapped a.list) (.slice p_x9 na c_x9) F9) ∧ (W11.heap[x9]? = some (.cells #[.int .i64 22, .int .u64 0, .string ⟨#[]⟩, .slice p_x9 na c_x9, .int .i64 0] 25 (0, 0)))) := Lib.hid ((And.intro (HM11.out.1.trans (hb_W11.mono HM11.out.1.size)) (And.intro (HM11.out.2.1.blw hb_W11) (And.intro (HM11.out.2.2.1.blw hb_W11) (And.intro ((hb_W11.block _ (Array.getElem?_eq_some_iff.1 HM11.out.2.2.2.1).1).trans HM11.out.2.2.2.1) (And.intro (HM11.out.2.2.2.2.1.blw hb_W11) (And.intro ((hb_W11.block _ (Array.getElem?_eq_some_iff.1 HM11.out.2.2.2.2.2.1).1).trans HM11.out.2.2.2.2.2.1) (And.intro (HM11.out.2.2.2.2.2.2.1.blw hb_W11) (And.intro ((hb_W11.block _ (Array.getElem?_eq_some_iff.1 HM11.out.2.2.2.2.2.2.2.1).1).trans HM11.out.2.2.2.2.2.2.2.1) (And.intro (HM11.out.2.2.2.2.2.2.2.2.blw hb_W11) ox9))))))))))
  clear HM11
  clear hb_W11 ox9
  have hc := asls_any a (fun x _ => asl_on x) W11 w W2.heap.size _ _ FX HM12.out.2.1 HV.out (fun W hW => rd_below (KeepF.below HM12.out.1 hW (fun j q => by have h1 := HIN_FX.out j q; have z0 := HZ1.out; have z1 := HZ2.out; have z2 := HZ3.out; have z3 := HZ4.out; have z4 := HX_x6.out; have z5 := HLT_x6.out; have z6 := HZ5.out; have z7 := HZ6.out; have z8 := HX_x7.out; have z9 := HLT_x7.out; have z10 := HZ7.out; have z11 := HZ8.out; have z12 := HX_x8.out; have z13 := HLT_x8.out; have z14 := HZ9.out; have z15 := HZ10.out; have z16 := HX_x9.out; have z17 := HLT_x9.out; have z18 := HZ11.out; omega) HM12.out.1.size)) (by have := HW.out; omega)
  have HC12 := Lib.hid hc
  clear hc
  go_wp2_with fail
  refine HC12.out.mono ?_
  rintro e W12 ⟨rfl, hk⟩
  have HM13 : Hid ((Below w.heap.size w W11) ∧ (VO W11 W3.heap.size (V.listed a.list) (.slice p_x6 na c_x6) F6) ∧ (W11.heap[x6]? = some (.cells #[.int .i64 21, .int .u64 0, .string ⟨#[]⟩, .slice p_x6 na c_x6, .int .i64 0] 25 (0, 0))) ∧ (VO W11 W5.heap.size (V.mapped a.list) (.slice p_x7 na c_x7) F7) ∧ (W11.heap[x7]? = some (.cells #[.int .i64 22, .int .u64 0, .string ⟨#[]⟩, .slice p_x7 na c_x7, .int .i64 0] 25 (0, 0))) ∧ (VO W11 W7.heap.size (V.listed a.list) (.slice p_x8 na c_x8) F8) ∧ (W11.heap[x8]? = some (.cells #[.int .i64 21, .int .u64 0, .string ⟨#[]⟩, .slice p_x8 na c_x8, .int .i64 0] 25 (0, 0))) ∧ (VO W11 W9.heap.size (V.mapped a.list) (.slice p_x9 na c_x9) F9) ∧ (W11.heap[x9]? = some (.cells #[.int .i64 22, .int .u64 0, .string ⟨#[]⟩, .slice p_x9 na c_x9, .int .i64 0] 25 (0, 0)))) := Lib.hid ((And.intro HM12.out.1 (And.intro HM12.out.2.2.1 (And.intro HM12.out.2.2.2.1 (And.intro HM12.out.2.2.2.2.1 (And.intro HM12.out.2.2.2.2.2.1 (And.intro HM12.out.2.2.2.2.2.2.1 (And.intro HM12.out.2.2.2.2.2.2.2.1 (And.intro HM12.out.2.2.2.2.2.2.2.2.1 HM12.out.2.2.2.2.2.2.2.2.2)))))))))
  clear HM12
  have hz13 : W11.heap.size ≤ W12.heap.size := hk.size
  have HZ13 := Lib.hid hz13
  clear hz13
  have HM14 : Hid ((Below w.heap.size w W12) ∧ (VO W12 W3.heap.size (V.listed a.list) (.slice p_x6 na c_x6) F6) ∧ (W12.heap[x6]? = some (.cells #[.int .i64 21, .int .u64 0, .string ⟨#[]⟩, .slice p_x6 na c_x6, .int .i64 0] 25 (0, 0))) ∧ (VO W12 W5.heap.size (V.mapped a.list) (.slice p_x7 na c_x7) F7) ∧ (W12.heap[x7]? = some (.cells #[.int .i64 22, .int .u64 0, .string ⟨#[]⟩, .slice p_x7 na c_x7, .int .i64 0] 25 (0, 0))) ∧ (VO W12 W7.heap.size (V.listed a.list) (.slice p_x8 na c_x8) F8) ∧ (W12.heap[x8]? = some (.cells #[.int .i64 21, .int .u64 0, .string ⟨#[]⟩, .slice p_x8 na c_x8, .int .i64 0] 25 (0, 0))) ∧ (VO W12 W9.heap.size (V.mapped a.list) (.slice p_x9 na c_x9) F9) ∧ (W12.heap[x9]? = some (.cells #[.int .i64 22, .int .u64 0, .string ⟨#[]⟩, .slice p_x9 na c_x9, .int .i64 0] 25 (0, 0)))) := Lib.hid ((And.intro (KeepF.below HM13.out.1 hk (fun j q => by have h1 := HIN_FX.out j q; have z0 := HZ1.out; have z1 := HZ2.out; have z2 := HZ3.out; have z3 := HZ4.out; have z4 := HX_x6.out; have z5 := HLT_x6.out; have z6 := HZ5.out; have z7 := HZ6.out; have z8 := HX_x7.out; have z9 := HLT_x7.out; have z10 := HZ7.out; have z11 := HZ8.out; have z12 := HX_x8.out; have z13 := HLT_x8.out; have z14 := HZ9.out; have z15 := HZ10.out; have z16 := HX_x9.out; have z17 := HLT_x9.out; have z18 := HZ11.out; have z19 := HZ13.out; omega) HM13.out.1.size) (And.intro (HM13.out.2.1.keepF hk (fun j g q => by have h1 := HIN_FX.out j q; have h2 := HIN_F6.out j g; have z0 := HZ1.out; have z1 := HZ2.out; have z2 := HZ3.out; have z3 := HZ4.out; have z4 := HX_x6.out; have z5 := HLT_x6.out; have z6 := HZ5.out; have z7 := HZ6.out; have z8 := HX_x7.out; have z9 := HLT_x7.out; have z10 := HZ7.out; have z11 := HZ8.out; have z12 := HX_x8.out; have z13 := HLT_x8.out; have z14 := HZ9.out; have z15 := HZ10.out; have z16 := HX_x9.out; have z17 := HLT_x9.out; have z18 := HZ11.out; have z19 := HZ13.out; omega)) (And.intro ((hk.block _ (Array.getElem?_eq_some_iff.1 HM13.out.2.2.1).1 (fun q => by have h1 := HIN_FX.out _ q; have z0 := HZ1.out; have z1 := HZ2.out; have z2 := HZ3.out; have z3 := HZ4.out; have z4 := HX_x6.out; have z5 := HLT_x6.out; have z6 := HZ5.out; have z7 := HZ6.out; have z8 := HX_x7.out; have z9 := HLT_x7.out; have z10 := HZ7.out; have z11 := HZ8.out; have z12 := HX_x8.out; have z13 := HLT_x8.out; have z14 := HZ9.out; have z15 := HZ10.out; have z16 := HX_x9.out; have z17 := HLT_x9.out; have z18 := HZ11.out; have z19 := HZ13.out; omega)).trans HM13.out.2.2.1) (And.intro (HM13.out.2.2.2.1.keepF hk (fun j g q => by have h1 := HIN_FX.out j q; have h2 := HIN_F7.out j g; have z0 := HZ1.out; have z1 := HZ2.out; have z2 := HZ3.out; have z3 := HZ4.out; have z4 := HX_x6.out; have z5 := HLT_x6.out; have z6 := HZ5.out; have z7 := HZ6.out; have z8 := HX_x7.out; have z9 := HLT_x7.out; have z10 := HZ7.out; have z11 := HZ8.out; have z12 := HX_x8.out; have z13 := HLT_x8.out; have z14 := HZ9.out; have z15 := HZ10.out; have z16 := HX_x9.out; have z17 := HLT_x9.out; have z18 := HZ11.out; have z19 := HZ13.out; omega)) (And.intro ((hk.block _ (Array.getElem?_eq_some_iff.1 HM13.out.2.2.2.2.1).1 (fun q => by have h1 := HIN_FX.out _ q; have z0 := HZ1.out; have z1 := HZ2.out; have z2 := HZ3.out; have z3 := HZ4.out; have z4 := HX_x6.out; have z5 := HLT_x6.out; have z6 := HZ5.out; have z7 := HZ6.out; have z8 := HX_x7.out; have z9 := HLT_x7.out; have z10 := HZ7.out; have z11 := HZ8.out; have z12 := HX_x8.out; have z13 := HLT_x8.out; have z14 := HZ9.out; have z15 := HZ10.out; have z16 := HX_x9.out; have z17 := HLT_x9.out; have z18 := HZ11.out; have z19 := HZ13.out; omega)).trans HM13.out.2.2.2.2.1) (And.intro (HM13.out.2.2.2.2.2.1.keepF hk (fun j g q => by have h1 := HIN_FX.out j q; have h2 := HIN_F8.out j g; have z0 := HZ1.out; have z1 := HZ2.out; have z2 := HZ3.out; have z3 := HZ4.out; have z4 := HX_x6.out; have z5 := HLT_x6.out; have z6 := HZ5.out; have z7 := HZ6.out; have z8 := HX_x7.out; have z9 := HLT_x7.out; have z10 := HZ7.out; have z11 := HZ8.out; have z12 := HX_x8.out; have z13 := HLT_x8.out; have z14 := HZ9.out; have z15 := HZ10.out; have z16 := HX_x9.out; have z17 := HLT_x9.out; have z18 := HZ11.out; have z19 := HZ13.out; omega)) (And.intro ((hk.block _ (Array.getElem?_eq_some_iff.1 HM13.out.2.2.2.2.2.2.1).1 (fun q => by have h1 := HIN_FX.out _ q; have z0 := HZ1.out; have z1 := HZ2.out; have z2 := HZ3.out; have z3 := HZ4.out; have z4 := HX_x6.out; have z5 := HLT_x6.out; have z6 := HZ5.out; have z7 := HZ6.out; have z8 := HX_x7.out; have z9 := HLT_x7.out; have z10 := HZ7.out; have z11 := HZ8.out; have z12 := HX_x8.out; have z13 := HLT_x8.out; have z14 := HZ9.out; have z15 := HZ10.out; have z16 := HX_x9.out; have z17 := HLT_x9.out; have z18 := HZ11.out; have z19 := HZ13.out; omega)).trans HM13.out.2.2.2.2.2.2.1) (And.intro (HM13.out.2.2.2.2.2.2.2.1.keepF hk (fun j g q => by have h1 := HIN_FX.out j q; have h2 := HIN_F9.out j g; have z0 := HZ1.out; have z1 := HZ2.out; have z2 := HZ3.out; have z3 := HZ4.out; have z4 := HX_x6.out; have z5 := HLT_x6.out; have z6 := HZ5.out; have z7 := HZ6.out; have z8 := HX_x7.out; have z9 := HLT_x7.out; have z10 := HZ7.out; have z11 := HZ8.out; have z12 := HX_x8.out; have z13 := HLT_x8.out; have z14 := HZ9.out; have z15 := HZ10.out; have z16 := HX_x9.out; have z17 := HLT_x9.out; have z18 := HZ11.out; have z19 := HZ13.out; omega)) ((hk.block _ (Array.getElem?_eq_some_iff.1 HM13.out.2.2.2.2.2.2.2.2).1 (fun q => by have h1 := HIN_FX.out _ q; have z0 := HZ1.out; have z1 := HZ2.out; have z2 := HZ3.out; have z3 := HZ4.out; have z4 := HX_x6.out; have z5 := HLT_x6.out; have z6 := HZ5.out; have z7 := HZ6.out; have z8 := HX_x7.out; have z9 := HLT_x7.out; have z10 := HZ7.out; have z11 := HZ8.out; have z12 := HX_x8.out; have z13 := HLT_x8.out; have z14 := HZ9.out; have z15 := HZ10.out; have z16 := HX_x9.out; have z17 := HLT_x9.out; have z18 := HZ11.out; have z19 := HZ13.out; omega)).trans HM13.out.2.2.2.2.2.2.2.2))))))))))
  clear HM13
  clear hk
  go_upto_region 14 with (refine wpList_store_rowTo rfl 25 (.tmp 11) (.tmp 39) rfl rfl W12.heap.size #[.int .i64 21, .int .u64 0, .string ⟨#[]⟩, .slice pa na ca, .int .i64 0] rfl rfl 25 #[.int .i64 0, .int .u64 0, .string ⟨#[]⟩, .slice none 0 0, .int .i64 0] (_root_.Go.heap_alloc_new W12 _) (by as_aux_lemma => kernel_rfl) (by as_aux_lemma => kernel_rfl) (by simp [Value.oneCell']) ?_)
  have hb_W13 : Below W12.heap.size W12 ((W12.alloc (.cells #[.int .i64 0, .int .u64 0, .string ⟨#[]⟩, .slice none 0 0, .int .i64 0] 25)).setRow W12.heap.size #[.int .i64 21, .int .u64 0, .string ⟨#[]⟩, .slice pa na ca, .int .i64 0]) := below_setRow ((Below.refl _ _).alloc (Nat.le_refl _) _) (Nat.le_refl _) _
  have ox11 := setRow_heap (W12.alloc (.cells #[.int .i64 0, .int .u64 0, .string ⟨#[]⟩, .slice none 0 0, .int .i64 0] 25)) W12.heap.size _ #[.int .i64 21, .int .u64 0, .string ⟨#[]⟩, .slice pa na ca, .int .i64 0] _ _ (_root_.Go.heap_alloc_new W12 _)
  change Code.wp _ _ _ _ ((W12.alloc (.cells #[.int .i64 0, .int .u64 0, .string ⟨#[]⟩, .slice none 0 0, .int .i64 0] 25)).setRow W12.heap.size #[.int .i64 21, .int .u64 0, .string ⟨#[]⟩, .slice pa na ca, .int .i64 0])
  generalize ((W12.alloc (.cells #[.int .i64 0, .int .u64 0, .string ⟨#[]⟩, .slice none 0 0, .int .i64 0] 25)).setRow W12.heap.size #[.int .i64 21, .int .u64 0, .string ⟨#[]⟩, .slice pa na ca, .int .i64 0]) = W13 at *
  obtain ⟨x11, hx_x11⟩ : ∃ x, W12.heap.size = x := ⟨_, rfl⟩
  rw [hx_x11] at ox11 ⊢
  have HX_x11 := Lib.hid hx_x11
  clear hx_x11
  have hlt := (Array.getElem?_eq_some_iff.1 ox11).1
  have HLT_x11 := Lib.hid hlt
  clear hlt
  have hz14 : W12.heap.size ≤ W13.heap.size := hb_W13.size
  have HZ14 := Lib.hid hz14
  clear hz14
  have HM15 : Hid ((Below w.heap.size w W13) ∧ (VO W13 W3.heap.size (V.listed a.list) (.slice p_x6 na c_x6) F6) ∧ (W13.heap[x6]? = some (.cells #[.int .i64 21, .int .u64 0, .string ⟨#[]⟩, .slice p_x6 na c_x6, .int .i64 0] 25 (0, 0))) ∧ (VO W13 W5.heap.size (V.mapped a.list) (.slice p_x7 na c_x7) F7) ∧ (W13.heap[x7]? = some (.cells #[.int .i64 22, .int .u64 0, .string ⟨#[]⟩, .slice p_x7 na c_x7, .int .i64 0] 25 (0, 0))) ∧ (VO W13 W7.heap.size (V.listed a.list) (.slice p_x8 na c_x8) F8) ∧ (W13.heap[x8]? = some (.cells #[.int .i64 21, .int .u64 0, .string ⟨#[]⟩, .slice p_x8 na c_x8, .int .i64 0] 25 (0, 0))) ∧ (VO W13 W9.heap.size (V.mapped a.list) (.slice p_x9 na c_x9) F9) ∧ (W13.heap[x9]? = some (.cells #[.int .i64 22, .int .u64 0, .string ⟨#[]⟩, .slice p_x9 na c_x9, .int .i64 0] 25 (0, 0))) ∧ (W13.heap[x11]? = some (.cells #[.int .i64 21, .int .u64 0, .string ⟨#[]⟩, .slice pa na ca, .int .i64 0] 25 (0, 0)))) := Lib.hid ((And.intro (HM14.out.1.trans (hb_W13.mono HM14.out.1.size)) (And.intro (HM14.out.2.1.blw hb_W13) (And.intro ((hb_W13.block _ (Array.getElem?_eq_some_iff.1 HM14.out.2.2.1).1).trans HM14.out.2.2.1) (And.intro (HM14.out.2.2.2.1.blw hb_W13) (And.intro ((hb_W13.block _ (Array.getElem?_eq_some_iff.1 HM14.out.2.2.2.2.1).1).trans HM14.out.2.2.2.2.1) (And.intro (HM14.out.2.2.2.2.2.1.blw hb_W13) (And.intro ((hb_W13.block _ (Array.getElem?_eq_some_iff.1 HM14.out.2.2.2.2.2.2.1).1).trans HM14.out.2.2.2.2.2.2.1) (And.intro (HM14.out.2.2.2.2.2.2.2.1.blw hb_W13) (And.intro ((hb_W13.block _ (Array.getElem?_eq_some_iff.1 HM14.out.2.2.2.2.2.2.2.2).1).trans HM14.out.2.2.2.2.2.2.2.2) ox11))))))))))
  clear HM14
  clear hb_W13 ox11
  go_upto_region 15 with (refine wpList_store_rowTo rfl 25 (.tmp 12) (.tmp 41) rfl rfl W13.heap.size #[.int .i64 22, .int .u64 0, .string ⟨#[]⟩, .slice pa na ca, .int .i64 0] rfl rfl 25 #[.int .i64 0, .int .u64 0, .string ⟨#[]⟩, .slice none 0 0, .int .i64 0] (_root_.Go.heap_alloc_new W13 _) (by as_aux_lemma => kernel_rfl) (by as_aux_lemma => kernel_rfl) (by simp [Value.oneCell']) ?_)
  have hb_W14 : Below W13.heap.size W13 ((W13.alloc (.cells #[.int .i64 0, .int .u64 0, .string ⟨#[]⟩, .slice none 0 0, .int .i64 0] 25)).setRow W13.heap.size #[.int .i64 22, .int .u64 0, .string ⟨#[]⟩, .slice pa na ca, .int .i64 0]) := below_setRow ((Below.refl _ _).alloc (Nat.le_refl _) _) (Nat.le_refl _) _
  have ox12 := setRow_heap (W13.alloc (.cells #[.int .i64 0, .int .u64 0, .string ⟨#[]⟩, .slice none 0 0, .int .i64 0] 25)) W13.heap.size _ #[.int .i64 22, .int .u64 0, .string ⟨#[]⟩, .slice pa na ca, .int .i64 0] _ _ (_root_.Go.heap_alloc_new W13 _)
  change Code.wp _ _ _ _ ((W13.alloc (.cells #[.int .i64 0, .int .u64 0, .string ⟨#[]⟩, .slice none 0 0, .int .i64 0] 25)).setRow W13.heap.size #[.int .i64 22, .int .u64 0, .string ⟨#[]⟩, .slice pa na ca, .int .i64 0])
  generalize ((W13.alloc (.cells #[.int .i64 0, .int .u64 0, .string ⟨#[]⟩, .slice none 0 0, .int .i64 0] 25)).setRow W13.heap.size #[.int .i64 22, .int .u64 0, .string ⟨#[]⟩, .slice pa na ca, .int .i64 0]) = W14 at *
  obtain ⟨x12, hx_x12⟩ : ∃ x, W13.heap.size = x := ⟨_, rfl⟩
  rw [hx_x12] at ox12 ⊢
  have HX_x12 := Lib.hid hx_x12
  clear hx_x12
  have hlt := (Array.getElem?_eq_some_iff.1 ox12).1
  have HLT_x12 := Lib.hid hlt
  clear hlt
  have hz15 : W13.heap.size ≤ W14.heap.size := hb_W14.size
  have HZ15 := Lib.hid hz15
  clear hz15
  have HM16 : Hid ((Below w.heap.size w W14) ∧ (VO W14 W3.heap.size (V.listed a.list) (.slice p_x6 na c_x6) F6) ∧ (W14.heap[x6]? = some (.cells #[.int .i64 21, .int .u64 0, .string ⟨#[]⟩, .slice p_x6 na c_x6, .int .i64 0] 25 (0, 0))) ∧ (VO W14 W5.heap.size (V.mapped a.list) (.slice p_x7 na c_x7) F7) ∧ (W14.heap[x7]? = some (.cells #[.int .i64 22, .int .u64 0, .string ⟨#[]⟩, .slice p_x7 na c_x7, .int .i64 0] 25 (0, 0))) ∧ (VO W14 W7.heap.size (V.listed a.list) (.slice p_x8 na c_x8) F8) ∧ (W14.heap[x8]? = some (.cells #[.int .i64 21, .int .u64 0, .string ⟨#[]⟩, .slice p_x8 na c_x8, .int .i64 0] 25 (0, 0))) ∧ (VO W14 W9.heap.size (V.mapped a.list) (.slice p_x9 na c_x9) F9) ∧ (W14.heap[x9]? = some (.cells #[.int .i64 22, .int .u64 0, .string ⟨#[]⟩, .slice p_x9 na c_x9, .int .i64 0] 25 (0, 0))) ∧ (W14.heap[x11]? = some (.cells #[.int .i64 21, .int .u64 0, .string ⟨#[]⟩, .slice pa na ca, .int .i64 0] 25 (0, 0))) ∧ (W14.heap[x12]? = some (.cells #[.int .i64 22, .int .u64 0, .string ⟨#[]⟩, .slice pa na ca, .int .i64 0] 25 (0, 0)))) := Lib.hid ((And.intro (HM15.out.1.trans (hb_W14.mono HM15.out.1.size)) (And.intro (HM15.out.2.1.blw hb_W14) (And.intro ((hb_W14.block _ (Array.getElem?_eq_some_iff.1 HM15.out.2.2.1).1).trans HM15.out.2.2.1) (And.intro (HM15.out.2.2.2.1.blw hb_W14) (And.intro ((hb_W14.block _ (Array.getElem?_eq_some_iff.1 HM15.out.2.2.2.2.1).1).trans HM15.out.2.2.2.2.1) (And.intro (HM15.out.2.2.2.2.2.1.blw hb_W14) (And.intro ((hb_W14.block _ (Array.getElem?_eq_some_iff.1 HM15.out.2.2.2.2.2.2.1).1).trans HM15.out.2.2.2.2.2.2.1) (And.intro (HM15.out.2.2.2.2.2.2.2.1.blw hb_W14) (And.intro ((hb_W14.block _ (Array.getElem?_eq_some_iff.1 HM15.out.2.2.2.2.2.2.2.2.1).1).trans HM15.out.2.2.2.2.2.2.2.2.1) (And.intro ((hb_W14.block _ (Array.getElem?_eq_some_iff.1 HM15.out.2.2.2.2.2.2.2.2.2).1).trans HM15.out.2.2.2.2.2.2.2.2.2) ox12)))))))))))
  clear HM15
  clear hb_W14 ox12
  have hc : Calls Tryd.prog 17 #[.agg #[.int .i64 21, .int .u64 0, .string ⟨#[]⟩, .slice p_x6 na c_x6, .int .i64 0], .agg #[.int .i64 21, .int .u64 0, .string ⟨#[]⟩, .slice pa na ca, .int .i64 0]] W14 _ := requal_any (V.listed a.list) W14 _ (V.listed a.list) _ HM16.out.2.1.vin ((HV.out.blw HM16.out.1).as rfl (wf_bare 21 a.list ⟨by omega, by omega⟩))
  rw [decide_eq_true rfl] at hc
  have HC15 := Lib.hid hc
  clear hc
  have q := HM16.out.2.2.1
  have x6_0 : W14.cell? ⟨x6, 0, none⟩ = some (.int .i64 21) := (cell_of_row _ _ 0 _ _ _ q).trans rfl
  have x6_1 : W14.cell? ⟨x6, 1, none⟩ = some (.int .u64 0) := (cell_of_row _ _ 1 _ _ _ q).trans rfl
  have x6_2 : W14.cell? ⟨x6, 2, none⟩ = some (.string ⟨#[]⟩) := (cell_of_row _ _ 2 _ _ _ q).trans rfl
  have x6_3 : W14.cell? ⟨x6, 3, none⟩ = some (.slice p_x6 na c_x6) := (cell_of_row _ _ 3 _ _ _ q).trans rfl
  have x6_4 : W14.cell? ⟨x6, 4, none⟩ = some (.int .i64 0) := (cell_of_row _ _ 4 _ _ _ q).trans rfl
  clear q
  have q := HM16.out.2.2.2.2.2.2.2.2.2.1
  have x11_0 : W14.cell? ⟨x11, 0, none⟩ = some (.int .i64 21) := (cell_of_row _ _ 0 _ _ _ q).trans rfl
  have x11_1 : W14.cell? ⟨x11, 1, none⟩ = some (.int .u64 0) := (cell_of_row _ _ 1 _ _ _ q).trans rfl
  have x11_2 : W14.cell? ⟨x11, 2, none⟩ = some (.string ⟨#[]⟩) := (cell_of_row _ _ 2 _ _ _ q).trans rfl
  have x11_3 : W14.cell? ⟨x11, 3, none⟩ = some (.slice pa na ca) := (cell_of_row _ _ 3 _ _ _ q).trans rfl
  have x11_4 : W14.cell? ⟨x11, 4, none⟩ = some (.int .i64 0) := (cell_of_row _ _ 4 _ _ _ q).trans rfl
  clear q
  go_wp2_with fail
  refine HC15.out.mono ?_
  clear x6_0 x6_1 x6_2 x6_3 x6_4 x11_0 x11_1 x11_2 x11_3 x11_4
  rintro e W15 ⟨rfl, hb⟩
  have hz16 : W14.heap.size ≤ W15.heap.size := hb.size
  have HZ16 := Lib.hid hz16
  clear hz16
  have HM17 : Hid ((Below w.heap.size w W15) ∧ (VO W15 W3.heap.size (V.listed a.list) (.slice p_x6 na c_x6) F6) ∧ (W15.heap[x6]? = some (.cells #[.int .i64 21, .int .u64 0, .string ⟨#[]⟩, .slice p_x6 na c_x6, .int .i64 0] 25 (0, 0))) ∧ (VO W15 W5.heap.size (V.mapped a.list) (.slice p_x7 na c_x7) F7) ∧ (W15.heap[x7]? = some (.cells #[.int .i64 22, .int .u64 0, .string ⟨#[]⟩, .slice p_x7 na c_x7, .int .i64 0] 25 (0, 0))) ∧ (VO W15 W7.heap.size (V.listed a.list) (.slice p_x8 na c_x8) F8) ∧ (W15.heap[x8]? = some (.cells #[.int .i64 21, .int .u64 0, .string ⟨#[]⟩, .slice p_x8 na c_x8, .int .i64 0] 25 (0, 0))) ∧ (VO W15 W9.heap.size (V.mapped a.list) (.slice p_x9 na c_x9) F9) ∧ (W15.heap[x9]? = some (.cells #[.int .i64 22, .int .u64 0, .string ⟨#[]⟩, .slice p_x9 na c_x9, .int .i64 0] 25 (0, 0))) ∧ (W15.heap[x11]? = some (.cells #[.int .i64 21, .int .u64 0, .string ⟨#[]⟩, .slice pa na ca, .int .i64 0] 25 (0, 0))) ∧ (W15.heap[x12]? = some (.cells #[.int .i64 22, .int .u64 0, .string ⟨#[]⟩, .slice pa na ca, .int .i64 0] 25 (0, 0)))) := Lib.hid ((And.intro (HM16.out.1.trans (hb.mono HM16.out.1.size)) (And.intro (HM16.out.2.1.blw hb) (And.intro ((hb.block _ (Array.getElem?_eq_some_iff.1 HM16.out.2.2.1).1).trans HM16.out.2.2.1) (And.intro (HM16.out.2.2.2.1.blw hb) (And.intro ((hb.block _ (Array.getElem?_eq_some_iff.1 HM16.out.2.2.2.2.1).1).trans HM16.out.2.2.2.2.1) (And.intro (HM16.out.2.2.2.2.2.1.blw hb) (And.intro ((hb.block _ (Array.getElem?_eq_some_iff.1 HM16.out.2.2.2.2.2.2.1).1).trans HM16.out.2.2.2.2.2.2.1) (And.intro (HM16.out.2.2.2.2.2.2.2.1.blw hb) (And.intro ((hb.block _ (Array.getElem?_eq_some_iff.1 HM16.out.2.2.2.2.2.2.2.2.1).1).trans HM16.out.2.2.2.2.2.2.2.2.1) (And.intro ((hb.block _ (Array.getElem?_eq_some_iff.1 HM16.out.2.2.2.2.2.2.2.2.2.1).1).trans HM16.out.2.2.2.2.2.2.2.2.2.1) ((hb.block _ (Array.getElem?_eq_some_iff.1 HM16.out.2.2.2.2.2.2.2.2.2.2).1).trans HM16.out.2.2.2.2.2.2.2.2.2.2))))))))))))
  clear HM16
  clear hb
  have hc : Calls Tryd.prog 17 #[.agg #[.int .i64 22, .int .u64 0, .string ⟨#[]⟩, .slice p_x7 na c_x7, .int .i64 0], .agg #[.int .i64 22, .int .u64 0, .string ⟨#[]⟩, .slice pa na ca, .int .i64 0]] W15 _ := requal_any (V.mapped a.list) W15 _ (V.mapped a.list) _ HM17.out.2.2.2.1.vin ((HV.out.blw HM17.out.1).as rfl (wf_bare 22 a.list ⟨by omega, by omega⟩))
  rw [decide_eq_true rfl] at hc
  have HC16 := Lib.hid hc
  clear hc
  have q := HM17.out.2.2.2.2.1
  have x7_0 : W15.cell? ⟨x7, 0, none⟩ = some (.int .i64 22) := (cell_of_row _ _ 0 _ _ _ q).trans rfl
  have x7_1 : W15.cell? ⟨x7, 1, none⟩ = some (.int .u64 0) := (cell_of_row _ _ 1 _ _ _ q).trans rfl
  have x7_2 : W15.cell? ⟨x7, 2, none⟩ = some (.string ⟨#[]⟩) := (cell_of_row _ _ 2 _ _ _ q).trans rfl
  have x7_3 : W15.cell? ⟨x7, 3, none⟩ = some (.slice p_x7 na c_x7) := (cell_of_row _ _ 3 _ _ _ q).trans rfl
  have x7_4 : W15.cell? ⟨x7, 4, none⟩ = some (.int .i64 0) := (cell_of_row _ _ 4 _ _ _ q).trans rfl
  clear q
  have q := HM17.out.2.2.2.2.2.2.2.2.2.2
  have x12_0 : W15.cell? ⟨x12, 0, none⟩ = some (.int .i64 22) := (cell_of_row _ _ 0 _ _ _ q).trans rfl
  have x12_1 : W15.cell? ⟨x12, 1, none⟩ = some (.int .u64 0) := (cell_of_row _ _ 1 _ _ _ q).trans rfl
  have x12_2 : W15.cell? ⟨x12, 2, none⟩ = some (.string ⟨#[]⟩) := (cell_of_row _ _ 2 _ _ _ q).trans rfl
  have x12_3 : W15.cell? ⟨x12, 3, none⟩ = some (.slice pa na ca) := (cell_of_row _ _ 3 _ _ _ q).trans rfl
  have x12_4 : W15.cell? ⟨x12, 4, none⟩ = some (.int .i64 0) := (cell_of_row _ _ 4 _ _ _ q).trans rfl
  clear q
  go_wp2_with fail
  refine HC16.out.mono ?_
  clear x7_0 x7_1 x7_2 x7_3 x7_4 x12_0 x12_1 x12_2 x12_3 x12_4
  rintro e W16 ⟨rfl, hb⟩
  have hz17 : W15.heap.size ≤ W16.heap.size := hb.size
  have HZ17 := Lib.hid hz17
  clear hz17
  have HM18 : Hid ((Below w.heap.size w W16) ∧ (VO W16 W3.heap.size (V.listed a.list) (.slice p_x6 na c_x6) F6) ∧ (W16.heap[x6]? = some (.cells #[.int .i64 21, .int .u64 0, .string ⟨#[]⟩, .slice p_x6 na c_x6, .int .i64 0] 25 (0, 0))) ∧ (VO W16 W5.heap.size (V.mapped a.list) (.slice p_x7 na c_x7) F7) ∧ (W16.heap[x7]? = some (.cells #[.int .i64 22, .int .u64 0, .string ⟨#[]⟩, .slice p_x7 na c_x7, .int .i64 0] 25 (0, 0))) ∧ (VO W16 W7.heap.size (V.listed a.list) (.slice p_x8 na c_x8) F8) ∧ (W16.heap[x8]? = some (.cells #[.int .i64 21, .int .u64 0, .string ⟨#[]⟩, .slice p_x8 na c_x8, .int .i64 0] 25 (0, 0))) ∧ (VO W16 W9.heap.size (V.mapped a.list) (.slice p_x9 na c_x9) F9) ∧ (W16.heap[x9]? = some (.cells #[.int .i64 22, .int .u64 0, .string ⟨#[]⟩, .slice p_x9 na c_x9, .int .i64 0] 25 (0, 0))) ∧ (W16.heap[x11]? = some (.cells #[.int .i64 21, .int .u64 0, .string ⟨#[]⟩, .slice pa na ca, .int .i64 0] 25 (0, 0))) ∧ (W16.heap[x12]? = some (.cells #[.int .i64 22, .int .u64 0, .string ⟨#[]⟩, .slice pa na ca, .int .i64 0] 25 (0, 0)))) := Lib.hid ((And.intro (HM17.out.1.trans (hb.mono HM17.out.1.size)) (And.intro (HM17.out.2.1.blw hb) (And.intro ((hb.block _ (Array.getElem?_eq_some_iff.1 HM17.out.2.2.1).1).trans HM17.out.2.2.1) (And.intro (HM17.out.2.2.2.1.blw hb) (And.intro ((hb.block _ (Array.getElem?_eq_some_iff.1 HM17.out.2.2.2.2.1).1).trans HM17.out.2.2.2.2.1) (And.intro (HM17.out.2.2.2.2.2.1.blw hb) (And.intro ((hb.block _ (Array.getElem?_eq_some_iff.1 HM17.out.2.2.2.2.2.2.1).1).trans HM17.out.2.2.2.2.2.2.1) (And.intro (HM17.out.2.2.2.2.2.2.2.1.blw hb) (And.intro ((hb.block _ (Array.getElem?_eq_some_iff.1 HM17.out.2.2.2.2.2.2.2.2.1).1).trans HM17.out.2.2.2.2.2.2.2.2.1) (And.intro ((hb.block _ (Array.getElem?_eq_some_iff.1 HM17.out.2.2.2.2.2.2.2.2.2.1).1).trans HM17.out.2.2.2.2.2.2.2.2.2.1) ((hb.block _ (Array.getElem?_eq_some_iff.1 HM17.out.2.2.2.2.2.2.2.2.2.2).1).trans HM17.out.2.2.2.2.2.2.2.2.2.2))))))))))))
  clear HM17
  clear hb
  have hc : Calls Tryd.prog 17 #[.agg #[.int .i64 21, .int .u64 0, .string ⟨#[]⟩, .slice p_x8 na c_x8, .int .i64 0], .agg #[.int .i64 21, .int .u64 0, .string ⟨#[]⟩, .slice pa na ca, .int .i64 0]] W16 _ := requal_any (V.listed a.list) W16 _ (V.listed a.list) _ HM18.out.2.2.2.2.2.1.vin ((HV.out.blw HM18.out.1).as rfl (wf_bare 21 a.list ⟨by omega, by omega⟩))
  rw [decide_eq_true rfl] at hc
  have HC17 := Lib.hid hc
  clear hc
  have q := HM18.out.2.2.2.2.2.2.1
  have x8_0 : W16.cell? ⟨x8, 0, none⟩ = some (.int .i64 21) := (cell_of_row _ _ 0 _ _ _ q).trans rfl
  have x8_1 : W16.cell? ⟨x8, 1, none⟩ = some (.int .u64 0) := (cell_of_row _ _ 1 _ _ _ q).trans rfl
  have x8_2 : W16.cell? ⟨x8, 2, none⟩ = some (.string ⟨#[]⟩) := (cell_of_row _ _ 2 _ _ _ q).trans rfl
  have x8_3 : W16.cell? ⟨x8, 3, none⟩ = some (.slice p_x8 na c_x8) := (cell_of_row _ _ 3 _ _ _ q).trans rfl
  have x8_4 : W16.cell? ⟨x8, 4, none⟩ = some (.int .i64 0) := (cell_of_row _ _ 4 _ _ _ q).trans rfl
  clear q
  have q := HM18.out.2.2.2.2.2.2.2.2.2.1
  have x11_0 : W16.cell? ⟨x11, 0, none⟩ = some (.int .i64 21) := (cell_of_row _ _ 0 _ _ _ q).trans rfl
  have x11_1 : W16.cell? ⟨x11, 1, none⟩ = some (.int .u64 0) := (cell_of_row _ _ 1 _ _ _ q).trans rfl
  have x11_2 : W16.cell? ⟨x11, 2, none⟩ = some (.string ⟨#[]⟩) := (cell_of_row _ _ 2 _ _ _ q).trans rfl
  have x11_3 : W16.cell? ⟨x11, 3, none⟩ = some (.slice pa na ca) := (cell_of_row _ _ 3 _ _ _ q).trans rfl
  have x11_4 : W16.cell? ⟨x11, 4, none⟩ = some (.int .i64 0) := (cell_of_row _ _ 4 _ _ _ q).trans rfl
  clear q
  go_wp2_with fail
  refine HC17.out.mono ?_
  clear x8_0 x8_1 x8_2 x8_3 x8_4 x11_0 x11_1 x11_2 x11_3 x11_4
  rintro e W17 ⟨rfl, hb⟩
  have hz18 : W16.heap.size ≤ W17.heap.size := hb.size
  have HZ18 := Lib.hid hz18
  clear hz18
  have HM19 : Hid ((Below w.heap.size w W17) ∧ (VO W17 W3.heap.size (V.listed a.list) (.slice p_x6 na c_x6) F6) ∧ (W17.heap[x6]? = some (.cells #[.int .i64 21, .int .u64 0, .string ⟨#[]⟩, .slice p_x6 na c_x6, .int .i64 0] 25 (0, 0))) ∧ (VO W17 W5.heap.size (V.mapped a.list) (.slice p_x7 na c_x7) F7) ∧ (W17.heap[x7]? = some (.cells #[.int .i64 22, .int .u64 0, .string ⟨#[]⟩, .slice p_x7 na c_x7, .int .i64 0] 25 (0, 0))) ∧ (VO W17 W7.heap.size (V.listed a.list) (.slice p_x8 na c_x8) F8) ∧ (W17.heap[x8]? = some (.cells #[.int .i64 21, .int .u64 0, .string ⟨#[]⟩, .slice p_x8 na c_x8, .int .i64 0] 25 (0, 0))) ∧ (VO W17 W9.heap.size (V.mapped a.list) (.slice p_x9 na c_x9) F9) ∧ (W17.heap[x9]? = some (.cells #[.int .i64 22, .int .u64 0, .string ⟨#[]⟩, .slice p_x9 na c_x9, .int .i64 0] 25 (0, 0))) ∧ (W17.heap[x11]? = some (.cells #[.int .i64 21, .int .u64 0, .string ⟨#[]⟩, .slice pa na ca, .int .i64 0] 25 (0, 0))) ∧ (W17.heap[x12]? = some (.cells #[.int .i64 22, .int .u64 0, .string ⟨#[]⟩, .slice pa na ca, .int .i64 0] 25 (0, 0)))) := Lib.hid ((And.intro (HM18.out.1.trans (hb.mono HM18.out.1.size)) (And.intro (HM18.out.2.1.blw hb) (And.intro ((hb.block _ (Array.getElem?_eq_some_iff.1 HM18.out.2.2.1).1).trans HM18.out.2.2.1) (And.intro (HM18.out.2.2.2.1.blw hb) (And.intro ((hb.block _ (Array.getElem?_eq_some_iff.1 HM18.out.2.2.2.2.1).1).trans HM18.out.2.2.2.2.1) (And.intro (HM18.out.2.2.2.2.2.1.blw hb) (And.intro ((hb.block _ (Array.getElem?_eq_some_iff.1 HM18.out.2.2.2.2.2.2.1).1).trans HM18.out.2.2.2.2.2.2.1) (And.intro (HM18.out.2.2.2.2.2.2.2.1.blw hb) (And.intro ((hb.block _ (Array.getElem?_eq_some_iff.1 HM18.out.2.2.2.2.2.2.2.2.1).1).trans HM18.out.2.2.2.2.2.2.2.2.1) (And.intro ((hb.block _ (Array.getElem?_eq_some_iff.1 HM18.out.2.2.2.2.2.2.2.2.2.1).1).trans HM18.out.2.2.2.2.2.2.2.2.2.1) ((hb.block _ (Array.getElem?_eq_some_iff.1 HM18.out.2.2.2.2.2.2.2.2.2.2).1).trans HM18.out.2.2.2.2.2.2.2.2.2.2))))))))))))
  clear HM18
  clear hb
  have hc : Calls Tryd.prog 17 #[.agg #[.int .i64 22, .int .u64 0, .string ⟨#[]⟩, .slice p_x9 na c_x9, .int .i64 0], .agg #[.int .i64 22, .int .u64 0, .string ⟨#[]⟩, .slice pa na ca, .int .i64 0]] W17 _ := requal_any (V.mapped a.list) W17 _ (V.mapped a.list) _ HM19.out.2.2.2.2.2.2.2.1.vin ((HV.out.blw HM19.out.1).as rfl (wf_bare 22 a.list ⟨by omega, by omega⟩))
  rw [decide_eq_true rfl] at hc
  have HC18 := Lib.hid hc
  clear hc
  have q := HM19.out.2.2.2.2.2.2.2.2.1
  have x9_0 : W17.cell? ⟨x9, 0, none⟩ = some (.int .i64 22) := (cell_of_row _ _ 0 _ _ _ q).trans rfl
  have x9_1 : W17.cell? ⟨x9, 1, none⟩ = some (.int .u64 0) := (cell_of_row _ _ 1 _ _ _ q).trans rfl
  have x9_2 : W17.cell? ⟨x9, 2, none⟩ = some (.string ⟨#[]⟩) := (cell_of_row _ _ 2 _ _ _ q).trans rfl
  have x9_3 : W17.cell? ⟨x9, 3, none⟩ = some (.slice p_x9 na c_x9) := (cell_of_row _ _ 3 _ _ _ q).trans rfl
  have x9_4 : W17.cell? ⟨x9, 4, none⟩ = some (.int .i64 0) := (cell_of_row _ _ 4 _ _ _ q).trans rfl
  clear q
  have q := HM19.out.2.2.2.2.2.2.2.2.2.2
  have x12_0 : W17.cell? ⟨x12, 0, none⟩ = some (.int .i64 22) := (cell_of_row _ _ 0 _ _ _ q).trans rfl
  have x12_1 : W17.cell? ⟨x12, 1, none⟩ = some (.int .u64 0) := (cell_of_row _ _ 1 _ _ _ q).trans rfl
  have x12_2 : W17.cell? ⟨x12, 2, none⟩ = some (.string ⟨#[]⟩) := (cell_of_row _ _ 2 _ _ _ q).trans rfl
  have x12_3 : W17.cell? ⟨x12, 3, none⟩ = some (.slice pa na ca) := (cell_of_row _ _ 3 _ _ _ q).trans rfl
  have x12_4 : W17.cell? ⟨x12, 4, none⟩ = some (.int .i64 0) := (cell_of_row _ _ 4 _ _ _ q).trans rfl
  clear q
  go_wp2_with fail
  refine HC18.out.mono ?_
  clear x9_0 x9_1 x9_2 x9_3 x9_4 x12_0 x12_1 x12_2 x12_3 x12_4
  rintro e W18 ⟨rfl, hb⟩
  have hz19 : W17.heap.size ≤ W18.heap.size := hb.size
  have HZ19 := Lib.hid hz19
  clear hz19
  have HM20 : Hid ((Below w.heap.size w W18) ∧ (VO W18 W3.heap.size (V.listed a.list) (.slice p_x6 na c_x6) F6) ∧ (W18.heap[x6]? = some (.cells #[.int .i64 21, .int .u64 0, .string ⟨#[]⟩, .slice p_x6 na c_x6, .int .i64 0] 25 (0, 0))) ∧ (VO W18 W5.heap.size (V.mapped a.list) (.slice p_x7 na c_x7) F7) ∧ (W18.heap[x7]? = some (.cells #[.int .i64 22, .int .u64 0, .string ⟨#[]⟩, .slice p_x7 na c_x7, .int .i64 0] 25 (0, 0))) ∧ (VO W18 W7.heap.size (V.listed a.list) (.slice p_x8 na c_x8) F8) ∧ (W18.heap[x8]? = some (.cells #[.int .i64 21, .int .u64 0, .string ⟨#[]⟩, .slice p_x8 na c_x8, .int .i64 0] 25 (0, 0))) ∧ (VO W18 W9.heap.size (V.mapped a.list) (.slice p_x9 na c_x9) F9) ∧ (W18.heap[x9]? = some (.cells #[.int .i64 22, .int .u64 0, .string ⟨#[]⟩, .slice p_x9 na c_x9, .int .i64 0] 25 (0, 0))) ∧ (W18.heap[x11]? = some (.cells #[.int .i64 21, .int .u64 0, .string ⟨#[]⟩, .slice pa na ca, .int .i64 0] 25 (0, 0))) ∧ (W18.heap[x12]? = some (.cells #[.int .i64 22, .int .u64 0, .string ⟨#[]⟩, .slice pa na ca, .int .i64 0] 25 (0, 0)))) := Lib.hid ((And.intro (HM19.out.1.trans (hb.mono HM19.out.1.size)) (And.intro (HM19.out.2.1.blw hb) (And.intro ((hb.block _ (Array.getElem?_eq_some_iff.1 HM19.out.2.2.1).1).trans HM19.out.2.2.1) (And.intro (HM19.out.2.2.2.1.blw hb) (And.intro ((hb.block _ (Array.getElem?_eq_some_iff.1 HM19.out.2.2.2.2.1).1).trans HM19.out.2.2.2.2.1) (And.intro (HM19.out.2.2.2.2.2.1.blw hb) (And.intro ((hb.block _ (Array.getElem?_eq_some_iff.1 HM19.out.2.2.2.2.2.2.1).1).trans HM19.out.2.2.2.2.2.2.1) (And.intro (HM19.out.2.2.2.2.2.2.2.1.blw hb) (And.intro ((hb.block _ (Array.getElem?_eq_some_iff.1 HM19.out.2.2.2.2.2.2.2.2.1).1).trans HM19.out.2.2.2.2.2.2.2.2.1) (And.intro ((hb.block _ (Array.getElem?_eq_some_iff.1 HM19.out.2.2.2.2.2.2.2.2.2.1).1).trans HM19.out.2.2.2.2.2.2.2.2.2.1) ((hb.block _ (Array.getElem?_eq_some_iff.1 HM19.out.2.2.2.2.2.2.2.2.2.2).1).trans HM19.out.2.2.2.2.2.2.2.2.2.2))))))))))))
  clear HM19
  clear hb
  go_upto_region 20 with fail
  have hb : Below W18.heap.size W18 (W18.alloc (.cells #[.slice none 0 0] 42)) := (Below.refl _ _).alloc (Nat.le_refl _) _
  have hbk : BkIn (W18.alloc (.cells #[.slice none 0 0] 42)) w.heap.size W18.heap.size (.slice none 0 0) [] (fun _ => False) := BkIn.start HM20.out.1.size
  generalize (W18.alloc (.cells #[.slice none 0 0] 42)) = W19 at *
  obtain ⟨bk, hbkn⟩ : ∃ bk, W18.heap.size = bk := ⟨_, rfl⟩
  rw [hbkn] at hbk ⊢
  clear hbkn
  obtain ⟨QZ, hQ⟩ : ∃ Q : Nat → Prop, (fun _ => False) = Q := ⟨_, rfl⟩
  rw [hQ] at hbk
  have HIN_QZ : Hid (∀ g, QZ g → 0 ≤ g ∧ g < 0) := Lib.hid (fun g q => by rw [← hQ] at q; exact q.elim)
  clear hQ
  have hz20 : W18.heap.size ≤ W19.heap.size := hb.size
  have HZ20 := Lib.hid hz20
  clear hz20
  have HM21 : Hid ((Below w.heap.size w W19) ∧ (VO W19 W3.heap.size (V.listed a.list) (.slice p_x6 na c_x6) F6) ∧ (W19.heap[x6]? = some (.cells #[.int .i64 21, .int .u64 0, .string ⟨#[]⟩, .slice p_x6 na c_x6, .int .i64 0] 25 (0, 0))) ∧ (VO W19 W5.heap.size (V.mapped a.list) (.slice p_x7 na c_x7) F7) ∧ (W19.heap[x7]? = some (.cells #[.int .i64 22, .int .u64 0, .string ⟨#[]⟩, .slice p_x7 na c_x7, .int .i64 0] 25 (0, 0))) ∧ (VO W19 W7.heap.size (V.listed a.list) (.slice p_x8 na c_x8) F8) ∧ (W19.heap[x8]? = some (.cells #[.int .i64 21, .int .u64 0, .string ⟨#[]⟩, .slice p_x8 na c_x8, .int .i64 0] 25 (0, 0))) ∧ (VO W19 W9.heap.size (V.mapped a.list) (.slice p_x9 na c_x9) F9) ∧ (W19.heap[x9]? = some (.cells #[.int .i64 22, .int .u64 0, .string ⟨#[]⟩, .slice p_x9 na c_x9, .int .i64 0] 25 (0, 0))) ∧ (W19.heap[x11]? = some (.cells #[.int .i64 21, .int .u64 0, .string ⟨#[]⟩, .slice pa na ca, .int .i64 0] 25 (0, 0))) ∧ (W19.heap[x12]? = some (.cells #[.int .i64 22, .int .u64 0, .string ⟨#[]⟩, .slice pa na ca, .int .i64 0] 25 (0, 0))) ∧ (BkIn W19 w.heap.size bk (.slice none 0 0) [] QZ)) := Lib.hid ((And.intro (HM20.out.1.trans (hb.mono HM20.out.1.size)) (And.intro (HM20.out.2.1.blw hb) (And.intro ((hb.block _ (Array.getElem?_eq_some_iff.1 HM20.out.2.2.1).1).trans HM20.out.2.2.1) (And.intro (HM20.out.2.2.2.1.blw hb) (And.intro ((hb.block _ (Array.getElem?_eq_some_iff.1 HM20.out.2.2.2.2.1).1).trans HM20.out.2.2.2.2.1) (And.intro (HM20.out.2.2.2.2.2.1.blw hb) (And.intro ((hb.block _ (Array.getElem?_eq_some_iff.1 HM20.out.2.2.2.2.2.2.1).1).trans HM20.out.2.2.2.2.2.2.1) (And.intro (HM20.out.2.2.2.2.2.2.2.1.blw hb) (And.intro ((hb.block _ (Array.getElem?_eq_some_iff.1 HM20.out.2.2.2.2.2.2.2.2.1).1).trans HM20.out.2.2.2.2.2.2.2.2.1) (And.intro ((hb.block _ (Array.getElem?_eq_some_iff.1 HM20.out.2.2.2.2.2.2.2.2.2.1).1).trans HM20.out.2.2.2.2.2.2.2.2.2.1) (And.intro ((hb.block _ (Array.getElem?_eq_some_iff.1 HM20.out.2.2.2.2.2.2.2.2.2.2).1).trans HM20.out.2.2.2.2.2.2.2.2.2.2) hbk))))))))))))
  clear HM20
  clear hb hbk
  have hc : Calls Tryd.prog 30 #[.pointer (some ⟨bk, 0, none⟩), .agg #[.int .i64 21, .int .u64 0, .string ⟨#[]⟩, .slice p_x6 na c_x6, .int .i64 0]] W19 _ := take_on (V.listed a.list) W19 w.heap.size bk (.slice none 0 0) [] QZ _ F6 HM21.out.2.2.2.2.2.2.2.2.2.2.2 (VO.mono HM21.out.2.1 (by have z0 := HZ1.out; have z1 := HZ2.out; have z2 := HZ3.out; have z3 := HZ4.out; have z4 := HX_x6.out; have z5 := HLT_x6.out; have z6 := HZ5.out; have z7 := HZ6.out; have z8 := HX_x7.out; have z9 := HLT_x7.out; have z10 := HZ7.out; have z11 := HZ8.out; have z12 := HX_x8.out; have z13 := HLT_x8.out; have z14 := HZ9.out; have z15 := HZ10.out; have z16 := HX_x9.out; have z17 := HLT_x9.out; have z18 := HZ11.out; have z19 := HZ13.out; have z20 := HX_x11.out; have z21 := HLT_x11.out; have z22 := HZ14.out; have z23 := HX_x12.out; have z24 := HLT_x12.out; have z25 := HZ15.out; have z26 := HZ16.out; have z27 := HZ17.out; have z28 := HZ18.out; have z29 := HZ19.out; have z30 := HZ20.out; omega)) (fun g h q => by have h1 := HIN_F6.out g h; have h2 := HIN_QZ.out g q; have z0 := HZ1.out; have z1 := HZ2.out; have z2 := HZ3.out; have z3 := HZ4.out; have z4 := HX_x6.out; have z5 := HLT_x6.out; have z6 := HZ5.out; have z7 := HZ6.out; have z8 := HX_x7.out; have z9 := HLT_x7.out; have z10 := HZ7.out; have z11 := HZ8.out; have z12 := HX_x8.out; have z13 := HLT_x8.out; have z14 := HZ9.out; have z15 := HZ10.out; have z16 := HX_x9.out; have z17 := HLT_x9.out; have z18 := HZ11.out; have z19 := HZ13.out; have z20 := HX_x11.out; have z21 := HLT_x11.out; have z22 := HZ14.out; have z23 := HX_x12.out; have z24 := HLT_x12.out; have z25 := HZ15.out; have z26 := HZ16.out; have z27 := HZ17.out; have z28 := HZ18.out; have z29 := HZ19.out; have z30 := HZ20.out; omega) (by have h := HWL.out; show 0 + _ ≤ _; omega) HWL.out.1
  have HC20 := Lib.hid hc
  clear hc
  have q := HM21.out.2.2.1
  have x6_0 : W19.cell? ⟨x6, 0, none⟩ = some (.int .i64 21) := (cell_of_row _ _ 0 _ _ _ q).trans rfl
  have x6_1 : W19.cell? ⟨x6, 1, none⟩ = some (.int .u64 0) := (cell_of_row _ _ 1 _ _ _ q).trans rfl
  have x6_2 : W19.cell? ⟨x6, 2, none⟩ = some (.string ⟨#[]⟩) := (cell_of_row _ _ 2 _ _ _ q).trans rfl
  have x6_3 : W19.cell? ⟨x6, 3, none⟩ = some (.slice p_x6 na c_x6) := (cell_of_row _ _ 3 _ _ _ q).trans rfl
  have x6_4 : W19.cell? ⟨x6, 4, none⟩ = some (.int .i64 0) := (cell_of_row _ _ 4 _ _ _ q).trans rfl
  clear q
  go_wp2_with fail
  refine HC20.out.mono ?_
  clear x6_0 x6_1 x6_2 x6_3 x6_4
  rintro e W20 ⟨rfl, ⟨vl0, vs0, hbk, hlen⟩, hm, hB⟩
  obtain ⟨Q0, hQ⟩ : ∃ Q : Nat → Prop, (fun g => QZ g ∨ F6 g) = Q := ⟨_, rfl⟩
  rw [hQ] at hbk
  have HIN_Q0 : Hid (∀ g, Q0 g → W3.heap.size ≤ g ∧ g < W4.heap.size) := Lib.hid (fun g q => by
    rw [← hQ] at q
    have e : QZ g ∨ F6 g := q
    have z0 := HZ1.out; have z1 := HZ2.out; have z2 := HZ3.out; have z3 := HZ4.out; have z4 := HX_x6.out; have z5 := HLT_x6.out; have z6 := HZ5.out; have z7 := HZ6.out; have z8 := HX_x7.out; have z9 := HLT_x7.out; have z10 := HZ7.out; have z11 := HZ8.out; have z12 := HX_x8.out; have z13 := HLT_x8.out; have z14 := HZ9.out; have z15 := HZ10.out; have z16 := HX_x9.out; have z17 := HLT_x9.out; have z18 := HZ11.out; have z19 := HZ13.out; have z20 := HX_x11.out; have z21 := HLT_x11.out; have z22 := HZ14.out; have z23 := HX_x12.out; have z24 := HLT_x12.out; have z25 := HZ15.out; have z26 := HZ16.out; have z27 := HZ17.out; have z28 := HZ18.out; have z29 := HZ19.out; have z30 := HZ20.out; rcases e with q | q
    · have h2 := HIN_QZ.out g q; omega
    · have h1 := HIN_F6.out g q; omega)
  clear hQ
  have HLN0 := Lib.hid hlen
  clear hlen
  have HM22 : Hid ((Below w.heap.size w W19) ∧ (VO W19 W3.heap.size (V.listed a.list) (.slice p_x6 na c_x6) F6) ∧ (W19.heap[x6]? = some (.cells #[.int .i64 21, .int .u64 0, .string ⟨#[]⟩, .slice p_x6 na c_x6, .int .i64 0] 25 (0, 0))) ∧ (VO W19 W5.heap.size (V.mapped a.list) (.slice p_x7 na c_x7) F7) ∧ (W19.heap[x7]? = some (.cells #[.int .i64 22, .int .u64 0, .string ⟨#[]⟩, .slice p_x7 na c_x7, .int .i64 0] 25 (0, 0))) ∧ (VO W19 W7.heap.size (V.listed a.list) (.slice p_x8 na c_x8) F8) ∧ (W19.heap[x8]? = some (.cells #[.int .i64 21, .int .u64 0, .string ⟨#[]⟩, .slice p_x8 na c_x8, .int .i64 0] 25 (0, 0))) ∧ (VO W19 W9.heap.size (V.mapped a.list) (.slice p_x9 na c_x9) F9) ∧ (W19.heap[x9]? = some (.cells #[.int .i64 22, .int .u64 0, .string ⟨#[]⟩, .slice p_x9 na c_x9, .int .i64 0] 25 (0, 0))) ∧ (W19.heap[x11]? = some (.cells #[.int .i64 21, .int .u64 0, .string ⟨#[]⟩, .slice pa na ca, .int .i64 0] 25 (0, 0))) ∧ (W19.heap[x12]? = some (.cells #[.int .i64 22, .int .u64 0, .string ⟨#[]⟩, .slice pa na ca, .int .i64 0] 25 (0, 0)))) := Lib.hid ((And.intro HM21.out.1 (And.intro HM21.out.2.1 (And.intro HM21.out.2.2.1 (And.intro HM21.out.2.2.2.1 (And.intro HM21.out.2.2.2.2.1 (And.intro HM21.out.2.2.2.2.2.1 (And.intro HM21.out.2.2.2.2.2.2.1 (And.intro HM21.out.2.2.2.2.2.2.2.1 (And.intro HM21.out.2.2.2.2.2.2.2.2.1 (And.intro HM21.out.2.2.2.2.2.2.2.2.2.1 HM21.out.2.2.2.2.2.2.2.2.2.2.1)))))))))))
  clear HM21
  have hz22 : W19.heap.size ≤ W20.heap.size := hm.size
  have HZ22 := Lib.hid hz22
  clear hz22
  have HM23 : Hid ((Below w.heap.size w W20) ∧ (VO W20 W3.heap.size (V.listed a.list) (.slice p_x6 na c_x6) F6) ∧ (W20.heap[x6]? = some (.cells #[.int .i64 21, .int .u64 0, .string ⟨#[]⟩, .slice p_x6 na c_x6, .int .i64 0] 25 (0, 0))) ∧ (VO W20 W5.heap.size (V.mapped a.list) (.slice p_x7 na c_x7) F7) ∧ (W20.heap[x7]? = some (.cells #[.int .i64 22, .int .u64 0, .string ⟨#[]⟩, .slice p_x7 na c_x7, .int .i64 0] 25 (0, 0))) ∧ (VO W20 W7.heap.size (V.listed a.list) (.slice p_x8 na c_x8) F8) ∧ (W20.heap[x8]? = some (.cells #[.int .i64 21, .int .u64 0, .string ⟨#[]⟩, .slice p_x8 na c_x8, .int .i64 0] 25 (0, 0))) ∧ (VO W20 W9.heap.size (V.mapped a.list) (.slice p_x9 na c_x9) F9) ∧ (W20.heap[x9]? = some (.cells #[.int .i64 22, .int .u64 0, .string ⟨#[]⟩, .slice p_x9 na c_x9, .int .i64 0] 25 (0, 0))) ∧ (W20.heap[x11]? = some (.cells #[.int .i64 21, .int .u64 0, .string ⟨#[]⟩, .slice pa na ca, .int .i64 0] 25 (0, 0))) ∧ (W20.heap[x12]? = some (.cells #[.int .i64 22, .int .u64 0, .string ⟨#[]⟩, .slice pa na ca, .int .i64 0] 25 (0, 0))) ∧ (BkIn W20 w.heap.size bk vl0 vs0 Q0)) := Lib.hid ((And.intro (HM22.out.1.trans hB) (And.intro (BkMv.vo hm HM22.out.2.1) (And.intro ((BkMv.val hm _ ⟨_, _, HM22.out.2.2.1⟩).trans HM22.out.2.2.1) (And.intro (BkMv.vo hm HM22.out.2.2.2.1) (And.intro ((BkMv.val hm _ ⟨_, _, HM22.out.2.2.2.2.1⟩).trans HM22.out.2.2.2.2.1) (And.intro (BkMv.vo hm HM22.out.2.2.2.2.2.1) (And.intro ((BkMv.val hm _ ⟨_, _, HM22.out.2.2.2.2.2.2.1⟩).trans HM22.out.2.2.2.2.2.2.1) (And.intro (BkMv.vo hm HM22.out.2.2.2.2.2.2.2.1) (And.intro ((BkMv.val hm _ ⟨_, _, HM22.out.2.2.2.2.2.2.2.2.1⟩).trans HM22.out.2.2.2.2.2.2.2.2.1) (And.intro ((BkMv.val hm _ ⟨_, _, HM22.out.2.2.2.2.2.2.2.2.2.1⟩).trans HM22.out.2.2.2.2.2.2.2.2.2.1) (And.intro ((BkMv.val hm _ ⟨_, _, HM22.out.2.2.2.2.2.2.2.2.2.2⟩).trans HM22.out.2.2.2.2.2.2.2.2.2.2) hbk))))))))))))
  clear HM22
  clear hm hB hbk
  have hc : Calls Tryd.prog 30 #[.pointer (some ⟨bk, 0, none⟩), .agg #[.int .i64 22, .int .u64 0, .string ⟨#[]⟩, .slice p_x7 na c_x7, .int .i64 0]] W20 _ := take_on (V.mapped a.list) W20 w.heap.size bk vl0 vs0 Q0 _ F7 HM23.out.2.2.2.2.2.2.2.2.2.2.2 (VO.mono HM23.out.2.2.2.1 (by have z0 := HZ1.out; have z1 := HZ2.out; have z2 := HZ3.out; have z3 := HZ4.out; have z4 := HX_x6.out; have z5 := HLT_x6.out; have z6 := HZ5.out; have z7 := HZ6.out; have z8 := HX_x7.out; have z9 := HLT_x7.out; have z10 := HZ7.out; have z11 := HZ8.out; have z12 := HX_x8.out; have z13 := HLT_x8.out; have z14 := HZ9.out; have z15 := HZ10.out; have z16 := HX_x9.out; have z17 := HLT_x9.out; have z18 := HZ11.out; have z19 := HZ13.out; have z20 := HX_x11.out; have z21 := HLT_x11.out; have z22 := HZ14.out; have z23 := HX_x12.out; have z24 := HLT_x12.out; have z25 := HZ15.out; have z26 := HZ16.out; have z27 := HZ17.out; have z28 := HZ18.out; have z29 := HZ19.out; have z30 := HZ20.out; have z31 := HZ22.out; omega)) (fun g h q => by have h1 := HIN_F7.out g h; have h2 := HIN_Q0.out g q; have z0 := HZ1.out; have z1 := HZ2.out; have z2 := HZ3.out; have z3 := HZ4.out; have z4 := HX_x6.out; have z5 := HLT_x6.out; have z6 := HZ5.out; have z7 := HZ6.out; have z8 := HX_x7.out; have z9 := HLT_x7.out; have z10 := HZ7.out; have z11 := HZ8.out; have z12 := HX_x8.out; have z13 := HLT_x8.out; have z14 := HZ9.out; have z15 := HZ10.out; have z16 := HX_x9.out; have z17 := HLT_x9.out; have z18 := HZ11.out; have z19 := HZ13.out; have z20 := HX_x11.out; have z21 := HLT_x11.out; have z22 := HZ14.out; have z23 := HX_x12.out; have z24 := HLT_x12.out; have z25 := HZ15.out; have z26 := HZ16.out; have z27 := HZ17.out; have z28 := HZ18.out; have z29 := HZ19.out; have z30 := HZ20.out; have z31 := HZ22.out; omega) (by have h := HWL.out; have l0 := HLN0.out; simp only [List.length_nil] at l0; omega) HWL.out.2.2.1
  have HC21 := Lib.hid hc
  clear hc
  have q := HM23.out.2.2.2.2.1
  have x7_0 : W20.cell? ⟨x7, 0, none⟩ = some (.int .i64 22) := (cell_of_row _ _ 0 _ _ _ q).trans rfl
  have x7_1 : W20.cell? ⟨x7, 1, none⟩ = some (.int .u64 0) := (cell_of_row _ _ 1 _ _ _ q).trans rfl
  have x7_2 : W20.cell? ⟨x7, 2, none⟩ = some (.string ⟨#[]⟩) := (cell_of_row _ _ 2 _ _ _ q).trans rfl
  have x7_3 : W20.cell? ⟨x7, 3, none⟩ = some (.slice p_x7 na c_x7) := (cell_of_row _ _ 3 _ _ _ q).trans rfl
  have x7_4 : W20.cell? ⟨x7, 4, none⟩ = some (.int .i64 0) := (cell_of_row _ _ 4 _ _ _ q).trans rfl
  clear q
  go_wp2_with fail
  refine HC21.out.mono ?_
  clear x7_0 x7_1 x7_2 x7_3 x7_4
  rintro e W21 ⟨rfl, ⟨vl1, vs1, hbk, hlen⟩, hm, hB⟩
  obtain ⟨Q1, hQ⟩ : ∃ Q : Nat → Prop, (fun g => Q0 g ∨ F7 g) = Q := ⟨_, rfl⟩
  rw [hQ] at hbk
  have HIN_Q1 : Hid (∀ g, Q1 g → W3.heap.size ≤ g ∧ g < W6.heap.size) := Lib.hid (fun g q => by
    rw [← hQ] at q
    have e : Q0 g ∨ F7 g := q
    have z0 := HZ1.out; have z1 := HZ2.out; have z2 := HZ3.out; have z3 := HZ4.out; have z4 := HX_x6.out; have z5 := HLT_x6.out; have z6 := HZ5.out; have z7 := HZ6.out; have z8 := HX_x7.out; have z9 := HLT_x7.out; have z10 := HZ7.out; have z11 := HZ8.out; have z12 := HX_x8.out; have z13 := HLT_x8.out; have z14 := HZ9.out; have z15 := HZ10.out; have z16 := HX_x9.out; have z17 := HLT_x9.out; have z18 := HZ11.out; have z19 := HZ13.out; have z20 := HX_x11.out; have z21 := HLT_x11.out; have z22 := HZ14.out; have z23 := HX_x12.out; have z24 := HLT_x12.out; have z25 := HZ15.out; have z26 := HZ16.out; have z27 := HZ17.out; have z28 := HZ18.out; have z29 := HZ19.out; have z30 := HZ20.out; have z31 := HZ22.out; rcases e with q | q
    · have h2 := HIN_Q0.out g q; omega
    · have h1 := HIN_F7.out g q; omega)
  clear hQ
  have HLN1 := Lib.hid hlen
  clear hlen
  have HM24 : Hid ((Below w.heap.size w W20) ∧ (VO W20 W3.heap.size (V.listed a.list) (.slice p_x6 na c_x6) F6) ∧ (W20.heap[x6]? = some (.cells #[.int .i64 21, .int .u64 0, .string ⟨#[]⟩, .slice p_x6 na c_x6, .int .i64 0] 25 (0, 0))) ∧ (VO W20 W5.heap.size (V.mapped a.list) (.slice p_x7 na c_x7) F7) ∧ (W20.heap[x7]? = some (.cells #[.int .i64 22, .int .u64 0, .string ⟨#[]⟩, .slice p_x7 na c_x7, .int .i64 0] 25 (0, 0))) ∧ (VO W20 W7.heap.size (V.listed a.list) (.slice p_x8 na c_x8) F8) ∧ (W20.heap[x8]? = some (.cells #[.int .i64 21, .int .u64 0, .string ⟨#[]⟩, .slice p_x8 na c_x8, .int .i64 0] 25 (0, 0))) ∧ (VO W20 W9.heap.size (V.mapped a.list) (.slice p_x9 na c_x9) F9) ∧ (W20.heap[x9]? = some (.cells #[.int .i64 22, .int .u64 0, .string ⟨#[]⟩, .slice p_x9 na c_x9, .int .i64 0] 25 (0, 0))) ∧ (W20.heap[x11]? = some (.cells #[.int .i64 21, .int .u64 0, .string ⟨#[]⟩, .slice pa na ca, .int .i64 0] 25 (0, 0))) ∧ (W20.heap[x12]? = some (.cells #[.int .i64 22, .int .u64 0, .string ⟨#[]⟩, .slice pa na ca, .int .i64 0] 25 (0, 0)))) := Lib.hid ((And.intro HM23.out.1 (And.intro HM23.out.2.1 (And.intro HM23.out.2.2.1 (And.intro HM23.out.2.2.2.1 (And.intro HM23.out.2.2.2.2.1 (And.intro HM23.out.2.2.2.2.2.1 (And.intro HM23.out.2.2.2.2.2.2.1 (And.intro HM23.out.2.2.2.2.2.2.2.1 (And.intro HM23.out.2.2.2.2.2.2.2.2.1 (And.intro HM23.out.2.2.2.2.2.2.2.2.2.1 HM23.out.2.2.2.2.2.2.2.2.2.2.1)))))))))))
  clear HM23
  have hz24 : W20.heap.size ≤ W21.heap.size := hm.size
  have HZ24 := Lib.hid hz24
  clear hz24
  have HM25 : Hid ((Below w.heap.size w W21) ∧ (VO W21 W3.heap.size (V.listed a.list) (.slice p_x6 na c_x6) F6) ∧ (W21.heap[x6]? = some (.cells #[.int .i64 21, .int .u64 0, .string ⟨#[]⟩, .slice p_x6 na c_x6, .int .i64 0] 25 (0, 0))) ∧ (VO W21 W5.heap.size (V.mapped a.list) (.slice p_x7 na c_x7) F7) ∧ (W21.heap[x7]? = some (.cells #[.int .i64 22, .int .u64 0, .string ⟨#[]⟩, .slice p_x7 na c_x7, .int .i64 0] 25 (0, 0))) ∧ (VO W21 W7.heap.size (V.listed a.list) (.slice p_x8 na c_x8) F8) ∧ (W21.heap[x8]? = some (.cells #[.int .i64 21, .int .u64 0, .string ⟨#[]⟩, .slice p_x8 na c_x8, .int .i64 0] 25 (0, 0))) ∧ (VO W21 W9.heap.size (V.mapped a.list) (.slice p_x9 na c_x9) F9) ∧ (W21.heap[x9]? = some (.cells #[.int .i64 22, .int .u64 0, .string ⟨#[]⟩, .slice p_x9 na c_x9, .int .i64 0] 25 (0, 0))) ∧ (W21.heap[x11]? = some (.cells #[.int .i64 21, .int .u64 0, .string ⟨#[]⟩, .slice pa na ca, .int .i64 0] 25 (0, 0))) ∧ (W21.heap[x12]? = some (.cells #[.int .i64 22, .int .u64 0, .string ⟨#[]⟩, .slice pa na ca, .int .i64 0] 25 (0, 0))) ∧ (BkIn W21 w.heap.size bk vl1 vs1 Q1)) := Lib.hid ((And.intro (HM24.out.1.trans hB) (And.intro (BkMv.vo hm HM24.out.2.1) (And.intro ((BkMv.val hm _ ⟨_, _, HM24.out.2.2.1⟩).trans HM24.out.2.2.1) (And.intro (BkMv.vo hm HM24.out.2.2.2.1) (And.intro ((BkMv.val hm _ ⟨_, _, HM24.out.2.2.2.2.1⟩).trans HM24.out.2.2.2.2.1) (And.intro (BkMv.vo hm HM24.out.2.2.2.2.2.1) (And.intro ((BkMv.val hm _ ⟨_, _, HM24.out.2.2.2.2.2.2.1⟩).trans HM24.out.2.2.2.2.2.2.1) (And.intro (BkMv.vo hm HM24.out.2.2.2.2.2.2.2.1) (And.intro ((BkMv.val hm _ ⟨_, _, HM24.out.2.2.2.2.2.2.2.2.1⟩).trans HM24.out.2.2.2.2.2.2.2.2.1) (And.intro ((BkMv.val hm _ ⟨_, _, HM24.out.2.2.2.2.2.2.2.2.2.1⟩).trans HM24.out.2.2.2.2.2.2.2.2.2.1) (And.intro ((BkMv.val hm _ ⟨_, _, HM24.out.2.2.2.2.2.2.2.2.2.2⟩).trans HM24.out.2.2.2.2.2.2.2.2.2.2) hbk))))))))))))
  clear HM24
  clear hm hB hbk
  have hc : Calls Tryd.prog 30 #[.pointer (some ⟨bk, 0, none⟩), .agg #[.int .i64 21, .int .u64 0, .string ⟨#[]⟩, .slice p_x8 na c_x8, .int .i64 0]] W21 _ := take_on (V.listed a.list) W21 w.heap.size bk vl1 vs1 Q1 _ F8 HM25.out.2.2.2.2.2.2.2.2.2.2.2 (VO.mono HM25.out.2.2.2.2.2.1 (by have z0 := HZ1.out; have z1 := HZ2.out; have z2 := HZ3.out; have z3 := HZ4.out; have z4 := HX_x6.out; have z5 := HLT_x6.out; have z6 := HZ5.out; have z7 := HZ6.out; have z8 := HX_x7.out; have z9 := HLT_x7.out; have z10 := HZ7.out; have z11 := HZ8.out; have z12 := HX_x8.out; have z13 := HLT_x8.out; have z14 := HZ9.out; have z15 := HZ10.out; have z16 := HX_x9.out; have z17 := HLT_x9.out; have z18 := HZ11.out; have z19 := HZ13.out; have z20 := HX_x11.out; have z21 := HLT_x11.out; have z22 := HZ14.out; have z23 := HX_x12.out; have z24 := HLT_x12.out; have z25 := HZ15.out; have z26 := HZ16.out; have z27 := HZ17.out; have z28 := HZ18.out; have z29 := HZ19.out; have z30 := HZ20.out; have z31 := HZ22.out; have z32 := HZ24.out; omega)) (fun g h q => by have h1 := HIN_F8.out g h; have h2 := HIN_Q1.out g q; have z0 := HZ1.out; have z1 := HZ2.out; have z2 := HZ3.out; have z3 := HZ4.out; have z4 := HX_x6.out; have z5 := HLT_x6.out; have z6 := HZ5.out; have z7 := HZ6.out; have z8 := HX_x7.out; have z9 := HLT_x7.out; have z10 := HZ7.out; have z11 := HZ8.out; have z12 := HX_x8.out; have z13 := HLT_x8.out; have z14 := HZ9.out; have z15 := HZ10.out; have z16 := HX_x9.out; have z17 := HLT_x9.out; have z18 := HZ11.out; have z19 := HZ13.out; have z20 := HX_x11.out; have z21 := HLT_x11.out; have z22 := HZ14.out; have z23 := HX_x12.out; have z24 := HLT_x12.out; have z25 := HZ15.out; have z26 := HZ16.out; have z27 := HZ17.out; have z28 := HZ18.out; have z29 := HZ19.out; have z30 := HZ20.out; have z31 := HZ22.out; have z32 := HZ24.out; omega) (by have h := HWL.out; have l0 := HLN0.out; have l1 := HLN1.out; simp only [List.length_nil] at l0; omega) HWL.out.1
  have HC22 := Lib.hid hc
  clear hc
  have q := HM25.out.2.2.2.2.2.2.1
  have x8_0 : W21.cell? ⟨x8, 0, none⟩ = some (.int .i64 21) := (cell_of_row _ _ 0 _ _ _ q).trans rfl
  have x8_1 : W21.cell? ⟨x8, 1, none⟩ = some (.int .u64 0) := (cell_of_row _ _ 1 _ _ _ q).trans rfl
  have x8_2 : W21.cell? ⟨x8, 2, none⟩ = some (.string ⟨#[]⟩) := (cell_of_row _ _ 2 _ _ _ q).trans rfl
  have x8_3 : W21.cell? ⟨x8, 3, none⟩ = some (.slice p_x8 na c_x8) := (cell_of_row _ _ 3 _ _ _ q).trans rfl
  have x8_4 : W21.cell? ⟨x8, 4, none⟩ = some (.int .i64 0) := (cell_of_row _ _ 4 _ _ _ q).trans rfl
  clear q
  go_wp2_with fail
  refine HC22.out.mono ?_
  clear x8_0 x8_1 x8_2 x8_3 x8_4
  rintro e W22 ⟨rfl, ⟨vl2, vs2, hbk, hlen⟩, hm, hB⟩
  obtain ⟨Q2, hQ⟩ : ∃ Q : Nat → Prop, (fun g => Q1 g ∨ F8 g) = Q := ⟨_, rfl⟩
  rw [hQ] at hbk
  have HIN_Q2 : Hid (∀ g, Q2 g → W3.heap.size ≤ g ∧ g < W8.heap.size) := Lib.hid (fun g q => by
    rw [← hQ] at q
    have e : Q1 g ∨ F8 g := q
    have z0 := HZ1.out; have z1 := HZ2.out; have z2 := HZ3.out; have z3 := HZ4.out; have z4 := HX_x6.out; have z5 := HLT_x6.out; have z6 := HZ5.out; have z7 := HZ6.out; have z8 := HX_x7.out; have z9 := HLT_x7.out; have z10 := HZ7.out; have z11 := HZ8.out; have z12 := HX_x8.out; have z13 := HLT_x8.out; have z14 := HZ9.out; have z15 := HZ10.out; have z16 := HX_x9.out; have z17 := HLT_x9.out; have z18 := HZ11.out; have z19 := HZ13.out; have z20 := HX_x11.out; have z21 := HLT_x11.out; have z22 := HZ14.out; have z23 := HX_x12.out; have z24 := HLT_x12.out; have z25 := HZ15.out; have z26 := HZ16.out; have z27 := HZ17.out; have z28 := HZ18.out; have z29 := HZ19.out; have z30 := HZ20.out; have z31 := HZ22.out; have z32 := HZ24.out; rcases e with q | q
    · have h2 := HIN_Q1.out g q; omega
    · have h1 := HIN_F8.out g q; omega)
  clear hQ
  have HLN2 := Lib.hid hlen
  clear hlen
  have HM26 : Hid ((Below w.heap.size w W21) ∧ (VO W21 W3.heap.size (V.listed a.list) (.slice p_x6 na c_x6) F6) ∧ (W21.heap[x6]? = some (.cells #[.int .i64 21, .int .u64 0, .string ⟨#[]⟩, .slice p_x6 na c_x6, .int .i64 0] 25 (0, 0))) ∧ (VO W21 W5.heap.size (V.mapped a.list) (.slice p_x7 na c_x7) F7) ∧ (W21.heap[x7]? = some (.cells #[.int .i64 22, .int .u64 0, .string ⟨#[]⟩, .slice p_x7 na c_x7, .int .i64 0] 25 (0, 0))) ∧ (VO W21 W7.heap.size (V.listed a.list) (.slice p_x8 na c_x8) F8) ∧ (W21.heap[x8]? = some (.cells #[.int .i64 21, .int .u64 0, .string ⟨#[]⟩, .slice p_x8 na c_x8, .int .i64 0] 25 (0, 0))) ∧ (VO W21 W9.heap.size (V.mapped a.list) (.slice p_x9 na c_x9) F9) ∧ (W21.heap[x9]? = some (.cells #[.int .i64 22, .int .u64 0, .string ⟨#[]⟩, .slice p_x9 na c_x9, .int .i64 0] 25 (0, 0))) ∧ (W21.heap[x11]? = some (.cells #[.int .i64 21, .int .u64 0, .string ⟨#[]⟩, .slice pa na ca, .int .i64 0] 25 (0, 0))) ∧ (W21.heap[x12]? = some (.cells #[.int .i64 22, .int .u64 0, .string ⟨#[]⟩, .slice pa na ca, .int .i64 0] 25 (0, 0)))) := Lib.hid ((And.intro HM25.out.1 (And.intro HM25.out.2.1 (And.intro HM25.out.2.2.1 (And.intro HM25.out.2.2.2.1 (And.intro HM25.out.2.2.2.2.1 (And.intro HM25.out.2.2.2.2.2.1 (And.intro HM25.out.2.2.2.2.2.2.1 (And.intro HM25.out.2.2.2.2.2.2.2.1 (And.intro HM25.out.2.2.2.2.2.2.2.2.1 (And.intro HM25.out.2.2.2.2.2.2.2.2.2.1 HM25.out.2.2.2.2.2.2.2.2.2.2.1)))))))))))
  clear HM25
  have hz26 : W21.heap.size ≤ W22.heap.size := hm.size
  have HZ26 := Lib.hid hz26
  clear hz26
  have HM27 : Hid ((Below w.heap.size w W22) ∧ (VO W22 W3.heap.size (V.listed a.list) (.slice p_x6 na c_x6) F6) ∧ (W22.heap[x6]? = some (.cells #[.int .i64 21, .int .u64 0, .string ⟨#[]⟩, .slice p_x6 na c_x6, .int .i64 0] 25 (0, 0))) ∧ (VO W22 W5.heap.size (V.mapped a.list) (.slice p_x7 na c_x7) F7) ∧ (W22.heap[x7]? = some (.cells #[.int .i64 22, .int .u64 0, .string ⟨#[]⟩, .slice p_x7 na c_x7, .int .i64 0] 25 (0, 0))) ∧ (VO W22 W7.heap.size (V.listed a.list) (.slice p_x8 na c_x8) F8) ∧ (W22.heap[x8]? = some (.cells #[.int .i64 21, .int .u64 0, .string ⟨#[]⟩, .slice p_x8 na c_x8, .int .i64 0] 25 (0, 0))) ∧ (VO W22 W9.heap.size (V.mapped a.list) (.slice p_x9 na c_x9) F9) ∧ (W22.heap[x9]? = some (.cells #[.int .i64 22, .int .u64 0, .string ⟨#[]⟩, .slice p_x9 na c_x9, .int .i64 0] 25 (0, 0))) ∧ (W22.heap[x11]? = some (.cells #[.int .i64 21, .int .u64 0, .string ⟨#[]⟩, .slice pa na ca, .int .i64 0] 25 (0, 0))) ∧ (W22.heap[x12]? = some (.cells #[.int .i64 22, .int .u64 0, .string ⟨#[]⟩, .slice pa na ca, .int .i64 0] 25 (0, 0))) ∧ (BkIn W22 w.heap.size bk vl2 vs2 Q2)) := Lib.hid ((And.intro (HM26.out.1.trans hB) (And.intro (BkMv.vo hm HM26.out.2.1) (And.intro ((BkMv.val hm _ ⟨_, _, HM26.out.2.2.1⟩).trans HM26.out.2.2.1) (And.intro (BkMv.vo hm HM26.out.2.2.2.1) (And.intro ((BkMv.val hm _ ⟨_, _, HM26.out.2.2.2.2.1⟩).trans HM26.out.2.2.2.2.1) (And.intro (BkMv.vo hm HM26.out.2.2.2.2.2.1) (And.intro ((BkMv.val hm _ ⟨_, _, HM26.out.2.2.2.2.2.2.1⟩).trans HM26.out.2.2.2.2.2.2.1) (And.intro (BkMv.vo hm HM26.out.2.2.2.2.2.2.2.1) (And.intro ((BkMv.val hm _ ⟨_, _, HM26.out.2.2.2.2.2.2.2.2.1⟩).trans HM26.out.2.2.2.2.2.2.2.2.1) (And.intro ((BkMv.val hm _ ⟨_, _, HM26.out.2.2.2.2.2.2.2.2.2.1⟩).trans HM26.out.2.2.2.2.2.2.2.2.2.1) (And.intro ((BkMv.val hm _ ⟨_, _, HM26.out.2.2.2.2.2.2.2.2.2.2⟩).trans HM26.out.2.2.2.2.2.2.2.2.2.2) hbk))))))))))))
  clear HM26
  clear hm hB hbk
  have hc : Calls Tryd.prog 30 #[.pointer (some ⟨bk, 0, none⟩), .agg #[.int .i64 22, .int .u64 0, .string ⟨#[]⟩, .slice p_x9 na c_x9, .int .i64 0]] W22 _ := take_on (V.mapped a.list) W22 w.heap.size bk vl2 vs2 Q2 _ F9 HM27.out.2.2.2.2.2.2.2.2.2.2.2 (VO.mono HM27.out.2.2.2.2.2.2.2.1 (by have z0 := HZ1.out; have z1 := HZ2.out; have z2 := HZ3.out; have z3 := HZ4.out; have z4 := HX_x6.out; have z5 := HLT_x6.out; have z6 := HZ5.out; have z7 := HZ6.out; have z8 := HX_x7.out; have z9 := HLT_x7.out; have z10 := HZ7.out; have z11 := HZ8.out; have z12 := HX_x8.out; have z13 := HLT_x8.out; have z14 := HZ9.out; have z15 := HZ10.out; have z16 := HX_x9.out; have z17 := HLT_x9.out; have z18 := HZ11.out; have z19 := HZ13.out; have z20 := HX_x11.out; have z21 := HLT_x11.out; have z22 := HZ14.out; have z23 := HX_x12.out; have z24 := HLT_x12.out; have z25 := HZ15.out; have z26 := HZ16.out; have z27 := HZ17.out; have z28 := HZ18.out; have z29 := HZ19.out; have z30 := HZ20.out; have z31 := HZ22.out; have z32 := HZ24.out; have z33 := HZ26.out; omega)) (fun g h q => by have h1 := HIN_F9.out g h; have h2 := HIN_Q2.out g q; have z0 := HZ1.out; have z1 := HZ2.out; have z2 := HZ3.out; have z3 := HZ4.out; have z4 := HX_x6.out; have z5 := HLT_x6.out; have z6 := HZ5.out; have z7 := HZ6.out; have z8 := HX_x7.out; have z9 := HLT_x7.out; have z10 := HZ7.out; have z11 := HZ8.out; have z12 := HX_x8.out; have z13 := HLT_x8.out; have z14 := HZ9.out; have z15 := HZ10.out; have z16 := HX_x9.out; have z17 := HLT_x9.out; have z18 := HZ11.out; have z19 := HZ13.out; have z20 := HX_x11.out; have z21 := HLT_x11.out; have z22 := HZ14.out; have z23 := HX_x12.out; have z24 := HLT_x12.out; have z25 := HZ15.out; have z26 := HZ16.out; have z27 := HZ17.out; have z28 := HZ18.out; have z29 := HZ19.out; have z30 := HZ20.out; have z31 := HZ22.out; have z32 := HZ24.out; have z33 := HZ26.out; omega) (by have h := HWL.out; have l0 := HLN0.out; have l1 := HLN1.out; have l2 := HLN2.out; simp only [List.length_nil] at l0; omega) HWL.out.2.2.1
  have HC23 := Lib.hid hc
  clear hc
  have q := HM27.out.2.2.2.2.2.2.2.2.1
  have x9_0 : W22.cell? ⟨x9, 0, none⟩ = some (.int .i64 22) := (cell_of_row _ _ 0 _ _ _ q).trans rfl
  have x9_1 : W22.cell? ⟨x9, 1, none⟩ = some (.int .u64 0) := (cell_of_row _ _ 1 _ _ _ q).trans rfl
  have x9_2 : W22.cell? ⟨x9, 2, none⟩ = some (.string ⟨#[]⟩) := (cell_of_row _ _ 2 _ _ _ q).trans rfl
  have x9_3 : W22.cell? ⟨x9, 3, none⟩ = some (.slice p_x9 na c_x9) := (cell_of_row _ _ 3 _ _ _ q).trans rfl
  have x9_4 : W22.cell? ⟨x9, 4, none⟩ = some (.int .i64 0) := (cell_of_row _ _ 4 _ _ _ q).trans rfl
  clear q
  go_wp2_with fail
  refine HC23.out.mono ?_
  clear x9_0 x9_1 x9_2 x9_3 x9_4
  rintro e W23 ⟨rfl, ⟨vl3, vs3, hbk, hlen⟩, hm, hB⟩
  obtain ⟨Q3, hQ⟩ : ∃ Q : Nat → Prop, (fun g => Q2 g ∨ F9 g) = Q := ⟨_, rfl⟩
  rw [hQ] at hbk
  have HIN_Q3 : Hid (∀ g, Q3 g → W3.heap.size ≤ g ∧ g < W10.heap.size) := Lib.hid (fun g q => by
    rw [← hQ] at q
    have e : Q2 g ∨ F9 g := q
    have z0 := HZ1.out; have z1 := HZ2.out; have z2 := HZ3.out; have z3 := HZ4.out; have z4 := HX_x6.out; have z5 := HLT_x6.out; have z6 := HZ5.out; have z7 := HZ6.out; have z8 := HX_x7.out; have z9 := HLT_x7.out; have z10 := HZ7.out; have z11 := HZ8.out; have z12 := HX_x8.out; have z13 := HLT_x8.out; have z14 := HZ9.out; have z15 := HZ10.out; have z16 := HX_x9.out; have z17 := HLT_x9.out; have z18 := HZ11.out; have z19 := HZ13.out; have z20 := HX_x11.out; have z21 := HLT_x11.out; have z22 := HZ14.out; have z23 := HX_x12.out; have z24 := HLT_x12.out; have z25 := HZ15.out; have z26 := HZ16.out; have z27 := HZ17.out; have z28 := HZ18.out; have z29 := HZ19.out; have z30 := HZ20.out; have z31 := HZ22.out; have z32 := HZ24.out; have z33 := HZ26.out; rcases e with q | q
    · have h2 := HIN_Q2.out g q; omega
    · have h1 := HIN_F9.out g q; omega)
  clear hQ
  have HLN3 := Lib.hid hlen
  clear hlen
  have HM28 : Hid ((Below w.heap.size w W22) ∧ (VO W22 W3.heap.size (V.listed a.list) (.slice p_x6 na c_x6) F6) ∧ (W22.heap[x6]? = some (.cells #[.int .i64 21, .int .u64 0, .string ⟨#[]⟩, .slice p_x6 na c_x6, .int .i64 0] 25 (0, 0))) ∧ (VO W22 W5.heap.size (V.mapped a.list) (.slice p_x7 na c_x7) F7) ∧ (W22.heap[x7]? = some (.cells #[.int .i64 22, .int .u64 0, .string ⟨#[]⟩, .slice p_x7 na c_x7, .int .i64 0] 25 (0, 0))) ∧ (VO W22 W7.heap.size (V.listed a.list) (.slice p_x8 na c_x8) F8) ∧ (W22.heap[x8]? = some (.cells #[.int .i64 21, .int .u64 0, .string ⟨#[]⟩, .slice p_x8 na c_x8, .int .i64 0] 25 (0, 0))) ∧ (VO W22 W9.heap.size (V.mapped a.list) (.slice p_x9 na c_x9) F9) ∧ (W22.heap[x9]? = some (.cells #[.int .i64 22, .int .u64 0, .string ⟨#[]⟩, .slice p_x9 na c_x9, .int .i64 0] 25 (0, 0))) ∧ (W22.heap[x11]? = some (.cells #[.int .i64 21, .int .u64 0, .string ⟨#[]⟩, .slice pa na ca, .int .i64 0] 25 (0, 0))) ∧ (W22.heap[x12]? = some (.cells #[.int .i64 22, .int .u64 0, .string ⟨#[]⟩, .slice pa na ca, .int .i64 0] 25 (0, 0)))) := Lib.hid ((And.intro HM27.out.1 (And.intro HM27.out.2.1 (And.intro HM27.out.2.2.1 (And.intro HM27.out.2.2.2.1 (And.intro HM27.out.2.2.2.2.1 (And.intro HM27.out.2.2.2.2.2.1 (And.intro HM27.out.2.2.2.2.2.2.1 (And.intro HM27.out.2.2.2.2.2.2.2.1 (And.intro HM27.out.2.2.2.2.2.2.2.2.1 (And.intro HM27.out.2.2.2.2.2.2.2.2.2.1 HM27.out.2.2.2.2.2.2.2.2.2.2.1)))))))))))
  clear HM27
  have hz28 : W22.heap.size ≤ W23.heap.size := hm.size
  have HZ28 := Lib.hid hz28
  clear hz28
  have HM29 : Hid ((Below w.heap.size w W23) ∧ (VO W23 W3.heap.size (V.listed a.list) (.slice p_x6 na c_x6) F6) ∧ (W23.heap[x6]? = some (.cells #[.int .i64 21, .int .u64 0, .string ⟨#[]⟩, .slice p_x6 na c_x6, .int .i64 0] 25 (0, 0))) ∧ (VO W23 W5.heap.size (V.mapped a.list) (.slice p_x7 na c_x7) F7) ∧ (W23.heap[x7]? = some (.cells #[.int .i64 22, .int .u64 0, .string ⟨#[]⟩, .slice p_x7 na c_x7, .int .i64 0] 25 (0, 0))) ∧ (VO W23 W7.heap.size (V.listed a.list) (.slice p_x8 na c_x8) F8) ∧ (W23.heap[x8]? = some (.cells #[.int .i64 21, .int .u64 0, .string ⟨#[]⟩, .slice p_x8 na c_x8, .int .i64 0] 25 (0, 0))) ∧ (VO W23 W9.heap.size (V.mapped a.list) (.slice p_x9 na c_x9) F9) ∧ (W23.heap[x9]? = some (.cells #[.int .i64 22, .int .u64 0, .string ⟨#[]⟩, .slice p_x9 na c_x9, .int .i64 0] 25 (0, 0))) ∧ (W23.heap[x11]? = some (.cells #[.int .i64 21, .int .u64 0, .string ⟨#[]⟩, .slice pa na ca, .int .i64 0] 25 (0, 0))) ∧ (W23.heap[x12]? = some (.cells #[.int .i64 22, .int .u64 0, .string ⟨#[]⟩, .slice pa na ca, .int .i64 0] 25 (0, 0))) ∧ (BkIn W23 w.heap.size bk vl3 vs3 Q3)) := Lib.hid ((And.intro (HM28.out.1.trans hB) (And.intro (BkMv.vo hm HM28.out.2.1) (And.intro ((BkMv.val hm _ ⟨_, _, HM28.out.2.2.1⟩).trans HM28.out.2.2.1) (And.intro (BkMv.vo hm HM28.out.2.2.2.1) (And.intro ((BkMv.val hm _ ⟨_, _, HM28.out.2.2.2.2.1⟩).trans HM28.out.2.2.2.2.1) (And.intro (BkMv.vo hm HM28.out.2.2.2.2.2.1) (And.intro ((BkMv.val hm _ ⟨_, _, HM28.out.2.2.2.2.2.2.1⟩).trans HM28.out.2.2.2.2.2.2.1) (And.intro (BkMv.vo hm HM28.out.2.2.2.2.2.2.2.1) (And.intro ((BkMv.val hm _ ⟨_, _, HM28.out.2.2.2.2.2.2.2.2.1⟩).trans HM28.out.2.2.2.2.2.2.2.2.1) (And.intro ((BkMv.val hm _ ⟨_, _, HM28.out.2.2.2.2.2.2.2.2.2.1⟩).trans HM28.out.2.2.2.2.2.2.2.2.2.1) (And.intro ((BkMv.val hm _ ⟨_, _, HM28.out.2.2.2.2.2.2.2.2.2.2⟩).trans HM28.out.2.2.2.2.2.2.2.2.2.2) hbk))))))))))))
  clear HM28
  clear hm hB hbk
  have hc := owned_any W23 w.heap.size bk vl3 vs3 Q3 HM29.out.2.2.2.2.2.2.2.2.2.2.2 (by have h := HWL.out; have l0 := HLN0.out; have l1 := HLN1.out; have l2 := HLN2.out; have l3 := HLN3.out; simp only [List.length_nil] at l0; omega)
  have HC24 := Lib.hid hc
  clear hc
  go_wp2_with fail
  refine HC24.out.mono ?_
  rintro e W24 ⟨rfl, ho⟩
  have hk := BkIn.keepQ HM29.out.2.2.2.2.2.2.2.2.2.2.2 ho
  clear ho
  have HM30 : Hid ((Below w.heap.size w W23) ∧ (VO W23 W3.heap.size (V.listed a.list) (.slice p_x6 na c_x6) F6) ∧ (W23.heap[x6]? = some (.cells #[.int .i64 21, .int .u64 0, .string ⟨#[]⟩, .slice p_x6 na c_x6, .int .i64 0] 25 (0, 0))) ∧ (VO W23 W5.heap.size (V.mapped a.list) (.slice p_x7 na c_x7) F7) ∧ (W23.heap[x7]? = some (.cells #[.int .i64 22, .int .u64 0, .string ⟨#[]⟩, .slice p_x7 na c_x7, .int .i64 0] 25 (0, 0))) ∧ (VO W23 W7.heap.size (V.listed a.list) (.slice p_x8 na c_x8) F8) ∧ (W23.heap[x8]? = some (.cells #[.int .i64 21, .int .u64 0, .string ⟨#[]⟩, .slice p_x8 na c_x8, .int .i64 0] 25 (0, 0))) ∧ (VO W23 W9.heap.size (V.mapped a.list) (.slice p_x9 na c_x9) F9) ∧ (W23.heap[x9]? = some (.cells #[.int .i64 22, .int .u64 0, .string ⟨#[]⟩, .slice p_x9 na c_x9, .int .i64 0] 25 (0, 0))) ∧ (W23.heap[x11]? = some (.cells #[.int .i64 21, .int .u64 0, .string ⟨#[]⟩, .slice pa na ca, .int .i64 0] 25 (0, 0))) ∧ (W23.heap[x12]? = some (.cells #[.int .i64 22, .int .u64 0, .string ⟨#[]⟩, .slice pa na ca, .int .i64 0] 25 (0, 0)))) := Lib.hid ((And.intro HM29.out.1 (And.intro HM29.out.2.1 (And.intro HM29.out.2.2.1 (And.intro HM29.out.2.2.2.1 (And.intro HM29.out.2.2.2.2.1 (And.intro HM29.out.2.2.2.2.2.1 (And.intro HM29.out.2.2.2.2.2.2.1 (And.intro HM29.out.2.2.2.2.2.2.2.1 (And.intro HM29.out.2.2.2.2.2.2.2.2.1 (And.intro HM29.out.2.2.2.2.2.2.2.2.2.1 HM29.out.2.2.2.2.2.2.2.2.2.2.1)))))))))))
  clear HM29
  have HM31 : Hid ((Below w.heap.size w W23) ∧ (W23.heap[x6]? = some (.cells #[.int .i64 21, .int .u64 0, .string ⟨#[]⟩, .slice p_x6 na c_x6, .int .i64 0] 25 (0, 0))) ∧ (VO W23 W5.heap.size (V.mapped a.list) (.slice p_x7 na c_x7) F7) ∧ (W23.heap[x7]? = some (.cells #[.int .i64 22, .int .u64 0, .string ⟨#[]⟩, .slice p_x7 na c_x7, .int .i64 0] 25 (0, 0))) ∧ (VO W23 W7.heap.size (V.listed a.list) (.slice p_x8 na c_x8) F8) ∧ (W23.heap[x8]? = some (.cells #[.int .i64 21, .int .u64 0, .string ⟨#[]⟩, .slice p_x8 na c_x8, .int .i64 0] 25 (0, 0))) ∧ (VO W23 W9.heap.size (V.mapped a.list) (.slice p_x9 na c_x9) F9) ∧ (W23.heap[x9]? = some (.cells #[.int .i64 22, .int .u64 0, .string ⟨#[]⟩, .slice p_x9 na c_x9, .int .i64 0] 25 (0, 0))) ∧ (W23.heap[x11]? = some (.cells #[.int .i64 21, .int .u64 0, .string ⟨#[]⟩, .slice pa na ca, .int .i64 0] 25 (0, 0))) ∧ (W23.heap[x12]? = some (.cells #[.int .i64 22, .int .u64 0, .string ⟨#[]⟩, .slice pa na ca, .int .i64 0] 25 (0, 0)))) := Lib.hid ((And.intro HM30.out.1 (And.intro HM30.out.2.2.1 (And.intro HM30.out.2.2.2.1 (And.intro HM30.out.2.2.2.2.1 (And.intro HM30.out.2.2.2.2.2.1 (And.intro HM30.out.2.2.2.2.2.2.1 (And.intro HM30.out.2.2.2.2.2.2.2.1 (And.intro HM30.out.2.2.2.2.2.2.2.2.1 (And.intro HM30.out.2.2.2.2.2.2.2.2.2.1 HM30.out.2.2.2.2.2.2.2.2.2.2))))))))))
  clear HM30
  have HM32 : Hid ((Below w.heap.size w W23) ∧ (W23.heap[x6]? = some (.cells #[.int .i64 21, .int .u64 0, .string ⟨#[]⟩, .slice p_x6 na c_x6, .int .i64 0] 25 (0, 0))) ∧ (W23.heap[x7]? = some (.cells #[.int .i64 22, .int .u64 0, .string ⟨#[]⟩, .slice p_x7 na c_x7, .int .i64 0] 25 (0, 0))) ∧ (VO W23 W7.heap.size (V.listed a.list) (.slice p_x8 na c_x8) F8) ∧ (W23.heap[x8]? = some (.cells #[.int .i64 21, .int .u64 0, .string ⟨#[]⟩, .slice p_x8 na c_x8, .int .i64 0] 25 (0, 0))) ∧ (VO W23 W9.heap.size (V.mapped a.list) (.slice p_x9 na c_x9) F9) ∧ (W23.heap[x9]? = some (.cells #[.int .i64 22, .int .u64 0, .string ⟨#[]⟩, .slice p_x9 na c_x9, .int .i64 0] 25 (0, 0))) ∧ (W23.heap[x11]? = some (.cells #[.int .i64 21, .int .u64 0, .string ⟨#[]⟩, .slice pa na ca, .int .i64 0] 25 (0, 0))) ∧ (W23.heap[x12]? = some (.cells #[.int .i64 22, .int .u64 0, .string ⟨#[]⟩, .slice pa na ca, .int .i64 0] 25 (0, 0)))) := Lib.hid ((And.intro HM31.out.1 (And.intro HM31.out.2.1 (And.intro HM31.out.2.2.2.1 (And.intro HM31.out.2.2.2.2.1 (And.intro HM31.out.2.2.2.2.2.1 (And.intro HM31.out.2.2.2.2.2.2.1 (And.intro HM31.out.2.2.2.2.2.2.2.1 (And.intro HM31.out.2.2.2.2.2.2.2.2.1 HM31.out.2.2.2.2.2.2.2.2.2)))))))))
  clear HM31
  have HM33 : Hid ((Below w.heap.size w W23) ∧ (W23.heap[x6]? = some (.cells #[.int .i64 21, .int .u64 0, .string ⟨#[]⟩, .slice p_x6 na c_x6, .int .i64 0] 25 (0, 0))) ∧ (W23.heap[x7]? = some (.cells #[.int .i64 22, .int .u64 0, .string ⟨#[]⟩, .slice p_x7 na c_x7, .int .i64 0] 25 (0, 0))) ∧ (W23.heap[x8]? = some (.cells #[.int .i64 21, .int .u64 0, .string ⟨#[]⟩, .slice p_x8 na c_x8, .int .i64 0] 25 (0, 0))) ∧ (VO W23 W9.heap.size (V.mapped a.list) (.slice p_x9 na c_x9) F9) ∧ (W23.heap[x9]? = some (.cells #[.int .i64 22, .int .u64 0, .string ⟨#[]⟩, .slice p_x9 na c_x9, .int .i64 0] 25 (0, 0))) ∧ (W23.heap[x11]? = some (.cells #[.int .i64 21, .int .u64 0, .string ⟨#[]⟩, .slice pa na ca, .int .i64 0] 25 (0, 0))) ∧ (W23.heap[x12]? = some (.cells #[.int .i64 22, .int .u64 0, .string ⟨#[]⟩, .slice pa na ca, .int .i64 0] 25 (0, 0)))) := Lib.hid ((And.intro HM32.out.1 (And.intro HM32.out.2.1 (And.intro HM32.out.2.2.1 (And.intro HM32.out.2.2.2.2.1 (And.intro HM32.out.2.2.2.2.2.1 (And.intro HM32.out.2.2.2.2.2.2.1 (And.intro HM32.out.2.2.2.2.2.2.2.1 HM32.out.2.2.2.2.2.2.2.2))))))))
  clear HM32
  have HM34 : Hid ((Below w.heap.size w W23) ∧ (W23.heap[x6]? = some (.cells #[.int .i64 21, .int .u64 0, .string ⟨#[]⟩, .slice p_x6 na c_x6, .int .i64 0] 25 (0, 0))) ∧ (W23.heap[x7]? = some (.cells #[.int .i64 22, .int .u64 0, .string ⟨#[]⟩, .slice p_x7 na c_x7, .int .i64 0] 25 (0, 0))) ∧ (W23.heap[x8]? = some (.cells #[.int .i64 21, .int .u64 0, .string ⟨#[]⟩, .slice p_x8 na c_x8, .int .i64 0] 25 (0, 0))) ∧ (W23.heap[x9]? = some (.cells #[.int .i64 22, .int .u64 0, .string ⟨#[]⟩, .slice p_x9 na c_x9, .int .i64 0] 25 (0, 0))) ∧ (W23.heap[x11]? = some (.cells #[.int .i64 21, .int .u64 0, .string ⟨#[]⟩, .slice pa na ca, .int .i64 0] 25 (0, 0))) ∧ (W23.heap[x12]? = some (.cells #[.int .i64 22, .int .u64 0, .string ⟨#[]⟩, .slice pa na ca, .int .i64 0] 25 (0, 0)))) := Lib.hid ((And.intro HM33.out.1 (And.intro HM33.out.2.1 (And.intro HM33.out.2.2.1 (And.intro HM33.out.2.2.2.1 (And.intro HM33.out.2.2.2.2.2.1 (And.intro HM33.out.2.2.2.2.2.2.1 HM33.out.2.2.2.2.2.2.2)))))))
  clear HM33
  have HM35 : Hid ((Below w.heap.size w W23) ∧ (W23.heap[x7]? = some (.cells #[.int .i64 22, .int .u64 0, .string ⟨#[]⟩, .slice p_x7 na c_x7, .int .i64 0] 25 (0, 0))) ∧ (W23.heap[x8]? = some (.cells #[.int .i64 21, .int .u64 0, .string ⟨#[]⟩, .slice p_x8 na c_x8, .int .i64 0] 25 (0, 0))) ∧ (W23.heap[x9]? = some (.cells #[.int .i64 22, .int .u64 0, .string ⟨#[]⟩, .slice p_x9 na c_x9, .int .i64 0] 25 (0, 0))) ∧ (W23.heap[x11]? = some (.cells #[.int .i64 21, .int .u64 0, .string ⟨#[]⟩, .slice pa na ca, .int .i64 0] 25 (0, 0))) ∧ (W23.heap[x12]? = some (.cells #[.int .i64 22, .int .u64 0, .string ⟨#[]⟩, .slice pa na ca, .int .i64 0] 25 (0, 0)))) := Lib.hid ((And.intro HM34.out.1 (And.intro HM34.out.2.2.1 (And.intro HM34.out.2.2.2.1 (And.intro HM34.out.2.2.2.2.1 (And.intro HM34.out.2.2.2.2.2.1 HM34.out.2.2.2.2.2.2))))))
  clear HM34
  have HM36 : Hid ((Below w.heap.size w W23) ∧ (W23.heap[x8]? = some (.cells #[.int .i64 21, .int .u64 0, .string ⟨#[]⟩, .slice p_x8 na c_x8, .int .i64 0] 25 (0, 0))) ∧ (W23.heap[x9]? = some (.cells #[.int .i64 22, .int .u64 0, .string ⟨#[]⟩, .slice p_x9 na c_x9, .int .i64 0] 25 (0, 0))) ∧ (W23.heap[x11]? = some (.cells #[.int .i64 21, .int .u64 0, .string ⟨#[]⟩, .slice pa na ca, .int .i64 0] 25 (0, 0))) ∧ (W23.heap[x12]? = some (.cells #[.int .i64 22, .int .u64 0, .string ⟨#[]⟩, .slice pa na ca, .int .i64 0] 25 (0, 0)))) := Lib.hid ((And.intro HM35.out.1 (And.intro HM35.out.2.2.1 (And.intro HM35.out.2.2.2.1 (And.intro HM35.out.2.2.2.2.1 HM35.out.2.2.2.2.2)))))
  clear HM35
  have HM37 : Hid ((Below w.heap.size w W23) ∧ (W23.heap[x9]? = some (.cells #[.int .i64 22, .int .u64 0, .string ⟨#[]⟩, .slice p_x9 na c_x9, .int .i64 0] 25 (0, 0))) ∧ (W23.heap[x11]? = some (.cells #[.int .i64 21, .int .u64 0, .string ⟨#[]⟩, .slice pa na ca, .int .i64 0] 25 (0, 0))) ∧ (W23.heap[x12]? = some (.cells #[.int .i64 22, .int .u64 0, .string ⟨#[]⟩, .slice pa na ca, .int .i64 0] 25 (0, 0)))) := Lib.hid ((And.intro HM36.out.1 (And.intro HM36.out.2.2.1 (And.intro HM36.out.2.2.2.1 HM36.out.2.2.2.2))))
  clear HM36
  have HM38 : Hid ((Below w.heap.size w W23) ∧ (W23.heap[x11]? = some (.cells #[.int .i64 21, .int .u64 0, .string ⟨#[]⟩, .slice pa na ca, .int .i64 0] 25 (0, 0))) ∧ (W23.heap[x12]? = some (.cells #[.int .i64 22, .int .u64 0, .string ⟨#[]⟩, .slice pa na ca, .int .i64 0] 25 (0, 0)))) := Lib.hid ((And.intro HM37.out.1 (And.intro HM37.out.2.2.1 HM37.out.2.2.2)))
  clear HM37
  have HM39 : Hid ((Below w.heap.size w W23) ∧ (W23.heap[x12]? = some (.cells #[.int .i64 22, .int .u64 0, .string ⟨#[]⟩, .slice pa na ca, .int .i64 0] 25 (0, 0)))) := Lib.hid ((And.intro HM38.out.1 HM38.out.2.2))
  clear HM38
  have HM40 : Hid ((Below w.heap.size w W23)) := Lib.hid (HM39.out.1)
  clear HM39
  have hz40 : W23.heap.size ≤ W24.heap.size := hk.size
  have HZ40 := Lib.hid hz40
  clear hz40
  have HM41 : Hid ((Below w.heap.size w W24)) := Lib.hid ((KeepF.below HM40.out hk (fun j q => by have h1 := HIN_Q3.out j q; have z0 := HZ1.out; have z1 := HZ2.out; have z2 := HZ3.out; have z3 := HZ4.out; have z4 := HX_x6.out; have z5 := HLT_x6.out; have z6 := HZ5.out; have z7 := HZ6.out; have z8 := HX_x7.out; have z9 := HLT_x7.out; have z10 := HZ7.out; have z11 := HZ8.out; have z12 := HX_x8.out; have z13 := HLT_x8.out; have z14 := HZ9.out; have z15 := HZ10.out; have z16 := HX_x9.out; have z17 := HLT_x9.out; have z18 := HZ11.out; have z19 := HZ13.out; have z20 := HX_x11.out; have z21 := HLT_x11.out; have z22 := HZ14.out; have z23 := HX_x12.out; have z24 := HLT_x12.out; have z25 := HZ15.out; have z26 := HZ16.out; have z27 := HZ17.out; have z28 := HZ18.out; have z29 := HZ19.out; have z30 := HZ20.out; have z31 := HZ22.out; have z32 := HZ24.out; have z33 := HZ26.out; have z34 := HZ28.out; have z35 := HZ40.out; omega) HM40.out.size))
  clear HM40
  clear hk
  go_wp2_with fail
  go_ret
  exact ⟨rfl, HM41.out⟩

end Go.Proofs.YtakbgekamjpibaaDoor
