/-
  CodecBack: what was written is read as it was, whatever stands around it. Conditions: the value and the bytes lie in memory, the bytes are not too many; the tables stand.
  From the rows' list of laid variables to the decoder's tables; a world that lays them, for the witnesses. No conditions.
  What the second form's bound gives: the length of a slice, of a string is at most its bulk. No conditions.
-/
import Derived.Test.YtjipennigjlklaaDoorMg46
import Derived.Test.YtjipennigjlklaaDoorMg07
import Derived.Lib.LaidU8
import Derived.PinnedBridge
import Derived.Test.YtjipennigjlklaaDoorRows
namespace Go.Proofs.YtjipennigjlklaaDoor
open Go.RowKit
set_option linter.unusedVariables false
set_option maxHeartbeats 4000000

attribute [local go_sem] Oper.semAt_some

set_option maxRecDepth 20000 in
theorem back_walk (w : World) (hT : Tabs w) (v : V) (s : Value) (hv : VIn w v s) (pa : Option Addr) (na ca : Nat) (A : List UInt8) (hA : BytesIn w pa na ca A) (hna : na ≤ 1048576) (pc : Option Addr) (nc cc : Nat) (C : List UInt8) (hC : BytesIn w pc nc cc C) (hnc : nc ≤ 1048576) :
    Calls Tryd.prog 4 #[.agg #[.int .i64 v.kind, .int .u64 v.num, .string v.text, s, .int .i64 v.elem], .slice pa na ca, .slice pc nc cc] w fun e w' => e = .returned (.bool true) ∧ Below w.heap.size w w' := by
  obtain ⟨ps, cs, hs, _, _⟩ := hv.slice
  subst hs
  have HV := Lib.hid (And.intro hv (And.intro hT (And.intro hA (And.intro hC (And.intro hna hnc)))))
  clear hv hT hA hC hna hnc
  go_enter Tryd.func4, Tryd.ntmps4
  go_upto_region 1 with fail
  have hb0 : Below w.heap.size w (w.alloc (.cells #[.int .i64 v.kind, .int .u64 v.num, .string v.text, (.slice ps v.list.length cs), .int .i64 v.elem] 25)) := ((Below.refl _ _).alloc (Nat.le_refl _) _)
  have ox := _root_.Go.heap_alloc_new w (.cells #[.int .i64 v.kind, .int .u64 v.num, .string v.text, (.slice ps v.list.length cs), .int .i64 v.elem] 25)
  generalize (w.alloc (.cells #[.int .i64 v.kind, .int .u64 v.num, .string v.text, (.slice ps v.list.length cs), .int .i64 v.elem] 25)) = w0 at *
  obtain ⟨x, hx⟩ : ∃ x, w.heap.size = x := ⟨_, rfl⟩
  rw [hx] at ox ⊢
  have H0 := Lib.hid (And.intro hb0 ox)
  clear hb0 ox hx
  go_wp2_with fail
  refine (awake_any w0 (HV.out.2.1.below H0.out.1)).mono ?_
  rintro e w1 ⟨rfl, hb1⟩
  have H1 := Lib.hid (And.intro (H0.out.1.trans (hb1.mono H0.out.1.size)) ((hb1.block x (gl H0.out.2)).trans H0.out.2))
  clear hb1
  have z0 : w1.cell? ⟨x, 0, none⟩ = some (.int .i64 v.kind) := (cell_of_row _ _ 0 _ _ _ H1.out.2).trans rfl
  have z1 : w1.cell? ⟨x, 1, none⟩ = some (.int .u64 v.num) := (cell_of_row _ _ 1 _ _ _ H1.out.2).trans rfl
  have z2 : w1.cell? ⟨x, 2, none⟩ = some (.string v.text) := (cell_of_row _ _ 2 _ _ _ H1.out.2).trans rfl
  have z3 : w1.cell? ⟨x, 3, none⟩ = some ((.slice ps v.list.length cs)) := (cell_of_row _ _ 3 _ _ _ H1.out.2).trans rfl
  have z4 : w1.cell? ⟨x, 4, none⟩ = some (.int .i64 v.elem) := (cell_of_row _ _ 4 _ _ _ H1.out.2).trans rfl
  by_cases hg : 100000 < v.wt
  · have hc := great_any v w1 _ (HV.out.1.blw H1.out.1)
    rw [decide_eq_true hg] at hc
    have HC := Lib.hid hc
    clear hc hg
    go_wp2_with fail
    refine HC.out.mono ?_
    rintro e w2 ⟨rfl, hb2⟩
    have HB := Lib.hid (H1.out.1.trans (hb2.mono H1.out.1.size))
    clear hb2
    go_wp2_with fail
    go_ret
    exact ⟨rfl, HB.out⟩
  have hc := great_any v w1 _ (HV.out.1.blw H1.out.1)
  rw [decide_eq_false hg] at hc
  have HC := Lib.hid hc
  have HG := Lib.hid (show v.wt ≤ 2000000 by omega)
  clear hc hg
  go_wp2_with fail
  refine HC.out.mono ?_
  rintro e w2 ⟨rfl, hb2⟩
  have H2 := Lib.hid (And.intro (H1.out.1.trans (hb2.mono H1.out.1.size)) ((hb2.block x (gl H1.out.2)).trans H1.out.2))
  clear hb2
  clear z0 z1 z2 z3 z4
  have z0 : w2.cell? ⟨x, 0, none⟩ = some (.int .i64 v.kind) := (cell_of_row _ _ 0 _ _ _ H2.out.2).trans rfl
  have z1 : w2.cell? ⟨x, 1, none⟩ = some (.int .u64 v.num) := (cell_of_row _ _ 1 _ _ _ H2.out.2).trans rfl
  have z2 : w2.cell? ⟨x, 2, none⟩ = some (.string v.text) := (cell_of_row _ _ 2 _ _ _ H2.out.2).trans rfl
  have z3 : w2.cell? ⟨x, 3, none⟩ = some ((.slice ps v.list.length cs)) := (cell_of_row _ _ 3 _ _ _ H2.out.2).trans rfl
  have z4 : w2.cell? ⟨x, 4, none⟩ = some (.int .i64 v.elem) := (cell_of_row _ _ 4 _ _ _ H2.out.2).trans rfl
  have hc := check_any v w2 _ (HV.out.1.blw H2.out.1) (HV.out.2.1.below H2.out.1) HG.out
  have HCK := Lib.hid hc
  clear hc
  go_wp2_with fail
  refine HCK.out.mono ?_
  rintro e w3 ⟨rfl, hb3⟩
  have H3 := Lib.hid (And.intro (H2.out.1.trans (hb3.mono H2.out.1.size)) ((hb3.block x (gl H2.out.2)).trans H2.out.2))
  clear hb3
  clear z0 z1 z2 z3 z4
  have z0 : w3.cell? ⟨x, 0, none⟩ = some (.int .i64 v.kind) := (cell_of_row _ _ 0 _ _ _ H3.out.2).trans rfl
  have z1 : w3.cell? ⟨x, 1, none⟩ = some (.int .u64 v.num) := (cell_of_row _ _ 1 _ _ _ H3.out.2).trans rfl
  have z2 : w3.cell? ⟨x, 2, none⟩ = some (.string v.text) := (cell_of_row _ _ 2 _ _ _ H3.out.2).trans rfl
  have z3 : w3.cell? ⟨x, 3, none⟩ = some ((.slice ps v.list.length cs)) := (cell_of_row _ _ 3 _ _ _ H3.out.2).trans rfl
  have z4 : w3.cell? ⟨x, 4, none⟩ = some (.int .i64 v.elem) := (cell_of_row _ _ 4 _ _ _ H3.out.2).trans rfl
  have hc := encode_any v w3 _ (HV.out.1.blw H3.out.1) (HV.out.2.1.below H3.out.1) HG.out
  have HEN := Lib.hid hc
  clear hc
  go_wp2_with fail
  refine HEN.out.mono ?_
  rintro e w4 ⟨u, rfl, hou, hb4⟩
  obtain ⟨pu, cu, hu, _⟩ := hou.bytes
  subst hu
  obtain ⟨fb, hfb⟩ : ∃ fb, firstBad (v.pre 1) = fb := ⟨_, rfl⟩
  have hen : encS v = if fb ≠ 0 then ([], fb) else if 1048576 < (putV v).length then ([], 2) else (putV v, 0) := by rw [← hfb]; rfl
  have hok := encS_ok (vin_wf v _ HV.out.1)
  rw [hfb]
  have H4 := Lib.hid (And.intro (H3.out.1.trans (hb4.mono H3.out.1.size)) ((hb4.block x (gl H3.out.2)).trans H3.out.2))
  clear z0 z1 z2 z3 z4
  by_cases h1 : fb = 0
  · rw [if_neg (by simp [h1])] at hen
    by_cases h2 : 1048576 < (putV v).length
    · rw [if_pos h2] at hen
      rw [hen]
      have HB := Lib.hid H4.out.1
      subst h1
      clear hen hok hfb hou hb4 h2
      go_wp2_with fail
      go_ret
      exact ⟨rfl, HB.out⟩
    · rw [if_neg h2] at hen
      rw [hen] at hou hok ⊢
      obtain ⟨hr, hd, hl, _⟩ := hok rfl
      simp only at hou ⊢
      have HB := Lib.hid (And.intro (hou) (And.intro hr (And.intro hd hl)))
      obtain ⟨m, hm⟩ : ∃ m, (putV v).length = m := ⟨_, rfl⟩
      have HM := Lib.hid (show (putV v).length = m ∧ m ≤ 1048576 from ⟨hm, by rw [← hm]; exact hl⟩)
      subst h1
      simp only [hm]
      clear hen hok hfb hou hb4 h2 hr hd hl hm
      have HAA := Lib.hid (show BytesIn w4 pa na ca A from HV.out.2.2.1.below H4.out.1)
      go_upto_region 14 with (at_builtin; refine wpList_append_bytesF rfl (.const (.slice none 0 0)) (.tmp 54) 28 rfl w4.heap.size Tryd.underlying28 info_u8 _ [] A _ _ _ rfl rfl (OwnBytes.nil _ _ _) HAA.out (by have := HV.out.2.2.2.2.1; simp only [List.length_nil]; omega) (Nat.le_refl _) ?_; intro u5 w5 ho5 hg5; have HO5 := Lib.hid ho5; have HG5 := Lib.hid hg5; clear ho5 hg5)
      have hB5 := HG5.out.below (OwnBytes.nil w4 w4.heap.size 5) (Nat.le_refl _)
      have HBU := Lib.hid (show BytesIn w5 pu m cu (putV v) by have h := (HB.out.1.of_below hB5).sl.2; rw [HM.out.1] at h; exact h)
      have HB5 := Lib.hid hB5
      clear hB5
      go_upto_region 15 with (at_builtin; refine wpList_append_bytesF rfl (.tmp 56) (.tmp 57) 28 rfl w4.heap.size Tryd.underlying28 info_u8 _ ([] ++ A) (putV v) _ _ _ rfl rfl HO5.out HBU.out (by have h1 := HV.out.2.2.2.2.1; have h2 := HV.out.2.2.1.len; have h3 := HM.out.2; simp only [List.nil_append]; omega) HB5.out.size ?_; intro u6 w6 ho6 hg6; have HO6 := Lib.hid ho6; have HG6 := Lib.hid hg6; clear ho6 hg6)
      have HB6 := Lib.hid (HB5.out.trans (HG6.out.below HO5.out HB5.out.size))
      have HC6 := Lib.hid (show BytesIn w6 pc nc cc C from (HV.out.2.2.2.1.below H4.out.1).below HB6.out)
      go_upto_region 16 with (at_builtin; refine wpList_append_bytesF rfl (.tmp 59) (.tmp 60) 28 rfl w4.heap.size Tryd.underlying28 info_u8 _ (([] ++ A) ++ putV v) C _ _ _ rfl rfl HO6.out HC6.out (by have h1 := HV.out.2.2.2.2.1; have h2 := HV.out.2.2.1.len; have h3 := HM.out; have h4 := HV.out.2.2.2.2.2; simp only [List.nil_append, List.length_append]; omega) HB6.out.size ?_; intro u7 w7 ho7 hg7; have HO7 := Lib.hid ho7; have HG7 := Lib.hid hg7; clear ho7 hg7)
      have hB7 := HB6.out.trans (HG7.out.below HO6.out HB6.out.size)
      have ho := HO7.out
      have hdec : decS ((([] ++ A) ++ putV v) ++ C) ((na : Nat) : Int) = (v, ((na + m : Nat) : Int), 0) := by
        have h := back_law HB.out.2.1 HB.out.2.2.1 HG.out HB.out.2.2.2 A C
        rw [HV.out.2.2.1.len, HM.out.1] at h
        rw [List.nil_append, List.append_assoc, h]
        rfl
      have hall : ((([] ++ A) ++ putV v) ++ C).length = na + m + nc := by simp only [List.nil_append, List.length_append]; rw [HV.out.2.2.1.len, HM.out.1, HV.out.2.2.2.1.len]
      obtain ⟨LLB, hAB⟩ : ∃ L, (([] ++ A) ++ putV v) ++ C = L := ⟨_, rfl⟩
      rw [hAB] at ho hdec hall
      obtain ⟨p7, c7, hu7, _⟩ := ho.bytes
      rw [hall] at hu7
      have H7 := Lib.hid (And.intro (H4.out.1.trans (hB7.mono H4.out.1.size)) ((hB7.block x (gl H4.out.2)).trans H4.out.2))
      have HU7 := Lib.hid (HB.out.1.of_below hB7)
      have HDC := Lib.hid (And.intro hdec (And.intro hall ho))
      subst hu7
      clear hdec hall hB7 hAB HO5 HO6 HO7 HG5 HG6 HG7 HB5 HB6 HC6 HBU HAA ho
      go_wp2_with fail
      refine (decode_any w7 p7 _ c7 LLB HDC.out.2.2.sl.2 (HV.out.2.1.below H7.out.1) (by have h1 := HV.out.2.2.2.2.1; have h3 := HM.out.2; have h4 := HV.out.2.2.2.2.2; omega) (na : Nat)).mono ?_
      rintro e w8 ⟨s8, F8, rfl, hvo8, hb8⟩
      rw [HDC.out.1] at hvo8 ⊢
      simp only at hvo8 ⊢
      obtain ⟨qs, ds, hs8, _, _⟩ := hvo8.slice
      subst hs8
      have HV8 := Lib.hid (And.intro hvo8.vin (HU7.out.of_below hb8))
      have H8 := Lib.hid (And.intro (H7.out.1.trans (hb8.mono H7.out.1.size)) ((hb8.block x (gl H7.out.2)).trans H7.out.2))
      clear hb8 hvo8
      go_upto_region 17 with (refine wpList_store_rowTo rfl 25 (.tmp 13) (.tmp 67) rfl rfl w8.heap.size #[.int .i64 v.kind, .int .u64 v.num, .string v.text, (.slice qs v.list.length ds), .int .i64 v.elem] rfl rfl 25 zR (_root_.Go.heap_alloc_new _ _) (by as_aux_lemma => kernel_rfl) (by as_aux_lemma => kernel_rfl) (by simp [Value.oneCell']) ?_)
      have hbx8 : Below w8.heap.size w8 ((w8.alloc (.cells zR 25)).setRow w8.heap.size #[.int .i64 v.kind, .int .u64 v.num, .string v.text, (.slice qs v.list.length ds), .int .i64 v.elem]) := below_setRow ((Below.refl _ _).alloc (Nat.le_refl _) _) (Nat.le_refl _) _
      have ox8 := setRow_heap (w8.alloc (.cells zR 25)) w8.heap.size _ #[.int .i64 v.kind, .int .u64 v.num, .string v.text, (.slice qs v.list.length ds), .int .i64 v.elem] _ _ (_root_.Go.heap_alloc_new w8 _)
      change Code.wp _ _ _ _ ((w8.alloc (.cells zR 25)).setRow w8.heap.size #[.int .i64 v.kind, .int .u64 v.num, .string v.text, (.slice qs v.list.length ds), .int .i64 v.elem])
      generalize ((w8.alloc (.cells zR 25)).setRow w8.heap.size #[.int .i64 v.kind, .int .u64 v.num, .string v.text, (.slice qs v.list.length ds), .int .i64 v.elem]) = w9 at *
      obtain ⟨x8, hx8⟩ : ∃ x, w8.heap.size = x := ⟨_, rfl⟩
      rw [hx8] at ox8 ⊢
      have H9 := Lib.hid (And.intro (H8.out.1.trans (hbx8.mono H8.out.1.size)) ((hbx8.block x (gl H8.out.2)).trans H8.out.2))
      have HV9 := Lib.hid (And.intro (HV8.out.1.blw hbx8) (And.intro (HV8.out.2.of_below hbx8) ox8))
      clear hbx8 ox8 hx8
      have hwp := whole_put HB.out.2.1 HB.out.2.2.1 HG.out HB.out.2.2.2
      have hsp := shortest_put HB.out.2.1 HB.out.2.2.1 HG.out HB.out.2.2.2
      have HWS := Lib.hid (And.intro hwp hsp)
      clear hwp hsp
      go_wp2_with fail
      refine (whole_any w9 pu m cu (putV v) (by have h := HV9.out.2.1.sl.2; rw [HM.out.1] at h; exact h) (HV.out.2.1.below H9.out.1) (by have h3 := HM.out.2; omega)).mono ?_
      rintro e wA ⟨sA, FA, rfl, hvoA, hbA⟩
      rw [HWS.out.1] at hvoA ⊢
      simp only at hvoA ⊢
      obtain ⟨rs, es, hsA, _, _⟩ := hvoA.slice
      subst hsA
      have HVA := Lib.hid (And.intro hvoA.vin (And.intro (HV9.out.1.blw hbA) (And.intro (HV9.out.2.1.of_below hbA) ((hbA.block x8 (gl HV9.out.2.2)).trans HV9.out.2.2))))
      have HA := Lib.hid (And.intro (H9.out.1.trans (hbA.mono H9.out.1.size)) ((hbA.block x (gl H9.out.2)).trans H9.out.2))
      clear hbA hvoA
      go_upto_region 18 with (refine wpList_store_rowTo rfl 25 (.tmp 16) (.tmp 73) rfl rfl wA.heap.size #[.int .i64 v.kind, .int .u64 v.num, .string v.text, (.slice rs v.list.length es), .int .i64 v.elem] rfl rfl 25 zR (_root_.Go.heap_alloc_new _ _) (by as_aux_lemma => kernel_rfl) (by as_aux_lemma => kernel_rfl) (by simp [Value.oneCell']) ?_)
      have hbxB : Below wA.heap.size wA ((wA.alloc (.cells zR 25)).setRow wA.heap.size #[.int .i64 v.kind, .int .u64 v.num, .string v.text, (.slice rs v.list.length es), .int .i64 v.elem]) := below_setRow ((Below.refl _ _).alloc (Nat.le_refl _) _) (Nat.le_refl _) _
      have oxB := setRow_heap (wA.alloc (.cells zR 25)) wA.heap.size _ #[.int .i64 v.kind, .int .u64 v.num, .string v.text, (.slice rs v.list.length es), .int .i64 v.elem] _ _ (_root_.Go.heap_alloc_new wA _)
      change Code.wp _ _ _ _ ((wA.alloc (.cells zR 25)).setRow wA.heap.size #[.int .i64 v.kind, .int .u64 v.num, .string v.text, (.slice rs v.list.length es), .int .i64 v.elem])
      generalize ((wA.alloc (.cells zR 25)).setRow wA.heap.size #[.int .i64 v.kind, .int .u64 v.num, .string v.text, (.slice rs v.list.length es), .int .i64 v.elem]) = wB at *
      obtain ⟨xB, hxB⟩ : ∃ x, wA.heap.size = x := ⟨_, rfl⟩
      rw [hxB] at oxB ⊢
      have HBB := Lib.hid (And.intro (HA.out.1.trans (hbxB.mono HA.out.1.size)) ((hbxB.block x (gl HA.out.2)).trans HA.out.2))
      have HVB := Lib.hid (And.intro (HVA.out.1.blw hbxB) (And.intro (HVA.out.2.1.blw hbxB) (And.intro (HVA.out.2.2.1.of_below hbxB) (And.intro ((hbxB.block x8 (gl HVA.out.2.2.2)).trans HVA.out.2.2.2) oxB))))
      clear hbxB oxB hxB
      have z0 : wB.cell? ⟨x, 0, none⟩ = some (.int .i64 v.kind) := (cell_of_row _ _ 0 _ _ _ HBB.out.2).trans rfl
      have z1 : wB.cell? ⟨x, 1, none⟩ = some (.int .u64 v.num) := (cell_of_row _ _ 1 _ _ _ HBB.out.2).trans rfl
      have z2 : wB.cell? ⟨x, 2, none⟩ = some (.string v.text) := (cell_of_row _ _ 2 _ _ _ HBB.out.2).trans rfl
      have z3 : wB.cell? ⟨x, 3, none⟩ = some ((.slice ps v.list.length cs)) := (cell_of_row _ _ 3 _ _ _ HBB.out.2).trans rfl
      have z4 : wB.cell? ⟨x, 4, none⟩ = some (.int .i64 v.elem) := (cell_of_row _ _ 4 _ _ _ HBB.out.2).trans rfl
      have y0 : wB.cell? ⟨x8, 0, none⟩ = some (.int .i64 v.kind) := (cell_of_row _ _ 0 _ _ _ HVB.out.2.2.2.1).trans rfl
      have y1 : wB.cell? ⟨x8, 1, none⟩ = some (.int .u64 v.num) := (cell_of_row _ _ 1 _ _ _ HVB.out.2.2.2.1).trans rfl
      have y2 : wB.cell? ⟨x8, 2, none⟩ = some (.string v.text) := (cell_of_row _ _ 2 _ _ _ HVB.out.2.2.2.1).trans rfl
      have y3 : wB.cell? ⟨x8, 3, none⟩ = some ((.slice qs v.list.length ds)) := (cell_of_row _ _ 3 _ _ _ HVB.out.2.2.2.1).trans rfl
      have y4 : wB.cell? ⟨x8, 4, none⟩ = some (.int .i64 v.elem) := (cell_of_row _ _ 4 _ _ _ HVB.out.2.2.2.1).trans rfl
      have hq := equal_on v wB _ v _ (HV.out.1.blw HBB.out.1) HVB.out.2.1
      rw [decide_eq_true rfl] at hq
      have HQ := Lib.hid hq
      clear hq
      go_wp2_with fail
      refine HQ.out.mono ?_
      rintro e wC ⟨rfl, hbC⟩
      have HCC := Lib.hid (And.intro (HBB.out.1.trans (hbC.mono HBB.out.1.size)) ((hbC.block x (gl HBB.out.2)).trans HBB.out.2))
      have HVC := Lib.hid (And.intro (HVB.out.1.blw hbC) (And.intro (HVB.out.2.2.1.of_below hbC) ((hbC.block xB (gl HVB.out.2.2.2.2)).trans HVB.out.2.2.2.2)))
      clear hbC z0 z1 z2 z3 z4 y0 y1 y2 y3 y4
      have z0 : wC.cell? ⟨x, 0, none⟩ = some (.int .i64 v.kind) := (cell_of_row _ _ 0 _ _ _ HCC.out.2).trans rfl
      have z1 : wC.cell? ⟨x, 1, none⟩ = some (.int .u64 v.num) := (cell_of_row _ _ 1 _ _ _ HCC.out.2).trans rfl
      have z2 : wC.cell? ⟨x, 2, none⟩ = some (.string v.text) := (cell_of_row _ _ 2 _ _ _ HCC.out.2).trans rfl
      have z3 : wC.cell? ⟨x, 3, none⟩ = some ((.slice ps v.list.length cs)) := (cell_of_row _ _ 3 _ _ _ HCC.out.2).trans rfl
      have z4 : wC.cell? ⟨x, 4, none⟩ = some (.int .i64 v.elem) := (cell_of_row _ _ 4 _ _ _ HCC.out.2).trans rfl
      have y0 : wC.cell? ⟨xB, 0, none⟩ = some (.int .i64 v.kind) := (cell_of_row _ _ 0 _ _ _ HVC.out.2.2).trans rfl
      have y1 : wC.cell? ⟨xB, 1, none⟩ = some (.int .u64 v.num) := (cell_of_row _ _ 1 _ _ _ HVC.out.2.2).trans rfl
      have y2 : wC.cell? ⟨xB, 2, none⟩ = some (.string v.text) := (cell_of_row _ _ 2 _ _ _ HVC.out.2.2).trans rfl
      have y3 : wC.cell? ⟨xB, 3, none⟩ = some ((.slice rs v.list.length es)) := (cell_of_row _ _ 3 _ _ _ HVC.out.2.2).trans rfl
      have y4 : wC.cell? ⟨xB, 4, none⟩ = some (.int .i64 v.elem) := (cell_of_row _ _ 4 _ _ _ HVC.out.2.2).trans rfl
      have hq := equal_on v wC _ v _ (HV.out.1.blw HCC.out.1) HVC.out.1
      rw [decide_eq_true rfl] at hq
      have HQ2 := Lib.hid hq
      clear hq
      go_wp2_with fail
      refine HQ2.out.mono ?_
      rintro e wD ⟨rfl, hbD⟩
      have HDD := Lib.hid (And.intro (HCC.out.1.trans (hbD.mono HCC.out.1.size)) (HVC.out.2.1.of_below hbD))
      clear hbD z0 z1 z2 z3 z4 y0 y1 y2 y3 y4
      go_wp2_with fail
      refine (shortest_any wD pu m cu (putV v) (by have h := HDD.out.2.sl.2; rw [HM.out.1] at h; exact h) (HV.out.2.1.below HDD.out.1) (by have h3 := HM.out.2; omega)).mono ?_
      rintro e wE ⟨rfl, hbE⟩
      rw [HWS.out.2]
      have HEE := Lib.hid (HDD.out.1.trans (hbE.mono HDD.out.1.size))
      have hadd : wrap64 (((na : Nat) : Int) + (m : Nat)) = ((na : Nat) : Int) + (m : Nat) := by have h1 := HV.out.2.2.2.2.1; have h3 := HM.out.2; unfold wrap64; omega
      have dm1 : decide ((m : Int) ≤ 1048576) = true := decide_eq_true (by have h3 := HM.out.2; omega)
      have dm2 : decide (m ≤ 1048576) = true := decide_eq_true HM.out.2
      have hna := HV.out.2.2.2.2.1
      have hnaI : ((na : Nat) : Int) ≤ 1048576 := by omega
      have hmI : ((m : Nat) : Int) ≤ 1048576 := by have h3 := HM.out.2; omega
      clear hbE hna
      go_wp2_with fail
      go_ret
      exact ⟨rfl, HEE.out⟩
  · rw [if_pos h1] at hen
    rw [hen]
    have d1 : (fb != 0) = true := by simp [h1]
    have HB := Lib.hid H4.out.1
    clear hen hok hfb hou hb4 h1
    go_wp2_with fail
    go_ret
    exact ⟨rfl, HB.out⟩
end Go.Proofs.YtjipennigjlklaaDoor

namespace Go.Proofs.YtjipennigjlklaaDoor
open Go.RowKit
set_option maxRecDepth 100000

theorem accept_eq : (Rows.laid_unicode_utf8_acceptRanges : DataW Unit) = Lib.acceptData := by kernel_rfl
theorem tabs_of {W : World} (hL : laidMetH Tryd.prog [("unicode/utf8.acceptRanges", Rows.laid_unicode_utf8_acceptRanges), ("unicode/utf8.first", Rows.laid_unicode_utf8_first)] W) : Tabs W := by
  have h3 := Lib.laidMet.reads hL (.tail _ (.head _))
  have h4 := Lib.laidMet.reads hL (.head _)
  have e3 : Rows.laid_unicode_utf8_first = Lib.firstData := Pinned.utf8First_eq
  rw [e3] at h3
  rw [accept_eq] at h4
  exact utf8Tabs_of_reads Tryd.lays260 ⟨by kernel_rfl, by kernel_rfl, by kernel_rfl, by kernel_rfl, by kernel_rfl, by kernel_rfl, by kernel_rfl⟩ h3 h4

def putTab (vals : Array Value) : Obj → Obj
  | .cells _ t frozen => .cells vals t frozen
  | o => o
noncomputable def laidWorld (os : Os) : World :=
  { World.holding Tryd.prog os ⟨#[], #[], []⟩ with
    heap := ((World.holding Tryd.prog os ⟨#[], #[], []⟩).heap.modify 0 (putTab ((List.range 256).map fun c => (Value.int .u8 (Lib.firstT c : Int))).toArray)).modify 1 (putTab ((List.range 32).map fun c => (Value.int .u8 ((if c % 2 = 0 then Lib.accLo (c / 2) else Lib.accHi (c / 2) : Nat) : Int))).toArray) }
end Go.Proofs.YtjipennigjlklaaDoor

namespace Go.Proofs.YtjipennigjlklaaDoor
theorem bulk_pos {H : Type} (d : DataW H) : 1 ≤ Rows.uptoBulk d := by
  cases d with
  | lit l => cases l <;> simp [Rows.uptoBulk]
  | nil => simp [Rows.uptoBulk]
  | ptr d => simp [Rows.uptoBulk]
  | slice elems spare => simp [Rows.uptoBulk]
  | agg parts => simp [Rows.uptoBulk]
  | iface t d => simp [Rows.uptoBulk]
  | map entries => simp [Rows.uptoBulk]
  | held h => simp [Rows.uptoBulk]
theorem bulk_length {H : Type} (l : List (DataW H)) : l.length ≤ Rows.uptoBulkAll l := by
  induction l with
  | nil => simp [Rows.uptoBulkAll]
  | cons x r ih => have := bulk_pos x; simp only [Rows.uptoBulkAll, List.length_cons]; omega
theorem bulk_slice {H : Type} {d : DataW H} {n c : Nat} (h : (n = 0 ∧ d = .nil) ∨ ∃ es sp : List (DataW H), d = .slice es sp ∧ es.length = n ∧ sp.length = c - n) : n ≤ Rows.uptoBulk d := by
  rcases h with ⟨rfl, rfl⟩ | ⟨es, sp, rfl, rfl, _⟩
  · exact Nat.zero_le _
  · have := bulk_length es; simp only [Rows.uptoBulk]; omega
theorem bulk_bound {H : Type} {l : List (DataW H)} (hk : Rows.uptoSmall H l = true) : Rows.uptoBulkAll l ≤ 1048576 := of_decide_eq_true hk
end Go.Proofs.YtjipennigjlklaaDoor
