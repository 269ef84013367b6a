/-
  CodecFar: what stands ahead moves the places alone. Conditions: the bytes lie in memory, and are not too many; the tables stand.
  From the rows' list of laid variables to the decoder's tables; a world that lays them, for the witnesses. No conditions.
  What the second form's bound gives: the length of a slice, of a string is at most its bulk. No conditions.
-/
import Derived.Test.YtjipennigjlklaaDoorMg46
import Derived.Test.YtjipennigjlklaaDoorMg07
import Derived.Lib.LaidU8
import Derived.PinnedBridge
import Derived.Test.YtjipennigjlklaaDoorRows
namespace Go.Proofs.YtjipennigjlklaaDoor
open Go.RowKit
set_option linter.unusedVariables false
set_option maxHeartbeats 4000000

attribute [local go_sem] Oper.semAt_some

set_option maxRecDepth 20000 in
theorem far_walk (w : World) (hT : Tabs w) (pa : Option Addr) (na ca : Nat) (A : List UInt8) (hA : BytesIn w pa na ca A) (hna : na ≤ 1048576) (pb : Option Addr) (nb cb : Nat) (B : List UInt8) (hB : BytesIn w pb nb cb B) (hnb : nb ≤ 1048576) (pc : Option Addr) (nc cc : Nat) (C : List UInt8) (hC : BytesIn w pc nc cc C) (hnc : nc ≤ 1048576) :
    Calls Tryd.prog 7 #[.slice pa na ca, .slice pb nb cb, .slice pc nc cc] w fun e w' => e = .returned (.bool true) ∧ Below w.heap.size w w' := by
  have HV := Lib.hid (And.intro hT (And.intro hA (And.intro (And.intro hB hC) (And.intro hna (And.intro hnb hnc)))))
  clear hT hA hB hC hna hnb hnc
  go_enter Tryd.func7, Tryd.ntmps7
  go_wp2_with fail
  refine (awake_any w HV.out.1).mono ?_
  rintro e w1 ⟨rfl, hb1⟩
  have H1 := Lib.hid hb1
  clear hb1
  go_wp2_with fail
  refine (decode_any w1 pb nb cb B (HV.out.2.2.1.1.below H1.out) (HV.out.1.below H1.out) (by have hz := HV.out.2.2.2; omega) 0).mono ?_
  rintro e w2 ⟨s1, F1, rfl, hvo, hb2⟩
  have hpb := place_bd B
  have hfa := far_ahead A B
  have hbeh := far_behind (b := B) (C := C) (by rw [HV.out.2.2.1.1.len]; have hz := HV.out.2.2.2; unfold maxLen; omega)
  rw [HV.out.2.2.1.1.len] at hpb
  rw [HV.out.2.1.len] at hfa
  obtain ⟨D, hD⟩ : ∃ D, decS B 0 = D := ⟨_, rfl⟩
  rw [hD] at hvo hpb hfa hbeh ⊢
  obtain ⟨v, pl, ec⟩ := D
  simp only at hvo hpb hfa hbeh ⊢
  rw [Int.add_comm] at hfa
  obtain ⟨ps, cs, hss, _, _⟩ := hvo.slice
  subst hss
  have H2 := Lib.hid (And.intro (H1.out.trans (hb2.mono H1.out.size)) hvo.vin)
  have HD := Lib.hid (And.intro hpb (And.intro hfa hbeh))
  clear hvo hb2 hpb hfa hbeh hD
  go_upto_region 5 with (refine wpList_store_rowTo rfl 25 (.tmp 8) (.tmp 26) rfl rfl w2.heap.size #[.int .i64 v.kind, .int .u64 v.num, .string v.text, (.slice ps v.list.length cs), .int .i64 v.elem] rfl rfl 25 zR (_root_.Go.heap_alloc_new _ _) (by as_aux_lemma => kernel_rfl) (by as_aux_lemma => kernel_rfl) (by simp [Value.oneCell']) ?_)
  have hbx8 : Below w2.heap.size w2 ((w2.alloc (.cells zR 25)).setRow w2.heap.size #[.int .i64 v.kind, .int .u64 v.num, .string v.text, (.slice ps v.list.length cs), .int .i64 v.elem]) := below_setRow ((Below.refl _ _).alloc (Nat.le_refl _) _) (Nat.le_refl _) _
  have ox8 := setRow_heap (w2.alloc (.cells zR 25)) w2.heap.size _ #[.int .i64 v.kind, .int .u64 v.num, .string v.text, (.slice ps v.list.length cs), .int .i64 v.elem] _ _ (_root_.Go.heap_alloc_new w2 _)
  change Code.wp _ _ _ _ ((w2.alloc (.cells zR 25)).setRow w2.heap.size #[.int .i64 v.kind, .int .u64 v.num, .string v.text, (.slice ps v.list.length cs), .int .i64 v.elem])
  generalize ((w2.alloc (.cells zR 25)).setRow w2.heap.size #[.int .i64 v.kind, .int .u64 v.num, .string v.text, (.slice ps v.list.length cs), .int .i64 v.elem]) = w3 at *
  obtain ⟨x8, hx8⟩ : ∃ x, w2.heap.size = x := ⟨_, rfl⟩
  rw [hx8] at ox8 ⊢
  have H3 := Lib.hid (And.intro (H2.out.1.trans (hbx8.mono H2.out.1.size)) (And.intro (H2.out.2.blw hbx8) ox8))
  clear hbx8 ox8 hx8
  have HXw4 := Lib.hid (HV.out.2.1.below H3.out.1)
  go_upto_region 6 with (at_builtin; refine wpList_append_bytesF rfl (.const (.slice none 0 0)) (.tmp 29) 28 rfl w3.heap.size Tryd.underlying28 info_u8 _ [] A _ _ _ rfl rfl (OwnBytes.nil _ _ _) HXw4.out (by have hz := HV.out.2.2.2; simp only [List.length_nil]; omega) (Nat.le_refl _) ?_; intro uw4 w4 ho5 hg5; have HOw4 := Lib.hid ho5; have HGw4 := Lib.hid hg5; clear ho5 hg5)
  have HBw4 := Lib.hid (HGw4.out.below (OwnBytes.nil w3 w3.heap.size 5) (Nat.le_refl _))
  have HYw5 := Lib.hid ((HV.out.2.2.1.1.below H3.out.1).below HBw4.out)
  go_upto_region 7 with (at_builtin; refine wpList_append_bytesF rfl (.tmp 31) (.tmp 32) 28 rfl w3.heap.size Tryd.underlying28 info_u8 _ ([] ++ A) B _ _ _ rfl rfl HOw4.out HYw5.out (by have hz := HV.out.2.2.2; have h1 := (HV.out.2.1.below H3.out.1).len; simp only [List.nil_append]; omega) HBw4.out.size ?_; intro uw5 w5 ho5 hg5; have HOw5 := Lib.hid ho5; have HGw5 := Lib.hid hg5; clear ho5 hg5)
  have HBw5 := Lib.hid (HBw4.out.trans (HGw5.out.below HOw4.out HBw4.out.size))
  have ho := HOw5.out
  rw [List.nil_append] at ho
  obtain ⟨LL, hLL⟩ : ∃ L, A ++ B = L := ⟨_, rfl⟩
  have hall : LL.length = na + nb := by rw [← hLL, List.length_append, (HV.out.2.1.below H3.out.1).len, (HV.out.2.2.1.1.below H3.out.1).len]
  rw [hLL] at ho
  obtain ⟨pL, cL, huL, _⟩ := ho.bytes
  rw [hall] at huL
  have HLw5 := Lib.hid (And.intro hLL (And.intro hall ho))
  subst huL
  clear hall hLL ho HXw4 HOw4 HGw4 HYw5 HOw5 HGw5
  have H5 := Lib.hid (And.intro (H3.out.1.trans (HBw5.out.mono H3.out.1.size)) (And.intro (H3.out.2.1.blw HBw5.out) ((HBw5.out.block x8 (gl H3.out.2.2)).trans H3.out.2.2)))
  clear HBw4 HBw5
  go_wp2_with fail
  refine (decode_any w5 pL (na + nb) cL LL HLw5.out.2.2.sl.2 (HV.out.1.below H5.out.1) (by have hz := HV.out.2.2.2; omega) (na : Nat)).mono ?_
  rintro e w6 ⟨s2, F2, rfl, hvo, hb6⟩
  rw [← HLw5.out.1, HD.out.2.1] at hvo ⊢
  simp only at hvo ⊢
  obtain ⟨qs, ds, hss, _, _⟩ := hvo.slice
  subst hss
  have H6 := Lib.hid (And.intro (H5.out.1.trans (hb6.mono H5.out.1.size)) (And.intro (H5.out.2.1.blw hb6) (And.intro ((hb6.block x8 (gl H5.out.2.2)).trans H5.out.2.2) hvo.vin)))
  clear hvo hb6
  go_upto_region 8 with (refine wpList_store_rowTo rfl 25 (.tmp 12) (.tmp 39) rfl rfl w6.heap.size #[.int .i64 v.kind, .int .u64 v.num, .string v.text, (.slice qs v.list.length ds), .int .i64 v.elem] rfl rfl 25 zR (_root_.Go.heap_alloc_new _ _) (by as_aux_lemma => kernel_rfl) (by as_aux_lemma => kernel_rfl) (by simp [Value.oneCell']) ?_)
  have hbx9 : Below w6.heap.size w6 ((w6.alloc (.cells zR 25)).setRow w6.heap.size #[.int .i64 v.kind, .int .u64 v.num, .string v.text, (.slice qs v.list.length ds), .int .i64 v.elem]) := below_setRow ((Below.refl _ _).alloc (Nat.le_refl _) _) (Nat.le_refl _) _
  have ox9 := setRow_heap (w6.alloc (.cells zR 25)) w6.heap.size _ #[.int .i64 v.kind, .int .u64 v.num, .string v.text, (.slice qs v.list.length ds), .int .i64 v.elem] _ _ (_root_.Go.heap_alloc_new w6 _)
  change Code.wp _ _ _ _ ((w6.alloc (.cells zR 25)).setRow w6.heap.size #[.int .i64 v.kind, .int .u64 v.num, .string v.text, (.slice qs v.list.length ds), .int .i64 v.elem])
  generalize ((w6.alloc (.cells zR 25)).setRow w6.heap.size #[.int .i64 v.kind, .int .u64 v.num, .string v.text, (.slice qs v.list.length ds), .int .i64 v.elem]) = w7 at *
  obtain ⟨x9, hx9⟩ : ∃ x, w6.heap.size = x := ⟨_, rfl⟩
  rw [hx9] at ox9 ⊢
  have H7 := Lib.hid (And.intro (H6.out.1.trans (hbx9.mono H6.out.1.size)) (And.intro (H6.out.2.1.blw hbx9) (And.intro ((hbx9.block x8 (gl H6.out.2.2.1)).trans H6.out.2.2.1) (And.intro (H6.out.2.2.2.blw hbx9) ox9))))
  clear hbx9 ox9 hx9
  have z0 : w7.cell? ⟨x8, 0, none⟩ = some (.int .i64 v.kind) := (cell_of_row _ _ 0 _ _ _ H7.out.2.2.1).trans rfl
  have z1 : w7.cell? ⟨x8, 1, none⟩ = some (.int .u64 v.num) := (cell_of_row _ _ 1 _ _ _ H7.out.2.2.1).trans rfl
  have z2 : w7.cell? ⟨x8, 2, none⟩ = some (.string v.text) := (cell_of_row _ _ 2 _ _ _ H7.out.2.2.1).trans rfl
  have z3 : w7.cell? ⟨x8, 3, none⟩ = some ((.slice ps v.list.length cs)) := (cell_of_row _ _ 3 _ _ _ H7.out.2.2.1).trans rfl
  have z4 : w7.cell? ⟨x8, 4, none⟩ = some (.int .i64 v.elem) := (cell_of_row _ _ 4 _ _ _ H7.out.2.2.1).trans rfl
  have y0 : w7.cell? ⟨x9, 0, none⟩ = some (.int .i64 v.kind) := (cell_of_row _ _ 0 _ _ _ H7.out.2.2.2.2).trans rfl
  have y1 : w7.cell? ⟨x9, 1, none⟩ = some (.int .u64 v.num) := (cell_of_row _ _ 1 _ _ _ H7.out.2.2.2.2).trans rfl
  have y2 : w7.cell? ⟨x9, 2, none⟩ = some (.string v.text) := (cell_of_row _ _ 2 _ _ _ H7.out.2.2.2.2).trans rfl
  have y3 : w7.cell? ⟨x9, 3, none⟩ = some ((.slice qs v.list.length ds)) := (cell_of_row _ _ 3 _ _ _ H7.out.2.2.2.2).trans rfl
  have y4 : w7.cell? ⟨x9, 4, none⟩ = some (.int .i64 v.elem) := (cell_of_row _ _ 4 _ _ _ H7.out.2.2.2.2).trans rfl
  have hq := equal_on v w7 _ v _ H7.out.2.1 H7.out.2.2.2.1
  rw [decide_eq_true rfl] at hq
  have HQ := Lib.hid hq
  clear hq
  go_wp2_with fail
  refine HQ.out.mono ?_
  rintro e w8 ⟨rfl, hb8⟩
  have H8 := Lib.hid (And.intro (H7.out.1.trans (hb8.mono H7.out.1.size)) (And.intro (H7.out.2.1.blw hb8) ((hb8.block x8 (gl H7.out.2.2.1)).trans H7.out.2.2.1)))
  clear hb8 z0 z1 z2 z3 z4 y0 y1 y2 y3 y4
  have hw1 : wrap64 (pl + (na : Nat)) = pl + (na : Nat) := by have h1 := HD.out.1; have hz := HV.out.2.2.2; unfold wrap64; omega
  have hw2 : IntKind.i64.wrap (pl + (na : Nat)) = pl + (na : Nat) := by have h1 := HD.out.1; have hz := HV.out.2.2.2; exact IntWalk.i64_in _ (by omega)
  have HXw9 := Lib.hid (HV.out.2.2.1.1.below H8.out.1)
  go_upto_region 12 with (at_builtin; refine wpList_append_bytesF rfl (.const (.slice none 0 0)) (.tmp 60) 28 rfl w8.heap.size Tryd.underlying28 info_u8 _ [] B _ _ _ rfl rfl (OwnBytes.nil _ _ _) HXw9.out (by have hz := HV.out.2.2.2; simp only [List.length_nil]; omega) (Nat.le_refl _) ?_; intro uw9 w9 ho5 hg5; have HOw9 := Lib.hid ho5; have HGw9 := Lib.hid hg5; clear ho5 hg5)
  have HBw9 := Lib.hid (HGw9.out.below (OwnBytes.nil w8 w8.heap.size 5) (Nat.le_refl _))
  have HYwA := Lib.hid ((HV.out.2.2.1.2.below H8.out.1).below HBw9.out)
  go_upto_region 13 with (at_builtin; refine wpList_append_bytesF rfl (.tmp 62) (.tmp 63) 28 rfl w8.heap.size Tryd.underlying28 info_u8 _ ([] ++ B) C _ _ _ rfl rfl HOw9.out HYwA.out (by have hz := HV.out.2.2.2; have h1 := (HV.out.2.2.1.1.below H8.out.1).len; simp only [List.nil_append]; omega) HBw9.out.size ?_; intro uwA wA ho5 hg5; have HOwA := Lib.hid ho5; have HGwA := Lib.hid hg5; clear ho5 hg5)
  have HBwA := Lib.hid (HBw9.out.trans (HGwA.out.below HOw9.out HBw9.out.size))
  have ho := HOwA.out
  rw [List.nil_append] at ho
  obtain ⟨LL_1, hLL⟩ : ∃ L, B ++ C = L := ⟨_, rfl⟩
  have hall : LL_1.length = nb + nc := by rw [← hLL, List.length_append, (HV.out.2.2.1.1.below H8.out.1).len, (HV.out.2.2.1.2.below H8.out.1).len]
  rw [hLL] at ho
  obtain ⟨pL_1, cL_1, huL, _⟩ := ho.bytes
  rw [hall] at huL
  have HLwA := Lib.hid (And.intro hLL (And.intro hall ho))
  subst huL
  clear hall hLL ho HXw9 HOw9 HGw9 HYwA HOwA HGwA
  have HA := Lib.hid (And.intro (H8.out.1.trans (HBwA.out.mono H8.out.1.size)) (And.intro (H8.out.2.1.blw HBwA.out) ((HBwA.out.block x8 (gl H8.out.2.2)).trans H8.out.2.2)))
  clear HBw9 HBwA hw1 hw2
  go_wp2_with fail
  refine (decode_any wA pL_1 (nb + nc) cL_1 LL_1 HLwA.out.2.2.sl.2 (HV.out.1.below HA.out.1) (by have hz := HV.out.2.2.2; omega) 0).mono ?_
  rintro e wB ⟨s3, F3, rfl, hvo, hbB⟩
  rw [← HLwA.out.1] at hvo ⊢
  by_cases he : ec = 10
  · obtain ⟨D2, hD2⟩ : ∃ D, decS (B ++ C) 0 = D := ⟨_, rfl⟩
    rw [hD2] at hvo ⊢
    obtain ⟨v2, pl2, ec2⟩ := D2
    simp only at hvo ⊢
    obtain ⟨rs, es, hss, _, _⟩ := hvo.slice
    subst hss he
    have HBB := Lib.hid (And.intro (HA.out.1.trans (hbB.mono HA.out.1.size)) (And.intro (HA.out.2.1.blw hbB) (And.intro ((hbB.block x8 (gl HA.out.2.2)).trans HA.out.2.2) hvo.vin)))
    clear hvo hbB hD2
    go_upto_region 14 with (refine wpList_store_rowTo rfl 25 (.tmp 16) (.tmp 68) rfl rfl wB.heap.size #[.int .i64 v2.kind, .int .u64 v2.num, .string v2.text, (.slice rs v2.list.length es), .int .i64 v2.elem] rfl rfl 25 zR (_root_.Go.heap_alloc_new _ _) (by as_aux_lemma => kernel_rfl) (by as_aux_lemma => kernel_rfl) (by simp [Value.oneCell']) ?_)
    have hbxa : Below wB.heap.size wB ((wB.alloc (.cells zR 25)).setRow wB.heap.size #[.int .i64 v2.kind, .int .u64 v2.num, .string v2.text, (.slice rs v2.list.length es), .int .i64 v2.elem]) := below_setRow ((Below.refl _ _).alloc (Nat.le_refl _) _) (Nat.le_refl _) _
    have oxa := setRow_heap (wB.alloc (.cells zR 25)) wB.heap.size _ #[.int .i64 v2.kind, .int .u64 v2.num, .string v2.text, (.slice rs v2.list.length es), .int .i64 v2.elem] _ _ (_root_.Go.heap_alloc_new wB _)
    change Code.wp _ _ _ _ ((wB.alloc (.cells zR 25)).setRow wB.heap.size #[.int .i64 v2.kind, .int .u64 v2.num, .string v2.text, (.slice rs v2.list.length es), .int .i64 v2.elem])
    generalize ((wB.alloc (.cells zR 25)).setRow wB.heap.size #[.int .i64 v2.kind, .int .u64 v2.num, .string v2.text, (.slice rs v2.list.length es), .int .i64 v2.elem]) = wC at *
    obtain ⟨xa, hxa⟩ : ∃ x, wB.heap.size = x := ⟨_, rfl⟩
    rw [hxa] at oxa ⊢
    have HCC := Lib.hid (And.intro (HBB.out.1.trans (hbxa.mono HBB.out.1.size)) (And.intro (HBB.out.2.1.blw hbxa) (And.intro ((hbxa.block x8 (gl HBB.out.2.2.1)).trans HBB.out.2.2.1) (And.intro (HBB.out.2.2.2.blw hbxa) oxa))))
    clear hbxa oxa hxa
    have z0 : wC.cell? ⟨x8, 0, none⟩ = some (.int .i64 v.kind) := (cell_of_row _ _ 0 _ _ _ HCC.out.2.2.1).trans rfl
    have z1 : wC.cell? ⟨x8, 1, none⟩ = some (.int .u64 v.num) := (cell_of_row _ _ 1 _ _ _ HCC.out.2.2.1).trans rfl
    have z2 : wC.cell? ⟨x8, 2, none⟩ = some (.string v.text) := (cell_of_row _ _ 2 _ _ _ HCC.out.2.2.1).trans rfl
    have z3 : wC.cell? ⟨x8, 3, none⟩ = some ((.slice ps v.list.length cs)) := (cell_of_row _ _ 3 _ _ _ HCC.out.2.2.1).trans rfl
    have z4 : wC.cell? ⟨x8, 4, none⟩ = some (.int .i64 v.elem) := (cell_of_row _ _ 4 _ _ _ HCC.out.2.2.1).trans rfl
    have y0 : wC.cell? ⟨xa, 0, none⟩ = some (.int .i64 v2.kind) := (cell_of_row _ _ 0 _ _ _ HCC.out.2.2.2.2).trans rfl
    have y1 : wC.cell? ⟨xa, 1, none⟩ = some (.int .u64 v2.num) := (cell_of_row _ _ 1 _ _ _ HCC.out.2.2.2.2).trans rfl
    have y2 : wC.cell? ⟨xa, 2, none⟩ = some (.string v2.text) := (cell_of_row _ _ 2 _ _ _ HCC.out.2.2.2.2).trans rfl
    have y3 : wC.cell? ⟨xa, 3, none⟩ = some ((.slice rs v2.list.length es)) := (cell_of_row _ _ 3 _ _ _ HCC.out.2.2.2.2).trans rfl
    have y4 : wC.cell? ⟨xa, 4, none⟩ = some (.int .i64 v2.elem) := (cell_of_row _ _ 4 _ _ _ HCC.out.2.2.2.2).trans rfl
    have hq := equal_on v wC _ v2 _ HCC.out.2.1 HCC.out.2.2.2.1
    obtain ⟨X, hX⟩ : ∃ X, decide (v = v2) = X := ⟨_, rfl⟩
    rw [hX] at hq
    clear hX
    have HQ2 := Lib.hid hq
    clear hq
    go_wp2_with fail
    refine HQ2.out.mono ?_
    rintro e wD ⟨rfl, hbD⟩
    have HDD := Lib.hid (HCC.out.1.trans (hbD.mono HCC.out.1.size))
    clear hbD z0 z1 z2 z3 z4 y0 y1 y2 y3 y4
    go_wp2_with fail
    go_ret
    exact ⟨rfl, HDD.out⟩
  · have hD2 := HD.out.2.2 he
    rw [hD2] at hvo ⊢
    simp only at hvo ⊢
    obtain ⟨rs, es, hss, _, _⟩ := hvo.slice
    subst hss
    have HBB := Lib.hid (And.intro (HA.out.1.trans (hbB.mono HA.out.1.size)) (And.intro (HA.out.2.1.blw hbB) (And.intro ((hbB.block x8 (gl HA.out.2.2)).trans HA.out.2.2) hvo.vin)))
    have d1 : (ec == 10) = false := by simp [he]
    clear hvo hbB hD2 he
    go_upto_region 14 with (refine wpList_store_rowTo rfl 25 (.tmp 16) (.tmp 68) rfl rfl wB.heap.size #[.int .i64 v.kind, .int .u64 v.num, .string v.text, (.slice rs v.list.length es), .int .i64 v.elem] rfl rfl 25 zR (_root_.Go.heap_alloc_new _ _) (by as_aux_lemma => kernel_rfl) (by as_aux_lemma => kernel_rfl) (by simp [Value.oneCell']) ?_)
    have hbxa : Below wB.heap.size wB ((wB.alloc (.cells zR 25)).setRow wB.heap.size #[.int .i64 v.kind, .int .u64 v.num, .string v.text, (.slice rs v.list.length es), .int .i64 v.elem]) := below_setRow ((Below.refl _ _).alloc (Nat.le_refl _) _) (Nat.le_refl _) _
    have oxa := setRow_heap (wB.alloc (.cells zR 25)) wB.heap.size _ #[.int .i64 v.kind, .int .u64 v.num, .string v.text, (.slice rs v.list.length es), .int .i64 v.elem] _ _ (_root_.Go.heap_alloc_new wB _)
    change Code.wp _ _ _ _ ((wB.alloc (.cells zR 25)).setRow wB.heap.size #[.int .i64 v.kind, .int .u64 v.num, .string v.text, (.slice rs v.list.length es), .int .i64 v.elem])
    generalize ((wB.alloc (.cells zR 25)).setRow wB.heap.size #[.int .i64 v.kind, .int .u64 v.num, .string v.text, (.slice rs v.list.length es), .int .i64 v.elem]) = wC at *
    obtain ⟨xa, hxa⟩ : ∃ x, wB.heap.size = x := ⟨_, rfl⟩
    rw [hxa] at oxa ⊢
    have HCC := Lib.hid (And.intro (HBB.out.1.trans (hbxa.mono HBB.out.1.size)) (And.intro (HBB.out.2.1.blw hbxa) (And.intro ((hbxa.block x8 (gl HBB.out.2.2.1)).trans HBB.out.2.2.1) (And.intro (HBB.out.2.2.2.blw hbxa) oxa))))
    clear hbxa oxa hxa
    have z0 : wC.cell? ⟨x8, 0, none⟩ = some (.int .i64 v.kind) := (cell_of_row _ _ 0 _ _ _ HCC.out.2.2.1).trans rfl
    have z1 : wC.cell? ⟨x8, 1, none⟩ = some (.int .u64 v.num) := (cell_of_row _ _ 1 _ _ _ HCC.out.2.2.1).trans rfl
    have z2 : wC.cell? ⟨x8, 2, none⟩ = some (.string v.text) := (cell_of_row _ _ 2 _ _ _ HCC.out.2.2.1).trans rfl
    have z3 : wC.cell? ⟨x8, 3, none⟩ = some ((.slice ps v.list.length cs)) := (cell_of_row _ _ 3 _ _ _ HCC.out.2.2.1).trans rfl
    have z4 : wC.cell? ⟨x8, 4, none⟩ = some (.int .i64 v.elem) := (cell_of_row _ _ 4 _ _ _ HCC.out.2.2.1).trans rfl
    have y0 : wC.cell? ⟨xa, 0, none⟩ = some (.int .i64 v.kind) := (cell_of_row _ _ 0 _ _ _ HCC.out.2.2.2.2).trans rfl
    have y1 : wC.cell? ⟨xa, 1, none⟩ = some (.int .u64 v.num) := (cell_of_row _ _ 1 _ _ _ HCC.out.2.2.2.2).trans rfl
    have y2 : wC.cell? ⟨xa, 2, none⟩ = some (.string v.text) := (cell_of_row _ _ 2 _ _ _ HCC.out.2.2.2.2).trans rfl
    have y3 : wC.cell? ⟨xa, 3, none⟩ = some ((.slice rs v.list.length es)) := (cell_of_row _ _ 3 _ _ _ HCC.out.2.2.2.2).trans rfl
    have y4 : wC.cell? ⟨xa, 4, none⟩ = some (.int .i64 v.elem) := (cell_of_row _ _ 4 _ _ _ HCC.out.2.2.2.2).trans rfl
    have hq := equal_on v wC _ v _ HCC.out.2.1 HCC.out.2.2.2.1
    rw [decide_eq_true rfl] at hq
    have HQ2 := Lib.hid hq
    clear hq
    go_wp2_with fail
    refine HQ2.out.mono ?_
    rintro e wD ⟨rfl, hbD⟩
    have HDD := Lib.hid (HCC.out.1.trans (hbD.mono HCC.out.1.size))
    clear hbD z0 z1 z2 z3 z4 y0 y1 y2 y3 y4
    go_wp2_with fail
    go_ret
    exact ⟨rfl, HDD.out⟩
end Go.Proofs.YtjipennigjlklaaDoor

namespace Go.Proofs.YtjipennigjlklaaDoor
open Go.RowKit
set_option maxRecDepth 100000

theorem accept_eq : (Rows.laid_unicode_utf8_acceptRanges : DataW Unit) = Lib.acceptData := by kernel_rfl
theorem tabs_of {W : World} (hL : laidMetH Tryd.prog [("unicode/utf8.acceptRanges", Rows.laid_unicode_utf8_acceptRanges), ("unicode/utf8.first", Rows.laid_unicode_utf8_first)] W) : Tabs W := by
  have h3 := Lib.laidMet.reads hL (.tail _ (.head _))
  have h4 := Lib.laidMet.reads hL (.head _)
  have e3 : Rows.laid_unicode_utf8_first = Lib.firstData := Pinned.utf8First_eq
  rw [e3] at h3
  rw [accept_eq] at h4
  exact utf8Tabs_of_reads Tryd.lays260 ⟨by kernel_rfl, by kernel_rfl, by kernel_rfl, by kernel_rfl, by kernel_rfl, by kernel_rfl, by kernel_rfl⟩ h3 h4

def putTab (vals : Array Value) : Obj → Obj
  | .cells _ t frozen => .cells vals t frozen
  | o => o
noncomputable def laidWorld (os : Os) : World :=
  { World.holding Tryd.prog os ⟨#[], #[], []⟩ with
    heap := ((World.holding Tryd.prog os ⟨#[], #[], []⟩).heap.modify 0 (putTab ((List.range 256).map fun c => (Value.int .u8 (Lib.firstT c : Int))).toArray)).modify 1 (putTab ((List.range 32).map fun c => (Value.int .u8 ((if c % 2 = 0 then Lib.accLo (c / 2) else Lib.accHi (c / 2) : Nat) : Int))).toArray) }
end Go.Proofs.YtjipennigjlklaaDoor

namespace Go.Proofs.YtjipennigjlklaaDoor
theorem bulk_pos {H : Type} (d : DataW H) : 1 ≤ Rows.uptoBulk d := by
  cases d with
  | lit l => cases l <;> simp [Rows.uptoBulk]
  | nil => simp [Rows.uptoBulk]
  | ptr d => simp [Rows.uptoBulk]
  | slice elems spare => simp [Rows.uptoBulk]
  | agg parts => simp [Rows.uptoBulk]
  | iface t d => simp [Rows.uptoBulk]
  | map entries => simp [Rows.uptoBulk]
  | held h => simp [Rows.uptoBulk]
theorem bulk_length {H : Type} (l : List (DataW H)) : l.length ≤ Rows.uptoBulkAll l := by
  induction l with
  | nil => simp [Rows.uptoBulkAll]
  | cons x r ih => have := bulk_pos x; simp only [Rows.uptoBulkAll, List.length_cons]; omega
theorem bulk_slice {H : Type} {d : DataW H} {n c : Nat} (h : (n = 0 ∧ d = .nil) ∨ ∃ es sp : List (DataW H), d = .slice es sp ∧ es.length = n ∧ sp.length = c - n) : n ≤ Rows.uptoBulk d := by
  rcases h with ⟨rfl, rfl⟩ | ⟨es, sp, rfl, rfl, _⟩
  · exact Nat.zero_le _
  · have := bulk_length es; simp only [Rows.uptoBulk]; omega
theorem bulk_bound {H : Type} {l : List (DataW H)} (hk : Rows.uptoSmall H l = true) : Rows.uptoBulkAll l ≤ 1048576 := of_decide_eq_true hk
end Go.Proofs.YtjipennigjlklaaDoor
