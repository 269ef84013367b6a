/-
  ValueEquals. Conditions: the values lie in memory; the tables stand.
-/
import Derived.Test.YtakbgekamjpibaaDoorNb
import Derived.Test.YtakbgekamjpibaaDoorMg26
import Derived.Test.YtakbgekamjpibaaDoorNd
import Derived.Test.YtakbgekamjpibaaDoorMg16
import Derived.Test.YtakbgekamjpibaaDoorMg24
import Derived.Deep.RegionHeld3
namespace Go.Proofs.YtakbgekamjpibaaDoor
open Go.RowKit
set_option linter.unusedVariables false

attribute [local go_sem] Oper.semAt_some

theorem VO.keepF {w w' : World} {v : V} {s : Value} {B : Nat} {F G : Nat → Prop} (h : VO w B v s F) (hk : KeepF G w w') (hd : ∀ b, F b → ¬ G b) : VO w' B v s F := h.keep (fun b q => hk.block b (h.lt b q).2 (hd b q))
theorem keepF_setCell (w : World) (x j : Nat) (v : Value) : KeepF (fun g => g = x) w (w.setCell ⟨x, j, none⟩ v) :=
  ⟨rfl, rfl, rfl, by simp, fun k _ hk => set_farV hk⟩
theorem xor1_wt (v : V) : wts (v.list.map V.turned) = wts v.list := by
  have key : ∀ (v : V), v.turned.wt = v.wt := by
    refine V.ind (fun v ih => ?_)
    have hl : ∀ (l : List V), (∀ x ∈ l, x.turned.wt = x.wt) → wts (l.map V.turned) = wts l := by
      intro l
      induction l with
      | nil => intro _; rfl
      | cons a r ihl =>
        intro h
        rw [List.map_cons, wts, wts, h a (List.mem_cons_self ..), ihl (fun x hx => h x (List.mem_cons_of_mem _ hx))]
    rw [V.wt_eq, V.wt_eq, turned_list, hl v.list ih, V.turned_eq]
    rfl
  have hl : ∀ (l : List V), wts (l.map V.turned) = wts l := by
    intro l
    induction l with
    | nil => rfl
    | cons a r ihl => rw [List.map_cons, wts, wts, key a, ihl]
  exact hl v.list

set_option maxRecDepth 20000 in
set_option maxHeartbeats 4000000 in
theorem equals_walk (w : World) (hT : Tabs w) (a : V) (s : Value) (b : V) (t : Value) (ha : VIn w a s) (hb : VIn w b t) :
    Calls Tryd.prog 8 #[.agg #[.int .i64 a.kind, .int .u64 a.num, .string a.text, s, .int .i64 a.elem], .agg #[.int .i64 b.kind, .int .u64 b.num, .string b.text, t, .int .i64 b.elem]] w fun e w' => e = .returned (.bool true) ∧ Below w.heap.size w w' := by
  obtain ⟨pa, ca, hsa, hja⟩ := ha.slice
  clear hja
  obtain ⟨na, hna⟩ : ∃ n, a.list.length = n := ⟨_, rfl⟩
  rw [hna] at hsa
  subst hsa
  obtain ⟨pb, cb, hsb, hjb⟩ := hb.slice
  clear hjb
  obtain ⟨nb, hnb⟩ : ∃ n, b.list.length = n := ⟨_, rfl⟩
  rw [hnb] at hsb
  subst hsb
  have HV := Lib.hid (And.intro ha hb)
  have HT := Lib.hid hT
  clear ha hb hT
  have HNA := Lib.hid hna
  have HNB := Lib.hid hnb
  clear hna hnb
  go_enter Tryd.func8, Tryd.ntmps8
  go_upto_region 1 with fail
  have hb0 : Below w.heap.size w ((w.alloc (.cells #[.int .i64 a.kind, .int .u64 a.num, .string a.text, .slice pa na ca, .int .i64 a.elem] 25)).alloc (.cells #[.int .i64 b.kind, .int .u64 b.num, .string b.text, .slice pb nb cb, .int .i64 b.elem] 25)) := ((Below.refl _ _).alloc (Nat.le_refl _) _).alloc (by simp) _
  have o0 : ((w.alloc (.cells #[.int .i64 a.kind, .int .u64 a.num, .string a.text, .slice pa na ca, .int .i64 a.elem] 25)).alloc (.cells #[.int .i64 b.kind, .int .u64 b.num, .string b.text, .slice pb nb cb, .int .i64 b.elem] 25)).heap[w.heap.size]? = some (.cells #[.int .i64 a.kind, .int .u64 a.num, .string a.text, .slice pa na ca, .int .i64 a.elem] 25 (0, 0)) := (_root_.Go.heap_alloc_old _ _ (by simp; try omega)).trans (_root_.Go.heap_alloc_new w _)
  have o1 : ((w.alloc (.cells #[.int .i64 a.kind, .int .u64 a.num, .string a.text, .slice pa na ca, .int .i64 a.elem] 25)).alloc (.cells #[.int .i64 b.kind, .int .u64 b.num, .string b.text, .slice pb nb cb, .int .i64 b.elem] 25)).heap[w.heap.size + 1]? = some (.cells #[.int .i64 b.kind, .int .u64 b.num, .string b.text, .slice pb nb cb, .int .i64 b.elem] 25 (0, 0)) := (by have := _root_.Go.heap_alloc_new (w.alloc (.cells #[.int .i64 a.kind, .int .u64 a.num, .string a.text, .slice pa na ca, .int .i64 a.elem] 25)) (.cells #[.int .i64 b.kind, .int .u64 b.num, .string b.text, .slice pb nb cb, .int .i64 b.elem] 25); rwa [World.size_alloc] at this)
  generalize ((w.alloc (.cells #[.int .i64 a.kind, .int .u64 a.num, .string a.text, .slice pa na ca, .int .i64 a.elem] 25)).alloc (.cells #[.int .i64 b.kind, .int .u64 b.num, .string b.text, .slice pb nb cb, .int .i64 b.elem] 25)) = w0 at *
  obtain ⟨x0, hx0⟩ : ∃ x, w.heap.size = x := ⟨_, rfl⟩
  obtain ⟨x1, hx1⟩ : ∃ x, x0 + 1 = x := ⟨_, rfl⟩
  rw [hx0] at o0
  rw [hx0, hx1] at o1
  rw [hx0, hx1]
  have HX_x0 := Lib.hid hx0
  have HX_x1 := Lib.hid hx1
  have HZw := Lib.hid hb0.size
  have hlt0 := (Array.getElem?_eq_some_iff.1 o0).1
  have HLT0 := Lib.hid hlt0
  clear hlt0
  have hlt1 := (Array.getElem?_eq_some_iff.1 o1).1
  have HLT1 := Lib.hid hlt1
  clear hlt1
  have HM1 : Hid ((Below w.heap.size w w0) ∧ (w0.heap[x0]? = some (.cells #[.int .i64 a.kind, .int .u64 a.num, .string a.text, .slice pa na ca, .int .i64 a.elem] 25 (0, 0))) ∧ (w0.heap[x1]? = some (.cells #[.int .i64 b.kind, .int .u64 b.num, .string b.text, .slice pb nb cb, .int .i64 b.elem] 25 (0, 0)))) := Lib.hid ((And.intro hb0 (And.intro o0 o1)))
  clear hb0 o0 hx0 o1 hx1
  have hc := awake_any w0 (HT.out.below HM1.out.1)
  have HC1 := Lib.hid hc
  clear hc
  go_wp2_with fail
  refine HC1.out.mono ?_
  rintro e W1 ⟨rfl, hb⟩
  have hz1 : w0.heap.size ≤ W1.heap.size := hb.size
  have HZ1 := Lib.hid hz1
  clear hz1
  have HM2 : Hid ((Below w.heap.size w W1) ∧ (W1.heap[x0]? = some (.cells #[.int .i64 a.kind, .int .u64 a.num, .string a.text, .slice pa na ca, .int .i64 a.elem] 25 (0, 0))) ∧ (W1.heap[x1]? = some (.cells #[.int .i64 b.kind, .int .u64 b.num, .string b.text, .slice pb nb cb, .int .i64 b.elem] 25 (0, 0)))) := Lib.hid ((And.intro (HM1.out.1.trans (hb.mono HM1.out.1.size)) (And.intro ((hb.block _ (Array.getElem?_eq_some_iff.1 HM1.out.2.1).1).trans HM1.out.2.1) ((hb.block _ (Array.getElem?_eq_some_iff.1 HM1.out.2.2).1).trans HM1.out.2.2))))
  clear HM1
  clear hb
  have q := HM2.out.2.1
  have x0_0 : W1.cell? ⟨x0, 0, none⟩ = some (.int .i64 a.kind) := (cell_of_row _ _ 0 _ _ _ q).trans rfl
  have x0_1 : W1.cell? ⟨x0, 1, none⟩ = some (.int .u64 a.num) := (cell_of_row _ _ 1 _ _ _ q).trans rfl
  have x0_2 : W1.cell? ⟨x0, 2, none⟩ = some (.string a.text) := (cell_of_row _ _ 2 _ _ _ q).trans rfl
  have x0_3 : W1.cell? ⟨x0, 3, none⟩ = some (.slice pa na ca) := (cell_of_row _ _ 3 _ _ _ q).trans rfl
  have x0_4 : W1.cell? ⟨x0, 4, none⟩ = some (.int .i64 a.elem) := (cell_of_row _ _ 4 _ _ _ q).trans rfl
  clear q
  have q := HM2.out.2.2
  have x1_0 : W1.cell? ⟨x1, 0, none⟩ = some (.int .i64 b.kind) := (cell_of_row _ _ 0 _ _ _ q).trans rfl
  have x1_1 : W1.cell? ⟨x1, 1, none⟩ = some (.int .u64 b.num) := (cell_of_row _ _ 1 _ _ _ q).trans rfl
  have x1_2 : W1.cell? ⟨x1, 2, none⟩ = some (.string b.text) := (cell_of_row _ _ 2 _ _ _ q).trans rfl
  have x1_3 : W1.cell? ⟨x1, 3, none⟩ = some (.slice pb nb cb) := (cell_of_row _ _ 3 _ _ _ q).trans rfl
  have x1_4 : W1.cell? ⟨x1, 4, none⟩ = some (.int .i64 b.elem) := (cell_of_row _ _ 4 _ _ _ q).trans rfl
  clear q
  have hbr : Below W1.heap.size W1 (W1.alloc (.cells #[.int .i64 a.kind, .int .u64 a.num, .string a.text, .slice pa na ca, .int .i64 a.elem, .int .i64 b.kind, .int .u64 b.num, .string b.text, .slice pb nb cb, .int .i64 b.elem] 25)) := (Below.refl _ _).alloc (Nat.le_refl _) _
  have hrow : (W1.alloc (.cells #[.int .i64 a.kind, .int .u64 a.num, .string a.text, .slice pa na ca, .int .i64 a.elem, .int .i64 b.kind, .int .u64 b.num, .string b.text, .slice pb nb cb, .int .i64 b.elem] 25)).heap[W1.heap.size]? = some (.cells (vrow [a, b] (fun i => match i with | 0 => .slice pa na ca | _ => .slice pb nb cb)).toArray 25 (0, 0)) := _root_.Go.heap_alloc_new W1 _
  have hbl := HM2.out.1.trans (hbr.mono HM2.out.1.size)
  have hgr := greatAll_any (.mk 0 0 ⟨#[]⟩ [a, b] 0) _ _ (vin_row hrow (fun i hi => by
    match i, hi with
    | 0, _ => exact (HV.out.1).blw hbl
    | 1, _ => exact (HV.out.2).blw hbl) (by show 2 ≤ maxLen; unfold maxLen; omega))
  have HG : Hid (Calls Tryd.prog 21 #[.slice (some ⟨W1.heap.size, 0, none⟩) 2 2] (W1.alloc (.cells #[.int .i64 a.kind, .int .u64 a.num, .string a.text, .slice pa na ca, .int .i64 a.elem, .int .i64 b.kind, .int .u64 b.num, .string b.text, .slice pb nb cb, .int .i64 b.elem] 25)) _) := Lib.hid hgr
  have HBR := Lib.hid hbr
  clear hbr hrow hgr hbl
  go_wp2_with fail
  refine HG.out.mono ?_
  clear x0_0 x0_1 x0_2 x0_3 x0_4 x1_0 x1_1 x1_2 x1_3 x1_4
  obtain ⟨G, hG⟩ : ∃ G, decide (100000 < wts (V.mk 0 0 ⟨#[]⟩ [a, b] 0).list) = G := ⟨_, rfl⟩
  rw [hG]
  have HGD := Lib.hid hG
  rintro e W2 ⟨rfl, hb2⟩
  have hb : Below W1.heap.size W1 W2 := HBR.out.trans (hb2.mono HBR.out.size)
  clear hb2 hG
  have hz2 : W1.heap.size ≤ W2.heap.size := hb.size
  have HZ2 := Lib.hid hz2
  clear hz2
  have HM3 : Hid ((Below w.heap.size w W2) ∧ (W2.heap[x0]? = some (.cells #[.int .i64 a.kind, .int .u64 a.num, .string a.text, .slice pa na ca, .int .i64 a.elem] 25 (0, 0))) ∧ (W2.heap[x1]? = some (.cells #[.int .i64 b.kind, .int .u64 b.num, .string b.text, .slice pb nb cb, .int .i64 b.elem] 25 (0, 0)))) := Lib.hid ((And.intro (HM2.out.1.trans (hb.mono HM2.out.1.size)) (And.intro ((hb.block _ (Array.getElem?_eq_some_iff.1 HM2.out.2.1).1).trans HM2.out.2.1) ((hb.block _ (Array.getElem?_eq_some_iff.1 HM2.out.2.2).1).trans HM2.out.2.2))))
  clear HM2
  clear hb
  cases G
  rotate_left
  · go_wp2_with fail
    go_ret
    exact ⟨rfl, HM3.out.1⟩
  have HWT := Lib.hid (show wts [a, b] ≤ 100000 from by have h1 := of_decide_eq_false HGD.out; have h2 : ¬ 100000 < wts [a, b] := h1; omega)
  have HW := Lib.hid (show a.wt ≤ 100000 ∧ b.wt ≤ 100000 from by have h := HWT.out; simp only [wts] at h; omega)
  have HWF : Hid (V.Wf (V.mk b.kind (xor1 b.num) b.text (b.list.map V.turned) b.elem)) := Lib.hid (by have h := (HV.out.2).wf.turned; rwa [V.turned_eq] at h)
  have HWTT : Hid (V.wt (V.mk b.kind (xor1 b.num) b.text (b.list.map V.turned) b.elem) ≤ 1000000) := Lib.hid (by have h := HW.out.2; have h2 := b.wt_eq; rw [V.wt_eq]; show 1 + b.text.size / 64 + wts (b.list.map V.turned) ≤ 1000000; rw [xor1_wt]; omega)
  obtain ⟨D1, hD1⟩ : ∃ D, decide (a = b) = D := ⟨_, rfl⟩
  have HD1 := Lib.hid hD1
  have HD1' := Lib.hid (show decide (b = a) = D1 from by rw [← hD1, decide_eq_decide]; exact eq_comm)
  clear hD1
  obtain ⟨D2, hD2⟩ : ∃ D, decide (a = (V.mk b.kind (xor1 b.num) b.text (b.list.map V.turned) b.elem)) = D := ⟨_, rfl⟩
  have HD2 := Lib.hid hD2
  clear hD2
  have hc := lent_on a W2 _ (HV.out.1.blw HM3.out.1) (by have := HW.out.1; omega)
  have HC3 := Lib.hid hc
  clear hc
  have q := HM3.out.2.1
  have x0_0 : W2.cell? ⟨x0, 0, none⟩ = some (.int .i64 a.kind) := (cell_of_row _ _ 0 _ _ _ q).trans rfl
  have x0_1 : W2.cell? ⟨x0, 1, none⟩ = some (.int .u64 a.num) := (cell_of_row _ _ 1 _ _ _ q).trans rfl
  have x0_2 : W2.cell? ⟨x0, 2, none⟩ = some (.string a.text) := (cell_of_row _ _ 2 _ _ _ q).trans rfl
  have x0_3 : W2.cell? ⟨x0, 3, none⟩ = some (.slice pa na ca) := (cell_of_row _ _ 3 _ _ _ q).trans rfl
  have x0_4 : W2.cell? ⟨x0, 4, none⟩ = some (.int .i64 a.elem) := (cell_of_row _ _ 4 _ _ _ q).trans rfl
  clear q
  go_wp2_with fail
  refine HC3.out.mono ?_
  clear x0_0 x0_1 x0_2 x0_3 x0_4
  rintro e W3 ⟨t_x7, F7, rfl, hvl, hb⟩
  obtain ⟨g_x7, hs, hj1, hj2⟩ := hvl.slice
  clear hj1 hj2
  rw [HNA.out] at hs
  subst hs
  have HIN_F7 : Hid (∀ g, F7 g → W2.heap.size ≤ g ∧ g < W3.heap.size) := Lib.hid (hvl.lt)
  have hz3 : W2.heap.size ≤ W3.heap.size := hb.size
  have HZ3 := Lib.hid hz3
  clear hz3
  have HM4 : Hid ((Below w.heap.size w W3) ∧ (W3.heap[x0]? = some (.cells #[.int .i64 a.kind, .int .u64 a.num, .string a.text, .slice pa na ca, .int .i64 a.elem] 25 (0, 0))) ∧ (W3.heap[x1]? = some (.cells #[.int .i64 b.kind, .int .u64 b.num, .string b.text, .slice pb nb cb, .int .i64 b.elem] 25 (0, 0))) ∧ (VL W3 W2.heap.size a (.slice (some ⟨g_x7, 0, none⟩) na (na + 3)) F7)) := Lib.hid ((And.intro (HM3.out.1.trans (hb.mono HM3.out.1.size)) (And.intro ((hb.block _ (Array.getElem?_eq_some_iff.1 HM3.out.2.1).1).trans HM3.out.2.1) (And.intro ((hb.block _ (Array.getElem?_eq_some_iff.1 HM3.out.2.2).1).trans HM3.out.2.2) hvl))))
  clear HM3
  clear hb hvl
  go_upto_region 8 with (refine wpList_store_rowTo rfl 25 (.tmp 7) (.tmp 28) rfl rfl W3.heap.size #[.int .i64 a.kind, .int .u64 a.num, .string a.text, .slice (some ⟨g_x7, 0, none⟩) na (na + 3), .int .i64 a.elem] rfl rfl 25 #[.int .i64 0, .int .u64 0, .string ⟨#[]⟩, .slice none 0 0, .int .i64 0] (_root_.Go.heap_alloc_new W3 _) (by as_aux_lemma => kernel_rfl) (by as_aux_lemma => kernel_rfl) (by simp [Value.oneCell']) ?_)
  have hb_W4 : Below W3.heap.size W3 ((W3.alloc (.cells #[.int .i64 0, .int .u64 0, .string ⟨#[]⟩, .slice none 0 0, .int .i64 0] 25)).setRow W3.heap.size #[.int .i64 a.kind, .int .u64 a.num, .string a.text, .slice (some ⟨g_x7, 0, none⟩) na (na + 3), .int .i64 a.elem]) := below_setRow ((Below.refl _ _).alloc (Nat.le_refl _) _) (Nat.le_refl _) _
  have ox7 := setRow_heap (W3.alloc (.cells #[.int .i64 0, .int .u64 0, .string ⟨#[]⟩, .slice none 0 0, .int .i64 0] 25)) W3.heap.size _ #[.int .i64 a.kind, .int .u64 a.num, .string a.text, .slice (some ⟨g_x7, 0, none⟩) na (na + 3), .int .i64 a.elem] _ _ (_root_.Go.heap_alloc_new W3 _)
  change Code.wp _ _ _ _ ((W3.alloc (.cells #[.int .i64 0, .int .u64 0, .string ⟨#[]⟩, .slice none 0 0, .int .i64 0] 25)).setRow W3.heap.size #[.int .i64 a.kind, .int .u64 a.num, .string a.text, .slice (some ⟨g_x7, 0, none⟩) na (na + 3), .int .i64 a.elem])
  generalize ((W3.alloc (.cells #[.int .i64 0, .int .u64 0, .string ⟨#[]⟩, .slice none 0 0, .int .i64 0] 25)).setRow W3.heap.size #[.int .i64 a.kind, .int .u64 a.num, .string a.text, .slice (some ⟨g_x7, 0, none⟩) na (na + 3), .int .i64 a.elem]) = W4 at *
  obtain ⟨x7, hx_x7⟩ : ∃ x, W3.heap.size = x := ⟨_, rfl⟩
  rw [hx_x7] at ox7 ⊢
  have HX_x7 := Lib.hid hx_x7
  clear hx_x7
  have hlt := (Array.getElem?_eq_some_iff.1 ox7).1
  have HLT_x7 := Lib.hid hlt
  clear hlt
  have hz4 : W3.heap.size ≤ W4.heap.size := hb_W4.size
  have HZ4 := Lib.hid hz4
  clear hz4
  have HM5 : Hid ((Below w.heap.size w W4) ∧ (W4.heap[x0]? = some (.cells #[.int .i64 a.kind, .int .u64 a.num, .string a.text, .slice pa na ca, .int .i64 a.elem] 25 (0, 0))) ∧ (W4.heap[x1]? = some (.cells #[.int .i64 b.kind, .int .u64 b.num, .string b.text, .slice pb nb cb, .int .i64 b.elem] 25 (0, 0))) ∧ (VL W4 W2.heap.size a (.slice (some ⟨g_x7, 0, none⟩) na (na + 3)) F7) ∧ (W4.heap[x7]? = some (.cells #[.int .i64 a.kind, .int .u64 a.num, .string a.text, .slice (some ⟨g_x7, 0, none⟩) na (na + 3), .int .i64 a.elem] 25 (0, 0)))) := Lib.hid ((And.intro (HM4.out.1.trans (hb_W4.mono HM4.out.1.size)) (And.intro ((hb_W4.block _ (Array.getElem?_eq_some_iff.1 HM4.out.2.1).1).trans HM4.out.2.1) (And.intro ((hb_W4.block _ (Array.getElem?_eq_some_iff.1 HM4.out.2.2.1).1).trans HM4.out.2.2.1) (And.intro (HM4.out.2.2.2.blw hb_W4) ox7)))))
  clear HM4
  clear hb_W4 ox7
  have hc := lent_on b W4 _ (HV.out.2.blw HM5.out.1) (by have := HW.out.2; omega)
  have HC5 := Lib.hid hc
  clear hc
  have q := HM5.out.2.2.1
  have x1_0 : W4.cell? ⟨x1, 0, none⟩ = some (.int .i64 b.kind) := (cell_of_row _ _ 0 _ _ _ q).trans rfl
  have x1_1 : W4.cell? ⟨x1, 1, none⟩ = some (.int .u64 b.num) := (cell_of_row _ _ 1 _ _ _ q).trans rfl
  have x1_2 : W4.cell? ⟨x1, 2, none⟩ = some (.string b.text) := (cell_of_row _ _ 2 _ _ _ q).trans rfl
  have x1_3 : W4.cell? ⟨x1, 3, none⟩ = some (.slice pb nb cb) := (cell_of_row _ _ 3 _ _ _ q).trans rfl
  have x1_4 : W4.cell? ⟨x1, 4, none⟩ = some (.int .i64 b.elem) := (cell_of_row _ _ 4 _ _ _ q).trans rfl
  clear q
  go_wp2_with fail
  refine HC5.out.mono ?_
  clear x1_0 x1_1 x1_2 x1_3 x1_4
  rintro e W5 ⟨t_x8, F8, rfl, hvl, hb⟩
  obtain ⟨g_x8, hs, hj1, hj2⟩ := hvl.slice
  clear hj1 hj2
  rw [HNB.out] at hs
  subst hs
  have HIN_F8 : Hid (∀ g, F8 g → W4.heap.size ≤ g ∧ g < W5.heap.size) := Lib.hid (hvl.lt)
  have hz5 : W4.heap.size ≤ W5.heap.size := hb.size
  have HZ5 := Lib.hid hz5
  clear hz5
  have HM6 : Hid ((Below w.heap.size w W5) ∧ (W5.heap[x0]? = some (.cells #[.int .i64 a.kind, .int .u64 a.num, .string a.text, .slice pa na ca, .int .i64 a.elem] 25 (0, 0))) ∧ (W5.heap[x1]? = some (.cells #[.int .i64 b.kind, .int .u64 b.num, .string b.text, .slice pb nb cb, .int .i64 b.elem] 25 (0, 0))) ∧ (VL W5 W2.heap.size a (.slice (some ⟨g_x7, 0, none⟩) na (na + 3)) F7) ∧ (W5.heap[x7]? = some (.cells #[.int .i64 a.kind, .int .u64 a.num, .string a.text, .slice (some ⟨g_x7, 0, none⟩) na (na + 3), .int .i64 a.elem] 25 (0, 0))) ∧ (VL W5 W4.heap.size b (.slice (some ⟨g_x8, 0, none⟩) nb (nb + 3)) F8)) := Lib.hid ((And.intro (HM5.out.1.trans (hb.mono HM5.out.1.size)) (And.intro ((hb.block _ (Array.getElem?_eq_some_iff.1 HM5.out.2.1).1).trans HM5.out.2.1) (And.intro ((hb.block _ (Array.getElem?_eq_some_iff.1 HM5.out.2.2.1).1).trans HM5.out.2.2.1) (And.intro (HM5.out.2.2.2.1.blw hb) (And.intro ((hb.block _ (Array.getElem?_eq_some_iff.1 HM5.out.2.2.2.2).1).trans HM5.out.2.2.2.2) hvl))))))
  clear HM5
  clear hb hvl
  go_upto_region 9 with (refine wpList_store_rowTo rfl 25 (.tmp 8) (.tmp 30) rfl rfl W5.heap.size #[.int .i64 b.kind, .int .u64 b.num, .string b.text, .slice (some ⟨g_x8, 0, none⟩) nb (nb + 3), .int .i64 b.elem] rfl rfl 25 #[.int .i64 0, .int .u64 0, .string ⟨#[]⟩, .slice none 0 0, .int .i64 0] (_root_.Go.heap_alloc_new W5 _) (by as_aux_lemma => kernel_rfl) (by as_aux_lemma => kernel_rfl) (by simp [Value.oneCell']) ?_)
  have hb_W6 : Below W5.heap.size W5 ((W5.alloc (.cells #[.int .i64 0, .int .u64 0, .string ⟨#[]⟩, .slice none 0 0, .int .i64 0] 25)).setRow W5.heap.size #[.int .i64 b.kind, .int .u64 b.num, .string b.text, .slice (some ⟨g_x8, 0, none⟩) nb (nb + 3), .int .i64 b.elem]) := below_setRow ((Below.refl _ _).alloc (Nat.le_refl _) _) (Nat.le_refl _) _
  have ox8 := setRow_heap (W5.alloc (.cells #[.int .i64 0, .int .u64 0, .string ⟨#[]⟩, .slice none 0 0, .int .i64 0] 25)) W5.heap.size _ #[.int .i64 b.kind, .int .u64 b.num, .string b.text, .slice (some ⟨g_x8, 0, none⟩) nb (nb + 3), .int .i64 b.elem] _ _ (_root_.Go.heap_alloc_new W5 _)
  change Code.wp _ _ _ _ ((W5.alloc (.cells #[.int .i64 0, .int .u64 0, .string ⟨#[]⟩, .slice none 0 0, .int .i64 0] 25)).setRow W5.heap.size #[.int .i64 b.kind, .int .u64 b.num, .string b.text, .slice (some ⟨g_x8, 0, none⟩) nb (nb + 3), .int .i64 b.elem])
  generalize ((W5.alloc (.cells #[.int .i64 0, .int .u64 0, .string ⟨#[]⟩, .slice none 0 0, .int .i64 0] 25)).setRow W5.heap.size #[.int .i64 b.kind, .int .u64 b.num, .string b.text, .slice (some ⟨g_x8, 0, none⟩) nb (nb + 3), .int .i64 b.elem]) = W6 at *
  obtain ⟨x8, hx_x8⟩ : ∃ x, W5.heap.size = x := ⟨_, rfl⟩
  rw [hx_x8] at ox8 ⊢
  have HX_x8 := Lib.hid hx_x8
  clear hx_x8
  have hlt := (Array.getElem?_eq_some_iff.1 ox8).1
  have HLT_x8 := Lib.hid hlt
  clear hlt
  have hz6 : W5.heap.size ≤ W6.heap.size := hb_W6.size
  have HZ6 := Lib.hid hz6
  clear hz6
  have HM7 : Hid ((Below w.heap.size w W6) ∧ (W6.heap[x0]? = some (.cells #[.int .i64 a.kind, .int .u64 a.num, .string a.text, .slice pa na ca, .int .i64 a.elem] 25 (0, 0))) ∧ (W6.heap[x1]? = some (.cells #[.int .i64 b.kind, .int .u64 b.num, .string b.text, .slice pb nb cb, .int .i64 b.elem] 25 (0, 0))) ∧ (VL W6 W2.heap.size a (.slice (some ⟨g_x7, 0, none⟩) na (na + 3)) F7) ∧ (W6.heap[x7]? = some (.cells #[.int .i64 a.kind, .int .u64 a.num, .string a.text, .slice (some ⟨g_x7, 0, none⟩) na (na + 3), .int .i64 a.elem] 25 (0, 0))) ∧ (VL W6 W4.heap.size b (.slice (some ⟨g_x8, 0, none⟩) nb (nb + 3)) F8) ∧ (W6.heap[x8]? = some (.cells #[.int .i64 b.kind, .int .u64 b.num, .string b.text, .slice (some ⟨g_x8, 0, none⟩) nb (nb + 3), .int .i64 b.elem] 25 (0, 0)))) := Lib.hid ((And.intro (HM6.out.1.trans (hb_W6.mono HM6.out.1.size)) (And.intro ((hb_W6.block _ (Array.getElem?_eq_some_iff.1 HM6.out.2.1).1).trans HM6.out.2.1) (And.intro ((hb_W6.block _ (Array.getElem?_eq_some_iff.1 HM6.out.2.2.1).1).trans HM6.out.2.2.1) (And.intro (HM6.out.2.2.2.1.blw hb_W6) (And.intro ((hb_W6.block _ (Array.getElem?_eq_some_iff.1 HM6.out.2.2.2.2.1).1).trans HM6.out.2.2.2.2.1) (And.intro (HM6.out.2.2.2.2.2.blw hb_W6) ox8)))))))
  clear HM6
  clear hb_W6 ox8
  have hc := equal_on a W6 _ b _ HM7.out.2.2.2.1.vin HM7.out.2.2.2.2.2.1.vin
  rw [HD1.out] at hc
  have HC7 := Lib.hid hc
  clear hc
  have q := HM7.out.2.2.2.2.1
  have x7_0 : W6.cell? ⟨x7, 0, none⟩ = some (.int .i64 a.kind) := (cell_of_row _ _ 0 _ _ _ q).trans rfl
  have x7_1 : W6.cell? ⟨x7, 1, none⟩ = some (.int .u64 a.num) := (cell_of_row _ _ 1 _ _ _ q).trans rfl
  have x7_2 : W6.cell? ⟨x7, 2, none⟩ = some (.string a.text) := (cell_of_row _ _ 2 _ _ _ q).trans rfl
  have x7_3 : W6.cell? ⟨x7, 3, none⟩ = some (.slice (some ⟨g_x7, 0, none⟩) na (na + 3)) := (cell_of_row _ _ 3 _ _ _ q).trans rfl
  have x7_4 : W6.cell? ⟨x7, 4, none⟩ = some (.int .i64 a.elem) := (cell_of_row _ _ 4 _ _ _ q).trans rfl
  clear q
  have q := HM7.out.2.2.2.2.2.2
  have x8_0 : W6.cell? ⟨x8, 0, none⟩ = some (.int .i64 b.kind) := (cell_of_row _ _ 0 _ _ _ q).trans rfl
  have x8_1 : W6.cell? ⟨x8, 1, none⟩ = some (.int .u64 b.num) := (cell_of_row _ _ 1 _ _ _ q).trans rfl
  have x8_2 : W6.cell? ⟨x8, 2, none⟩ = some (.string b.text) := (cell_of_row _ _ 2 _ _ _ q).trans rfl
  have x8_3 : W6.cell? ⟨x8, 3, none⟩ = some (.slice (some ⟨g_x8, 0, none⟩) nb (nb + 3)) := (cell_of_row _ _ 3 _ _ _ q).trans rfl
  have x8_4 : W6.cell? ⟨x8, 4, none⟩ = some (.int .i64 b.elem) := (cell_of_row _ _ 4 _ _ _ q).trans rfl
  clear q
  go_wp2_with fail
  refine HC7.out.mono ?_
  clear x7_0 x7_1 x7_2 x7_3 x7_4 x8_0 x8_1 x8_2 x8_3 x8_4
  rintro e W7 ⟨rfl, hb⟩
  have hz7 : W6.heap.size ≤ W7.heap.size := hb.size
  have HZ7 := Lib.hid hz7
  clear hz7
  have HM8 : Hid ((Below w.heap.size w W7) ∧ (W7.heap[x0]? = some (.cells #[.int .i64 a.kind, .int .u64 a.num, .string a.text, .slice pa na ca, .int .i64 a.elem] 25 (0, 0))) ∧ (W7.heap[x1]? = some (.cells #[.int .i64 b.kind, .int .u64 b.num, .string b.text, .slice pb nb cb, .int .i64 b.elem] 25 (0, 0))) ∧ (VL W7 W2.heap.size a (.slice (some ⟨g_x7, 0, none⟩) na (na + 3)) F7) ∧ (W7.heap[x7]? = some (.cells #[.int .i64 a.kind, .int .u64 a.num, .string a.text, .slice (some ⟨g_x7, 0, none⟩) na (na + 3), .int .i64 a.elem] 25 (0, 0))) ∧ (VL W7 W4.heap.size b (.slice (some ⟨g_x8, 0, none⟩) nb (nb + 3)) F8) ∧ (W7.heap[x8]? = some (.cells #[.int .i64 b.kind, .int .u64 b.num, .string b.text, .slice (some ⟨g_x8, 0, none⟩) nb (nb + 3), .int .i64 b.elem] 25 (0, 0)))) := Lib.hid ((And.intro (HM7.out.1.trans (hb.mono HM7.out.1.size)) (And.intro ((hb.block _ (Array.getElem?_eq_some_iff.1 HM7.out.2.1).1).trans HM7.out.2.1) (And.intro ((hb.block _ (Array.getElem?_eq_some_iff.1 HM7.out.2.2.1).1).trans HM7.out.2.2.1) (And.intro (HM7.out.2.2.2.1.blw hb) (And.intro ((hb.block _ (Array.getElem?_eq_some_iff.1 HM7.out.2.2.2.2.1).1).trans HM7.out.2.2.2.2.1) (And.intro (HM7.out.2.2.2.2.2.1.blw hb) ((hb.block _ (Array.getElem?_eq_some_iff.1 HM7.out.2.2.2.2.2.2).1).trans HM7.out.2.2.2.2.2.2))))))))
  clear HM7
  clear hb
  have hc := equal_on b W7 _ a _ HM8.out.2.2.2.2.2.1.vin HM8.out.2.2.2.1.vin
  rw [HD1'.out] at hc
  have HC8 := Lib.hid hc
  clear hc
  have q := HM8.out.2.2.2.2.1
  have x7_0 : W7.cell? ⟨x7, 0, none⟩ = some (.int .i64 a.kind) := (cell_of_row _ _ 0 _ _ _ q).trans rfl
  have x7_1 : W7.cell? ⟨x7, 1, none⟩ = some (.int .u64 a.num) := (cell_of_row _ _ 1 _ _ _ q).trans rfl
  have x7_2 : W7.cell? ⟨x7, 2, none⟩ = some (.string a.text) := (cell_of_row _ _ 2 _ _ _ q).trans rfl
  have x7_3 : W7.cell? ⟨x7, 3, none⟩ = some (.slice (some ⟨g_x7, 0, none⟩) na (na + 3)) := (cell_of_row _ _ 3 _ _ _ q).trans rfl
  have x7_4 : W7.cell? ⟨x7, 4, none⟩ = some (.int .i64 a.elem) := (cell_of_row _ _ 4 _ _ _ q).trans rfl
  clear q
  have q := HM8.out.2.2.2.2.2.2
  have x8_0 : W7.cell? ⟨x8, 0, none⟩ = some (.int .i64 b.kind) := (cell_of_row _ _ 0 _ _ _ q).trans rfl
  have x8_1 : W7.cell? ⟨x8, 1, none⟩ = some (.int .u64 b.num) := (cell_of_row _ _ 1 _ _ _ q).trans rfl
  have x8_2 : W7.cell? ⟨x8, 2, none⟩ = some (.string b.text) := (cell_of_row _ _ 2 _ _ _ q).trans rfl
  have x8_3 : W7.cell? ⟨x8, 3, none⟩ = some (.slice (some ⟨g_x8, 0, none⟩) nb (nb + 3)) := (cell_of_row _ _ 3 _ _ _ q).trans rfl
  have x8_4 : W7.cell? ⟨x8, 4, none⟩ = some (.int .i64 b.elem) := (cell_of_row _ _ 4 _ _ _ q).trans rfl
  clear q
  go_wp2_with fail
  refine HC8.out.mono ?_
  clear x7_0 x7_1 x7_2 x7_3 x7_4 x8_0 x8_1 x8_2 x8_3 x8_4
  rintro e W8 ⟨rfl, hb⟩
  have hz8 : W7.heap.size ≤ W8.heap.size := hb.size
  have HZ8 := Lib.hid hz8
  clear hz8
  have HM9 : Hid ((Below w.heap.size w W8) ∧ (W8.heap[x0]? = some (.cells #[.int .i64 a.kind, .int .u64 a.num, .string a.text, .slice pa na ca, .int .i64 a.elem] 25 (0, 0))) ∧ (W8.heap[x1]? = some (.cells #[.int .i64 b.kind, .int .u64 b.num, .string b.text, .slice pb nb cb, .int .i64 b.elem] 25 (0, 0))) ∧ (VL W8 W2.heap.size a (.slice (some ⟨g_x7, 0, none⟩) na (na + 3)) F7) ∧ (W8.heap[x7]? = some (.cells #[.int .i64 a.kind, .int .u64 a.num, .string a.text, .slice (some ⟨g_x7, 0, none⟩) na (na + 3), .int .i64 a.elem] 25 (0, 0))) ∧ (VL W8 W4.heap.size b (.slice (some ⟨g_x8, 0, none⟩) nb (nb + 3)) F8) ∧ (W8.heap[x8]? = some (.cells #[.int .i64 b.kind, .int .u64 b.num, .string b.text, .slice (some ⟨g_x8, 0, none⟩) nb (nb + 3), .int .i64 b.elem] 25 (0, 0)))) := Lib.hid ((And.intro (HM8.out.1.trans (hb.mono HM8.out.1.size)) (And.intro ((hb.block _ (Array.getElem?_eq_some_iff.1 HM8.out.2.1).1).trans HM8.out.2.1) (And.intro ((hb.block _ (Array.getElem?_eq_some_iff.1 HM8.out.2.2.1).1).trans HM8.out.2.2.1) (And.intro (HM8.out.2.2.2.1.blw hb) (And.intro ((hb.block _ (Array.getElem?_eq_some_iff.1 HM8.out.2.2.2.2.1).1).trans HM8.out.2.2.2.2.1) (And.intro (HM8.out.2.2.2.2.2.1.blw hb) ((hb.block _ (Array.getElem?_eq_some_iff.1 HM8.out.2.2.2.2.2.2).1).trans HM8.out.2.2.2.2.2.2))))))))
  clear HM8
  clear hb
  have hc := equal_on a W8 _ a _ HM9.out.2.2.2.1.vin HM9.out.2.2.2.1.vin
  rw [decide_eq_true rfl] at hc
  have HC9 := Lib.hid hc
  clear hc
  have q := HM9.out.2.2.2.2.1
  have x7_0 : W8.cell? ⟨x7, 0, none⟩ = some (.int .i64 a.kind) := (cell_of_row _ _ 0 _ _ _ q).trans rfl
  have x7_1 : W8.cell? ⟨x7, 1, none⟩ = some (.int .u64 a.num) := (cell_of_row _ _ 1 _ _ _ q).trans rfl
  have x7_2 : W8.cell? ⟨x7, 2, none⟩ = some (.string a.text) := (cell_of_row _ _ 2 _ _ _ q).trans rfl
  have x7_3 : W8.cell? ⟨x7, 3, none⟩ = some (.slice (some ⟨g_x7, 0, none⟩) na (na + 3)) := (cell_of_row _ _ 3 _ _ _ q).trans rfl
  have x7_4 : W8.cell? ⟨x7, 4, none⟩ = some (.int .i64 a.elem) := (cell_of_row _ _ 4 _ _ _ q).trans rfl
  clear q
  go_wp2_with fail
  refine HC9.out.mono ?_
  clear x7_0 x7_1 x7_2 x7_3 x7_4
  rintro e W9 ⟨rfl, hb⟩
  have hz9 : W8.heap.size ≤ W9.heap.size := hb.size
  have HZ9 := Lib.hid hz9
  clear hz9
  have HM10 : Hid ((Below w.heap.size w W9) ∧ (W9.heap[x0]? = some (.cells #[.int .i64 a.kind, .int .u64 a.num, .string a.text, .slice pa na ca, .int .i64 a.elem] 25 (0, 0))) ∧ (W9.heap[x1]? = some (.cells #[.int .i64 b.kind, .int .u64 b.num, .string b.text, .slice pb nb cb, .int .i64 b.elem] 25 (0, 0))) ∧ (VL W9 W2.heap.size a (.slice (some ⟨g_x7, 0, none⟩) na (na + 3)) F7) ∧ (W9.heap[x7]? = some (.cells #[.int .i64 a.kind, .int .u64 a.num, .string a.text, .slice (some ⟨g_x7, 0, none⟩) na (na + 3), .int .i64 a.elem] 25 (0, 0))) ∧ (VL W9 W4.heap.size b (.slice (some ⟨g_x8, 0, none⟩) nb (nb + 3)) F8) ∧ (W9.heap[x8]? = some (.cells #[.int .i64 b.kind, .int .u64 b.num, .string b.text, .slice (some ⟨g_x8, 0, none⟩) nb (nb + 3), .int .i64 b.elem] 25 (0, 0)))) := Lib.hid ((And.intro (HM9.out.1.trans (hb.mono HM9.out.1.size)) (And.intro ((hb.block _ (Array.getElem?_eq_some_iff.1 HM9.out.2.1).1).trans HM9.out.2.1) (And.intro ((hb.block _ (Array.getElem?_eq_some_iff.1 HM9.out.2.2.1).1).trans HM9.out.2.2.1) (And.intro (HM9.out.2.2.2.1.blw hb) (And.intro ((hb.block _ (Array.getElem?_eq_some_iff.1 HM9.out.2.2.2.2.1).1).trans HM9.out.2.2.2.2.1) (And.intro (HM9.out.2.2.2.2.2.1.blw hb) ((hb.block _ (Array.getElem?_eq_some_iff.1 HM9.out.2.2.2.2.2.2).1).trans HM9.out.2.2.2.2.2.2))))))))
  clear HM9
  clear hb
  go_upto_region 12 with fail
  have HX : Hid (∀ W', Below W9.heap.size W9 W' → W'.cell? ⟨x7, 0, none⟩ = some (.int .i64 a.kind) ∧ W'.cell? ⟨x7, 1, none⟩ = some (.int .u64 a.num) ∧ W'.cell? ⟨x7, 2, none⟩ = some (.string a.text) ∧ W'.cell? ⟨x7, 3, none⟩ = some (.slice (some ⟨g_x7, 0, none⟩) na (na + 3)) ∧ W'.cell? ⟨x7, 4, none⟩ = some (.int .i64 a.elem) ∧ W'.cell? ⟨x0, 0, none⟩ = some (.int .i64 a.kind) ∧ W'.cell? ⟨x0, 1, none⟩ = some (.int .u64 a.num) ∧ W'.cell? ⟨x0, 2, none⟩ = some (.string a.text) ∧ W'.cell? ⟨x0, 3, none⟩ = some (.slice pa na ca) ∧ W'.cell? ⟨x0, 4, none⟩ = some (.int .i64 a.elem)) := Lib.hid (fun W' hB => by
    have q0 := (hB.block x7 (Array.getElem?_eq_some_iff.1 HM10.out.2.2.2.2.1).1).trans HM10.out.2.2.2.2.1
    have q1 := (hB.block x0 (Array.getElem?_eq_some_iff.1 HM10.out.2.1).1).trans HM10.out.2.1
    exact ⟨(cell_of_row _ _ 0 _ _ _ q0).trans rfl, (cell_of_row _ _ 1 _ _ _ q0).trans rfl, (cell_of_row _ _ 2 _ _ _ q0).trans rfl, (cell_of_row _ _ 3 _ _ _ q0).trans rfl, (cell_of_row _ _ 4 _ _ _ q0).trans rfl, (cell_of_row _ _ 0 _ _ _ q1).trans rfl, (cell_of_row _ _ 1 _ _ _ q1).trans rfl, (cell_of_row _ _ 2 _ _ _ q1).trans rfl, (cell_of_row _ _ 3 _ _ _ q1).trans rfl, (cell_of_row _ _ 4 _ _ _ q1).trans rfl⟩)
  have HVV : Hid (∀ W', Below W9.heap.size W9 W' → VIn W' a (.slice (some ⟨g_x7, 0, none⟩) na (na + 3)) ∧ VIn W' a (.slice pa na ca)) := Lib.hid (fun W' hB => ⟨(HM10.out.2.2.2.1.blw hB).vin, (HV.out.1.blw HM10.out.1).blw hB⟩)
  have hdr : Below W9.heap.size W9 W9.drew := ⟨rfl, rfl, rfl, Nat.le_refl _, fun _ _ => rfl⟩
  have hcp := rcopied_on a W9.drew _ (HVV.out _ hdr).2 (by have := HW.out.1; omega)
  have HCP := Lib.hid hcp
  clear hcp
  go_region_held3 (fun w' => w'.cell? ⟨x7, 0, none⟩ = some (.int .i64 a.kind) ∧ w'.cell? ⟨x7, 1, none⟩ = some (.int .u64 a.num) ∧ w'.cell? ⟨x7, 2, none⟩ = some (.string a.text) ∧ w'.cell? ⟨x7, 3, none⟩ = some (.slice (some ⟨g_x7, 0, none⟩) na (na + 3)) ∧ w'.cell? ⟨x7, 4, none⟩ = some (.int .i64 a.elem) ∧ w'.cell? ⟨x0, 0, none⟩ = some (.int .i64 a.kind) ∧ w'.cell? ⟨x0, 1, none⟩ = some (.int .u64 a.num) ∧ w'.cell? ⟨x0, 2, none⟩ = some (.string a.text) ∧ w'.cell? ⟨x0, 3, none⟩ = some (.slice pa na ca) ∧ w'.cell? ⟨x0, 4, none⟩ = some (.int .i64 a.elem)) (first | exact HX.out _ hdr | exact HX.out _ (by assumption))
    (first
      | (go_at_call 37; refine HCP.out.mono ?_; rintro e wc ⟨tc, FC, rfl, hvc, hbc⟩; have hwc : Below W9.heap.size W9 wc := hdr.trans (hbc.mono hdr.size); have hvc := hvc.vin)
      | (go_at_call 36; refine (equal_on a _ _ a _ (HVV.out _ hwc).1 hvc).mono ?_; rw [decide_eq_true rfl]; rintro e we ⟨rfl, hbe⟩; have hwe : Below W9.heap.size W9 we := hwc.trans (hbe.mono hwc.size)))
  have hz10 : W9.heap.size ≤ we.heap.size := hwe.size
  have HZ10 := Lib.hid hz10
  clear hz10
  have HM11 : Hid ((Below w.heap.size w we) ∧ (we.heap[x0]? = some (.cells #[.int .i64 a.kind, .int .u64 a.num, .string a.text, .slice pa na ca, .int .i64 a.elem] 25 (0, 0))) ∧ (we.heap[x1]? = some (.cells #[.int .i64 b.kind, .int .u64 b.num, .string b.text, .slice pb nb cb, .int .i64 b.elem] 25 (0, 0))) ∧ (VL we W2.heap.size a (.slice (some ⟨g_x7, 0, none⟩) na (na + 3)) F7) ∧ (we.heap[x7]? = some (.cells #[.int .i64 a.kind, .int .u64 a.num, .string a.text, .slice (some ⟨g_x7, 0, none⟩) na (na + 3), .int .i64 a.elem] 25 (0, 0))) ∧ (VL we W4.heap.size b (.slice (some ⟨g_x8, 0, none⟩) nb (nb + 3)) F8) ∧ (we.heap[x8]? = some (.cells #[.int .i64 b.kind, .int .u64 b.num, .string b.text, .slice (some ⟨g_x8, 0, none⟩) nb (nb + 3), .int .i64 b.elem] 25 (0, 0)))) := Lib.hid ((And.intro (HM10.out.1.trans (hwe.mono HM10.out.1.size)) (And.intro ((hwe.block _ (Array.getElem?_eq_some_iff.1 HM10.out.2.1).1).trans HM10.out.2.1) (And.intro ((hwe.block _ (Array.getElem?_eq_some_iff.1 HM10.out.2.2.1).1).trans HM10.out.2.2.1) (And.intro (HM10.out.2.2.2.1.blw hwe) (And.intro ((hwe.block _ (Array.getElem?_eq_some_iff.1 HM10.out.2.2.2.2.1).1).trans HM10.out.2.2.2.2.1) (And.intro (HM10.out.2.2.2.2.2.1.blw hwe) ((hwe.block _ (Array.getElem?_eq_some_iff.1 HM10.out.2.2.2.2.2.2).1).trans HM10.out.2.2.2.2.2.2))))))))
  clear HM10
  try clear hvc
  try clear hbe hwc hbc hwe
  clear hdr HX HVV HCP
  have hc := turned_on b we _ (HV.out.2.blw HM11.out.1) (by have := HW.out.2; omega)
  have HC10 := Lib.hid hc
  clear hc
  have q := HM11.out.2.2.1
  have x1_0 : we.cell? ⟨x1, 0, none⟩ = some (.int .i64 b.kind) := (cell_of_row _ _ 0 _ _ _ q).trans rfl
  have x1_1 : we.cell? ⟨x1, 1, none⟩ = some (.int .u64 b.num) := (cell_of_row _ _ 1 _ _ _ q).trans rfl
  have x1_2 : we.cell? ⟨x1, 2, none⟩ = some (.string b.text) := (cell_of_row _ _ 2 _ _ _ q).trans rfl
  have x1_3 : we.cell? ⟨x1, 3, none⟩ = some (.slice pb nb cb) := (cell_of_row _ _ 3 _ _ _ q).trans rfl
  have x1_4 : we.cell? ⟨x1, 4, none⟩ = some (.int .i64 b.elem) := (cell_of_row _ _ 4 _ _ _ q).trans rfl
  clear q
  go_wp2_with fail
  refine HC10.out.mono ?_
  clear x1_0 x1_1 x1_2 x1_3 x1_4
  rintro e W10 ⟨t_x13, FT, rfl, hvo, hb⟩
  rw [V.turned_eq] at hvo
  obtain ⟨p_x13, c_x13, hs, hj1, hj2⟩ := hvo.slice
  clear hj1 hj2
  rw [show (V.mk b.kind (xor1 b.num) b.text (b.list.map V.turned) b.elem).list.length = nb by show (b.list.map V.turned).length = nb; rw [List.length_map, HNB.out]] at hs
  subst hs
  have HIN_FT : Hid (∀ g, FT g → we.heap.size ≤ g ∧ g < W10.heap.size) := Lib.hid (hvo.lt)
  have hz11 : we.heap.size ≤ W10.heap.size := hb.size
  have HZ11 := Lib.hid hz11
  clear hz11
  have HM12 : Hid ((Below w.heap.size w W10) ∧ (W10.heap[x0]? = some (.cells #[.int .i64 a.kind, .int .u64 a.num, .string a.text, .slice pa na ca, .int .i64 a.elem] 25 (0, 0))) ∧ (W10.heap[x1]? = some (.cells #[.int .i64 b.kind, .int .u64 b.num, .string b.text, .slice pb nb cb, .int .i64 b.elem] 25 (0, 0))) ∧ (VL W10 W2.heap.size a (.slice (some ⟨g_x7, 0, none⟩) na (na + 3)) F7) ∧ (W10.heap[x7]? = some (.cells #[.int .i64 a.kind, .int .u64 a.num, .string a.text, .slice (some ⟨g_x7, 0, none⟩) na (na + 3), .int .i64 a.elem] 25 (0, 0))) ∧ (VL W10 W4.heap.size b (.slice (some ⟨g_x8, 0, none⟩) nb (nb + 3)) F8) ∧ (W10.heap[x8]? = some (.cells #[.int .i64 b.kind, .int .u64 b.num, .string b.text, .slice (some ⟨g_x8, 0, none⟩) nb (nb + 3), .int .i64 b.elem] 25 (0, 0))) ∧ (VO W10 we.heap.size (V.mk b.kind (xor1 b.num) b.text (b.list.map V.turned) b.elem) (.slice p_x13 nb c_x13) FT)) := Lib.hid ((And.intro (HM11.out.1.trans (hb.mono HM11.out.1.size)) (And.intro ((hb.block _ (Array.getElem?_eq_some_iff.1 HM11.out.2.1).1).trans HM11.out.2.1) (And.intro ((hb.block _ (Array.getElem?_eq_some_iff.1 HM11.out.2.2.1).1).trans HM11.out.2.2.1) (And.intro (HM11.out.2.2.2.1.blw hb) (And.intro ((hb.block _ (Array.getElem?_eq_some_iff.1 HM11.out.2.2.2.2.1).1).trans HM11.out.2.2.2.2.1) (And.intro (HM11.out.2.2.2.2.2.1.blw hb) (And.intro ((hb.block _ (Array.getElem?_eq_some_iff.1 HM11.out.2.2.2.2.2.2).1).trans HM11.out.2.2.2.2.2.2) hvo))))))))
  clear HM11
  clear hb hvo
  go_upto_region 14 with (refine wpList_store_rowTo rfl 25 (.tmp 13) (.tmp 45) rfl rfl W10.heap.size #[.int .i64 b.kind, .int .u64 (xor1 b.num), .string b.text, .slice p_x13 nb c_x13, .int .i64 b.elem] rfl rfl 25 #[.int .i64 0, .int .u64 0, .string ⟨#[]⟩, .slice none 0 0, .int .i64 0] (_root_.Go.heap_alloc_new W10 _) (by as_aux_lemma => kernel_rfl) (by as_aux_lemma => kernel_rfl) (by simp [Value.oneCell']) ?_)
  have hb_W11 : Below W10.heap.size W10 ((W10.alloc (.cells #[.int .i64 0, .int .u64 0, .string ⟨#[]⟩, .slice none 0 0, .int .i64 0] 25)).setRow W10.heap.size #[.int .i64 b.kind, .int .u64 (xor1 b.num), .string b.text, .slice p_x13 nb c_x13, .int .i64 b.elem]) := below_setRow ((Below.refl _ _).alloc (Nat.le_refl _) _) (Nat.le_refl _) _
  have ox13 := setRow_heap (W10.alloc (.cells #[.int .i64 0, .int .u64 0, .string ⟨#[]⟩, .slice none 0 0, .int .i64 0] 25)) W10.heap.size _ #[.int .i64 b.kind, .int .u64 (xor1 b.num), .string b.text, .slice p_x13 nb c_x13, .int .i64 b.elem] _ _ (_root_.Go.heap_alloc_new W10 _)
  change Code.wp _ _ _ _ ((W10.alloc (.cells #[.int .i64 0, .int .u64 0, .string ⟨#[]⟩, .slice none 0 0, .int .i64 0] 25)).setRow W10.heap.size #[.int .i64 b.kind, .int .u64 (xor1 b.num), .string b.text, .slice p_x13 nb c_x13, .int .i64 b.elem])
  generalize ((W10.alloc (.cells #[.int .i64 0, .int .u64 0, .string ⟨#[]⟩, .slice none 0 0, .int .i64 0] 25)).setRow W10.heap.size #[.int .i64 b.kind, .int .u64 (xor1 b.num), .string b.text, .slice p_x13 nb c_x13, .int .i64 b.elem]) = W11 at *
  obtain ⟨x13, hx_x13⟩ : ∃ x, W10.heap.size = x := ⟨_, rfl⟩
  rw [hx_x13] at ox13 ⊢
  have HX_x13 := Lib.hid hx_x13
  clear hx_x13
  have hlt := (Array.getElem?_eq_some_iff.1 ox13).1
  have HLT_x13 := Lib.hid hlt
  clear hlt
  have hz12 : W10.heap.size ≤ W11.heap.size := hb_W11.size
  have HZ12 := Lib.hid hz12
  clear hz12
  have HM13 : Hid ((Below w.heap.size w W11) ∧ (W11.heap[x0]? = some (.cells #[.int .i64 a.kind, .int .u64 a.num, .string a.text, .slice pa na ca, .int .i64 a.elem] 25 (0, 0))) ∧ (W11.heap[x1]? = some (.cells #[.int .i64 b.kind, .int .u64 b.num, .string b.text, .slice pb nb cb, .int .i64 b.elem] 25 (0, 0))) ∧ (VL W11 W2.heap.size a (.slice (some ⟨g_x7, 0, none⟩) na (na + 3)) F7) ∧ (W11.heap[x7]? = some (.cells #[.int .i64 a.kind, .int .u64 a.num, .string a.text, .slice (some ⟨g_x7, 0, none⟩) na (na + 3), .int .i64 a.elem] 25 (0, 0))) ∧ (VL W11 W4.heap.size b (.slice (some ⟨g_x8, 0, none⟩) nb (nb + 3)) F8) ∧ (W11.heap[x8]? = some (.cells #[.int .i64 b.kind, .int .u64 b.num, .string b.text, .slice (some ⟨g_x8, 0, none⟩) nb (nb + 3), .int .i64 b.elem] 25 (0, 0))) ∧ (VO W11 we.heap.size (V.mk b.kind (xor1 b.num) b.text (b.list.map V.turned) b.elem) (.slice p_x13 nb c_x13) FT) ∧ (W11.heap[x13]? = some (.cells #[.int .i64 b.kind, .int .u64 (xor1 b.num), .string b.text, .slice p_x13 nb c_x13, .int .i64 b.elem] 25 (0, 0)))) := Lib.hid ((And.intro (HM12.out.1.trans (hb_W11.mono HM12.out.1.size)) (And.intro ((hb_W11.block _ (Array.getElem?_eq_some_iff.1 HM12.out.2.1).1).trans HM12.out.2.1) (And.intro ((hb_W11.block _ (Array.getElem?_eq_some_iff.1 HM12.out.2.2.1).1).trans HM12.out.2.2.1) (And.intro (HM12.out.2.2.2.1.blw hb_W11) (And.intro ((hb_W11.block _ (Array.getElem?_eq_some_iff.1 HM12.out.2.2.2.2.1).1).trans HM12.out.2.2.2.2.1) (And.intro (HM12.out.2.2.2.2.2.1.blw hb_W11) (And.intro ((hb_W11.block _ (Array.getElem?_eq_some_iff.1 HM12.out.2.2.2.2.2.2.1).1).trans HM12.out.2.2.2.2.2.2.1) (And.intro (HM12.out.2.2.2.2.2.2.2.blw hb_W11) ox13)))))))))
  clear HM12
  clear hb_W11 ox13
  have hc := over_on b W11 (Proofs.YtakbgekamjpibaaDoor.only W11 FT) _ _ _ F8 (V.mk b.kind (xor1 b.num) b.text (b.list.map V.turned) b.elem) HM13.out.2.2.2.2.2.1 (VO.only HM13.out.2.2.2.2.2.2.2.1) rfl (fun W hW => only_rd (fun j hj => hW.block j (VO.lt HM13.out.2.2.2.2.2.2.2.1 j hj).2 (fun q => by have h1 := HIN_F8.out j q; have h2 := HIN_FT.out j hj; have z0 := HX_x0.out; have z1 := HX_x1.out; have z2 := HZw.out; have z3 := HLT0.out; have z4 := HLT1.out; have z5 := HZ1.out; have z6 := HZ2.out; have z7 := HZ3.out; have z8 := HX_x7.out; have z9 := HLT_x7.out; have z10 := HZ4.out; have z11 := HZ5.out; have z12 := HX_x8.out; have z13 := HLT_x8.out; have z14 := HZ6.out; have z15 := HZ7.out; have z16 := HZ8.out; have z17 := HZ9.out; have z18 := HZ10.out; have z19 := HZ11.out; have z20 := HX_x13.out; have z21 := HLT_x13.out; have z22 := HZ12.out; omega))) (by have := HW.out.2; omega)
  have HC12 := Lib.hid hc
  clear hc
  have q := HM13.out.2.2.2.2.2.2.1
  have x8_0 : W11.cell? ⟨x8, 0, none⟩ = some (.int .i64 b.kind) := (cell_of_row _ _ 0 _ _ _ q).trans rfl
  have x8_1 : W11.cell? ⟨x8, 1, none⟩ = some (.int .u64 b.num) := (cell_of_row _ _ 1 _ _ _ q).trans rfl
  have x8_2 : W11.cell? ⟨x8, 2, none⟩ = some (.string b.text) := (cell_of_row _ _ 2 _ _ _ q).trans rfl
  have x8_3 : W11.cell? ⟨x8, 3, none⟩ = some (.slice (some ⟨g_x8, 0, none⟩) nb (nb + 3)) := (cell_of_row _ _ 3 _ _ _ q).trans rfl
  have x8_4 : W11.cell? ⟨x8, 4, none⟩ = some (.int .i64 b.elem) := (cell_of_row _ _ 4 _ _ _ q).trans rfl
  clear q
  have q := HM13.out.2.2.2.2.2.2.2.2
  have x13_0 : W11.cell? ⟨x13, 0, none⟩ = some (.int .i64 b.kind) := (cell_of_row _ _ 0 _ _ _ q).trans rfl
  have x13_1 : W11.cell? ⟨x13, 1, none⟩ = some (.int .u64 (xor1 b.num)) := (cell_of_row _ _ 1 _ _ _ q).trans rfl
  have x13_2 : W11.cell? ⟨x13, 2, none⟩ = some (.string b.text) := (cell_of_row _ _ 2 _ _ _ q).trans rfl
  have x13_3 : W11.cell? ⟨x13, 3, none⟩ = some (.slice p_x13 nb c_x13) := (cell_of_row _ _ 3 _ _ _ q).trans rfl
  have x13_4 : W11.cell? ⟨x13, 4, none⟩ = some (.int .i64 b.elem) := (cell_of_row _ _ 4 _ _ _ q).trans rfl
  clear q
  go_wp2_with fail
  refine HC12.out.mono ?_
  clear x8_0 x8_1 x8_2 x8_3 x8_4 x13_0 x13_1 x13_2 x13_3 x13_4
  rintro e W12 ⟨rfl, hv, hk⟩
  have HM14 : Hid ((Below w.heap.size w W11) ∧ (W11.heap[x0]? = some (.cells #[.int .i64 a.kind, .int .u64 a.num, .string a.text, .slice pa na ca, .int .i64 a.elem] 25 (0, 0))) ∧ (W11.heap[x1]? = some (.cells #[.int .i64 b.kind, .int .u64 b.num, .string b.text, .slice pb nb cb, .int .i64 b.elem] 25 (0, 0))) ∧ (VL W11 W2.heap.size a (.slice (some ⟨g_x7, 0, none⟩) na (na + 3)) F7) ∧ (W11.heap[x7]? = some (.cells #[.int .i64 a.kind, .int .u64 a.num, .string a.text, .slice (some ⟨g_x7, 0, none⟩) na (na + 3), .int .i64 a.elem] 25 (0, 0))) ∧ (W11.heap[x8]? = some (.cells #[.int .i64 b.kind, .int .u64 b.num, .string b.text, .slice (some ⟨g_x8, 0, none⟩) nb (nb + 3), .int .i64 b.elem] 25 (0, 0))) ∧ (VO W11 we.heap.size (V.mk b.kind (xor1 b.num) b.text (b.list.map V.turned) b.elem) (.slice p_x13 nb c_x13) FT) ∧ (W11.heap[x13]? = some (.cells #[.int .i64 b.kind, .int .u64 (xor1 b.num), .string b.text, .slice p_x13 nb c_x13, .int .i64 b.elem] 25 (0, 0)))) := Lib.hid ((And.intro HM13.out.1 (And.intro HM13.out.2.1 (And.intro HM13.out.2.2.1 (And.intro HM13.out.2.2.2.1 (And.intro HM13.out.2.2.2.2.1 (And.intro HM13.out.2.2.2.2.2.2.1 (And.intro HM13.out.2.2.2.2.2.2.2.1 HM13.out.2.2.2.2.2.2.2.2))))))))
  clear HM13
  have hz14 : W11.heap.size ≤ W12.heap.size := hk.size
  have HZ14 := Lib.hid hz14
  clear hz14
  have HM15 : Hid ((Below w.heap.size w W12) ∧ (W12.heap[x0]? = some (.cells #[.int .i64 a.kind, .int .u64 a.num, .string a.text, .slice pa na ca, .int .i64 a.elem] 25 (0, 0))) ∧ (W12.heap[x1]? = some (.cells #[.int .i64 b.kind, .int .u64 b.num, .string b.text, .slice pb nb cb, .int .i64 b.elem] 25 (0, 0))) ∧ (VL W12 W2.heap.size a (.slice (some ⟨g_x7, 0, none⟩) na (na + 3)) F7) ∧ (W12.heap[x7]? = some (.cells #[.int .i64 a.kind, .int .u64 a.num, .string a.text, .slice (some ⟨g_x7, 0, none⟩) na (na + 3), .int .i64 a.elem] 25 (0, 0))) ∧ (W12.heap[x8]? = some (.cells #[.int .i64 b.kind, .int .u64 b.num, .string b.text, .slice (some ⟨g_x8, 0, none⟩) nb (nb + 3), .int .i64 b.elem] 25 (0, 0))) ∧ (VO W12 we.heap.size (V.mk b.kind (xor1 b.num) b.text (b.list.map V.turned) b.elem) (.slice p_x13 nb c_x13) FT) ∧ (W12.heap[x13]? = some (.cells #[.int .i64 b.kind, .int .u64 (xor1 b.num), .string b.text, .slice p_x13 nb c_x13, .int .i64 b.elem] 25 (0, 0))) ∧ (VL W12 W4.heap.size (V.mk b.kind (xor1 b.num) b.text (b.list.map V.turned) b.elem) (.slice (some ⟨g_x8, 0, none⟩) nb (nb + 3)) F8)) := Lib.hid ((And.intro (KeepF.below HM14.out.1 hk (fun j q => by have h1 := HIN_F8.out j q; have z0 := HX_x0.out; have z1 := HX_x1.out; have z2 := HZw.out; have z3 := HLT0.out; have z4 := HLT1.out; have z5 := HZ1.out; have z6 := HZ2.out; have z7 := HZ3.out; have z8 := HX_x7.out; have z9 := HLT_x7.out; have z10 := HZ4.out; have z11 := HZ5.out; have z12 := HX_x8.out; have z13 := HLT_x8.out; have z14 := HZ6.out; have z15 := HZ7.out; have z16 := HZ8.out; have z17 := HZ9.out; have z18 := HZ10.out; have z19 := HZ11.out; have z20 := HX_x13.out; have z21 := HLT_x13.out; have z22 := HZ12.out; have z23 := HZ14.out; omega) HM14.out.1.size) (And.intro ((hk.block _ (Array.getElem?_eq_some_iff.1 HM14.out.2.1).1 (fun q => by have h1 := HIN_F8.out _ q; have z0 := HX_x0.out; have z1 := HX_x1.out; have z2 := HZw.out; have z3 := HLT0.out; have z4 := HLT1.out; have z5 := HZ1.out; have z6 := HZ2.out; have z7 := HZ3.out; have z8 := HX_x7.out; have z9 := HLT_x7.out; have z10 := HZ4.out; have z11 := HZ5.out; have z12 := HX_x8.out; have z13 := HLT_x8.out; have z14 := HZ6.out; have z15 := HZ7.out; have z16 := HZ8.out; have z17 := HZ9.out; have z18 := HZ10.out; have z19 := HZ11.out; have z20 := HX_x13.out; have z21 := HLT_x13.out; have z22 := HZ12.out; have z23 := HZ14.out; omega)).trans HM14.out.2.1) (And.intro ((hk.block _ (Array.getElem?_eq_some_iff.1 HM14.out.2.2.1).1 (fun q => by have h1 := HIN_F8.out _ q; have z0 := HX_x0.out; have z1 := HX_x1.out; have z2 := HZw.out; have z3 := HLT0.out; have z4 := HLT1.out; have z5 := HZ1.out; have z6 := HZ2.out; have z7 := HZ3.out; have z8 := HX_x7.out; have z9 := HLT_x7.out; have z10 := HZ4.out; have z11 := HZ5.out; have z12 := HX_x8.out; have z13 := HLT_x8.out; have z14 := HZ6.out; have z15 := HZ7.out; have z16 := HZ8.out; have z17 := HZ9.out; have z18 := HZ10.out; have z19 := HZ11.out; have z20 := HX_x13.out; have z21 := HLT_x13.out; have z22 := HZ12.out; have z23 := HZ14.out; omega)).trans HM14.out.2.2.1) (And.intro (HM14.out.2.2.2.1.keepF hk (fun j g q => by have h1 := HIN_F8.out j q; have h2 := HIN_F7.out j g; have z0 := HX_x0.out; have z1 := HX_x1.out; have z2 := HZw.out; have z3 := HLT0.out; have z4 := HLT1.out; have z5 := HZ1.out; have z6 := HZ2.out; have z7 := HZ3.out; have z8 := HX_x7.out; have z9 := HLT_x7.out; have z10 := HZ4.out; have z11 := HZ5.out; have z12 := HX_x8.out; have z13 := HLT_x8.out; have z14 := HZ6.out; have z15 := HZ7.out; have z16 := HZ8.out; have z17 := HZ9.out; have z18 := HZ10.out; have z19 := HZ11.out; have z20 := HX_x13.out; have z21 := HLT_x13.out; have z22 := HZ12.out; have z23 := HZ14.out; omega)) (And.intro ((hk.block _ (Array.getElem?_eq_some_iff.1 HM14.out.2.2.2.2.1).1 (fun q => by have h1 := HIN_F8.out _ q; have z0 := HX_x0.out; have z1 := HX_x1.out; have z2 := HZw.out; have z3 := HLT0.out; have z4 := HLT1.out; have z5 := HZ1.out; have z6 := HZ2.out; have z7 := HZ3.out; have z8 := HX_x7.out; have z9 := HLT_x7.out; have z10 := HZ4.out; have z11 := HZ5.out; have z12 := HX_x8.out; have z13 := HLT_x8.out; have z14 := HZ6.out; have z15 := HZ7.out; have z16 := HZ8.out; have z17 := HZ9.out; have z18 := HZ10.out; have z19 := HZ11.out; have z20 := HX_x13.out; have z21 := HLT_x13.out; have z22 := HZ12.out; have z23 := HZ14.out; omega)).trans HM14.out.2.2.2.2.1) (And.intro ((hk.block _ (Array.getElem?_eq_some_iff.1 HM14.out.2.2.2.2.2.1).1 (fun q => by have h1 := HIN_F8.out _ q; have z0 := HX_x0.out; have z1 := HX_x1.out; have z2 := HZw.out; have z3 := HLT0.out; have z4 := HLT1.out; have z5 := HZ1.out; have z6 := HZ2.out; have z7 := HZ3.out; have z8 := HX_x7.out; have z9 := HLT_x7.out; have z10 := HZ4.out; have z11 := HZ5.out; have z12 := HX_x8.out; have z13 := HLT_x8.out; have z14 := HZ6.out; have z15 := HZ7.out; have z16 := HZ8.out; have z17 := HZ9.out; have z18 := HZ10.out; have z19 := HZ11.out; have z20 := HX_x13.out; have z21 := HLT_x13.out; have z22 := HZ12.out; have z23 := HZ14.out; omega)).trans HM14.out.2.2.2.2.2.1) (And.intro (HM14.out.2.2.2.2.2.2.1.keepF hk (fun j g q => by have h1 := HIN_F8.out j q; have h2 := HIN_FT.out j g; have z0 := HX_x0.out; have z1 := HX_x1.out; have z2 := HZw.out; have z3 := HLT0.out; have z4 := HLT1.out; have z5 := HZ1.out; have z6 := HZ2.out; have z7 := HZ3.out; have z8 := HX_x7.out; have z9 := HLT_x7.out; have z10 := HZ4.out; have z11 := HZ5.out; have z12 := HX_x8.out; have z13 := HLT_x8.out; have z14 := HZ6.out; have z15 := HZ7.out; have z16 := HZ8.out; have z17 := HZ9.out; have z18 := HZ10.out; have z19 := HZ11.out; have z20 := HX_x13.out; have z21 := HLT_x13.out; have z22 := HZ12.out; have z23 := HZ14.out; omega)) (And.intro ((hk.block _ (Array.getElem?_eq_some_iff.1 HM14.out.2.2.2.2.2.2.2).1 (fun q => by have h1 := HIN_F8.out _ q; have z0 := HX_x0.out; have z1 := HX_x1.out; have z2 := HZw.out; have z3 := HLT0.out; have z4 := HLT1.out; have z5 := HZ1.out; have z6 := HZ2.out; have z7 := HZ3.out; have z8 := HX_x7.out; have z9 := HLT_x7.out; have z10 := HZ4.out; have z11 := HZ5.out; have z12 := HX_x8.out; have z13 := HLT_x8.out; have z14 := HZ6.out; have z15 := HZ7.out; have z16 := HZ8.out; have z17 := HZ9.out; have z18 := HZ10.out; have z19 := HZ11.out; have z20 := HX_x13.out; have z21 := HLT_x13.out; have z22 := HZ12.out; have z23 := HZ14.out; omega)).trans HM14.out.2.2.2.2.2.2.2) (VL.as (v' := (V.mk b.kind (xor1 b.num) b.text (b.list.map V.turned) b.elem)) hv rfl (Hid.out HWF)))))))))))
  clear HM14
  clear hk hv
  have q := HM15.out.2.2.2.2.2.2.2.1
  have x13_0 : W12.cell? ⟨x13, 0, none⟩ = some (.int .i64 b.kind) := (cell_of_row _ _ 0 _ _ _ q).trans rfl
  have x13_1 : W12.cell? ⟨x13, 1, none⟩ = some (.int .u64 (xor1 b.num)) := (cell_of_row _ _ 1 _ _ _ q).trans rfl
  have x13_2 : W12.cell? ⟨x13, 2, none⟩ = some (.string b.text) := (cell_of_row _ _ 2 _ _ _ q).trans rfl
  have x13_3 : W12.cell? ⟨x13, 3, none⟩ = some (.slice p_x13 nb c_x13) := (cell_of_row _ _ 3 _ _ _ q).trans rfl
  have x13_4 : W12.cell? ⟨x13, 4, none⟩ = some (.int .i64 b.elem) := (cell_of_row _ _ 4 _ _ _ q).trans rfl
  clear q
  have q := HM15.out.2.2.2.2.2.1
  have x8_0 : W12.cell? ⟨x8, 0, none⟩ = some (.int .i64 b.kind) := (cell_of_row _ _ 0 _ _ _ q).trans rfl
  have x8_1 : W12.cell? ⟨x8, 1, none⟩ = some (.int .u64 b.num) := (cell_of_row _ _ 1 _ _ _ q).trans rfl
  have x8_2 : W12.cell? ⟨x8, 2, none⟩ = some (.string b.text) := (cell_of_row _ _ 2 _ _ _ q).trans rfl
  have x8_3 : W12.cell? ⟨x8, 3, none⟩ = some (.slice (some ⟨g_x8, 0, none⟩) nb (nb + 3)) := (cell_of_row _ _ 3 _ _ _ q).trans rfl
  have x8_4 : W12.cell? ⟨x8, 4, none⟩ = some (.int .i64 b.elem) := (cell_of_row _ _ 4 _ _ _ q).trans rfl
  clear q
  have fz : W12.frozen? ⟨x8, 1, none⟩ = false := by have q := HM15.out.2.2.2.2.2.1; simp [World.frozen?, q]
  have ox2 : (W12.setCell ⟨x8, 1, none⟩ (.int .u64 (xor1 b.num))).heap[x8]? = some (.cells #[.int .i64 b.kind, .int .u64 (xor1 b.num), .string b.text, .slice (some ⟨g_x8, 0, none⟩) nb (nb + 3), .int .i64 b.elem] 25 (0, 0)) := heap_setCell_same W12 x8 1 _ _ (.int .u64 (xor1 b.num)) HM15.out.2.2.2.2.2.1
  have hk : KeepF (fun g => g = x8) W12 (W12.setCell ⟨x8, 1, none⟩ (.int .u64 (xor1 b.num))) := keepF_setCell W12 x8 1 (.int .u64 (xor1 b.num))
  go_upto_region 16 with fail
  generalize (W12.setCell ⟨x8, 1, none⟩ (.int .u64 (xor1 b.num))) = W13 at *
  clear fz x13_0 x13_1 x13_2 x13_3 x13_4 x8_0 x8_1 x8_2 x8_3 x8_4
  have HIN_sx8 : Hid (∀ g, g = x8 → x8 ≤ g ∧ g < x8 + 1) := Lib.hid (fun g h => by omega)
  have HM16 : Hid ((Below w.heap.size w W12) ∧ (W12.heap[x0]? = some (.cells #[.int .i64 a.kind, .int .u64 a.num, .string a.text, .slice pa na ca, .int .i64 a.elem] 25 (0, 0))) ∧ (W12.heap[x1]? = some (.cells #[.int .i64 b.kind, .int .u64 b.num, .string b.text, .slice pb nb cb, .int .i64 b.elem] 25 (0, 0))) ∧ (VL W12 W2.heap.size a (.slice (some ⟨g_x7, 0, none⟩) na (na + 3)) F7) ∧ (W12.heap[x7]? = some (.cells #[.int .i64 a.kind, .int .u64 a.num, .string a.text, .slice (some ⟨g_x7, 0, none⟩) na (na + 3), .int .i64 a.elem] 25 (0, 0))) ∧ (VO W12 we.heap.size (V.mk b.kind (xor1 b.num) b.text (b.list.map V.turned) b.elem) (.slice p_x13 nb c_x13) FT) ∧ (W12.heap[x13]? = some (.cells #[.int .i64 b.kind, .int .u64 (xor1 b.num), .string b.text, .slice p_x13 nb c_x13, .int .i64 b.elem] 25 (0, 0))) ∧ (VL W12 W4.heap.size (V.mk b.kind (xor1 b.num) b.text (b.list.map V.turned) b.elem) (.slice (some ⟨g_x8, 0, none⟩) nb (nb + 3)) F8)) := Lib.hid ((And.intro HM15.out.1 (And.intro HM15.out.2.1 (And.intro HM15.out.2.2.1 (And.intro HM15.out.2.2.2.1 (And.intro HM15.out.2.2.2.2.1 (And.intro HM15.out.2.2.2.2.2.2.1 (And.intro HM15.out.2.2.2.2.2.2.2.1 HM15.out.2.2.2.2.2.2.2.2))))))))
  clear HM15
  have hz16 : W12.heap.size ≤ W13.heap.size := hk.size
  have HZ16 := Lib.hid hz16
  clear hz16
  have HM17 : Hid ((Below w.heap.size w W13) ∧ (W13.heap[x0]? = some (.cells #[.int .i64 a.kind, .int .u64 a.num, .string a.text, .slice pa na ca, .int .i64 a.elem] 25 (0, 0))) ∧ (W13.heap[x1]? = some (.cells #[.int .i64 b.kind, .int .u64 b.num, .string b.text, .slice pb nb cb, .int .i64 b.elem] 25 (0, 0))) ∧ (VL W13 W2.heap.size a (.slice (some ⟨g_x7, 0, none⟩) na (na + 3)) F7) ∧ (W13.heap[x7]? = some (.cells #[.int .i64 a.kind, .int .u64 a.num, .string a.text, .slice (some ⟨g_x7, 0, none⟩) na (na + 3), .int .i64 a.elem] 25 (0, 0))) ∧ (VO W13 we.heap.size (V.mk b.kind (xor1 b.num) b.text (b.list.map V.turned) b.elem) (.slice p_x13 nb c_x13) FT) ∧ (W13.heap[x13]? = some (.cells #[.int .i64 b.kind, .int .u64 (xor1 b.num), .string b.text, .slice p_x13 nb c_x13, .int .i64 b.elem] 25 (0, 0))) ∧ (VL W13 W4.heap.size (V.mk b.kind (xor1 b.num) b.text (b.list.map V.turned) b.elem) (.slice (some ⟨g_x8, 0, none⟩) nb (nb + 3)) F8) ∧ (W13.heap[x8]? = some (.cells #[.int .i64 b.kind, .int .u64 (xor1 b.num), .string b.text, .slice (some ⟨g_x8, 0, none⟩) nb (nb + 3), .int .i64 b.elem] 25 (0, 0)))) := Lib.hid ((And.intro (KeepF.below HM16.out.1 hk (fun j q => by have h1 := HIN_sx8.out j q; have z0 := HX_x0.out; have z1 := HX_x1.out; have z2 := HZw.out; have z3 := HLT0.out; have z4 := HLT1.out; have z5 := HZ1.out; have z6 := HZ2.out; have z7 := HZ3.out; have z8 := HX_x7.out; have z9 := HLT_x7.out; have z10 := HZ4.out; have z11 := HZ5.out; have z12 := HX_x8.out; have z13 := HLT_x8.out; have z14 := HZ6.out; have z15 := HZ7.out; have z16 := HZ8.out; have z17 := HZ9.out; have z18 := HZ10.out; have z19 := HZ11.out; have z20 := HX_x13.out; have z21 := HLT_x13.out; have z22 := HZ12.out; have z23 := HZ14.out; have z24 := HZ16.out; omega) HM16.out.1.size) (And.intro ((hk.block _ (Array.getElem?_eq_some_iff.1 HM16.out.2.1).1 (fun q => by have h1 := HIN_sx8.out _ q; have z0 := HX_x0.out; have z1 := HX_x1.out; have z2 := HZw.out; have z3 := HLT0.out; have z4 := HLT1.out; have z5 := HZ1.out; have z6 := HZ2.out; have z7 := HZ3.out; have z8 := HX_x7.out; have z9 := HLT_x7.out; have z10 := HZ4.out; have z11 := HZ5.out; have z12 := HX_x8.out; have z13 := HLT_x8.out; have z14 := HZ6.out; have z15 := HZ7.out; have z16 := HZ8.out; have z17 := HZ9.out; have z18 := HZ10.out; have z19 := HZ11.out; have z20 := HX_x13.out; have z21 := HLT_x13.out; have z22 := HZ12.out; have z23 := HZ14.out; have z24 := HZ16.out; omega)).trans HM16.out.2.1) (And.intro ((hk.block _ (Array.getElem?_eq_some_iff.1 HM16.out.2.2.1).1 (fun q => by have h1 := HIN_sx8.out _ q; have z0 := HX_x0.out; have z1 := HX_x1.out; have z2 := HZw.out; have z3 := HLT0.out; have z4 := HLT1.out; have z5 := HZ1.out; have z6 := HZ2.out; have z7 := HZ3.out; have z8 := HX_x7.out; have z9 := HLT_x7.out; have z10 := HZ4.out; have z11 := HZ5.out; have z12 := HX_x8.out; have z13 := HLT_x8.out; have z14 := HZ6.out; have z15 := HZ7.out; have z16 := HZ8.out; have z17 := HZ9.out; have z18 := HZ10.out; have z19 := HZ11.out; have z20 := HX_x13.out; have z21 := HLT_x13.out; have z22 := HZ12.out; have z23 := HZ14.out; have z24 := HZ16.out; omega)).trans HM16.out.2.2.1) (And.intro (HM16.out.2.2.2.1.keepF hk (fun j g q => by have h1 := HIN_sx8.out j q; have h2 := HIN_F7.out j g; have z0 := HX_x0.out; have z1 := HX_x1.out; have z2 := HZw.out; have z3 := HLT0.out; have z4 := HLT1.out; have z5 := HZ1.out; have z6 := HZ2.out; have z7 := HZ3.out; have z8 := HX_x7.out; have z9 := HLT_x7.out; have z10 := HZ4.out; have z11 := HZ5.out; have z12 := HX_x8.out; have z13 := HLT_x8.out; have z14 := HZ6.out; have z15 := HZ7.out; have z16 := HZ8.out; have z17 := HZ9.out; have z18 := HZ10.out; have z19 := HZ11.out; have z20 := HX_x13.out; have z21 := HLT_x13.out; have z22 := HZ12.out; have z23 := HZ14.out; have z24 := HZ16.out; omega)) (And.intro ((hk.block _ (Array.getElem?_eq_some_iff.1 HM16.out.2.2.2.2.1).1 (fun q => by have h1 := HIN_sx8.out _ q; have z0 := HX_x0.out; have z1 := HX_x1.out; have z2 := HZw.out; have z3 := HLT0.out; have z4 := HLT1.out; have z5 := HZ1.out; have z6 := HZ2.out; have z7 := HZ3.out; have z8 := HX_x7.out; have z9 := HLT_x7.out; have z10 := HZ4.out; have z11 := HZ5.out; have z12 := HX_x8.out; have z13 := HLT_x8.out; have z14 := HZ6.out; have z15 := HZ7.out; have z16 := HZ8.out; have z17 := HZ9.out; have z18 := HZ10.out; have z19 := HZ11.out; have z20 := HX_x13.out; have z21 := HLT_x13.out; have z22 := HZ12.out; have z23 := HZ14.out; have z24 := HZ16.out; omega)).trans HM16.out.2.2.2.2.1) (And.intro (HM16.out.2.2.2.2.2.1.keepF hk (fun j g q => by have h1 := HIN_sx8.out j q; have h2 := HIN_FT.out j g; have z0 := HX_x0.out; have z1 := HX_x1.out; have z2 := HZw.out; have z3 := HLT0.out; have z4 := HLT1.out; have z5 := HZ1.out; have z6 := HZ2.out; have z7 := HZ3.out; have z8 := HX_x7.out; have z9 := HLT_x7.out; have z10 := HZ4.out; have z11 := HZ5.out; have z12 := HX_x8.out; have z13 := HLT_x8.out; have z14 := HZ6.out; have z15 := HZ7.out; have z16 := HZ8.out; have z17 := HZ9.out; have z18 := HZ10.out; have z19 := HZ11.out; have z20 := HX_x13.out; have z21 := HLT_x13.out; have z22 := HZ12.out; have z23 := HZ14.out; have z24 := HZ16.out; omega)) (And.intro ((hk.block _ (Array.getElem?_eq_some_iff.1 HM16.out.2.2.2.2.2.2.1).1 (fun q => by have h1 := HIN_sx8.out _ q; have z0 := HX_x0.out; have z1 := HX_x1.out; have z2 := HZw.out; have z3 := HLT0.out; have z4 := HLT1.out; have z5 := HZ1.out; have z6 := HZ2.out; have z7 := HZ3.out; have z8 := HX_x7.out; have z9 := HLT_x7.out; have z10 := HZ4.out; have z11 := HZ5.out; have z12 := HX_x8.out; have z13 := HLT_x8.out; have z14 := HZ6.out; have z15 := HZ7.out; have z16 := HZ8.out; have z17 := HZ9.out; have z18 := HZ10.out; have z19 := HZ11.out; have z20 := HX_x13.out; have z21 := HLT_x13.out; have z22 := HZ12.out; have z23 := HZ14.out; have z24 := HZ16.out; omega)).trans HM16.out.2.2.2.2.2.2.1) (And.intro (HM16.out.2.2.2.2.2.2.2.keepF hk (fun j g q => by have h1 := HIN_sx8.out j q; have h2 := HIN_F8.out j g; have z0 := HX_x0.out; have z1 := HX_x1.out; have z2 := HZw.out; have z3 := HLT0.out; have z4 := HLT1.out; have z5 := HZ1.out; have z6 := HZ2.out; have z7 := HZ3.out; have z8 := HX_x7.out; have z9 := HLT_x7.out; have z10 := HZ4.out; have z11 := HZ5.out; have z12 := HX_x8.out; have z13 := HLT_x8.out; have z14 := HZ6.out; have z15 := HZ7.out; have z16 := HZ8.out; have z17 := HZ9.out; have z18 := HZ10.out; have z19 := HZ11.out; have z20 := HX_x13.out; have z21 := HLT_x13.out; have z22 := HZ12.out; have z23 := HZ14.out; have z24 := HZ16.out; omega)) ox2)))))))))
  clear HM16
  clear hk ox2
  have hc : Calls Tryd.prog 36 #[.agg #[.int .i64 a.kind, .int .u64 a.num, .string a.text, .slice (some ⟨g_x7, 0, none⟩) na (na + 3), .int .i64 a.elem], .agg #[.int .i64 b.kind, .int .u64 (xor1 b.num), .string b.text, .slice (some ⟨g_x8, 0, none⟩) nb (nb + 3), .int .i64 b.elem]] W13 _ := equal_on a W13 _ (V.mk b.kind (xor1 b.num) b.text (b.list.map V.turned) b.elem) _ HM17.out.2.2.2.1.vin HM17.out.2.2.2.2.2.2.2.1.vin
  rw [HD2.out] at hc
  have HC14 := Lib.hid hc
  clear hc
  have q := HM17.out.2.2.2.2.1
  have x7_0 : W13.cell? ⟨x7, 0, none⟩ = some (.int .i64 a.kind) := (cell_of_row _ _ 0 _ _ _ q).trans rfl
  have x7_1 : W13.cell? ⟨x7, 1, none⟩ = some (.int .u64 a.num) := (cell_of_row _ _ 1 _ _ _ q).trans rfl
  have x7_2 : W13.cell? ⟨x7, 2, none⟩ = some (.string a.text) := (cell_of_row _ _ 2 _ _ _ q).trans rfl
  have x7_3 : W13.cell? ⟨x7, 3, none⟩ = some (.slice (some ⟨g_x7, 0, none⟩) na (na + 3)) := (cell_of_row _ _ 3 _ _ _ q).trans rfl
  have x7_4 : W13.cell? ⟨x7, 4, none⟩ = some (.int .i64 a.elem) := (cell_of_row _ _ 4 _ _ _ q).trans rfl
  clear q
  have q := HM17.out.2.2.2.2.2.2.2.2
  have x8_0 : W13.cell? ⟨x8, 0, none⟩ = some (.int .i64 b.kind) := (cell_of_row _ _ 0 _ _ _ q).trans rfl
  have x8_1 : W13.cell? ⟨x8, 1, none⟩ = some (.int .u64 (xor1 b.num)) := (cell_of_row _ _ 1 _ _ _ q).trans rfl
  have x8_2 : W13.cell? ⟨x8, 2, none⟩ = some (.string b.text) := (cell_of_row _ _ 2 _ _ _ q).trans rfl
  have x8_3 : W13.cell? ⟨x8, 3, none⟩ = some (.slice (some ⟨g_x8, 0, none⟩) nb (nb + 3)) := (cell_of_row _ _ 3 _ _ _ q).trans rfl
  have x8_4 : W13.cell? ⟨x8, 4, none⟩ = some (.int .i64 b.elem) := (cell_of_row _ _ 4 _ _ _ q).trans rfl
  clear q
  go_wp2_with fail
  refine HC14.out.mono ?_
  clear x7_0 x7_1 x7_2 x7_3 x7_4 x8_0 x8_1 x8_2 x8_3 x8_4
  rintro e W14 ⟨rfl, hb⟩
  have hz17 : W13.heap.size ≤ W14.heap.size := hb.size
  have HZ17 := Lib.hid hz17
  clear hz17
  have HM18 : Hid ((Below w.heap.size w W14) ∧ (W14.heap[x0]? = some (.cells #[.int .i64 a.kind, .int .u64 a.num, .string a.text, .slice pa na ca, .int .i64 a.elem] 25 (0, 0))) ∧ (W14.heap[x1]? = some (.cells #[.int .i64 b.kind, .int .u64 b.num, .string b.text, .slice pb nb cb, .int .i64 b.elem] 25 (0, 0))) ∧ (VL W14 W2.heap.size a (.slice (some ⟨g_x7, 0, none⟩) na (na + 3)) F7) ∧ (W14.heap[x7]? = some (.cells #[.int .i64 a.kind, .int .u64 a.num, .string a.text, .slice (some ⟨g_x7, 0, none⟩) na (na + 3), .int .i64 a.elem] 25 (0, 0))) ∧ (VO W14 we.heap.size (V.mk b.kind (xor1 b.num) b.text (b.list.map V.turned) b.elem) (.slice p_x13 nb c_x13) FT) ∧ (W14.heap[x13]? = some (.cells #[.int .i64 b.kind, .int .u64 (xor1 b.num), .string b.text, .slice p_x13 nb c_x13, .int .i64 b.elem] 25 (0, 0))) ∧ (VL W14 W4.heap.size (V.mk b.kind (xor1 b.num) b.text (b.list.map V.turned) b.elem) (.slice (some ⟨g_x8, 0, none⟩) nb (nb + 3)) F8) ∧ (W14.heap[x8]? = some (.cells #[.int .i64 b.kind, .int .u64 (xor1 b.num), .string b.text, .slice (some ⟨g_x8, 0, none⟩) nb (nb + 3), .int .i64 b.elem] 25 (0, 0)))) := Lib.hid ((And.intro (HM17.out.1.trans (hb.mono HM17.out.1.size)) (And.intro ((hb.block _ (Array.getElem?_eq_some_iff.1 HM17.out.2.1).1).trans HM17.out.2.1) (And.intro ((hb.block _ (Array.getElem?_eq_some_iff.1 HM17.out.2.2.1).1).trans HM17.out.2.2.1) (And.intro (HM17.out.2.2.2.1.blw hb) (And.intro ((hb.block _ (Array.getElem?_eq_some_iff.1 HM17.out.2.2.2.2.1).1).trans HM17.out.2.2.2.2.1) (And.intro (HM17.out.2.2.2.2.2.1.blw hb) (And.intro ((hb.block _ (Array.getElem?_eq_some_iff.1 HM17.out.2.2.2.2.2.2.1).1).trans HM17.out.2.2.2.2.2.2.1) (And.intro (HM17.out.2.2.2.2.2.2.2.1.blw hb) ((hb.block _ (Array.getElem?_eq_some_iff.1 HM17.out.2.2.2.2.2.2.2.2).1).trans HM17.out.2.2.2.2.2.2.2.2))))))))))
  clear HM17
  clear hb
  have hc : Calls Tryd.prog 19 #[.agg #[.int .i64 a.kind, .int .u64 a.num, .string a.text, .slice (some ⟨g_x7, 0, none⟩) na (na + 3), .int .i64 a.elem], .agg #[.int .i64 a.kind, .int .u64 a.num, .string a.text, .slice pa na ca, .int .i64 a.elem]] W14 _ := asl_on a W14 w _ _ _ F7 HM18.out.2.2.2.1 HV.out.1 (fun W hW => rd_below (KeepF.below HM18.out.1 hW (fun j q => by have h1 := HIN_F7.out j q; have z0 := HX_x0.out; have z1 := HX_x1.out; have z2 := HZw.out; have z3 := HLT0.out; have z4 := HLT1.out; have z5 := HZ1.out; have z6 := HZ2.out; have z7 := HZ3.out; have z8 := HX_x7.out; have z9 := HLT_x7.out; have z10 := HZ4.out; have z11 := HZ5.out; have z12 := HX_x8.out; have z13 := HLT_x8.out; have z14 := HZ6.out; have z15 := HZ7.out; have z16 := HZ8.out; have z17 := HZ9.out; have z18 := HZ10.out; have z19 := HZ11.out; have z20 := HX_x13.out; have z21 := HLT_x13.out; have z22 := HZ12.out; have z23 := HZ14.out; have z24 := HZ16.out; have z25 := HZ17.out; omega) HM18.out.1.size)) (by have := HW.out.1; omega)
  have HC15 := Lib.hid hc
  clear hc
  have q := HM18.out.2.2.2.2.1
  have x7_0 : W14.cell? ⟨x7, 0, none⟩ = some (.int .i64 a.kind) := (cell_of_row _ _ 0 _ _ _ q).trans rfl
  have x7_1 : W14.cell? ⟨x7, 1, none⟩ = some (.int .u64 a.num) := (cell_of_row _ _ 1 _ _ _ q).trans rfl
  have x7_2 : W14.cell? ⟨x7, 2, none⟩ = some (.string a.text) := (cell_of_row _ _ 2 _ _ _ q).trans rfl
  have x7_3 : W14.cell? ⟨x7, 3, none⟩ = some (.slice (some ⟨g_x7, 0, none⟩) na (na + 3)) := (cell_of_row _ _ 3 _ _ _ q).trans rfl
  have x7_4 : W14.cell? ⟨x7, 4, none⟩ = some (.int .i64 a.elem) := (cell_of_row _ _ 4 _ _ _ q).trans rfl
  clear q
  have q := HM18.out.2.1
  have x0_0 : W14.cell? ⟨x0, 0, none⟩ = some (.int .i64 a.kind) := (cell_of_row _ _ 0 _ _ _ q).trans rfl
  have x0_1 : W14.cell? ⟨x0, 1, none⟩ = some (.int .u64 a.num) := (cell_of_row _ _ 1 _ _ _ q).trans rfl
  have x0_2 : W14.cell? ⟨x0, 2, none⟩ = some (.string a.text) := (cell_of_row _ _ 2 _ _ _ q).trans rfl
  have x0_3 : W14.cell? ⟨x0, 3, none⟩ = some (.slice pa na ca) := (cell_of_row _ _ 3 _ _ _ q).trans rfl
  have x0_4 : W14.cell? ⟨x0, 4, none⟩ = some (.int .i64 a.elem) := (cell_of_row _ _ 4 _ _ _ q).trans rfl
  clear q
  go_wp2_with fail
  refine HC15.out.mono ?_
  clear x7_0 x7_1 x7_2 x7_3 x7_4 x0_0 x0_1 x0_2 x0_3 x0_4
  rintro e W15 ⟨rfl, hk⟩
  have HM19 : Hid ((Below w.heap.size w W14) ∧ (W14.heap[x0]? = some (.cells #[.int .i64 a.kind, .int .u64 a.num, .string a.text, .slice pa na ca, .int .i64 a.elem] 25 (0, 0))) ∧ (W14.heap[x1]? = some (.cells #[.int .i64 b.kind, .int .u64 b.num, .string b.text, .slice pb nb cb, .int .i64 b.elem] 25 (0, 0))) ∧ (W14.heap[x7]? = some (.cells #[.int .i64 a.kind, .int .u64 a.num, .string a.text, .slice (some ⟨g_x7, 0, none⟩) na (na + 3), .int .i64 a.elem] 25 (0, 0))) ∧ (VO W14 we.heap.size (V.mk b.kind (xor1 b.num) b.text (b.list.map V.turned) b.elem) (.slice p_x13 nb c_x13) FT) ∧ (W14.heap[x13]? = some (.cells #[.int .i64 b.kind, .int .u64 (xor1 b.num), .string b.text, .slice p_x13 nb c_x13, .int .i64 b.elem] 25 (0, 0))) ∧ (VL W14 W4.heap.size (V.mk b.kind (xor1 b.num) b.text (b.list.map V.turned) b.elem) (.slice (some ⟨g_x8, 0, none⟩) nb (nb + 3)) F8) ∧ (W14.heap[x8]? = some (.cells #[.int .i64 b.kind, .int .u64 (xor1 b.num), .string b.text, .slice (some ⟨g_x8, 0, none⟩) nb (nb + 3), .int .i64 b.elem] 25 (0, 0)))) := Lib.hid ((And.intro HM18.out.1 (And.intro HM18.out.2.1 (And.intro HM18.out.2.2.1 (And.intro HM18.out.2.2.2.2.1 (And.intro HM18.out.2.2.2.2.2.1 (And.intro HM18.out.2.2.2.2.2.2.1 (And.intro HM18.out.2.2.2.2.2.2.2.1 HM18.out.2.2.2.2.2.2.2.2))))))))
  clear HM18
  have hz19 : W14.heap.size ≤ W15.heap.size := hk.size
  have HZ19 := Lib.hid hz19
  clear hz19
  have HM20 : Hid ((Below w.heap.size w W15) ∧ (W15.heap[x0]? = some (.cells #[.int .i64 a.kind, .int .u64 a.num, .string a.text, .slice pa na ca, .int .i64 a.elem] 25 (0, 0))) ∧ (W15.heap[x1]? = some (.cells #[.int .i64 b.kind, .int .u64 b.num, .string b.text, .slice pb nb cb, .int .i64 b.elem] 25 (0, 0))) ∧ (W15.heap[x7]? = some (.cells #[.int .i64 a.kind, .int .u64 a.num, .string a.text, .slice (some ⟨g_x7, 0, none⟩) na (na + 3), .int .i64 a.elem] 25 (0, 0))) ∧ (VO W15 we.heap.size (V.mk b.kind (xor1 b.num) b.text (b.list.map V.turned) b.elem) (.slice p_x13 nb c_x13) FT) ∧ (W15.heap[x13]? = some (.cells #[.int .i64 b.kind, .int .u64 (xor1 b.num), .string b.text, .slice p_x13 nb c_x13, .int .i64 b.elem] 25 (0, 0))) ∧ (VL W15 W4.heap.size (V.mk b.kind (xor1 b.num) b.text (b.list.map V.turned) b.elem) (.slice (some ⟨g_x8, 0, none⟩) nb (nb + 3)) F8) ∧ (W15.heap[x8]? = some (.cells #[.int .i64 b.kind, .int .u64 (xor1 b.num), .string b.text, .slice (some ⟨g_x8, 0, none⟩) nb (nb + 3), .int .i64 b.elem] 25 (0, 0)))) := Lib.hid ((And.intro (KeepF.below HM19.out.1 hk (fun j q => by have h1 := HIN_F7.out j q; have z0 := HX_x0.out; have z1 := HX_x1.out; have z2 := HZw.out; have z3 := HLT0.out; have z4 := HLT1.out; have z5 := HZ1.out; have z6 := HZ2.out; have z7 := HZ3.out; have z8 := HX_x7.out; have z9 := HLT_x7.out; have z10 := HZ4.out; have z11 := HZ5.out; have z12 := HX_x8.out; have z13 := HLT_x8.out; have z14 := HZ6.out; have z15 := HZ7.out; have z16 := HZ8.out; have z17 := HZ9.out; have z18 := HZ10.out; have z19 := HZ11.out; have z20 := HX_x13.out; have z21 := HLT_x13.out; have z22 := HZ12.out; have z23 := HZ14.out; have z24 := HZ16.out; have z25 := HZ17.out; have z26 := HZ19.out; omega) HM19.out.1.size) (And.intro ((hk.block _ (Array.getElem?_eq_some_iff.1 HM19.out.2.1).1 (fun q => by have h1 := HIN_F7.out _ q; have z0 := HX_x0.out; have z1 := HX_x1.out; have z2 := HZw.out; have z3 := HLT0.out; have z4 := HLT1.out; have z5 := HZ1.out; have z6 := HZ2.out; have z7 := HZ3.out; have z8 := HX_x7.out; have z9 := HLT_x7.out; have z10 := HZ4.out; have z11 := HZ5.out; have z12 := HX_x8.out; have z13 := HLT_x8.out; have z14 := HZ6.out; have z15 := HZ7.out; have z16 := HZ8.out; have z17 := HZ9.out; have z18 := HZ10.out; have z19 := HZ11.out; have z20 := HX_x13.out; have z21 := HLT_x13.out; have z22 := HZ12.out; have z23 := HZ14.out; have z24 := HZ16.out; have z25 := HZ17.out; have z26 := HZ19.out; omega)).trans HM19.out.2.1) (And.intro ((hk.block _ (Array.getElem?_eq_some_iff.1 HM19.out.2.2.1).1 (fun q => by have h1 := HIN_F7.out _ q; have z0 := HX_x0.out; have z1 := HX_x1.out; have z2 := HZw.out; have z3 := HLT0.out; have z4 := HLT1.out; have z5 := HZ1.out; have z6 := HZ2.out; have z7 := HZ3.out; have z8 := HX_x7.out; have z9 := HLT_x7.out; have z10 := HZ4.out; have z11 := HZ5.out; have z12 := HX_x8.out; have z13 := HLT_x8.out; have z14 := HZ6.out; have z15 := HZ7.out; have z16 := HZ8.out; have z17 := HZ9.out; have z18 := HZ10.out; have z19 := HZ11.out; have z20 := HX_x13.out; have z21 := HLT_x13.out; have z22 := HZ12.out; have z23 := HZ14.out; have z24 := HZ16.out; have z25 := HZ17.out; have z26 := HZ19.out; omega)).trans HM19.out.2.2.1) (And.intro ((hk.block _ (Array.getElem?_eq_some_iff.1 HM19.out.2.2.2.1).1 (fun q => by have h1 := HIN_F7.out _ q; have z0 := HX_x0.out; have z1 := HX_x1.out; have z2 := HZw.out; have z3 := HLT0.out; have z4 := HLT1.out; have z5 := HZ1.out; have z6 := HZ2.out; have z7 := HZ3.out; have z8 := HX_x7.out; have z9 := HLT_x7.out; have z10 := HZ4.out; have z11 := HZ5.out; have z12 := HX_x8.out; have z13 := HLT_x8.out; have z14 := HZ6.out; have z15 := HZ7.out; have z16 := HZ8.out; have z17 := HZ9.out; have z18 := HZ10.out; have z19 := HZ11.out; have z20 := HX_x13.out; have z21 := HLT_x13.out; have z22 := HZ12.out; have z23 := HZ14.out; have z24 := HZ16.out; have z25 := HZ17.out; have z26 := HZ19.out; omega)).trans HM19.out.2.2.2.1) (And.intro (HM19.out.2.2.2.2.1.keepF hk (fun j g q => by have h1 := HIN_F7.out j q; have h2 := HIN_FT.out j g; have z0 := HX_x0.out; have z1 := HX_x1.out; have z2 := HZw.out; have z3 := HLT0.out; have z4 := HLT1.out; have z5 := HZ1.out; have z6 := HZ2.out; have z7 := HZ3.out; have z8 := HX_x7.out; have z9 := HLT_x7.out; have z10 := HZ4.out; have z11 := HZ5.out; have z12 := HX_x8.out; have z13 := HLT_x8.out; have z14 := HZ6.out; have z15 := HZ7.out; have z16 := HZ8.out; have z17 := HZ9.out; have z18 := HZ10.out; have z19 := HZ11.out; have z20 := HX_x13.out; have z21 := HLT_x13.out; have z22 := HZ12.out; have z23 := HZ14.out; have z24 := HZ16.out; have z25 := HZ17.out; have z26 := HZ19.out; omega)) (And.intro ((hk.block _ (Array.getElem?_eq_some_iff.1 HM19.out.2.2.2.2.2.1).1 (fun q => by have h1 := HIN_F7.out _ q; have z0 := HX_x0.out; have z1 := HX_x1.out; have z2 := HZw.out; have z3 := HLT0.out; have z4 := HLT1.out; have z5 := HZ1.out; have z6 := HZ2.out; have z7 := HZ3.out; have z8 := HX_x7.out; have z9 := HLT_x7.out; have z10 := HZ4.out; have z11 := HZ5.out; have z12 := HX_x8.out; have z13 := HLT_x8.out; have z14 := HZ6.out; have z15 := HZ7.out; have z16 := HZ8.out; have z17 := HZ9.out; have z18 := HZ10.out; have z19 := HZ11.out; have z20 := HX_x13.out; have z21 := HLT_x13.out; have z22 := HZ12.out; have z23 := HZ14.out; have z24 := HZ16.out; have z25 := HZ17.out; have z26 := HZ19.out; omega)).trans HM19.out.2.2.2.2.2.1) (And.intro (HM19.out.2.2.2.2.2.2.1.keepF hk (fun j g q => by have h1 := HIN_F7.out j q; have h2 := HIN_F8.out j g; have z0 := HX_x0.out; have z1 := HX_x1.out; have z2 := HZw.out; have z3 := HLT0.out; have z4 := HLT1.out; have z5 := HZ1.out; have z6 := HZ2.out; have z7 := HZ3.out; have z8 := HX_x7.out; have z9 := HLT_x7.out; have z10 := HZ4.out; have z11 := HZ5.out; have z12 := HX_x8.out; have z13 := HLT_x8.out; have z14 := HZ6.out; have z15 := HZ7.out; have z16 := HZ8.out; have z17 := HZ9.out; have z18 := HZ10.out; have z19 := HZ11.out; have z20 := HX_x13.out; have z21 := HLT_x13.out; have z22 := HZ12.out; have z23 := HZ14.out; have z24 := HZ16.out; have z25 := HZ17.out; have z26 := HZ19.out; omega)) ((hk.block _ (Array.getElem?_eq_some_iff.1 HM19.out.2.2.2.2.2.2.2).1 (fun q => by have h1 := HIN_F7.out _ q; have z0 := HX_x0.out; have z1 := HX_x1.out; have z2 := HZw.out; have z3 := HLT0.out; have z4 := HLT1.out; have z5 := HZ1.out; have z6 := HZ2.out; have z7 := HZ3.out; have z8 := HX_x7.out; have z9 := HLT_x7.out; have z10 := HZ4.out; have z11 := HZ5.out; have z12 := HX_x8.out; have z13 := HLT_x8.out; have z14 := HZ6.out; have z15 := HZ7.out; have z16 := HZ8.out; have z17 := HZ9.out; have z18 := HZ10.out; have z19 := HZ11.out; have z20 := HX_x13.out; have z21 := HLT_x13.out; have z22 := HZ12.out; have z23 := HZ14.out; have z24 := HZ16.out; have z25 := HZ17.out; have z26 := HZ19.out; omega)).trans HM19.out.2.2.2.2.2.2.2)))))))))
  clear HM19
  clear hk
  have hc : Calls Tryd.prog 19 #[.agg #[.int .i64 b.kind, .int .u64 (xor1 b.num), .string b.text, .slice (some ⟨g_x8, 0, none⟩) nb (nb + 3), .int .i64 b.elem], .agg #[.int .i64 b.kind, .int .u64 (xor1 b.num), .string b.text, .slice p_x13 nb c_x13, .int .i64 b.elem]] W15 _ := asl_on (V.mk b.kind (xor1 b.num) b.text (b.list.map V.turned) b.elem) W15 (Proofs.YtakbgekamjpibaaDoor.only W15 FT) _ _ _ F8 HM20.out.2.2.2.2.2.2.1 (VO.only HM20.out.2.2.2.2.1) (fun W hW => only_rd (fun j hj => hW.block j (VO.lt HM20.out.2.2.2.2.1 j hj).2 (fun q => by have h1 := HIN_F8.out j q; have h2 := HIN_FT.out j hj; have z0 := HX_x0.out; have z1 := HX_x1.out; have z2 := HZw.out; have z3 := HLT0.out; have z4 := HLT1.out; have z5 := HZ1.out; have z6 := HZ2.out; have z7 := HZ3.out; have z8 := HX_x7.out; have z9 := HLT_x7.out; have z10 := HZ4.out; have z11 := HZ5.out; have z12 := HX_x8.out; have z13 := HLT_x8.out; have z14 := HZ6.out; have z15 := HZ7.out; have z16 := HZ8.out; have z17 := HZ9.out; have z18 := HZ10.out; have z19 := HZ11.out; have z20 := HX_x13.out; have z21 := HLT_x13.out; have z22 := HZ12.out; have z23 := HZ14.out; have z24 := HZ16.out; have z25 := HZ17.out; have z26 := HZ19.out; omega))) HWTT.out
  have HC16 := Lib.hid hc
  clear hc
  have q := HM20.out.2.2.2.2.2.2.2
  have x8_0 : W15.cell? ⟨x8, 0, none⟩ = some (.int .i64 b.kind) := (cell_of_row _ _ 0 _ _ _ q).trans rfl
  have x8_1 : W15.cell? ⟨x8, 1, none⟩ = some (.int .u64 (xor1 b.num)) := (cell_of_row _ _ 1 _ _ _ q).trans rfl
  have x8_2 : W15.cell? ⟨x8, 2, none⟩ = some (.string b.text) := (cell_of_row _ _ 2 _ _ _ q).trans rfl
  have x8_3 : W15.cell? ⟨x8, 3, none⟩ = some (.slice (some ⟨g_x8, 0, none⟩) nb (nb + 3)) := (cell_of_row _ _ 3 _ _ _ q).trans rfl
  have x8_4 : W15.cell? ⟨x8, 4, none⟩ = some (.int .i64 b.elem) := (cell_of_row _ _ 4 _ _ _ q).trans rfl
  clear q
  have q := HM20.out.2.2.2.2.2.1
  have x13_0 : W15.cell? ⟨x13, 0, none⟩ = some (.int .i64 b.kind) := (cell_of_row _ _ 0 _ _ _ q).trans rfl
  have x13_1 : W15.cell? ⟨x13, 1, none⟩ = some (.int .u64 (xor1 b.num)) := (cell_of_row _ _ 1 _ _ _ q).trans rfl
  have x13_2 : W15.cell? ⟨x13, 2, none⟩ = some (.string b.text) := (cell_of_row _ _ 2 _ _ _ q).trans rfl
  have x13_3 : W15.cell? ⟨x13, 3, none⟩ = some (.slice p_x13 nb c_x13) := (cell_of_row _ _ 3 _ _ _ q).trans rfl
  have x13_4 : W15.cell? ⟨x13, 4, none⟩ = some (.int .i64 b.elem) := (cell_of_row _ _ 4 _ _ _ q).trans rfl
  clear q
  go_wp2_with fail
  refine HC16.out.mono ?_
  clear x8_0 x8_1 x8_2 x8_3 x8_4 x13_0 x13_1 x13_2 x13_3 x13_4
  rintro e W16 ⟨rfl, hk⟩
  have HM21 : Hid ((Below w.heap.size w W15) ∧ (W15.heap[x0]? = some (.cells #[.int .i64 a.kind, .int .u64 a.num, .string a.text, .slice pa na ca, .int .i64 a.elem] 25 (0, 0))) ∧ (W15.heap[x1]? = some (.cells #[.int .i64 b.kind, .int .u64 b.num, .string b.text, .slice pb nb cb, .int .i64 b.elem] 25 (0, 0))) ∧ (W15.heap[x7]? = some (.cells #[.int .i64 a.kind, .int .u64 a.num, .string a.text, .slice (some ⟨g_x7, 0, none⟩) na (na + 3), .int .i64 a.elem] 25 (0, 0))) ∧ (VO W15 we.heap.size (V.mk b.kind (xor1 b.num) b.text (b.list.map V.turned) b.elem) (.slice p_x13 nb c_x13) FT) ∧ (W15.heap[x13]? = some (.cells #[.int .i64 b.kind, .int .u64 (xor1 b.num), .string b.text, .slice p_x13 nb c_x13, .int .i64 b.elem] 25 (0, 0))) ∧ (W15.heap[x8]? = some (.cells #[.int .i64 b.kind, .int .u64 (xor1 b.num), .string b.text, .slice (some ⟨g_x8, 0, none⟩) nb (nb + 3), .int .i64 b.elem] 25 (0, 0)))) := Lib.hid ((And.intro HM20.out.1 (And.intro HM20.out.2.1 (And.intro HM20.out.2.2.1 (And.intro HM20.out.2.2.2.1 (And.intro HM20.out.2.2.2.2.1 (And.intro HM20.out.2.2.2.2.2.1 HM20.out.2.2.2.2.2.2.2)))))))
  clear HM20
  have hz21 : W15.heap.size ≤ W16.heap.size := hk.size
  have HZ21 := Lib.hid hz21
  clear hz21
  have HM22 : Hid ((Below w.heap.size w W16) ∧ (W16.heap[x0]? = some (.cells #[.int .i64 a.kind, .int .u64 a.num, .string a.text, .slice pa na ca, .int .i64 a.elem] 25 (0, 0))) ∧ (W16.heap[x1]? = some (.cells #[.int .i64 b.kind, .int .u64 b.num, .string b.text, .slice pb nb cb, .int .i64 b.elem] 25 (0, 0))) ∧ (W16.heap[x7]? = some (.cells #[.int .i64 a.kind, .int .u64 a.num, .string a.text, .slice (some ⟨g_x7, 0, none⟩) na (na + 3), .int .i64 a.elem] 25 (0, 0))) ∧ (VO W16 we.heap.size (V.mk b.kind (xor1 b.num) b.text (b.list.map V.turned) b.elem) (.slice p_x13 nb c_x13) FT) ∧ (W16.heap[x13]? = some (.cells #[.int .i64 b.kind, .int .u64 (xor1 b.num), .string b.text, .slice p_x13 nb c_x13, .int .i64 b.elem] 25 (0, 0))) ∧ (W16.heap[x8]? = some (.cells #[.int .i64 b.kind, .int .u64 (xor1 b.num), .string b.text, .slice (some ⟨g_x8, 0, none⟩) nb (nb + 3), .int .i64 b.elem] 25 (0, 0)))) := Lib.hid ((And.intro (KeepF.below HM21.out.1 hk (fun j q => by have h1 := HIN_F8.out j q; have z0 := HX_x0.out; have z1 := HX_x1.out; have z2 := HZw.out; have z3 := HLT0.out; have z4 := HLT1.out; have z5 := HZ1.out; have z6 := HZ2.out; have z7 := HZ3.out; have z8 := HX_x7.out; have z9 := HLT_x7.out; have z10 := HZ4.out; have z11 := HZ5.out; have z12 := HX_x8.out; have z13 := HLT_x8.out; have z14 := HZ6.out; have z15 := HZ7.out; have z16 := HZ8.out; have z17 := HZ9.out; have z18 := HZ10.out; have z19 := HZ11.out; have z20 := HX_x13.out; have z21 := HLT_x13.out; have z22 := HZ12.out; have z23 := HZ14.out; have z24 := HZ16.out; have z25 := HZ17.out; have z26 := HZ19.out; have z27 := HZ21.out; omega) HM21.out.1.size) (And.intro ((hk.block _ (Array.getElem?_eq_some_iff.1 HM21.out.2.1).1 (fun q => by have h1 := HIN_F8.out _ q; have z0 := HX_x0.out; have z1 := HX_x1.out; have z2 := HZw.out; have z3 := HLT0.out; have z4 := HLT1.out; have z5 := HZ1.out; have z6 := HZ2.out; have z7 := HZ3.out; have z8 := HX_x7.out; have z9 := HLT_x7.out; have z10 := HZ4.out; have z11 := HZ5.out; have z12 := HX_x8.out; have z13 := HLT_x8.out; have z14 := HZ6.out; have z15 := HZ7.out; have z16 := HZ8.out; have z17 := HZ9.out; have z18 := HZ10.out; have z19 := HZ11.out; have z20 := HX_x13.out; have z21 := HLT_x13.out; have z22 := HZ12.out; have z23 := HZ14.out; have z24 := HZ16.out; have z25 := HZ17.out; have z26 := HZ19.out; have z27 := HZ21.out; omega)).trans HM21.out.2.1) (And.intro ((hk.block _ (Array.getElem?_eq_some_iff.1 HM21.out.2.2.1).1 (fun q => by have h1 := HIN_F8.out _ q; have z0 := HX_x0.out; have z1 := HX_x1.out; have z2 := HZw.out; have z3 := HLT0.out; have z4 := HLT1.out; have z5 := HZ1.out; have z6 := HZ2.out; have z7 := HZ3.out; have z8 := HX_x7.out; have z9 := HLT_x7.out; have z10 := HZ4.out; have z11 := HZ5.out; have z12 := HX_x8.out; have z13 := HLT_x8.out; have z14 := HZ6.out; have z15 := HZ7.out; have z16 := HZ8.out; have z17 := HZ9.out; have z18 := HZ10.out; have z19 := HZ11.out; have z20 := HX_x13.out; have z21 := HLT_x13.out; have z22 := HZ12.out; have z23 := HZ14.out; have z24 := HZ16.out; have z25 := HZ17.out; have z26 := HZ19.out; have z27 := HZ21.out; omega)).trans HM21.out.2.2.1) (And.intro ((hk.block _ (Array.getElem?_eq_some_iff.1 HM21.out.2.2.2.1).1 (fun q => by have h1 := HIN_F8.out _ q; have z0 := HX_x0.out; have z1 := HX_x1.out; have z2 := HZw.out; have z3 := HLT0.out; have z4 := HLT1.out; have z5 := HZ1.out; have z6 := HZ2.out; have z7 := HZ3.out; have z8 := HX_x7.out; have z9 := HLT_x7.out; have z10 := HZ4.out; have z11 := HZ5.out; have z12 := HX_x8.out; have z13 := HLT_x8.out; have z14 := HZ6.out; have z15 := HZ7.out; have z16 := HZ8.out; have z17 := HZ9.out; have z18 := HZ10.out; have z19 := HZ11.out; have z20 := HX_x13.out; have z21 := HLT_x13.out; have z22 := HZ12.out; have z23 := HZ14.out; have z24 := HZ16.out; have z25 := HZ17.out; have z26 := HZ19.out; have z27 := HZ21.out; omega)).trans HM21.out.2.2.2.1) (And.intro (HM21.out.2.2.2.2.1.keepF hk (fun j g q => by have h1 := HIN_F8.out j q; have h2 := HIN_FT.out j g; have z0 := HX_x0.out; have z1 := HX_x1.out; have z2 := HZw.out; have z3 := HLT0.out; have z4 := HLT1.out; have z5 := HZ1.out; have z6 := HZ2.out; have z7 := HZ3.out; have z8 := HX_x7.out; have z9 := HLT_x7.out; have z10 := HZ4.out; have z11 := HZ5.out; have z12 := HX_x8.out; have z13 := HLT_x8.out; have z14 := HZ6.out; have z15 := HZ7.out; have z16 := HZ8.out; have z17 := HZ9.out; have z18 := HZ10.out; have z19 := HZ11.out; have z20 := HX_x13.out; have z21 := HLT_x13.out; have z22 := HZ12.out; have z23 := HZ14.out; have z24 := HZ16.out; have z25 := HZ17.out; have z26 := HZ19.out; have z27 := HZ21.out; omega)) (And.intro ((hk.block _ (Array.getElem?_eq_some_iff.1 HM21.out.2.2.2.2.2.1).1 (fun q => by have h1 := HIN_F8.out _ q; have z0 := HX_x0.out; have z1 := HX_x1.out; have z2 := HZw.out; have z3 := HLT0.out; have z4 := HLT1.out; have z5 := HZ1.out; have z6 := HZ2.out; have z7 := HZ3.out; have z8 := HX_x7.out; have z9 := HLT_x7.out; have z10 := HZ4.out; have z11 := HZ5.out; have z12 := HX_x8.out; have z13 := HLT_x8.out; have z14 := HZ6.out; have z15 := HZ7.out; have z16 := HZ8.out; have z17 := HZ9.out; have z18 := HZ10.out; have z19 := HZ11.out; have z20 := HX_x13.out; have z21 := HLT_x13.out; have z22 := HZ12.out; have z23 := HZ14.out; have z24 := HZ16.out; have z25 := HZ17.out; have z26 := HZ19.out; have z27 := HZ21.out; omega)).trans HM21.out.2.2.2.2.2.1) ((hk.block _ (Array.getElem?_eq_some_iff.1 HM21.out.2.2.2.2.2.2).1 (fun q => by have h1 := HIN_F8.out _ q; have z0 := HX_x0.out; have z1 := HX_x1.out; have z2 := HZw.out; have z3 := HLT0.out; have z4 := HLT1.out; have z5 := HZ1.out; have z6 := HZ2.out; have z7 := HZ3.out; have z8 := HX_x7.out; have z9 := HLT_x7.out; have z10 := HZ4.out; have z11 := HZ5.out; have z12 := HX_x8.out; have z13 := HLT_x8.out; have z14 := HZ6.out; have z15 := HZ7.out; have z16 := HZ8.out; have z17 := HZ9.out; have z18 := HZ10.out; have z19 := HZ11.out; have z20 := HX_x13.out; have z21 := HLT_x13.out; have z22 := HZ12.out; have z23 := HZ14.out; have z24 := HZ16.out; have z25 := HZ17.out; have z26 := HZ19.out; have z27 := HZ21.out; omega)).trans HM21.out.2.2.2.2.2.2))))))))
  clear HM21
  clear hk
  have hc := requal_any a W16 _ b _ (HV.out.1.blw HM22.out.1) (HV.out.2.blw HM22.out.1)
  rw [HD1.out] at hc
  have HC17 := Lib.hid hc
  clear hc
  have q := HM22.out.2.1
  have x0_0 : W16.cell? ⟨x0, 0, none⟩ = some (.int .i64 a.kind) := (cell_of_row _ _ 0 _ _ _ q).trans rfl
  have x0_1 : W16.cell? ⟨x0, 1, none⟩ = some (.int .u64 a.num) := (cell_of_row _ _ 1 _ _ _ q).trans rfl
  have x0_2 : W16.cell? ⟨x0, 2, none⟩ = some (.string a.text) := (cell_of_row _ _ 2 _ _ _ q).trans rfl
  have x0_3 : W16.cell? ⟨x0, 3, none⟩ = some (.slice pa na ca) := (cell_of_row _ _ 3 _ _ _ q).trans rfl
  have x0_4 : W16.cell? ⟨x0, 4, none⟩ = some (.int .i64 a.elem) := (cell_of_row _ _ 4 _ _ _ q).trans rfl
  clear q
  have q := HM22.out.2.2.1
  have x1_0 : W16.cell? ⟨x1, 0, none⟩ = some (.int .i64 b.kind) := (cell_of_row _ _ 0 _ _ _ q).trans rfl
  have x1_1 : W16.cell? ⟨x1, 1, none⟩ = some (.int .u64 b.num) := (cell_of_row _ _ 1 _ _ _ q).trans rfl
  have x1_2 : W16.cell? ⟨x1, 2, none⟩ = some (.string b.text) := (cell_of_row _ _ 2 _ _ _ q).trans rfl
  have x1_3 : W16.cell? ⟨x1, 3, none⟩ = some (.slice pb nb cb) := (cell_of_row _ _ 3 _ _ _ q).trans rfl
  have x1_4 : W16.cell? ⟨x1, 4, none⟩ = some (.int .i64 b.elem) := (cell_of_row _ _ 4 _ _ _ q).trans rfl
  clear q
  go_wp2_with fail
  refine HC17.out.mono ?_
  clear x0_0 x0_1 x0_2 x0_3 x0_4 x1_0 x1_1 x1_2 x1_3 x1_4
  rintro e W17 ⟨rfl, hb⟩
  have hz22 : W16.heap.size ≤ W17.heap.size := hb.size
  have HZ22 := Lib.hid hz22
  clear hz22
  have HM23 : Hid ((Below w.heap.size w W17) ∧ (W17.heap[x0]? = some (.cells #[.int .i64 a.kind, .int .u64 a.num, .string a.text, .slice pa na ca, .int .i64 a.elem] 25 (0, 0))) ∧ (W17.heap[x1]? = some (.cells #[.int .i64 b.kind, .int .u64 b.num, .string b.text, .slice pb nb cb, .int .i64 b.elem] 25 (0, 0))) ∧ (W17.heap[x7]? = some (.cells #[.int .i64 a.kind, .int .u64 a.num, .string a.text, .slice (some ⟨g_x7, 0, none⟩) na (na + 3), .int .i64 a.elem] 25 (0, 0))) ∧ (VO W17 we.heap.size (V.mk b.kind (xor1 b.num) b.text (b.list.map V.turned) b.elem) (.slice p_x13 nb c_x13) FT) ∧ (W17.heap[x13]? = some (.cells #[.int .i64 b.kind, .int .u64 (xor1 b.num), .string b.text, .slice p_x13 nb c_x13, .int .i64 b.elem] 25 (0, 0))) ∧ (W17.heap[x8]? = some (.cells #[.int .i64 b.kind, .int .u64 (xor1 b.num), .string b.text, .slice (some ⟨g_x8, 0, none⟩) nb (nb + 3), .int .i64 b.elem] 25 (0, 0)))) := Lib.hid ((And.intro (HM22.out.1.trans (hb.mono HM22.out.1.size)) (And.intro ((hb.block _ (Array.getElem?_eq_some_iff.1 HM22.out.2.1).1).trans HM22.out.2.1) (And.intro ((hb.block _ (Array.getElem?_eq_some_iff.1 HM22.out.2.2.1).1).trans HM22.out.2.2.1) (And.intro ((hb.block _ (Array.getElem?_eq_some_iff.1 HM22.out.2.2.2.1).1).trans HM22.out.2.2.2.1) (And.intro (HM22.out.2.2.2.2.1.blw hb) (And.intro ((hb.block _ (Array.getElem?_eq_some_iff.1 HM22.out.2.2.2.2.2.1).1).trans HM22.out.2.2.2.2.2.1) ((hb.block _ (Array.getElem?_eq_some_iff.1 HM22.out.2.2.2.2.2.2).1).trans HM22.out.2.2.2.2.2.2))))))))
  clear HM22
  clear hb
  have hc : Calls Tryd.prog 17 #[.agg #[.int .i64 a.kind, .int .u64 a.num, .string a.text, .slice pa na ca, .int .i64 a.elem], .agg #[.int .i64 b.kind, .int .u64 (xor1 b.num), .string b.text, .slice p_x13 nb c_x13, .int .i64 b.elem]] W17 _ := requal_any a W17 _ (V.mk b.kind (xor1 b.num) b.text (b.list.map V.turned) b.elem) _ (HV.out.1.blw HM23.out.1) HM23.out.2.2.2.2.1.vin
  rw [HD2.out] at hc
  have HC18 := Lib.hid hc
  clear hc
  have q := HM23.out.2.1
  have x0_0 : W17.cell? ⟨x0, 0, none⟩ = some (.int .i64 a.kind) := (cell_of_row _ _ 0 _ _ _ q).trans rfl
  have x0_1 : W17.cell? ⟨x0, 1, none⟩ = some (.int .u64 a.num) := (cell_of_row _ _ 1 _ _ _ q).trans rfl
  have x0_2 : W17.cell? ⟨x0, 2, none⟩ = some (.string a.text) := (cell_of_row _ _ 2 _ _ _ q).trans rfl
  have x0_3 : W17.cell? ⟨x0, 3, none⟩ = some (.slice pa na ca) := (cell_of_row _ _ 3 _ _ _ q).trans rfl
  have x0_4 : W17.cell? ⟨x0, 4, none⟩ = some (.int .i64 a.elem) := (cell_of_row _ _ 4 _ _ _ q).trans rfl
  clear q
  have q := HM23.out.2.2.2.2.2.1
  have x13_0 : W17.cell? ⟨x13, 0, none⟩ = some (.int .i64 b.kind) := (cell_of_row _ _ 0 _ _ _ q).trans rfl
  have x13_1 : W17.cell? ⟨x13, 1, none⟩ = some (.int .u64 (xor1 b.num)) := (cell_of_row _ _ 1 _ _ _ q).trans rfl
  have x13_2 : W17.cell? ⟨x13, 2, none⟩ = some (.string b.text) := (cell_of_row _ _ 2 _ _ _ q).trans rfl
  have x13_3 : W17.cell? ⟨x13, 3, none⟩ = some (.slice p_x13 nb c_x13) := (cell_of_row _ _ 3 _ _ _ q).trans rfl
  have x13_4 : W17.cell? ⟨x13, 4, none⟩ = some (.int .i64 b.elem) := (cell_of_row _ _ 4 _ _ _ q).trans rfl
  clear q
  go_wp2_with fail
  refine HC18.out.mono ?_
  clear x0_0 x0_1 x0_2 x0_3 x0_4 x13_0 x13_1 x13_2 x13_3 x13_4
  rintro e W18 ⟨rfl, hb⟩
  have hz23 : W17.heap.size ≤ W18.heap.size := hb.size
  have HZ23 := Lib.hid hz23
  clear hz23
  have HM24 : Hid ((Below w.heap.size w W18) ∧ (W18.heap[x0]? = some (.cells #[.int .i64 a.kind, .int .u64 a.num, .string a.text, .slice pa na ca, .int .i64 a.elem] 25 (0, 0))) ∧ (W18.heap[x1]? = some (.cells #[.int .i64 b.kind, .int .u64 b.num, .string b.text, .slice pb nb cb, .int .i64 b.elem] 25 (0, 0))) ∧ (W18.heap[x7]? = some (.cells #[.int .i64 a.kind, .int .u64 a.num, .string a.text, .slice (some ⟨g_x7, 0, none⟩) na (na + 3), .int .i64 a.elem] 25 (0, 0))) ∧ (VO W18 we.heap.size (V.mk b.kind (xor1 b.num) b.text (b.list.map V.turned) b.elem) (.slice p_x13 nb c_x13) FT) ∧ (W18.heap[x13]? = some (.cells #[.int .i64 b.kind, .int .u64 (xor1 b.num), .string b.text, .slice p_x13 nb c_x13, .int .i64 b.elem] 25 (0, 0))) ∧ (W18.heap[x8]? = some (.cells #[.int .i64 b.kind, .int .u64 (xor1 b.num), .string b.text, .slice (some ⟨g_x8, 0, none⟩) nb (nb + 3), .int .i64 b.elem] 25 (0, 0)))) := Lib.hid ((And.intro (HM23.out.1.trans (hb.mono HM23.out.1.size)) (And.intro ((hb.block _ (Array.getElem?_eq_some_iff.1 HM23.out.2.1).1).trans HM23.out.2.1) (And.intro ((hb.block _ (Array.getElem?_eq_some_iff.1 HM23.out.2.2.1).1).trans HM23.out.2.2.1) (And.intro ((hb.block _ (Array.getElem?_eq_some_iff.1 HM23.out.2.2.2.1).1).trans HM23.out.2.2.2.1) (And.intro (HM23.out.2.2.2.2.1.blw hb) (And.intro ((hb.block _ (Array.getElem?_eq_some_iff.1 HM23.out.2.2.2.2.2.1).1).trans HM23.out.2.2.2.2.2.1) ((hb.block _ (Array.getElem?_eq_some_iff.1 HM23.out.2.2.2.2.2.2).1).trans HM23.out.2.2.2.2.2.2))))))))
  clear HM23
  clear hb
  go_wp2_with fail
  go_ret
  exact ⟨rfl, HM24.out.1⟩

end Go.Proofs.YtakbgekamjpibaaDoor
