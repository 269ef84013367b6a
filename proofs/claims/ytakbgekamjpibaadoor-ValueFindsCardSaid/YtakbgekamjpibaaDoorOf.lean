/-
  ValueFinds. Conditions: the values lie in memory; the tables stand.
-/
import Derived.Test.YtakbgekamjpibaaDoorOe
import Derived.Deep.AppendLies
namespace Go.Proofs.YtakbgekamjpibaaDoor
open Go.RowKit
set_option linter.unusedVariables false

attribute [local go_sem] Oper.semAt_some

set_option maxRecDepth 20000 in
set_option maxHeartbeats 4000000 in
theorem finds_walk (w : World) (hT : Tabs w) (a : V) (s : Value) (b : V) (t : Value) (ha : VIn w a s) (hb : VIn w b t) :
    Calls Tryd.prog 10 #[.agg #[.int .i64 a.kind, .int .u64 a.num, .string a.text, s, .int .i64 a.elem], .agg #[.int .i64 b.kind, .int .u64 b.num, .string b.text, t, .int .i64 b.elem]] w fun e w' => e = .returned (.bool true) ∧ Below w.heap.size w w' := by
  obtain ⟨pa, ca, hsa, hja⟩ := ha.slice
  clear hja
  obtain ⟨na, hna⟩ : ∃ n, a.list.length = n := ⟨_, rfl⟩
  rw [hna] at hsa
  subst hsa
  obtain ⟨pb, cb, hsb, hjb⟩ := hb.slice
  clear hjb
  obtain ⟨nb, hnb⟩ : ∃ n, b.list.length = n := ⟨_, rfl⟩
  rw [hnb] at hsb
  subst hsb
  have HV := Lib.hid (And.intro ha hb)
  have HT := Lib.hid hT
  clear ha hb hT
  have HNA := Lib.hid hna
  have HNB := Lib.hid hnb
  clear hna hnb
  go_enter Tryd.func10, Tryd.ntmps10
  go_upto_region 1 with fail
  have hb0 : Below w.heap.size w ((w.alloc (.cells #[.int .i64 a.kind, .int .u64 a.num, .string a.text, .slice pa na ca, .int .i64 a.elem] 25)).alloc (.cells #[.int .i64 b.kind, .int .u64 b.num, .string b.text, .slice pb nb cb, .int .i64 b.elem] 25)) := ((Below.refl _ _).alloc (Nat.le_refl _) _).alloc (by simp) _
  have o0 : ((w.alloc (.cells #[.int .i64 a.kind, .int .u64 a.num, .string a.text, .slice pa na ca, .int .i64 a.elem] 25)).alloc (.cells #[.int .i64 b.kind, .int .u64 b.num, .string b.text, .slice pb nb cb, .int .i64 b.elem] 25)).heap[w.heap.size]? = some (.cells #[.int .i64 a.kind, .int .u64 a.num, .string a.text, .slice pa na ca, .int .i64 a.elem] 25 (0, 0)) := (_root_.Go.heap_alloc_old _ _ (by simp; try omega)).trans (_root_.Go.heap_alloc_new w _)
  have o1 : ((w.alloc (.cells #[.int .i64 a.kind, .int .u64 a.num, .string a.text, .slice pa na ca, .int .i64 a.elem] 25)).alloc (.cells #[.int .i64 b.kind, .int .u64 b.num, .string b.text, .slice pb nb cb, .int .i64 b.elem] 25)).heap[w.heap.size + 1]? = some (.cells #[.int .i64 b.kind, .int .u64 b.num, .string b.text, .slice pb nb cb, .int .i64 b.elem] 25 (0, 0)) := (by have := _root_.Go.heap_alloc_new (w.alloc (.cells #[.int .i64 a.kind, .int .u64 a.num, .string a.text, .slice pa na ca, .int .i64 a.elem] 25)) (.cells #[.int .i64 b.kind, .int .u64 b.num, .string b.text, .slice pb nb cb, .int .i64 b.elem] 25); rwa [World.size_alloc] at this)
  generalize ((w.alloc (.cells #[.int .i64 a.kind, .int .u64 a.num, .string a.text, .slice pa na ca, .int .i64 a.elem] 25)).alloc (.cells #[.int .i64 b.kind, .int .u64 b.num, .string b.text, .slice pb nb cb, .int .i64 b.elem] 25)) = w0 at *
  obtain ⟨x0, hx0⟩ : ∃ x, w.heap.size = x := ⟨_, rfl⟩
  obtain ⟨x1, hx1⟩ : ∃ x, x0 + 1 = x := ⟨_, rfl⟩
  rw [hx0] at o0
  rw [hx0, hx1] at o1
  rw [hx0, hx1]
  have HX_x0 := Lib.hid hx0
  have HX_x1 := Lib.hid hx1
  have HZw := Lib.hid hb0.size
  have hlt0 := (Array.getElem?_eq_some_iff.1 o0).1
  have HLT0 := Lib.hid hlt0
  clear hlt0
  have hlt1 := (Array.getElem?_eq_some_iff.1 o1).1
  have HLT1 := Lib.hid hlt1
  clear hlt1
  have HM1 : Hid ((Below w.heap.size w w0) ∧ (w0.heap[x0]? = some (.cells #[.int .i64 a.kind, .int .u64 a.num, .string a.text, .slice pa na ca, .int .i64 a.elem] 25 (0, 0))) ∧ (w0.heap[x1]? = some (.cells #[.int .i64 b.kind, .int .u64 b.num, .string b.text, .slice pb nb cb, .int .i64 b.elem] 25 (0, 0)))) := Lib.hid ((And.intro hb0 (And.intro o0 o1)))
  clear hb0 o0 hx0 o1 hx1
  have hc := awake_any w0 (HT.out.below HM1.out.1)
  have HC1 := Lib.hid hc
  clear hc
  go_wp2_with fail
  refine HC1.out.mono ?_
  rintro e W1 ⟨rfl, hb⟩
  have hz1 : w0.heap.size ≤ W1.heap.size := hb.size
  have HZ1 := Lib.hid hz1
  clear hz1
  have HM2 : Hid ((Below w.heap.size w W1) ∧ (W1.heap[x0]? = some (.cells #[.int .i64 a.kind, .int .u64 a.num, .string a.text, .slice pa na ca, .int .i64 a.elem] 25 (0, 0))) ∧ (W1.heap[x1]? = some (.cells #[.int .i64 b.kind, .int .u64 b.num, .string b.text, .slice pb nb cb, .int .i64 b.elem] 25 (0, 0)))) := Lib.hid ((And.intro (HM1.out.1.trans (hb.mono HM1.out.1.size)) (And.intro ((hb.block _ (Array.getElem?_eq_some_iff.1 HM1.out.2.1).1).trans HM1.out.2.1) ((hb.block _ (Array.getElem?_eq_some_iff.1 HM1.out.2.2).1).trans HM1.out.2.2))))
  clear HM1
  clear hb
  have q := HM2.out.2.1
  have x0_0 : W1.cell? ⟨x0, 0, none⟩ = some (.int .i64 a.kind) := (cell_of_row _ _ 0 _ _ _ q).trans rfl
  have x0_1 : W1.cell? ⟨x0, 1, none⟩ = some (.int .u64 a.num) := (cell_of_row _ _ 1 _ _ _ q).trans rfl
  have x0_2 : W1.cell? ⟨x0, 2, none⟩ = some (.string a.text) := (cell_of_row _ _ 2 _ _ _ q).trans rfl
  have x0_3 : W1.cell? ⟨x0, 3, none⟩ = some (.slice pa na ca) := (cell_of_row _ _ 3 _ _ _ q).trans rfl
  have x0_4 : W1.cell? ⟨x0, 4, none⟩ = some (.int .i64 a.elem) := (cell_of_row _ _ 4 _ _ _ q).trans rfl
  clear q
  have q := HM2.out.2.2
  have x1_0 : W1.cell? ⟨x1, 0, none⟩ = some (.int .i64 b.kind) := (cell_of_row _ _ 0 _ _ _ q).trans rfl
  have x1_1 : W1.cell? ⟨x1, 1, none⟩ = some (.int .u64 b.num) := (cell_of_row _ _ 1 _ _ _ q).trans rfl
  have x1_2 : W1.cell? ⟨x1, 2, none⟩ = some (.string b.text) := (cell_of_row _ _ 2 _ _ _ q).trans rfl
  have x1_3 : W1.cell? ⟨x1, 3, none⟩ = some (.slice pb nb cb) := (cell_of_row _ _ 3 _ _ _ q).trans rfl
  have x1_4 : W1.cell? ⟨x1, 4, none⟩ = some (.int .i64 b.elem) := (cell_of_row _ _ 4 _ _ _ q).trans rfl
  clear q
  have hbr : Below W1.heap.size W1 (W1.alloc (.cells #[.int .i64 a.kind, .int .u64 a.num, .string a.text, .slice pa na ca, .int .i64 a.elem, .int .i64 b.kind, .int .u64 b.num, .string b.text, .slice pb nb cb, .int .i64 b.elem] 25)) := (Below.refl _ _).alloc (Nat.le_refl _) _
  have hrow : (W1.alloc (.cells #[.int .i64 a.kind, .int .u64 a.num, .string a.text, .slice pa na ca, .int .i64 a.elem, .int .i64 b.kind, .int .u64 b.num, .string b.text, .slice pb nb cb, .int .i64 b.elem] 25)).heap[W1.heap.size]? = some (.cells (vrow [a, b] (fun i => match i with | 0 => .slice pa na ca | _ => .slice pb nb cb)).toArray 25 (0, 0)) := _root_.Go.heap_alloc_new W1 _
  have hbl := HM2.out.1.trans (hbr.mono HM2.out.1.size)
  have hgr := greatAll_any (.mk 0 0 ⟨#[]⟩ [a, b] 0) _ _ (vin_row hrow (fun i hi => by
    match i, hi with
    | 0, _ => exact (HV.out.1).blw hbl
    | 1, _ => exact (HV.out.2).blw hbl) (by show 2 ≤ maxLen; unfold maxLen; omega))
  have HG : Hid (Calls Tryd.prog 21 #[.slice (some ⟨W1.heap.size, 0, none⟩) 2 2] (W1.alloc (.cells #[.int .i64 a.kind, .int .u64 a.num, .string a.text, .slice pa na ca, .int .i64 a.elem, .int .i64 b.kind, .int .u64 b.num, .string b.text, .slice pb nb cb, .int .i64 b.elem] 25)) _) := Lib.hid hgr
  have HBR := Lib.hid hbr
  clear hbr hrow hgr hbl
  go_wp2_with fail
  refine HG.out.mono ?_
  clear x0_0 x0_1 x0_2 x0_3 x0_4 x1_0 x1_1 x1_2 x1_3 x1_4
  obtain ⟨G, hG⟩ : ∃ G, decide (100000 < wts (V.mk 0 0 ⟨#[]⟩ [a, b] 0).list) = G := ⟨_, rfl⟩
  rw [hG]
  have HGD := Lib.hid hG
  rintro e W2 ⟨rfl, hb2⟩
  have hb : Below W1.heap.size W1 W2 := HBR.out.trans (hb2.mono HBR.out.size)
  clear hb2 hG
  have hz2 : W1.heap.size ≤ W2.heap.size := hb.size
  have HZ2 := Lib.hid hz2
  clear hz2
  have HM3 : Hid ((Below w.heap.size w W2) ∧ (W2.heap[x0]? = some (.cells #[.int .i64 a.kind, .int .u64 a.num, .string a.text, .slice pa na ca, .int .i64 a.elem] 25 (0, 0))) ∧ (W2.heap[x1]? = some (.cells #[.int .i64 b.kind, .int .u64 b.num, .string b.text, .slice pb nb cb, .int .i64 b.elem] 25 (0, 0)))) := Lib.hid ((And.intro (HM2.out.1.trans (hb.mono HM2.out.1.size)) (And.intro ((hb.block _ (Array.getElem?_eq_some_iff.1 HM2.out.2.1).1).trans HM2.out.2.1) ((hb.block _ (Array.getElem?_eq_some_iff.1 HM2.out.2.2).1).trans HM2.out.2.2))))
  clear HM2
  clear hb
  cases G
  rotate_left
  · go_wp2_with fail
    go_ret
    exact ⟨rfl, HM3.out.1⟩
  have HWT := Lib.hid (show wts [a, b] ≤ 100000 from by have h1 := of_decide_eq_false HGD.out; have h2 : ¬ 100000 < wts [a, b] := h1; omega)
  have HW := Lib.hid (show a.wt ≤ 100000 ∧ b.wt ≤ 100000 from by have h := HWT.out; simp only [wts] at h; omega)
  obtain ⟨i0, hi, hz0, hz1, hz2⟩ := info_partsV info_val
  have q := HM3.out.2.2
  have x1_0 : W2.cell? ⟨x1, 0, none⟩ = some (.int .i64 b.kind) := (cell_of_row _ _ 0 _ _ _ q).trans rfl
  have x1_1 : W2.cell? ⟨x1, 1, none⟩ = some (.int .u64 b.num) := (cell_of_row _ _ 1 _ _ _ q).trans rfl
  have x1_2 : W2.cell? ⟨x1, 2, none⟩ = some (.string b.text) := (cell_of_row _ _ 2 _ _ _ q).trans rfl
  have x1_3 : W2.cell? ⟨x1, 3, none⟩ = some (.slice pb nb cb) := (cell_of_row _ _ 3 _ _ _ q).trans rfl
  have x1_4 : W2.cell? ⟨x1, 4, none⟩ = some (.int .i64 b.elem) := (cell_of_row _ _ 4 _ _ _ q).trans rfl
  clear q
  go_upto_region 8 with fail
  have hb : Below W2.heap.size W2 (W2.alloc (.cells #[.int .i64 b.kind, .int .u64 b.num, .string b.text, .slice pb nb cb, .int .i64 b.elem, .int .i64 b.kind, .int .u64 b.num, .string b.text, .slice pb nb cb, .int .i64 b.elem] 25)) := (Below.refl _ _).alloc (Nat.le_refl _) _
  have hks : (W2.alloc (.cells #[.int .i64 b.kind, .int .u64 b.num, .string b.text, .slice pb nb cb, .int .i64 b.elem, .int .i64 b.kind, .int .u64 b.num, .string b.text, .slice pb nb cb, .int .i64 b.elem] 25)).ownsRow W2.heap.size 25 5 (.slice (some ⟨W2.heap.size, 0, none⟩) 2 2) 2 (vrow [b, b] (fun _ => .slice pb nb cb)) := World.ownsRow_lit W2 #[.int .i64 b.kind, .int .u64 b.num, .string b.text, .slice pb nb cb, .int .i64 b.elem, .int .i64 b.kind, .int .u64 b.num, .string b.text, .slice pb nb cb, .int .i64 b.elem] 2 (Nat.le_refl _) (by unfold maxLen; omega) rfl
  clear x1_0 x1_1 x1_2 x1_3 x1_4
  generalize (W2.alloc (.cells #[.int .i64 b.kind, .int .u64 b.num, .string b.text, .slice pb nb cb, .int .i64 b.elem, .int .i64 b.kind, .int .u64 b.num, .string b.text, .slice pb nb cb, .int .i64 b.elem] 25)) = W3 at *
  obtain ⟨kb, hkb⟩ : ∃ x, W2.heap.size = x := ⟨_, rfl⟩
  rw [hkb] at hks ⊢
  have HKB := Lib.hid hkb
  clear hkb
  have hki : KeysIn w a b [b, b] (fun _ => .slice pb nb cb) := fun i hi => by
    match i, hi with
    | 0, _ => exact ⟨HV.out.2, .inl rfl⟩
    | 1, _ => exact ⟨HV.out.2, .inl rfl⟩
  have HKI0 := Lib.hid (And.intro hki hks)
  clear hki hks
  have hz3 : W2.heap.size ≤ W3.heap.size := hb.size
  have HZ3 := Lib.hid hz3
  clear hz3
  have HM4 : Hid ((Below w.heap.size w W3) ∧ (W3.heap[x0]? = some (.cells #[.int .i64 a.kind, .int .u64 a.num, .string a.text, .slice pa na ca, .int .i64 a.elem] 25 (0, 0))) ∧ (W3.heap[x1]? = some (.cells #[.int .i64 b.kind, .int .u64 b.num, .string b.text, .slice pb nb cb, .int .i64 b.elem] 25 (0, 0)))) := Lib.hid ((And.intro (HM3.out.1.trans (hb.mono HM3.out.1.size)) (And.intro ((hb.block _ (Array.getElem?_eq_some_iff.1 HM3.out.2.1).1).trans HM3.out.2.1) ((hb.block _ (Array.getElem?_eq_some_iff.1 HM3.out.2.2).1).trans HM3.out.2.2))))
  clear HM3
  clear hb
  go_wp2_with fail
  go_loopw [7, 8] (fun v7 v8 wr => ∃ (k j : Nat) (Ks : List V) (ss : Nat → Value), k = 2 * j ∧ k ≤ 40 ∧ v8 = .int .i64 k ∧ Ks.length = 2 + 3 * j ∧ KeysIn w a b Ks ss ∧ wr.ownsRow kb 25 5 v7 (2 + 3 * j) (vrow Ks ss) ∧ W3.heap.size ≤ wr.heap.size ∧ (Below w.heap.size w wr) ∧ (wr.heap[x0]? = some (.cells #[.int .i64 a.kind, .int .u64 a.num, .string a.text, .slice pa na ca, .int .i64 a.elem] 25 (0, 0))) ∧ (wr.heap[x1]? = some (.cells #[.int .i64 b.kind, .int .u64 b.num, .string b.text, .slice pb nb cb, .int .i64 b.elem] 25 (0, 0)))) (fun _ v8 _ => 40 - (intOf v8).toNat)
  case atStart => exact ⟨0, 0, _, _, rfl, by omega, rfl, rfl, HKI0.out.1, HKI0.out.2, Nat.le_refl _, HM4.out⟩
  case round =>
    obtain ⟨k, j, Ks, ss, hkj, hj, rfl, hkl, hki, hrow, hzr, hf⟩ := hrel
    have HM0 := Lib.hid hf
    have HZR := Lib.hid hzr
    have HKJ := Lib.hid hkj
    have HKS := Lib.hid (And.intro hkl (And.intro hki hrow))
    obtain ⟨pk, ck, hpk, hj1⟩ := ownsRow_form hrow
    clear hj1
    subst hpk
    clear hkl hki hrow hf hzr hkj
    have q := HM0.out.2.1
    have x0_0 : wr.cell? ⟨x0, 0, none⟩ = some (.int .i64 a.kind) := (cell_of_row _ _ 0 _ _ _ q).trans rfl
    have x0_1 : wr.cell? ⟨x0, 1, none⟩ = some (.int .u64 a.num) := (cell_of_row _ _ 1 _ _ _ q).trans rfl
    have x0_2 : wr.cell? ⟨x0, 2, none⟩ = some (.string a.text) := (cell_of_row _ _ 2 _ _ _ q).trans rfl
    have x0_3 : wr.cell? ⟨x0, 3, none⟩ = some (.slice pa na ca) := (cell_of_row _ _ 3 _ _ _ q).trans rfl
    have x0_4 : wr.cell? ⟨x0, 4, none⟩ = some (.int .i64 a.elem) := (cell_of_row _ _ 4 _ _ _ q).trans rfl
    clear q
    go_upto_region 9 with fail
    go_cut [45] (fun s45 wx => wr = wx ∧ s45 = .bool (decide ((k : Int) < na ∧ (k : Int) < 40)))
    case first =>
      by_cases hc1 : (k : Int) < na
      · by_cases hc2 : (k : Int) < 40
        · go_wp2_with fail
          go_meet
          exact ⟨rfl, by rw [decide_eq_true ⟨hc1, hc2⟩]⟩
        · go_wp2_with fail
          go_meet
          exact ⟨rfl, by rw [decide_eq_false (by omega)]⟩
      · go_wp2_with fail
        go_meet
        exact ⟨rfl, by rw [decide_eq_false (by omega)]⟩
    case rest =>
    obtain ⟨rfl, rfl⟩ := hcut
    clear x0_0 x0_1 x0_2 x0_3 x0_4
    by_cases hc : (k : Int) < na ∧ (k : Int) < 40
    · rw [decide_eq_true hc]
      obtain ⟨hc1, hc2⟩ := hc
      have ka : k < a.list.length := by rw [HNA.out]; omega
      obtain ⟨b1, o1, hpa⟩ : ∃ b1 o1, pa = some ⟨b1, o1, none⟩ := by
        obtain ⟨p, c, e, _, _, h⟩ := HV.out.1.slice
        simp only [Value.slice.injEq] at e
        rw [e.1]
        exact h (by omega)
      subst hpa
      obtain ⟨ta, hta, hia⟩ := HV.out.1.part rfl ka
      obtain ⟨px, cx, hsx, hj0⟩ := hia.slice
      clear hj0
      subst hsx
      have hmem := List.getElem_mem ka
      obtain ⟨xa, hxa⟩ : ∃ xa, a.list[k] = xa := ⟨_, rfl⟩
      rw [hxa] at hta hia hmem
      obtain ⟨nx, hnx⟩ : ∃ n, xa.list.length = n := ⟨_, rfl⟩
      rw [hnx] at hta hia
      have HX := Lib.hid (And.intro hia (And.intro hmem hta))
      clear hta hia hmem hxa hnx ka
      obtain ⟨QK, hQK⟩ : ∃ Q : Nat → Prop, (fun g => (Value.slice pk (2 + 3 * j) ck).ownBlock = some g) = Q := ⟨_, rfl⟩
      have HQK := Lib.hid hQK
      have HIN_QK : Hid (∀ g, QK g → kb ≤ g ∧ g < wr.heap.size) := Lib.hid (fun g q => by rw [← hQK] at q; exact World.ownsRow.lt HKS.out.2.2 g q)
      clear hQK
      have HS : Hid (∀ W', KeepF QK wr W' → W'.cell? ⟨x0, 3, none⟩ = some (.slice (some ⟨b1, o1, none⟩) na ca) ∧ W'.cell? ⟨x1, 0, none⟩ = some (.int .i64 b.kind) ∧ W'.cell? ⟨x1, 1, none⟩ = some (.int .u64 b.num) ∧ W'.cell? ⟨x1, 2, none⟩ = some (.string b.text) ∧ W'.cell? ⟨x1, 3, none⟩ = some (.slice pb nb cb) ∧ W'.cell? ⟨x1, 4, none⟩ = some (.int .i64 b.elem) ∧ W'.cell? ⟨b1, o1 + k * 5, none⟩ = some (.int .i64 xa.kind) ∧ W'.cell? ⟨b1, o1 + k * 5 + 1, none⟩ = some (.int .u64 xa.num) ∧ W'.cell? ⟨b1, o1 + k * 5 + 2, none⟩ = some (.string xa.text) ∧ W'.cell? ⟨b1, o1 + k * 5 + 3, none⟩ = some (.slice px nx cx) ∧ W'.cell? ⟨b1, o1 + k * 5 + 4, none⟩ = some (.int .i64 xa.elem)) := Lib.hid (fun W' hW => by
        have hB := KeepF.below HM0.out.1 hW (fun j q => by have h1 := HIN_QK.out j q; have z0 := HX_x0.out; have z1 := HX_x1.out; have z2 := HZw.out; have z3 := HLT0.out; have z4 := HLT1.out; have z5 := HZ1.out; have z6 := HZ2.out; have z7 := HKB.out; have z8 := HZ3.out; have z9 := HZR.out; omega) HM0.out.1.size
        obtain ⟨d0, d1, d2, d3, d4⟩ := part_cells (rangeAt_rd HX.out.2.2 (rd_below hB))
        have q0 := (hW.block x0 (Array.getElem?_eq_some_iff.1 HM0.out.2.1).1 (fun q => by have h1 := HIN_QK.out _ q; have z0 := HX_x0.out; have z1 := HX_x1.out; have z2 := HZw.out; have z3 := HLT0.out; have z4 := HLT1.out; have z5 := HZ1.out; have z6 := HZ2.out; have z7 := HKB.out; have z8 := HZ3.out; have z9 := HZR.out; omega)).trans HM0.out.2.1
        have q1 := (hW.block x1 (Array.getElem?_eq_some_iff.1 HM0.out.2.2).1 (fun q => by have h1 := HIN_QK.out _ q; have z0 := HX_x0.out; have z1 := HX_x1.out; have z2 := HZw.out; have z3 := HLT0.out; have z4 := HLT1.out; have z5 := HZ1.out; have z6 := HZ2.out; have z7 := HKB.out; have z8 := HZ3.out; have z9 := HZR.out; omega)).trans HM0.out.2.2
        exact ⟨(cell_of_row _ _ 3 _ _ _ q0).trans rfl, (cell_of_row _ _ 0 _ _ _ q1).trans rfl, (cell_of_row _ _ 1 _ _ _ q1).trans rfl, (cell_of_row _ _ 2 _ _ _ q1).trans rfl, (cell_of_row _ _ 3 _ _ _ q1).trans rfl, (cell_of_row _ _ 4 _ _ _ q1).trans rfl, d0, d1, d2, d3, d4⟩)
      have q := HM0.out.2.1
      have x0_0 : wr.cell? ⟨x0, 0, none⟩ = some (.int .i64 a.kind) := (cell_of_row _ _ 0 _ _ _ q).trans rfl
      have x0_1 : wr.cell? ⟨x0, 1, none⟩ = some (.int .u64 a.num) := (cell_of_row _ _ 1 _ _ _ q).trans rfl
      have x0_2 : wr.cell? ⟨x0, 2, none⟩ = some (.string a.text) := (cell_of_row _ _ 2 _ _ _ q).trans rfl
      have x0_3 : wr.cell? ⟨x0, 3, none⟩ = some (.slice (some ⟨b1, o1, none⟩) na ca) := (cell_of_row _ _ 3 _ _ _ q).trans rfl
      have x0_4 : wr.cell? ⟨x0, 4, none⟩ = some (.int .i64 a.elem) := (cell_of_row _ _ 4 _ _ _ q).trans rfl
      clear q
      go_upto_region 11 with fail
      clear x0_0 x0_1 x0_2 x0_3 x0_4
      have hdr : KeepF QK wr wr.drew := (KeepF.refl _ _).drew
      have HRD : Hid (wr.drew.ownsRow kb 25 5 (.slice pk (2 + 3 * j) ck) (2 + 3 * j) (vrow Ks ss)) := Lib.hid HKS.out.2.2
      have hj20 : j ≤ 20 := by have := HKJ.out; omega
      have hkbz : kb ≤ wr.heap.size := by have z0 := HX_x0.out; have z1 := HX_x1.out; have z2 := HZw.out; have z3 := HLT0.out; have z4 := HLT1.out; have z5 := HZ1.out; have z6 := HZ2.out; have z7 := HKB.out; have z8 := HZ3.out; have z9 := HZR.out; omega
      go_region_held3 (fun W' => W'.cell? ⟨x0, 3, none⟩ = some (.slice (some ⟨b1, o1, none⟩) na ca) ∧ W'.cell? ⟨x1, 0, none⟩ = some (.int .i64 b.kind) ∧ W'.cell? ⟨x1, 1, none⟩ = some (.int .u64 b.num) ∧ W'.cell? ⟨x1, 2, none⟩ = some (.string b.text) ∧ W'.cell? ⟨x1, 3, none⟩ = some (.slice pb nb cb) ∧ W'.cell? ⟨x1, 4, none⟩ = some (.int .i64 b.elem) ∧ W'.cell? ⟨b1, o1 + k * 5, none⟩ = some (.int .i64 xa.kind) ∧ W'.cell? ⟨b1, o1 + k * 5 + 1, none⟩ = some (.int .u64 xa.num) ∧ W'.cell? ⟨b1, o1 + k * 5 + 2, none⟩ = some (.string xa.text) ∧ W'.cell? ⟨b1, o1 + k * 5 + 3, none⟩ = some (.slice px nx cx) ∧ W'.cell? ⟨b1, o1 + k * 5 + 4, none⟩ = some (.int .i64 xa.elem)) (first | exact HS.out _ hdr | exact HS.out _ (hdr.trans (KeepF.of_below ((Below.refl _ _).alloc (Nat.le_refl _) _))) | exact HS.out _ (by assumption))
        (first
          | (refine step_append_lies _ rfl (.tmp 48) (.tmp 60) 23 rfl kb 25 i0 _ 5 64 Tryd.underlying23 hi hz0 hz1 hz2 rfl (by decide) (.slice pk (2 + 3 * j) ck) (2 + 3 * j) (vrow Ks ss) rfl (HRD.out.alloc _) ⟨wr.heap.size, 0, none⟩ 3 3 [.int .i64 xa.kind, .int .u64 xa.num, .string xa.text, .slice px nx cx, .int .i64 xa.elem, .int .i64 b.kind, .int .u64 b.num, .string b.text, .slice pb nb cb, .int .i64 b.elem, .int .i64 xa.kind, .int .u64 xa.num, .string xa.text, .slice px nx cx, .int .i64 xa.elem] rfl rfl (fun j u hj => cell_of_newrow hj) (by simp [Value.oneCell']) (by decide) (by unfold maxLen; omega) (by omega) (by simp; omega) _ rfl ?_; intro g9 c9 w9 hown9 hgrow9 hat9 hlt9; have hk9 : KeepF QK wr w9 := hdr.trans ((KeepF.of_below ((Below.refl _ _).alloc (Nat.le_refl _) _)).trans (HQK.out ▸ keepF_row hgrow9))))
      have HO9 := Lib.hid hown9
      clear hown9 hgrow9 hat9 hlt9
      have hz4 : wr.heap.size ≤ w9.heap.size := hk9.size
      have HZ4 := Lib.hid hz4
      clear hz4
      have HM5 : Hid ((Below w.heap.size w w9) ∧ (w9.heap[x0]? = some (.cells #[.int .i64 a.kind, .int .u64 a.num, .string a.text, .slice (some ⟨b1, o1, none⟩) na ca, .int .i64 a.elem] 25 (0, 0))) ∧ (w9.heap[x1]? = some (.cells #[.int .i64 b.kind, .int .u64 b.num, .string b.text, .slice pb nb cb, .int .i64 b.elem] 25 (0, 0)))) := Lib.hid ((And.intro (KeepF.below HM0.out.1 hk9 (fun j q => by have h1 := HIN_QK.out j q; have z0 := HX_x0.out; have z1 := HX_x1.out; have z2 := HZw.out; have z3 := HLT0.out; have z4 := HLT1.out; have z5 := HZ1.out; have z6 := HZ2.out; have z7 := HKB.out; have z8 := HZ3.out; have z9 := HZR.out; have z10 := HZ4.out; omega) HM0.out.1.size) (And.intro ((hk9.block _ (Array.getElem?_eq_some_iff.1 HM0.out.2.1).1 (fun q => by have h1 := HIN_QK.out _ q; have z0 := HX_x0.out; have z1 := HX_x1.out; have z2 := HZw.out; have z3 := HLT0.out; have z4 := HLT1.out; have z5 := HZ1.out; have z6 := HZ2.out; have z7 := HKB.out; have z8 := HZ3.out; have z9 := HZR.out; have z10 := HZ4.out; omega)).trans HM0.out.2.1) ((hk9.block _ (Array.getElem?_eq_some_iff.1 HM0.out.2.2).1 (fun q => by have h1 := HIN_QK.out _ q; have z0 := HX_x0.out; have z1 := HX_x1.out; have z2 := HZw.out; have z3 := HLT0.out; have z4 := HLT1.out; have z5 := HZ1.out; have z6 := HZ2.out; have z7 := HKB.out; have z8 := HZ3.out; have z9 := HZR.out; have z10 := HZ4.out; omega)).trans HM0.out.2.2))))
      clear HM0
      clear hk9 hdr
      go_wp2_with fail
      go_roundw
      case rel => exact ⟨k + 2, j + 1, Ks ++ [xa, b, xa], _, by have := HKJ.out; omega, by have := HKJ.out; omega, by go_num, by simp; have := HKS.out.1; omega, KeysIn.snoc3 HKS.out.2.1 HX.out.1 HX.out.2.1 HV.out.2, by rw [vrow_snoc3]; exact HO9.out, by have z0 := HX_x0.out; have z1 := HX_x1.out; have z2 := HZw.out; have z3 := HLT0.out; have z4 := HLT1.out; have z5 := HZ1.out; have z6 := HZ2.out; have z7 := HKB.out; have z8 := HZ3.out; have z9 := HZR.out; have z10 := HZ4.out; omega, HM5.out⟩
      case measure => simp [intOf]; omega
    · rw [decide_eq_false hc]
      clear hc
      rename World => wK
      obtain ⟨nK, hnK⟩ : ∃ n, 2 + 3 * j = n := ⟨_, rfl⟩
      have HNK := Lib.hid (show 2 ≤ nK ∧ nK ≤ 62 by have := HKJ.out; omega)
      have hks := HKS.out
      rw [hnK] at hks ⊢
      obtain ⟨hkl, hki, hrow⟩ := hks
      obtain ⟨p, c, hpc, _, hck, hp3⟩ := ownsRow_form hrow
      obtain ⟨kg, rfl, hkg1, hkg2⟩ := hp3 (by have := HNK.out.1; omega)
      simp only [Value.slice.injEq, true_and] at hpc
      obtain ⟨rfl, rfl⟩ := hpc
      clear hj
      have HKI := Lib.hid (And.intro hkl hki)
      obtain ⟨QK, hQK⟩ : ∃ Q : Nat → Prop, (fun g => (Value.slice (some ⟨kg, 0, none⟩) nK ck).ownBlock = some g) = Q := ⟨_, rfl⟩
      have hQK2 := World.ownsRow.lt hrow
      have HIN_QK : Hid (∀ g, QK g → kb ≤ g ∧ g < wK.heap.size) := Lib.hid (fun g q => by rw [← hQK] at q; exact hQK2 g q)
      have HQK := Lib.hid hQK
      clear hQK hQK2 hkl hki hkg1 hkg2 hck hp3
      have HM5 : Hid ((Below w.heap.size w wK) ∧ (wK.heap[x0]? = some (.cells #[.int .i64 a.kind, .int .u64 a.num, .string a.text, .slice pa na ca, .int .i64 a.elem] 25 (0, 0))) ∧ (wK.heap[x1]? = some (.cells #[.int .i64 b.kind, .int .u64 b.num, .string b.text, .slice pb nb cb, .int .i64 b.elem] 25 (0, 0))) ∧ (World.ownsRow wK kb 25 5 (.slice (some ⟨kg, 0, none⟩) nK ck) nK (vrow Ks ss))) := Lib.hid ((And.intro HM0.out.1 (And.intro HM0.out.2.1 (And.intro HM0.out.2.2 hrow))))
      clear HM0
      clear hrow
      have hc := lent_on a wK _ (HV.out.1.blw HM5.out.1) (by have := HW.out.1; omega)
      have HC4 := Lib.hid hc
      clear hc
      have q := HM5.out.2.1
      have x0_0 : wK.cell? ⟨x0, 0, none⟩ = some (.int .i64 a.kind) := (cell_of_row _ _ 0 _ _ _ q).trans rfl
      have x0_1 : wK.cell? ⟨x0, 1, none⟩ = some (.int .u64 a.num) := (cell_of_row _ _ 1 _ _ _ q).trans rfl
      have x0_2 : wK.cell? ⟨x0, 2, none⟩ = some (.string a.text) := (cell_of_row _ _ 2 _ _ _ q).trans rfl
      have x0_3 : wK.cell? ⟨x0, 3, none⟩ = some (.slice pa na ca) := (cell_of_row _ _ 3 _ _ _ q).trans rfl
      have x0_4 : wK.cell? ⟨x0, 4, none⟩ = some (.int .i64 a.elem) := (cell_of_row _ _ 4 _ _ _ q).trans rfl
      clear q
      go_wp2_with fail
      refine HC4.out.mono ?_
      clear x0_0 x0_1 x0_2 x0_3 x0_4
      rintro e W4 ⟨t_x9, F9, rfl, hvl, hb⟩
      obtain ⟨g_x9, hs, hj1, hj2⟩ := hvl.slice
      clear hj1 hj2
      rw [HNA.out] at hs
      subst hs
      have HIN_F9 : Hid (∀ g, F9 g → wK.heap.size ≤ g ∧ g < W4.heap.size) := Lib.hid (hvl.lt)
      have hz5 : wK.heap.size ≤ W4.heap.size := hb.size
      have HZ5 := Lib.hid hz5
      clear hz5
      have HM6 : Hid ((Below w.heap.size w W4) ∧ (W4.heap[x0]? = some (.cells #[.int .i64 a.kind, .int .u64 a.num, .string a.text, .slice pa na ca, .int .i64 a.elem] 25 (0, 0))) ∧ (W4.heap[x1]? = some (.cells #[.int .i64 b.kind, .int .u64 b.num, .string b.text, .slice pb nb cb, .int .i64 b.elem] 25 (0, 0))) ∧ (World.ownsRow W4 kb 25 5 (.slice (some ⟨kg, 0, none⟩) nK ck) nK (vrow Ks ss)) ∧ (VL W4 wK.heap.size a (.slice (some ⟨g_x9, 0, none⟩) na (na + 3)) F9)) := Lib.hid ((And.intro (HM5.out.1.trans (hb.mono HM5.out.1.size)) (And.intro ((hb.block _ (Array.getElem?_eq_some_iff.1 HM5.out.2.1).1).trans HM5.out.2.1) (And.intro ((hb.block _ (Array.getElem?_eq_some_iff.1 HM5.out.2.2.1).1).trans HM5.out.2.2.1) (And.intro (ownsRow_keep HM5.out.2.2.2 (fun j hj => hb.block j (World.ownsRow.lt HM5.out.2.2.2 j hj).2)) hvl)))))
      clear HM5
      clear hb hvl
      go_upto_region 13 with (refine wpList_store_rowTo rfl 25 (.tmp 9) (.tmp 63) rfl rfl W4.heap.size #[.int .i64 a.kind, .int .u64 a.num, .string a.text, .slice (some ⟨g_x9, 0, none⟩) na (na + 3), .int .i64 a.elem] rfl rfl 25 #[.int .i64 0, .int .u64 0, .string ⟨#[]⟩, .slice none 0 0, .int .i64 0] (_root_.Go.heap_alloc_new W4 _) (by as_aux_lemma => kernel_rfl) (by as_aux_lemma => kernel_rfl) (by simp [Value.oneCell']) ?_)
      have hb_W5 : Below W4.heap.size W4 ((W4.alloc (.cells #[.int .i64 0, .int .u64 0, .string ⟨#[]⟩, .slice none 0 0, .int .i64 0] 25)).setRow W4.heap.size #[.int .i64 a.kind, .int .u64 a.num, .string a.text, .slice (some ⟨g_x9, 0, none⟩) na (na + 3), .int .i64 a.elem]) := below_setRow ((Below.refl _ _).alloc (Nat.le_refl _) _) (Nat.le_refl _) _
      have ox9 := setRow_heap (W4.alloc (.cells #[.int .i64 0, .int .u64 0, .string ⟨#[]⟩, .slice none 0 0, .int .i64 0] 25)) W4.heap.size _ #[.int .i64 a.kind, .int .u64 a.num, .string a.text, .slice (some ⟨g_x9, 0, none⟩) na (na + 3), .int .i64 a.elem] _ _ (_root_.Go.heap_alloc_new W4 _)
      change Code.wp _ _ _ _ ((W4.alloc (.cells #[.int .i64 0, .int .u64 0, .string ⟨#[]⟩, .slice none 0 0, .int .i64 0] 25)).setRow W4.heap.size #[.int .i64 a.kind, .int .u64 a.num, .string a.text, .slice (some ⟨g_x9, 0, none⟩) na (na + 3), .int .i64 a.elem])
      generalize ((W4.alloc (.cells #[.int .i64 0, .int .u64 0, .string ⟨#[]⟩, .slice none 0 0, .int .i64 0] 25)).setRow W4.heap.size #[.int .i64 a.kind, .int .u64 a.num, .string a.text, .slice (some ⟨g_x9, 0, none⟩) na (na + 3), .int .i64 a.elem]) = W5 at *
      obtain ⟨x9, hx_x9⟩ : ∃ x, W4.heap.size = x := ⟨_, rfl⟩
      rw [hx_x9] at ox9 ⊢
      have HX_x9 := Lib.hid hx_x9
      clear hx_x9
      have hlt := (Array.getElem?_eq_some_iff.1 ox9).1
      have HLT_x9 := Lib.hid hlt
      clear hlt
      have hz6 : W4.heap.size ≤ W5.heap.size := hb_W5.size
      have HZ6 := Lib.hid hz6
      clear hz6
      have HM7 : Hid ((Below w.heap.size w W5) ∧ (W5.heap[x0]? = some (.cells #[.int .i64 a.kind, .int .u64 a.num, .string a.text, .slice pa na ca, .int .i64 a.elem] 25 (0, 0))) ∧ (W5.heap[x1]? = some (.cells #[.int .i64 b.kind, .int .u64 b.num, .string b.text, .slice pb nb cb, .int .i64 b.elem] 25 (0, 0))) ∧ (World.ownsRow W5 kb 25 5 (.slice (some ⟨kg, 0, none⟩) nK ck) nK (vrow Ks ss)) ∧ (VL W5 wK.heap.size a (.slice (some ⟨g_x9, 0, none⟩) na (na + 3)) F9) ∧ (W5.heap[x9]? = some (.cells #[.int .i64 a.kind, .int .u64 a.num, .string a.text, .slice (some ⟨g_x9, 0, none⟩) na (na + 3), .int .i64 a.elem] 25 (0, 0)))) := Lib.hid ((And.intro (HM6.out.1.trans (hb_W5.mono HM6.out.1.size)) (And.intro ((hb_W5.block _ (Array.getElem?_eq_some_iff.1 HM6.out.2.1).1).trans HM6.out.2.1) (And.intro ((hb_W5.block _ (Array.getElem?_eq_some_iff.1 HM6.out.2.2.1).1).trans HM6.out.2.2.1) (And.intro (ownsRow_keep HM6.out.2.2.2.1 (fun j hj => hb_W5.block j (World.ownsRow.lt HM6.out.2.2.2.1 j hj).2)) (And.intro (HM6.out.2.2.2.2.blw hb_W5) ox9))))))
      clear HM6
      clear hb_W5 ox9
      go_upto_region 14 with fail
      have hb : Below W5.heap.size W5 (W5.alloc (.cells #[.slice none 0 0] 42)) := (Below.refl _ _).alloc (Nat.le_refl _) _
      have hbk : BkIn (W5.alloc (.cells #[.slice none 0 0] 42)) w.heap.size W5.heap.size (.slice none 0 0) [] (fun _ => False) := BkIn.start HM7.out.1.size
      generalize (W5.alloc (.cells #[.slice none 0 0] 42)) = W6 at *
      obtain ⟨bk, hbkn⟩ : ∃ bk, W5.heap.size = bk := ⟨_, rfl⟩
      rw [hbkn] at hbk ⊢
      clear hbkn
      obtain ⟨QZ, hQ⟩ : ∃ Q : Nat → Prop, (fun _ => False) = Q := ⟨_, rfl⟩
      rw [hQ] at hbk
      have HIN_QZ : Hid (∀ g, QZ g → 0 ≤ g ∧ g < 0) := Lib.hid (fun g q => by rw [← hQ] at q; exact q.elim)
      clear hQ
      have hz7 : W5.heap.size ≤ W6.heap.size := hb.size
      have HZ7 := Lib.hid hz7
      clear hz7
      have HM8 : Hid ((Below w.heap.size w W6) ∧ (W6.heap[x0]? = some (.cells #[.int .i64 a.kind, .int .u64 a.num, .string a.text, .slice pa na ca, .int .i64 a.elem] 25 (0, 0))) ∧ (W6.heap[x1]? = some (.cells #[.int .i64 b.kind, .int .u64 b.num, .string b.text, .slice pb nb cb, .int .i64 b.elem] 25 (0, 0))) ∧ (World.ownsRow W6 kb 25 5 (.slice (some ⟨kg, 0, none⟩) nK ck) nK (vrow Ks ss)) ∧ (VL W6 wK.heap.size a (.slice (some ⟨g_x9, 0, none⟩) na (na + 3)) F9) ∧ (W6.heap[x9]? = some (.cells #[.int .i64 a.kind, .int .u64 a.num, .string a.text, .slice (some ⟨g_x9, 0, none⟩) na (na + 3), .int .i64 a.elem] 25 (0, 0))) ∧ (BkIn W6 w.heap.size bk (.slice none 0 0) [] QZ)) := Lib.hid ((And.intro (HM7.out.1.trans (hb.mono HM7.out.1.size)) (And.intro ((hb.block _ (Array.getElem?_eq_some_iff.1 HM7.out.2.1).1).trans HM7.out.2.1) (And.intro ((hb.block _ (Array.getElem?_eq_some_iff.1 HM7.out.2.2.1).1).trans HM7.out.2.2.1) (And.intro (ownsRow_keep HM7.out.2.2.2.1 (fun j hj => hb.block j (World.ownsRow.lt HM7.out.2.2.2.1 j hj).2)) (And.intro (HM7.out.2.2.2.2.1.blw hb) (And.intro ((hb.block _ (Array.getElem?_eq_some_iff.1 HM7.out.2.2.2.2.2).1).trans HM7.out.2.2.2.2.2) hbk)))))))
      clear HM7
      clear hb hbk
      obtain ⟨gb, hgb⟩ : ∃ n, W6.heap.size = n := ⟨_, rfl⟩
      have HGB := Lib.hid hgb
      clear hgb
      go_wp2_with fail
      go_loopw [11, 12] (fun v11 v12 wr => ∃ (ik : Nat) (FG : Nat → Prop), ik ≤ nK ∧ v12 = .int .i64 ik ∧ VO wr gb (V.mk 0 0 ⟨#[]⟩ ((Ks.take ik).map (findV a)) 0) v11 FG ∧ W6.heap.size ≤ wr.heap.size ∧ (Below w.heap.size w wr) ∧ (wr.heap[x0]? = some (.cells #[.int .i64 a.kind, .int .u64 a.num, .string a.text, .slice pa na ca, .int .i64 a.elem] 25 (0, 0))) ∧ (wr.heap[x1]? = some (.cells #[.int .i64 b.kind, .int .u64 b.num, .string b.text, .slice pb nb cb, .int .i64 b.elem] 25 (0, 0))) ∧ (World.ownsRow wr kb 25 5 (.slice (some ⟨kg, 0, none⟩) nK ck) nK (vrow Ks ss)) ∧ (VL wr wK.heap.size a (.slice (some ⟨g_x9, 0, none⟩) na (na + 3)) F9) ∧ (wr.heap[x9]? = some (.cells #[.int .i64 a.kind, .int .u64 a.num, .string a.text, .slice (some ⟨g_x9, 0, none⟩) na (na + 3), .int .i64 a.elem] 25 (0, 0))) ∧ (BkIn wr w.heap.size bk (.slice none 0 0) [] QZ)) (fun _ v12 _ => nK - (intOf v12).toNat)
      case atStart => exact ⟨0, _, Nat.zero_le _, rfl, VO.nil _ _ (wf_bare 0 _ ⟨by omega, by omega⟩) rfl, Nat.le_refl _, HM8.out⟩
      case round =>
        obtain ⟨ik, FG, hik, rfl, hgot, hzr, hf⟩ := hrel
        have HM1000 := Lib.hid hf
        have HZR2 := Lib.hid hzr
        have HGOT := Lib.hid hgot
        obtain ⟨pg, cg, hpg, hj1, hj2⟩ := hgot.slice
        clear hj1 hj2
        subst hpg
        clear hf hzr hgot
        skip
        by_cases hin : (ik : Int) < nK
        · skip
          have ka : ik < Ks.length := by rw [HKI.out.1]; omega
          obtain ⟨hvk, hmem⟩ := HKI.out.2 ik ka
          have htk : (Ks.take (ik + 1)).map (findV a) = (Ks.take ik).map (findV a) ++ [findV a Ks[ik]] := by rw [List.take_add_one, List.getElem?_eq_getElem ka, Option.toList_some, List.map_append]; rfl
          have htl : ((Ks.take ik).map (findV a)).length = ik := by rw [List.length_map, List.length_take]; omega
          obtain ⟨pz, cz, hsz, hj0⟩ := hvk.slice
          clear hj0
          obtain ⟨kx, hkx⟩ : ∃ x, Ks[ik] = x := ⟨_, rfl⟩
          obtain ⟨nz, hnz⟩ : ∃ n, Ks[ik].list.length = n := ⟨_, rfl⟩
          rw [hnz] at hsz
          have hkw : kx.wt ≤ 100000 := by
            have h := HW.out
            rw [← hkx]
            rcases hmem with e | e
            · rw [e]; exact h.2
            · exact Nat.le_trans (Nat.le_of_lt (V.wt_lt e)) h.1
          obtain ⟨fv, hfv⟩ : ∃ x, findV a kx = x := ⟨_, rfl⟩
          obtain ⟨fb, hfb⟩ : ∃ x, findB a kx = x := ⟨_, rfl⟩
          obtain ⟨nf, hnf⟩ : ∃ n, fv.list.length = n := ⟨_, rfl⟩
          rw [hsz, hkx] at hvk
          rw [hkx, hfv] at htk
          have HKX := Lib.hid (And.intro hkx (And.intro ka (And.intro (show kx.list.length = nz by rw [← hkx]; exact hnz) hsz)))
          have HKV := Lib.hid (And.intro hvk (And.intro hkw (And.intro htk htl)))
          have HFV := Lib.hid (And.intro hfv hfb)
          have HNF := Lib.hid hnf
          have HFW := Lib.hid (show fv.wt ≤ 100000 by rw [← hfv]; exact Nat.le_trans (findV_wt a kx) HW.out.1)
          clear hvk hmem hsz hkx hnz hkw hfv hfb hnf htk htl
          obtain ⟨FG2, hFG⟩ : ∃ F : Nat → Prop, FG = F := ⟨_, rfl⟩
          have HIN_FG : Hid (∀ g, FG g → gb ≤ g ∧ g < wr.heap.size) := Lib.hid (fun g q => VO.lt HGOT.out g q)
          clear hFG FG2
          rw [show (V.mk 0 0 ⟨#[]⟩ ((Ks.take ik).map (findV a)) 0).list.length = ik from HKV.out.2.2.2] at HGOT ⊢
          have HM301 : Hid ((Below w.heap.size w wr) ∧ (wr.heap[x0]? = some (.cells #[.int .i64 a.kind, .int .u64 a.num, .string a.text, .slice pa na ca, .int .i64 a.elem] 25 (0, 0))) ∧ (wr.heap[x1]? = some (.cells #[.int .i64 b.kind, .int .u64 b.num, .string b.text, .slice pb nb cb, .int .i64 b.elem] 25 (0, 0))) ∧ (World.ownsRow wr kb 25 5 (.slice (some ⟨kg, 0, none⟩) nK ck) nK (vrow Ks ss)) ∧ (VL wr wK.heap.size a (.slice (some ⟨g_x9, 0, none⟩) na (na + 3)) F9) ∧ (wr.heap[x9]? = some (.cells #[.int .i64 a.kind, .int .u64 a.num, .string a.text, .slice (some ⟨g_x9, 0, none⟩) na (na + 3), .int .i64 a.elem] 25 (0, 0))) ∧ (BkIn wr w.heap.size bk (.slice none 0 0) [] QZ) ∧ (VO wr gb (V.mk 0 0 ⟨#[]⟩ ((Ks.take ik).map (findV a)) 0) (.slice pg ik cg) FG)) := Lib.hid ((And.intro HM1000.out.1 (And.intro HM1000.out.2.1 (And.intro HM1000.out.2.2.1 (And.intro HM1000.out.2.2.2.1 (And.intro HM1000.out.2.2.2.2.1 (And.intro HM1000.out.2.2.2.2.2.1 (And.intro HM1000.out.2.2.2.2.2.2 HGOT.out))))))))
          clear HM1000
          have hkc : ∀ j u, (vcells kx (.slice pz nz cz))[j]? = some u → wr.cell? ⟨kg, ik * 5 + j, none⟩ = some u := fun j u hu => keys_cell HM301.out.2.2.2.1 HKX.out.2.1 (by rw [HKX.out.1, HKX.out.2.2.2]; exact hu)
          have c0 : wr.cell? ⟨kg, ik * 5, none⟩ = some (.int .i64 kx.kind) := hkc 0 _ rfl
          have c1 : wr.cell? ⟨kg, ik * 5 + 1, none⟩ = some (.int .u64 kx.num) := hkc 1 _ rfl
          have c2 : wr.cell? ⟨kg, ik * 5 + 2, none⟩ = some (.string kx.text) := hkc 2 _ rfl
          have c3 : wr.cell? ⟨kg, ik * 5 + 3, none⟩ = some (.slice pz nz cz) := hkc 3 _ rfl
          have c4 : wr.cell? ⟨kg, ik * 5 + 4, none⟩ = some (.int .i64 kx.elem) := hkc 4 _ rfl
          clear hkc
          have hc := lent_on kx wr _ (VIn.blw HKV.out.1 HM301.out.1) (by have := HKV.out.2.1; omega)
          have HC201 := Lib.hid hc
          clear hc
          go_wp2_with fail
          refine HC201.out.mono ?_
          rintro e W201 ⟨t_x13, F13, rfl, hvl, hb⟩
          clear c0 c1 c2 c3 c4
          obtain ⟨g_x13, hs, hj1, hj2⟩ := hvl.slice
          clear hj1 hj2
          rw [HKX.out.2.2.1] at hs
          subst hs
          have HIN_F13 : Hid (∀ g, F13 g → wr.heap.size ≤ g ∧ g < W201.heap.size) := Lib.hid (hvl.lt)
          have hz301 : wr.heap.size ≤ W201.heap.size := hb.size
          have HZ301 := Lib.hid hz301
          clear hz301
          have HM302 : Hid ((Below w.heap.size w W201) ∧ (W201.heap[x0]? = some (.cells #[.int .i64 a.kind, .int .u64 a.num, .string a.text, .slice pa na ca, .int .i64 a.elem] 25 (0, 0))) ∧ (W201.heap[x1]? = some (.cells #[.int .i64 b.kind, .int .u64 b.num, .string b.text, .slice pb nb cb, .int .i64 b.elem] 25 (0, 0))) ∧ (World.ownsRow W201 kb 25 5 (.slice (some ⟨kg, 0, none⟩) nK ck) nK (vrow Ks ss)) ∧ (VL W201 wK.heap.size a (.slice (some ⟨g_x9, 0, none⟩) na (na + 3)) F9) ∧ (W201.heap[x9]? = some (.cells #[.int .i64 a.kind, .int .u64 a.num, .string a.text, .slice (some ⟨g_x9, 0, none⟩) na (na + 3), .int .i64 a.elem] 25 (0, 0))) ∧ (BkIn W201 w.heap.size bk (.slice none 0 0) [] QZ) ∧ (VO W201 gb (V.mk 0 0 ⟨#[]⟩ ((Ks.take ik).map (findV a)) 0) (.slice pg ik cg) FG) ∧ (VL W201 wr.heap.size kx (.slice (some ⟨g_x13, 0, none⟩) nz (nz + 3)) F13)) := Lib.hid ((And.intro (HM301.out.1.trans (hb.mono HM301.out.1.size)) (And.intro ((hb.block _ (Array.getElem?_eq_some_iff.1 HM301.out.2.1).1).trans HM301.out.2.1) (And.intro ((hb.block _ (Array.getElem?_eq_some_iff.1 HM301.out.2.2.1).1).trans HM301.out.2.2.1) (And.intro (ownsRow_keep HM301.out.2.2.2.1 (fun j hj => hb.block j (World.ownsRow.lt HM301.out.2.2.2.1 j hj).2)) (And.intro (HM301.out.2.2.2.2.1.blw hb) (And.intro ((hb.block _ (Array.getElem?_eq_some_iff.1 HM301.out.2.2.2.2.2.1).1).trans HM301.out.2.2.2.2.2.1) (And.intro (HM301.out.2.2.2.2.2.2.1.below hb) (And.intro (HM301.out.2.2.2.2.2.2.2.blw hb) hvl)))))))))
          clear HM301
          clear hb hvl
          go_upto_region 19 with (refine wpList_store_rowTo rfl 25 (.tmp 13) (.tmp 76) rfl rfl W201.heap.size #[.int .i64 kx.kind, .int .u64 kx.num, .string kx.text, .slice (some ⟨g_x13, 0, none⟩) nz (nz + 3), .int .i64 kx.elem] rfl rfl 25 #[.int .i64 0, .int .u64 0, .string ⟨#[]⟩, .slice none 0 0, .int .i64 0] (_root_.Go.heap_alloc_new W201 _) (by as_aux_lemma => kernel_rfl) (by as_aux_lemma => kernel_rfl) (by simp [Value.oneCell']) ?_)
          have hb_W202 : Below W201.heap.size W201 ((W201.alloc (.cells #[.int .i64 0, .int .u64 0, .string ⟨#[]⟩, .slice none 0 0, .int .i64 0] 25)).setRow W201.heap.size #[.int .i64 kx.kind, .int .u64 kx.num, .string kx.text, .slice (some ⟨g_x13, 0, none⟩) nz (nz + 3), .int .i64 kx.elem]) := below_setRow ((Below.refl _ _).alloc (Nat.le_refl _) _) (Nat.le_refl _) _
          have ox13 := setRow_heap (W201.alloc (.cells #[.int .i64 0, .int .u64 0, .string ⟨#[]⟩, .slice none 0 0, .int .i64 0] 25)) W201.heap.size _ #[.int .i64 kx.kind, .int .u64 kx.num, .string kx.text, .slice (some ⟨g_x13, 0, none⟩) nz (nz + 3), .int .i64 kx.elem] _ _ (_root_.Go.heap_alloc_new W201 _)
          change Code.wp _ _ _ _ ((W201.alloc (.cells #[.int .i64 0, .int .u64 0, .string ⟨#[]⟩, .slice none 0 0, .int .i64 0] 25)).setRow W201.heap.size #[.int .i64 kx.kind, .int .u64 kx.num, .string kx.text, .slice (some ⟨g_x13, 0, none⟩) nz (nz + 3), .int .i64 kx.elem])
          generalize ((W201.alloc (.cells #[.int .i64 0, .int .u64 0, .string ⟨#[]⟩, .slice none 0 0, .int .i64 0] 25)).setRow W201.heap.size #[.int .i64 kx.kind, .int .u64 kx.num, .string kx.text, .slice (some ⟨g_x13, 0, none⟩) nz (nz + 3), .int .i64 kx.elem]) = W202 at *
          obtain ⟨x13, hx_x13⟩ : ∃ x, W201.heap.size = x := ⟨_, rfl⟩
          rw [hx_x13] at ox13 ⊢
          have HX_x13 := Lib.hid hx_x13
          clear hx_x13
          have hlt := (Array.getElem?_eq_some_iff.1 ox13).1
          have HLT_x13 := Lib.hid hlt
          clear hlt
          have hz302 : W201.heap.size ≤ W202.heap.size := hb_W202.size
          have HZ302 := Lib.hid hz302
          clear hz302
          have HM303 : Hid ((Below w.heap.size w W202) ∧ (W202.heap[x0]? = some (.cells #[.int .i64 a.kind, .int .u64 a.num, .string a.text, .slice pa na ca, .int .i64 a.elem] 25 (0, 0))) ∧ (W202.heap[x1]? = some (.cells #[.int .i64 b.kind, .int .u64 b.num, .string b.text, .slice pb nb cb, .int .i64 b.elem] 25 (0, 0))) ∧ (World.ownsRow W202 kb 25 5 (.slice (some ⟨kg, 0, none⟩) nK ck) nK (vrow Ks ss)) ∧ (VL W202 wK.heap.size a (.slice (some ⟨g_x9, 0, none⟩) na (na + 3)) F9) ∧ (W202.heap[x9]? = some (.cells #[.int .i64 a.kind, .int .u64 a.num, .string a.text, .slice (some ⟨g_x9, 0, none⟩) na (na + 3), .int .i64 a.elem] 25 (0, 0))) ∧ (BkIn W202 w.heap.size bk (.slice none 0 0) [] QZ) ∧ (VO W202 gb (V.mk 0 0 ⟨#[]⟩ ((Ks.take ik).map (findV a)) 0) (.slice pg ik cg) FG) ∧ (VL W202 wr.heap.size kx (.slice (some ⟨g_x13, 0, none⟩) nz (nz + 3)) F13) ∧ (W202.heap[x13]? = some (.cells #[.int .i64 kx.kind, .int .u64 kx.num, .string kx.text, .slice (some ⟨g_x13, 0, none⟩) nz (nz + 3), .int .i64 kx.elem] 25 (0, 0)))) := Lib.hid ((And.intro (HM302.out.1.trans (hb_W202.mono HM302.out.1.size)) (And.intro ((hb_W202.block _ (Array.getElem?_eq_some_iff.1 HM302.out.2.1).1).trans HM302.out.2.1) (And.intro ((hb_W202.block _ (Array.getElem?_eq_some_iff.1 HM302.out.2.2.1).1).trans HM302.out.2.2.1) (And.intro (ownsRow_keep HM302.out.2.2.2.1 (fun j hj => hb_W202.block j (World.ownsRow.lt HM302.out.2.2.2.1 j hj).2)) (And.intro (HM302.out.2.2.2.2.1.blw hb_W202) (And.intro ((hb_W202.block _ (Array.getElem?_eq_some_iff.1 HM302.out.2.2.2.2.2.1).1).trans HM302.out.2.2.2.2.2.1) (And.intro (HM302.out.2.2.2.2.2.2.1.below hb_W202) (And.intro (HM302.out.2.2.2.2.2.2.2.1.blw hb_W202) (And.intro (HM302.out.2.2.2.2.2.2.2.2.blw hb_W202) ox13))))))))))
          clear HM302
          clear hb_W202 ox13
          have hc := findx_any a kx fv fb HFV.out.1 HFV.out.2 W202 _ _ HM303.out.2.2.2.2.1.vin HM303.out.2.2.2.2.2.2.2.2.1.vin (by have := HW.out.1; omega)
          have HC203 := Lib.hid hc
          clear hc
          have q := HM303.out.2.2.2.2.2.1
          have x9_0 : W202.cell? ⟨x9, 0, none⟩ = some (.int .i64 a.kind) := (cell_of_row _ _ 0 _ _ _ q).trans rfl
          have x9_1 : W202.cell? ⟨x9, 1, none⟩ = some (.int .u64 a.num) := (cell_of_row _ _ 1 _ _ _ q).trans rfl
          have x9_2 : W202.cell? ⟨x9, 2, none⟩ = some (.string a.text) := (cell_of_row _ _ 2 _ _ _ q).trans rfl
          have x9_3 : W202.cell? ⟨x9, 3, none⟩ = some (.slice (some ⟨g_x9, 0, none⟩) na (na + 3)) := (cell_of_row _ _ 3 _ _ _ q).trans rfl
          have x9_4 : W202.cell? ⟨x9, 4, none⟩ = some (.int .i64 a.elem) := (cell_of_row _ _ 4 _ _ _ q).trans rfl
          clear q
          have q := HM303.out.2.2.2.2.2.2.2.2.2
          have x13_0 : W202.cell? ⟨x13, 0, none⟩ = some (.int .i64 kx.kind) := (cell_of_row _ _ 0 _ _ _ q).trans rfl
          have x13_1 : W202.cell? ⟨x13, 1, none⟩ = some (.int .u64 kx.num) := (cell_of_row _ _ 1 _ _ _ q).trans rfl
          have x13_2 : W202.cell? ⟨x13, 2, none⟩ = some (.string kx.text) := (cell_of_row _ _ 2 _ _ _ q).trans rfl
          have x13_3 : W202.cell? ⟨x13, 3, none⟩ = some (.slice (some ⟨g_x13, 0, none⟩) nz (nz + 3)) := (cell_of_row _ _ 3 _ _ _ q).trans rfl
          have x13_4 : W202.cell? ⟨x13, 4, none⟩ = some (.int .i64 kx.elem) := (cell_of_row _ _ 4 _ _ _ q).trans rfl
          clear q
          go_wp2_with fail
          refine HC203.out.mono ?_
          clear x9_0 x9_1 x9_2 x9_3 x9_4 x13_0 x13_1 x13_2 x13_3 x13_4
          rintro e W203 ⟨t_x14, F14, rfl, hvo, hb⟩
          obtain ⟨p_x14, c_x14, hs, hj1, hj2⟩ := hvo.slice
          clear hj1 hj2
          rw [HNF.out] at hs
          subst hs
          have HIN_F14 : Hid (∀ g, F14 g → W202.heap.size ≤ g ∧ g < W203.heap.size) := Lib.hid (hvo.lt)
          have hz303 : W202.heap.size ≤ W203.heap.size := hb.size
          have HZ303 := Lib.hid hz303
          clear hz303
          have HM304 : Hid ((Below w.heap.size w W203) ∧ (W203.heap[x0]? = some (.cells #[.int .i64 a.kind, .int .u64 a.num, .string a.text, .slice pa na ca, .int .i64 a.elem] 25 (0, 0))) ∧ (W203.heap[x1]? = some (.cells #[.int .i64 b.kind, .int .u64 b.num, .string b.text, .slice pb nb cb, .int .i64 b.elem] 25 (0, 0))) ∧ (World.ownsRow W203 kb 25 5 (.slice (some ⟨kg, 0, none⟩) nK ck) nK (vrow Ks ss)) ∧ (VL W203 wK.heap.size a (.slice (some ⟨g_x9, 0, none⟩) na (na + 3)) F9) ∧ (W203.heap[x9]? = some (.cells #[.int .i64 a.kind, .int .u64 a.num, .string a.text, .slice (some ⟨g_x9, 0, none⟩) na (na + 3), .int .i64 a.elem] 25 (0, 0))) ∧ (BkIn W203 w.heap.size bk (.slice none 0 0) [] QZ) ∧ (VO W203 gb (V.mk 0 0 ⟨#[]⟩ ((Ks.take ik).map (findV a)) 0) (.slice pg ik cg) FG) ∧ (VL W203 wr.heap.size kx (.slice (some ⟨g_x13, 0, none⟩) nz (nz + 3)) F13) ∧ (W203.heap[x13]? = some (.cells #[.int .i64 kx.kind, .int .u64 kx.num, .string kx.text, .slice (some ⟨g_x13, 0, none⟩) nz (nz + 3), .int .i64 kx.elem] 25 (0, 0))) ∧ (VO W203 W202.heap.size fv (.slice p_x14 nf c_x14) F14)) := Lib.hid ((And.intro (HM303.out.1.trans (hb.mono HM303.out.1.size)) (And.intro ((hb.block _ (Array.getElem?_eq_some_iff.1 HM303.out.2.1).1).trans HM303.out.2.1) (And.intro ((hb.block _ (Array.getElem?_eq_some_iff.1 HM303.out.2.2.1).1).trans HM303.out.2.2.1) (And.intro (ownsRow_keep HM303.out.2.2.2.1 (fun j hj => hb.block j (World.ownsRow.lt HM303.out.2.2.2.1 j hj).2)) (And.intro (HM303.out.2.2.2.2.1.blw hb) (And.intro ((hb.block _ (Array.getElem?_eq_some_iff.1 HM303.out.2.2.2.2.2.1).1).trans HM303.out.2.2.2.2.2.1) (And.intro (HM303.out.2.2.2.2.2.2.1.below hb) (And.intro (HM303.out.2.2.2.2.2.2.2.1.blw hb) (And.intro (HM303.out.2.2.2.2.2.2.2.2.1.blw hb) (And.intro ((hb.block _ (Array.getElem?_eq_some_iff.1 HM303.out.2.2.2.2.2.2.2.2.2).1).trans HM303.out.2.2.2.2.2.2.2.2.2) hvo)))))))))))
          clear HM303
          clear hb hvo
          go_upto_region 20 with (refine wpList_store_rowTo rfl 25 (.tmp 14) (.tmp 81) rfl rfl W203.heap.size #[.int .i64 fv.kind, .int .u64 fv.num, .string fv.text, .slice p_x14 nf c_x14, .int .i64 fv.elem] rfl rfl 25 #[.int .i64 0, .int .u64 0, .string ⟨#[]⟩, .slice none 0 0, .int .i64 0] (_root_.Go.heap_alloc_new W203 _) (by as_aux_lemma => kernel_rfl) (by as_aux_lemma => kernel_rfl) (by simp [Value.oneCell']) ?_)
          have hb_W204 : Below W203.heap.size W203 ((W203.alloc (.cells #[.int .i64 0, .int .u64 0, .string ⟨#[]⟩, .slice none 0 0, .int .i64 0] 25)).setRow W203.heap.size #[.int .i64 fv.kind, .int .u64 fv.num, .string fv.text, .slice p_x14 nf c_x14, .int .i64 fv.elem]) := below_setRow ((Below.refl _ _).alloc (Nat.le_refl _) _) (Nat.le_refl _) _
          have ox14 := setRow_heap (W203.alloc (.cells #[.int .i64 0, .int .u64 0, .string ⟨#[]⟩, .slice none 0 0, .int .i64 0] 25)) W203.heap.size _ #[.int .i64 fv.kind, .int .u64 fv.num, .string fv.text, .slice p_x14 nf c_x14, .int .i64 fv.elem] _ _ (_root_.Go.heap_alloc_new W203 _)
          change Code.wp _ _ _ _ ((W203.alloc (.cells #[.int .i64 0, .int .u64 0, .string ⟨#[]⟩, .slice none 0 0, .int .i64 0] 25)).setRow W203.heap.size #[.int .i64 fv.kind, .int .u64 fv.num, .string fv.text, .slice p_x14 nf c_x14, .int .i64 fv.elem])
          generalize ((W203.alloc (.cells #[.int .i64 0, .int .u64 0, .string ⟨#[]⟩, .slice none 0 0, .int .i64 0] 25)).setRow W203.heap.size #[.int .i64 fv.kind, .int .u64 fv.num, .string fv.text, .slice p_x14 nf c_x14, .int .i64 fv.elem]) = W204 at *
          obtain ⟨x14, hx_x14⟩ : ∃ x, W203.heap.size = x := ⟨_, rfl⟩
          rw [hx_x14] at ox14 ⊢
          have HX_x14 := Lib.hid hx_x14
          clear hx_x14
          have hlt := (Array.getElem?_eq_some_iff.1 ox14).1
          have HLT_x14 := Lib.hid hlt
          clear hlt
          have hz304 : W203.heap.size ≤ W204.heap.size := hb_W204.size
          have HZ304 := Lib.hid hz304
          clear hz304
          have HM305 : Hid ((Below w.heap.size w W204) ∧ (W204.heap[x0]? = some (.cells #[.int .i64 a.kind, .int .u64 a.num, .string a.text, .slice pa na ca, .int .i64 a.elem] 25 (0, 0))) ∧ (W204.heap[x1]? = some (.cells #[.int .i64 b.kind, .int .u64 b.num, .string b.text, .slice pb nb cb, .int .i64 b.elem] 25 (0, 0))) ∧ (World.ownsRow W204 kb 25 5 (.slice (some ⟨kg, 0, none⟩) nK ck) nK (vrow Ks ss)) ∧ (VL W204 wK.heap.size a (.slice (some ⟨g_x9, 0, none⟩) na (na + 3)) F9) ∧ (W204.heap[x9]? = some (.cells #[.int .i64 a.kind, .int .u64 a.num, .string a.text, .slice (some ⟨g_x9, 0, none⟩) na (na + 3), .int .i64 a.elem] 25 (0, 0))) ∧ (BkIn W204 w.heap.size bk (.slice none 0 0) [] QZ) ∧ (VO W204 gb (V.mk 0 0 ⟨#[]⟩ ((Ks.take ik).map (findV a)) 0) (.slice pg ik cg) FG) ∧ (VL W204 wr.heap.size kx (.slice (some ⟨g_x13, 0, none⟩) nz (nz + 3)) F13) ∧ (W204.heap[x13]? = some (.cells #[.int .i64 kx.kind, .int .u64 kx.num, .string kx.text, .slice (some ⟨g_x13, 0, none⟩) nz (nz + 3), .int .i64 kx.elem] 25 (0, 0))) ∧ (VO W204 W202.heap.size fv (.slice p_x14 nf c_x14) F14) ∧ (W204.heap[x14]? = some (.cells #[.int .i64 fv.kind, .int .u64 fv.num, .string fv.text, .slice p_x14 nf c_x14, .int .i64 fv.elem] 25 (0, 0)))) := Lib.hid ((And.intro (HM304.out.1.trans (hb_W204.mono HM304.out.1.size)) (And.intro ((hb_W204.block _ (Array.getElem?_eq_some_iff.1 HM304.out.2.1).1).trans HM304.out.2.1) (And.intro ((hb_W204.block _ (Array.getElem?_eq_some_iff.1 HM304.out.2.2.1).1).trans HM304.out.2.2.1) (And.intro (ownsRow_keep HM304.out.2.2.2.1 (fun j hj => hb_W204.block j (World.ownsRow.lt HM304.out.2.2.2.1 j hj).2)) (And.intro (HM304.out.2.2.2.2.1.blw hb_W204) (And.intro ((hb_W204.block _ (Array.getElem?_eq_some_iff.1 HM304.out.2.2.2.2.2.1).1).trans HM304.out.2.2.2.2.2.1) (And.intro (HM304.out.2.2.2.2.2.2.1.below hb_W204) (And.intro (HM304.out.2.2.2.2.2.2.2.1.blw hb_W204) (And.intro (HM304.out.2.2.2.2.2.2.2.2.1.blw hb_W204) (And.intro ((hb_W204.block _ (Array.getElem?_eq_some_iff.1 HM304.out.2.2.2.2.2.2.2.2.2.1).1).trans HM304.out.2.2.2.2.2.2.2.2.2.1) (And.intro (HM304.out.2.2.2.2.2.2.2.2.2.2.blw hb_W204) ox14))))))))))))
          clear HM304
          clear hb_W204 ox14
          have hkc : ∀ j u, (vcells kx (.slice pz nz cz))[j]? = some u → W204.cell? ⟨kg, ik * 5 + j, none⟩ = some u := fun j u hu => keys_cell HM305.out.2.2.2.1 HKX.out.2.1 (by rw [HKX.out.1, HKX.out.2.2.2]; exact hu)
          have c0 : W204.cell? ⟨kg, ik * 5, none⟩ = some (.int .i64 kx.kind) := hkc 0 _ rfl
          have c1 : W204.cell? ⟨kg, ik * 5 + 1, none⟩ = some (.int .u64 kx.num) := hkc 1 _ rfl
          have c2 : W204.cell? ⟨kg, ik * 5 + 2, none⟩ = some (.string kx.text) := hkc 2 _ rfl
          have c3 : W204.cell? ⟨kg, ik * 5 + 3, none⟩ = some (.slice pz nz cz) := hkc 3 _ rfl
          have c4 : W204.cell? ⟨kg, ik * 5 + 4, none⟩ = some (.int .i64 kx.elem) := hkc 4 _ rfl
          clear hkc
          have q := HM305.out.2.2.2.2.2.2.2.2.2.1
          have x13_0 : W204.cell? ⟨x13, 0, none⟩ = some (.int .i64 kx.kind) := (cell_of_row _ _ 0 _ _ _ q).trans rfl
          have x13_1 : W204.cell? ⟨x13, 1, none⟩ = some (.int .u64 kx.num) := (cell_of_row _ _ 1 _ _ _ q).trans rfl
          have x13_2 : W204.cell? ⟨x13, 2, none⟩ = some (.string kx.text) := (cell_of_row _ _ 2 _ _ _ q).trans rfl
          have x13_3 : W204.cell? ⟨x13, 3, none⟩ = some (.slice (some ⟨g_x13, 0, none⟩) nz (nz + 3)) := (cell_of_row _ _ 3 _ _ _ q).trans rfl
          have x13_4 : W204.cell? ⟨x13, 4, none⟩ = some (.int .i64 kx.elem) := (cell_of_row _ _ 4 _ _ _ q).trans rfl
          clear q
          go_upto_region 20 with fail
          go_still_tail 5, (by kernel_rfl)
          change wpList _ _ _ _ _ W204.drew
          have hb : Below W204.heap.size W204 W204.drew := ⟨rfl, rfl, rfl, Nat.le_refl _, fun _ _ => rfl⟩
          generalize W204.drew = W205 at *
          clear c0 c1 c2 c3 c4 x13_0 x13_1 x13_2 x13_3 x13_4
          have hz305 : W204.heap.size ≤ W205.heap.size := hb.size
          have HZ305 := Lib.hid hz305
          clear hz305
          have HM306 : Hid ((Below w.heap.size w W205) ∧ (W205.heap[x0]? = some (.cells #[.int .i64 a.kind, .int .u64 a.num, .string a.text, .slice pa na ca, .int .i64 a.elem] 25 (0, 0))) ∧ (W205.heap[x1]? = some (.cells #[.int .i64 b.kind, .int .u64 b.num, .string b.text, .slice pb nb cb, .int .i64 b.elem] 25 (0, 0))) ∧ (World.ownsRow W205 kb 25 5 (.slice (some ⟨kg, 0, none⟩) nK ck) nK (vrow Ks ss)) ∧ (VL W205 wK.heap.size a (.slice (some ⟨g_x9, 0, none⟩) na (na + 3)) F9) ∧ (W205.heap[x9]? = some (.cells #[.int .i64 a.kind, .int .u64 a.num, .string a.text, .slice (some ⟨g_x9, 0, none⟩) na (na + 3), .int .i64 a.elem] 25 (0, 0))) ∧ (BkIn W205 w.heap.size bk (.slice none 0 0) [] QZ) ∧ (VO W205 gb (V.mk 0 0 ⟨#[]⟩ ((Ks.take ik).map (findV a)) 0) (.slice pg ik cg) FG) ∧ (VL W205 wr.heap.size kx (.slice (some ⟨g_x13, 0, none⟩) nz (nz + 3)) F13) ∧ (W205.heap[x13]? = some (.cells #[.int .i64 kx.kind, .int .u64 kx.num, .string kx.text, .slice (some ⟨g_x13, 0, none⟩) nz (nz + 3), .int .i64 kx.elem] 25 (0, 0))) ∧ (VO W205 W202.heap.size fv (.slice p_x14 nf c_x14) F14) ∧ (W205.heap[x14]? = some (.cells #[.int .i64 fv.kind, .int .u64 fv.num, .string fv.text, .slice p_x14 nf c_x14, .int .i64 fv.elem] 25 (0, 0)))) := Lib.hid ((And.intro (HM305.out.1.trans (hb.mono HM305.out.1.size)) (And.intro ((hb.block _ (Array.getElem?_eq_some_iff.1 HM305.out.2.1).1).trans HM305.out.2.1) (And.intro ((hb.block _ (Array.getElem?_eq_some_iff.1 HM305.out.2.2.1).1).trans HM305.out.2.2.1) (And.intro (ownsRow_keep HM305.out.2.2.2.1 (fun j hj => hb.block j (World.ownsRow.lt HM305.out.2.2.2.1 j hj).2)) (And.intro (HM305.out.2.2.2.2.1.blw hb) (And.intro ((hb.block _ (Array.getElem?_eq_some_iff.1 HM305.out.2.2.2.2.2.1).1).trans HM305.out.2.2.2.2.2.1) (And.intro (HM305.out.2.2.2.2.2.2.1.below hb) (And.intro (HM305.out.2.2.2.2.2.2.2.1.blw hb) (And.intro (HM305.out.2.2.2.2.2.2.2.2.1.blw hb) (And.intro ((hb.block _ (Array.getElem?_eq_some_iff.1 HM305.out.2.2.2.2.2.2.2.2.2.1).1).trans HM305.out.2.2.2.2.2.2.2.2.2.1) (And.intro (HM305.out.2.2.2.2.2.2.2.2.2.2.1.blw hb) ((hb.block _ (Array.getElem?_eq_some_iff.1 HM305.out.2.2.2.2.2.2.2.2.2.2.2).1).trans HM305.out.2.2.2.2.2.2.2.2.2.2.2)))))))))))))
          clear HM305
          clear hb
          have hc := asl_on kx W205 w wr.heap.size _ _ F13 HM306.out.2.2.2.2.2.2.2.2.1 HKV.out.1 (fun W hW => rd_below (KeepF.below HM306.out.1 hW (fun j q => by have h1 := HIN_F13.out j q; have z0 := HX_x0.out; have z1 := HX_x1.out; have z2 := HZw.out; have z3 := HLT0.out; have z4 := HLT1.out; have z5 := HZ1.out; have z6 := HZ2.out; have z7 := HKB.out; have z8 := HZ3.out; have z9 := HZR.out; have z10 := HZ5.out; have z11 := HX_x9.out; have z12 := HLT_x9.out; have z13 := HZ6.out; have z14 := HZ7.out; have z15 := HGB.out; have z16 := HZR2.out; have z17 := HZ301.out; have z18 := HX_x13.out; have z19 := HLT_x13.out; have z20 := HZ302.out; have z21 := HZ303.out; have z22 := HX_x14.out; have z23 := HLT_x14.out; have z24 := HZ304.out; have z25 := HZ305.out; omega) HM306.out.1.size)) (by have := HKV.out.2.1; omega)
          have HC206 := Lib.hid hc
          clear hc
          go_wp2_with fail
          refine HC206.out.mono ?_
          rintro e W206 ⟨rfl, hk⟩
          have hiv : ∀ g, F13 g → IsVal W205 g := (VL.isVal HM306.out.2.2.2.2.2.2.2.2.1)
          have HM307 : Hid ((Below w.heap.size w W205) ∧ (W205.heap[x0]? = some (.cells #[.int .i64 a.kind, .int .u64 a.num, .string a.text, .slice pa na ca, .int .i64 a.elem] 25 (0, 0))) ∧ (W205.heap[x1]? = some (.cells #[.int .i64 b.kind, .int .u64 b.num, .string b.text, .slice pb nb cb, .int .i64 b.elem] 25 (0, 0))) ∧ (World.ownsRow W205 kb 25 5 (.slice (some ⟨kg, 0, none⟩) nK ck) nK (vrow Ks ss)) ∧ (VL W205 wK.heap.size a (.slice (some ⟨g_x9, 0, none⟩) na (na + 3)) F9) ∧ (W205.heap[x9]? = some (.cells #[.int .i64 a.kind, .int .u64 a.num, .string a.text, .slice (some ⟨g_x9, 0, none⟩) na (na + 3), .int .i64 a.elem] 25 (0, 0))) ∧ (BkIn W205 w.heap.size bk (.slice none 0 0) [] QZ) ∧ (VO W205 gb (V.mk 0 0 ⟨#[]⟩ ((Ks.take ik).map (findV a)) 0) (.slice pg ik cg) FG) ∧ (W205.heap[x13]? = some (.cells #[.int .i64 kx.kind, .int .u64 kx.num, .string kx.text, .slice (some ⟨g_x13, 0, none⟩) nz (nz + 3), .int .i64 kx.elem] 25 (0, 0))) ∧ (VO W205 W202.heap.size fv (.slice p_x14 nf c_x14) F14) ∧ (W205.heap[x14]? = some (.cells #[.int .i64 fv.kind, .int .u64 fv.num, .string fv.text, .slice p_x14 nf c_x14, .int .i64 fv.elem] 25 (0, 0)))) := Lib.hid ((And.intro HM306.out.1 (And.intro HM306.out.2.1 (And.intro HM306.out.2.2.1 (And.intro HM306.out.2.2.2.1 (And.intro HM306.out.2.2.2.2.1 (And.intro HM306.out.2.2.2.2.2.1 (And.intro HM306.out.2.2.2.2.2.2.1 (And.intro HM306.out.2.2.2.2.2.2.2.1 (And.intro HM306.out.2.2.2.2.2.2.2.2.2.1 (And.intro HM306.out.2.2.2.2.2.2.2.2.2.2.1 HM306.out.2.2.2.2.2.2.2.2.2.2.2)))))))))))
          clear HM306
          have hz307 : W205.heap.size ≤ W206.heap.size := hk.size
          have HZ307 := Lib.hid hz307
          clear hz307
          have HM308 : Hid ((Below w.heap.size w W206) ∧ (W206.heap[x0]? = some (.cells #[.int .i64 a.kind, .int .u64 a.num, .string a.text, .slice pa na ca, .int .i64 a.elem] 25 (0, 0))) ∧ (W206.heap[x1]? = some (.cells #[.int .i64 b.kind, .int .u64 b.num, .string b.text, .slice pb nb cb, .int .i64 b.elem] 25 (0, 0))) ∧ (World.ownsRow W206 kb 25 5 (.slice (some ⟨kg, 0, none⟩) nK ck) nK (vrow Ks ss)) ∧ (VL W206 wK.heap.size a (.slice (some ⟨g_x9, 0, none⟩) na (na + 3)) F9) ∧ (W206.heap[x9]? = some (.cells #[.int .i64 a.kind, .int .u64 a.num, .string a.text, .slice (some ⟨g_x9, 0, none⟩) na (na + 3), .int .i64 a.elem] 25 (0, 0))) ∧ (BkIn W206 w.heap.size bk (.slice none 0 0) [] QZ) ∧ (VO W206 gb (V.mk 0 0 ⟨#[]⟩ ((Ks.take ik).map (findV a)) 0) (.slice pg ik cg) FG) ∧ (W206.heap[x13]? = some (.cells #[.int .i64 kx.kind, .int .u64 kx.num, .string kx.text, .slice (some ⟨g_x13, 0, none⟩) nz (nz + 3), .int .i64 kx.elem] 25 (0, 0))) ∧ (VO W206 W202.heap.size fv (.slice p_x14 nf c_x14) F14) ∧ (W206.heap[x14]? = some (.cells #[.int .i64 fv.kind, .int .u64 fv.num, .string fv.text, .slice p_x14 nf c_x14, .int .i64 fv.elem] 25 (0, 0)))) := Lib.hid ((And.intro (KeepF.below HM307.out.1 hk (fun j q => by have h1 := HIN_F13.out j q; have z0 := HX_x0.out; have z1 := HX_x1.out; have z2 := HZw.out; have z3 := HLT0.out; have z4 := HLT1.out; have z5 := HZ1.out; have z6 := HZ2.out; have z7 := HKB.out; have z8 := HZ3.out; have z9 := HZR.out; have z10 := HZ5.out; have z11 := HX_x9.out; have z12 := HLT_x9.out; have z13 := HZ6.out; have z14 := HZ7.out; have z15 := HGB.out; have z16 := HZR2.out; have z17 := HZ301.out; have z18 := HX_x13.out; have z19 := HLT_x13.out; have z20 := HZ302.out; have z21 := HZ303.out; have z22 := HX_x14.out; have z23 := HLT_x14.out; have z24 := HZ304.out; have z25 := HZ305.out; have z26 := HZ307.out; omega) HM307.out.1.size) (And.intro ((hk.block _ (Array.getElem?_eq_some_iff.1 HM307.out.2.1).1 (fun q => by have h1 := HIN_F13.out _ q; have z0 := HX_x0.out; have z1 := HX_x1.out; have z2 := HZw.out; have z3 := HLT0.out; have z4 := HLT1.out; have z5 := HZ1.out; have z6 := HZ2.out; have z7 := HKB.out; have z8 := HZ3.out; have z9 := HZR.out; have z10 := HZ5.out; have z11 := HX_x9.out; have z12 := HLT_x9.out; have z13 := HZ6.out; have z14 := HZ7.out; have z15 := HGB.out; have z16 := HZR2.out; have z17 := HZ301.out; have z18 := HX_x13.out; have z19 := HLT_x13.out; have z20 := HZ302.out; have z21 := HZ303.out; have z22 := HX_x14.out; have z23 := HLT_x14.out; have z24 := HZ304.out; have z25 := HZ305.out; have z26 := HZ307.out; omega)).trans HM307.out.2.1) (And.intro ((hk.block _ (Array.getElem?_eq_some_iff.1 HM307.out.2.2.1).1 (fun q => by have h1 := HIN_F13.out _ q; have z0 := HX_x0.out; have z1 := HX_x1.out; have z2 := HZw.out; have z3 := HLT0.out; have z4 := HLT1.out; have z5 := HZ1.out; have z6 := HZ2.out; have z7 := HKB.out; have z8 := HZ3.out; have z9 := HZR.out; have z10 := HZ5.out; have z11 := HX_x9.out; have z12 := HLT_x9.out; have z13 := HZ6.out; have z14 := HZ7.out; have z15 := HGB.out; have z16 := HZR2.out; have z17 := HZ301.out; have z18 := HX_x13.out; have z19 := HLT_x13.out; have z20 := HZ302.out; have z21 := HZ303.out; have z22 := HX_x14.out; have z23 := HLT_x14.out; have z24 := HZ304.out; have z25 := HZ305.out; have z26 := HZ307.out; omega)).trans HM307.out.2.2.1) (And.intro (ownsRow_keep HM307.out.2.2.2.1 (fun j hj => hk.block j (World.ownsRow.lt HM307.out.2.2.2.1 j hj).2 (fun q => by have h1 := HIN_F13.out j q; have h2 := HIN_QK.out j (by rw [← HQK.out]; exact hj); have z0 := HX_x0.out; have z1 := HX_x1.out; have z2 := HZw.out; have z3 := HLT0.out; have z4 := HLT1.out; have z5 := HZ1.out; have z6 := HZ2.out; have z7 := HKB.out; have z8 := HZ3.out; have z9 := HZR.out; have z10 := HZ5.out; have z11 := HX_x9.out; have z12 := HLT_x9.out; have z13 := HZ6.out; have z14 := HZ7.out; have z15 := HGB.out; have z16 := HZR2.out; have z17 := HZ301.out; have z18 := HX_x13.out; have z19 := HLT_x13.out; have z20 := HZ302.out; have z21 := HZ303.out; have z22 := HX_x14.out; have z23 := HLT_x14.out; have z24 := HZ304.out; have z25 := HZ305.out; have z26 := HZ307.out; omega))) (And.intro (HM307.out.2.2.2.2.1.keepF hk (fun j g q => by have h1 := HIN_F13.out j q; have h2 := HIN_F9.out j g; have z0 := HX_x0.out; have z1 := HX_x1.out; have z2 := HZw.out; have z3 := HLT0.out; have z4 := HLT1.out; have z5 := HZ1.out; have z6 := HZ2.out; have z7 := HKB.out; have z8 := HZ3.out; have z9 := HZR.out; have z10 := HZ5.out; have z11 := HX_x9.out; have z12 := HLT_x9.out; have z13 := HZ6.out; have z14 := HZ7.out; have z15 := HGB.out; have z16 := HZR2.out; have z17 := HZ301.out; have z18 := HX_x13.out; have z19 := HLT_x13.out; have z20 := HZ302.out; have z21 := HZ303.out; have z22 := HX_x14.out; have z23 := HLT_x14.out; have z24 := HZ304.out; have z25 := HZ305.out; have z26 := HZ307.out; omega)) (And.intro ((hk.block _ (Array.getElem?_eq_some_iff.1 HM307.out.2.2.2.2.2.1).1 (fun q => by have h1 := HIN_F13.out _ q; have z0 := HX_x0.out; have z1 := HX_x1.out; have z2 := HZw.out; have z3 := HLT0.out; have z4 := HLT1.out; have z5 := HZ1.out; have z6 := HZ2.out; have z7 := HKB.out; have z8 := HZ3.out; have z9 := HZR.out; have z10 := HZ5.out; have z11 := HX_x9.out; have z12 := HLT_x9.out; have z13 := HZ6.out; have z14 := HZ7.out; have z15 := HGB.out; have z16 := HZR2.out; have z17 := HZ301.out; have z18 := HX_x13.out; have z19 := HLT_x13.out; have z20 := HZ302.out; have z21 := HZ303.out; have z22 := HX_x14.out; have z23 := HLT_x14.out; have z24 := HZ304.out; have z25 := HZ305.out; have z26 := HZ307.out; omega)).trans HM307.out.2.2.2.2.2.1) (And.intro (BkIn.keepF HM307.out.2.2.2.2.2.2.1 hk hiv (fun j g q => by have h1 := HIN_F13.out j q; have h2 := HIN_QZ.out j g; have z0 := HX_x0.out; have z1 := HX_x1.out; have z2 := HZw.out; have z3 := HLT0.out; have z4 := HLT1.out; have z5 := HZ1.out; have z6 := HZ2.out; have z7 := HKB.out; have z8 := HZ3.out; have z9 := HZR.out; have z10 := HZ5.out; have z11 := HX_x9.out; have z12 := HLT_x9.out; have z13 := HZ6.out; have z14 := HZ7.out; have z15 := HGB.out; have z16 := HZR2.out; have z17 := HZ301.out; have z18 := HX_x13.out; have z19 := HLT_x13.out; have z20 := HZ302.out; have z21 := HZ303.out; have z22 := HX_x14.out; have z23 := HLT_x14.out; have z24 := HZ304.out; have z25 := HZ305.out; have z26 := HZ307.out; omega)) (And.intro (HM307.out.2.2.2.2.2.2.2.1.keepF hk (fun j g q => by have h1 := HIN_F13.out j q; have h2 := HIN_FG.out j g; have z0 := HX_x0.out; have z1 := HX_x1.out; have z2 := HZw.out; have z3 := HLT0.out; have z4 := HLT1.out; have z5 := HZ1.out; have z6 := HZ2.out; have z7 := HKB.out; have z8 := HZ3.out; have z9 := HZR.out; have z10 := HZ5.out; have z11 := HX_x9.out; have z12 := HLT_x9.out; have z13 := HZ6.out; have z14 := HZ7.out; have z15 := HGB.out; have z16 := HZR2.out; have z17 := HZ301.out; have z18 := HX_x13.out; have z19 := HLT_x13.out; have z20 := HZ302.out; have z21 := HZ303.out; have z22 := HX_x14.out; have z23 := HLT_x14.out; have z24 := HZ304.out; have z25 := HZ305.out; have z26 := HZ307.out; omega)) (And.intro ((hk.block _ (Array.getElem?_eq_some_iff.1 HM307.out.2.2.2.2.2.2.2.2.1).1 (fun q => by have h1 := HIN_F13.out _ q; have z0 := HX_x0.out; have z1 := HX_x1.out; have z2 := HZw.out; have z3 := HLT0.out; have z4 := HLT1.out; have z5 := HZ1.out; have z6 := HZ2.out; have z7 := HKB.out; have z8 := HZ3.out; have z9 := HZR.out; have z10 := HZ5.out; have z11 := HX_x9.out; have z12 := HLT_x9.out; have z13 := HZ6.out; have z14 := HZ7.out; have z15 := HGB.out; have z16 := HZR2.out; have z17 := HZ301.out; have z18 := HX_x13.out; have z19 := HLT_x13.out; have z20 := HZ302.out; have z21 := HZ303.out; have z22 := HX_x14.out; have z23 := HLT_x14.out; have z24 := HZ304.out; have z25 := HZ305.out; have z26 := HZ307.out; omega)).trans HM307.out.2.2.2.2.2.2.2.2.1) (And.intro (HM307.out.2.2.2.2.2.2.2.2.2.1.keepF hk (fun j g q => by have h1 := HIN_F13.out j q; have h2 := HIN_F14.out j g; have z0 := HX_x0.out; have z1 := HX_x1.out; have z2 := HZw.out; have z3 := HLT0.out; have z4 := HLT1.out; have z5 := HZ1.out; have z6 := HZ2.out; have z7 := HKB.out; have z8 := HZ3.out; have z9 := HZR.out; have z10 := HZ5.out; have z11 := HX_x9.out; have z12 := HLT_x9.out; have z13 := HZ6.out; have z14 := HZ7.out; have z15 := HGB.out; have z16 := HZR2.out; have z17 := HZ301.out; have z18 := HX_x13.out; have z19 := HLT_x13.out; have z20 := HZ302.out; have z21 := HZ303.out; have z22 := HX_x14.out; have z23 := HLT_x14.out; have z24 := HZ304.out; have z25 := HZ305.out; have z26 := HZ307.out; omega)) ((hk.block _ (Array.getElem?_eq_some_iff.1 HM307.out.2.2.2.2.2.2.2.2.2.2).1 (fun q => by have h1 := HIN_F13.out _ q; have z0 := HX_x0.out; have z1 := HX_x1.out; have z2 := HZw.out; have z3 := HLT0.out; have z4 := HLT1.out; have z5 := HZ1.out; have z6 := HZ2.out; have z7 := HKB.out; have z8 := HZ3.out; have z9 := HZR.out; have z10 := HZ5.out; have z11 := HX_x9.out; have z12 := HLT_x9.out; have z13 := HZ6.out; have z14 := HZ7.out; have z15 := HGB.out; have z16 := HZR2.out; have z17 := HZ301.out; have z18 := HX_x13.out; have z19 := HLT_x13.out; have z20 := HZ302.out; have z21 := HZ303.out; have z22 := HX_x14.out; have z23 := HLT_x14.out; have z24 := HZ304.out; have z25 := HZ305.out; have z26 := HZ307.out; omega)).trans HM307.out.2.2.2.2.2.2.2.2.2.2))))))))))))
          clear HM307
          clear hk hiv
          have HSX : Hid (∀ W', Below W206.heap.size W206 W' → W'.cell? ⟨x0, 0, none⟩ = some (.int .i64 a.kind) ∧ W'.cell? ⟨x0, 1, none⟩ = some (.int .u64 a.num) ∧ W'.cell? ⟨x0, 2, none⟩ = some (.string a.text) ∧ W'.cell? ⟨x0, 3, none⟩ = some (.slice pa na ca) ∧ W'.cell? ⟨x0, 4, none⟩ = some (.int .i64 a.elem) ∧ W'.cell? ⟨kg, ik * 5, none⟩ = some (.int .i64 kx.kind) ∧ W'.cell? ⟨kg, ik * 5 + 1, none⟩ = some (.int .u64 kx.num) ∧ W'.cell? ⟨kg, ik * 5 + 2, none⟩ = some (.string kx.text) ∧ W'.cell? ⟨kg, ik * 5 + 3, none⟩ = some (.slice pz nz cz) ∧ W'.cell? ⟨kg, ik * 5 + 4, none⟩ = some (.int .i64 kx.elem)) := Lib.hid (fun W' hB => by
            have hr := ownsRow_keep HM308.out.2.2.2.1 (fun j hj => hB.block j (World.ownsRow.lt HM308.out.2.2.2.1 j hj).2)
            have hkc : ∀ j u, (vcells kx (.slice pz nz cz))[j]? = some u → W'.cell? ⟨kg, ik * 5 + j, none⟩ = some u := fun j u hu => keys_cell hr HKX.out.2.1 (by rw [HKX.out.1, HKX.out.2.2.2]; exact hu)
            have q0 := (hB.block x0 (Array.getElem?_eq_some_iff.1 HM308.out.2.1).1).trans HM308.out.2.1
            exact ⟨(cell_of_row _ _ 0 _ _ _ q0).trans rfl, (cell_of_row _ _ 1 _ _ _ q0).trans rfl, (cell_of_row _ _ 2 _ _ _ q0).trans rfl, (cell_of_row _ _ 3 _ _ _ q0).trans rfl, (cell_of_row _ _ 4 _ _ _ q0).trans rfl, hkc 0 _ rfl, hkc 1 _ rfl, hkc 2 _ rfl, hkc 3 _ rfl, hkc 4 _ rfl⟩)
          have HVV : Hid (∀ W', Below W206.heap.size W206 W' → Calls Tryd.prog 40 #[.agg #[.int .i64 a.kind, .int .u64 a.num, .string a.text, .slice pa na ca, .int .i64 a.elem], .agg #[.int .i64 kx.kind, .int .u64 kx.num, .string kx.text, .slice pz nz cz, .int .i64 kx.elem]] W' (FindX W' fv fb)) := Lib.hid (fun W' hB => rfindx_any a kx fv fb HFV.out.1 HFV.out.2 W' _ _ (VIn.blw (HV.out.1.blw HM308.out.1) hB) (VIn.blw (VIn.blw HKV.out.1 HM308.out.1) hB) (by have := HW.out.1; omega))
          go_upto_region 21 with fail
          go_cut [17, 18] (fun sp sf wx => sf = .bool fb ∧ ∃ (xx : Nat) (pc : Option Addr) (cc : Nat) (FC : Nat → Prop), sp = .pointer (some ⟨xx, 0, none⟩) ∧ wx.heap[xx]? = some (.cells #[.int .i64 fv.kind, .int .u64 fv.num, .string fv.text, .slice pc nf cc, .int .i64 fv.elem] 25 (0, 0)) ∧ VO wx W206.heap.size fv (.slice pc nf cc) FC ∧ W206.heap.size ≤ xx ∧ Below W206.heap.size W206 wx)
          case first =>
            rename_i JJ hJJ KK hKK
            have hdr : Below W206.heap.size W206 W206.drew := ⟨rfl, rfl, rfl, Nat.le_refl _, fun _ _ => rfl⟩
            refine wp_region_heldN (fun V => V.cell? ⟨x0, 0, none⟩ = some (.int .i64 a.kind) ∧ V.cell? ⟨x0, 1, none⟩ = some (.int .u64 a.num) ∧ V.cell? ⟨x0, 2, none⟩ = some (.string a.text) ∧ V.cell? ⟨x0, 3, none⟩ = some (.slice pa na ca) ∧ V.cell? ⟨x0, 4, none⟩ = some (.int .i64 a.elem) ∧ V.cell? ⟨kg, ik * 5, none⟩ = some (.int .i64 kx.kind) ∧ V.cell? ⟨kg, ik * 5 + 1, none⟩ = some (.int .u64 kx.num) ∧ V.cell? ⟨kg, ik * 5 + 2, none⟩ = some (.string kx.text) ∧ V.cell? ⟨kg, ik * 5 + 3, none⟩ = some (.slice pz nz cz) ∧ V.cell? ⟨kg, ik * 5 + 4, none⟩ = some (.int .i64 kx.elem)) 12 rfl (by kernel_rfl) ?_
            have hS := HSX.out _ hdr
            refine takeD (i := 0) (v := .agg #[.int .i64 a.kind, .int .u64 a.num, .string a.text, .slice pa na ca, .int .i64 a.elem]) (some 90) rfl rfl (by kernel_rfl) (by kernel_rfl) (by kernel_rfl) (fun _ _ _ h => h) (Or.inl ⟨by rfl, by rintro V ⟨h0, h1, h2, h3, h4, h5, h6, h7, h8, h9⟩; go_simp⟩) hS ?_
            simp only [Act.put, List.setIfInBounds_toArray, List.set_cons_zero, List.set_cons_succ]
            refine takeD (i := 1) (v := .slice (some ⟨kg, 0, none⟩) nK ck) (some 91) rfl rfl (by kernel_rfl) (by kernel_rfl) (by kernel_rfl) (fun _ _ _ h => h) (Or.inl ⟨by rfl, by rintro V ⟨h0, h1, h2, h3, h4, h5, h6, h7, h8, h9⟩; go_simp⟩) hS ?_
            simp only [Act.put, List.setIfInBounds_toArray, List.set_cons_zero, List.set_cons_succ]
            refine takeD (i := 2) (v := .int .i64 ik) (some 92) rfl rfl (by kernel_rfl) (by kernel_rfl) (by kernel_rfl) (fun _ _ _ h => h) (Or.inl ⟨by rfl, by rintro V ⟨h0, h1, h2, h3, h4, h5, h6, h7, h8, h9⟩; go_simp⟩) hS ?_
            simp only [Act.put, List.setIfInBounds_toArray, List.set_cons_zero, List.set_cons_succ]
            refine takeD (i := 3) (v := .pointer (some ⟨kg, ik * 5, none⟩)) (some 93) rfl rfl (by kernel_rfl) (by kernel_rfl) (by kernel_rfl) (fun _ _ _ h => h) (Or.inl ⟨by rfl, by rintro V ⟨h0, h1, h2, h3, h4, h5, h6, h7, h8, h9⟩; go_simp⟩) hS ?_
            simp only [Act.put, List.setIfInBounds_toArray, List.set_cons_zero, List.set_cons_succ]
            refine takeD (i := 4) (v := .agg #[.int .i64 kx.kind, .int .u64 kx.num, .string kx.text, .slice pz nz cz, .int .i64 kx.elem]) (some 94) rfl rfl (by kernel_rfl) (by kernel_rfl) (by kernel_rfl) (fun _ _ _ h => h) (Or.inl ⟨by rfl, by rintro V ⟨h0, h1, h2, h3, h4, h5, h6, h7, h8, h9⟩; go_simp⟩) hS ?_
            simp only [Act.put, List.setIfInBounds_toArray, List.set_cons_zero, List.set_cons_succ]
            refine wpAnyH_all (rs := [5, 9]) (by kernel_rfl) (by simp) ?_
            intro i hi
            simp only [List.mem_cons, List.not_mem_nil, or_false] at hi
            rcases hi with rfl | rfl
            · refine stepD (i := 5) rfl (by rfl) (fun K5 h5 => ?_)
              go_simp
              (with_reducible refine (HVV.out _ hdr).mono ?_)
              rintro e wc ⟨tc, FC, rfl, hvc, hbc⟩
              obtain ⟨pc, cc, hsc, hjc1, hjc2⟩ := hvc.slice
              rw [HNF.out] at hsc
              subst hsc
              clear hjc1 hjc2
              have hwc : Below W206.heap.size W206 wc := hdr.trans (hbc.mono hdr.size)
              refine h5.out _ _ (HSX.out _ hwc) ?_
              clear h5 hS
              have hS := HSX.out _ hwc
              try simp only [Act.put, List.setIfInBounds_toArray, List.set_cons_zero, List.set_cons_succ]
              refine takeD (i := 6) (v := .tuple #[.agg #[.int .i64 fv.kind, .int .u64 fv.num, .string fv.text, .slice pc nf cc, .int .i64 fv.elem], .bool fb]) (some 89) rfl rfl (by kernel_rfl) (by kernel_rfl) (by kernel_rfl) (fun _ _ _ h => h) (Or.inl ⟨by rfl, by rintro V ⟨h0, h1, h2, h3, h4, h5, h6, h7, h8, h9⟩; go_simp⟩) hS ?_
              simp only [Act.put, List.setIfInBounds_toArray, List.set_cons_zero, List.set_cons_succ]
              refine takeD (i := 7) (v := .agg #[.int .i64 fv.kind, .int .u64 fv.num, .string fv.text, .slice pc nf cc, .int .i64 fv.elem]) (some 96) rfl rfl (by kernel_rfl) (by kernel_rfl) (by kernel_rfl) (fun _ _ _ h => h) (Or.inl ⟨by rfl, by rintro V ⟨h0, h1, h2, h3, h4, h5, h6, h7, h8, h9⟩; go_simp⟩) hS ?_
              simp only [Act.put, List.setIfInBounds_toArray, List.set_cons_zero, List.set_cons_succ]
              refine takeD (i := 8) (v := .bool fb) (some 97) rfl rfl (by kernel_rfl) (by kernel_rfl) (by kernel_rfl) (fun _ _ _ h => h) (Or.inl ⟨by rfl, by rintro V ⟨h0, h1, h2, h3, h4, h5, h6, h7, h8, h9⟩; go_simp⟩) hS ?_
              simp only [Act.put, List.setIfInBounds_toArray, List.set_cons_zero, List.set_cons_succ]
              refine wpAnyH_all (rs := [9]) (by kernel_rfl) (by simp) ?_
              intro i hi
              simp only [List.mem_cons, List.not_mem_nil, or_false] at hi
              subst hi
              refine stepD (i := 9) rfl (by rfl) (fun K9 h9 => ?_)
              go_simp
              have hwz : Below W206.heap.size W206 (wc.alloc (.cells #[.int .i64 0, .int .u64 0, .string ⟨#[]⟩, .slice none 0 0, .int .i64 0] 25)) := hwc.alloc hwc.size _
              have hzr : (wc.alloc (.cells #[.int .i64 0, .int .u64 0, .string ⟨#[]⟩, .slice none 0 0, .int .i64 0] 25)).heap[wc.heap.size]? = some (.cells #[.int .i64 0, .int .u64 0, .string ⟨#[]⟩, .slice none 0 0, .int .i64 0] 25 (0, 0)) := _root_.Go.heap_alloc_new wc _
              refine h9.out _ _ (HSX.out _ hwz) ?_
              clear h9 hS
              have hS := HSX.out _ hwz
              try simp only [Act.put, List.setIfInBounds_toArray, List.set_cons_zero, List.set_cons_succ]
              refine wpAnyH_all (rs := [10]) (by kernel_rfl) (by simp) ?_
              intro i hi
              simp only [List.mem_cons, List.not_mem_nil, or_false] at hi
              subst hi
              refine stepD (i := 10) rfl (by rfl) (fun K10 h10 => ?_)
              refine wp_store_row 25 (.tmp 17) (.tmp 96) rfl wc.heap.size #[.int .i64 fv.kind, .int .u64 fv.num, .string fv.text, .slice pc nf cc, .int .i64 fv.elem] rfl rfl 25 _ hzr (by as_aux_lemma => kernel_rfl) (by as_aux_lemma => kernel_rfl) (by simp [Value.oneCell']) ?_
              have hst : Below W206.heap.size W206 ((wc.alloc (.cells #[.int .i64 0, .int .u64 0, .string ⟨#[]⟩, .slice none 0 0, .int .i64 0] 25)).setRow wc.heap.size #[.int .i64 fv.kind, .int .u64 fv.num, .string fv.text, .slice pc nf cc, .int .i64 fv.elem]) := below_setRow hwz hwc.size _
              have hrw := setRow_heap (wc.alloc (.cells #[.int .i64 0, .int .u64 0, .string ⟨#[]⟩, .slice none 0 0, .int .i64 0] 25)) wc.heap.size _ #[.int .i64 fv.kind, .int .u64 fv.num, .string fv.text, .slice pc nf cc, .int .i64 fv.elem] _ _ hzr
              refine h10.out _ _ (HSX.out _ hst) ?_
              clear h10 hS
              have hS := HSX.out _ hst
              try simp only [Act.put, List.setIfInBounds_toArray]
              refine wpAnyH_all (rs := [11]) (by kernel_rfl) (by simp) ?_
              intro i hi
              simp only [List.mem_cons, List.not_mem_nil, or_false] at hi
              subst hi
              refine stepD (i := 11) rfl (by rfl) (fun K11 h11 => ?_)
              go_simp
              refine h11.out _ _ hS ?_
              clear h11
              refine wpAnyH_done (by kernel_rfl) ?_ _
              clear hS
              first
                | refine hKK _ _ (Met.intro (KK _ _ ?_))
                | refine KK _ _ (Met.intro (hKK _ _ ?_))
                | (refine Met.intro ?_; refine hKK _ _ (KK _ _ ?_))
              (repeat apply Exists.intro)
              refine ⟨?_, rfl⟩
              exact ⟨rfl, wc.heap.size, pc, cc, FC, rfl, hrw, VO.keep ((hvc.mono (Nat.le_refl _)).blw ((Below.refl _ _).alloc (Nat.le_refl _) (.cells #[.int .i64 0, .int .u64 0, .string ⟨#[]⟩, .slice none 0 0, .int .i64 0] 25))) (fun g hg => setRow_other (wc.alloc (.cells #[.int .i64 0, .int .u64 0, .string ⟨#[]⟩, .slice none 0 0, .int .i64 0] 25)) wc.heap.size g #[.int .i64 fv.kind, .int .u64 fv.num, .string fv.text, .slice pc nf cc, .int .i64 fv.elem] (fun e => by have := (hvc.lt g hg).2; omega)), hwc.size, hst⟩
            · refine stepD (i := 9) rfl (by rfl) (fun K9 h9 => ?_)
              go_simp
              have hda : Below W206.heap.size W206 ((W206.alloc (.cells #[.int .i64 0, .int .u64 0, .string ⟨#[]⟩, .slice none 0 0, .int .i64 0] 25)).drew) := (let h := (Below.refl W206.heap.size W206).alloc (Nat.le_refl _) _; ⟨h.os, h.tape, h.output, h.size, h.block⟩)
              have hzr : (W206.alloc (.cells #[.int .i64 0, .int .u64 0, .string ⟨#[]⟩, .slice none 0 0, .int .i64 0] 25)).drew.heap[W206.heap.size]? = some (.cells #[.int .i64 0, .int .u64 0, .string ⟨#[]⟩, .slice none 0 0, .int .i64 0] 25 (0, 0)) := _root_.Go.heap_alloc_new W206 _
              have hzs : W206.heap.size < (W206.alloc (.cells #[.int .i64 0, .int .u64 0, .string ⟨#[]⟩, .slice none 0 0, .int .i64 0] 25)).drew.heap.size := by show _ < (W206.alloc _).heap.size; simp
              refine h9.out _ _ (HSX.out _ hda) ?_
              clear h9 hS
              have hS := HSX.out _ hda
              try simp only [Act.put, List.setIfInBounds_toArray, List.set_cons_zero, List.set_cons_succ]
              try change wpAnyH _ _ _ _ _ _ _ _ (W206.alloc (.cells #[.int .i64 0, .int .u64 0, .string ⟨#[]⟩, .slice none 0 0, .int .i64 0] 25)).drew
              generalize (W206.alloc (.cells #[.int .i64 0, .int .u64 0, .string ⟨#[]⟩, .slice none 0 0, .int .i64 0] 25)).drew = wda at *
              refine wpAnyH_all (rs := [5]) (by kernel_rfl) (by simp) ?_
              intro i hi
              simp only [List.mem_cons, List.not_mem_nil, or_false] at hi
              subst hi
              refine stepD (i := 5) rfl (by rfl) (fun K5 h5 => ?_)
              go_simp
              (with_reducible refine (HVV.out _ hda).mono ?_)
              rintro e wc ⟨tc, FC, rfl, hvc, hbc⟩
              obtain ⟨pc, cc, hsc, hjc1, hjc2⟩ := hvc.slice
              rw [HNF.out] at hsc
              subst hsc
              clear hjc1 hjc2
              have hwc : Below W206.heap.size W206 wc := hda.trans (hbc.mono hda.size)
              refine h5.out _ _ (HSX.out _ hwc) ?_
              clear h5 hS
              have hS := HSX.out _ hwc
              try simp only [Act.put, List.setIfInBounds_toArray, List.set_cons_zero, List.set_cons_succ]
              refine takeD (i := 6) (v := .tuple #[.agg #[.int .i64 fv.kind, .int .u64 fv.num, .string fv.text, .slice pc nf cc, .int .i64 fv.elem], .bool fb]) (some 89) rfl rfl (by kernel_rfl) (by kernel_rfl) (by kernel_rfl) (fun _ _ _ h => h) (Or.inl ⟨by rfl, by rintro V ⟨h0, h1, h2, h3, h4, h5, h6, h7, h8, h9⟩; go_simp⟩) hS ?_
              simp only [Act.put, List.setIfInBounds_toArray, List.set_cons_zero, List.set_cons_succ]
              refine takeD (i := 7) (v := .agg #[.int .i64 fv.kind, .int .u64 fv.num, .string fv.text, .slice pc nf cc, .int .i64 fv.elem]) (some 96) rfl rfl (by kernel_rfl) (by kernel_rfl) (by kernel_rfl) (fun _ _ _ h => h) (Or.inl ⟨by rfl, by rintro V ⟨h0, h1, h2, h3, h4, h5, h6, h7, h8, h9⟩; go_simp⟩) hS ?_
              simp only [Act.put, List.setIfInBounds_toArray, List.set_cons_zero, List.set_cons_succ]
              refine takeD (i := 8) (v := .bool fb) (some 97) rfl rfl (by kernel_rfl) (by kernel_rfl) (by kernel_rfl) (fun _ _ _ h => h) (Or.inl ⟨by rfl, by rintro V ⟨h0, h1, h2, h3, h4, h5, h6, h7, h8, h9⟩; go_simp⟩) hS ?_
              simp only [Act.put, List.setIfInBounds_toArray, List.set_cons_zero, List.set_cons_succ]
              refine wpAnyH_all (rs := [10]) (by kernel_rfl) (by simp) ?_
              intro i hi
              simp only [List.mem_cons, List.not_mem_nil, or_false] at hi
              subst hi
              refine stepD (i := 10) rfl (by rfl) (fun K10 h10 => ?_)
              refine wp_store_row 25 (.tmp 17) (.tmp 96) rfl W206.heap.size #[.int .i64 fv.kind, .int .u64 fv.num, .string fv.text, .slice pc nf cc, .int .i64 fv.elem] rfl rfl 25 _ ((hbc.block _ hzs).trans hzr) (by as_aux_lemma => kernel_rfl) (by as_aux_lemma => kernel_rfl) (by simp [Value.oneCell']) ?_
              have hst : Below W206.heap.size W206 (wc.setRow W206.heap.size #[.int .i64 fv.kind, .int .u64 fv.num, .string fv.text, .slice pc nf cc, .int .i64 fv.elem]) := below_setRow hwc (Nat.le_refl _) _
              have hrw := setRow_heap wc W206.heap.size _ #[.int .i64 fv.kind, .int .u64 fv.num, .string fv.text, .slice pc nf cc, .int .i64 fv.elem] _ _ ((hbc.block _ hzs).trans hzr)
              refine h10.out _ _ (HSX.out _ hst) ?_
              clear h10 hS
              have hS := HSX.out _ hst
              try simp only [Act.put, List.setIfInBounds_toArray]
              refine wpAnyH_all (rs := [11]) (by kernel_rfl) (by simp) ?_
              intro i hi
              simp only [List.mem_cons, List.not_mem_nil, or_false] at hi
              subst hi
              refine stepD (i := 11) rfl (by rfl) (fun K11 h11 => ?_)
              go_simp
              refine h11.out _ _ hS ?_
              clear h11
              refine wpAnyH_done (by kernel_rfl) ?_ _
              clear hS
              first
                | refine hKK _ _ (Met.intro (KK _ _ ?_))
                | refine KK _ _ (Met.intro (hKK _ _ ?_))
                | (refine Met.intro ?_; refine hKK _ _ (KK _ _ ?_))
              (repeat apply Exists.intro)
              refine ⟨?_, rfl⟩
              exact ⟨rfl, W206.heap.size, pc, cc, FC, rfl, hrw, VO.keep (hvc.mono (Nat.le_of_lt hzs)) (fun g hg => setRow_other wc W206.heap.size g #[.int .i64 fv.kind, .int .u64 fv.num, .string fv.text, .slice pc nf cc, .int .i64 fv.elem] (fun e => by have h1 := (hvc.lt g hg).1; omega)), Nat.le_refl _, hst⟩
          case rest =>
          obtain ⟨rfl, xx_x17, pc_x17, cc_x17, F17, rfl, hbx, hvo, hxl, hb⟩ := hcut
          rename World => W207
          clear HSX HVV
          have HIN_F17 : Hid (∀ g, F17 g → W206.heap.size ≤ g ∧ g < W207.heap.size) := Lib.hid (hvo.lt)
          have HXL_x17 := Lib.hid hxl
          clear hxl
          have hz308 : W206.heap.size ≤ W207.heap.size := hb.size
          have HZ308 := Lib.hid hz308
          clear hz308
          have HM309 : Hid ((Below w.heap.size w W207) ∧ (W207.heap[x0]? = some (.cells #[.int .i64 a.kind, .int .u64 a.num, .string a.text, .slice pa na ca, .int .i64 a.elem] 25 (0, 0))) ∧ (W207.heap[x1]? = some (.cells #[.int .i64 b.kind, .int .u64 b.num, .string b.text, .slice pb nb cb, .int .i64 b.elem] 25 (0, 0))) ∧ (World.ownsRow W207 kb 25 5 (.slice (some ⟨kg, 0, none⟩) nK ck) nK (vrow Ks ss)) ∧ (VL W207 wK.heap.size a (.slice (some ⟨g_x9, 0, none⟩) na (na + 3)) F9) ∧ (W207.heap[x9]? = some (.cells #[.int .i64 a.kind, .int .u64 a.num, .string a.text, .slice (some ⟨g_x9, 0, none⟩) na (na + 3), .int .i64 a.elem] 25 (0, 0))) ∧ (BkIn W207 w.heap.size bk (.slice none 0 0) [] QZ) ∧ (VO W207 gb (V.mk 0 0 ⟨#[]⟩ ((Ks.take ik).map (findV a)) 0) (.slice pg ik cg) FG) ∧ (W207.heap[x13]? = some (.cells #[.int .i64 kx.kind, .int .u64 kx.num, .string kx.text, .slice (some ⟨g_x13, 0, none⟩) nz (nz + 3), .int .i64 kx.elem] 25 (0, 0))) ∧ (VO W207 W202.heap.size fv (.slice p_x14 nf c_x14) F14) ∧ (W207.heap[x14]? = some (.cells #[.int .i64 fv.kind, .int .u64 fv.num, .string fv.text, .slice p_x14 nf c_x14, .int .i64 fv.elem] 25 (0, 0))) ∧ (VO W207 W206.heap.size fv (.slice pc_x17 nf cc_x17) F17) ∧ (W207.heap[xx_x17]? = some (.cells #[.int .i64 fv.kind, .int .u64 fv.num, .string fv.text, .slice pc_x17 nf cc_x17, .int .i64 fv.elem] 25 (0, 0)))) := Lib.hid ((And.intro (HM308.out.1.trans (hb.mono HM308.out.1.size)) (And.intro ((hb.block _ (Array.getElem?_eq_some_iff.1 HM308.out.2.1).1).trans HM308.out.2.1) (And.intro ((hb.block _ (Array.getElem?_eq_some_iff.1 HM308.out.2.2.1).1).trans HM308.out.2.2.1) (And.intro (ownsRow_keep HM308.out.2.2.2.1 (fun j hj => hb.block j (World.ownsRow.lt HM308.out.2.2.2.1 j hj).2)) (And.intro (HM308.out.2.2.2.2.1.blw hb) (And.intro ((hb.block _ (Array.getElem?_eq_some_iff.1 HM308.out.2.2.2.2.2.1).1).trans HM308.out.2.2.2.2.2.1) (And.intro (HM308.out.2.2.2.2.2.2.1.below hb) (And.intro (HM308.out.2.2.2.2.2.2.2.1.blw hb) (And.intro ((hb.block _ (Array.getElem?_eq_some_iff.1 HM308.out.2.2.2.2.2.2.2.2.1).1).trans HM308.out.2.2.2.2.2.2.2.2.1) (And.intro (HM308.out.2.2.2.2.2.2.2.2.2.1.blw hb) (And.intro ((hb.block _ (Array.getElem?_eq_some_iff.1 HM308.out.2.2.2.2.2.2.2.2.2.2).1).trans HM308.out.2.2.2.2.2.2.2.2.2.2) (And.intro hvo hbx)))))))))))))
          clear HM308
          clear hb hvo hbx
          have hc := requal_any fv W207 _ fv _ HM309.out.2.2.2.2.2.2.2.2.2.1.vin HM309.out.2.2.2.2.2.2.2.2.2.2.2.1.vin
          rw [decide_eq_true rfl] at hc
          have HC208 := Lib.hid hc
          clear hc
          have q := HM309.out.2.2.2.2.2.2.2.2.2.2.1
          have x14_0 : W207.cell? ⟨x14, 0, none⟩ = some (.int .i64 fv.kind) := (cell_of_row _ _ 0 _ _ _ q).trans rfl
          have x14_1 : W207.cell? ⟨x14, 1, none⟩ = some (.int .u64 fv.num) := (cell_of_row _ _ 1 _ _ _ q).trans rfl
          have x14_2 : W207.cell? ⟨x14, 2, none⟩ = some (.string fv.text) := (cell_of_row _ _ 2 _ _ _ q).trans rfl
          have x14_3 : W207.cell? ⟨x14, 3, none⟩ = some (.slice p_x14 nf c_x14) := (cell_of_row _ _ 3 _ _ _ q).trans rfl
          have x14_4 : W207.cell? ⟨x14, 4, none⟩ = some (.int .i64 fv.elem) := (cell_of_row _ _ 4 _ _ _ q).trans rfl
          clear q
          have q := HM309.out.2.2.2.2.2.2.2.2.2.2.2.2
          have xx_x17_0 : W207.cell? ⟨xx_x17, 0, none⟩ = some (.int .i64 fv.kind) := (cell_of_row _ _ 0 _ _ _ q).trans rfl
          have xx_x17_1 : W207.cell? ⟨xx_x17, 1, none⟩ = some (.int .u64 fv.num) := (cell_of_row _ _ 1 _ _ _ q).trans rfl
          have xx_x17_2 : W207.cell? ⟨xx_x17, 2, none⟩ = some (.string fv.text) := (cell_of_row _ _ 2 _ _ _ q).trans rfl
          have xx_x17_3 : W207.cell? ⟨xx_x17, 3, none⟩ = some (.slice pc_x17 nf cc_x17) := (cell_of_row _ _ 3 _ _ _ q).trans rfl
          have xx_x17_4 : W207.cell? ⟨xx_x17, 4, none⟩ = some (.int .i64 fv.elem) := (cell_of_row _ _ 4 _ _ _ q).trans rfl
          clear q
          go_wp2_with fail
          refine HC208.out.mono ?_
          clear x14_0 x14_1 x14_2 x14_3 x14_4 xx_x17_0 xx_x17_1 xx_x17_2 xx_x17_3 xx_x17_4
          rintro e W208 ⟨rfl, hb⟩
          have hz309 : W207.heap.size ≤ W208.heap.size := hb.size
          have HZ309 := Lib.hid hz309
          clear hz309
          have HM310 : Hid ((Below w.heap.size w W208) ∧ (W208.heap[x0]? = some (.cells #[.int .i64 a.kind, .int .u64 a.num, .string a.text, .slice pa na ca, .int .i64 a.elem] 25 (0, 0))) ∧ (W208.heap[x1]? = some (.cells #[.int .i64 b.kind, .int .u64 b.num, .string b.text, .slice pb nb cb, .int .i64 b.elem] 25 (0, 0))) ∧ (World.ownsRow W208 kb 25 5 (.slice (some ⟨kg, 0, none⟩) nK ck) nK (vrow Ks ss)) ∧ (VL W208 wK.heap.size a (.slice (some ⟨g_x9, 0, none⟩) na (na + 3)) F9) ∧ (W208.heap[x9]? = some (.cells #[.int .i64 a.kind, .int .u64 a.num, .string a.text, .slice (some ⟨g_x9, 0, none⟩) na (na + 3), .int .i64 a.elem] 25 (0, 0))) ∧ (BkIn W208 w.heap.size bk (.slice none 0 0) [] QZ) ∧ (VO W208 gb (V.mk 0 0 ⟨#[]⟩ ((Ks.take ik).map (findV a)) 0) (.slice pg ik cg) FG) ∧ (W208.heap[x13]? = some (.cells #[.int .i64 kx.kind, .int .u64 kx.num, .string kx.text, .slice (some ⟨g_x13, 0, none⟩) nz (nz + 3), .int .i64 kx.elem] 25 (0, 0))) ∧ (VO W208 W202.heap.size fv (.slice p_x14 nf c_x14) F14) ∧ (W208.heap[x14]? = some (.cells #[.int .i64 fv.kind, .int .u64 fv.num, .string fv.text, .slice p_x14 nf c_x14, .int .i64 fv.elem] 25 (0, 0))) ∧ (VO W208 W206.heap.size fv (.slice pc_x17 nf cc_x17) F17) ∧ (W208.heap[xx_x17]? = some (.cells #[.int .i64 fv.kind, .int .u64 fv.num, .string fv.text, .slice pc_x17 nf cc_x17, .int .i64 fv.elem] 25 (0, 0)))) := Lib.hid ((And.intro (HM309.out.1.trans (hb.mono HM309.out.1.size)) (And.intro ((hb.block _ (Array.getElem?_eq_some_iff.1 HM309.out.2.1).1).trans HM309.out.2.1) (And.intro ((hb.block _ (Array.getElem?_eq_some_iff.1 HM309.out.2.2.1).1).trans HM309.out.2.2.1) (And.intro (ownsRow_keep HM309.out.2.2.2.1 (fun j hj => hb.block j (World.ownsRow.lt HM309.out.2.2.2.1 j hj).2)) (And.intro (HM309.out.2.2.2.2.1.blw hb) (And.intro ((hb.block _ (Array.getElem?_eq_some_iff.1 HM309.out.2.2.2.2.2.1).1).trans HM309.out.2.2.2.2.2.1) (And.intro (HM309.out.2.2.2.2.2.2.1.below hb) (And.intro (HM309.out.2.2.2.2.2.2.2.1.blw hb) (And.intro ((hb.block _ (Array.getElem?_eq_some_iff.1 HM309.out.2.2.2.2.2.2.2.2.1).1).trans HM309.out.2.2.2.2.2.2.2.2.1) (And.intro (HM309.out.2.2.2.2.2.2.2.2.2.1.blw hb) (And.intro ((hb.block _ (Array.getElem?_eq_some_iff.1 HM309.out.2.2.2.2.2.2.2.2.2.2.1).1).trans HM309.out.2.2.2.2.2.2.2.2.2.2.1) (And.intro (HM309.out.2.2.2.2.2.2.2.2.2.2.2.1.blw hb) ((hb.block _ (Array.getElem?_eq_some_iff.1 HM309.out.2.2.2.2.2.2.2.2.2.2.2.2).1).trans HM309.out.2.2.2.2.2.2.2.2.2.2.2.2))))))))))))))
          clear HM309
          clear hb
          go_upto_region 25 with fail
          have hpush := VO.push (v := .mk 0 0 ⟨#[]⟩ [] 0) (l := (Ks.take ik).map (findV a)) (x := fv) (VO.blw (HM310.out.2.2.2.2.2.2.2.1 : VO W208 gb (V.mk 0 0 ⟨#[]⟩ ((Ks.take ik).map (findV a)) 0) (.slice pg ik cg) FG) ((Below.refl _ _).alloc (Nat.le_refl _) (.cells #[.int .i64 fv.kind, .int .u64 fv.num, .string fv.text, .slice p_x14 nf c_x14, .int .i64 fv.elem] 25))) ((VO.mono HM310.out.2.2.2.2.2.2.2.2.2.1 (by have z0 := HX_x0.out; have z1 := HX_x1.out; have z2 := HZw.out; have z3 := HLT0.out; have z4 := HLT1.out; have z5 := HZ1.out; have z6 := HZ2.out; have z7 := HKB.out; have z8 := HZ3.out; have z9 := HZR.out; have z10 := HZ5.out; have z11 := HX_x9.out; have z12 := HLT_x9.out; have z13 := HZ6.out; have z14 := HZ7.out; have z15 := HGB.out; have z16 := HZR2.out; have z17 := HZ301.out; have z18 := HX_x13.out; have z19 := HLT_x13.out; have z20 := HZ302.out; have z21 := HZ303.out; have z22 := HX_x14.out; have z23 := HLT_x14.out; have z24 := HZ304.out; have z25 := HZ305.out; have z26 := HZ307.out; have z27 := HXL_x17.out; have z28 := HZ308.out; have z29 := HZ309.out; omega)).blw ((Below.refl _ _).alloc (Nat.le_refl _) _)) (fun g q q2 => by have h1 := HIN_FG.out g q; have h2 := HIN_F14.out g q2; have z0 := HX_x0.out; have z1 := HX_x1.out; have z2 := HZw.out; have z3 := HLT0.out; have z4 := HLT1.out; have z5 := HZ1.out; have z6 := HZ2.out; have z7 := HKB.out; have z8 := HZ3.out; have z9 := HZR.out; have z10 := HZ5.out; have z11 := HX_x9.out; have z12 := HLT_x9.out; have z13 := HZ6.out; have z14 := HZ7.out; have z15 := HGB.out; have z16 := HZR2.out; have z17 := HZ301.out; have z18 := HX_x13.out; have z19 := HLT_x13.out; have z20 := HZ302.out; have z21 := HZ303.out; have z22 := HX_x14.out; have z23 := HLT_x14.out; have z24 := HZ304.out; have z25 := HZ305.out; have z26 := HZ307.out; have z27 := HXL_x17.out; have z28 := HZ308.out; have z29 := HZ309.out; omega) (by simp; have z0 := HX_x0.out; have z1 := HX_x1.out; have z2 := HZw.out; have z3 := HLT0.out; have z4 := HLT1.out; have z5 := HZ1.out; have z6 := HZ2.out; have z7 := HKB.out; have z8 := HZ3.out; have z9 := HZR.out; have z10 := HZ5.out; have z11 := HX_x9.out; have z12 := HLT_x9.out; have z13 := HZ6.out; have z14 := HZ7.out; have z15 := HGB.out; have z16 := HZR2.out; have z17 := HZ301.out; have z18 := HX_x13.out; have z19 := HLT_x13.out; have z20 := HZ302.out; have z21 := HZ303.out; have z22 := HX_x14.out; have z23 := HLT_x14.out; have z24 := HZ304.out; have z25 := HZ305.out; have z26 := HZ307.out; have z27 := HXL_x17.out; have z28 := HZ308.out; have z29 := HZ309.out; omega)
          obtain ⟨xs, hrow, hpu⟩ := hpush
          rw [HKV.out.2.2.2] at hrow hpu
          have HRW := Lib.hid hrow
          have HPU := Lib.hid hpu
          have hik62 : ik ≤ 62 := by have := HNK.out.2; omega
          clear hrow hpu
          have q := HM310.out.2.2.2.2.2.2.2.2.2.2.1
          have x14_0 : W208.cell? ⟨x14, 0, none⟩ = some (.int .i64 fv.kind) := (cell_of_row _ _ 0 _ _ _ q).trans rfl
          have x14_1 : W208.cell? ⟨x14, 1, none⟩ = some (.int .u64 fv.num) := (cell_of_row _ _ 1 _ _ _ q).trans rfl
          have x14_2 : W208.cell? ⟨x14, 2, none⟩ = some (.string fv.text) := (cell_of_row _ _ 2 _ _ _ q).trans rfl
          have x14_3 : W208.cell? ⟨x14, 3, none⟩ = some (.slice p_x14 nf c_x14) := (cell_of_row _ _ 3 _ _ _ q).trans rfl
          have x14_4 : W208.cell? ⟨x14, 4, none⟩ = some (.int .i64 fv.elem) := (cell_of_row _ _ 4 _ _ _ q).trans rfl
          clear q
          go_wp2_with (first
            | (at_builtin; refine wpList_append_two _ rfl (.tmp 112) (.tmp 114) 23 rfl gb 25 i0 _ 5 64 Tryd.underlying23 hi hz0 hz1 hz2 rfl _ _ _ rfl HRW.out ⟨W208.heap.size, 0, none⟩ 1 [.int .i64 fv.kind, .int .u64 fv.num, .string fv.text, .slice p_x14 nf c_x14, .int .i64 fv.elem] rfl rfl (fun j u hj => cell_of_newrow hj) (by simp [Value.oneCell']) (by unfold maxLen; omega) (by omega) ?_; intro v' w9 hA; have HA := Lib.hid hA; clear hA))
          clear x14_0 x14_1 x14_2 x14_3 x14_4
          obtain ⟨F9n, hF1, _⟩ := HPU.out w9 v' HA.out
          have hgr := HA.out.grown
          have hal : Below W208.heap.size W208 (W208.alloc (.cells #[.int .i64 fv.kind, .int .u64 fv.num, .string fv.text, .slice p_x14 nf c_x14, .int .i64 fv.elem] 25)) := (Below.refl _ _).alloc (Nat.le_refl _) _
          obtain ⟨QG, hQG⟩ : ∃ Q : Nat → Prop, (fun g => (Value.slice pg ik cg).ownBlock = some g) = Q := ⟨_, rfl⟩
          have HIN_QG : Hid (∀ g, QG g → gb ≤ g ∧ g < wr.heap.size) := Lib.hid (fun g q => by rw [← hQG] at q; exact HIN_FG.out g (VO.own HM310.out.2.2.2.2.2.2.2.1 q))
          have hk : KeepF QG W208 w9 := (KeepF.of_below hal).trans (hQG ▸ keepF_row hgr)
          have hiv : ∀ g, QG g → IsVal W208 g := fun g q => by rw [← hQG] at q; exact VO.isVal HM310.out.2.2.2.2.2.2.2.1 g (VO.own HM310.out.2.2.2.2.2.2.2.1 q)
          have HGOT2 := Lib.hid hF1
          clear hF1 hgr hal hQG
          have HM311 : Hid ((Below w.heap.size w W208) ∧ (W208.heap[x0]? = some (.cells #[.int .i64 a.kind, .int .u64 a.num, .string a.text, .slice pa na ca, .int .i64 a.elem] 25 (0, 0))) ∧ (W208.heap[x1]? = some (.cells #[.int .i64 b.kind, .int .u64 b.num, .string b.text, .slice pb nb cb, .int .i64 b.elem] 25 (0, 0))) ∧ (World.ownsRow W208 kb 25 5 (.slice (some ⟨kg, 0, none⟩) nK ck) nK (vrow Ks ss)) ∧ (VL W208 wK.heap.size a (.slice (some ⟨g_x9, 0, none⟩) na (na + 3)) F9) ∧ (W208.heap[x9]? = some (.cells #[.int .i64 a.kind, .int .u64 a.num, .string a.text, .slice (some ⟨g_x9, 0, none⟩) na (na + 3), .int .i64 a.elem] 25 (0, 0))) ∧ (BkIn W208 w.heap.size bk (.slice none 0 0) [] QZ) ∧ (W208.heap[x13]? = some (.cells #[.int .i64 kx.kind, .int .u64 kx.num, .string kx.text, .slice (some ⟨g_x13, 0, none⟩) nz (nz + 3), .int .i64 kx.elem] 25 (0, 0))) ∧ (VO W208 W202.heap.size fv (.slice p_x14 nf c_x14) F14) ∧ (W208.heap[x14]? = some (.cells #[.int .i64 fv.kind, .int .u64 fv.num, .string fv.text, .slice p_x14 nf c_x14, .int .i64 fv.elem] 25 (0, 0))) ∧ (VO W208 W206.heap.size fv (.slice pc_x17 nf cc_x17) F17) ∧ (W208.heap[xx_x17]? = some (.cells #[.int .i64 fv.kind, .int .u64 fv.num, .string fv.text, .slice pc_x17 nf cc_x17, .int .i64 fv.elem] 25 (0, 0)))) := Lib.hid ((And.intro HM310.out.1 (And.intro HM310.out.2.1 (And.intro HM310.out.2.2.1 (And.intro HM310.out.2.2.2.1 (And.intro HM310.out.2.2.2.2.1 (And.intro HM310.out.2.2.2.2.2.1 (And.intro HM310.out.2.2.2.2.2.2.1 (And.intro HM310.out.2.2.2.2.2.2.2.2.1 (And.intro HM310.out.2.2.2.2.2.2.2.2.2.1 (And.intro HM310.out.2.2.2.2.2.2.2.2.2.2.1 (And.intro HM310.out.2.2.2.2.2.2.2.2.2.2.2.1 HM310.out.2.2.2.2.2.2.2.2.2.2.2.2))))))))))))
          clear HM310
          have HM312 : Hid ((Below w.heap.size w W208) ∧ (W208.heap[x0]? = some (.cells #[.int .i64 a.kind, .int .u64 a.num, .string a.text, .slice pa na ca, .int .i64 a.elem] 25 (0, 0))) ∧ (W208.heap[x1]? = some (.cells #[.int .i64 b.kind, .int .u64 b.num, .string b.text, .slice pb nb cb, .int .i64 b.elem] 25 (0, 0))) ∧ (World.ownsRow W208 kb 25 5 (.slice (some ⟨kg, 0, none⟩) nK ck) nK (vrow Ks ss)) ∧ (VL W208 wK.heap.size a (.slice (some ⟨g_x9, 0, none⟩) na (na + 3)) F9) ∧ (W208.heap[x9]? = some (.cells #[.int .i64 a.kind, .int .u64 a.num, .string a.text, .slice (some ⟨g_x9, 0, none⟩) na (na + 3), .int .i64 a.elem] 25 (0, 0))) ∧ (BkIn W208 w.heap.size bk (.slice none 0 0) [] QZ) ∧ (W208.heap[x13]? = some (.cells #[.int .i64 kx.kind, .int .u64 kx.num, .string kx.text, .slice (some ⟨g_x13, 0, none⟩) nz (nz + 3), .int .i64 kx.elem] 25 (0, 0))) ∧ (W208.heap[x14]? = some (.cells #[.int .i64 fv.kind, .int .u64 fv.num, .string fv.text, .slice p_x14 nf c_x14, .int .i64 fv.elem] 25 (0, 0))) ∧ (VO W208 W206.heap.size fv (.slice pc_x17 nf cc_x17) F17) ∧ (W208.heap[xx_x17]? = some (.cells #[.int .i64 fv.kind, .int .u64 fv.num, .string fv.text, .slice pc_x17 nf cc_x17, .int .i64 fv.elem] 25 (0, 0)))) := Lib.hid ((And.intro HM311.out.1 (And.intro HM311.out.2.1 (And.intro HM311.out.2.2.1 (And.intro HM311.out.2.2.2.1 (And.intro HM311.out.2.2.2.2.1 (And.intro HM311.out.2.2.2.2.2.1 (And.intro HM311.out.2.2.2.2.2.2.1 (And.intro HM311.out.2.2.2.2.2.2.2.1 (And.intro HM311.out.2.2.2.2.2.2.2.2.2.1 (And.intro HM311.out.2.2.2.2.2.2.2.2.2.2.1 HM311.out.2.2.2.2.2.2.2.2.2.2.2)))))))))))
          clear HM311
          have HM313 : Hid ((Below w.heap.size w W208) ∧ (W208.heap[x0]? = some (.cells #[.int .i64 a.kind, .int .u64 a.num, .string a.text, .slice pa na ca, .int .i64 a.elem] 25 (0, 0))) ∧ (W208.heap[x1]? = some (.cells #[.int .i64 b.kind, .int .u64 b.num, .string b.text, .slice pb nb cb, .int .i64 b.elem] 25 (0, 0))) ∧ (World.ownsRow W208 kb 25 5 (.slice (some ⟨kg, 0, none⟩) nK ck) nK (vrow Ks ss)) ∧ (VL W208 wK.heap.size a (.slice (some ⟨g_x9, 0, none⟩) na (na + 3)) F9) ∧ (W208.heap[x9]? = some (.cells #[.int .i64 a.kind, .int .u64 a.num, .string a.text, .slice (some ⟨g_x9, 0, none⟩) na (na + 3), .int .i64 a.elem] 25 (0, 0))) ∧ (BkIn W208 w.heap.size bk (.slice none 0 0) [] QZ) ∧ (W208.heap[x13]? = some (.cells #[.int .i64 kx.kind, .int .u64 kx.num, .string kx.text, .slice (some ⟨g_x13, 0, none⟩) nz (nz + 3), .int .i64 kx.elem] 25 (0, 0))) ∧ (W208.heap[x14]? = some (.cells #[.int .i64 fv.kind, .int .u64 fv.num, .string fv.text, .slice p_x14 nf c_x14, .int .i64 fv.elem] 25 (0, 0))) ∧ (W208.heap[xx_x17]? = some (.cells #[.int .i64 fv.kind, .int .u64 fv.num, .string fv.text, .slice pc_x17 nf cc_x17, .int .i64 fv.elem] 25 (0, 0)))) := Lib.hid ((And.intro HM312.out.1 (And.intro HM312.out.2.1 (And.intro HM312.out.2.2.1 (And.intro HM312.out.2.2.2.1 (And.intro HM312.out.2.2.2.2.1 (And.intro HM312.out.2.2.2.2.2.1 (And.intro HM312.out.2.2.2.2.2.2.1 (And.intro HM312.out.2.2.2.2.2.2.2.1 (And.intro HM312.out.2.2.2.2.2.2.2.2.1 HM312.out.2.2.2.2.2.2.2.2.2.2))))))))))
          clear HM312
          have HM314 : Hid ((Below w.heap.size w W208) ∧ (W208.heap[x0]? = some (.cells #[.int .i64 a.kind, .int .u64 a.num, .string a.text, .slice pa na ca, .int .i64 a.elem] 25 (0, 0))) ∧ (W208.heap[x1]? = some (.cells #[.int .i64 b.kind, .int .u64 b.num, .string b.text, .slice pb nb cb, .int .i64 b.elem] 25 (0, 0))) ∧ (World.ownsRow W208 kb 25 5 (.slice (some ⟨kg, 0, none⟩) nK ck) nK (vrow Ks ss)) ∧ (VL W208 wK.heap.size a (.slice (some ⟨g_x9, 0, none⟩) na (na + 3)) F9) ∧ (W208.heap[x9]? = some (.cells #[.int .i64 a.kind, .int .u64 a.num, .string a.text, .slice (some ⟨g_x9, 0, none⟩) na (na + 3), .int .i64 a.elem] 25 (0, 0))) ∧ (BkIn W208 w.heap.size bk (.slice none 0 0) [] QZ) ∧ (W208.heap[x14]? = some (.cells #[.int .i64 fv.kind, .int .u64 fv.num, .string fv.text, .slice p_x14 nf c_x14, .int .i64 fv.elem] 25 (0, 0))) ∧ (W208.heap[xx_x17]? = some (.cells #[.int .i64 fv.kind, .int .u64 fv.num, .string fv.text, .slice pc_x17 nf cc_x17, .int .i64 fv.elem] 25 (0, 0)))) := Lib.hid ((And.intro HM313.out.1 (And.intro HM313.out.2.1 (And.intro HM313.out.2.2.1 (And.intro HM313.out.2.2.2.1 (And.intro HM313.out.2.2.2.2.1 (And.intro HM313.out.2.2.2.2.2.1 (And.intro HM313.out.2.2.2.2.2.2.1 (And.intro HM313.out.2.2.2.2.2.2.2.2.1 HM313.out.2.2.2.2.2.2.2.2.2)))))))))
          clear HM313
          have HM315 : Hid ((Below w.heap.size w W208) ∧ (W208.heap[x0]? = some (.cells #[.int .i64 a.kind, .int .u64 a.num, .string a.text, .slice pa na ca, .int .i64 a.elem] 25 (0, 0))) ∧ (W208.heap[x1]? = some (.cells #[.int .i64 b.kind, .int .u64 b.num, .string b.text, .slice pb nb cb, .int .i64 b.elem] 25 (0, 0))) ∧ (World.ownsRow W208 kb 25 5 (.slice (some ⟨kg, 0, none⟩) nK ck) nK (vrow Ks ss)) ∧ (VL W208 wK.heap.size a (.slice (some ⟨g_x9, 0, none⟩) na (na + 3)) F9) ∧ (W208.heap[x9]? = some (.cells #[.int .i64 a.kind, .int .u64 a.num, .string a.text, .slice (some ⟨g_x9, 0, none⟩) na (na + 3), .int .i64 a.elem] 25 (0, 0))) ∧ (BkIn W208 w.heap.size bk (.slice none 0 0) [] QZ) ∧ (W208.heap[xx_x17]? = some (.cells #[.int .i64 fv.kind, .int .u64 fv.num, .string fv.text, .slice pc_x17 nf cc_x17, .int .i64 fv.elem] 25 (0, 0)))) := Lib.hid ((And.intro HM314.out.1 (And.intro HM314.out.2.1 (And.intro HM314.out.2.2.1 (And.intro HM314.out.2.2.2.1 (And.intro HM314.out.2.2.2.2.1 (And.intro HM314.out.2.2.2.2.2.1 (And.intro HM314.out.2.2.2.2.2.2.1 HM314.out.2.2.2.2.2.2.2.2))))))))
          clear HM314
          have HM316 : Hid ((Below w.heap.size w W208) ∧ (W208.heap[x0]? = some (.cells #[.int .i64 a.kind, .int .u64 a.num, .string a.text, .slice pa na ca, .int .i64 a.elem] 25 (0, 0))) ∧ (W208.heap[x1]? = some (.cells #[.int .i64 b.kind, .int .u64 b.num, .string b.text, .slice pb nb cb, .int .i64 b.elem] 25 (0, 0))) ∧ (World.ownsRow W208 kb 25 5 (.slice (some ⟨kg, 0, none⟩) nK ck) nK (vrow Ks ss)) ∧ (VL W208 wK.heap.size a (.slice (some ⟨g_x9, 0, none⟩) na (na + 3)) F9) ∧ (W208.heap[x9]? = some (.cells #[.int .i64 a.kind, .int .u64 a.num, .string a.text, .slice (some ⟨g_x9, 0, none⟩) na (na + 3), .int .i64 a.elem] 25 (0, 0))) ∧ (BkIn W208 w.heap.size bk (.slice none 0 0) [] QZ)) := Lib.hid ((And.intro HM315.out.1 (And.intro HM315.out.2.1 (And.intro HM315.out.2.2.1 (And.intro HM315.out.2.2.2.1 (And.intro HM315.out.2.2.2.2.1 (And.intro HM315.out.2.2.2.2.2.1 HM315.out.2.2.2.2.2.2.1)))))))
          clear HM315
          have hz316 : W208.heap.size ≤ w9.heap.size := hk.size
          have HZ316 := Lib.hid hz316
          clear hz316
          have HM317 : Hid ((Below w.heap.size w w9) ∧ (w9.heap[x0]? = some (.cells #[.int .i64 a.kind, .int .u64 a.num, .string a.text, .slice pa na ca, .int .i64 a.elem] 25 (0, 0))) ∧ (w9.heap[x1]? = some (.cells #[.int .i64 b.kind, .int .u64 b.num, .string b.text, .slice pb nb cb, .int .i64 b.elem] 25 (0, 0))) ∧ (World.ownsRow w9 kb 25 5 (.slice (some ⟨kg, 0, none⟩) nK ck) nK (vrow Ks ss)) ∧ (VL w9 wK.heap.size a (.slice (some ⟨g_x9, 0, none⟩) na (na + 3)) F9) ∧ (w9.heap[x9]? = some (.cells #[.int .i64 a.kind, .int .u64 a.num, .string a.text, .slice (some ⟨g_x9, 0, none⟩) na (na + 3), .int .i64 a.elem] 25 (0, 0))) ∧ (BkIn w9 w.heap.size bk (.slice none 0 0) [] QZ)) := Lib.hid ((And.intro (KeepF.below HM316.out.1 hk (fun j q => by have h1 := HIN_QG.out j q; have z0 := HX_x0.out; have z1 := HX_x1.out; have z2 := HZw.out; have z3 := HLT0.out; have z4 := HLT1.out; have z5 := HZ1.out; have z6 := HZ2.out; have z7 := HKB.out; have z8 := HZ3.out; have z9 := HZR.out; have z10 := HZ5.out; have z11 := HX_x9.out; have z12 := HLT_x9.out; have z13 := HZ6.out; have z14 := HZ7.out; have z15 := HGB.out; have z16 := HZR2.out; have z17 := HZ301.out; have z18 := HX_x13.out; have z19 := HLT_x13.out; have z20 := HZ302.out; have z21 := HZ303.out; have z22 := HX_x14.out; have z23 := HLT_x14.out; have z24 := HZ304.out; have z25 := HZ305.out; have z26 := HZ307.out; have z27 := HXL_x17.out; have z28 := HZ308.out; have z29 := HZ309.out; have z30 := HZ316.out; omega) HM316.out.1.size) (And.intro ((hk.block _ (Array.getElem?_eq_some_iff.1 HM316.out.2.1).1 (fun q => by have h1 := HIN_QG.out _ q; have z0 := HX_x0.out; have z1 := HX_x1.out; have z2 := HZw.out; have z3 := HLT0.out; have z4 := HLT1.out; have z5 := HZ1.out; have z6 := HZ2.out; have z7 := HKB.out; have z8 := HZ3.out; have z9 := HZR.out; have z10 := HZ5.out; have z11 := HX_x9.out; have z12 := HLT_x9.out; have z13 := HZ6.out; have z14 := HZ7.out; have z15 := HGB.out; have z16 := HZR2.out; have z17 := HZ301.out; have z18 := HX_x13.out; have z19 := HLT_x13.out; have z20 := HZ302.out; have z21 := HZ303.out; have z22 := HX_x14.out; have z23 := HLT_x14.out; have z24 := HZ304.out; have z25 := HZ305.out; have z26 := HZ307.out; have z27 := HXL_x17.out; have z28 := HZ308.out; have z29 := HZ309.out; have z30 := HZ316.out; omega)).trans HM316.out.2.1) (And.intro ((hk.block _ (Array.getElem?_eq_some_iff.1 HM316.out.2.2.1).1 (fun q => by have h1 := HIN_QG.out _ q; have z0 := HX_x0.out; have z1 := HX_x1.out; have z2 := HZw.out; have z3 := HLT0.out; have z4 := HLT1.out; have z5 := HZ1.out; have z6 := HZ2.out; have z7 := HKB.out; have z8 := HZ3.out; have z9 := HZR.out; have z10 := HZ5.out; have z11 := HX_x9.out; have z12 := HLT_x9.out; have z13 := HZ6.out; have z14 := HZ7.out; have z15 := HGB.out; have z16 := HZR2.out; have z17 := HZ301.out; have z18 := HX_x13.out; have z19 := HLT_x13.out; have z20 := HZ302.out; have z21 := HZ303.out; have z22 := HX_x14.out; have z23 := HLT_x14.out; have z24 := HZ304.out; have z25 := HZ305.out; have z26 := HZ307.out; have z27 := HXL_x17.out; have z28 := HZ308.out; have z29 := HZ309.out; have z30 := HZ316.out; omega)).trans HM316.out.2.2.1) (And.intro (ownsRow_keep HM316.out.2.2.2.1 (fun j hj => hk.block j (World.ownsRow.lt HM316.out.2.2.2.1 j hj).2 (fun q => by have h1 := HIN_QG.out j q; have h2 := HIN_QK.out j (by rw [← HQK.out]; exact hj); have z0 := HX_x0.out; have z1 := HX_x1.out; have z2 := HZw.out; have z3 := HLT0.out; have z4 := HLT1.out; have z5 := HZ1.out; have z6 := HZ2.out; have z7 := HKB.out; have z8 := HZ3.out; have z9 := HZR.out; have z10 := HZ5.out; have z11 := HX_x9.out; have z12 := HLT_x9.out; have z13 := HZ6.out; have z14 := HZ7.out; have z15 := HGB.out; have z16 := HZR2.out; have z17 := HZ301.out; have z18 := HX_x13.out; have z19 := HLT_x13.out; have z20 := HZ302.out; have z21 := HZ303.out; have z22 := HX_x14.out; have z23 := HLT_x14.out; have z24 := HZ304.out; have z25 := HZ305.out; have z26 := HZ307.out; have z27 := HXL_x17.out; have z28 := HZ308.out; have z29 := HZ309.out; have z30 := HZ316.out; omega))) (And.intro (HM316.out.2.2.2.2.1.keepF hk (fun j g q => by have h1 := HIN_QG.out j q; have h2 := HIN_F9.out j g; have z0 := HX_x0.out; have z1 := HX_x1.out; have z2 := HZw.out; have z3 := HLT0.out; have z4 := HLT1.out; have z5 := HZ1.out; have z6 := HZ2.out; have z7 := HKB.out; have z8 := HZ3.out; have z9 := HZR.out; have z10 := HZ5.out; have z11 := HX_x9.out; have z12 := HLT_x9.out; have z13 := HZ6.out; have z14 := HZ7.out; have z15 := HGB.out; have z16 := HZR2.out; have z17 := HZ301.out; have z18 := HX_x13.out; have z19 := HLT_x13.out; have z20 := HZ302.out; have z21 := HZ303.out; have z22 := HX_x14.out; have z23 := HLT_x14.out; have z24 := HZ304.out; have z25 := HZ305.out; have z26 := HZ307.out; have z27 := HXL_x17.out; have z28 := HZ308.out; have z29 := HZ309.out; have z30 := HZ316.out; omega)) (And.intro ((hk.block _ (Array.getElem?_eq_some_iff.1 HM316.out.2.2.2.2.2.1).1 (fun q => by have h1 := HIN_QG.out _ q; have z0 := HX_x0.out; have z1 := HX_x1.out; have z2 := HZw.out; have z3 := HLT0.out; have z4 := HLT1.out; have z5 := HZ1.out; have z6 := HZ2.out; have z7 := HKB.out; have z8 := HZ3.out; have z9 := HZR.out; have z10 := HZ5.out; have z11 := HX_x9.out; have z12 := HLT_x9.out; have z13 := HZ6.out; have z14 := HZ7.out; have z15 := HGB.out; have z16 := HZR2.out; have z17 := HZ301.out; have z18 := HX_x13.out; have z19 := HLT_x13.out; have z20 := HZ302.out; have z21 := HZ303.out; have z22 := HX_x14.out; have z23 := HLT_x14.out; have z24 := HZ304.out; have z25 := HZ305.out; have z26 := HZ307.out; have z27 := HXL_x17.out; have z28 := HZ308.out; have z29 := HZ309.out; have z30 := HZ316.out; omega)).trans HM316.out.2.2.2.2.2.1) (BkIn.keepF HM316.out.2.2.2.2.2.2 hk hiv (fun j g q => by have h1 := HIN_QG.out j q; have h2 := HIN_QZ.out j g; have z0 := HX_x0.out; have z1 := HX_x1.out; have z2 := HZw.out; have z3 := HLT0.out; have z4 := HLT1.out; have z5 := HZ1.out; have z6 := HZ2.out; have z7 := HKB.out; have z8 := HZ3.out; have z9 := HZR.out; have z10 := HZ5.out; have z11 := HX_x9.out; have z12 := HLT_x9.out; have z13 := HZ6.out; have z14 := HZ7.out; have z15 := HGB.out; have z16 := HZR2.out; have z17 := HZ301.out; have z18 := HX_x13.out; have z19 := HLT_x13.out; have z20 := HZ302.out; have z21 := HZ303.out; have z22 := HX_x14.out; have z23 := HLT_x14.out; have z24 := HZ304.out; have z25 := HZ305.out; have z26 := HZ307.out; have z27 := HXL_x17.out; have z28 := HZ308.out; have z29 := HZ309.out; have z30 := HZ316.out; omega)))))))))
          clear HM316
          clear hk hiv
          go_wp2_with fail
          go_roundw
          case rel => exact ⟨ik + 1, F9n, by omega, by go_num, by rw [HKV.out.2.2.1]; exact HGOT2.out, by have z0 := HX_x0.out; have z1 := HX_x1.out; have z2 := HZw.out; have z3 := HLT0.out; have z4 := HLT1.out; have z5 := HZ1.out; have z6 := HZ2.out; have z7 := HKB.out; have z8 := HZ3.out; have z9 := HZR.out; have z10 := HZ5.out; have z11 := HX_x9.out; have z12 := HLT_x9.out; have z13 := HZ6.out; have z14 := HZ7.out; have z15 := HGB.out; have z16 := HZR2.out; have z17 := HZ301.out; have z18 := HX_x13.out; have z19 := HLT_x13.out; have z20 := HZ302.out; have z21 := HZ303.out; have z22 := HX_x14.out; have z23 := HLT_x14.out; have z24 := HZ304.out; have z25 := HZ305.out; have z26 := HZ307.out; have z27 := HXL_x17.out; have z28 := HZ308.out; have z29 := HZ309.out; have z30 := HZ316.out; omega, HM317.out⟩
          case measure => simp [intOf]; omega
        · skip
          have hike : ik = nK := by omega
          subst hike
          have hgot := HGOT.out
          have hgl : (Ks.map (findV a)).length = ik := by rw [List.length_map, HKI.out.1]
          rw [show (V.mk 0 0 ⟨#[]⟩ ((Ks.take ik).map (findV a)) 0).list.length = ik by show ((Ks.take ik).map (findV a)).length = ik; rw [List.length_map, List.length_take, HKI.out.1]; omega] at hgot ⊢
          rw [show Ks.take ik = Ks from List.take_of_length_le (by rw [HKI.out.1]; exact Nat.le_refl _)] at hgot
          obtain ⟨_, _, _, ssg, Fsg, wfg, hrowg, hing, hdg, hsg, hFg⟩ := hgot
          have hrowg : wr.ownsRow gb 25 5 (.slice pg (Ks.map (findV a)).length cg) (Ks.map (findV a)).length (vrow (Ks.map (findV a)) ssg) := by rw [hgl]; rw [show (V.mk 0 0 ⟨#[]⟩ (Ks.map (findV a)) 0).list.length = ik from hgl] at hrowg; exact hrowg
          rw [hgl] at hrowg
          have HG := Lib.hid (And.intro hrowg (And.intro hing (And.intro hdg hgl)))
          clear hrowg hing hdg hgl hsg hFg wfg
          rename World => wG
          have HBK0 := Lib.hid (BkIn.wide (Q' := (fun g => ∃ jq, jq < 0 ∧ jq < (Ks.map (findV a)).length ∧ Fsg jq g)) HM1000.out.2.2.2.2.2.2 (fun g q => by have h := HIN_QZ.out g q; omega))
          have HMF := Lib.hid (show (Below w.heap.size w wG) ∧ (wG.heap[x0]? = some (.cells #[.int .i64 a.kind, .int .u64 a.num, .string a.text, .slice pa na ca, .int .i64 a.elem] 25 (0, 0))) ∧ (wG.heap[x1]? = some (.cells #[.int .i64 b.kind, .int .u64 b.num, .string b.text, .slice pb nb cb, .int .i64 b.elem] 25 (0, 0))) ∧ (World.ownsRow wG kb 25 5 (.slice (some ⟨kg, 0, none⟩) ik ck) ik (vrow Ks ss)) ∧ (VL wG wK.heap.size a (.slice (some ⟨g_x9, 0, none⟩) na (na + 3)) F9) ∧ (wG.heap[x9]? = some (.cells #[.int .i64 a.kind, .int .u64 a.num, .string a.text, .slice (some ⟨g_x9, 0, none⟩) na (na + 3), .int .i64 a.elem] 25 (0, 0))) from (And.intro HM1000.out.1 (And.intro HM1000.out.2.1 (And.intro HM1000.out.2.2.1 (And.intro HM1000.out.2.2.2.1 (And.intro HM1000.out.2.2.2.2.1 HM1000.out.2.2.2.2.2.1))))))
          go_wp2_with fail
          go_loopw [20] (fun v20 wr => ∃ (ij : Nat) (vl : Value) (vs : List Value), ij ≤ ik ∧ v20 = .int .i64 ij ∧ BkIn wr w.heap.size bk vl vs (fun g => ∃ jq, jq < ij ∧ jq < (Ks.map (findV a)).length ∧ Fsg jq g) ∧ vs.length ≤ ij * 100000 ∧ BkMv wG wr ∧ (Below w.heap.size w wr) ∧ (wr.heap[x0]? = some (.cells #[.int .i64 a.kind, .int .u64 a.num, .string a.text, .slice pa na ca, .int .i64 a.elem] 25 (0, 0))) ∧ (wr.heap[x1]? = some (.cells #[.int .i64 b.kind, .int .u64 b.num, .string b.text, .slice pb nb cb, .int .i64 b.elem] 25 (0, 0))) ∧ (World.ownsRow wr kb 25 5 (.slice (some ⟨kg, 0, none⟩) ik ck) ik (vrow Ks ss)) ∧ (VL wr wK.heap.size a (.slice (some ⟨g_x9, 0, none⟩) na (na + 3)) F9) ∧ (wr.heap[x9]? = some (.cells #[.int .i64 a.kind, .int .u64 a.num, .string a.text, .slice (some ⟨g_x9, 0, none⟩) na (na + 3), .int .i64 a.elem] 25 (0, 0)))) (fun v20 _ => ik - (intOf v20).toNat)
          case atStart => exact ⟨0, _, _, Nat.zero_le _, rfl, HBK0.out, Nat.zero_le _, BkMv.refl _, HMF.out⟩
          case round =>
            obtain ⟨ij, vl, vs, hij, rfl, hbk, hvl, hmv, hf⟩ := hrel
            have HM2000 := Lib.hid hf
            have HZR3 := Lib.hid hmv.size
            have HMV := Lib.hid hmv
            have HVL := Lib.hid hvl
            have HBKR := Lib.hid hbk
            clear hf hmv hvl hbk
            by_cases hijn : (ij : Int) < ik
            · skip
              have hij62 : ij ≤ 62 := by have := HNK.out.2; omega
              have ka : ij < Ks.length := by rw [HKI.out.1]; omega
              have kg2 : ij < (Ks.map (findV a)).length := by rw [List.length_map]; exact ka
              obtain ⟨hvk, hmem⟩ := HKI.out.2 ij ka
              obtain ⟨pz, cz, hsz, hj0⟩ := hvk.slice
              clear hj0
              obtain ⟨kx, hkx⟩ : ∃ x, Ks[ij] = x := ⟨_, rfl⟩
              obtain ⟨nz, hnz⟩ : ∃ n, Ks[ij].list.length = n := ⟨_, rfl⟩
              rw [hnz] at hsz
              have hkw : kx.wt ≤ 100000 := by
                have h := HW.out
                rw [← hkx]
                rcases hmem with e | e
                · rw [e]; exact h.2
                · exact Nat.le_trans (Nat.le_of_lt (V.wt_lt e)) h.1
              obtain ⟨fv, hfv⟩ : ∃ x, findV a kx = x := ⟨_, rfl⟩
              obtain ⟨fb, hfb⟩ : ∃ x, findB a kx = x := ⟨_, rfl⟩
              obtain ⟨nf, hnf⟩ : ∃ n, fv.list.length = n := ⟨_, rfl⟩
              have hgv : (Ks.map (findV a))[ij] = fv := by rw [List.getElem_map, hkx, hfv]
              have hvg : VO wr gb (Ks.map (findV a))[ij] (ssg ij) (Fsg ij) := HMV.out.vo (HG.out.2.1 ij kg2)
              rw [hgv] at hvg
              obtain ⟨pe, ce, hse, hj1, hj2⟩ := hvg.slice
              clear hj1 hj2
              rw [hnf] at hse
              rw [hse] at hvg
              rw [hsz, hkx] at hvk
              have HKX := Lib.hid (And.intro hkx (And.intro ka (And.intro (show kx.list.length = nz by rw [← hkx]; exact hnz) hsz)))
              have HKV := Lib.hid (And.intro hvk hkw)
              have HFV := Lib.hid (And.intro hfv hfb)
              have HNF := Lib.hid hnf
              have HFW := Lib.hid (show fv.wt ≤ 100000 by rw [← hfv]; exact Nat.le_trans (findV_wt a kx) HW.out.1)
              have HGV := Lib.hid (And.intro hgv (And.intro hse kg2))
              clear hvk hmem hsz hkx hnz hkw hfv hfb hnf hgv hse
              have HIN_FE : Hid (∀ g, Fsg ij g → gb ≤ g ∧ g < wG.heap.size) := Lib.hid (fun g q => VO.lt (HG.out.2.1 ij kg2) g q)
              have hgr : World.ownsRow wr gb 25 5 (.slice pg ik cg) ik (vrow (Ks.map (findV a)) ssg) := HMV.out.own HG.out.1
              have HM501 : Hid ((Below w.heap.size w wr) ∧ (wr.heap[x0]? = some (.cells #[.int .i64 a.kind, .int .u64 a.num, .string a.text, .slice pa na ca, .int .i64 a.elem] 25 (0, 0))) ∧ (wr.heap[x1]? = some (.cells #[.int .i64 b.kind, .int .u64 b.num, .string b.text, .slice pb nb cb, .int .i64 b.elem] 25 (0, 0))) ∧ (World.ownsRow wr kb 25 5 (.slice (some ⟨kg, 0, none⟩) ik ck) ik (vrow Ks ss)) ∧ (VL wr wK.heap.size a (.slice (some ⟨g_x9, 0, none⟩) na (na + 3)) F9) ∧ (wr.heap[x9]? = some (.cells #[.int .i64 a.kind, .int .u64 a.num, .string a.text, .slice (some ⟨g_x9, 0, none⟩) na (na + 3), .int .i64 a.elem] 25 (0, 0))) ∧ (World.ownsRow wr gb 25 5 (.slice pg ik cg) ik (vrow (Ks.map (findV a)) ssg)) ∧ (VO wr gb fv (.slice pe nf ce) (Fsg ij)) ∧ (BkIn wr w.heap.size bk vl vs (fun g => ∃ jq, jq < ij ∧ jq < (Ks.map (findV a)).length ∧ Fsg jq g)) ∧ (BkMv wG wr)) := Lib.hid ((And.intro HM2000.out.1 (And.intro HM2000.out.2.1 (And.intro HM2000.out.2.2.1 (And.intro HM2000.out.2.2.2.1 (And.intro HM2000.out.2.2.2.2.1 (And.intro HM2000.out.2.2.2.2.2 (And.intro hgr (And.intro hvg (And.intro HBKR.out HMV.out))))))))))
              clear HM2000
              clear hgr hvg
              skip
              have HSX : Hid (∀ W', Below wr.heap.size wr W' → W'.cell? ⟨x0, 0, none⟩ = some (.int .i64 a.kind) ∧ W'.cell? ⟨x0, 1, none⟩ = some (.int .u64 a.num) ∧ W'.cell? ⟨x0, 2, none⟩ = some (.string a.text) ∧ W'.cell? ⟨x0, 3, none⟩ = some (.slice pa na ca) ∧ W'.cell? ⟨x0, 4, none⟩ = some (.int .i64 a.elem) ∧ W'.cell? ⟨kg, ij * 5, none⟩ = some (.int .i64 kx.kind) ∧ W'.cell? ⟨kg, ij * 5 + 1, none⟩ = some (.int .u64 kx.num) ∧ W'.cell? ⟨kg, ij * 5 + 2, none⟩ = some (.string kx.text) ∧ W'.cell? ⟨kg, ij * 5 + 3, none⟩ = some (.slice pz nz cz) ∧ W'.cell? ⟨kg, ij * 5 + 4, none⟩ = some (.int .i64 kx.elem)) := Lib.hid (fun W' hB => by
                have hr := ownsRow_keep HM501.out.2.2.2.1 (fun j hj => hB.block j (World.ownsRow.lt HM501.out.2.2.2.1 j hj).2)
                have hkc : ∀ j u, (vcells kx (.slice pz nz cz))[j]? = some u → W'.cell? ⟨kg, ij * 5 + j, none⟩ = some u := fun j u hu => keys_cell hr HKX.out.2.1 (by rw [HKX.out.1, HKX.out.2.2.2]; exact hu)
                have q0 := (hB.block x0 (Array.getElem?_eq_some_iff.1 HM501.out.2.1).1).trans HM501.out.2.1
                exact ⟨(cell_of_row _ _ 0 _ _ _ q0).trans rfl, (cell_of_row _ _ 1 _ _ _ q0).trans rfl, (cell_of_row _ _ 2 _ _ _ q0).trans rfl, (cell_of_row _ _ 3 _ _ _ q0).trans rfl, (cell_of_row _ _ 4 _ _ _ q0).trans rfl, hkc 0 _ rfl, hkc 1 _ rfl, hkc 2 _ rfl, hkc 3 _ rfl, hkc 4 _ rfl⟩)
              have HVV : Hid (∀ W', Below wr.heap.size wr W' → Calls Tryd.prog 40 #[.agg #[.int .i64 a.kind, .int .u64 a.num, .string a.text, .slice pa na ca, .int .i64 a.elem], .agg #[.int .i64 kx.kind, .int .u64 kx.num, .string kx.text, .slice pz nz cz, .int .i64 kx.elem]] W' (FindX W' fv fb)) := Lib.hid (fun W' hB => rfindx_any a kx fv fb HFV.out.1 HFV.out.2 W' _ _ (VIn.blw (HV.out.1.blw HM501.out.1) hB) (VIn.blw (VIn.blw HKV.out.1 HM501.out.1) hB) (by have := HW.out.1; omega))
              go_upto_region 29 with fail
              go_cut [21, 22] (fun sp sf wx => sf = .bool fb ∧ ∃ (xx : Nat) (pc : Option Addr) (cc : Nat) (FC : Nat → Prop), sp = .pointer (some ⟨xx, 0, none⟩) ∧ wx.heap[xx]? = some (.cells #[.int .i64 fv.kind, .int .u64 fv.num, .string fv.text, .slice pc nf cc, .int .i64 fv.elem] 25 (0, 0)) ∧ VO wx wr.heap.size fv (.slice pc nf cc) FC ∧ wr.heap.size ≤ xx ∧ Below wr.heap.size wr wx)
              case first =>
                rename_i JJ hJJ KK hKK
                have hdr : Below wr.heap.size wr wr.drew := ⟨rfl, rfl, rfl, Nat.le_refl _, fun _ _ => rfl⟩
                refine wp_region_heldN (fun V => V.cell? ⟨x0, 0, none⟩ = some (.int .i64 a.kind) ∧ V.cell? ⟨x0, 1, none⟩ = some (.int .u64 a.num) ∧ V.cell? ⟨x0, 2, none⟩ = some (.string a.text) ∧ V.cell? ⟨x0, 3, none⟩ = some (.slice pa na ca) ∧ V.cell? ⟨x0, 4, none⟩ = some (.int .i64 a.elem) ∧ V.cell? ⟨kg, ij * 5, none⟩ = some (.int .i64 kx.kind) ∧ V.cell? ⟨kg, ij * 5 + 1, none⟩ = some (.int .u64 kx.num) ∧ V.cell? ⟨kg, ij * 5 + 2, none⟩ = some (.string kx.text) ∧ V.cell? ⟨kg, ij * 5 + 3, none⟩ = some (.slice pz nz cz) ∧ V.cell? ⟨kg, ij * 5 + 4, none⟩ = some (.int .i64 kx.elem)) 12 rfl (by kernel_rfl) ?_
                have hS := HSX.out _ hdr
                refine takeD (i := 0) (v := .agg #[.int .i64 a.kind, .int .u64 a.num, .string a.text, .slice pa na ca, .int .i64 a.elem]) (some 123) rfl rfl (by kernel_rfl) (by kernel_rfl) (by kernel_rfl) (fun _ _ _ h => h) (Or.inl ⟨by rfl, by rintro V ⟨h0, h1, h2, h3, h4, h5, h6, h7, h8, h9⟩; go_simp⟩) hS ?_
                simp only [Act.put, List.setIfInBounds_toArray, List.set_cons_zero, List.set_cons_succ]
                refine takeD (i := 1) (v := .slice (some ⟨kg, 0, none⟩) ik ck) (some 124) rfl rfl (by kernel_rfl) (by kernel_rfl) (by kernel_rfl) (fun _ _ _ h => h) (Or.inl ⟨by rfl, by rintro V ⟨h0, h1, h2, h3, h4, h5, h6, h7, h8, h9⟩; go_simp⟩) hS ?_
                simp only [Act.put, List.setIfInBounds_toArray, List.set_cons_zero, List.set_cons_succ]
                refine takeD (i := 2) (v := .int .i64 ij) (some 125) rfl rfl (by kernel_rfl) (by kernel_rfl) (by kernel_rfl) (fun _ _ _ h => h) (Or.inl ⟨by rfl, by rintro V ⟨h0, h1, h2, h3, h4, h5, h6, h7, h8, h9⟩; go_simp⟩) hS ?_
                simp only [Act.put, List.setIfInBounds_toArray, List.set_cons_zero, List.set_cons_succ]
                refine takeD (i := 3) (v := .pointer (some ⟨kg, ij * 5, none⟩)) (some 126) rfl rfl (by kernel_rfl) (by kernel_rfl) (by kernel_rfl) (fun _ _ _ h => h) (Or.inl ⟨by rfl, by rintro V ⟨h0, h1, h2, h3, h4, h5, h6, h7, h8, h9⟩; go_simp⟩) hS ?_
                simp only [Act.put, List.setIfInBounds_toArray, List.set_cons_zero, List.set_cons_succ]
                refine takeD (i := 4) (v := .agg #[.int .i64 kx.kind, .int .u64 kx.num, .string kx.text, .slice pz nz cz, .int .i64 kx.elem]) (some 127) rfl rfl (by kernel_rfl) (by kernel_rfl) (by kernel_rfl) (fun _ _ _ h => h) (Or.inl ⟨by rfl, by rintro V ⟨h0, h1, h2, h3, h4, h5, h6, h7, h8, h9⟩; go_simp⟩) hS ?_
                simp only [Act.put, List.setIfInBounds_toArray, List.set_cons_zero, List.set_cons_succ]
                refine wpAnyH_all (rs := [5, 9]) (by kernel_rfl) (by simp) ?_
                intro i hi
                simp only [List.mem_cons, List.not_mem_nil, or_false] at hi
                rcases hi with rfl | rfl
                · refine stepD (i := 5) rfl (by rfl) (fun K5 h5 => ?_)
                  go_simp
                  (with_reducible refine (HVV.out _ hdr).mono ?_)
                  rintro e wc ⟨tc, FC, rfl, hvc, hbc⟩
                  obtain ⟨pc, cc, hsc, hjc1, hjc2⟩ := hvc.slice
                  rw [HNF.out] at hsc
                  subst hsc
                  clear hjc1 hjc2
                  have hwc : Below wr.heap.size wr wc := hdr.trans (hbc.mono hdr.size)
                  refine h5.out _ _ (HSX.out _ hwc) ?_
                  clear h5 hS
                  have hS := HSX.out _ hwc
                  try simp only [Act.put, List.setIfInBounds_toArray, List.set_cons_zero, List.set_cons_succ]
                  refine takeD (i := 6) (v := .tuple #[.agg #[.int .i64 fv.kind, .int .u64 fv.num, .string fv.text, .slice pc nf cc, .int .i64 fv.elem], .bool fb]) (some 122) rfl rfl (by kernel_rfl) (by kernel_rfl) (by kernel_rfl) (fun _ _ _ h => h) (Or.inl ⟨by rfl, by rintro V ⟨h0, h1, h2, h3, h4, h5, h6, h7, h8, h9⟩; go_simp⟩) hS ?_
                  simp only [Act.put, List.setIfInBounds_toArray, List.set_cons_zero, List.set_cons_succ]
                  refine takeD (i := 7) (v := .agg #[.int .i64 fv.kind, .int .u64 fv.num, .string fv.text, .slice pc nf cc, .int .i64 fv.elem]) (some 129) rfl rfl (by kernel_rfl) (by kernel_rfl) (by kernel_rfl) (fun _ _ _ h => h) (Or.inl ⟨by rfl, by rintro V ⟨h0, h1, h2, h3, h4, h5, h6, h7, h8, h9⟩; go_simp⟩) hS ?_
                  simp only [Act.put, List.setIfInBounds_toArray, List.set_cons_zero, List.set_cons_succ]
                  refine takeD (i := 8) (v := .bool fb) (some 130) rfl rfl (by kernel_rfl) (by kernel_rfl) (by kernel_rfl) (fun _ _ _ h => h) (Or.inl ⟨by rfl, by rintro V ⟨h0, h1, h2, h3, h4, h5, h6, h7, h8, h9⟩; go_simp⟩) hS ?_
                  simp only [Act.put, List.setIfInBounds_toArray, List.set_cons_zero, List.set_cons_succ]
                  refine wpAnyH_all (rs := [9]) (by kernel_rfl) (by simp) ?_
                  intro i hi
                  simp only [List.mem_cons, List.not_mem_nil, or_false] at hi
                  subst hi
                  refine stepD (i := 9) rfl (by rfl) (fun K9 h9 => ?_)
                  go_simp
                  have hwz : Below wr.heap.size wr (wc.alloc (.cells #[.int .i64 0, .int .u64 0, .string ⟨#[]⟩, .slice none 0 0, .int .i64 0] 25)) := hwc.alloc hwc.size _
                  have hzr : (wc.alloc (.cells #[.int .i64 0, .int .u64 0, .string ⟨#[]⟩, .slice none 0 0, .int .i64 0] 25)).heap[wc.heap.size]? = some (.cells #[.int .i64 0, .int .u64 0, .string ⟨#[]⟩, .slice none 0 0, .int .i64 0] 25 (0, 0)) := _root_.Go.heap_alloc_new wc _
                  refine h9.out _ _ (HSX.out _ hwz) ?_
                  clear h9 hS
                  have hS := HSX.out _ hwz
                  try simp only [Act.put, List.setIfInBounds_toArray, List.set_cons_zero, List.set_cons_succ]
                  refine wpAnyH_all (rs := [10]) (by kernel_rfl) (by simp) ?_
                  intro i hi
                  simp only [List.mem_cons, List.not_mem_nil, or_false] at hi
                  subst hi
                  refine stepD (i := 10) rfl (by rfl) (fun K10 h10 => ?_)
                  refine wp_store_row 25 (.tmp 21) (.tmp 129) rfl wc.heap.size #[.int .i64 fv.kind, .int .u64 fv.num, .string fv.text, .slice pc nf cc, .int .i64 fv.elem] rfl rfl 25 _ hzr (by as_aux_lemma => kernel_rfl) (by as_aux_lemma => kernel_rfl) (by simp [Value.oneCell']) ?_
                  have hst : Below wr.heap.size wr ((wc.alloc (.cells #[.int .i64 0, .int .u64 0, .string ⟨#[]⟩, .slice none 0 0, .int .i64 0] 25)).setRow wc.heap.size #[.int .i64 fv.kind, .int .u64 fv.num, .string fv.text, .slice pc nf cc, .int .i64 fv.elem]) := below_setRow hwz hwc.size _
                  have hrw := setRow_heap (wc.alloc (.cells #[.int .i64 0, .int .u64 0, .string ⟨#[]⟩, .slice none 0 0, .int .i64 0] 25)) wc.heap.size _ #[.int .i64 fv.kind, .int .u64 fv.num, .string fv.text, .slice pc nf cc, .int .i64 fv.elem] _ _ hzr
                  refine h10.out _ _ (HSX.out _ hst) ?_
                  clear h10 hS
                  have hS := HSX.out _ hst
                  try simp only [Act.put, List.setIfInBounds_toArray]
                  refine wpAnyH_all (rs := [11]) (by kernel_rfl) (by simp) ?_
                  intro i hi
                  simp only [List.mem_cons, List.not_mem_nil, or_false] at hi
                  subst hi
                  refine stepD (i := 11) rfl (by rfl) (fun K11 h11 => ?_)
                  go_simp
                  refine h11.out _ _ hS ?_
                  clear h11
                  refine wpAnyH_done (by kernel_rfl) ?_ _
                  clear hS
                  first
                    | refine hKK _ _ (Met.intro (KK _ _ ?_))
                    | refine KK _ _ (Met.intro (hKK _ _ ?_))
                    | (refine Met.intro ?_; refine hKK _ _ (KK _ _ ?_))
                  (repeat apply Exists.intro)
                  refine ⟨?_, rfl⟩
                  exact ⟨rfl, wc.heap.size, pc, cc, FC, rfl, hrw, VO.keep ((hvc.mono (Nat.le_refl _)).blw ((Below.refl _ _).alloc (Nat.le_refl _) (.cells #[.int .i64 0, .int .u64 0, .string ⟨#[]⟩, .slice none 0 0, .int .i64 0] 25))) (fun g hg => setRow_other (wc.alloc (.cells #[.int .i64 0, .int .u64 0, .string ⟨#[]⟩, .slice none 0 0, .int .i64 0] 25)) wc.heap.size g #[.int .i64 fv.kind, .int .u64 fv.num, .string fv.text, .slice pc nf cc, .int .i64 fv.elem] (fun e => by have := (hvc.lt g hg).2; omega)), hwc.size, hst⟩
                · refine stepD (i := 9) rfl (by rfl) (fun K9 h9 => ?_)
                  go_simp
                  have hda : Below wr.heap.size wr ((wr.alloc (.cells #[.int .i64 0, .int .u64 0, .string ⟨#[]⟩, .slice none 0 0, .int .i64 0] 25)).drew) := (let h := (Below.refl wr.heap.size wr).alloc (Nat.le_refl _) _; ⟨h.os, h.tape, h.output, h.size, h.block⟩)
                  have hzr : (wr.alloc (.cells #[.int .i64 0, .int .u64 0, .string ⟨#[]⟩, .slice none 0 0, .int .i64 0] 25)).drew.heap[wr.heap.size]? = some (.cells #[.int .i64 0, .int .u64 0, .string ⟨#[]⟩, .slice none 0 0, .int .i64 0] 25 (0, 0)) := _root_.Go.heap_alloc_new wr _
                  have hzs : wr.heap.size < (wr.alloc (.cells #[.int .i64 0, .int .u64 0, .string ⟨#[]⟩, .slice none 0 0, .int .i64 0] 25)).drew.heap.size := by show _ < (wr.alloc _).heap.size; simp
                  refine h9.out _ _ (HSX.out _ hda) ?_
                  clear h9 hS
                  have hS := HSX.out _ hda
                  try simp only [Act.put, List.setIfInBounds_toArray, List.set_cons_zero, List.set_cons_succ]
                  try change wpAnyH _ _ _ _ _ _ _ _ (wr.alloc (.cells #[.int .i64 0, .int .u64 0, .string ⟨#[]⟩, .slice none 0 0, .int .i64 0] 25)).drew
                  generalize (wr.alloc (.cells #[.int .i64 0, .int .u64 0, .string ⟨#[]⟩, .slice none 0 0, .int .i64 0] 25)).drew = wda at *
                  refine wpAnyH_all (rs := [5]) (by kernel_rfl) (by simp) ?_
                  intro i hi
                  simp only [List.mem_cons, List.not_mem_nil, or_false] at hi
                  subst hi
                  refine stepD (i := 5) rfl (by rfl) (fun K5 h5 => ?_)
                  go_simp
                  (with_reducible refine (HVV.out _ hda).mono ?_)
                  rintro e wc ⟨tc, FC, rfl, hvc, hbc⟩
                  obtain ⟨pc, cc, hsc, hjc1, hjc2⟩ := hvc.slice
                  rw [HNF.out] at hsc
                  subst hsc
                  clear hjc1 hjc2
                  have hwc : Below wr.heap.size wr wc := hda.trans (hbc.mono hda.size)
                  refine h5.out _ _ (HSX.out _ hwc) ?_
                  clear h5 hS
                  have hS := HSX.out _ hwc
                  try simp only [Act.put, List.setIfInBounds_toArray, List.set_cons_zero, List.set_cons_succ]
                  refine takeD (i := 6) (v := .tuple #[.agg #[.int .i64 fv.kind, .int .u64 fv.num, .string fv.text, .slice pc nf cc, .int .i64 fv.elem], .bool fb]) (some 122) rfl rfl (by kernel_rfl) (by kernel_rfl) (by kernel_rfl) (fun _ _ _ h => h) (Or.inl ⟨by rfl, by rintro V ⟨h0, h1, h2, h3, h4, h5, h6, h7, h8, h9⟩; go_simp⟩) hS ?_
                  simp only [Act.put, List.setIfInBounds_toArray, List.set_cons_zero, List.set_cons_succ]
                  refine takeD (i := 7) (v := .agg #[.int .i64 fv.kind, .int .u64 fv.num, .string fv.text, .slice pc nf cc, .int .i64 fv.elem]) (some 129) rfl rfl (by kernel_rfl) (by kernel_rfl) (by kernel_rfl) (fun _ _ _ h => h) (Or.inl ⟨by rfl, by rintro V ⟨h0, h1, h2, h3, h4, h5, h6, h7, h8, h9⟩; go_simp⟩) hS ?_
                  simp only [Act.put, List.setIfInBounds_toArray, List.set_cons_zero, List.set_cons_succ]
                  refine takeD (i := 8) (v := .bool fb) (some 130) rfl rfl (by kernel_rfl) (by kernel_rfl) (by kernel_rfl) (fun _ _ _ h => h) (Or.inl ⟨by rfl, by rintro V ⟨h0, h1, h2, h3, h4, h5, h6, h7, h8, h9⟩; go_simp⟩) hS ?_
                  simp only [Act.put, List.setIfInBounds_toArray, List.set_cons_zero, List.set_cons_succ]
                  refine wpAnyH_all (rs := [10]) (by kernel_rfl) (by simp) ?_
                  intro i hi
                  simp only [List.mem_cons, List.not_mem_nil, or_false] at hi
                  subst hi
                  refine stepD (i := 10) rfl (by rfl) (fun K10 h10 => ?_)
                  refine wp_store_row 25 (.tmp 21) (.tmp 129) rfl wr.heap.size #[.int .i64 fv.kind, .int .u64 fv.num, .string fv.text, .slice pc nf cc, .int .i64 fv.elem] rfl rfl 25 _ ((hbc.block _ hzs).trans hzr) (by as_aux_lemma => kernel_rfl) (by as_aux_lemma => kernel_rfl) (by simp [Value.oneCell']) ?_
                  have hst : Below wr.heap.size wr (wc.setRow wr.heap.size #[.int .i64 fv.kind, .int .u64 fv.num, .string fv.text, .slice pc nf cc, .int .i64 fv.elem]) := below_setRow hwc (Nat.le_refl _) _
                  have hrw := setRow_heap wc wr.heap.size _ #[.int .i64 fv.kind, .int .u64 fv.num, .string fv.text, .slice pc nf cc, .int .i64 fv.elem] _ _ ((hbc.block _ hzs).trans hzr)
                  refine h10.out _ _ (HSX.out _ hst) ?_
                  clear h10 hS
                  have hS := HSX.out _ hst
                  try simp only [Act.put, List.setIfInBounds_toArray]
                  refine wpAnyH_all (rs := [11]) (by kernel_rfl) (by simp) ?_
                  intro i hi
                  simp only [List.mem_cons, List.not_mem_nil, or_false] at hi
                  subst hi
                  refine stepD (i := 11) rfl (by rfl) (fun K11 h11 => ?_)
                  go_simp
                  refine h11.out _ _ hS ?_
                  clear h11
                  refine wpAnyH_done (by kernel_rfl) ?_ _
                  clear hS
                  first
                    | refine hKK _ _ (Met.intro (KK _ _ ?_))
                    | refine KK _ _ (Met.intro (hKK _ _ ?_))
                    | (refine Met.intro ?_; refine hKK _ _ (KK _ _ ?_))
                  (repeat apply Exists.intro)
                  refine ⟨?_, rfl⟩
                  exact ⟨rfl, wr.heap.size, pc, cc, FC, rfl, hrw, VO.keep (hvc.mono (Nat.le_of_lt hzs)) (fun g hg => setRow_other wc wr.heap.size g #[.int .i64 fv.kind, .int .u64 fv.num, .string fv.text, .slice pc nf cc, .int .i64 fv.elem] (fun e => by have h1 := (hvc.lt g hg).1; omega)), Nat.le_refl _, hst⟩
              case rest =>
              obtain ⟨rfl, xx_x21, pc_x21, cc_x21, F21, rfl, hbx, hvo, hxl, hb⟩ := hcut
              rename World => W401
              clear HSX HVV
              have HIN_F21 : Hid (∀ g, F21 g → wr.heap.size ≤ g ∧ g < W401.heap.size) := Lib.hid (hvo.lt)
              have HXL_x21 := Lib.hid hxl
              clear hxl
              have hz501 : wr.heap.size ≤ W401.heap.size := hb.size
              have HZ501 := Lib.hid hz501
              clear hz501
              have HM502 : Hid ((Below w.heap.size w W401) ∧ (W401.heap[x0]? = some (.cells #[.int .i64 a.kind, .int .u64 a.num, .string a.text, .slice pa na ca, .int .i64 a.elem] 25 (0, 0))) ∧ (W401.heap[x1]? = some (.cells #[.int .i64 b.kind, .int .u64 b.num, .string b.text, .slice pb nb cb, .int .i64 b.elem] 25 (0, 0))) ∧ (World.ownsRow W401 kb 25 5 (.slice (some ⟨kg, 0, none⟩) ik ck) ik (vrow Ks ss)) ∧ (VL W401 wK.heap.size a (.slice (some ⟨g_x9, 0, none⟩) na (na + 3)) F9) ∧ (W401.heap[x9]? = some (.cells #[.int .i64 a.kind, .int .u64 a.num, .string a.text, .slice (some ⟨g_x9, 0, none⟩) na (na + 3), .int .i64 a.elem] 25 (0, 0))) ∧ (World.ownsRow W401 gb 25 5 (.slice pg ik cg) ik (vrow (Ks.map (findV a)) ssg)) ∧ (VO W401 gb fv (.slice pe nf ce) (Fsg ij)) ∧ (BkIn W401 w.heap.size bk vl vs (fun g => ∃ jq, jq < ij ∧ jq < (Ks.map (findV a)).length ∧ Fsg jq g)) ∧ (BkMv wG W401) ∧ (VO W401 wr.heap.size fv (.slice pc_x21 nf cc_x21) F21) ∧ (W401.heap[xx_x21]? = some (.cells #[.int .i64 fv.kind, .int .u64 fv.num, .string fv.text, .slice pc_x21 nf cc_x21, .int .i64 fv.elem] 25 (0, 0)))) := Lib.hid ((And.intro (HM501.out.1.trans (hb.mono HM501.out.1.size)) (And.intro ((hb.block _ (Array.getElem?_eq_some_iff.1 HM501.out.2.1).1).trans HM501.out.2.1) (And.intro ((hb.block _ (Array.getElem?_eq_some_iff.1 HM501.out.2.2.1).1).trans HM501.out.2.2.1) (And.intro (ownsRow_keep HM501.out.2.2.2.1 (fun j hj => hb.block j (World.ownsRow.lt HM501.out.2.2.2.1 j hj).2)) (And.intro (HM501.out.2.2.2.2.1.blw hb) (And.intro ((hb.block _ (Array.getElem?_eq_some_iff.1 HM501.out.2.2.2.2.2.1).1).trans HM501.out.2.2.2.2.2.1) (And.intro (ownsRow_keep HM501.out.2.2.2.2.2.2.1 (fun j hj => hb.block j (World.ownsRow.lt HM501.out.2.2.2.2.2.2.1 j hj).2)) (And.intro (HM501.out.2.2.2.2.2.2.2.1.blw hb) (And.intro (HM501.out.2.2.2.2.2.2.2.2.1.below hb) (And.intro (BkMv.trans HM501.out.2.2.2.2.2.2.2.2.2 (BkMv.of_below hb)) (And.intro hvo hbx))))))))))))
              clear HM501
              clear hb hvo hbx
              obtain ⟨gg, hgg⟩ : ∃ gg, pg = some ⟨gg, 0, none⟩ := by
                obtain ⟨p, c, e, _, _, h⟩ := ownsRow_form HM502.out.2.2.2.2.2.2.1
                simp only [Value.slice.injEq] at e
                obtain ⟨g, h, _⟩ := h (by omega)
                exact ⟨g, by rw [e.1, h]⟩
              subst hgg
              have hgc : ∀ j u, (vcells fv (.slice pe nf ce))[j]? = some u → W401.cell? ⟨gg, ij * 5 + j, none⟩ = some u := fun j u hu => keys_cell HM502.out.2.2.2.2.2.2.1 HGV.out.2.2 (by rw [HGV.out.1, HGV.out.2.1]; exact hu)
              have g0 : W401.cell? ⟨gg, ij * 5, none⟩ = some (.int .i64 fv.kind) := hgc 0 _ rfl
              have g1 : W401.cell? ⟨gg, ij * 5 + 1, none⟩ = some (.int .u64 fv.num) := hgc 1 _ rfl
              have g2 : W401.cell? ⟨gg, ij * 5 + 2, none⟩ = some (.string fv.text) := hgc 2 _ rfl
              have g3 : W401.cell? ⟨gg, ij * 5 + 3, none⟩ = some (.slice pe nf ce) := hgc 3 _ rfl
              have g4 : W401.cell? ⟨gg, ij * 5 + 4, none⟩ = some (.int .i64 fv.elem) := hgc 4 _ rfl
              clear hgc
              have q := HM502.out.2.2.2.2.2.2.2.2.2.2.2
              have xx_x21_0 : W401.cell? ⟨xx_x21, 0, none⟩ = some (.int .i64 fv.kind) := (cell_of_row _ _ 0 _ _ _ q).trans rfl
              have xx_x21_1 : W401.cell? ⟨xx_x21, 1, none⟩ = some (.int .u64 fv.num) := (cell_of_row _ _ 1 _ _ _ q).trans rfl
              have xx_x21_2 : W401.cell? ⟨xx_x21, 2, none⟩ = some (.string fv.text) := (cell_of_row _ _ 2 _ _ _ q).trans rfl
              have xx_x21_3 : W401.cell? ⟨xx_x21, 3, none⟩ = some (.slice pc_x21 nf cc_x21) := (cell_of_row _ _ 3 _ _ _ q).trans rfl
              have xx_x21_4 : W401.cell? ⟨xx_x21, 4, none⟩ = some (.int .i64 fv.elem) := (cell_of_row _ _ 4 _ _ _ q).trans rfl
              clear q
              go_upto_region 30 with fail
              go_still_tail 5, (by kernel_rfl)
              change wpList _ _ _ _ _ W401.drew
              have hb : Below W401.heap.size W401 W401.drew := ⟨rfl, rfl, rfl, Nat.le_refl _, fun _ _ => rfl⟩
              generalize W401.drew = W402 at *
              clear g0 g1 g2 g3 g4 xx_x21_0 xx_x21_1 xx_x21_2 xx_x21_3 xx_x21_4
              have hz502 : W401.heap.size ≤ W402.heap.size := hb.size
              have HZ502 := Lib.hid hz502
              clear hz502
              have HM503 : Hid ((Below w.heap.size w W402) ∧ (W402.heap[x0]? = some (.cells #[.int .i64 a.kind, .int .u64 a.num, .string a.text, .slice pa na ca, .int .i64 a.elem] 25 (0, 0))) ∧ (W402.heap[x1]? = some (.cells #[.int .i64 b.kind, .int .u64 b.num, .string b.text, .slice pb nb cb, .int .i64 b.elem] 25 (0, 0))) ∧ (World.ownsRow W402 kb 25 5 (.slice (some ⟨kg, 0, none⟩) ik ck) ik (vrow Ks ss)) ∧ (VL W402 wK.heap.size a (.slice (some ⟨g_x9, 0, none⟩) na (na + 3)) F9) ∧ (W402.heap[x9]? = some (.cells #[.int .i64 a.kind, .int .u64 a.num, .string a.text, .slice (some ⟨g_x9, 0, none⟩) na (na + 3), .int .i64 a.elem] 25 (0, 0))) ∧ (World.ownsRow W402 gb 25 5 (.slice (some ⟨gg, 0, none⟩) ik cg) ik (vrow (Ks.map (findV a)) ssg)) ∧ (VO W402 gb fv (.slice pe nf ce) (Fsg ij)) ∧ (BkIn W402 w.heap.size bk vl vs (fun g => ∃ jq, jq < ij ∧ jq < (Ks.map (findV a)).length ∧ Fsg jq g)) ∧ (BkMv wG W402) ∧ (VO W402 wr.heap.size fv (.slice pc_x21 nf cc_x21) F21) ∧ (W402.heap[xx_x21]? = some (.cells #[.int .i64 fv.kind, .int .u64 fv.num, .string fv.text, .slice pc_x21 nf cc_x21, .int .i64 fv.elem] 25 (0, 0)))) := Lib.hid ((And.intro (HM502.out.1.trans (hb.mono HM502.out.1.size)) (And.intro ((hb.block _ (Array.getElem?_eq_some_iff.1 HM502.out.2.1).1).trans HM502.out.2.1) (And.intro ((hb.block _ (Array.getElem?_eq_some_iff.1 HM502.out.2.2.1).1).trans HM502.out.2.2.1) (And.intro (ownsRow_keep HM502.out.2.2.2.1 (fun j hj => hb.block j (World.ownsRow.lt HM502.out.2.2.2.1 j hj).2)) (And.intro (HM502.out.2.2.2.2.1.blw hb) (And.intro ((hb.block _ (Array.getElem?_eq_some_iff.1 HM502.out.2.2.2.2.2.1).1).trans HM502.out.2.2.2.2.2.1) (And.intro (ownsRow_keep HM502.out.2.2.2.2.2.2.1 (fun j hj => hb.block j (World.ownsRow.lt HM502.out.2.2.2.2.2.2.1 j hj).2)) (And.intro (HM502.out.2.2.2.2.2.2.2.1.blw hb) (And.intro (HM502.out.2.2.2.2.2.2.2.2.1.below hb) (And.intro (BkMv.trans HM502.out.2.2.2.2.2.2.2.2.2.1 (BkMv.of_below hb)) (And.intro (HM502.out.2.2.2.2.2.2.2.2.2.2.1.blw hb) ((hb.block _ (Array.getElem?_eq_some_iff.1 HM502.out.2.2.2.2.2.2.2.2.2.2.2).1).trans HM502.out.2.2.2.2.2.2.2.2.2.2.2)))))))))))))
              clear HM502
              clear hb
              have hc := requal_any fv W402 _ fv _ HM503.out.2.2.2.2.2.2.2.1.vin HM503.out.2.2.2.2.2.2.2.2.2.2.1.vin
              rw [decide_eq_true rfl] at hc
              have HC403 := Lib.hid hc
              clear hc
              go_wp2_with fail
              refine HC403.out.mono ?_
              rintro e W403 ⟨rfl, hb⟩
              have hz503 : W402.heap.size ≤ W403.heap.size := hb.size
              have HZ503 := Lib.hid hz503
              clear hz503
              have HM504 : Hid ((Below w.heap.size w W403) ∧ (W403.heap[x0]? = some (.cells #[.int .i64 a.kind, .int .u64 a.num, .string a.text, .slice pa na ca, .int .i64 a.elem] 25 (0, 0))) ∧ (W403.heap[x1]? = some (.cells #[.int .i64 b.kind, .int .u64 b.num, .string b.text, .slice pb nb cb, .int .i64 b.elem] 25 (0, 0))) ∧ (World.ownsRow W403 kb 25 5 (.slice (some ⟨kg, 0, none⟩) ik ck) ik (vrow Ks ss)) ∧ (VL W403 wK.heap.size a (.slice (some ⟨g_x9, 0, none⟩) na (na + 3)) F9) ∧ (W403.heap[x9]? = some (.cells #[.int .i64 a.kind, .int .u64 a.num, .string a.text, .slice (some ⟨g_x9, 0, none⟩) na (na + 3), .int .i64 a.elem] 25 (0, 0))) ∧ (World.ownsRow W403 gb 25 5 (.slice (some ⟨gg, 0, none⟩) ik cg) ik (vrow (Ks.map (findV a)) ssg)) ∧ (VO W403 gb fv (.slice pe nf ce) (Fsg ij)) ∧ (BkIn W403 w.heap.size bk vl vs (fun g => ∃ jq, jq < ij ∧ jq < (Ks.map (findV a)).length ∧ Fsg jq g)) ∧ (BkMv wG W403) ∧ (VO W403 wr.heap.size fv (.slice pc_x21 nf cc_x21) F21) ∧ (W403.heap[xx_x21]? = some (.cells #[.int .i64 fv.kind, .int .u64 fv.num, .string fv.text, .slice pc_x21 nf cc_x21, .int .i64 fv.elem] 25 (0, 0)))) := Lib.hid ((And.intro (HM503.out.1.trans (hb.mono HM503.out.1.size)) (And.intro ((hb.block _ (Array.getElem?_eq_some_iff.1 HM503.out.2.1).1).trans HM503.out.2.1) (And.intro ((hb.block _ (Array.getElem?_eq_some_iff.1 HM503.out.2.2.1).1).trans HM503.out.2.2.1) (And.intro (ownsRow_keep HM503.out.2.2.2.1 (fun j hj => hb.block j (World.ownsRow.lt HM503.out.2.2.2.1 j hj).2)) (And.intro (HM503.out.2.2.2.2.1.blw hb) (And.intro ((hb.block _ (Array.getElem?_eq_some_iff.1 HM503.out.2.2.2.2.2.1).1).trans HM503.out.2.2.2.2.2.1) (And.intro (ownsRow_keep HM503.out.2.2.2.2.2.2.1 (fun j hj => hb.block j (World.ownsRow.lt HM503.out.2.2.2.2.2.2.1 j hj).2)) (And.intro (HM503.out.2.2.2.2.2.2.2.1.blw hb) (And.intro (HM503.out.2.2.2.2.2.2.2.2.1.below hb) (And.intro (BkMv.trans HM503.out.2.2.2.2.2.2.2.2.2.1 (BkMv.of_below hb)) (And.intro (HM503.out.2.2.2.2.2.2.2.2.2.2.1.blw hb) ((hb.block _ (Array.getElem?_eq_some_iff.1 HM503.out.2.2.2.2.2.2.2.2.2.2.2).1).trans HM503.out.2.2.2.2.2.2.2.2.2.2.2)))))))))))))
              clear HM503
              clear hb
              go_upto_region 33 with fail
              have HM505 : Hid ((Below w.heap.size w W403) ∧ (W403.heap[x0]? = some (.cells #[.int .i64 a.kind, .int .u64 a.num, .string a.text, .slice pa na ca, .int .i64 a.elem] 25 (0, 0))) ∧ (W403.heap[x1]? = some (.cells #[.int .i64 b.kind, .int .u64 b.num, .string b.text, .slice pb nb cb, .int .i64 b.elem] 25 (0, 0))) ∧ (World.ownsRow W403 kb 25 5 (.slice (some ⟨kg, 0, none⟩) ik ck) ik (vrow Ks ss)) ∧ (VL W403 wK.heap.size a (.slice (some ⟨g_x9, 0, none⟩) na (na + 3)) F9) ∧ (W403.heap[x9]? = some (.cells #[.int .i64 a.kind, .int .u64 a.num, .string a.text, .slice (some ⟨g_x9, 0, none⟩) na (na + 3), .int .i64 a.elem] 25 (0, 0))) ∧ (World.ownsRow W403 gb 25 5 (.slice (some ⟨gg, 0, none⟩) ik cg) ik (vrow (Ks.map (findV a)) ssg)) ∧ (VO W403 gb fv (.slice pe nf ce) (Fsg ij)) ∧ (BkIn W403 w.heap.size bk vl vs (fun g => ∃ jq, jq < ij ∧ jq < (Ks.map (findV a)).length ∧ Fsg jq g)) ∧ (BkMv wG W403) ∧ (W403.heap[xx_x21]? = some (.cells #[.int .i64 fv.kind, .int .u64 fv.num, .string fv.text, .slice pc_x21 nf cc_x21, .int .i64 fv.elem] 25 (0, 0)))) := Lib.hid ((And.intro HM504.out.1 (And.intro HM504.out.2.1 (And.intro HM504.out.2.2.1 (And.intro HM504.out.2.2.2.1 (And.intro HM504.out.2.2.2.2.1 (And.intro HM504.out.2.2.2.2.2.1 (And.intro HM504.out.2.2.2.2.2.2.1 (And.intro HM504.out.2.2.2.2.2.2.2.1 (And.intro HM504.out.2.2.2.2.2.2.2.2.1 (And.intro HM504.out.2.2.2.2.2.2.2.2.2.1 HM504.out.2.2.2.2.2.2.2.2.2.2.2)))))))))))
              clear HM504
              have HM506 : Hid ((Below w.heap.size w W403) ∧ (W403.heap[x0]? = some (.cells #[.int .i64 a.kind, .int .u64 a.num, .string a.text, .slice pa na ca, .int .i64 a.elem] 25 (0, 0))) ∧ (W403.heap[x1]? = some (.cells #[.int .i64 b.kind, .int .u64 b.num, .string b.text, .slice pb nb cb, .int .i64 b.elem] 25 (0, 0))) ∧ (World.ownsRow W403 kb 25 5 (.slice (some ⟨kg, 0, none⟩) ik ck) ik (vrow Ks ss)) ∧ (VL W403 wK.heap.size a (.slice (some ⟨g_x9, 0, none⟩) na (na + 3)) F9) ∧ (W403.heap[x9]? = some (.cells #[.int .i64 a.kind, .int .u64 a.num, .string a.text, .slice (some ⟨g_x9, 0, none⟩) na (na + 3), .int .i64 a.elem] 25 (0, 0))) ∧ (World.ownsRow W403 gb 25 5 (.slice (some ⟨gg, 0, none⟩) ik cg) ik (vrow (Ks.map (findV a)) ssg)) ∧ (VO W403 gb fv (.slice pe nf ce) (Fsg ij)) ∧ (BkIn W403 w.heap.size bk vl vs (fun g => ∃ jq, jq < ij ∧ jq < (Ks.map (findV a)).length ∧ Fsg jq g)) ∧ (BkMv wG W403)) := Lib.hid ((And.intro HM505.out.1 (And.intro HM505.out.2.1 (And.intro HM505.out.2.2.1 (And.intro HM505.out.2.2.2.1 (And.intro HM505.out.2.2.2.2.1 (And.intro HM505.out.2.2.2.2.2.1 (And.intro HM505.out.2.2.2.2.2.2.1 (And.intro HM505.out.2.2.2.2.2.2.2.1 (And.intro HM505.out.2.2.2.2.2.2.2.2.1 HM505.out.2.2.2.2.2.2.2.2.2.1))))))))))
              clear HM505
              have hgc : ∀ j u, (vcells fv (.slice pe nf ce))[j]? = some u → W403.cell? ⟨gg, ij * 5 + j, none⟩ = some u := fun j u hu => keys_cell HM506.out.2.2.2.2.2.2.1 HGV.out.2.2 (by rw [HGV.out.1, HGV.out.2.1]; exact hu)
              have g0 : W403.cell? ⟨gg, ij * 5, none⟩ = some (.int .i64 fv.kind) := hgc 0 _ rfl
              have g1 : W403.cell? ⟨gg, ij * 5 + 1, none⟩ = some (.int .u64 fv.num) := hgc 1 _ rfl
              have g2 : W403.cell? ⟨gg, ij * 5 + 2, none⟩ = some (.string fv.text) := hgc 2 _ rfl
              have g3 : W403.cell? ⟨gg, ij * 5 + 3, none⟩ = some (.slice pe nf ce) := hgc 3 _ rfl
              have g4 : W403.cell? ⟨gg, ij * 5 + 4, none⟩ = some (.int .i64 fv.elem) := hgc 4 _ rfl
              clear hgc
              have hdis : ∀ g, Fsg ij g → ¬ (∃ jq, jq < ij ∧ jq < (Ks.map (findV a)).length ∧ Fsg jq g) := fun g h q => by
                obtain ⟨jq, q1, q2, q3⟩ := q
                exact HG.out.2.2.1 jq ij q2 HGV.out.2.2 (by omega) g q3 h
              have hc : Calls Tryd.prog 30 #[.pointer (some ⟨bk, 0, none⟩), .agg #[.int .i64 fv.kind, .int .u64 fv.num, .string fv.text, .slice pe nf ce, .int .i64 fv.elem]] W403 _ := take_on fv W403 w.heap.size bk vl vs _ _ (Fsg ij) HM506.out.2.2.2.2.2.2.2.2.1 (VO.mono HM506.out.2.2.2.2.2.2.2.1 (by have z0 := HX_x0.out; have z1 := HX_x1.out; have z2 := HZw.out; have z3 := HLT0.out; have z4 := HLT1.out; have z5 := HZ1.out; have z6 := HZ2.out; have z7 := HKB.out; have z8 := HZ3.out; have z9 := HZR.out; have z10 := HZ5.out; have z11 := HX_x9.out; have z12 := HLT_x9.out; have z13 := HZ6.out; have z14 := HZ7.out; have z15 := HGB.out; have z16 := HZR2.out; have z17 := HZR3.out; have z18 := HXL_x21.out; have z19 := HZ501.out; have z20 := HZ502.out; have z21 := HZ503.out; omega)) hdis (by have h1 := HVL.out; have h2 := sz_le_wt fv; have h3 := HFW.out; have h4 := HNK.out.2; omega) (by have := HFW.out; omega)
              have HC404 := Lib.hid hc
              clear hc
              go_wp2_with fail
              refine HC404.out.mono ?_
              rintro e W404 ⟨rfl, ⟨vl2, vs2, hbk, hlen⟩, hm, hB⟩
              clear hdis g0 g1 g2 g3 g4
              have HBK2 := Lib.hid (And.intro (hbk.wide (Q' := (fun g => ∃ jq, jq < (ij + 1) ∧ jq < (Ks.map (findV a)).length ∧ Fsg jq g)) (fun g q => by
                rcases q with ⟨jq, q1, q2, q3⟩ | q
                · exact ⟨jq, by omega, q2, q3⟩
                · exact ⟨ij, by omega, HGV.out.2.2, q⟩)) (show vs2.length ≤ (ij + 1) * 100000 by have h1 := HVL.out; have h2 := sz_le_wt fv; have h3 := HFW.out; omega))
              have HMV2 := Lib.hid (BkMv.trans HM506.out.2.2.2.2.2.2.2.2.2 hm)
              have HM507 : Hid ((Below w.heap.size w W403) ∧ (W403.heap[x0]? = some (.cells #[.int .i64 a.kind, .int .u64 a.num, .string a.text, .slice pa na ca, .int .i64 a.elem] 25 (0, 0))) ∧ (W403.heap[x1]? = some (.cells #[.int .i64 b.kind, .int .u64 b.num, .string b.text, .slice pb nb cb, .int .i64 b.elem] 25 (0, 0))) ∧ (World.ownsRow W403 kb 25 5 (.slice (some ⟨kg, 0, none⟩) ik ck) ik (vrow Ks ss)) ∧ (VL W403 wK.heap.size a (.slice (some ⟨g_x9, 0, none⟩) na (na + 3)) F9) ∧ (W403.heap[x9]? = some (.cells #[.int .i64 a.kind, .int .u64 a.num, .string a.text, .slice (some ⟨g_x9, 0, none⟩) na (na + 3), .int .i64 a.elem] 25 (0, 0))) ∧ (World.ownsRow W403 gb 25 5 (.slice (some ⟨gg, 0, none⟩) ik cg) ik (vrow (Ks.map (findV a)) ssg)) ∧ (VO W403 gb fv (.slice pe nf ce) (Fsg ij)) ∧ (BkIn W403 w.heap.size bk vl vs (fun g => ∃ jq, jq < ij ∧ jq < (Ks.map (findV a)).length ∧ Fsg jq g))) := Lib.hid ((And.intro HM506.out.1 (And.intro HM506.out.2.1 (And.intro HM506.out.2.2.1 (And.intro HM506.out.2.2.2.1 (And.intro HM506.out.2.2.2.2.1 (And.intro HM506.out.2.2.2.2.2.1 (And.intro HM506.out.2.2.2.2.2.2.1 (And.intro HM506.out.2.2.2.2.2.2.2.1 HM506.out.2.2.2.2.2.2.2.2.1)))))))))
              clear HM506
              have HM508 : Hid ((Below w.heap.size w W403) ∧ (W403.heap[x0]? = some (.cells #[.int .i64 a.kind, .int .u64 a.num, .string a.text, .slice pa na ca, .int .i64 a.elem] 25 (0, 0))) ∧ (W403.heap[x1]? = some (.cells #[.int .i64 b.kind, .int .u64 b.num, .string b.text, .slice pb nb cb, .int .i64 b.elem] 25 (0, 0))) ∧ (World.ownsRow W403 kb 25 5 (.slice (some ⟨kg, 0, none⟩) ik ck) ik (vrow Ks ss)) ∧ (VL W403 wK.heap.size a (.slice (some ⟨g_x9, 0, none⟩) na (na + 3)) F9) ∧ (W403.heap[x9]? = some (.cells #[.int .i64 a.kind, .int .u64 a.num, .string a.text, .slice (some ⟨g_x9, 0, none⟩) na (na + 3), .int .i64 a.elem] 25 (0, 0))) ∧ (World.ownsRow W403 gb 25 5 (.slice (some ⟨gg, 0, none⟩) ik cg) ik (vrow (Ks.map (findV a)) ssg)) ∧ (VO W403 gb fv (.slice pe nf ce) (Fsg ij))) := Lib.hid ((And.intro HM507.out.1 (And.intro HM507.out.2.1 (And.intro HM507.out.2.2.1 (And.intro HM507.out.2.2.2.1 (And.intro HM507.out.2.2.2.2.1 (And.intro HM507.out.2.2.2.2.2.1 (And.intro HM507.out.2.2.2.2.2.2.1 HM507.out.2.2.2.2.2.2.2.1))))))))
              clear HM507
              have HM509 : Hid ((Below w.heap.size w W403) ∧ (W403.heap[x0]? = some (.cells #[.int .i64 a.kind, .int .u64 a.num, .string a.text, .slice pa na ca, .int .i64 a.elem] 25 (0, 0))) ∧ (W403.heap[x1]? = some (.cells #[.int .i64 b.kind, .int .u64 b.num, .string b.text, .slice pb nb cb, .int .i64 b.elem] 25 (0, 0))) ∧ (World.ownsRow W403 kb 25 5 (.slice (some ⟨kg, 0, none⟩) ik ck) ik (vrow Ks ss)) ∧ (VL W403 wK.heap.size a (.slice (some ⟨g_x9, 0, none⟩) na (na + 3)) F9) ∧ (W403.heap[x9]? = some (.cells #[.int .i64 a.kind, .int .u64 a.num, .string a.text, .slice (some ⟨g_x9, 0, none⟩) na (na + 3), .int .i64 a.elem] 25 (0, 0))) ∧ (World.ownsRow W403 gb 25 5 (.slice (some ⟨gg, 0, none⟩) ik cg) ik (vrow (Ks.map (findV a)) ssg))) := Lib.hid ((And.intro HM508.out.1 (And.intro HM508.out.2.1 (And.intro HM508.out.2.2.1 (And.intro HM508.out.2.2.2.1 (And.intro HM508.out.2.2.2.2.1 (And.intro HM508.out.2.2.2.2.2.1 HM508.out.2.2.2.2.2.2.1)))))))
              clear HM508
              have HM510 : Hid ((Below w.heap.size w W403) ∧ (W403.heap[x0]? = some (.cells #[.int .i64 a.kind, .int .u64 a.num, .string a.text, .slice pa na ca, .int .i64 a.elem] 25 (0, 0))) ∧ (W403.heap[x1]? = some (.cells #[.int .i64 b.kind, .int .u64 b.num, .string b.text, .slice pb nb cb, .int .i64 b.elem] 25 (0, 0))) ∧ (World.ownsRow W403 kb 25 5 (.slice (some ⟨kg, 0, none⟩) ik ck) ik (vrow Ks ss)) ∧ (VL W403 wK.heap.size a (.slice (some ⟨g_x9, 0, none⟩) na (na + 3)) F9) ∧ (W403.heap[x9]? = some (.cells #[.int .i64 a.kind, .int .u64 a.num, .string a.text, .slice (some ⟨g_x9, 0, none⟩) na (na + 3), .int .i64 a.elem] 25 (0, 0)))) := Lib.hid ((And.intro HM509.out.1 (And.intro HM509.out.2.1 (And.intro HM509.out.2.2.1 (And.intro HM509.out.2.2.2.1 (And.intro HM509.out.2.2.2.2.1 HM509.out.2.2.2.2.2.1))))))
              clear HM509
              have hz510 : W403.heap.size ≤ W404.heap.size := hm.size
              have HZ510 := Lib.hid hz510
              clear hz510
              have HM511 : Hid ((Below w.heap.size w W404) ∧ (W404.heap[x0]? = some (.cells #[.int .i64 a.kind, .int .u64 a.num, .string a.text, .slice pa na ca, .int .i64 a.elem] 25 (0, 0))) ∧ (W404.heap[x1]? = some (.cells #[.int .i64 b.kind, .int .u64 b.num, .string b.text, .slice pb nb cb, .int .i64 b.elem] 25 (0, 0))) ∧ (World.ownsRow W404 kb 25 5 (.slice (some ⟨kg, 0, none⟩) ik ck) ik (vrow Ks ss)) ∧ (VL W404 wK.heap.size a (.slice (some ⟨g_x9, 0, none⟩) na (na + 3)) F9) ∧ (W404.heap[x9]? = some (.cells #[.int .i64 a.kind, .int .u64 a.num, .string a.text, .slice (some ⟨g_x9, 0, none⟩) na (na + 3), .int .i64 a.elem] 25 (0, 0)))) := Lib.hid ((And.intro (HM510.out.1.trans hB) (And.intro ((BkMv.val hm _ ⟨_, _, HM510.out.2.1⟩).trans HM510.out.2.1) (And.intro ((BkMv.val hm _ ⟨_, _, HM510.out.2.2.1⟩).trans HM510.out.2.2.1) (And.intro (BkMv.own hm HM510.out.2.2.2.1) (And.intro (BkMv.vl hm HM510.out.2.2.2.2.1) ((BkMv.val hm _ ⟨_, _, HM510.out.2.2.2.2.2⟩).trans HM510.out.2.2.2.2.2)))))))
              clear HM510
              clear hm hB hbk hlen
              go_wp2_with fail
              go_roundw
              case rel => exact ⟨ij + 1, _, _, by omega, by go_num, HBK2.out.1, HBK2.out.2, HMV2.out, HM511.out⟩
              case measure => simp [intOf]; omega
            · skip
              have hije : ij = ik := by omega
              subst hije
              have HIN_QF : Hid (∀ g, (fun g => ∃ jq, jq < ij ∧ jq < (Ks.map (findV a)).length ∧ Fsg jq g) g → gb ≤ g ∧ g < wG.heap.size) := Lib.hid (fun g q => by obtain ⟨jq, _, q2, q3⟩ := q; exact VO.lt (HG.out.2.1 jq q2) g q3)
              have hc := owned_any wr w.heap.size bk vl vs _ HBKR.out (by have h1 := HVL.out; have h2 := HNK.out.2; omega)
              have HC401 := Lib.hid hc
              clear hc
              go_wp2_with fail
              refine HC401.out.mono ?_
              rintro e W401 ⟨rfl, ho⟩
              have hk := BkIn.keepQ HBKR.out ho
              clear ho
              have hz500 : wr.heap.size ≤ W401.heap.size := hk.size
              have HZ500 := Lib.hid hz500
              clear hz500
              have HM501 : Hid ((Below w.heap.size w W401) ∧ (W401.heap[x0]? = some (.cells #[.int .i64 a.kind, .int .u64 a.num, .string a.text, .slice pa na ca, .int .i64 a.elem] 25 (0, 0))) ∧ (W401.heap[x1]? = some (.cells #[.int .i64 b.kind, .int .u64 b.num, .string b.text, .slice pb nb cb, .int .i64 b.elem] 25 (0, 0))) ∧ (World.ownsRow W401 kb 25 5 (.slice (some ⟨kg, 0, none⟩) ij ck) ij (vrow Ks ss)) ∧ (VL W401 wK.heap.size a (.slice (some ⟨g_x9, 0, none⟩) na (na + 3)) F9) ∧ (W401.heap[x9]? = some (.cells #[.int .i64 a.kind, .int .u64 a.num, .string a.text, .slice (some ⟨g_x9, 0, none⟩) na (na + 3), .int .i64 a.elem] 25 (0, 0)))) := Lib.hid ((And.intro (KeepF.below HM2000.out.1 hk (fun j q => by have h1 := HIN_QF.out j q; have z0 := HX_x0.out; have z1 := HX_x1.out; have z2 := HZw.out; have z3 := HLT0.out; have z4 := HLT1.out; have z5 := HZ1.out; have z6 := HZ2.out; have z7 := HKB.out; have z8 := HZ3.out; have z9 := HZR.out; have z10 := HZ5.out; have z11 := HX_x9.out; have z12 := HLT_x9.out; have z13 := HZ6.out; have z14 := HZ7.out; have z15 := HGB.out; have z16 := HZR2.out; have z17 := HZR3.out; have z18 := HZ500.out; omega) HM2000.out.1.size) (And.intro ((hk.block _ (Array.getElem?_eq_some_iff.1 HM2000.out.2.1).1 (fun q => by have h1 := HIN_QF.out _ q; have z0 := HX_x0.out; have z1 := HX_x1.out; have z2 := HZw.out; have z3 := HLT0.out; have z4 := HLT1.out; have z5 := HZ1.out; have z6 := HZ2.out; have z7 := HKB.out; have z8 := HZ3.out; have z9 := HZR.out; have z10 := HZ5.out; have z11 := HX_x9.out; have z12 := HLT_x9.out; have z13 := HZ6.out; have z14 := HZ7.out; have z15 := HGB.out; have z16 := HZR2.out; have z17 := HZR3.out; have z18 := HZ500.out; omega)).trans HM2000.out.2.1) (And.intro ((hk.block _ (Array.getElem?_eq_some_iff.1 HM2000.out.2.2.1).1 (fun q => by have h1 := HIN_QF.out _ q; have z0 := HX_x0.out; have z1 := HX_x1.out; have z2 := HZw.out; have z3 := HLT0.out; have z4 := HLT1.out; have z5 := HZ1.out; have z6 := HZ2.out; have z7 := HKB.out; have z8 := HZ3.out; have z9 := HZR.out; have z10 := HZ5.out; have z11 := HX_x9.out; have z12 := HLT_x9.out; have z13 := HZ6.out; have z14 := HZ7.out; have z15 := HGB.out; have z16 := HZR2.out; have z17 := HZR3.out; have z18 := HZ500.out; omega)).trans HM2000.out.2.2.1) (And.intro (ownsRow_keep HM2000.out.2.2.2.1 (fun j hj => hk.block j (World.ownsRow.lt HM2000.out.2.2.2.1 j hj).2 (fun q => by have h1 := HIN_QF.out j q; have h2 := HIN_QK.out j (by rw [← HQK.out]; exact hj); have z0 := HX_x0.out; have z1 := HX_x1.out; have z2 := HZw.out; have z3 := HLT0.out; have z4 := HLT1.out; have z5 := HZ1.out; have z6 := HZ2.out; have z7 := HKB.out; have z8 := HZ3.out; have z9 := HZR.out; have z10 := HZ5.out; have z11 := HX_x9.out; have z12 := HLT_x9.out; have z13 := HZ6.out; have z14 := HZ7.out; have z15 := HGB.out; have z16 := HZR2.out; have z17 := HZR3.out; have z18 := HZ500.out; omega))) (And.intro (HM2000.out.2.2.2.2.1.keepF hk (fun j g q => by have h1 := HIN_QF.out j q; have h2 := HIN_F9.out j g; have z0 := HX_x0.out; have z1 := HX_x1.out; have z2 := HZw.out; have z3 := HLT0.out; have z4 := HLT1.out; have z5 := HZ1.out; have z6 := HZ2.out; have z7 := HKB.out; have z8 := HZ3.out; have z9 := HZR.out; have z10 := HZ5.out; have z11 := HX_x9.out; have z12 := HLT_x9.out; have z13 := HZ6.out; have z14 := HZ7.out; have z15 := HGB.out; have z16 := HZR2.out; have z17 := HZR3.out; have z18 := HZ500.out; omega)) ((hk.block _ (Array.getElem?_eq_some_iff.1 HM2000.out.2.2.2.2.2).1 (fun q => by have h1 := HIN_QF.out _ q; have z0 := HX_x0.out; have z1 := HX_x1.out; have z2 := HZw.out; have z3 := HLT0.out; have z4 := HLT1.out; have z5 := HZ1.out; have z6 := HZ2.out; have z7 := HKB.out; have z8 := HZ3.out; have z9 := HZR.out; have z10 := HZ5.out; have z11 := HX_x9.out; have z12 := HLT_x9.out; have z13 := HZ6.out; have z14 := HZ7.out; have z15 := HGB.out; have z16 := HZR2.out; have z17 := HZR3.out; have z18 := HZ500.out; omega)).trans HM2000.out.2.2.2.2.2)))))))
              clear HM2000
              clear hk
              have hc : Calls Tryd.prog 19 #[.agg #[.int .i64 a.kind, .int .u64 a.num, .string a.text, .slice (some ⟨g_x9, 0, none⟩) na (na + 3), .int .i64 a.elem], .agg #[.int .i64 a.kind, .int .u64 a.num, .string a.text, .slice pa na ca, .int .i64 a.elem]] W401 _ := asl_on a W401 w _ _ _ F9 HM501.out.2.2.2.2.1 HV.out.1 (fun W hW => rd_below (KeepF.below HM501.out.1 hW (fun j q => by have h1 := HIN_F9.out j q; have z0 := HX_x0.out; have z1 := HX_x1.out; have z2 := HZw.out; have z3 := HLT0.out; have z4 := HLT1.out; have z5 := HZ1.out; have z6 := HZ2.out; have z7 := HKB.out; have z8 := HZ3.out; have z9 := HZR.out; have z10 := HZ5.out; have z11 := HX_x9.out; have z12 := HLT_x9.out; have z13 := HZ6.out; have z14 := HZ7.out; have z15 := HGB.out; have z16 := HZR2.out; have z17 := HZR3.out; have z18 := HZ500.out; omega) HM501.out.1.size)) (by have := HW.out.1; omega)
              have HC402 := Lib.hid hc
              clear hc
              have q := HM501.out.2.2.2.2.2
              have x9_0 : W401.cell? ⟨x9, 0, none⟩ = some (.int .i64 a.kind) := (cell_of_row _ _ 0 _ _ _ q).trans rfl
              have x9_1 : W401.cell? ⟨x9, 1, none⟩ = some (.int .u64 a.num) := (cell_of_row _ _ 1 _ _ _ q).trans rfl
              have x9_2 : W401.cell? ⟨x9, 2, none⟩ = some (.string a.text) := (cell_of_row _ _ 2 _ _ _ q).trans rfl
              have x9_3 : W401.cell? ⟨x9, 3, none⟩ = some (.slice (some ⟨g_x9, 0, none⟩) na (na + 3)) := (cell_of_row _ _ 3 _ _ _ q).trans rfl
              have x9_4 : W401.cell? ⟨x9, 4, none⟩ = some (.int .i64 a.elem) := (cell_of_row _ _ 4 _ _ _ q).trans rfl
              clear q
              have q := HM501.out.2.1
              have x0_0 : W401.cell? ⟨x0, 0, none⟩ = some (.int .i64 a.kind) := (cell_of_row _ _ 0 _ _ _ q).trans rfl
              have x0_1 : W401.cell? ⟨x0, 1, none⟩ = some (.int .u64 a.num) := (cell_of_row _ _ 1 _ _ _ q).trans rfl
              have x0_2 : W401.cell? ⟨x0, 2, none⟩ = some (.string a.text) := (cell_of_row _ _ 2 _ _ _ q).trans rfl
              have x0_3 : W401.cell? ⟨x0, 3, none⟩ = some (.slice pa na ca) := (cell_of_row _ _ 3 _ _ _ q).trans rfl
              have x0_4 : W401.cell? ⟨x0, 4, none⟩ = some (.int .i64 a.elem) := (cell_of_row _ _ 4 _ _ _ q).trans rfl
              clear q
              go_wp2_with fail
              refine HC402.out.mono ?_
              clear x9_0 x9_1 x9_2 x9_3 x9_4 x0_0 x0_1 x0_2 x0_3 x0_4
              rintro e W402 ⟨rfl, hk⟩
              have HM502 : Hid ((Below w.heap.size w W401) ∧ (W401.heap[x0]? = some (.cells #[.int .i64 a.kind, .int .u64 a.num, .string a.text, .slice pa na ca, .int .i64 a.elem] 25 (0, 0))) ∧ (W401.heap[x1]? = some (.cells #[.int .i64 b.kind, .int .u64 b.num, .string b.text, .slice pb nb cb, .int .i64 b.elem] 25 (0, 0))) ∧ (World.ownsRow W401 kb 25 5 (.slice (some ⟨kg, 0, none⟩) ij ck) ij (vrow Ks ss)) ∧ (W401.heap[x9]? = some (.cells #[.int .i64 a.kind, .int .u64 a.num, .string a.text, .slice (some ⟨g_x9, 0, none⟩) na (na + 3), .int .i64 a.elem] 25 (0, 0)))) := Lib.hid ((And.intro HM501.out.1 (And.intro HM501.out.2.1 (And.intro HM501.out.2.2.1 (And.intro HM501.out.2.2.2.1 HM501.out.2.2.2.2.2)))))
              clear HM501
              have hz502 : W401.heap.size ≤ W402.heap.size := hk.size
              have HZ502 := Lib.hid hz502
              clear hz502
              have HM503 : Hid ((Below w.heap.size w W402) ∧ (W402.heap[x0]? = some (.cells #[.int .i64 a.kind, .int .u64 a.num, .string a.text, .slice pa na ca, .int .i64 a.elem] 25 (0, 0))) ∧ (W402.heap[x1]? = some (.cells #[.int .i64 b.kind, .int .u64 b.num, .string b.text, .slice pb nb cb, .int .i64 b.elem] 25 (0, 0))) ∧ (World.ownsRow W402 kb 25 5 (.slice (some ⟨kg, 0, none⟩) ij ck) ij (vrow Ks ss)) ∧ (W402.heap[x9]? = some (.cells #[.int .i64 a.kind, .int .u64 a.num, .string a.text, .slice (some ⟨g_x9, 0, none⟩) na (na + 3), .int .i64 a.elem] 25 (0, 0)))) := Lib.hid ((And.intro (KeepF.below HM502.out.1 hk (fun j q => by have h1 := HIN_F9.out j q; have z0 := HX_x0.out; have z1 := HX_x1.out; have z2 := HZw.out; have z3 := HLT0.out; have z4 := HLT1.out; have z5 := HZ1.out; have z6 := HZ2.out; have z7 := HKB.out; have z8 := HZ3.out; have z9 := HZR.out; have z10 := HZ5.out; have z11 := HX_x9.out; have z12 := HLT_x9.out; have z13 := HZ6.out; have z14 := HZ7.out; have z15 := HGB.out; have z16 := HZR2.out; have z17 := HZR3.out; have z18 := HZ500.out; have z19 := HZ502.out; omega) HM502.out.1.size) (And.intro ((hk.block _ (Array.getElem?_eq_some_iff.1 HM502.out.2.1).1 (fun q => by have h1 := HIN_F9.out _ q; have z0 := HX_x0.out; have z1 := HX_x1.out; have z2 := HZw.out; have z3 := HLT0.out; have z4 := HLT1.out; have z5 := HZ1.out; have z6 := HZ2.out; have z7 := HKB.out; have z8 := HZ3.out; have z9 := HZR.out; have z10 := HZ5.out; have z11 := HX_x9.out; have z12 := HLT_x9.out; have z13 := HZ6.out; have z14 := HZ7.out; have z15 := HGB.out; have z16 := HZR2.out; have z17 := HZR3.out; have z18 := HZ500.out; have z19 := HZ502.out; omega)).trans HM502.out.2.1) (And.intro ((hk.block _ (Array.getElem?_eq_some_iff.1 HM502.out.2.2.1).1 (fun q => by have h1 := HIN_F9.out _ q; have z0 := HX_x0.out; have z1 := HX_x1.out; have z2 := HZw.out; have z3 := HLT0.out; have z4 := HLT1.out; have z5 := HZ1.out; have z6 := HZ2.out; have z7 := HKB.out; have z8 := HZ3.out; have z9 := HZR.out; have z10 := HZ5.out; have z11 := HX_x9.out; have z12 := HLT_x9.out; have z13 := HZ6.out; have z14 := HZ7.out; have z15 := HGB.out; have z16 := HZR2.out; have z17 := HZR3.out; have z18 := HZ500.out; have z19 := HZ502.out; omega)).trans HM502.out.2.2.1) (And.intro (ownsRow_keep HM502.out.2.2.2.1 (fun j hj => hk.block j (World.ownsRow.lt HM502.out.2.2.2.1 j hj).2 (fun q => by have h1 := HIN_F9.out j q; have h2 := HIN_QK.out j (by rw [← HQK.out]; exact hj); have z0 := HX_x0.out; have z1 := HX_x1.out; have z2 := HZw.out; have z3 := HLT0.out; have z4 := HLT1.out; have z5 := HZ1.out; have z6 := HZ2.out; have z7 := HKB.out; have z8 := HZ3.out; have z9 := HZR.out; have z10 := HZ5.out; have z11 := HX_x9.out; have z12 := HLT_x9.out; have z13 := HZ6.out; have z14 := HZ7.out; have z15 := HGB.out; have z16 := HZR2.out; have z17 := HZR3.out; have z18 := HZ500.out; have z19 := HZ502.out; omega))) ((hk.block _ (Array.getElem?_eq_some_iff.1 HM502.out.2.2.2.2).1 (fun q => by have h1 := HIN_F9.out _ q; have z0 := HX_x0.out; have z1 := HX_x1.out; have z2 := HZw.out; have z3 := HLT0.out; have z4 := HLT1.out; have z5 := HZ1.out; have z6 := HZ2.out; have z7 := HKB.out; have z8 := HZ3.out; have z9 := HZR.out; have z10 := HZ5.out; have z11 := HX_x9.out; have z12 := HLT_x9.out; have z13 := HZ6.out; have z14 := HZ7.out; have z15 := HGB.out; have z16 := HZR2.out; have z17 := HZR3.out; have z18 := HZ500.out; have z19 := HZ502.out; omega)).trans HM502.out.2.2.2.2))))))
              clear HM502
              clear hk
              go_wp2_with fail
              go_ret
              exact ⟨rfl, HM503.out.1⟩

end Go.Proofs.YtakbgekamjpibaaDoor
