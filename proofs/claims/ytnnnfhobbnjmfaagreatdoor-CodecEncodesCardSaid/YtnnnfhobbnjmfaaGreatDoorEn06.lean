/-
  Lemmas on the codec. Conditions: as each says.
-/
import Derived.Test.YtnnnfhobbnjmfaaGreatDoorEn05
import Derived.OwnWalk
namespace Go.Proofs.YtnnnfhobbnjmfaaGreatDoor
open Go.RowKit
set_option linter.all false

attribute [local go_sem] Oper.semAt_some

theorem made_rows (n : Nat) : (madeCells (Value.agg zR).cells (n * 5)).toList = rowsF n (fun _ => vcells (.mk 0 0 ⟨#[]⟩ [] 0) nilS) := by
  apply List.ext_getElem?
  intro q
  have hl := rowsF_len (c := fun _ => vcells (.mk 0 0 ⟨#[]⟩ [] 0) nilS) (fun _ => rfl) n
  by_cases hq : q < n * 5
  · have hq2 : q = q / 5 * 5 + q % 5 := by omega
    have h5 : q % 5 < 5 := by omega
    have hqn : q / 5 < n := by omega
    have e : (madeCells (Value.agg zR).cells (n * 5)).toList[q]? = some ((Value.agg zR).cells[q % 5]!) := by
      simp [madeCells, hq, Value.cells]
    rw [e]
    generalize q / 5 = i at *
    generalize q % 5 = j at *
    subst hq2
    rw [rowsF_get (c := fun _ => vcells (.mk 0 0 ⟨#[]⟩ [] 0) nilS) (fun _ => rfl) n i j hqn h5]
    match j, h5 with
    | 0, _ => rfl
    | 1, _ => rfl
    | 2, _ => rfl
    | 3, _ => rfl
    | 4, _ => rfl
  · rw [List.getElem?_eq_none (by simp [madeCells]; omega), List.getElem?_eq_none (by omega)]

structure PLent (a : V) (wr : World) (B b k : Nat) (c : Nat → List Value) (ss : Nat → Value) (Fs : Nat → Nat → Prop) : Prop where
  hc : ∀ i, (c i).length = 5
  hrow : RowF wr B b (a.list.length + 3) c
  h1 : ∀ i (h : i < a.list.length), i < k → c i = vcells a.list[i] (ss i)
  h2 : ∀ i, a.list.length ≤ i → i < k → c i = vcells (mkV i) nilS
  hin : ∀ i (h : i < a.list.length), i < k → VL wr B a.list[i] (ss i) (Fs i)
  hd : ∀ i j, i < a.list.length → j < a.list.length → i < k → j < k → i ≠ j → ∀ g, Fs i g → ¬ Fs j g
  hs : ∀ i, i < a.list.length → i < k → ¬ Fs i b
theorem PLent.done {a : V} {wr : World} {B b : Nat} {c : Nat → List Value} {ss : Nat → Value} {Fs : Nat → Nat → Prop} (h : PLent a wr B b (a.list.length + 3) c ss Fs) (hw : a.Wf) : ∃ F, VL wr B a (.slice (some ⟨b, 0, none⟩) a.list.length (a.list.length + 3)) F :=
  ⟨_, .mk a b _ c ss Fs hw h.hc h.hrow (fun i hi => h.h1 i hi (by omega)) (fun i q1 q2 => h.h2 i q1 q2) (fun i hi => h.hin i hi (by omega)) (fun i j hi hj => h.hd i j hi hj (by omega) (by omega)) (fun i hi => h.hs i hi (by omega)) (fun g => Iff.rfl)⟩
theorem PLent.mark {a : V} {wr : World} {B b k : Nat} {c : Nat → List Value} {ss : Nat → Value} {Fs : Nat → Nat → Prop} (h : PLent a wr B b k c ss Fs) (hk : k < a.list.length + 3) :
    PLent a (wr.setCells b (k * 5) (vcells (mkV k) nilS)) B b k (updF c k (vcells (mkV k) nilS)) ss Fs := by
  have g := setCells_grown wr b (k * 5) (vcells (mkV k) nilS)
  refine ⟨updF_len h.hc rfl, h.hrow.set h.hc hk rfl, fun i hi hik => by rw [updF_other (by omega)]; exact h.h1 i hi hik, fun i hi hik => by rw [updF_other (by omega)]; exact h.h2 i hi hik, fun i hi hik => (h.hin i hi hik).keep (fun q hq => g.block q ((h.hin i hi hik).lt q hq).2 (fun e => h.hs i hi hik (by rw [← Option.some.inj e]; exact hq))), h.hd, h.hs⟩
theorem PLent.below {a : V} {wr w2 : World} {B b k : Nat} {c : Nat → List Value} {ss : Nat → Value} {Fs : Nat → Nat → Prop} (h : PLent a wr B b k c ss Fs) (hb : Below wr.heap.size wr w2) : PLent a w2 B b k c ss Fs :=
  ⟨h.hc, h.hrow.keep (hb.block _ h.hrow.lt.2), h.h1, h.h2, fun i hi hik => (h.hin i hi hik).blw hb, h.hd, h.hs⟩
theorem PLent.next {a : V} {wr : World} {B b k : Nat} {c : Nat → List Value} {ss : Nat → Value} {Fs : Nat → Nat → Prop} (h : PLent a wr B b k (updF c k (vcells (mkV k) nilS)) ss Fs) (hk : a.list.length ≤ k) : PLent a wr B b (k + 1) (updF c k (vcells (mkV k) nilS)) ss Fs :=
  ⟨h.hc, h.hrow, fun i hi hik => h.h1 i hi (by omega), fun i hi hik => by
    by_cases e : i = k
    · subst e; exact updF_same _ _ _
    · exact h.h2 i hi (by omega), fun i hi hik => h.hin i hi (by omega), fun i j hi hj hik hjk => h.hd i j hi hj (by omega) (by omega), fun i hi hik => h.hs i hi (by omega)⟩
theorem PLent.put {a : V} {wr : World} {B b k B2 : Nat} {c : Nat → List Value} {ss : Nat → Value} {Fs : Nat → Nat → Prop} {t : Value} {F2 : Nat → Prop} (h : PLent a wr B b k c ss Fs) (hk : k < a.list.length) (hx : VL wr B a.list[k] t F2) (hdj : ∀ g, F2 g → B2 ≤ g) (hold : ∀ i, i < a.list.length → i < k → ∀ g, Fs i g → g < B2) (hb2 : b < B2) :
    PLent a (wr.setCells b (k * 5) (vcells a.list[k] t)) B b (k + 1) (updF c k (vcells a.list[k] t)) (fun i => if i = k then t else ss i) (fun i => if i = k then F2 else Fs i) := by
  have g := setCells_grown wr b (k * 5) (vcells a.list[k] t)
  have hbF : ∀ q, F2 q → q ≠ b := fun q hq e => by have := hdj q hq; omega
  refine ⟨updF_len h.hc rfl, h.hrow.set h.hc (by omega) rfl, fun i hi hik => ?_, fun i hi hik => by rw [updF_other (by omega)]; exact h.h2 i hi (by omega), fun i hi hik => ?_, fun i j hi hj hik hjk hij q hq => ?_, fun i hi hik => ?_⟩
  · by_cases e : i = k
    · subst e; rw [updF_same, if_pos rfl]
    · rw [updF_other e, if_neg e]; exact h.h1 i hi (by omega)
  · by_cases e : i = k
    · subst e
      simp only [if_pos]
      exact hx.keep (fun q hq => g.block q (hx.lt q hq).2 (fun e => hbF q hq (Option.some.inj e)))
    · simp only [if_neg e]
      exact (h.hin i hi (by omega)).keep (fun q hq => g.block q ((h.hin i hi (by omega)).lt q hq).2 (fun e => h.hs i hi (by omega) (by rw [← Option.some.inj e]; exact hq)))
  · by_cases e : i = k
    · rw [if_pos e] at hq
      rw [if_neg (by omega)]
      intro q2
      have h1 := hdj q hq
      have h2 := hold j hj (by omega) q q2
      omega
    · rw [if_neg e] at hq
      by_cases e2 : j = k
      · rw [if_pos e2]
        intro q2
        have h1 := hdj q q2
        have h2 := hold i hi (by omega) q hq
        omega
      · rw [if_neg e2]
        exact h.hd i j hi hj (by omega) (by omega) hij q hq
  · by_cases e : i = k
    · rw [if_pos e]; exact fun q => hbF _ q rfl
    · rw [if_neg e]; exact h.hs i hi (by omega)

def lentOn (a : V) : Prop := ∀ (w : World) (s : Value), VIn w a s → a.wt ≤ 2000000 →
    Calls Tryz.prog 9 #[.agg #[.int .i64 a.kind, .int .u64 a.num, .string a.text, s, .int .i64 a.elem]] w (OutVL w a)

set_option maxRecDepth 20000 in
set_option maxHeartbeats 4000000 in
theorem lents_any (a : V) (ih : ∀ x ∈ a.list, lentOn x) (w : World) (s : Value) (h : VIn w a s) (hwt : wts a.list ≤ 2000000) :
    Calls Tryz.prog 32 #[s] w (OutLL w a) := by
  obtain ⟨p, c, hs, h1, h2, h3⟩ := h.slice
  obtain ⟨N, hN⟩ : ∃ N, a.list.length = N := ⟨_, rfl⟩
  have hNw := len_le_wts a.list
  rw [hN] at hs h1 h3 hNw
  subst hs
  unfold maxLen at h2
  have hNb : N ≤ 2000000 := by omega
  have HI := Lib.hid ih
  have HN := Lib.hid (And.intro hN hwt)
  have HV := Lib.hid h
  obtain ⟨i0, hi, hz0, hz1, hz2⟩ := info_partsV info_val
  have HSZ := Lib.hid (show (Tryz.prog.info? 25).map (·.size) = some 5 by rw [hi]; simp [hz1])
  clear ih h hN hNw hwt
  go_enter Tryz.func32, Tryz.ntmps32
  go_upto_region 3 with (refine wpList_make_full w rfl (.tmp 9) (.tmp 9) 23 rfl w.heap.size 25 i0 (.agg zR) 5 Tryz.underlying23 hi hz0 hz1 .i64 .i64 _ _ (N + 3) rfl rfl (by omega) (by omega) (by rw [hz2]; omega) (by unfold maxLen; omega) (Nat.le_refl _) ?_; intro w1 hrow hgr)
  rw [made_rows] at hrow
  have hb1 : Below w.heap.size w w1 := ⟨hgr.os, hgr.tape, hgr.output, hgr.size, fun j hj => hgr.block j hj (by simp)⟩
  have hP0 : PLent a w1 w.heap.size w.heap.size 0 (fun _ => vcells (.mk 0 0 ⟨#[]⟩ [] 0) nilS) (fun _ => nilS) (fun _ _ => False) := ⟨fun _ => rfl, by rw [HN.out.1]; exact hrow, fun i _ h => by omega, fun i _ h => by omega, fun i _ h => by omega, fun i j _ _ h => by omega, fun i _ h => by omega⟩
  obtain ⟨b, hb⟩ : ∃ b, w.heap.size = b := ⟨_, rfl⟩
  rw [hb] at hP0 ⊢
  rw [show (w.heap.size : Nat) = b from hb] at hb1
  have H0 := Lib.hid (And.intro hb1 (And.intro hP0 hb))
  clear hrow hgr hb1 hP0 hb
  go_wp2_with fail
  go_loopw [5] (fun v5 wr => ∃ (k : Nat) (c : Nat → List Value) (ss : Nat → Value) (Fs : Nat → Nat → Prop), k ≤ N + 3 ∧ v5 = .int .i64 k ∧ PLent a wr b b k c ss Fs ∧ Below b w wr) (fun v5 _ => N + 3 - (intOf v5).toNat)
  case atStart => exact ⟨0, _, _, _, Nat.zero_le _, rfl, H0.out.2.1, H0.out.1⟩
  case round =>
    obtain ⟨k, c, ss, Fs, hk', rfl, hpl, hbw⟩ := hrel
    have HR := Lib.hid (And.intro hpl hbw)
    by_cases hkN : (k : Int) < N + 3
    · have hkn : k < a.list.length + 3 := by rw [HN.out.1]; omega
      have hth := hpl.hrow.there hkn
      have HTH := Lib.hid hth
      clear hpl hbw hth
      go_upto_region 7 with (refine wpList_store_mid rfl 25 (.tmp 22) (.tmp 21) rfl b (k * 5) #[.int .i64 (-7), .int .u64 k, .string ⟨#[]⟩, .slice none 0 0, .int .i64 0] rfl rfl HTH.out HSZ.out (by simp [Value.oneCell']) ?_)
      have hp2 := HR.out.1.mark hkn
      have hb2 : Below b w (wr.setCells b (k * 5) (vcells (mkV k) nilS)) := HR.out.2.grown (setCells_grown wr b (k * 5) (vcells (mkV k) nilS)) (by have := HR.out.1.hrow.lt; omega) (fun j hj => by have := Option.some.inj hj; omega)
      change Code.wp _ _ _ _ (wr.setCells b (k * 5) (vcells (mkV k) nilS))
      generalize wr.setCells b (k * 5) (vcells (mkV k) nilS) = w2 at *
      have HR2 := Lib.hid (And.intro hp2 hb2)
      have HBW := Lib.hid (show w.heap.size = b from H0.out.2.2)
      clear hp2 hb2
      by_cases hkl : (k : Int) < N
      · have ka : k < a.list.length := by rw [HN.out.1]; omega
        obtain ⟨b1, o1, rfl⟩ := h3 (by omega)
        have hb2w : Below w.heap.size w w2 := by rw [HBW.out]; exact HR2.out.2
        obtain ⟨ta, hta, hia⟩ := (HV.out.blw hb2w).part rfl ka
        obtain ⟨pa, ca, hsa, hj0⟩ := hia.slice
        clear hj0
        subst hsa
        obtain ⟨c0, c1, c2, c3, c4⟩ := part_cells hta
        obtain ⟨ya, hya⟩ : ∃ ya, a.list[k] = ya := ⟨_, rfl⟩
        have HIK := Lib.hid (HI.out _ (List.getElem_mem ka))
        have hyw : ya.wt ≤ 2000000 := by have := wts_mem (List.getElem_mem ka); rw [hya] at this; have := HN.out.2; omega
        have HYA := Lib.hid hya
        rw [hya] at c0 c1 c2 c3 c4 hia HIK
        obtain ⟨na, hna⟩ : ∃ na, ya.list.length = na := ⟨_, rfl⟩
        rw [hna] at c3 hia
        have hc := HIK.out w2 _ hia hyw
        have HC := Lib.hid hc
        clear hc hta hia hya hyw hb2w
        go_wp2_with fail
        refine HC.out.mono ?_
        clear c0 c1 c2 c3 c4
        rintro e w3 ⟨t2, F2, rfl, hvo2, hb3⟩
        obtain ⟨g2, hs2, hj1, hj2⟩ := hvo2.slice
        clear hj1 hj2
        rw [hna] at hs2
        obtain ⟨p2, hp2⟩ : ∃ p2, some (⟨g2, 0, none⟩ : Addr) = p2 := ⟨_, rfl⟩
        obtain ⟨d2, hd2⟩ : ∃ d2, na + 3 = d2 := ⟨_, rfl⟩
        rw [hp2, hd2] at hs2
        subst hs2
        have hp3 := HR2.out.1.below hb3
        have hth := hp3.hrow.there hkn
        have HTH2 := Lib.hid hth
        have hb2z := hp3.hrow.lt
        have h2z := HR2.out.1.hrow.lt.2
        have hp4 := PLent.put (B2 := w2.heap.size) hp3 ka (by rw [HYA.out]; exact hvo2.mono (by omega)) (fun g hg => (hvo2.lt g hg).1) (fun i hi hik g hg => ((HR2.out.1.hin i hi hik).lt g hg).2) h2z
        rw [HYA.out] at hp4
        have hb4 : Below b w (w3.setCells b (k * 5) (vcells ya (.slice p2 na d2))) := (HR2.out.2.trans (hb3.mono (by omega))).grown (setCells_grown w3 b (k * 5) (vcells ya (.slice p2 na d2))) (by omega) (fun j hj => by have := Option.some.inj hj; omega)
        have HP4 := Lib.hid (And.intro hp4 hb4)
        clear hvo2 hb3 hp2 hd2 hp3 hth hb2z h2z hp4 hb4 HYA HIK hkn hna ka
        go_wp2_with (refine wpList_store_mid rfl 25 (.tmp 33) (.tmp 32) rfl b (k * 5) #[.int .i64 ya.kind, .int .u64 ya.num, .string ya.text, .slice p2 na d2, .int .i64 ya.elem] rfl rfl HTH2.out HSZ.out (by simp [Value.oneCell']) ?_; change wpList _ _ _ _ _ (w3.setCells b (k * 5) (vcells ya (.slice p2 na d2))); generalize w3.setCells b (k * 5) (vcells ya (.slice p2 na d2)) = w4 at *)
        go_roundw
        case rel => exact ⟨k + 1, _, _, _, by omega, by go_num, HP4.out.1, HP4.out.2⟩
        case measure => simp [intOf]; omega
      · go_wp2_with fail
        go_roundw
        case rel => exact ⟨k + 1, _, _, _, by omega, by go_num, HR2.out.1.next (by rw [HN.out.1]; omega), HR2.out.2⟩
        case measure => simp [intOf]; omega
    · have hkN2 : k = N + 3 := by omega
      subst hkN2
      obtain ⟨F, hF⟩ := PLent.done (a := a) (wr := wr) (b := b) (B := b) (by rw [HN.out.1]; exact HR.out.1) HV.out.wf
      rw [HN.out.1] at hF
      have HF := Lib.hid hF
      clear hF hpl hbw
      go_wp2_with fail
      go_ret
      exact ⟨_, F, rfl, by rw [H0.out.2.2]; exact HF.out, by rw [H0.out.2.2]; exact HR.out.2⟩

set_option maxRecDepth 20000 in
set_option maxHeartbeats 4000000 in
theorem lent_on : ∀ a : V, lentOn a := by
  refine V.ind (fun a ih w s h hwt => ?_)
  have hcs := lents_any a ih
  obtain ⟨p, c, hs, h1, h2, h3⟩ := h.slice
  obtain ⟨N, hN⟩ : ∃ N, a.list.length = N := ⟨_, rfl⟩
  rw [hN] at hs
  subst hs
  have hwl : wts a.list ≤ 2000000 := by have := a.wt_eq; omega
  have HCS := Lib.hid hcs
  have HV := Lib.hid (And.intro h hwl)
  have HN := Lib.hid hN
  clear ih hcs h hwl hwt h1 h2 h3 hN
  go_enter Tryz.func9, Tryz.ntmps9
  go_upto_region 1 with fail
  have hb0 : Below w.heap.size w ((w.alloc (.cells #[.int .i64 a.kind, .int .u64 a.num, .string a.text, (.slice p N c), .int .i64 a.elem] 25)).alloc (.cells zR 25)) := ((Below.refl _ _).alloc (Nat.le_refl _) _).alloc (by simp) _
  have ox : ((w.alloc (.cells #[.int .i64 a.kind, .int .u64 a.num, .string a.text, (.slice p N c), .int .i64 a.elem] 25)).alloc (.cells zR 25)).heap[w.heap.size]? = some (.cells #[.int .i64 a.kind, .int .u64 a.num, .string a.text, (.slice p N c), .int .i64 a.elem] 25 (0, 0)) := (_root_.Go.heap_alloc_old _ _ (by simp)).trans (_root_.Go.heap_alloc_new _ _)
  have oy : ((w.alloc (.cells #[.int .i64 a.kind, .int .u64 a.num, .string a.text, (.slice p N c), .int .i64 a.elem] 25)).alloc (.cells zR 25)).heap[w.heap.size + 1]? = some (.cells zR 25 (0, 0)) := by have := _root_.Go.heap_alloc_new (w.alloc (.cells #[.int .i64 a.kind, .int .u64 a.num, .string a.text, (.slice p N c), .int .i64 a.elem] 25)) (.cells zR 25); rwa [World.size_alloc] at this
  generalize ((w.alloc (.cells #[.int .i64 a.kind, .int .u64 a.num, .string a.text, (.slice p N c), .int .i64 a.elem] 25)).alloc (.cells zR 25)) = w0 at *
  obtain ⟨x, hx⟩ : ∃ x, w.heap.size = x := ⟨_, rfl⟩
  rw [hx] at ox oy ⊢
  obtain ⟨y, hy⟩ : ∃ y, x + 1 = y := ⟨_, rfl⟩
  rw [hy] at oy ⊢
  have hxy : x ≠ y := by omega
  have hyx : y ≠ x := by omega
  have HX := Lib.hid (And.intro hx (And.intro (show w.heap.size ≤ y by omega) (And.intro hxy hyx)))
  have HB0 := Lib.hid hb0
  have HOX := Lib.hid (And.intro ox oy)
  have x3 : w0.cell? ⟨x, 3, none⟩ = some (.slice p N c) := (cell_of_row _ _ 3 _ _ _ ox).trans rfl
  have hc := HCS.out w0 _ (HV.out.1.blw hb0) HV.out.2
  have HC := Lib.hid hc
  clear hb0 ox oy hx hy hc
  go_wp2_with fail
  refine HC.out.mono ?_
  clear x3
  rintro e w1 ⟨t, F, rfl, hvo, hb1⟩
  obtain ⟨gt, hst, hgF, _⟩ := hvo.slice
  rw [HN.out] at hst
  obtain ⟨pt, hpt⟩ : ∃ pt, some (⟨gt, 0, none⟩ : Addr) = pt := ⟨_, rfl⟩
  obtain ⟨ct, hct⟩ : ∃ ct, N + 3 = ct := ⟨_, rfl⟩
  rw [hpt, hct] at hst
  subst hst
  have ox1 := (hb1.block x (Array.getElem?_eq_some_iff.1 HOX.out.1).1).trans HOX.out.1
  have oy1 := (hb1.block y (Array.getElem?_eq_some_iff.1 HOX.out.2).1).trans HOX.out.2
  have x3 : w1.cell? ⟨x, 3, none⟩ = some (.slice p N c) := (cell_of_row _ _ 3 _ _ _ ox1).trans rfl
  have fx : w1.frozen? ⟨x, 3, none⟩ = false := by simp [World.frozen?, ox1]
  have hxs := (Array.getElem?_eq_some_iff.1 HOX.out.1).1
  have ox2 : (w1.setCell ⟨x, 3, none⟩ (.slice pt N ct)).heap[x]? = some (.cells #[.int .i64 a.kind, .int .u64 a.num, .string a.text, (.slice pt N ct), .int .i64 a.elem] 25 (0, 0)) := heap_setCell_same w1 x 3 _ _ (.slice pt N ct) ox1
  have oy2 : (w1.setCell ⟨x, 3, none⟩ (.slice pt N ct)).heap[y]? = some (.cells zR 25 (0, 0)) := (set_farV HX.out.2.2.2).trans oy1
  have hvo2 := (hvo.mono HB0.out.size).keep (w' := w1.setCell ⟨x, 3, none⟩ (.slice pt N ct)) (fun b hb => set_farV (fun e => by have := (hvo.lt b hb).1; omega))
  have hbl := (HB0.out.trans (hb1.mono HB0.out.size)).setCell (p := ⟨x, 3, none⟩) (show w.heap.size ≤ x by have := HX.out.1; omega) (.slice pt N ct)
  have HYF := Lib.hid (show ∀ b, F b → b ≠ y from fun b hb e => by have h1 := (hvo.lt b hb).1; have h2 := (Array.getElem?_eq_some_iff.1 HOX.out.2).1; omega)
  clear hvo hb1 ox1 oy1 hxs
  go_upto_region 2 with fail
  generalize w1.setCell ⟨x, 3, none⟩ (.slice pt N ct) = w2 at *
  have HVO := Lib.hid (And.intro hvo2 hbl)
  have HOY := Lib.hid oy2
  have x0 : w2.cell? ⟨x, 0, none⟩ = some (.int .i64 a.kind) := (cell_of_row _ _ 0 _ _ _ ox2).trans rfl
  have x1 : w2.cell? ⟨x, 1, none⟩ = some (.int .u64 a.num) := (cell_of_row _ _ 1 _ _ _ ox2).trans rfl
  have x2 : w2.cell? ⟨x, 2, none⟩ = some (.string a.text) := (cell_of_row _ _ 2 _ _ _ ox2).trans rfl
  have x3 : w2.cell? ⟨x, 3, none⟩ = some (.slice pt N ct) := (cell_of_row _ _ 3 _ _ _ ox2).trans rfl
  have x4 : w2.cell? ⟨x, 4, none⟩ = some (.int .i64 a.elem) := (cell_of_row _ _ 4 _ _ _ ox2).trans rfl
  clear hvo2 hbl ox2 fx
  go_wp2_with (refine wpList_store_rowTo rfl 25 (.tmp 2) (.tmp 7) rfl rfl y #[.int .i64 a.kind, .int .u64 a.num, .string a.text, (.slice pt N ct), .int .i64 a.elem] rfl rfl 25 zR oy2 (by as_aux_lemma => kernel_rfl) (by as_aux_lemma => kernel_rfl) (by simp [Value.oneCell']) ?_)
  have hh := setRow_heap w2 y _ #[.int .i64 a.kind, .int .u64 a.num, .string a.text, (.slice pt N ct), .int .i64 a.elem] _ _ HOY.out
  have hB := below_setRow HVO.out.2 HX.out.2.1 #[.int .i64 a.kind, .int .u64 a.num, .string a.text, (.slice pt N ct), .int .i64 a.elem]
  have hvo3 := HVO.out.1.keep (w' := w2.setRow y #[.int .i64 a.kind, .int .u64 a.num, .string a.text, (.slice pt N ct), .int .i64 a.elem]) (fun b hb => setRow_other w2 y b _ (fun e => HYF.out b hb e))
  refine bodyPost_ret (results_cell_row (p := 2) (ty := 25) (by kernel_rfl) _ _ y 25 #[.int .i64 a.kind, .int .u64 a.num, .string a.text, (.slice pt N ct), .int .i64 a.elem] (0, 0) _ rfl hh Tryz.underlying25 rfl (by as_aux_lemma => kernel_rfl)) rfl ?_
  exact ⟨_, F, rfl, hvo3, hB⟩


attribute [local go_sem] Oper.semAt_some

def OutT (w : World) (a : V) (e : Ending) (w' : World) : Prop := ∃ t F, e = .returned (.agg #[.int .i64 a.kind, .int .u64 (xor1 a.num), .string a.text, t, .int .i64 a.elem]) ∧ VO w' w.heap.size a.turned t F ∧ Below w.heap.size w w'
def turnedOn (a : V) : Prop := ∀ (w : World) (s : Value), VIn w a s → a.wt ≤ 2000000 → Calls Tryz.prog 14 #[.agg #[.int .i64 a.kind, .int .u64 a.num, .string a.text, s, .int .i64 a.elem]] w (OutT w a)

set_option maxRecDepth 20000 in
set_option maxHeartbeats 4000000 in
theorem turned_on : ∀ a : V, turnedOn a := by
  refine V.ind (fun a ih w s h hwt => ?_)
  obtain ⟨p, c, hs, h1, h2, h3⟩ := h.slice
  obtain ⟨N, hN⟩ : ∃ N, a.list.length = N := ⟨_, rfl⟩
  have hNw := len_le_wts a.list
  have hwl : wts a.list ≤ 2000000 := by have := a.wt_eq; omega
  rw [hN] at hs h1 h3 hNw
  subst hs
  unfold maxLen at h2
  have hNb : N ≤ 2000000 := by omega
  have HI := Lib.hid ih
  have HN := Lib.hid (And.intro hN hwl)
  have HV := Lib.hid h
  obtain ⟨i0, hi, hz0, hz1, hz2⟩ := info_partsV info_val
  clear ih h hN hNw hwt hwl
  go_enter Tryz.func14, Tryz.ntmps14
  go_upto_region 1 with fail
  have hb0 : Below w.heap.size w ((w.alloc (.cells #[.int .i64 a.kind, .int .u64 a.num, .string a.text, (.slice p N c), .int .i64 a.elem] 25)).alloc (.cells zR 25)) := ((Below.refl _ _).alloc (Nat.le_refl _) _).alloc (by simp) _
  have ox : ((w.alloc (.cells #[.int .i64 a.kind, .int .u64 a.num, .string a.text, (.slice p N c), .int .i64 a.elem] 25)).alloc (.cells zR 25)).heap[w.heap.size]? = some (.cells #[.int .i64 a.kind, .int .u64 a.num, .string a.text, (.slice p N c), .int .i64 a.elem] 25 (0, 0)) := (_root_.Go.heap_alloc_old _ _ (by simp)).trans (_root_.Go.heap_alloc_new _ _)
  have oy : ((w.alloc (.cells #[.int .i64 a.kind, .int .u64 a.num, .string a.text, (.slice p N c), .int .i64 a.elem] 25)).alloc (.cells zR 25)).heap[w.heap.size + 1]? = some (.cells zR 25 (0, 0)) := by have := _root_.Go.heap_alloc_new (w.alloc (.cells #[.int .i64 a.kind, .int .u64 a.num, .string a.text, (.slice p N c), .int .i64 a.elem] 25)) (.cells zR 25); rwa [World.size_alloc] at this
  generalize ((w.alloc (.cells #[.int .i64 a.kind, .int .u64 a.num, .string a.text, (.slice p N c), .int .i64 a.elem] 25)).alloc (.cells zR 25)) = wa at *
  obtain ⟨x, hx⟩ : ∃ x, w.heap.size = x := ⟨_, rfl⟩
  rw [hx] at ox oy ⊢
  obtain ⟨y, hy⟩ : ∃ y, x + 1 = y := ⟨_, rfl⟩
  rw [hy] at oy ⊢
  have hxy : x ≠ y := by omega
  have hyx : y ≠ x := by omega
  have x1 : wa.cell? ⟨x, 1, none⟩ = some (.int .u64 a.num) := (cell_of_row _ _ 1 _ _ _ ox).trans rfl
  have fx : wa.frozen? ⟨x, 1, none⟩ = false := by simp [World.frozen?, ox]
  have hxs := (Array.getElem?_eq_some_iff.1 ox).1
  have hys := (Array.getElem?_eq_some_iff.1 oy).1
  have ox2 : (wa.setCell ⟨x, 1, none⟩ (.int .u64 (xor1 a.num))).heap[x]? = some (.cells #[.int .i64 a.kind, .int .u64 (xor1 a.num), .string a.text, (.slice p N c), .int .i64 a.elem] 25 (0, 0)) := heap_setCell_same wa x 1 _ _ (.int .u64 (xor1 a.num)) ox
  have oy2 : (wa.setCell ⟨x, 1, none⟩ (.int .u64 (xor1 a.num))).heap[y]? = some (.cells zR 25 (0, 0)) := (set_farV hyx).trans oy
  have hb1 := hb0.setCell (p := ⟨x, 1, none⟩) (show w.heap.size ≤ x by omega) (.int .u64 (xor1 a.num))
  have hsz : (wa.setCell ⟨x, 1, none⟩ (.int .u64 (xor1 a.num))).heap.size = wa.heap.size := by simp
  rw [← hsz] at hxs hys
  have H0 := Lib.hid (And.intro hb1 (And.intro ox2 (And.intro oy2 (And.intro (show x < (wa.setCell ⟨x, 1, none⟩ (.int .u64 (xor1 a.num))).heap.size ∧ y < (wa.setCell ⟨x, 1, none⟩ (.int .u64 (xor1 a.num))).heap.size from ⟨hxs, hys⟩) (And.intro hx hy)))))
  clear hb0 hb1 ox oy hx hy ox2 oy2 hxs hys hsz
  go_upto_region 2 with fail
  change Code.wp _ _ _ _ (wa.setCell ⟨x, 1, none⟩ (.int .u64 (xor1 a.num)))
  generalize wa.setCell ⟨x, 1, none⟩ (.int .u64 (xor1 a.num)) = w0 at *
  clear x1 fx
  obtain ⟨B, hB⟩ : ∃ B, w0.heap.size = B := ⟨_, rfl⟩
  have HB := Lib.hid hB
  clear hB
  go_wp2_with fail
  go_loopw [3, 4] (fun v3 v4 wr => ∃ (k : Nat) (t : Value) (F : Nat → Prop), k ≤ N ∧ v4 = .int .i64 k ∧ v3 = t ∧ VO wr B (a.with ((a.list.map V.turned).take k)) t F ∧ Below B w0 wr) (fun _ v4 _ => N - (intOf v4).toNat)
  case atStart => exact ⟨0, _, _, Nat.zero_le _, rfl, rfl, VO.nil w0 _ (HV.out.wf.with_ _) (by rw [List.take_zero]; rfl), Below.refl _ _⟩
  case round =>
    obtain ⟨k, t, F, hk', rfl, rfl, hvo, hbw⟩ := hrel
    have hbz := hbw.size
    rw [HB.out] at hbz
    have hbw2 : Below w0.heap.size w0 wr := by rw [HB.out]; exact hbw
    have HR := Lib.hid (And.intro hvo (And.intro hbw hbw2))
    have oxr := (hbw2.block x H0.out.2.2.2.1.1).trans H0.out.2.1
    have x3 : wr.cell? ⟨x, 3, none⟩ = some (.slice p N c) := (cell_of_row _ _ 3 _ _ _ oxr).trans rfl
    have HX := Lib.hid oxr
    clear hvo hbw hbw2 oxr
    by_cases hkN : (k : Int) < N
    · have ka : k < a.list.length := by rw [HN.out.1]; omega
      obtain ⟨b1, o1, rfl⟩ := h3 (by omega)
      obtain ⟨ta, hta, hia⟩ := ((HV.out.blw H0.out.1).blw HR.out.2.2).part rfl ka
      obtain ⟨pa, ca, hsa, hj0⟩ := hia.slice
      clear hj0
      subst hsa
      obtain ⟨c0, c1, c2, c3, c4⟩ := part_cells hta
      have htk : (a.list.map V.turned).take (k + 1) = (a.list.map V.turned).take k ++ [a.list[k].turned] := by rw [List.take_add_one, List.getElem?_map, List.getElem?_eq_getElem ka]; rfl
      have htl : ((a.list.map V.turned).take k).length = k := by rw [List.length_take, List.length_map]; omega
      obtain ⟨ya, hya⟩ : ∃ ya, a.list[k] = ya := ⟨_, rfl⟩
      have HIK := Lib.hid (HI.out _ (List.getElem_mem ka))
      have hyw : ya.wt ≤ 2000000 := by have := wts_mem (List.getElem_mem ka); rw [hya] at this; have := HN.out.2; omega
      rw [hya] at c0 c1 c2 c3 c4 hia HIK htk
      obtain ⟨na, hna⟩ : ∃ na, ya.list.length = na := ⟨_, rfl⟩
      rw [hna] at c3 hia
      rw [V.turned_eq] at htk
      have HP := Lib.hid (And.intro hia (And.intro htk (And.intro htl hyw)))
      clear hta hia hya htk htl hyw
      have hc := HIK.out wr _ HP.out.1 HP.out.2.2.2
      have HC := Lib.hid hc
      clear hc HIK
      go_wp2_with fail
      refine HC.out.mono ?_
      clear c0 c1 c2 c3 c4 x3
      rintro e w1a ⟨t2, F2, rfl, hvo2, hb2⟩
      rw [V.turned_eq] at hvo2
      obtain ⟨p2, c2, hs2, hj1, hj2⟩ := hvo2.slice
      rw [show (V.mk ya.kind (xor1 ya.num) ya.text (ya.list.map V.turned) ya.elem).list.length = na by show (ya.list.map V.turned).length = na; rw [List.length_map, hna]] at hs2
      clear hj1 hj2
      subst hs2
      have HVO := Lib.hid (And.intro hvo2 hb2)
      clear hvo2 hb2
      go_upto_region 7 with (refine wpList_store_rowTo rfl 25 (.tmp 5) (.tmp 22) rfl rfl w1a.heap.size #[.int .i64 ya.kind, .int .u64 (xor1 ya.num), .string ya.text, (.slice p2 na c2), .int .i64 ya.elem] rfl rfl 25 zR (_root_.Go.heap_alloc_new w1a _) (by as_aux_lemma => kernel_rfl) (by as_aux_lemma => kernel_rfl) (by simp [Value.oneCell']) ?_)
      have hb_w2 : Below w1a.heap.size w1a ((w1a.alloc (.cells zR 25)).setRow w1a.heap.size #[.int .i64 ya.kind, .int .u64 (xor1 ya.num), .string ya.text, (.slice p2 na c2), .int .i64 ya.elem]) := below_setRow ((Below.refl _ _).alloc (Nat.le_refl _) _) (Nat.le_refl _) _
      have of := setRow_heap (w1a.alloc (.cells zR 25)) w1a.heap.size _ #[.int .i64 ya.kind, .int .u64 (xor1 ya.num), .string ya.text, (.slice p2 na c2), .int .i64 ya.elem] _ _ (_root_.Go.heap_alloc_new w1a _)
      change Code.wp _ _ _ _ ((w1a.alloc (.cells zR 25)).setRow w1a.heap.size #[.int .i64 ya.kind, .int .u64 (xor1 ya.num), .string ya.text, (.slice p2 na c2), .int .i64 ya.elem])
      generalize ((w1a.alloc (.cells zR 25)).setRow w1a.heap.size #[.int .i64 ya.kind, .int .u64 (xor1 ya.num), .string ya.text, (.slice p2 na c2), .int .i64 ya.elem]) = w2 at *
      obtain ⟨f, hx_f⟩ : ∃ x, w1a.heap.size = x := ⟨_, rfl⟩
      rw [hx_f] at of ⊢
      clear hx_f
      have f0 : w2.cell? ⟨f, 0, none⟩ = some (.int .i64 ya.kind) := (cell_of_row _ _ 0 _ _ _ of).trans rfl
      have f1 : w2.cell? ⟨f, 1, none⟩ = some (.int .u64 (xor1 ya.num)) := (cell_of_row _ _ 1 _ _ _ of).trans rfl
      have f2 : w2.cell? ⟨f, 2, none⟩ = some (.string ya.text) := (cell_of_row _ _ 2 _ _ _ of).trans rfl
      have f3 : w2.cell? ⟨f, 3, none⟩ = some (.slice p2 na c2) := (cell_of_row _ _ 3 _ _ _ of).trans rfl
      have f4 : w2.cell? ⟨f, 4, none⟩ = some (.int .i64 ya.elem) := (cell_of_row _ _ 4 _ _ _ of).trans rfl
      have hvo2 := HVO.out.1.blw hb_w2
      have hbb := HVO.out.2.trans (hb_w2.mono HVO.out.2.size)
      clear hb_w2 of
      have hpush := VO.push (l := (a.list.map V.turned).take k) (x := .mk ya.kind (xor1 ya.num) ya.text (ya.list.map V.turned) ya.elem) ((HR.out.1.blw hbb).blw ((Below.refl _ _).alloc (Nat.le_refl _) (.cells #[.int .i64 ya.kind, .int .u64 (xor1 ya.num), .string ya.text, (.slice p2 na c2), .int .i64 ya.elem] 25))) ((hvo2.mono hbz).blw ((Below.refl _ _).alloc (Nat.le_refl _) _)) (fun b q q2 => by
        have := (HR.out.1.lt b q).2
        have := (hvo2.lt b q2).1
        omega) (by have := hbb.size; simp; omega)
      obtain ⟨xs, hrow, hpu⟩ := hpush
      rw [HP.out.2.2.1] at hrow hpu
      have HRW := Lib.hid hrow
      have HPU := Lib.hid hpu
      have HBB := Lib.hid hbb
      have hbbz := hbb.size
      clear hrow hpu hbb hvo2
      go_wp2_with (first
        | (at_builtin; refine wpList_append_two _ rfl (.tmp 23) (.tmp 25) 23 rfl B 25 i0 _ 5 64 Tryz.underlying23 hi hz0 hz1 hz2 rfl _ _ _ rfl HRW.out ⟨w2.heap.size, 0, none⟩ 1 [.int .i64 ya.kind, .int .u64 (xor1 ya.num), .string ya.text, .slice p2 na c2, .int .i64 ya.elem] rfl rfl (fun j u hj => cell_of_newrow hj) (by simp [Value.oneCell']) (by unfold maxLen; omega) (by omega) ?_; intro v' w9 hA; have HA := Lib.hid hA; clear hA))
      obtain ⟨F', hF1, _⟩ := HPU.out w9 v' HA.out
      have hgr := HA.out.grown
      have HF := Lib.hid hF1
      have HB9 : Hid (Below B w0 w9) := Lib.hid ((((HR.out.2.1.trans (HBB.out.mono hbz)).alloc (by omega) _)).grown hgr (by simp; omega) (fun j hj => (HRW.out.lt j hj).1))
      clear hF1 hgr f0 f1 f2 f3 f4
      go_roundw
      case rel => exact ⟨k + 1, _, F', by omega, by go_num, rfl, by rw [HP.out.2.1]; exact HF.out, HB9.out⟩
      case measure => simp [intOf]; omega
    · have hkN2 : k = N := by omega
      have hE := HR.out.1
      have hwt2 : a.with (a.list.map V.turned) = .mk a.kind a.num a.text (a.list.map V.turned) a.elem := rfl
      rw [hkN2, List.take_of_length_le (by rw [List.length_map, HN.out.1]; exact Nat.le_refl _), hwt2] at hE
      obtain ⟨pt, ct, hst, hj1, hj2⟩ := hE.slice
      rw [show (V.mk a.kind a.num a.text (a.list.map V.turned) a.elem).list.length = N by show (a.list.map V.turned).length = N; rw [List.length_map, HN.out.1]] at hst
      subst hst
      have hE2 : VO wr B a.turned (.slice pt N ct) F := by rw [V.turned_eq]; exact VO.as hE rfl (by have := HV.out.wf.turned; rwa [V.turned_eq] at this)
      clear hj1 hj2 hE hwt2
      have fx : wr.frozen? ⟨x, 3, none⟩ = false := by simp [World.frozen?, HX.out]
      have ox2 : (wr.setCell ⟨x, 3, none⟩ (.slice pt N ct)).heap[x]? = some (.cells #[.int .i64 a.kind, .int .u64 (xor1 a.num), .string a.text, (.slice pt N ct), .int .i64 a.elem] 25 (0, 0)) := heap_setCell_same wr x 3 _ _ (.slice pt N ct) HX.out
      have oy1 := (HR.out.2.2.block y H0.out.2.2.2.1.2).trans H0.out.2.2.1
      have oy2 : (wr.setCell ⟨x, 3, none⟩ (.slice pt N ct)).heap[y]? = some (.cells zR 25 (0, 0)) := (set_farV hyx).trans oy1
      have hxB : x < B ∧ y < B := by have := H0.out.2.2.2.1; rw [HB.out] at this; exact this
      have hwx : w.heap.size = x := H0.out.2.2.2.2.1
      have hwy : x + 1 = y := H0.out.2.2.2.2.2
      have hvo2 := hE2.keep (w' := wr.setCell ⟨x, 3, none⟩ (.slice pt N ct)) (fun b hb => set_farV (fun e => by have := (hE2.lt b hb).1; omega))
      have hbl := (H0.out.1.trans (HR.out.2.2.mono H0.out.1.size)).setCell (p := ⟨x, 3, none⟩) (show w.heap.size ≤ x by omega) (.slice pt N ct)
      have HYF := Lib.hid (show (∀ b, F b → b ≠ y) ∧ w.heap.size ≤ B ∧ w.heap.size ≤ y from ⟨fun b hb e => by have h1 := (hE2.lt b hb).1; omega, by omega, by omega⟩)
      clear hE2 oy1 hxB hwx hwy
      go_upto_region 9 with fail
      generalize wr.setCell ⟨x, 3, none⟩ (.slice pt N ct) = w2 at *
      have HVO := Lib.hid (And.intro hvo2 hbl)
      have HOY := Lib.hid oy2
      clear x3
      have x0 : w2.cell? ⟨x, 0, none⟩ = some (.int .i64 a.kind) := (cell_of_row _ _ 0 _ _ _ ox2).trans rfl
      have x1 : w2.cell? ⟨x, 1, none⟩ = some (.int .u64 (xor1 a.num)) := (cell_of_row _ _ 1 _ _ _ ox2).trans rfl
      have x2 : w2.cell? ⟨x, 2, none⟩ = some (.string a.text) := (cell_of_row _ _ 2 _ _ _ ox2).trans rfl
      have x3 : w2.cell? ⟨x, 3, none⟩ = some (.slice pt N ct) := (cell_of_row _ _ 3 _ _ _ ox2).trans rfl
      have x4 : w2.cell? ⟨x, 4, none⟩ = some (.int .i64 a.elem) := (cell_of_row _ _ 4 _ _ _ ox2).trans rfl
      clear hvo2 hbl ox2 fx
      go_wp2_with (refine wpList_store_rowTo rfl 25 (.tmp 2) (.tmp 29) rfl rfl y #[.int .i64 a.kind, .int .u64 (xor1 a.num), .string a.text, (.slice pt N ct), .int .i64 a.elem] rfl rfl 25 zR oy2 (by as_aux_lemma => kernel_rfl) (by as_aux_lemma => kernel_rfl) (by simp [Value.oneCell']) ?_)
      have hh := setRow_heap w2 y _ #[.int .i64 a.kind, .int .u64 (xor1 a.num), .string a.text, (.slice pt N ct), .int .i64 a.elem] _ _ HOY.out
      have hB := below_setRow HVO.out.2 HYF.out.2.2 #[.int .i64 a.kind, .int .u64 (xor1 a.num), .string a.text, (.slice pt N ct), .int .i64 a.elem]
      have hvo3 := (HVO.out.1.mono HYF.out.2.1).keep (w' := w2.setRow y #[.int .i64 a.kind, .int .u64 (xor1 a.num), .string a.text, (.slice pt N ct), .int .i64 a.elem]) (fun b hb => setRow_other w2 y b _ (fun e => HYF.out.1 b hb e))
      refine bodyPost_ret (results_cell_row (p := 2) (ty := 25) (by kernel_rfl) _ _ y 25 #[.int .i64 a.kind, .int .u64 (xor1 a.num), .string a.text, (.slice pt N ct), .int .i64 a.elem] (0, 0) _ rfl hh Tryz.underlying25 rfl (by as_aux_lemma => kernel_rfl)) rfl ?_
      exact ⟨_, F, rfl, hvo3, hB⟩


attribute [local go_sem] Oper.semAt_some

structure OvI (v tt : V) (hl : tt.list.length = v.list.length) (wr : World) (B b k : Nat) (c : Nat → List Value) (ss : Nat → Value) (Fs : Nat → Nat → Prop) : Prop where
  hc : ∀ i, (c i).length = 5
  hrow : RowF wr B b (v.list.length + 3) c
  h1 : ∀ i (h : i < v.list.length), c i = vcells (if i < k then tt.list[i] else v.list[i]) (ss i)
  h2 : ∀ i, v.list.length ≤ i → i < v.list.length + 3 → c i = vcells (mkV i) nilS
  hin : ∀ i (h : i < v.list.length), VL wr B (if i < k then tt.list[i] else v.list[i]) (ss i) (Fs i)
theorem OvI.next {v tt : V} {hl : tt.list.length = v.list.length} {wr w2 : World} {B b k : Nat} {c : Nat → List Value} {ss : Nat → Value} {Fs : Nat → Nat → Prop} (h : OvI v tt hl wr B b k c ss Fs) (hk : k < v.list.length)
    (hd : ∀ i j, i < v.list.length → j < v.list.length → i ≠ j → ∀ g, Fs i g → ¬ Fs j g) (hs : ∀ i, i < v.list.length → ¬ Fs i b) (hkf : KeepF (Fs k) wr w2) (hx : VL w2 B (tt.list[k]'(hl ▸ hk)) (ss k) (Fs k)) :
    OvI v tt hl (w2.setCells b (k * 5) (vcells (tt.list[k]'(hl ▸ hk)) (ss k))) B b (k + 1) (updF c k (vcells (tt.list[k]'(hl ▸ hk)) (ss k))) ss Fs := by
  have g := setCells_grown w2 b (k * 5) (vcells (tt.list[k]'(hl ▸ hk)) (ss k))
  have hrow2 : RowF w2 B b (v.list.length + 3) c := h.hrow.keep (hkf.block b h.hrow.lt.2 (hs k hk))
  have key : ∀ i (hi : i < v.list.length) (x : V), VL w2 B x (ss i) (Fs i) → VL (w2.setCells b (k * 5) (vcells (tt.list[k]'(hl ▸ hk)) (ss k))) B x (ss i) (Fs i) := fun i hi x hv =>
    hv.keep (fun q hq => g.block q (hv.lt q hq).2 (fun e => hs i hi (by rw [← Option.some.inj e]; exact hq)))
  refine ⟨updF_len h.hc rfl, hrow2.set h.hc (by omega) rfl, fun i hi => ?_, fun i q1 q2 => by rw [updF_other (by omega)]; exact h.h2 i q1 q2, fun i hi => ?_⟩
  · by_cases e : i = k
    · subst e; rw [updF_same, if_pos (by omega)]
    · rw [updF_other e, h.h1 i hi]
      by_cases e2 : i < k
      · rw [if_pos e2, if_pos (by omega)]
      · rw [if_neg e2, if_neg (by omega)]
  · by_cases e : i = k
    · subst e
      rw [if_pos (by omega)]
      exact key i hi _ hx
    · have hv := (h.hin i hi).keepF hkf (hd i k hi hk e)
      by_cases e2 : i < k
      · rw [if_pos e2] at hv
        rw [if_pos (by omega)]
        exact key i hi _ hv
      · rw [if_neg e2] at hv
        rw [if_neg (by omega)]
        exact key i hi _ hv

def overOn (v : V) : Prop := ∀ (w wv : World) (B : Nat) (s u : Value) (F : Nat → Prop) (tt : V), VL w B v s F → VIn wv tt u → tt.list = v.list.map V.turned → (∀ W, KeepF F w W → Rd wv W) → v.wt ≤ 2000000 →
    Calls Tryz.prog 15 #[s, u] w fun e w' => e = .returned (.tuple #[]) ∧ VL w' B (v.with tt.list) s F ∧ KeepF F w w'

set_option maxRecDepth 20000 in
set_option maxHeartbeats 4000000 in
theorem over_on : ∀ v : V, overOn v := by
  refine V.ind (fun v ih w wv B s u F tt h ht hmap hrd hwt => ?_)
  have hl : tt.list.length = v.list.length := by rw [hmap, List.length_map]
  obtain ⟨q, d, hu, k1, k2, k3⟩ := ht.slice
  obtain ⟨_, b, _, c0, ss, Fs, wf, hc0, hrow0, h10, h20, hin0, hd, hs, hF⟩ := h
  obtain ⟨N, hN⟩ : ∃ N, v.list.length = N := ⟨_, rfl⟩
  have hNw := len_le_wts v.list
  have hwl : wts v.list ≤ 2000000 := by have := v.wt_eq; omega
  have hI0 : OvI v tt hl w B b 0 c0 ss Fs := ⟨hc0, hrow0, fun i hi => by rw [if_neg (by omega)]; exact h10 i hi, h20, fun i hi => by rw [if_neg (by omega)]; exact hin0 i hi⟩
  have HSZ := Lib.hid (show (Tryz.prog.info? 25).map (·.size) = some 5 by obtain ⟨i0, hi, hz0, hz1, hz2⟩ := info_partsV info_val; rw [hi]; simp [hz1])
  rw [hl, hN] at hu k1 k3
  rw [hN] at hNw
  subst hu
  unfold maxLen at k2
  have hNb : N ≤ 2000000 := by omega
  have HI := Lib.hid ih
  have HN := Lib.hid (And.intro hN (And.intro hwl hmap))
  have HV := Lib.hid ht
  have HD := Lib.hid (And.intro hd (And.intro hs hF))
  have HRD := Lib.hid hrd
  have H0 := Lib.hid (And.intro hI0 wf)
  rw [hN]
  have hblt := hrow0.lt
  clear ih ht hmap hrd hwt hwl hNw hd hs hF hI0 hin0 h10 h20 hc0 hrow0 wf hN
  go_enter Tryz.func15, Tryz.ntmps15
  go_wp2_with fail
  go_loopw [4] (fun v4 wr => ∃ (k : Nat) (c : Nat → List Value), k ≤ N ∧ v4 = .int .i64 k ∧ OvI v tt hl wr B b k c ss Fs ∧ KeepF F w wr) (fun v4 _ => N - (intOf v4).toNat)
  case atStart => exact ⟨0, _, Nat.zero_le _, rfl, H0.out.1, KeepF.refl _ _⟩
  case round =>
    obtain ⟨k, c, hk', rfl, hov, hkf⟩ := hrel
    have HR := Lib.hid (And.intro hov hkf)
    by_cases hkN : (k : Int) < N
    · have ka : k < v.list.length := by rw [HN.out.1]; omega
      have kt : k < tt.list.length := by rw [hl]; exact ka
      obtain ⟨b2, o2, rfl⟩ := k3 (by omega)
      obtain ⟨tk, htk, hik⟩ := HV.out.part rfl kt
      obtain ⟨pk, ck, hsk, hj0⟩ := hik.slice
      clear hj0
      subst hsk
      have hvk := hov.hin k ka
      rw [if_neg (Nat.lt_irrefl k)] at hvk
      have hck := hov.h1 k ka
      rw [if_neg (Nat.lt_irrefl k)] at hck
      have e3 : wr.cell? ⟨b, k * 5 + 3, none⟩ = some (ss k) := hov.hrow.cell hov.hc (by omega) (by rw [hck]; rfl)
      have hcells := part_cells (rangeAt_rd htk (HRD.out wr hkf))
      have hyl : tt.list[k].list = (v.list[k]).list.map V.turned := by
        have : tt.list[k] = (v.list[k]).turned := by simp only [HN.out.2.2, List.getElem_map]
        rw [this, turned_list]
      have hxw : (v.list[k]).wt ≤ 2000000 := by have := wts_mem (List.getElem_mem ka); have := HN.out.2.1; omega
      have hcall := HI.out _ (List.getElem_mem ka) wr wv B (ss k) _ (Fs k) tt.list[k] hvk hik hyl (fun W hW => HRD.out W (hkf.trans (hW.wide (fun j hj => (HD.out.2.2 j).2 (.inr ⟨k, ka, hj⟩))))) hxw
      have hywf := hik.wf
      obtain ⟨gk, hgk, hj1, hj2⟩ := hvk.slice
      obtain ⟨mk_, hmk⟩ : ∃ m, (v.list[k]).list.length = m := ⟨_, rfl⟩
      rw [hmk] at hgk
      obtain ⟨sk, hsk⟩ : ∃ sk, ss k = sk := ⟨_, rfl⟩
      have hsk2 := hsk.symm.trans hgk
      subst hsk2
      rw [hsk] at e3 hcall
      obtain ⟨yt, hyt⟩ : ∃ yt, tt.list[k] = yt := ⟨_, rfl⟩
      rw [hyt] at hcells hcall hyl hywf
      have hylen : yt.list.length = mk_ := by rw [hyl, List.length_map, hmk]
      have HML := Lib.hid hylen
      rw [hylen] at hcells hcall
      obtain ⟨d0, d1, d2, d3, d4⟩ := hcells
      have HC := Lib.hid hcall
      have HY := Lib.hid (And.intro hsk (And.intro hyt (And.intro hyl (And.intro hywf (And.intro ka htk)))))
      clear hcall hvk hck hyl hywf hyt hsk hylen htk hik hj1 hj2 hmk hxw hov hkf
      go_wp2_with fail
      refine HC.out.mono ?_
      clear e3 d0 d1 d2 d3 d4
      rintro e w1 ⟨rfl, hv1, hk1⟩
      have hkf1 := HR.out.2.trans (hk1.wide (fun j hj => (HD.out.2.2 j).2 (.inr ⟨k, HY.out.2.2.2.2.1, hj⟩)))
      have hcells := part_cells (rangeAt_rd HY.out.2.2.2.2.2 (HRD.out w1 hkf1))
      rw [HY.out.2.1] at hcells
      obtain ⟨d0, d1, d2, d3, d4⟩ := hcells
      rw [show yt.list.length = mk_ from HML.out] at d3
      have HK1 := Lib.hid (And.intro hv1 (And.intro hk1 hkf1))
      clear hv1 hk1 hkf1
      go_upto_region 6 with (refine wpList_store_rowTo rfl 25 (.tmp 6) (.tmp 34) rfl rfl w1.heap.size #[.int .i64 yt.kind, .int .u64 yt.num, .string yt.text, (.slice pk mk_ ck), .int .i64 yt.elem] rfl rfl 25 zR (_root_.Go.heap_alloc_new w1 _) (by as_aux_lemma => kernel_rfl) (by as_aux_lemma => kernel_rfl) (by simp [Value.oneCell']) ?_)
      have hb_w2 : Below w1.heap.size w1 ((w1.alloc (.cells zR 25)).setRow w1.heap.size #[.int .i64 yt.kind, .int .u64 yt.num, .string yt.text, (.slice pk mk_ ck), .int .i64 yt.elem]) := below_setRow ((Below.refl _ _).alloc (Nat.le_refl _) _) (Nat.le_refl _) _
      have of := setRow_heap (w1.alloc (.cells zR 25)) w1.heap.size _ #[.int .i64 yt.kind, .int .u64 yt.num, .string yt.text, (.slice pk mk_ ck), .int .i64 yt.elem] _ _ (_root_.Go.heap_alloc_new w1 _)
      change Code.wp _ _ _ _ ((w1.alloc (.cells zR 25)).setRow w1.heap.size #[.int .i64 yt.kind, .int .u64 yt.num, .string yt.text, (.slice pk mk_ ck), .int .i64 yt.elem])
      generalize ((w1.alloc (.cells zR 25)).setRow w1.heap.size #[.int .i64 yt.kind, .int .u64 yt.num, .string yt.text, (.slice pk mk_ ck), .int .i64 yt.elem]) = w2 at *
      obtain ⟨f, hx_f⟩ : ∃ x, w1.heap.size = x := ⟨_, rfl⟩
      rw [hx_f] at of ⊢
      have HXF := Lib.hid hx_f
      clear hx_f
      have f3 : w2.cell? ⟨f, 3, none⟩ = some (.slice pk mk_ ck) := (cell_of_row _ _ 3 _ _ _ of).trans rfl
      have ff : w2.frozen? ⟨f, 3, none⟩ = false := by simp [World.frozen?, of]
      have of2 : (w2.setCell ⟨f, 3, none⟩ (.slice (some ⟨gk, 0, none⟩) mk_ (mk_ + 3))).heap[f]? = some (.cells #[.int .i64 yt.kind, .int .u64 yt.num, .string yt.text, (.slice (some ⟨gk, 0, none⟩) mk_ (mk_ + 3)), .int .i64 yt.elem] 25 (0, 0)) := heap_setCell_same w2 f 3 _ _ (.slice (some ⟨gk, 0, none⟩) mk_ (mk_ + 3)) of
      have hb3 : Below w1.heap.size w1 (w2.setCell ⟨f, 3, none⟩ (.slice (some ⟨gk, 0, none⟩) mk_ (mk_ + 3))) := hb_w2.setCell (p := ⟨f, 3, none⟩) (show w1.heap.size ≤ f by have := HXF.out; omega) _
      clear d0 d1 d2 d3 d4 of hb_w2
      go_upto_region 7 with fail
      generalize w2.setCell ⟨f, 3, none⟩ (.slice (some ⟨gk, 0, none⟩) mk_ (mk_ + 3)) = w3 at *
      clear f3 ff
      have f0 : w3.cell? ⟨f, 0, none⟩ = some (.int .i64 yt.kind) := (cell_of_row _ _ 0 _ _ _ of2).trans rfl
      have f1 : w3.cell? ⟨f, 1, none⟩ = some (.int .u64 yt.num) := (cell_of_row _ _ 1 _ _ _ of2).trans rfl
      have f2 : w3.cell? ⟨f, 2, none⟩ = some (.string yt.text) := (cell_of_row _ _ 2 _ _ _ of2).trans rfl
      have f3 : w3.cell? ⟨f, 3, none⟩ = some (.slice (some ⟨gk, 0, none⟩) mk_ (mk_ + 3)) := (cell_of_row _ _ 3 _ _ _ of2).trans rfl
      have f4 : w3.cell? ⟨f, 4, none⟩ = some (.int .i64 yt.elem) := (cell_of_row _ _ 4 _ _ _ of2).trans rfl
      have hk3 : KeepF (Fs k) wr w3 := HK1.out.2.1.trans (KeepF.of_below hb3)
      have hrow3 : RowF w3 B b (v.list.length + 3) c := HR.out.1.hrow.keep (hk3.block b HR.out.1.hrow.lt.2 (HD.out.2.1 k HY.out.2.2.2.2.1))
      have HTH := Lib.hid (hrow3.there (show k < v.list.length + 3 by rw [HN.out.1]; omega))
      have hkt := HY.out.2.1
      have hnx := OvI.next HR.out.1 HY.out.2.2.2.2.1 HD.out.1 HD.out.2.1 hk3 (by rw [hkt, HY.out.1]; exact (VL.as (v' := yt) HK1.out.1 rfl HY.out.2.2.2.1).blw hb3)
      rw [hkt, HY.out.1] at hnx
      have hcs : vcells yt (.slice (some ⟨gk, 0, none⟩) mk_ (mk_ + 3)) = [.int .i64 yt.kind, .int .u64 yt.num, .string yt.text, (.slice (some ⟨gk, 0, none⟩) mk_ (mk_ + 3)), .int .i64 yt.elem] := rfl
      rw [hcs] at hnx
      have hkf4 : KeepF F w (w3.setCells b (k * 5) [.int .i64 yt.kind, .int .u64 yt.num, .string yt.text, (.slice (some ⟨gk, 0, none⟩) mk_ (mk_ + 3)), .int .i64 yt.elem]) := (HK1.out.2.2.trans (KeepF.of_below hb3)).setCells ((HD.out.2.2 b).2 (.inl rfl)) _ _
      have HNX := Lib.hid (And.intro hnx hkf4)
      have HF := Lib.hid of2
      clear hk3 hrow3 hkt hnx hcs hkf4 hb3 of2
      go_wp2_with (refine wpList_store_mid rfl 25 (.tmp 40) (.tmp 39) rfl b (k * 5) #[.int .i64 yt.kind, .int .u64 yt.num, .string yt.text, (.slice (some ⟨gk, 0, none⟩) mk_ (mk_ + 3)), .int .i64 yt.elem] rfl rfl HTH.out HSZ.out (by simp [Value.oneCell']) ?_; change wpList _ _ _ _ _ (w3.setCells b (k * 5) [.int .i64 yt.kind, .int .u64 yt.num, .string yt.text, (.slice (some ⟨gk, 0, none⟩) mk_ (mk_ + 3)), .int .i64 yt.elem]); generalize w3.setCells b (k * 5) [.int .i64 yt.kind, .int .u64 yt.num, .string yt.text, (.slice (some ⟨gk, 0, none⟩) mk_ (mk_ + 3)), .int .i64 yt.elem] = w4 at *)
      go_roundw
      case rel => exact ⟨k + 1, _, by omega, by go_num, HNX.out.1, HNX.out.2⟩
      case measure => simp [intOf]; omega
    · have hkN2 : k = N := by omega
      subst hkN2
      clear hov hkf
      go_wp2_with fail
      go_end0
      refine ⟨rfl, ?_, HR.out.2⟩
      have h := HR.out.1
      have hNk := HN.out.1
      rw [← hNk] at h ⊢
      have hwl : (v.with tt.list).list.length = v.list.length := hl
      have key : VL wr B (v.with tt.list) (.slice (some ⟨b, 0, none⟩) (v.with tt.list).list.length ((v.with tt.list).list.length + 3)) F := by
        refine .mk (v.with tt.list) b F c ss Fs (H0.out.2.with_ _) h.hc (by rw [hwl]; exact h.hrow) (fun i hi => ?_) (fun i q1 q2 => h.h2 i (hwl ▸ q1) (hwl ▸ q2)) (fun i hi => ?_) (fun i j hi hj => HD.out.1 i j (hwl ▸ hi) (hwl ▸ hj)) (fun i hi => HD.out.2.1 i (hwl ▸ hi)) (fun g => by rw [HD.out.2.2 g, hwl])
        · have hi2 : i < v.list.length := hwl ▸ hi
          have := h.h1 i hi2
          rw [if_pos hi2] at this
          exact this
        · have hi2 : i < v.list.length := hwl ▸ hi
          have := h.hin i hi2
          rw [if_pos hi2] at this
          exact this
      rw [hwl] at key
      exact key

end Go.Proofs.YtnnnfhobbnjmfaaGreatDoor
