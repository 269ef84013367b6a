/-
  Lent values. Conditions: the value lies in memory and is no greater than a million.
-/
import Derived.Test.YtakbgekamjpibaaDoorNa
import Derived.OwnWalk
namespace Go.Proofs.YtakbgekamjpibaaDoor
open Go.RowKit
set_option linter.unusedVariables false

attribute [local go_sem] Oper.semAt_some

theorem made_rows (n : Nat) : (madeCells (Value.agg #[.int .i64 0, .int .u64 0, .string ⟨#[]⟩, .slice none 0 0, .int .i64 0]).cells (n * 5)).toList = rowsF n (fun _ => vcells (.mk 0 0 ⟨#[]⟩ [] 0) nilS) := by
  apply List.ext_getElem?
  intro q
  have hl := rowsF_len (c := fun _ => vcells (.mk 0 0 ⟨#[]⟩ [] 0) nilS) (fun _ => rfl) n
  by_cases hq : q < n * 5
  · have hq2 : q = q / 5 * 5 + q % 5 := by omega
    have h5 : q % 5 < 5 := by omega
    have hqn : q / 5 < n := by omega
    have e : (madeCells (Value.agg #[.int .i64 0, .int .u64 0, .string ⟨#[]⟩, .slice none 0 0, .int .i64 0]).cells (n * 5)).toList[q]? = some ((Value.agg #[.int .i64 0, .int .u64 0, .string ⟨#[]⟩, .slice none 0 0, .int .i64 0]).cells[q % 5]!) := by
      simp [madeCells, hq, Value.cells]
    rw [e]
    generalize q / 5 = i at *
    generalize q % 5 = j at *
    subst hq2
    rw [rowsF_get (c := fun _ => vcells (.mk 0 0 ⟨#[]⟩ [] 0) nilS) (fun _ => rfl) n i j hqn h5]
    match j, h5 with
    | 0, _ => rfl
    | 1, _ => rfl
    | 2, _ => rfl
    | 3, _ => rfl
    | 4, _ => rfl
  · rw [List.getElem?_eq_none (by simp [madeCells]; omega), List.getElem?_eq_none (by omega)]

/-- so far -/
structure PLent (a : V) (wr : World) (B b k : Nat) (c : Nat → List Value) (ss : Nat → Value) (Fs : Nat → Nat → Prop) : Prop where
  hc : ∀ i, (c i).length = 5
  hrow : RowF wr B b (a.list.length + 3) c
  h1 : ∀ i (h : i < a.list.length), i < k → c i = vcells a.list[i] (ss i)
  h2 : ∀ i, a.list.length ≤ i → i < k → c i = vcells (mkV i) nilS
  hin : ∀ i (h : i < a.list.length), i < k → VL wr B a.list[i] (ss i) (Fs i)
  hd : ∀ i j, i < a.list.length → j < a.list.length → i < k → j < k → i ≠ j → ∀ g, Fs i g → ¬ Fs j g
  hs : ∀ i, i < a.list.length → i < k → ¬ Fs i b
theorem PLent.done {a : V} {wr : World} {B b : Nat} {c : Nat → List Value} {ss : Nat → Value} {Fs : Nat → Nat → Prop} (h : PLent a wr B b (a.list.length + 3) c ss Fs) (hw : a.Wf) : ∃ F, VL wr B a (.slice (some ⟨b, 0, none⟩) a.list.length (a.list.length + 3)) F :=
  ⟨_, .mk a b _ c ss Fs hw h.hc h.hrow (fun i hi => h.h1 i hi (by omega)) (fun i q1 q2 => h.h2 i q1 q2) (fun i hi => h.hin i hi (by omega)) (fun i j hi hj => h.hd i j hi hj (by omega) (by omega)) (fun i hi => h.hs i hi (by omega)) (fun g => Iff.rfl)⟩
/-- a place is marked -/
theorem PLent.mark {a : V} {wr : World} {B b k : Nat} {c : Nat → List Value} {ss : Nat → Value} {Fs : Nat → Nat → Prop} (h : PLent a wr B b k c ss Fs) (hk : k < a.list.length + 3) :
    PLent a (wr.setCells b (k * 5) (vcells (mkV k) nilS)) B b k (updF c k (vcells (mkV k) nilS)) ss Fs := by
  have g := setCells_grown wr b (k * 5) (vcells (mkV k) nilS)
  refine ⟨updF_len h.hc rfl, h.hrow.set h.hc hk rfl, fun i hi hik => by rw [updF_other (by omega)]; exact h.h1 i hi hik, fun i hi hik => by rw [updF_other (by omega)]; exact h.h2 i hi hik, fun i hi hik => (h.hin i hi hik).keep (fun q hq => g.block q ((h.hin i hi hik).lt q hq).2 (fun e => h.hs i hi hik (by rw [← Option.some.inj e]; exact hq))), h.hd, h.hs⟩
theorem PLent.below {a : V} {wr w2 : World} {B b k : Nat} {c : Nat → List Value} {ss : Nat → Value} {Fs : Nat → Nat → Prop} (h : PLent a wr B b k c ss Fs) (hb : Below wr.heap.size wr w2) : PLent a w2 B b k c ss Fs :=
  ⟨h.hc, h.hrow.keep (hb.block _ h.hrow.lt.2), h.h1, h.h2, fun i hi hik => (h.hin i hi hik).blw hb, h.hd, h.hs⟩
/-- a marked place behind the list stays -/
theorem PLent.next {a : V} {wr : World} {B b k : Nat} {c : Nat → List Value} {ss : Nat → Value} {Fs : Nat → Nat → Prop} (h : PLent a wr B b k (updF c k (vcells (mkV k) nilS)) ss Fs) (hk : a.list.length ≤ k) : PLent a wr B b (k + 1) (updF c k (vcells (mkV k) nilS)) ss Fs :=
  ⟨h.hc, h.hrow, fun i hi hik => h.h1 i hi (by omega), fun i hi hik => by
    by_cases e : i = k
    · subst e; exact updF_same _ _ _
    · exact h.h2 i hi (by omega), fun i hi hik => h.hin i hi (by omega), fun i j hi hj hik hjk => h.hd i j hi hj (by omega) (by omega), fun i hi hik => h.hs i hi (by omega)⟩
/-- a part comes in -/
theorem PLent.put {a : V} {wr : World} {B b k B2 : Nat} {c : Nat → List Value} {ss : Nat → Value} {Fs : Nat → Nat → Prop} {t : Value} {F2 : Nat → Prop} (h : PLent a wr B b k c ss Fs) (hk : k < a.list.length) (hx : VL wr B a.list[k] t F2) (hdj : ∀ g, F2 g → B2 ≤ g) (hold : ∀ i, i < a.list.length → i < k → ∀ g, Fs i g → g < B2) (hb2 : b < B2) :
    PLent a (wr.setCells b (k * 5) (vcells a.list[k] t)) B b (k + 1) (updF c k (vcells a.list[k] t)) (fun i => if i = k then t else ss i) (fun i => if i = k then F2 else Fs i) := by
  have g := setCells_grown wr b (k * 5) (vcells a.list[k] t)
  have hbF : ∀ q, F2 q → q ≠ b := fun q hq e => by have := hdj q hq; omega
  refine ⟨updF_len h.hc rfl, h.hrow.set h.hc (by omega) rfl, fun i hi hik => ?_, fun i hi hik => by rw [updF_other (by omega)]; exact h.h2 i hi (by omega), fun i hi hik => ?_, fun i j hi hj hik hjk hij q hq => ?_, fun i hi hik => ?_⟩
  · by_cases e : i = k
    · subst e; rw [updF_same, if_pos rfl]
    · rw [updF_other e, if_neg e]; exact h.h1 i hi (by omega)
  · by_cases e : i = k
    · subst e
      simp only [if_pos]
      exact hx.keep (fun q hq => g.block q (hx.lt q hq).2 (fun e => hbF q hq (Option.some.inj e)))
    · simp only [if_neg e]
      exact (h.hin i hi (by omega)).keep (fun q hq => g.block q ((h.hin i hi (by omega)).lt q hq).2 (fun e => h.hs i hi (by omega) (by rw [← Option.some.inj e]; exact hq)))
  · by_cases e : i = k
    · rw [if_pos e] at hq
      rw [if_neg (by omega)]
      intro q2
      have h1 := hdj q hq
      have h2 := hold j hj (by omega) q q2
      omega
    · rw [if_neg e] at hq
      by_cases e2 : j = k
      · rw [if_pos e2]
        intro q2
        have h1 := hdj q q2
        have h2 := hold i hi (by omega) q hq
        omega
      · rw [if_neg e2]
        exact h.hd i j hi hj (by omega) (by omega) hij q hq
  · by_cases e : i = k
    · rw [if_pos e]; exact fun q => hbF _ q rfl
    · rw [if_neg e]; exact h.hs i hi (by omega)

def lentOn (a : V) : Prop := ∀ (w : World) (s : Value), VIn w a s → a.wt ≤ 1000000 →
    Calls Tryd.prog 14 #[.agg #[.int .i64 a.kind, .int .u64 a.num, .string a.text, s, .int .i64 a.elem]] w (OutVL w a)

set_option maxRecDepth 20000 in
set_option maxHeartbeats 4000000 in
theorem lents_any (a : V) (ih : ∀ x ∈ a.list, lentOn x) (w : World) (s : Value) (h : VIn w a s) (hwt : wts a.list ≤ 1000000) :
    Calls Tryd.prog 32 #[s] w (OutLL w a) := by
  obtain ⟨p, c, hs, h1, h2, h3⟩ := h.slice
  obtain ⟨N, hN⟩ : ∃ N, a.list.length = N := ⟨_, rfl⟩
  have hNw := len_le_wts a.list
  rw [hN] at hs h1 h3 hNw
  subst hs
  unfold maxLen at h2
  have hNb : N ≤ 1000000 := by omega
  have HI := Lib.hid ih
  have HN := Lib.hid (And.intro hN hwt)
  have HV := Lib.hid h
  obtain ⟨i0, hi, hz0, hz1, hz2⟩ := info_partsV info_val
  have HSZ := Lib.hid (show (Tryd.prog.info? 25).map (·.size) = some 5 by rw [hi]; simp [hz1])
  clear ih h hN hNw hwt
  go_enter Tryd.func32, Tryd.ntmps32
  go_upto_region 3 with (refine wpList_make_full w rfl (.tmp 9) (.tmp 9) 23 rfl w.heap.size 25 i0 (.agg #[.int .i64 0, .int .u64 0, .string ⟨#[]⟩, .slice none 0 0, .int .i64 0]) 5 Tryd.underlying23 hi hz0 hz1 .i64 .i64 _ _ (N + 3) rfl rfl (by omega) (by omega) (by rw [hz2]; omega) (by unfold maxLen; omega) (Nat.le_refl _) ?_; intro w1 hrow hgr)
  rw [made_rows] at hrow
  have hb1 : Below w.heap.size w w1 := ⟨hgr.os, hgr.tape, hgr.output, hgr.size, fun j hj => hgr.block j hj (by simp)⟩
  have hP0 : PLent a w1 w.heap.size w.heap.size 0 (fun _ => vcells (.mk 0 0 ⟨#[]⟩ [] 0) nilS) (fun _ => nilS) (fun _ _ => False) := ⟨fun _ => rfl, by rw [HN.out.1]; exact hrow, fun i _ h => by omega, fun i _ h => by omega, fun i _ h => by omega, fun i j _ _ h => by omega, fun i _ h => by omega⟩
  obtain ⟨b, hb⟩ : ∃ b, w.heap.size = b := ⟨_, rfl⟩
  rw [hb] at hP0 ⊢
  rw [show (w.heap.size : Nat) = b from hb] at hb1
  have H0 := Lib.hid (And.intro hb1 (And.intro hP0 hb))
  clear hrow hgr hb1 hP0 hb
  go_wp2_with fail
  go_loopw [5] (fun v5 wr => ∃ (k : Nat) (c : Nat → List Value) (ss : Nat → Value) (Fs : Nat → Nat → Prop), k ≤ N + 3 ∧ v5 = .int .i64 k ∧ PLent a wr b b k c ss Fs ∧ Below b w wr) (fun v5 _ => N + 3 - (intOf v5).toNat)
  case atStart => exact ⟨0, _, _, _, Nat.zero_le _, rfl, H0.out.2.1, H0.out.1⟩
  case round =>
    obtain ⟨k, c, ss, Fs, hk', rfl, hpl, hbw⟩ := hrel
    have HR := Lib.hid (And.intro hpl hbw)
    by_cases hkN : (k : Int) < N + 3
    · have hkn : k < a.list.length + 3 := by rw [HN.out.1]; omega
      have hth := hpl.hrow.there hkn
      have HTH := Lib.hid hth
      clear hpl hbw hth
      go_upto_region 7 with (refine wpList_store_mid rfl 25 (.tmp 22) (.tmp 21) rfl b (k * 5) #[.int .i64 (-7), .int .u64 k, .string ⟨#[]⟩, .slice none 0 0, .int .i64 0] rfl rfl HTH.out HSZ.out (by simp [Value.oneCell']) ?_)
      have hp2 := HR.out.1.mark hkn
      have hb2 : Below b w (wr.setCells b (k * 5) (vcells (mkV k) nilS)) := HR.out.2.grown (setCells_grown wr b (k * 5) (vcells (mkV k) nilS)) (by have := HR.out.1.hrow.lt; omega) (fun j hj => by have := Option.some.inj hj; omega)
      change Code.wp _ _ _ _ (wr.setCells b (k * 5) (vcells (mkV k) nilS))
      generalize wr.setCells b (k * 5) (vcells (mkV k) nilS) = w2 at *
      have HR2 := Lib.hid (And.intro hp2 hb2)
      have HBW := Lib.hid (show w.heap.size = b from H0.out.2.2)
      clear hp2 hb2
      by_cases hkl : (k : Int) < N
      · have ka : k < a.list.length := by rw [HN.out.1]; omega
        obtain ⟨b1, o1, rfl⟩ := h3 (by omega)
        have hb2w : Below w.heap.size w w2 := by rw [HBW.out]; exact HR2.out.2
        obtain ⟨ta, hta, hia⟩ := (HV.out.blw hb2w).part rfl ka
        obtain ⟨pa, ca, hsa, hj0⟩ := hia.slice
        clear hj0
        subst hsa
        obtain ⟨c0, c1, c2, c3, c4⟩ := part_cells hta
        obtain ⟨ya, hya⟩ : ∃ ya, a.list[k] = ya := ⟨_, rfl⟩
        have HIK := Lib.hid (HI.out _ (List.getElem_mem ka))
        have hyw : ya.wt ≤ 1000000 := by have := wts_mem (List.getElem_mem ka); rw [hya] at this; have := HN.out.2; omega
        have HYA := Lib.hid hya
        rw [hya] at c0 c1 c2 c3 c4 hia HIK
        obtain ⟨na, hna⟩ : ∃ na, ya.list.length = na := ⟨_, rfl⟩
        rw [hna] at c3 hia
        have hc := HIK.out w2 _ hia hyw
        have HC := Lib.hid hc
        clear hc hta hia hya hyw hb2w
        go_wp2_with fail
        refine HC.out.mono ?_
        clear c0 c1 c2 c3 c4
        rintro e w3 ⟨t2, F2, rfl, hvo2, hb3⟩
        obtain ⟨g2, hs2, hj1, hj2⟩ := hvo2.slice
        clear hj1 hj2
        rw [hna] at hs2
        obtain ⟨p2, hp2⟩ : ∃ p2, some (⟨g2, 0, none⟩ : Addr) = p2 := ⟨_, rfl⟩
        obtain ⟨d2, hd2⟩ : ∃ d2, na + 3 = d2 := ⟨_, rfl⟩
        rw [hp2, hd2] at hs2
        subst hs2
        have hp3 := HR2.out.1.below hb3
        have hth := hp3.hrow.there hkn
        have HTH2 := Lib.hid hth
        have hb2z := hp3.hrow.lt
        have h2z := HR2.out.1.hrow.lt.2
        have hp4 := PLent.put (B2 := w2.heap.size) hp3 ka (by rw [HYA.out]; exact hvo2.mono (by omega)) (fun g hg => (hvo2.lt g hg).1) (fun i hi hik g hg => ((HR2.out.1.hin i hi hik).lt g hg).2) h2z
        rw [HYA.out] at hp4
        have hb4 : Below b w (w3.setCells b (k * 5) (vcells ya (.slice p2 na d2))) := (HR2.out.2.trans (hb3.mono (by omega))).grown (setCells_grown w3 b (k * 5) (vcells ya (.slice p2 na d2))) (by omega) (fun j hj => by have := Option.some.inj hj; omega)
        have HP4 := Lib.hid (And.intro hp4 hb4)
        clear hvo2 hb3 hp2 hd2 hp3 hth hb2z h2z hp4 hb4 HYA HIK hkn hna ka
        go_wp2_with (refine wpList_store_mid rfl 25 (.tmp 33) (.tmp 32) rfl b (k * 5) #[.int .i64 ya.kind, .int .u64 ya.num, .string ya.text, .slice p2 na d2, .int .i64 ya.elem] rfl rfl HTH2.out HSZ.out (by simp [Value.oneCell']) ?_; change wpList _ _ _ _ _ (w3.setCells b (k * 5) (vcells ya (.slice p2 na d2))); generalize w3.setCells b (k * 5) (vcells ya (.slice p2 na d2)) = w4 at *)
        go_roundw
        case rel => exact ⟨k + 1, _, _, _, by omega, by go_num, HP4.out.1, HP4.out.2⟩
        case measure => simp [intOf]; omega
      · go_wp2_with fail
        go_roundw
        case rel => exact ⟨k + 1, _, _, _, by omega, by go_num, HR2.out.1.next (by rw [HN.out.1]; omega), HR2.out.2⟩
        case measure => simp [intOf]; omega
    · have hkN2 : k = N + 3 := by omega
      subst hkN2
      obtain ⟨F, hF⟩ := PLent.done (a := a) (wr := wr) (b := b) (B := b) (by rw [HN.out.1]; exact HR.out.1) HV.out.wf
      rw [HN.out.1] at hF
      have HF := Lib.hid hF
      clear hF hpl hbw
      go_wp2_with fail
      go_ret
      exact ⟨_, F, rfl, by rw [H0.out.2.2]; exact HF.out, by rw [H0.out.2.2]; exact HR.out.2⟩

set_option maxRecDepth 20000 in
set_option maxHeartbeats 4000000 in
theorem lent_on : ∀ a : V, lentOn a := by
  refine V.ind (fun a ih w s h hwt => ?_)
  have hcs := lents_any a ih
  obtain ⟨p, c, hs, h1, h2, h3⟩ := h.slice
  obtain ⟨N, hN⟩ : ∃ N, a.list.length = N := ⟨_, rfl⟩
  rw [hN] at hs
  subst hs
  have hwl : wts a.list ≤ 1000000 := by have := a.wt_eq; omega
  have HCS := Lib.hid hcs
  have HV := Lib.hid (And.intro h hwl)
  have HN := Lib.hid hN
  clear ih hcs h hwl hwt h1 h2 h3 hN
  go_enter Tryd.func14, Tryd.ntmps14
  go_upto_region 1 with fail
  have hb0 : Below w.heap.size w ((w.alloc (.cells #[.int .i64 a.kind, .int .u64 a.num, .string a.text, (.slice p N c), .int .i64 a.elem] 25)).alloc (.cells #[.int .i64 0, .int .u64 0, .string ⟨#[]⟩, .slice none 0 0, .int .i64 0] 25)) := ((Below.refl _ _).alloc (Nat.le_refl _) _).alloc (by simp) _
  have ox : ((w.alloc (.cells #[.int .i64 a.kind, .int .u64 a.num, .string a.text, (.slice p N c), .int .i64 a.elem] 25)).alloc (.cells #[.int .i64 0, .int .u64 0, .string ⟨#[]⟩, .slice none 0 0, .int .i64 0] 25)).heap[w.heap.size]? = some (.cells #[.int .i64 a.kind, .int .u64 a.num, .string a.text, (.slice p N c), .int .i64 a.elem] 25 (0, 0)) := (_root_.Go.heap_alloc_old _ _ (by simp)).trans (_root_.Go.heap_alloc_new _ _)
  have oy : ((w.alloc (.cells #[.int .i64 a.kind, .int .u64 a.num, .string a.text, (.slice p N c), .int .i64 a.elem] 25)).alloc (.cells #[.int .i64 0, .int .u64 0, .string ⟨#[]⟩, .slice none 0 0, .int .i64 0] 25)).heap[w.heap.size + 1]? = some (.cells #[.int .i64 0, .int .u64 0, .string ⟨#[]⟩, .slice none 0 0, .int .i64 0] 25 (0, 0)) := by have := _root_.Go.heap_alloc_new (w.alloc (.cells #[.int .i64 a.kind, .int .u64 a.num, .string a.text, (.slice p N c), .int .i64 a.elem] 25)) (.cells #[.int .i64 0, .int .u64 0, .string ⟨#[]⟩, .slice none 0 0, .int .i64 0] 25); rwa [World.size_alloc] at this
  generalize ((w.alloc (.cells #[.int .i64 a.kind, .int .u64 a.num, .string a.text, (.slice p N c), .int .i64 a.elem] 25)).alloc (.cells #[.int .i64 0, .int .u64 0, .string ⟨#[]⟩, .slice none 0 0, .int .i64 0] 25)) = w0 at *
  obtain ⟨x, hx⟩ : ∃ x, w.heap.size = x := ⟨_, rfl⟩
  rw [hx] at ox oy ⊢
  obtain ⟨y, hy⟩ : ∃ y, x + 1 = y := ⟨_, rfl⟩
  rw [hy] at oy ⊢
  have hxy : x ≠ y := by omega
  have hyx : y ≠ x := by omega
  have HX := Lib.hid (And.intro hx (And.intro (show w.heap.size ≤ y by omega) (And.intro hxy hyx)))
  have HB0 := Lib.hid hb0
  have HOX := Lib.hid (And.intro ox oy)
  have x3 : w0.cell? ⟨x, 3, none⟩ = some (.slice p N c) := (cell_of_row _ _ 3 _ _ _ ox).trans rfl
  have hc := HCS.out w0 _ (HV.out.1.blw hb0) HV.out.2
  have HC := Lib.hid hc
  clear hb0 ox oy hx hy hc
  go_wp2_with fail
  refine HC.out.mono ?_
  clear x3
  rintro e w1 ⟨t, F, rfl, hvo, hb1⟩
  obtain ⟨gt, hst, hgF, _⟩ := hvo.slice
  rw [HN.out] at hst
  obtain ⟨pt, hpt⟩ : ∃ pt, some (⟨gt, 0, none⟩ : Addr) = pt := ⟨_, rfl⟩
  obtain ⟨ct, hct⟩ : ∃ ct, N + 3 = ct := ⟨_, rfl⟩
  rw [hpt, hct] at hst
  subst hst
  have ox1 := (hb1.block x (Array.getElem?_eq_some_iff.1 HOX.out.1).1).trans HOX.out.1
  have oy1 := (hb1.block y (Array.getElem?_eq_some_iff.1 HOX.out.2).1).trans HOX.out.2
  have x3 : w1.cell? ⟨x, 3, none⟩ = some (.slice p N c) := (cell_of_row _ _ 3 _ _ _ ox1).trans rfl
  have fx : w1.frozen? ⟨x, 3, none⟩ = false := by simp [World.frozen?, ox1]
  have hxs := (Array.getElem?_eq_some_iff.1 HOX.out.1).1
  have ox2 : (w1.setCell ⟨x, 3, none⟩ (.slice pt N ct)).heap[x]? = some (.cells #[.int .i64 a.kind, .int .u64 a.num, .string a.text, (.slice pt N ct), .int .i64 a.elem] 25 (0, 0)) := heap_setCell_same w1 x 3 _ _ (.slice pt N ct) ox1
  have oy2 : (w1.setCell ⟨x, 3, none⟩ (.slice pt N ct)).heap[y]? = some (.cells #[.int .i64 0, .int .u64 0, .string ⟨#[]⟩, .slice none 0 0, .int .i64 0] 25 (0, 0)) := (set_farV HX.out.2.2.2).trans oy1
  have hvo2 := (hvo.mono HB0.out.size).keep (w' := w1.setCell ⟨x, 3, none⟩ (.slice pt N ct)) (fun b hb => set_farV (fun e => by have := (hvo.lt b hb).1; omega))
  have hbl := (HB0.out.trans (hb1.mono HB0.out.size)).setCell (p := ⟨x, 3, none⟩) (show w.heap.size ≤ x by have := HX.out.1; omega) (.slice pt N ct)
  have HYF := Lib.hid (show ∀ b, F b → b ≠ y from fun b hb e => by have h1 := (hvo.lt b hb).1; have h2 := (Array.getElem?_eq_some_iff.1 HOX.out.2).1; omega)
  clear hvo hb1 ox1 oy1 hxs
  go_upto_region 2 with fail
  generalize w1.setCell ⟨x, 3, none⟩ (.slice pt N ct) = w2 at *
  have HVO := Lib.hid (And.intro hvo2 hbl)
  have HOY := Lib.hid oy2
  have x0 : w2.cell? ⟨x, 0, none⟩ = some (.int .i64 a.kind) := (cell_of_row _ _ 0 _ _ _ ox2).trans rfl
  have x1 : w2.cell? ⟨x, 1, none⟩ = some (.int .u64 a.num) := (cell_of_row _ _ 1 _ _ _ ox2).trans rfl
  have x2 : w2.cell? ⟨x, 2, none⟩ = some (.string a.text) := (cell_of_row _ _ 2 _ _ _ ox2).trans rfl
  have x3 : w2.cell? ⟨x, 3, none⟩ = some (.slice pt N ct) := (cell_of_row _ _ 3 _ _ _ ox2).trans rfl
  have x4 : w2.cell? ⟨x, 4, none⟩ = some (.int .i64 a.elem) := (cell_of_row _ _ 4 _ _ _ ox2).trans rfl
  clear hvo2 hbl ox2 fx
  go_wp2_with (refine wpList_store_rowTo rfl 25 (.tmp 2) (.tmp 7) rfl rfl y #[.int .i64 a.kind, .int .u64 a.num, .string a.text, (.slice pt N ct), .int .i64 a.elem] rfl rfl 25 #[.int .i64 0, .int .u64 0, .string ⟨#[]⟩, .slice none 0 0, .int .i64 0] oy2 (by as_aux_lemma => kernel_rfl) (by as_aux_lemma => kernel_rfl) (by simp [Value.oneCell']) ?_)
  have hh := setRow_heap w2 y _ #[.int .i64 a.kind, .int .u64 a.num, .string a.text, (.slice pt N ct), .int .i64 a.elem] _ _ HOY.out
  have hB := below_setRow HVO.out.2 HX.out.2.1 #[.int .i64 a.kind, .int .u64 a.num, .string a.text, (.slice pt N ct), .int .i64 a.elem]
  have hvo3 := HVO.out.1.keep (w' := w2.setRow y #[.int .i64 a.kind, .int .u64 a.num, .string a.text, (.slice pt N ct), .int .i64 a.elem]) (fun b hb => setRow_other w2 y b _ (fun e => HYF.out b hb e))
  refine bodyPost_ret (results_cell_row (p := 2) (ty := 25) (by kernel_rfl) _ _ y 25 #[.int .i64 a.kind, .int .u64 a.num, .string a.text, (.slice pt N ct), .int .i64 a.elem] (0, 0) _ rfl hh Tryd.underlying25 rfl (by as_aux_lemma => kernel_rfl)) rfl ?_
  exact ⟨_, F, rfl, hvo3, hB⟩

end Go.Proofs.YtakbgekamjpibaaDoor
