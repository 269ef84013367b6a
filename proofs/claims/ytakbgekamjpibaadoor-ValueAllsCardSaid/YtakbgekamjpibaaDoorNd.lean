/-
  A lent list is written over by another one of the same shape. Conditions: the lent one is one's own; the other one lies apart and is no greater than a million.
-/
import Derived.Test.YtakbgekamjpibaaDoorNa
namespace Go.Proofs.YtakbgekamjpibaaDoor
open Go.RowKit
set_option linter.unusedVariables false

attribute [local go_sem] Oper.semAt_some

/-- the elements' cells while a lent list is written over -/
structure OvI (v tt : V) (hl : tt.list.length = v.list.length) (wr : World) (B b k : Nat) (c : Nat → List Value) (ss : Nat → Value) (Fs : Nat → Nat → Prop) : Prop where
  hc : ∀ i, (c i).length = 5
  hrow : RowF wr B b (v.list.length + 3) c
  h1 : ∀ i (h : i < v.list.length), c i = vcells (if i < k then tt.list[i] else v.list[i]) (ss i)
  h2 : ∀ i, v.list.length ≤ i → i < v.list.length + 3 → c i = vcells (mkV i) nilS
  hin : ∀ i (h : i < v.list.length), VL wr B (if i < k then tt.list[i] else v.list[i]) (ss i) (Fs i)
/-- one more is written over -/
theorem OvI.next {v tt : V} {hl : tt.list.length = v.list.length} {wr w2 : World} {B b k : Nat} {c : Nat → List Value} {ss : Nat → Value} {Fs : Nat → Nat → Prop} (h : OvI v tt hl wr B b k c ss Fs) (hk : k < v.list.length)
    (hd : ∀ i j, i < v.list.length → j < v.list.length → i ≠ j → ∀ g, Fs i g → ¬ Fs j g) (hs : ∀ i, i < v.list.length → ¬ Fs i b) (hkf : KeepF (Fs k) wr w2) (hx : VL w2 B (tt.list[k]'(hl ▸ hk)) (ss k) (Fs k)) :
    OvI v tt hl (w2.setCells b (k * 5) (vcells (tt.list[k]'(hl ▸ hk)) (ss k))) B b (k + 1) (updF c k (vcells (tt.list[k]'(hl ▸ hk)) (ss k))) ss Fs := by
  have g := setCells_grown w2 b (k * 5) (vcells (tt.list[k]'(hl ▸ hk)) (ss k))
  have hrow2 : RowF w2 B b (v.list.length + 3) c := h.hrow.keep (hkf.block b h.hrow.lt.2 (hs k hk))
  have key : ∀ i (hi : i < v.list.length) (x : V), VL w2 B x (ss i) (Fs i) → VL (w2.setCells b (k * 5) (vcells (tt.list[k]'(hl ▸ hk)) (ss k))) B x (ss i) (Fs i) := fun i hi x hv =>
    hv.keep (fun q hq => g.block q (hv.lt q hq).2 (fun e => hs i hi (by rw [← Option.some.inj e]; exact hq)))
  refine ⟨updF_len h.hc rfl, hrow2.set h.hc (by omega) rfl, fun i hi => ?_, fun i q1 q2 => by rw [updF_other (by omega)]; exact h.h2 i q1 q2, fun i hi => ?_⟩
  · by_cases e : i = k
    · subst e; rw [updF_same, if_pos (by omega)]
    · rw [updF_other e, h.h1 i hi]
      by_cases e2 : i < k
      · rw [if_pos e2, if_pos (by omega)]
      · rw [if_neg e2, if_neg (by omega)]
  · by_cases e : i = k
    · subst e
      rw [if_pos (by omega)]
      exact key i hi _ hx
    · have hv := (h.hin i hi).keepF hkf (hd i k hi hk e)
      by_cases e2 : i < k
      · rw [if_pos e2] at hv
        rw [if_pos (by omega)]
        exact key i hi _ hv
      · rw [if_neg e2] at hv
        rw [if_neg (by omega)]
        exact key i hi _ hv

def overOn (v : V) : Prop := ∀ (w wv : World) (B : Nat) (s u : Value) (F : Nat → Prop) (tt : V), VL w B v s F → VIn wv tt u → tt.list = v.list.map V.turned → (∀ W, KeepF F w W → Rd wv W) → v.wt ≤ 1000000 →
    Calls Tryd.prog 18 #[s, u] w fun e w' => e = .returned (.tuple #[]) ∧ VL w' B (v.with tt.list) s F ∧ KeepF F w w'

set_option maxRecDepth 20000 in
set_option maxHeartbeats 4000000 in
theorem over_on : ∀ v : V, overOn v := by
  refine V.ind (fun v ih w wv B s u F tt h ht hmap hrd hwt => ?_)
  have hl : tt.list.length = v.list.length := by rw [hmap, List.length_map]
  obtain ⟨q, d, hu, k1, k2, k3⟩ := ht.slice
  obtain ⟨_, b, _, c0, ss, Fs, wf, hc0, hrow0, h10, h20, hin0, hd, hs, hF⟩ := h
  obtain ⟨N, hN⟩ : ∃ N, v.list.length = N := ⟨_, rfl⟩
  have hNw := len_le_wts v.list
  have hwl : wts v.list ≤ 1000000 := by have := v.wt_eq; omega
  have hI0 : OvI v tt hl w B b 0 c0 ss Fs := ⟨hc0, hrow0, fun i hi => by rw [if_neg (by omega)]; exact h10 i hi, h20, fun i hi => by rw [if_neg (by omega)]; exact hin0 i hi⟩
  have HSZ := Lib.hid (show (Tryd.prog.info? 25).map (·.size) = some 5 by obtain ⟨i0, hi, hz0, hz1, hz2⟩ := info_partsV info_val; rw [hi]; simp [hz1])
  rw [hl, hN] at hu k1 k3
  rw [hN] at hNw
  subst hu
  unfold maxLen at k2
  have hNb : N ≤ 1000000 := by omega
  have HI := Lib.hid ih
  have HN := Lib.hid (And.intro hN (And.intro hwl hmap))
  have HV := Lib.hid ht
  have HD := Lib.hid (And.intro hd (And.intro hs hF))
  have HRD := Lib.hid hrd
  have H0 := Lib.hid (And.intro hI0 wf)
  rw [hN]
  have hblt := hrow0.lt
  clear ih ht hmap hrd hwt hwl hNw hd hs hF hI0 hin0 h10 h20 hc0 hrow0 wf hN
  go_enter Tryd.func18, Tryd.ntmps18
  go_wp2_with fail
  go_loopw [4] (fun v4 wr => ∃ (k : Nat) (c : Nat → List Value), k ≤ N ∧ v4 = .int .i64 k ∧ OvI v tt hl wr B b k c ss Fs ∧ KeepF F w wr) (fun v4 _ => N - (intOf v4).toNat)
  case atStart => exact ⟨0, _, Nat.zero_le _, rfl, H0.out.1, KeepF.refl _ _⟩
  case round =>
    obtain ⟨k, c, hk', rfl, hov, hkf⟩ := hrel
    have HR := Lib.hid (And.intro hov hkf)
    by_cases hkN : (k : Int) < N
    · have ka : k < v.list.length := by rw [HN.out.1]; omega
      have kt : k < tt.list.length := by rw [hl]; exact ka
      obtain ⟨b2, o2, rfl⟩ := k3 (by omega)
      obtain ⟨tk, htk, hik⟩ := HV.out.part rfl kt
      obtain ⟨pk, ck, hsk, hj0⟩ := hik.slice
      clear hj0
      subst hsk
      have hvk := hov.hin k ka
      rw [if_neg (Nat.lt_irrefl k)] at hvk
      have hck := hov.h1 k ka
      rw [if_neg (Nat.lt_irrefl k)] at hck
      have e3 : wr.cell? ⟨b, k * 5 + 3, none⟩ = some (ss k) := hov.hrow.cell hov.hc (by omega) (by rw [hck]; rfl)
      have hcells := part_cells (rangeAt_rd htk (HRD.out wr hkf))
      have hyl : tt.list[k].list = (v.list[k]).list.map V.turned := by
        have : tt.list[k] = (v.list[k]).turned := by simp only [HN.out.2.2, List.getElem_map]
        rw [this, turned_list]
      have hxw : (v.list[k]).wt ≤ 1000000 := by have := wts_mem (List.getElem_mem ka); have := HN.out.2.1; omega
      have hcall := HI.out _ (List.getElem_mem ka) wr wv B (ss k) _ (Fs k) tt.list[k] hvk hik hyl (fun W hW => HRD.out W (hkf.trans (hW.wide (fun j hj => (HD.out.2.2 j).2 (.inr ⟨k, ka, hj⟩))))) hxw
      have hywf := hik.wf
      obtain ⟨gk, hgk, hj1, hj2⟩ := hvk.slice
      obtain ⟨mk_, hmk⟩ : ∃ m, (v.list[k]).list.length = m := ⟨_, rfl⟩
      rw [hmk] at hgk
      obtain ⟨sk, hsk⟩ : ∃ sk, ss k = sk := ⟨_, rfl⟩
      have hsk2 := hsk.symm.trans hgk
      subst hsk2
      rw [hsk] at e3 hcall
      obtain ⟨yt, hyt⟩ : ∃ yt, tt.list[k] = yt := ⟨_, rfl⟩
      rw [hyt] at hcells hcall hyl hywf
      have hylen : yt.list.length = mk_ := by rw [hyl, List.length_map, hmk]
      have HML := Lib.hid hylen
      rw [hylen] at hcells hcall
      obtain ⟨d0, d1, d2, d3, d4⟩ := hcells
      have HC := Lib.hid hcall
      have HY := Lib.hid (And.intro hsk (And.intro hyt (And.intro hyl (And.intro hywf (And.intro ka htk)))))
      clear hcall hvk hck hyl hywf hyt hsk hylen htk hik hj1 hj2 hmk hxw hov hkf
      go_wp2_with fail
      refine HC.out.mono ?_
      clear e3 d0 d1 d2 d3 d4
      rintro e w1 ⟨rfl, hv1, hk1⟩
      have hkf1 := HR.out.2.trans (hk1.wide (fun j hj => (HD.out.2.2 j).2 (.inr ⟨k, HY.out.2.2.2.2.1, hj⟩)))
      have hcells := part_cells (rangeAt_rd HY.out.2.2.2.2.2 (HRD.out w1 hkf1))
      rw [HY.out.2.1] at hcells
      obtain ⟨d0, d1, d2, d3, d4⟩ := hcells
      rw [show yt.list.length = mk_ from HML.out] at d3
      have HK1 := Lib.hid (And.intro hv1 (And.intro hk1 hkf1))
      clear hv1 hk1 hkf1
      go_upto_region 6 with (refine wpList_store_rowTo rfl 25 (.tmp 6) (.tmp 34) rfl rfl w1.heap.size #[.int .i64 yt.kind, .int .u64 yt.num, .string yt.text, (.slice pk mk_ ck), .int .i64 yt.elem] rfl rfl 25 #[.int .i64 0, .int .u64 0, .string ⟨#[]⟩, .slice none 0 0, .int .i64 0] (_root_.Go.heap_alloc_new w1 _) (by as_aux_lemma => kernel_rfl) (by as_aux_lemma => kernel_rfl) (by simp [Value.oneCell']) ?_)
      have hb_w2 : Below w1.heap.size w1 ((w1.alloc (.cells #[.int .i64 0, .int .u64 0, .string ⟨#[]⟩, .slice none 0 0, .int .i64 0] 25)).setRow w1.heap.size #[.int .i64 yt.kind, .int .u64 yt.num, .string yt.text, (.slice pk mk_ ck), .int .i64 yt.elem]) := below_setRow ((Below.refl _ _).alloc (Nat.le_refl _) _) (Nat.le_refl _) _
      have of := setRow_heap (w1.alloc (.cells #[.int .i64 0, .int .u64 0, .string ⟨#[]⟩, .slice none 0 0, .int .i64 0] 25)) w1.heap.size _ #[.int .i64 yt.kind, .int .u64 yt.num, .string yt.text, (.slice pk mk_ ck), .int .i64 yt.elem] _ _ (_root_.Go.heap_alloc_new w1 _)
      change Code.wp _ _ _ _ ((w1.alloc (.cells #[.int .i64 0, .int .u64 0, .string ⟨#[]⟩, .slice none 0 0, .int .i64 0] 25)).setRow w1.heap.size #[.int .i64 yt.kind, .int .u64 yt.num, .string yt.text, (.slice pk mk_ ck), .int .i64 yt.elem])
      generalize ((w1.alloc (.cells #[.int .i64 0, .int .u64 0, .string ⟨#[]⟩, .slice none 0 0, .int .i64 0] 25)).setRow w1.heap.size #[.int .i64 yt.kind, .int .u64 yt.num, .string yt.text, (.slice pk mk_ ck), .int .i64 yt.elem]) = w2 at *
      obtain ⟨f, hx_f⟩ : ∃ x, w1.heap.size = x := ⟨_, rfl⟩
      rw [hx_f] at of ⊢
      have HXF := Lib.hid hx_f
      clear hx_f
      have f3 : w2.cell? ⟨f, 3, none⟩ = some (.slice pk mk_ ck) := (cell_of_row _ _ 3 _ _ _ of).trans rfl
      have ff : w2.frozen? ⟨f, 3, none⟩ = false := by simp [World.frozen?, of]
      have of2 : (w2.setCell ⟨f, 3, none⟩ (.slice (some ⟨gk, 0, none⟩) mk_ (mk_ + 3))).heap[f]? = some (.cells #[.int .i64 yt.kind, .int .u64 yt.num, .string yt.text, (.slice (some ⟨gk, 0, none⟩) mk_ (mk_ + 3)), .int .i64 yt.elem] 25 (0, 0)) := heap_setCell_same w2 f 3 _ _ (.slice (some ⟨gk, 0, none⟩) mk_ (mk_ + 3)) of
      have hb3 : Below w1.heap.size w1 (w2.setCell ⟨f, 3, none⟩ (.slice (some ⟨gk, 0, none⟩) mk_ (mk_ + 3))) := hb_w2.setCell (p := ⟨f, 3, none⟩) (show w1.heap.size ≤ f by have := HXF.out; omega) _
      clear d0 d1 d2 d3 d4 of hb_w2
      go_upto_region 7 with fail
      generalize w2.setCell ⟨f, 3, none⟩ (.slice (some ⟨gk, 0, none⟩) mk_ (mk_ + 3)) = w3 at *
      clear f3 ff
      have f0 : w3.cell? ⟨f, 0, none⟩ = some (.int .i64 yt.kind) := (cell_of_row _ _ 0 _ _ _ of2).trans rfl
      have f1 : w3.cell? ⟨f, 1, none⟩ = some (.int .u64 yt.num) := (cell_of_row _ _ 1 _ _ _ of2).trans rfl
      have f2 : w3.cell? ⟨f, 2, none⟩ = some (.string yt.text) := (cell_of_row _ _ 2 _ _ _ of2).trans rfl
      have f3 : w3.cell? ⟨f, 3, none⟩ = some (.slice (some ⟨gk, 0, none⟩) mk_ (mk_ + 3)) := (cell_of_row _ _ 3 _ _ _ of2).trans rfl
      have f4 : w3.cell? ⟨f, 4, none⟩ = some (.int .i64 yt.elem) := (cell_of_row _ _ 4 _ _ _ of2).trans rfl
      have hk3 : KeepF (Fs k) wr w3 := HK1.out.2.1.trans (KeepF.of_below hb3)
      have hrow3 : RowF w3 B b (v.list.length + 3) c := HR.out.1.hrow.keep (hk3.block b HR.out.1.hrow.lt.2 (HD.out.2.1 k HY.out.2.2.2.2.1))
      have HTH := Lib.hid (hrow3.there (show k < v.list.length + 3 by rw [HN.out.1]; omega))
      have hkt := HY.out.2.1
      have hnx := OvI.next HR.out.1 HY.out.2.2.2.2.1 HD.out.1 HD.out.2.1 hk3 (by rw [hkt, HY.out.1]; exact (VL.as (v' := yt) HK1.out.1 rfl HY.out.2.2.2.1).blw hb3)
      rw [hkt, HY.out.1] at hnx
      have hcs : vcells yt (.slice (some ⟨gk, 0, none⟩) mk_ (mk_ + 3)) = [.int .i64 yt.kind, .int .u64 yt.num, .string yt.text, (.slice (some ⟨gk, 0, none⟩) mk_ (mk_ + 3)), .int .i64 yt.elem] := rfl
      rw [hcs] at hnx
      have hkf4 : KeepF F w (w3.setCells b (k * 5) [.int .i64 yt.kind, .int .u64 yt.num, .string yt.text, (.slice (some ⟨gk, 0, none⟩) mk_ (mk_ + 3)), .int .i64 yt.elem]) := (HK1.out.2.2.trans (KeepF.of_below hb3)).setCells ((HD.out.2.2 b).2 (.inl rfl)) _ _
      have HNX := Lib.hid (And.intro hnx hkf4)
      have HF := Lib.hid of2
      clear hk3 hrow3 hkt hnx hcs hkf4 hb3 of2
      go_wp2_with (refine wpList_store_mid rfl 25 (.tmp 40) (.tmp 39) rfl b (k * 5) #[.int .i64 yt.kind, .int .u64 yt.num, .string yt.text, (.slice (some ⟨gk, 0, none⟩) mk_ (mk_ + 3)), .int .i64 yt.elem] rfl rfl HTH.out HSZ.out (by simp [Value.oneCell']) ?_; change wpList _ _ _ _ _ (w3.setCells b (k * 5) [.int .i64 yt.kind, .int .u64 yt.num, .string yt.text, (.slice (some ⟨gk, 0, none⟩) mk_ (mk_ + 3)), .int .i64 yt.elem]); generalize w3.setCells b (k * 5) [.int .i64 yt.kind, .int .u64 yt.num, .string yt.text, (.slice (some ⟨gk, 0, none⟩) mk_ (mk_ + 3)), .int .i64 yt.elem] = w4 at *)
      go_roundw
      case rel => exact ⟨k + 1, _, by omega, by go_num, HNX.out.1, HNX.out.2⟩
      case measure => simp [intOf]; omega
    · have hkN2 : k = N := by omega
      subst hkN2
      clear hov hkf
      go_wp2_with fail
      go_end0
      refine ⟨rfl, ?_, HR.out.2⟩
      have h := HR.out.1
      have hNk := HN.out.1
      rw [← hNk] at h ⊢
      have hwl : (v.with tt.list).list.length = v.list.length := hl
      have key : VL wr B (v.with tt.list) (.slice (some ⟨b, 0, none⟩) (v.with tt.list).list.length ((v.with tt.list).list.length + 3)) F := by
        refine .mk (v.with tt.list) b F c ss Fs (H0.out.2.with_ _) h.hc (by rw [hwl]; exact h.hrow) (fun i hi => ?_) (fun i q1 q2 => h.h2 i (hwl ▸ q1) (hwl ▸ q2)) (fun i hi => ?_) (fun i j hi hj => HD.out.1 i j (hwl ▸ hi) (hwl ▸ hj)) (fun i hi => HD.out.2.1 i (hwl ▸ hi)) (fun g => by rw [HD.out.2.2 g, hwl])
        · have hi2 : i < v.list.length := hwl ▸ hi
          have := h.h1 i hi2
          rw [if_pos hi2] at this
          exact this
        · have hi2 : i < v.list.length := hwl ▸ hi
          have := h.hin i hi2
          rw [if_pos hi2] at this
          exact this
      rw [hwl] at key
      exact key

end Go.Proofs.YtakbgekamjpibaaDoor
