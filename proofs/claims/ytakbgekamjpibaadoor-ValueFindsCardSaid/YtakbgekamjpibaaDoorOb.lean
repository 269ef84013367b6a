/-
  Lists are put into the book. Conditions: the value is one's own, apart from the book's, and is no greater than a million.
-/
import Derived.Test.YtakbgekamjpibaaDoorOa
namespace Go.Proofs.YtakbgekamjpibaaDoor
open Go.RowKit
set_option linter.unusedVariables false

attribute [local go_sem] Oper.semAt_some

theorem szs_append (l r : List V) : szs (l ++ r) = szs l + szs r := by
  induction l with
  | nil => simp [szs]
  | cons a t ih => simp only [List.cons_append, szs, ih]; omega
def BkTo (w : World) (B bp : Nat) (m : Nat) (Q : Nat → Prop) (e : Ending) (w' : World) : Prop :=
  e = .returned (.tuple #[]) ∧ (∃ vl' vs', BkIn w' B bp vl' vs' Q ∧ vs'.length ≤ m) ∧ BkMv w w' ∧ Below B w w'
def takeOn (v : V) : Prop := ∀ (w : World) (B bp : Nat) (vl : Value) (vs : List Value) (Q : Nat → Prop) (s : Value) (F : Nat → Prop), BkIn w B bp vl vs Q → VO w B v s F → (∀ g, F g → ¬ Q g) → vs.length + v.sz ≤ 40000000 → v.wt ≤ 1000000 →
    Calls Tryd.prog 30 #[.pointer (some ⟨bp, 0, none⟩), .agg #[.int .i64 v.kind, .int .u64 v.num, .string v.text, s, .int .i64 v.elem]] w (BkTo w B bp (vs.length + v.sz) (fun g => Q g ∨ F g))

set_option maxRecDepth 20000 in
set_option maxHeartbeats 4000000 in
theorem takes_any (v : V) (ih : ∀ x ∈ v.list, takeOn x) (w : World) (B bp : Nat) (vl : Value) (vs : List Value) (Q : Nat → Prop) (s : Value) (F : Nat → Prop) (h : BkIn w B bp vl vs Q) (hv : VO w B v s F) (hdis : ∀ g, F g → ¬ Q g) (hm : vs.length + 1 + szs v.list ≤ 40000000) (hwl : wts v.list ≤ 1000000) :
    Calls Tryd.prog 54 #[.pointer (some ⟨bp, 0, none⟩), s] w (BkTo w B bp (vs.length + 1 + szs v.list) (fun g => Q g ∨ F g)) := by
  obtain ⟨_, _, _, ss, Fs, wf, hrow, hin, hd, hs, hF⟩ := hv
  obtain ⟨p, c, rfl, h1, h2, h3⟩ := ownsRow_form hrow
  unfold maxLen at h2
  obtain ⟨N, hN⟩ : ∃ N, v.list.length = N := ⟨_, rfl⟩
  have hNw := len_le_wts v.list
  obtain ⟨M, hM⟩ : ∃ M, vs.length = M := ⟨_, rfl⟩
  obtain ⟨U, hU⟩ : ∃ U, szs v.list = U := ⟨_, rfl⟩
  rw [hM, hU] at hm ⊢
  rw [hN] at h1 h3 hNw
  have hNb : N ≤ 1000000 := by omega
  have HI := Lib.hid ih
  have HN := Lib.hid (And.intro hN (And.intro hM (And.intro hU hwl)))
  have HV := Lib.hid (And.intro hrow (And.intro hin (And.intro hd (And.intro hs hF))))
  have HD := Lib.hid (And.intro hdis h)
  rw [hN]
  clear ih hrow hin hd hs hF hdis h hN hM hU hNw wf hwl
  go_enter Tryd.func54, Tryd.ntmps54
  go_wp2_with fail
  go_loopw [4] (fun v4 wr => ∃ (k : Nat) (vl' : Value) (vs' : List Value), k ≤ N ∧ v4 = .int .i64 k ∧ BkIn wr B bp vl' vs' (fun g => Q g ∨ ∃ i, i < k ∧ i < v.list.length ∧ Fs i g) ∧ vs'.length ≤ M + szs (v.list.take k) ∧ BkMv w wr ∧ Below B w wr) (fun v4 _ => N - (intOf v4).toNat)
  case atStart => exact ⟨0, _, _, Nat.zero_le _, rfl, HD.out.2.wide (fun g h => .inl h), by rw [HN.out.2.1]; exact Nat.le_add_right _ _, BkMv.refl _, Below.refl _ _⟩
  case round =>
    obtain ⟨k, vl', vs', hk', rfl, hbk, hlen, hmv, hbb⟩ := hrel
    have HR := Lib.hid (And.intro hbk (And.intro hlen (And.intro hmv hbb)))
    clear hbk hlen hmv hbb
    by_cases hkN : (k : Int) < N
    · have ka : k < v.list.length := by rw [HN.out.1]; omega
      obtain ⟨b1, rfl, _⟩ := h3 (by omega)
      have hcell : ∀ j u, (vcells v.list[k] (ss k))[j]? = some u → wr.cell? ⟨b1, k * 5 + j, none⟩ = some u := fun j u hu => by
        have hr := HR.out.2.2.1.own HV.out.1
        rw [HN.out.1] at hr
        have hj : j < 5 := (List.getElem?_eq_some_iff.1 hu).1
        exact ownsRow_cell hr (by rw [vrow_get v.list ss k j ka hj]; exact hu)
      have hvk := HR.out.2.2.1.vo (HV.out.2.1 k ka)
      obtain ⟨pk, ck, hsk, hj1, hj2⟩ := hvk.slice
      clear hj1 hj2
      rw [hsk] at hcell hvk
      have hdk : ∀ g, Fs k g → ¬ (Q g ∨ ∃ i, i < k ∧ i < v.list.length ∧ Fs i g) := fun g hg q => by
        rcases q with q | ⟨i, i1, i2, q⟩
        · exact HD.out.1 g ((HV.out.2.2.2.2 g).2 (.inr ⟨k, ka, hg⟩)) q
        · exact HV.out.2.2.1 i k i2 ka (by omega) g q hg
      have htk : szs (v.list.take (k + 1)) = szs (v.list.take k) + (v.list[k]).sz := by
        rw [List.take_add_one, List.getElem?_eq_getElem ka, Option.toList_some]
        rw [szs_append, szs, szs, Nat.add_zero]
      have htl : szs (v.list.take (k + 1)) ≤ U := by rw [← HN.out.2.2.1]; have := szs_append (v.list.take (k + 1)) (v.list.drop (k + 1)); rw [List.take_append_drop] at this; omega
      have hxw : (v.list[k]).wt ≤ 1000000 := by have := wts_mem (List.getElem_mem ka); have := HN.out.2.2.2; omega
      have hcall := HI.out _ (List.getElem_mem ka) wr B bp vl' vs' _ _ (Fs k) HR.out.1 hvk hdk (by have := HR.out.2.1; omega) hxw
      obtain ⟨xa, hxa⟩ : ∃ xa, v.list[k] = xa := ⟨_, rfl⟩
      rw [hxa] at hcell hcall htk
      obtain ⟨m, hm2⟩ : ∃ m, xa.list.length = m := ⟨_, rfl⟩
      rw [hm2] at hcell hcall
      have c0 : wr.cell? ⟨b1, k * 5, none⟩ = some (.int .i64 xa.kind) := hcell 0 _ rfl
      have c1 : wr.cell? ⟨b1, k * 5 + 1, none⟩ = some (.int .u64 xa.num) := hcell 1 _ rfl
      have c2 : wr.cell? ⟨b1, k * 5 + 2, none⟩ = some (.string xa.text) := hcell 2 _ rfl
      have c3 : wr.cell? ⟨b1, k * 5 + 3, none⟩ = some (.slice pk m ck) := hcell 3 _ rfl
      have c4 : wr.cell? ⟨b1, k * 5 + 4, none⟩ = some (.int .i64 xa.elem) := hcell 4 _ rfl
      have HC := Lib.hid hcall
      have HK := Lib.hid (And.intro htk ka)
      clear hcall hcell hvk hsk hdk htk htl hxw hxa hm2 ka
      go_wp2_with fail
      refine HC.out.mono ?_
      clear c0 c1 c2 c3 c4
      rintro e w1 ⟨rfl, ⟨vl2, vs2, hb2, hl2⟩, hm2, hb3⟩
      have HF := Lib.hid (And.intro (hb2.wide (Q' := fun g => Q g ∨ ∃ i, i < k + 1 ∧ i < v.list.length ∧ Fs i g) (fun g q => by
        rcases q with (q | ⟨i, i1, i2, q⟩) | q
        · exact .inl q
        · exact .inr ⟨i, by omega, i2, q⟩
        · exact .inr ⟨k, by omega, HK.out.2, q⟩)) (And.intro (show vs2.length ≤ M + szs (v.list.take (k + 1)) by rw [HK.out.1]; have := HR.out.2.1; omega) (And.intro (HR.out.2.2.1.trans hm2) (HR.out.2.2.2.trans hb3))))
      clear hb2 hl2 hm2 hb3
      go_wp2_with fail
      go_roundw
      case rel => exact ⟨k + 1, _, _, by omega, by go_num, HF.out.1, HF.out.2.1, HF.out.2.2.1, HF.out.2.2.2⟩
      case measure => simp [intOf]; omega
    · have hkN2 : k = N := by omega
      have hlen : vs'.length ≤ M + U := by have := HR.out.2.1; rw [hkN2, List.take_of_length_le (by rw [HN.out.1]; exact Nat.le_refl _), HN.out.2.2.1] at this; exact this
      have hbk := HR.out.1
      have hrw := hbk.row
      have hle := hbk.le
      have hoff := hbk.offl
      obtain ⟨pl, cl, hvl⟩ := row_slice hrw
      subst hvl
      have x0 : wr.cell? ⟨bp, 0, none⟩ = some (.slice pl vs'.length cl) := (cell_of_row _ _ 0 _ _ _ hbk.at_).trans rfl
      have xf : wr.frozen? ⟨bp, 0, none⟩ = false := by simp [World.frozen?, hbk.at_]
      have hbpl := (Array.getElem?_eq_some_iff.1 hbk.at_).1
      clear hbk
      go_wp2_with (at_builtin; refine wpList_append_val rfl (.tmp 21) (.tmp 23) 40 rfl B 23 (.slice none 0 0) 24 Tryd.underlying40 info_listsV rfl _ _ _ (.slice p N c) rfl rfl rfl hrw (by unfold maxLen; omega) (by omega) hle ?_; intro vl2 w2 hr2 hg2 hbb2 hsn2; obtain ⟨pl2, cl2, hvl2⟩ := row_slice hr2; subst hvl2; have y1 : w2.cell? ⟨bp, 0, none⟩ = some (.slice pl vs'.length cl) := (World.cell?_of_block (hg2.block bp hbpl (fun e => hoff e.symm))).trans x0; have y2 : w2.frozen? ⟨bp, 0, none⟩ = false := (World.frozen?_of_block (hg2.block bp hbpl (fun e => hoff e.symm))).trans xf)
      go_end0
      have hown := HR.out.2.2.1.own HV.out.1
      rw [HN.out.1] at hown
      obtain ⟨q1, q2, q3⟩ := HR.out.1.push hown hNb (fun g hg q => by
        rcases q with q | ⟨i, i1, i2, q⟩
        · exact HD.out.1 g ((HV.out.2.2.2.2 g).2 (.inl (by rw [HN.out.1]; exact hg))) q
        · exact HV.out.2.2.2.1 g (by rw [HN.out.1]; exact hg) i i2 q) hr2 hg2 hsn2
      refine ⟨rfl, ⟨_, _, q1.wide (fun g q => ?_), by simp; omega⟩, HR.out.2.2.1.trans q2, HR.out.2.2.2.trans q3⟩
      rcases q with (q | ⟨i, i1, i2, q⟩) | q
      · exact .inl q
      · exact .inr ((HV.out.2.2.2.2 g).2 (.inr ⟨i, i2, q⟩))
      · exact .inr ((HV.out.2.2.2.2 g).2 (.inl (by rw [HN.out.1]; exact q)))

set_option maxRecDepth 20000 in
set_option maxHeartbeats 4000000 in
theorem take_on : ∀ v : V, takeOn v := by
  refine V.ind (fun v ih w B bp vl vs Q s F h hv hdis hm hwt => ?_)
  have hw := v.wt_eq
  have hz := v.sz_eq
  have hts := fun w0 (hb : Below w.heap.size w w0) => takes_any v ih w0 B bp vl vs Q s F (h.below hb) (hv.blw hb) hdis (by omega) (by omega)
  obtain ⟨p, c, hs, hj1, hj2⟩ := hv.slice
  obtain ⟨N, hN⟩ : ∃ N, v.list.length = N := ⟨_, rfl⟩
  rw [hN] at hs
  subst hs
  have HT := Lib.hid hts
  have HM := Lib.hid (And.intro (show vs.length + 1 + szs v.list ≤ vs.length + v.sz by omega) h.le)
  clear ih h hv hdis hm hwt hw hz hts hj1 hj2 hN
  go_enter Tryd.func30, Tryd.ntmps30
  go_upto_region 1 with fail
  have hb0 : Below w.heap.size w (w.alloc (.cells #[.int .i64 v.kind, .int .u64 v.num, .string v.text, (.slice p N c), .int .i64 v.elem] 25)) := ((Below.refl _ _).alloc (Nat.le_refl _) _)
  have ox : (w.alloc (.cells #[.int .i64 v.kind, .int .u64 v.num, .string v.text, (.slice p N c), .int .i64 v.elem] 25)).heap[w.heap.size]? = some (.cells #[.int .i64 v.kind, .int .u64 v.num, .string v.text, (.slice p N c), .int .i64 v.elem] 25 (0, 0)) := _root_.Go.heap_alloc_new _ _
  generalize (w.alloc (.cells #[.int .i64 v.kind, .int .u64 v.num, .string v.text, (.slice p N c), .int .i64 v.elem] 25)) = w0 at *
  obtain ⟨x, hx⟩ : ∃ x, w.heap.size = x := ⟨_, rfl⟩
  rw [hx] at ox ⊢
  have x3 : w0.cell? ⟨x, 3, none⟩ = some (.slice p N c) := (cell_of_row _ _ 3 _ _ _ ox).trans rfl
  have HC := Lib.hid (HT.out w0 hb0)
  have HB0 := Lib.hid hb0
  clear hb0 ox hx
  go_wp2_with fail
  refine HC.out.mono ?_
  clear x3
  rintro e w1 ⟨rfl, ⟨vl2, vs2, hb2, hl2⟩, hm2, hb3⟩
  have HF := Lib.hid (And.intro hb2 (And.intro (Nat.le_trans hl2 HM.out.1) (And.intro ((BkMv.of_below HB0.out).trans hm2) ((HB0.out.mono HM.out.2).trans hb3))))
  clear hb2 hl2 hm2 hb3
  go_wp2_with fail
  go_end0
  exact ⟨rfl, ⟨_, _, HF.out.1, HF.out.2.1⟩, HF.out.2.2.1, HF.out.2.2.2⟩

end Go.Proofs.YtakbgekamjpibaaDoor
