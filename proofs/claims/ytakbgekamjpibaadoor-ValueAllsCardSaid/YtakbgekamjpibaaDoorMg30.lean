/-
  Lists are put into the book. Conditions: the value is one's own, apart from the book's, and is no greater than a million.
  The book's lists are their owner's: each is marked, and grown. Conditions: the book lies in memory; each of its lists lies in a block of its own.
-/
import Derived.Test.YtakbgekamjpibaaDoorMg29
namespace Go.Proofs.YtakbgekamjpibaaDoor
open Go.RowKit
set_option linter.unusedVariables false

attribute [local go_sem] Oper.semAt_some

theorem szs_append (l r : List V) : szs (l ++ r) = szs l + szs r := by
  induction l with
  | nil => simp [szs]
  | cons a t ih => simp only [List.cons_append, szs, ih]; omega
def BkTo (w : World) (B bp : Nat) (m : Nat) (Q : Nat → Prop) (e : Ending) (w' : World) : Prop :=
  e = .returned (.tuple #[]) ∧ (∃ vl' vs', BkIn w' B bp vl' vs' Q ∧ vs'.length ≤ m) ∧ BkMv w w' ∧ Below B w w'
def takeOn (v : V) : Prop := ∀ (w : World) (B bp : Nat) (vl : Value) (vs : List Value) (Q : Nat → Prop) (s : Value) (F : Nat → Prop), BkIn w B bp vl vs Q → VO w B v s F → (∀ g, F g → ¬ Q g) → vs.length + v.sz ≤ 40000000 → v.wt ≤ 1000000 →
    Calls Tryd.prog 30 #[.pointer (some ⟨bp, 0, none⟩), .agg #[.int .i64 v.kind, .int .u64 v.num, .string v.text, s, .int .i64 v.elem]] w (BkTo w B bp (vs.length + v.sz) (fun g => Q g ∨ F g))

set_option maxRecDepth 20000 in
set_option maxHeartbeats 4000000 in
theorem takes_any (v : V) (ih : ∀ x ∈ v.list, takeOn x) (w : World) (B bp : Nat) (vl : Value) (vs : List Value) (Q : Nat → Prop) (s : Value) (F : Nat → Prop) (h : BkIn w B bp vl vs Q) (hv : VO w B v s F) (hdis : ∀ g, F g → ¬ Q g) (hm : vs.length + 1 + szs v.list ≤ 40000000) (hwl : wts v.list ≤ 1000000) :
    Calls Tryd.prog 54 #[.pointer (some ⟨bp, 0, none⟩), s] w (BkTo w B bp (vs.length + 1 + szs v.list) (fun g => Q g ∨ F g)) := by
  obtain ⟨_, _, _, ss, Fs, wf, hrow, hin, hd, hs, hF⟩ := hv
  obtain ⟨p, c, rfl, h1, h2, h3⟩ := ownsRow_form hrow
  unfold maxLen at h2
  obtain ⟨N, hN⟩ : ∃ N, v.list.length = N := ⟨_, rfl⟩
  have hNw := len_le_wts v.list
  obtain ⟨M, hM⟩ : ∃ M, vs.length = M := ⟨_, rfl⟩
  obtain ⟨U, hU⟩ : ∃ U, szs v.list = U := ⟨_, rfl⟩
  rw [hM, hU] at hm ⊢
  rw [hN] at h1 h3 hNw
  have hNb : N ≤ 1000000 := by omega
  have HI := Lib.hid ih
  have HN := Lib.hid (And.intro hN (And.intro hM (And.intro hU hwl)))
  have HV := Lib.hid (And.intro hrow (And.intro hin (And.intro hd (And.intro hs hF))))
  have HD := Lib.hid (And.intro hdis h)
  rw [hN]
  clear ih hrow hin hd hs hF hdis h hN hM hU hNw wf hwl
  go_enter Tryd.func54, Tryd.ntmps54
  go_wp2_with fail
  go_loopw [4] (fun v4 wr => ∃ (k : Nat) (vl' : Value) (vs' : List Value), k ≤ N ∧ v4 = .int .i64 k ∧ BkIn wr B bp vl' vs' (fun g => Q g ∨ ∃ i, i < k ∧ i < v.list.length ∧ Fs i g) ∧ vs'.length ≤ M + szs (v.list.take k) ∧ BkMv w wr ∧ Below B w wr) (fun v4 _ => N - (intOf v4).toNat)
  case atStart => exact ⟨0, _, _, Nat.zero_le _, rfl, HD.out.2.wide (fun g h => .inl h), by rw [HN.out.2.1]; exact Nat.le_add_right _ _, BkMv.refl _, Below.refl _ _⟩
  case round =>
    obtain ⟨k, vl', vs', hk', rfl, hbk, hlen, hmv, hbb⟩ := hrel
    have HR := Lib.hid (And.intro hbk (And.intro hlen (And.intro hmv hbb)))
    clear hbk hlen hmv hbb
    by_cases hkN : (k : Int) < N
    · have ka : k < v.list.length := by rw [HN.out.1]; omega
      obtain ⟨b1, rfl, _⟩ := h3 (by omega)
      have hcell : ∀ j u, (vcells v.list[k] (ss k))[j]? = some u → wr.cell? ⟨b1, k * 5 + j, none⟩ = some u := fun j u hu => by
        have hr := HR.out.2.2.1.own HV.out.1
        rw [HN.out.1] at hr
        have hj : j < 5 := (List.getElem?_eq_some_iff.1 hu).1
        exact ownsRow_cell hr (by rw [vrow_get v.list ss k j ka hj]; exact hu)
      have hvk := HR.out.2.2.1.vo (HV.out.2.1 k ka)
      obtain ⟨pk, ck, hsk, hj1, hj2⟩ := hvk.slice
      clear hj1 hj2
      rw [hsk] at hcell hvk
      have hdk : ∀ g, Fs k g → ¬ (Q g ∨ ∃ i, i < k ∧ i < v.list.length ∧ Fs i g) := fun g hg q => by
        rcases q with q | ⟨i, i1, i2, q⟩
        · exact HD.out.1 g ((HV.out.2.2.2.2 g).2 (.inr ⟨k, ka, hg⟩)) q
        · exact HV.out.2.2.1 i k i2 ka (by omega) g q hg
      have htk : szs (v.list.take (k + 1)) = szs (v.list.take k) + (v.list[k]).sz := by
        rw [List.take_add_one, List.getElem?_eq_getElem ka, Option.toList_some]
        rw [szs_append, szs, szs, Nat.add_zero]
      have htl : szs (v.list.take (k + 1)) ≤ U := by rw [← HN.out.2.2.1]; have := szs_append (v.list.take (k + 1)) (v.list.drop (k + 1)); rw [List.take_append_drop] at this; omega
      have hxw : (v.list[k]).wt ≤ 1000000 := by have := wts_mem (List.getElem_mem ka); have := HN.out.2.2.2; omega
      have hcall := HI.out _ (List.getElem_mem ka) wr B bp vl' vs' _ _ (Fs k) HR.out.1 hvk hdk (by have := HR.out.2.1; omega) hxw
      obtain ⟨xa, hxa⟩ : ∃ xa, v.list[k] = xa := ⟨_, rfl⟩
      rw [hxa] at hcell hcall htk
      obtain ⟨m, hm2⟩ : ∃ m, xa.list.length = m := ⟨_, rfl⟩
      rw [hm2] at hcell hcall
      have c0 : wr.cell? ⟨b1, k * 5, none⟩ = some (.int .i64 xa.kind) := hcell 0 _ rfl
      have c1 : wr.cell? ⟨b1, k * 5 + 1, none⟩ = some (.int .u64 xa.num) := hcell 1 _ rfl
      have c2 : wr.cell? ⟨b1, k * 5 + 2, none⟩ = some (.string xa.text) := hcell 2 _ rfl
      have c3 : wr.cell? ⟨b1, k * 5 + 3, none⟩ = some (.slice pk m ck) := hcell 3 _ rfl
      have c4 : wr.cell? ⟨b1, k * 5 + 4, none⟩ = some (.int .i64 xa.elem) := hcell 4 _ rfl
      have HC := Lib.hid hcall
      have HK := Lib.hid (And.intro htk ka)
      clear hcall hcell hvk hsk hdk htk htl hxw hxa hm2 ka
      go_wp2_with fail
      refine HC.out.mono ?_
      clear c0 c1 c2 c3 c4
      rintro e w1 ⟨rfl, ⟨vl2, vs2, hb2, hl2⟩, hm2, hb3⟩
      have HF := Lib.hid (And.intro (hb2.wide (Q' := fun g => Q g ∨ ∃ i, i < k + 1 ∧ i < v.list.length ∧ Fs i g) (fun g q => by
        rcases q with (q | ⟨i, i1, i2, q⟩) | q
        · exact .inl q
        · exact .inr ⟨i, by omega, i2, q⟩
        · exact .inr ⟨k, by omega, HK.out.2, q⟩)) (And.intro (show vs2.length ≤ M + szs (v.list.take (k + 1)) by rw [HK.out.1]; have := HR.out.2.1; omega) (And.intro (HR.out.2.2.1.trans hm2) (HR.out.2.2.2.trans hb3))))
      clear hb2 hl2 hm2 hb3
      go_wp2_with fail
      go_roundw
      case rel => exact ⟨k + 1, _, _, by omega, by go_num, HF.out.1, HF.out.2.1, HF.out.2.2.1, HF.out.2.2.2⟩
      case measure => simp [intOf]; omega
    · have hkN2 : k = N := by omega
      have hlen : vs'.length ≤ M + U := by have := HR.out.2.1; rw [hkN2, List.take_of_length_le (by rw [HN.out.1]; exact Nat.le_refl _), HN.out.2.2.1] at this; exact this
      have hbk := HR.out.1
      have hrw := hbk.row
      have hle := hbk.le
      have hoff := hbk.offl
      obtain ⟨pl, cl, hvl⟩ := row_slice hrw
      subst hvl
      have x0 : wr.cell? ⟨bp, 0, none⟩ = some (.slice pl vs'.length cl) := (cell_of_row _ _ 0 _ _ _ hbk.at_).trans rfl
      have xf : wr.frozen? ⟨bp, 0, none⟩ = false := by simp [World.frozen?, hbk.at_]
      have hbpl := (Array.getElem?_eq_some_iff.1 hbk.at_).1
      clear hbk
      go_wp2_with (at_builtin; refine wpList_append_val rfl (.tmp 21) (.tmp 23) 40 rfl B 23 (.slice none 0 0) 24 Tryd.underlying40 info_listsV rfl _ _ _ (.slice p N c) rfl rfl rfl hrw (by unfold maxLen; omega) (by omega) hle ?_; intro vl2 w2 hr2 hg2 hbb2 hsn2; obtain ⟨pl2, cl2, hvl2⟩ := row_slice hr2; subst hvl2; have y1 : w2.cell? ⟨bp, 0, none⟩ = some (.slice pl vs'.length cl) := (World.cell?_of_block (hg2.block bp hbpl (fun e => hoff e.symm))).trans x0; have y2 : w2.frozen? ⟨bp, 0, none⟩ = false := (World.frozen?_of_block (hg2.block bp hbpl (fun e => hoff e.symm))).trans xf)
      go_end0
      have hown := HR.out.2.2.1.own HV.out.1
      rw [HN.out.1] at hown
      obtain ⟨q1, q2, q3⟩ := HR.out.1.push hown hNb (fun g hg q => by
        rcases q with q | ⟨i, i1, i2, q⟩
        · exact HD.out.1 g ((HV.out.2.2.2.2 g).2 (.inl (by rw [HN.out.1]; exact hg))) q
        · exact HV.out.2.2.2.1 g (by rw [HN.out.1]; exact hg) i i2 q) hr2 hg2 hsn2
      refine ⟨rfl, ⟨_, _, q1.wide (fun g q => ?_), by simp; omega⟩, HR.out.2.2.1.trans q2, HR.out.2.2.2.trans q3⟩
      rcases q with (q | ⟨i, i1, i2, q⟩) | q
      · exact .inl q
      · exact .inr ((HV.out.2.2.2.2 g).2 (.inr ⟨i, i2, q⟩))
      · exact .inr ((HV.out.2.2.2.2 g).2 (.inl (by rw [HN.out.1]; exact q)))

set_option maxRecDepth 20000 in
set_option maxHeartbeats 4000000 in
theorem take_on : ∀ v : V, takeOn v := by
  refine V.ind (fun v ih w B bp vl vs Q s F h hv hdis hm hwt => ?_)
  have hw := v.wt_eq
  have hz := v.sz_eq
  have hts := fun w0 (hb : Below w.heap.size w w0) => takes_any v ih w0 B bp vl vs Q s F (h.below hb) (hv.blw hb) hdis (by omega) (by omega)
  obtain ⟨p, c, hs, hj1, hj2⟩ := hv.slice
  obtain ⟨N, hN⟩ : ∃ N, v.list.length = N := ⟨_, rfl⟩
  rw [hN] at hs
  subst hs
  have HT := Lib.hid hts
  have HM := Lib.hid (And.intro (show vs.length + 1 + szs v.list ≤ vs.length + v.sz by omega) h.le)
  clear ih h hv hdis hm hwt hw hz hts hj1 hj2 hN
  go_enter Tryd.func30, Tryd.ntmps30
  go_upto_region 1 with fail
  have hb0 : Below w.heap.size w (w.alloc (.cells #[.int .i64 v.kind, .int .u64 v.num, .string v.text, (.slice p N c), .int .i64 v.elem] 25)) := ((Below.refl _ _).alloc (Nat.le_refl _) _)
  have ox : (w.alloc (.cells #[.int .i64 v.kind, .int .u64 v.num, .string v.text, (.slice p N c), .int .i64 v.elem] 25)).heap[w.heap.size]? = some (.cells #[.int .i64 v.kind, .int .u64 v.num, .string v.text, (.slice p N c), .int .i64 v.elem] 25 (0, 0)) := _root_.Go.heap_alloc_new _ _
  generalize (w.alloc (.cells #[.int .i64 v.kind, .int .u64 v.num, .string v.text, (.slice p N c), .int .i64 v.elem] 25)) = w0 at *
  obtain ⟨x, hx⟩ : ∃ x, w.heap.size = x := ⟨_, rfl⟩
  rw [hx] at ox ⊢
  have x3 : w0.cell? ⟨x, 3, none⟩ = some (.slice p N c) := (cell_of_row _ _ 3 _ _ _ ox).trans rfl
  have HC := Lib.hid (HT.out w0 hb0)
  have HB0 := Lib.hid hb0
  clear hb0 ox hx
  go_wp2_with fail
  refine HC.out.mono ?_
  clear x3
  rintro e w1 ⟨rfl, ⟨vl2, vs2, hb2, hl2⟩, hm2, hb3⟩
  have HF := Lib.hid (And.intro hb2 (And.intro (Nat.le_trans hl2 HM.out.1) (And.intro ((BkMv.of_below HB0.out).trans hm2) ((HB0.out.mono HM.out.2).trans hb3))))
  clear hb2 hl2 hm2 hb3
  go_wp2_with fail
  go_end0
  exact ⟨rfl, ⟨_, _, HF.out.1, HF.out.2.1⟩, HF.out.2.2.1, HF.out.2.2.2⟩

end Go.Proofs.YtakbgekamjpibaaDoor

namespace Go.Proofs.YtakbgekamjpibaaDoor
open Go.RowKit
set_option linter.unusedVariables false

attribute [local go_sem] Oper.semAt_some

def mkR (i : Nat) : List Value := [.int .i64 (-1000 - i), .int .u64 i, .string ⟨#[]⟩, .slice none 0 0, .int .i64 0]
theorem mkR_len (i : Nat) : (mkR i).length = 5 := rfl
theorem val_ne : (25 : Nat) ≠ 23 := by decide

set_option maxRecDepth 20000 in
set_option maxHeartbeats 4000000 in
theorem mark_any (i : Nat) (w : World) (hi : i ≤ 500000000) : Calls Tryd.prog 55 #[.int .i64 i] w fun e w' => e = .returned (.agg #[.int .i64 (-1000 - i), .int .u64 i, .string ⟨#[]⟩, .slice none 0 0, .int .i64 0]) ∧ Below w.heap.size w w' := by
  go_enter Tryd.func55, Tryd.ntmps55
  go_upto_region 1 with fail
  have hb0 : Below w.heap.size w (w.alloc (.cells #[.int .i64 0, .int .u64 0, .string ⟨#[]⟩, .slice none 0 0, .int .i64 0] 25)) := ((Below.refl _ _).alloc (Nat.le_refl _) _)
  have ox : (w.alloc (.cells #[.int .i64 0, .int .u64 0, .string ⟨#[]⟩, .slice none 0 0, .int .i64 0] 25)).heap[w.heap.size]? = some (.cells #[.int .i64 0, .int .u64 0, .string ⟨#[]⟩, .slice none 0 0, .int .i64 0] 25 (0, 0)) := _root_.Go.heap_alloc_new _ _
  generalize (w.alloc (.cells #[.int .i64 0, .int .u64 0, .string ⟨#[]⟩, .slice none 0 0, .int .i64 0] 25)) = w0 at *
  obtain ⟨x, hx⟩ : ∃ x, w.heap.size = x := ⟨_, rfl⟩
  rw [hx] at ox ⊢
  have HX := Lib.hid (And.intro hb0 (And.intro ox hx))
  clear hb0 hx
  go_wp2_with (refine wpList_store_rowTo rfl 25 (.tmp 2) (.tmp 7) rfl rfl x #[.int .i64 (-1000 - i), .int .u64 i, .string ⟨#[]⟩, .slice none 0 0, .int .i64 0] rfl rfl 25 #[.int .i64 0, .int .u64 0, .string ⟨#[]⟩, .slice none 0 0, .int .i64 0] ox (by as_aux_lemma => kernel_rfl) (by as_aux_lemma => kernel_rfl) (by simp [Value.oneCell']) ?_)
  have hh := setRow_heap w0 x _ #[.int .i64 (-1000 - i), .int .u64 i, .string ⟨#[]⟩, .slice none 0 0, .int .i64 0] _ _ HX.out.2.1
  have hB := below_setRow HX.out.1 (show w.heap.size ≤ x by have := HX.out.2.2; omega) #[.int .i64 (-1000 - i), .int .u64 i, .string ⟨#[]⟩, .slice none 0 0, .int .i64 0]
  refine bodyPost_ret (results_cell_row (p := 2) (ty := 25) (by kernel_rfl) _ _ x 25 #[.int .i64 (-1000 - i), .int .u64 i, .string ⟨#[]⟩, .slice none 0 0, .int .i64 0] (0, 0) _ rfl hh Tryd.underlying25 rfl (by as_aux_lemma => kernel_rfl)) rfl ?_
  exact ⟨rfl, hB⟩

set_option maxRecDepth 20000 in
set_option maxHeartbeats 4000000 in
theorem marked_any (i n : Nat) (w : World) (B : Nat) (u : Value) (hi : i ≤ 500000000) (h : w.ownsRow B 25 5 u n (mkRow (mkR i) n)) : Calls Tryd.prog 56 #[u, .int .i64 i] w fun e w' => e = .returned (.bool true) ∧ w = w' := by
  obtain ⟨p, c, rfl, h1, h2, h3⟩ := ownsRow_form h
  unfold maxLen at h2
  have H := Lib.hid h
  clear h
  go_enter Tryd.func56, Tryd.ntmps56
  go_wp2_with fail
  go_loopw [5] (fun v5 wq => ∃ s : Nat, s ≤ n ∧ v5 = .int .i64 s ∧ wq = w) (fun v5 _ => n - (intOf v5).toNat)
  case atStart => exact ⟨0, Nat.zero_le _, rfl, rfl⟩
  case round =>
    obtain ⟨s, hs, rfl, rfl⟩ := hrel
    by_cases hsm : (s : Int) < n
    · obtain ⟨gu, rfl, _⟩ := h3 (by omega)
      have hcell : ∀ j v, (mkR i)[j]? = some v → wr.cell? ⟨gu, s * 5 + j, none⟩ = some v := fun j v hv => ownsRow_cell H.out (by rw [mkRow_get (mkR_len _) _ _ _ (by omega) (by have := (List.getElem?_eq_some_iff.1 hv).1; rw [mkR_len] at this; exact this)]; exact hv)
      have c0 : wr.cell? ⟨gu, s * 5, none⟩ = some (.int .i64 (-1000 - i)) := hcell 0 _ rfl
      have c1 : wr.cell? ⟨gu, s * 5 + 1, none⟩ = some (.int .u64 i) := hcell 1 _ rfl
      clear hcell
      go_wp2_with fail
      go_roundw
      case rel => exact ⟨s + 1, by omega, by go_num, by first | rfl | trivial⟩
      case measure => simp [intOf]; omega
    · obtain rfl : s = n := by omega
      go_wp2_with fail
      go_ret
      exact ⟨rfl, rfl⟩

theorem BkIn.only {w w' : World} {B bp : Nat} {vl : Value} {vs : List Value} {Q : Nat → Prop} (h : BkIn w B bp vl vs Q) (ho : OnlyG vs w w') : w'.heap[bp]? = some (.cells #[vl] 42 (0, 0)) ∧ w'.ownsRow B 23 1 vl vs.length vs := by
  have hv : ∀ v ∈ vs, ∃ (B' n : Nat) (xs : List Value), w.ownsRow B' 25 5 v n xs := fun v hv => by
    obtain ⟨j, hj, rfl⟩ := mem_getD default hv
    obtain ⟨n, xs, h1, _⟩ := h.has j hj
    exact ⟨_, _, _, h1⟩
  refine ⟨?_, ?_⟩
  · rw [ho.block bp (Array.getElem?_eq_some_iff.1 h.at_).1 (fun v hv' => by obtain ⟨B', n, xs, hr⟩ := hv v hv'; exact ownsRow_off hr h.at_ (by decide))]
    exact h.at_
  · exact ho.keep h.row (fun v hv' => by
      obtain ⟨B', n, xs, hr⟩ := hv v hv'
      rcases ownsRow_apart hr h.row val_ne with q | q
      · exact .inl q
      · exact .inr (fun e => q e.symm))

set_option maxRecDepth 20000 in
set_option maxHeartbeats 8000000 in
theorem owned_any (w : World) (B bp : Nat) (vl : Value) (vs : List Value) (Q : Nat → Prop) (h : BkIn w B bp vl vs Q) (hlen : vs.length ≤ 40000000) :
    Calls Tryd.prog 31 #[.pointer (some ⟨bp, 0, none⟩)] w fun e w' => e = .returned (.bool true) ∧ OnlyG vs w w' := by
  obtain ⟨nn, hnn⟩ := choose_ltV (0 : Nat) (n := vs.length) (p := fun j n => ∃ xs, w.ownsRow B 25 5 (vs.getD j default) n xs ∧ n ≤ 1000000) (fun j hj => by obtain ⟨n, xs, h1, h2⟩ := h.has j hj; exact ⟨n, xs, h1, h2⟩)
  have hnl : ∀ j, j < vs.length → nn j ≤ 1000000 := fun j hj => by obtain ⟨xs, h1, h2⟩ := hnn j hj; exact h2
  have hlt : ∀ j, j < vs.length → ∀ g, (vs.getD j default).ownBlock = some g → g < w.heap.size := fun j hj g hg => by obtain ⟨xs, h1, h2⟩ := hnn j hj; exact (h1.lt g hg).2
  have hf0 : FillG 25 5 mkR w B vs nn 0 0 := fun j hj => by
    obtain ⟨xs, h1, h2⟩ := hnn j hj
    exact ⟨_, h1, fun m c _ _ hc => by omega⟩
  obtain ⟨n, hn⟩ : ∃ n, vs.length = n := ⟨_, rfl⟩
  obtain ⟨pl, cl, hvl, i1, i2, i3⟩ := ownsRow_form h.row
  unfold maxLen at i2
  rw [hn] at hvl i1 i3 hlen
  have hcw : ∀ wr, OnlyG vs w wr → wr.cell? ⟨bp, 0, none⟩ = some (.slice pl n cl) ∧ (∀ g, pl = some ⟨g, 0, none⟩ → ∀ j, j < n → wr.cell? ⟨g, j, none⟩ = some (vs.getD j default)) := fun wr ho => by
    obtain ⟨h1, h2⟩ := h.only ho
    refine ⟨by rw [← hvl]; exact (cell_of_row _ _ 0 _ _ _ h1).trans rfl, fun g hg j hj => ?_⟩
    rw [hvl, hg, hn] at h2
    refine ownsRow_cell h2 ?_
    rw [List.getD_eq_getElem?_getD, List.getElem?_eq_getElem (by rw [hn]; exact hj)]
    rfl
  have hdist := h.dist
  have hBw := h.le
  have hvm : ∀ j, j < n → vs.getD j default ∈ vs := fun j hj => getD_mem (by rw [hn]; exact hj)
  have HC := Lib.hid hcw
  have HF := Lib.hid hf0
  have HLT := Lib.hid hlt
  have HN := Lib.hid (And.intro hn hnl)
  have HVM := Lib.hid hvm
  obtain ⟨k0, hi, hz0, hz1, hz2⟩ := info_partsV info_val
  have HS5 := Lib.hid (show (Tryd.prog.info? 25).map (·.size) = some 5 by rw [hi]; simp [hz1])
  clear h hnn hnl hlt hf0 hn hvl hcw hvm
  go_enter Tryd.func31, Tryd.ntmps31
  go_wp2_with fail
  go_loopw [3] (fun v3 wr => ∃ i : Nat, i ≤ n ∧ v3 = .int .i64 i ∧ OnlyG vs w wr ∧ FillG 25 5 mkR wr B vs nn i 0) (fun v3 _ => n - (intOf v3).toNat)
  case atStart => exact ⟨0, Nat.zero_le _, rfl, OnlyG.refl _ _, HF.out⟩
  case round =>
    obtain ⟨i, hi', rfl, hO, hF⟩ := hrel
    obtain ⟨c1, c3⟩ := HC.out _ hO
    by_cases hin : (i : Int) < n
    · have hin' : i < n := by omega
      obtain ⟨g, rfl, _⟩ := i3 (by omega)
      have d3 := c3 g rfl i hin'
      obtain ⟨l, hl, _⟩ := hF i (by rw [HN.out.1]; exact hin')
      obtain ⟨p, c, hpc, q1, q2, q3⟩ := ownsRow_form hl
      unfold maxLen at q2
      obtain ⟨m, hm⟩ : ∃ m, nn i = m := ⟨_, rfl⟩
      have hml : m ≤ 1000000 := by rw [← hm]; exact HN.out.2 i (by rw [HN.out.1]; exact hin')
      rw [hm] at hpc q1 q3
      rw [hpc] at d3
      have HP := Lib.hid (And.intro hpc hm)
      have hF' := Lib.hid hF
      have hO' := Lib.hid hO
      clear c3 hl hpc hm hF hO
      go_wp2_with fail
      go_loopw [5] (fun v5 wq => ∃ k : Nat, k ≤ m ∧ v5 = .int .i64 k ∧ OnlyG vs w wq ∧ FillG 25 5 mkR wq B vs nn i k) (fun v5 _ => m - (intOf v5).toNat)
      case atStart => exact ⟨0, Nat.zero_le _, rfl, hO'.out, hF'.out⟩
      case round =>
        obtain ⟨k, hk, rfl, hO2, hF2⟩ := hrel
        by_cases hkm : (k : Int) < m
        · have hkm' : k < m := by omega
          obtain ⟨g', rfl, _⟩ := q3 (by omega)
          have hmk := mark_any i wr (by omega)
          have HMK := Lib.hid hmk
          have HOF := Lib.hid (And.intro hO2 hF2)
          clear hmk hO2 hF2 d3
          go_wp2_with fail
          refine HMK.out.mono ?_
          rintro e w2 ⟨rfl, hb2⟩
          have hO3 := HOF.out.1.then_ hb2
          have hF3 : FillG 25 5 mkR w2 B vs nn i k := fun j hj => by
            obtain ⟨l, q1, q2⟩ := HOF.out.2 j hj
            exact ⟨l, ownsRow_keep q1 (fun i hi => hb2.block i (q1.lt i hi).2), q2⟩
          obtain ⟨l, hl, _⟩ := hF3 i (by rw [HN.out.1]; exact hin')
          rw [HP.out.1, HP.out.2] at hl
          have hth := Lib.hid (ownsRow_there hl hkm')
          have hset := hF3.set mkR_len hdist (by rw [HN.out.1]; exact hin') (by rw [HP.out.2]; exact hkm') (by rw [HP.out.1, HP.out.2])
          have hgr := hO3.grown (setCells_grown _ g' (k * 5) (mkR i)) (fun j hj => by
            cases hj
            exact .inr ⟨_, HVM.out i hin', by rw [HP.out.1]; rfl⟩)
          have HS := Lib.hid (And.intro hset hgr)
          clear hl hset hgr hO3 hF3 hb2
          go_wp2_with (refine wpList_store_mid rfl 25 (.tmp 40) (.tmp 39) rfl g' (k * 5) #[.int .i64 (-1000 - i), .int .u64 i, .string ⟨#[]⟩, .slice none 0 0, .int .i64 0] rfl rfl hth.out HS5.out (by simp [Value.oneCell']) ?_; change wpList _ _ _ _ _ (w2.setCells g' (k * 5) (mkR i)); generalize w2.setCells g' (k * 5) (mkR i) = w4 at *)
          go_roundw
          case rel => exact ⟨k + 1, by omega, by go_num, HS.out.2, HS.out.1⟩
          case measure => simp [intOf]; omega
        · obtain rfl : k = m := by omega
          have hFn := Lib.hid (And.intro hO2 (show FillG 25 5 mkR _ B vs nn (i + 1) 0 from FillG.next (by rw [HP.out.2]; exact hF2)))
          clear hO2 hF2 d3
          go_wp2_with fail
          go_roundw
          case rel => exact ⟨i + 1, by omega, by go_num, hFn.out.1, hFn.out.2⟩
          case measure => simp [intOf]; omega
    · obtain rfl : i = n := by omega
      have hG0 : GSG 25 5 23 12 mkR w _ B vs nn (.slice none 0 0) [] 0 := GSG.start (by decide) mkR_len hO (by rw [HN.out.1]; exact hF)
      have HG0 := Lib.hid hG0
      clear c3 hG0 hO hF
      go_wp2_with fail
      go_loopw [6, 7] (fun v6 v7 wr => ∃ (j : Nat) (G : List (Value × Nat × Nat)), j ≤ i ∧ v7 = .int .i64 j ∧ GSG 25 5 23 12 mkR w wr B vs nn v6 G j ∧ G.length = 12 * j ∧ ∀ u ∈ G, u.2.1 < j) (fun _ v7 _ => i - (intOf v7).toNat)
      case atStart => exact ⟨0, [], Nat.zero_le _, rfl, HG0.out, rfl, fun u hu => by simp at hu⟩
      case round =>
        obtain ⟨j, G, hj, rfl, hG, hGl, hGi⟩ := hrel
        obtain ⟨c1, c3⟩ := HC.out wr hG.only
        by_cases hjn : (j : Int) < i
        · have hjn' : j < i := by omega
          obtain ⟨g, rfl, _⟩ := i3 (by omega)
          have d3 := c3 g rfl j hjn'
          have hK := hG.begin hGi (by rw [HN.out.1]; exact hjn') hdist HLT.out
          have hml := HN.out.2 j (by rw [HN.out.1]; exact hjn')
          obtain ⟨m, hm⟩ : ∃ m, nn j = m := ⟨_, rfl⟩
          rw [hm] at hK hml
          obtain ⟨v0, hv0⟩ : ∃ v0, vs.getD j default = v0 := ⟨_, rfl⟩
          rw [hv0] at d3 hK
          obtain ⟨p0, c0, hv00, _⟩ := ownsRow_form hK.own
          subst hv00
          have HK := Lib.hid hK
          clear c3 hm hv0 hK hG hGi
          go_wp2_with fail
          go_loopw [6, 8, 9] (fun v6 v8 v9 wq => ∃ (k : Nat) (G : List (Value × Nat × Nat)), k ≤ 12 ∧ v9 = .int .i64 k ∧ GKG 25 5 23 12 mkR w wq B vs nn v6 G j (m + k) v8 ∧ G.length = 12 * j + k) (fun _ _ v9 _ => 12 - (intOf v9).toNat)
          case atStart => exact ⟨0, G, by omega, rfl, HK.out, hGl⟩
          case round =>
            obtain ⟨k, G, hk, rfl, hK, hGl⟩ := hrel
            by_cases hk8 : (k : Int) < 12
            · obtain ⟨t, ht⟩ : ∃ t, m + k = t := ⟨_, rfl⟩
              have htb : t ≤ 1000020 := by omega
              rw [ht] at hK
              have HT := Lib.hid ht
              obtain ⟨p, c, hpc, _⟩ := ownsRow_form hK.own
              subst hpc
              have HKK := Lib.hid hK
              have hmk := mark_any j wr (by omega)
              have HMK := Lib.hid hmk
              clear ht hK d3 hmk
              go_wp2_with fail
              refine HMK.out.mono ?_
              rintro e w2 ⟨rfl, hb2⟩
              have hK2 := HKK.out.below hb2
              have hown := Lib.hid hK2.own
              have hBq : B ≤ w2.heap.size := Nat.le_trans hBw hK2.only.size
              have HK2 := Lib.hid hK2
              clear hK2 hb2
              go_wp2_with (at_builtin; refine wpList_append_two _ rfl (.tmp 61) (.tmp 64) 23 rfl B 25 k0 _ 5 64 Tryd.underlying23 hi hz0 hz1 hz2 rfl _ _ _ rfl (World.ownsRow.alloc hown.out _) ⟨w2.heap.size, 0, none⟩ 1 [.int .i64 (-1000 - j), .int .u64 j, .string ⟨#[]⟩, .slice none 0 0, .int .i64 0] rfl rfl (fun j u hj => cell_of_newrow hj) (by simp [Value.oneCell']) (by unfold maxLen; omega) (by omega) ?_)
              intro v' w3 hA
              obtain ⟨p', c', hv'⟩ := hA.slice
              subst hv'
              have hP := (HK2.out.below ((Below.refl _ _).alloc (Nat.le_refl _) _)).put (by decide) mkR_len val_ne (by rw [HN.out.1]; exact hjn') (by simp; omega) hA
              have hrw := hP.row
              have hSz := hP.only.size
              have hGb : G.length ≤ 480000000 := by omega
              have HP2 := Lib.hid hP
              clear hP hA hown
              go_wp2_with (at_builtin; refine wpList_append_val rfl (.tmp 66) (.tmp 68) 40 rfl w.heap.size 23 (.slice none 0 0) 24 Tryd.underlying40 info_listsV rfl _ _ _ (.slice p' (t + 1) c') rfl rfl rfl hrw (by unfold maxLen; omega) (by omega) hSz ?_)
              intro gv' w4 hr2 hg2 _ _
              rw [← hGl] at hr2
              have hQ := HP2.out.note val_ne (by omega) hr2 hg2
              have HQ := Lib.hid hQ
              clear hQ hr2 hg2 hrw
              go_wp2_with fail
              go_roundw
              case rel => exact ⟨k + 1, _, by omega, by go_num, by rw [← Nat.add_assoc, HT.out]; exact HQ.out, by rw [List.length_append, List.length_singleton]; omega⟩
              case measure => simp [intOf]; omega
            · obtain rfl : k = 12 := by omega
              have HG2 := Lib.hid hK.toGSG
              clear d3 hK
              go_wp2_with fail
              go_roundw
              case rel => exact ⟨j + 1, G, by omega, by go_num, HG2.out.next, by omega, fun u hu => by have := (HG2.out.from_ u hu).1; omega⟩
              case measure => simp [intOf]; omega
        · obtain rfl : j = i := by omega
          obtain ⟨pg, cg, hgv, y1, y2, y3⟩ := ownsRow_form hG.row
          unfold maxLen at y2
          subst hgv
          obtain ⟨q, hq⟩ : ∃ q, G.length = q := ⟨_, rfl⟩
          rw [hq] at y1 y3 hGl ⊢
          have HG := Lib.hid (And.intro hG hq)
          clear c3 hG hGi hq HG0 HF
          go_wp2_with fail
          go_loopw [10] (fun v10 wq => ∃ t : Nat, t ≤ j ∧ v10 = .int .i64 t ∧ wq = wr) (fun v10 _ => j - (intOf v10).toNat)
          case atStart => exact ⟨0, Nat.zero_le _, rfl, rfl⟩
          case round =>
            obtain ⟨t, ht, rfl, rfl⟩ := hrel
            obtain ⟨c1, c3⟩ := HC.out wr HG.out.1.only
            by_cases htq : (t : Int) < j
            · have htn : t < j := by omega
              obtain ⟨g, rfl, _⟩ := i3 (by omega)
              have d3 := c3 g rfl t htn
              have hul := HG.out.1.list (j := t) (by rw [HN.out.1]; exact htn)
              obtain ⟨v0, hv0⟩ : ∃ v0, vs.getD t default = v0 := ⟨_, rfl⟩
              rw [hv0] at d3 hul
              obtain ⟨p0, c0, hv00, _⟩ := ownsRow_form hul
              subst hv00
              have hmd := marked_any t _ wr B _ (by omega) hul
              have HMD := Lib.hid hmd
              clear c3 hul hmd hv0
              go_wp2_with fail
              refine HMD.out.mono ?_
              rintro e w5 ⟨rfl, rfl⟩
              go_wp2_with fail
              go_roundw
              case rel => exact ⟨t + 1, by omega, by go_num, by first | rfl | trivial⟩
              case measure => simp [intOf]; omega
            · obtain rfl : t = j := by omega
              clear c3
              go_wp2_with fail
              go_loopw [12] (fun v12 wq => ∃ t : Nat, t ≤ q ∧ v12 = .int .i64 t ∧ wq = wr) (fun v12 _ => q - (intOf v12).toNat)
              case atStart => exact ⟨0, Nat.zero_le _, rfl, rfl⟩
              case round =>
                obtain ⟨t, ht, rfl, rfl⟩ := hrel
                by_cases htq : (t : Int) < q
                · obtain ⟨g, c, u, m, e1, e2, e3⟩ := HG.out.1.item (t := t) (by rw [HG.out.2]; omega)
                  simp only [Value.slice.injEq, true_and] at e1
                  obtain ⟨rfl, rfl⟩ := e1
                  obtain ⟨pu, cu, hu, z1, z2, z3⟩ := ownsRow_form e3
                  subst hu
                  have hmd := marked_any (t / 12) m wr B _ (by omega) e3
                  rw [show (((t / 12 : Nat)) : Int) = (t : Int) / 12 by omega] at hmd
                  have HMD := Lib.hid hmd
                  clear hmd e3 z1 z2 z3
                  go_wp2_with fail
                  refine HMD.out.mono ?_
                  rintro e w5 ⟨rfl, rfl⟩
                  go_wp2_with fail
                  go_roundw
                  case rel => exact ⟨t + 1, by omega, by go_num, by first | rfl | trivial⟩
                  case measure => simp [intOf]; omega
                · obtain rfl : t = q := by omega
                  go_wp2_with fail
                  go_ret
                  exact ⟨rfl, HG.out.1.only⟩

end Go.Proofs.YtakbgekamjpibaaDoor
