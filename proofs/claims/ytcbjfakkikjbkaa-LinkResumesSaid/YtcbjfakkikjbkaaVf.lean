/-
  Copies of values in memory of their own. Conditions: the value lies in memory, and is no greater than a million.
-/
import Derived.Test.YtcbjfakkikjbkaaVe
import Derived.Handy
namespace Go.Proofs.Ytcbjfakkikjbkaa
open Go.RowKit
set_option linter.all false

theorem cell_of_newrow {w : World} {ys : List Value} {e : TypeId} {j : Nat} {u : Value} (hj : ys[j]? = some u) : (w.alloc (.cells ys.toArray e)).cell? ((⟨w.heap.size, 0, none⟩ : Addr).add j) = some u := by
  have hadd : (⟨w.heap.size, 0, none⟩ : Addr).add j = ⟨w.heap.size, j, none⟩ := by unfold Addr.add; split <;> simp_all
  rw [hadd, cell_of_row _ _ j _ _ _ (_root_.Go.heap_alloc_new w _)]
  simpa using hj
theorem info_val : (Try.prog.info? 28).map (fun i => (i.zero, i.size, i.bytes)) = some (some (.agg #[.int .i64 0, .int .u64 0, .string ⟨#[]⟩, .slice none 0 0, .int .i64 0]), 5, 64) := by kernel_rfl
theorem info_partsV {P : Program} {t : TypeId} {z : Value} {k b : Nat} (h : (P.info? t).map (fun i => (i.zero, i.size, i.bytes)) = some (some z, k, b)) : ∃ i, P.info? t = some i ∧ i.zero = some z ∧ i.size = k ∧ i.bytes = b := by
  obtain ⟨i, hi, hzz⟩ := Option.map_eq_some_iff.1 h
  simp only [Prod.mk.injEq] at hzz
  exact ⟨i, hi, hzz.1, hzz.2.1, hzz.2.2⟩
theorem VO.slice {w : World} {B : Nat} {v : V} {s : Value} {F : Nat → Prop} (h : VO w B v s F) : ∃ p c, s = .slice p v.list.length c ∧ v.list.length ≤ c ∧ c ≤ maxLen := by
  obtain ⟨p, c, e, h1, h2, _⟩ := h.vin.slice
  exact ⟨p, c, e, h1, h2⟩
theorem set_farV {w : World} {b i g : Nat} {v : Value} (h : g ≠ b) : (w.setCell ⟨b, i, none⟩ v).heap[g]? = w.heap[g]? := by
  simp [World.setCell, Array.getElem?_modify, Ne.symm h]
theorem VO.as {w : World} {B : Nat} {v v' : V} {s : Value} {F : Nat → Prop} (h : VO w B v s F) (hl : v'.list = v.list) (hw : v'.Wf) : VO w B v' s F := by
  cases h with
  | mk _ _ _ ss Fs wf hrow hin hd hs hF =>
    have hln : v'.list.length = v.list.length := by rw [hl]
    refine .mk v' s F ss Fs hw (by rw [hl]; exact hrow) (fun i hi => ?_) (fun i j hi hj => hd i j (hln ▸ hi) (hln ▸ hj)) (fun g hg i hi => hs g hg i (hln ▸ hi)) (fun b => by rw [hF b, hln])
    have := hin i (hln ▸ hi)
    have e : v'.list[i] = v.list[i]'(hln ▸ hi) := by simp only [hl]
    rw [e]
    exact this

/-- a value of one's own comes out -/
def OutV (w : World) (a : V) (e : Ending) (w' : World) : Prop := ∃ t F, e = .returned (.agg #[.int .i64 a.kind, .int .u64 a.num, .string a.text, t, .int .i64 a.elem]) ∧ VO w' w.heap.size a t F ∧ Below w.heap.size w w'
/-- a list of one's own comes out -/
def OutL (w : World) (a : V) (e : Ending) (w' : World) : Prop := ∃ t F, e = .returned t ∧ VO w' w.heap.size a t F ∧ Below w.heap.size w w'

def copiedOn (a : V) : Prop := ∀ (w : World) (s : Value), VIn w a s → a.wt ≤ 2000000 →
    Calls Try.prog 77 #[.agg #[.int .i64 a.kind, .int .u64 a.num, .string a.text, s, .int .i64 a.elem]] w (OutV w a)

set_option maxRecDepth 20000 in
set_option maxHeartbeats 4000000 in
theorem copieds_any (a : V) (ih : ∀ x ∈ a.list, copiedOn x) (w : World) (s : Value) (h : VIn w a s) (hwt : wts a.list ≤ 2000000) :
    Calls Try.prog 61 #[s] w (OutL w a) := by
  obtain ⟨p, c, hs, h1, h2, h3⟩ := h.slice
  obtain ⟨N, hN⟩ : ∃ N, a.list.length = N := ⟨_, rfl⟩
  have hNw := len_le_wts a.list
  rw [hN] at hs h1 h3 hNw
  subst hs
  unfold maxLen at h2
  have hNb : N ≤ 2000000 := by omega
  have HI := Lib.hid ih
  have HN := Lib.hid (And.intro hN hwt)
  have HV := Lib.hid h
  obtain ⟨i0, hi, hz0, hz1, hz2⟩ := info_partsV info_val
  clear ih h hN hNw hwt
  go_enter Try.func61, Try.ntmps61
  go_wp2_with fail
  go_loopw [3, 8] (fun v3 v8 wr => ∃ (k : Nat) (t : Value) (F : Nat → Prop), k ≤ N ∧ v8 = .int .i64 k ∧ v3 = t ∧ VO wr w.heap.size (a.with (a.list.take k)) t F ∧ Below w.heap.size w wr) (fun _ v8 _ => N - (intOf v8).toNat)
  case atStart => exact ⟨0, _, _, Nat.zero_le _, rfl, rfl, VO.nil w _ (HV.out.wf.with_ _) (by rw [List.take_zero]; rfl), Below.refl _ _⟩
  case round =>
    obtain ⟨k, t, F, hk', rfl, rfl, hvo, hbw⟩ := hrel
    have HR := Lib.hid (And.intro hvo hbw)
    have hbz := hbw.size
    clear hvo hbw
    by_cases hkN : (k : Int) < N
    · have ka : k < a.list.length := by rw [HN.out.1]; omega
      obtain ⟨b1, o1, rfl⟩ := h3 (by omega)
      obtain ⟨ta, hta, hia⟩ := (HV.out.blw HR.out.2).part rfl ka
      obtain ⟨pa, ca, hsa, _⟩ := hia.slice
      subst hsa
      obtain ⟨c0, c1, c2, c3, c4⟩ := part_cells hta
      have htk : a.list.take (k + 1) = a.list.take k ++ [a.list[k]] := by rw [List.take_add_one, List.getElem?_eq_getElem ka, Option.toList_some]
      have htl : (a.list.take k).length = k := by rw [List.length_take]; omega
      obtain ⟨ya, hya⟩ : ∃ ya, a.list[k] = ya := ⟨_, rfl⟩
      have HIK := Lib.hid (HI.out _ (List.getElem_mem ka))
      have hyw : ya.wt ≤ 2000000 := by have := wts_mem (List.getElem_mem ka); rw [hya] at this; have := HN.out.2; omega
      rw [hya] at c0 c1 c2 c3 c4 hia HIK htk
      obtain ⟨na, hna⟩ : ∃ na, ya.list.length = na := ⟨_, rfl⟩
      rw [hna] at c3 hia
      have HP := Lib.hid (And.intro hia (And.intro htk (And.intro htl hyw)))
      clear hta hia hya htk htl hyw
      go_upto_region 5 with (refine wpList_store_rowTo rfl 28 (.tmp 5) (.tmp 11) rfl rfl wr.heap.size #[.int .i64 ya.kind, .int .u64 ya.num, .string ya.text, (.slice pa na ca), .int .i64 ya.elem] rfl rfl 28 #[.int .i64 0, .int .u64 0, .string ⟨#[]⟩, .slice none 0 0, .int .i64 0] (_root_.Go.heap_alloc_new wr _) (by as_aux_lemma => kernel_rfl) (by as_aux_lemma => kernel_rfl) (by simp [Value.oneCell']) ?_)
      have hb_w1 : Below wr.heap.size wr ((wr.alloc (.cells #[.int .i64 0, .int .u64 0, .string ⟨#[]⟩, .slice none 0 0, .int .i64 0] 28)).setRow wr.heap.size #[.int .i64 ya.kind, .int .u64 ya.num, .string ya.text, (.slice pa na ca), .int .i64 ya.elem]) := below_setRow ((Below.refl _ _).alloc (Nat.le_refl _) _) (Nat.le_refl _) _
      have ox := setRow_heap (wr.alloc (.cells #[.int .i64 0, .int .u64 0, .string ⟨#[]⟩, .slice none 0 0, .int .i64 0] 28)) wr.heap.size _ #[.int .i64 ya.kind, .int .u64 ya.num, .string ya.text, (.slice pa na ca), .int .i64 ya.elem] _ _ (_root_.Go.heap_alloc_new wr _)
      change Code.wp _ _ _ _ ((wr.alloc (.cells #[.int .i64 0, .int .u64 0, .string ⟨#[]⟩, .slice none 0 0, .int .i64 0] 28)).setRow wr.heap.size #[.int .i64 ya.kind, .int .u64 ya.num, .string ya.text, (.slice pa na ca), .int .i64 ya.elem])
      generalize ((wr.alloc (.cells #[.int .i64 0, .int .u64 0, .string ⟨#[]⟩, .slice none 0 0, .int .i64 0] 28)).setRow wr.heap.size #[.int .i64 ya.kind, .int .u64 ya.num, .string ya.text, (.slice pa na ca), .int .i64 ya.elem]) = w1 at *
      obtain ⟨x, hx_x⟩ : ∃ x, wr.heap.size = x := ⟨_, rfl⟩
      rw [hx_x] at ox ⊢
      clear hx_x
      have HB1 := Lib.hid hb_w1
      have x0 : w1.cell? ⟨x, 0, none⟩ = some (.int .i64 ya.kind) := (cell_of_row _ _ 0 _ _ _ ox).trans rfl
      have x1 : w1.cell? ⟨x, 1, none⟩ = some (.int .u64 ya.num) := (cell_of_row _ _ 1 _ _ _ ox).trans rfl
      have x2 : w1.cell? ⟨x, 2, none⟩ = some (.string ya.text) := (cell_of_row _ _ 2 _ _ _ ox).trans rfl
      have x3 : w1.cell? ⟨x, 3, none⟩ = some (.slice pa na ca) := (cell_of_row _ _ 3 _ _ _ ox).trans rfl
      have x4 : w1.cell? ⟨x, 4, none⟩ = some (.int .i64 ya.elem) := (cell_of_row _ _ 4 _ _ _ ox).trans rfl
      have hc := HIK.out w1 _ (HP.out.1.blw hb_w1) HP.out.2.2.2
      have HC := Lib.hid hc
      clear hc hb_w1 ox c0 c1 c2 c3 c4
      go_wp2_with fail
      refine HC.out.mono ?_
      rintro e w2 ⟨t2, F2, rfl, hvo2, hb2⟩
      have hbb := HB1.out.trans (hb2.mono HB1.out.size)
      have hlo : wr.heap.size ≤ w1.heap.size := HB1.out.size
      obtain ⟨p2, c2, hs2, _, _⟩ := hvo2.slice
      rw [hna] at hs2
      subst hs2
      have hpush := VO.push (l := a.list.take k) (x := ya) ((HR.out.1.blw hbb).blw ((Below.refl _ _).alloc (Nat.le_refl _) (.cells #[.int .i64 ya.kind, .int .u64 ya.num, .string ya.text, (.slice p2 na c2), .int .i64 ya.elem] 28))) ((hvo2.mono (by omega : w.heap.size ≤ w1.heap.size)).blw ((Below.refl _ _).alloc (Nat.le_refl _) _)) (fun b q q2 => by
        have := (HR.out.1.lt b q).2
        have := (hvo2.lt b q2).1
        omega) (by have := hbb.size; simp; omega)
      obtain ⟨xs, hrow, hpu⟩ := hpush
      rw [HP.out.2.2.1] at hrow hpu
      have HRW := Lib.hid hrow
      have HPU := Lib.hid hpu
      have HBB := Lib.hid hbb
      have hbbz := hbb.size
      clear hrow hpu hbb hvo2 hlo x0 x1 x2 x3 x4
      go_wp2_with (first
        | (at_builtin; refine wpList_append_two _ rfl (.tmp 12) (.tmp 15) 26 rfl w.heap.size 28 i0 _ 5 64 Try.underlying26 hi hz0 hz1 hz2 rfl _ _ _ rfl HRW.out ⟨w2.heap.size, 0, none⟩ 1 [.int .i64 ya.kind, .int .u64 ya.num, .string ya.text, .slice p2 na c2, .int .i64 ya.elem] rfl rfl (fun j u hj => cell_of_newrow hj) (by simp [Value.oneCell']) (by unfold maxLen; omega) (by omega) ?_; intro v' w9 hA; have HA := Lib.hid hA; clear hA))
      obtain ⟨F', hF1, _⟩ := HPU.out w9 v' HA.out
      have hgr := HA.out.grown
      have HF := Lib.hid hF1
      have HB9 : Hid (Below w.heap.size w w9) := Lib.hid ((((HR.out.2.trans (HBB.out.mono hbz)).alloc (by omega) _)).grown hgr (by simp; omega) (fun j hj => (HRW.out.lt j hj).1))
      clear hF1 hgr
      go_roundw
      case rel => exact ⟨k + 1, _, F', by omega, by go_num, rfl, by rw [HP.out.2.1]; exact HF.out, HB9.out⟩
      case measure => simp [intOf]; omega
    · have hkN2 : k = N := by omega
      have hE := HR.out.1
      rw [hkN2, List.take_of_length_le (by rw [HN.out.1]; exact Nat.le_refl _), V.with_same] at hE
      have HE := Lib.hid hE
      clear hE
      go_wp2_with fail
      go_ret
      exact ⟨_, F, rfl, HE.out, HR.out.2⟩

set_option maxRecDepth 20000 in
set_option maxHeartbeats 4000000 in
theorem copied_on : ∀ a : V, copiedOn a := by
  refine V.ind (fun a ih w s h hwt => ?_)
  have hcs := copieds_any a ih
  obtain ⟨p, c, hs, h1, h2, h3⟩ := h.slice
  obtain ⟨N, hN⟩ : ∃ N, a.list.length = N := ⟨_, rfl⟩
  rw [hN] at hs
  subst hs
  have hwl : wts a.list ≤ 2000000 := by have := a.wt_eq; omega
  have HCS := Lib.hid hcs
  have HV := Lib.hid (And.intro h hwl)
  have HN := Lib.hid hN
  clear ih hcs h hwl hwt h1 h2 h3 hN
  go_enter Try.func77, Try.ntmps77
  go_upto_region 1 with fail
  have hb0 : Below w.heap.size w ((w.alloc (.cells #[.int .i64 a.kind, .int .u64 a.num, .string a.text, (.slice p N c), .int .i64 a.elem] 28)).alloc (.cells #[.int .i64 0, .int .u64 0, .string ⟨#[]⟩, .slice none 0 0, .int .i64 0] 28)) := ((Below.refl _ _).alloc (Nat.le_refl _) _).alloc (by simp) _
  have ox : ((w.alloc (.cells #[.int .i64 a.kind, .int .u64 a.num, .string a.text, (.slice p N c), .int .i64 a.elem] 28)).alloc (.cells #[.int .i64 0, .int .u64 0, .string ⟨#[]⟩, .slice none 0 0, .int .i64 0] 28)).heap[w.heap.size]? = some (.cells #[.int .i64 a.kind, .int .u64 a.num, .string a.text, (.slice p N c), .int .i64 a.elem] 28 (0, 0)) := (_root_.Go.heap_alloc_old _ _ (by simp)).trans (_root_.Go.heap_alloc_new _ _)
  have oy : ((w.alloc (.cells #[.int .i64 a.kind, .int .u64 a.num, .string a.text, (.slice p N c), .int .i64 a.elem] 28)).alloc (.cells #[.int .i64 0, .int .u64 0, .string ⟨#[]⟩, .slice none 0 0, .int .i64 0] 28)).heap[w.heap.size + 1]? = some (.cells #[.int .i64 0, .int .u64 0, .string ⟨#[]⟩, .slice none 0 0, .int .i64 0] 28 (0, 0)) := by have := _root_.Go.heap_alloc_new (w.alloc (.cells #[.int .i64 a.kind, .int .u64 a.num, .string a.text, (.slice p N c), .int .i64 a.elem] 28)) (.cells #[.int .i64 0, .int .u64 0, .string ⟨#[]⟩, .slice none 0 0, .int .i64 0] 28); rwa [World.size_alloc] at this
  generalize ((w.alloc (.cells #[.int .i64 a.kind, .int .u64 a.num, .string a.text, (.slice p N c), .int .i64 a.elem] 28)).alloc (.cells #[.int .i64 0, .int .u64 0, .string ⟨#[]⟩, .slice none 0 0, .int .i64 0] 28)) = w0 at *
  obtain ⟨x, hx⟩ : ∃ x, w.heap.size = x := ⟨_, rfl⟩
  rw [hx] at ox oy ⊢
  obtain ⟨y, hy⟩ : ∃ y, x + 1 = y := ⟨_, rfl⟩
  rw [hy] at oy ⊢
  have hxy : x ≠ y := by omega
  have hyx : y ≠ x := by omega
  have HX := Lib.hid (And.intro hx (And.intro (show w.heap.size ≤ y by omega) (And.intro hxy hyx)))
  have HB0 := Lib.hid hb0
  have HOX := Lib.hid (And.intro ox oy)
  have x3 : w0.cell? ⟨x, 3, none⟩ = some (.slice p N c) := (cell_of_row _ _ 3 _ _ _ ox).trans rfl
  have hc := HCS.out w0 _ (HV.out.1.blw hb0) HV.out.2
  have HC := Lib.hid hc
  clear hb0 ox oy hx hy hc
  go_wp2_with fail
  refine HC.out.mono ?_
  clear x3
  rintro e w1 ⟨t, F, rfl, hvo, hb1⟩
  obtain ⟨pt, ct, hst, _, _⟩ := hvo.slice
  rw [HN.out] at hst
  subst hst
  have ox1 := (hb1.block x (Array.getElem?_eq_some_iff.1 HOX.out.1).1).trans HOX.out.1
  have oy1 := (hb1.block y (Array.getElem?_eq_some_iff.1 HOX.out.2).1).trans HOX.out.2
  have x3 : w1.cell? ⟨x, 3, none⟩ = some (.slice p N c) := (cell_of_row _ _ 3 _ _ _ ox1).trans rfl
  have fx : w1.frozen? ⟨x, 3, none⟩ = false := by simp [World.frozen?, ox1]
  have hxs := (Array.getElem?_eq_some_iff.1 HOX.out.1).1
  have ox2 : (w1.setCell ⟨x, 3, none⟩ (.slice pt N ct)).heap[x]? = some (.cells #[.int .i64 a.kind, .int .u64 a.num, .string a.text, (.slice pt N ct), .int .i64 a.elem] 28 (0, 0)) := heap_setCell_same w1 x 3 _ _ (.slice pt N ct) ox1
  have oy2 : (w1.setCell ⟨x, 3, none⟩ (.slice pt N ct)).heap[y]? = some (.cells #[.int .i64 0, .int .u64 0, .string ⟨#[]⟩, .slice none 0 0, .int .i64 0] 28 (0, 0)) := (set_farV HX.out.2.2.2).trans oy1
  have hvo2 := (hvo.mono HB0.out.size).keep (w' := w1.setCell ⟨x, 3, none⟩ (.slice pt N ct)) (fun b hb => set_farV (fun e => by have := (hvo.lt b hb).1; omega))
  have hbl := (HB0.out.trans (hb1.mono HB0.out.size)).setCell (p := ⟨x, 3, none⟩) (show w.heap.size ≤ x by have := HX.out.1; omega) (.slice pt N ct)
  have HYF := Lib.hid (show ∀ b, F b → b ≠ y from fun b hb e => by have h1 := (hvo.lt b hb).1; have h2 := (Array.getElem?_eq_some_iff.1 HOX.out.2).1; omega)
  clear hvo hb1 ox1 oy1 hxs
  go_upto_region 2 with fail
  generalize w1.setCell ⟨x, 3, none⟩ (.slice pt N ct) = w2 at *
  have HVO := Lib.hid (And.intro hvo2 hbl)
  have HOY := Lib.hid oy2
  have x0 : w2.cell? ⟨x, 0, none⟩ = some (.int .i64 a.kind) := (cell_of_row _ _ 0 _ _ _ ox2).trans rfl
  have x1 : w2.cell? ⟨x, 1, none⟩ = some (.int .u64 a.num) := (cell_of_row _ _ 1 _ _ _ ox2).trans rfl
  have x2 : w2.cell? ⟨x, 2, none⟩ = some (.string a.text) := (cell_of_row _ _ 2 _ _ _ ox2).trans rfl
  have x3 : w2.cell? ⟨x, 3, none⟩ = some (.slice pt N ct) := (cell_of_row _ _ 3 _ _ _ ox2).trans rfl
  have x4 : w2.cell? ⟨x, 4, none⟩ = some (.int .i64 a.elem) := (cell_of_row _ _ 4 _ _ _ ox2).trans rfl
  clear hvo2 hbl ox2 fx
  go_wp2_with (refine wpList_store_rowTo rfl 28 (.tmp 2) (.tmp 7) rfl rfl y #[.int .i64 a.kind, .int .u64 a.num, .string a.text, (.slice pt N ct), .int .i64 a.elem] rfl rfl 28 #[.int .i64 0, .int .u64 0, .string ⟨#[]⟩, .slice none 0 0, .int .i64 0] oy2 (by as_aux_lemma => kernel_rfl) (by as_aux_lemma => kernel_rfl) (by simp [Value.oneCell']) ?_)
  have hh := setRow_heap w2 y _ #[.int .i64 a.kind, .int .u64 a.num, .string a.text, (.slice pt N ct), .int .i64 a.elem] _ _ HOY.out
  have hB := below_setRow HVO.out.2 HX.out.2.1 #[.int .i64 a.kind, .int .u64 a.num, .string a.text, (.slice pt N ct), .int .i64 a.elem]
  have hvo3 := HVO.out.1.keep (w' := w2.setRow y #[.int .i64 a.kind, .int .u64 a.num, .string a.text, (.slice pt N ct), .int .i64 a.elem]) (fun b hb => setRow_other w2 y b _ (fun e => HYF.out b hb e))
  refine bodyPost_ret (results_cell_row (p := 2) (ty := 28) (by kernel_rfl) _ _ y 28 #[.int .i64 a.kind, .int .u64 a.num, .string a.text, (.slice pt N ct), .int .i64 a.elem] (0, 0) _ rfl hh Try.underlying28 rfl (by as_aux_lemma => kernel_rfl)) rfl ?_
  exact ⟨_, F, rfl, hvo3, hB⟩

end Go.Proofs.Ytcbjfakkikjbkaa
