/-
  Find: the program's and the reference's. Conditions: the values lie in memory; the map is no greater than a million.
-/
import Derived.Test.YtakbgekamjpibaaDoorMg09
namespace Go.Proofs.YtakbgekamjpibaaDoor
open Go.RowKit
set_option linter.unusedVariables false

/-- what stands behind a key -/
noncomputable def findL : List V → V → Option V
  | a :: b :: r, key => if a = key then some b else findL r key
  | _, _ => none
noncomputable def findC (m key : V) : Option V := if m.kind = 22 then findL m.list key else none
theorem findL_drop {l : List V} {k : Nat} (h : k + 1 < l.length) (key : V) : findL (l.drop k) key = if l[k] = key then some l[k + 1] else findL (l.drop (k + 2)) key := by
  rw [List.drop_eq_getElem_cons (show k < l.length by omega), List.drop_eq_getElem_cons h, findL]
theorem findL_end {l : List V} {k : Nat} (h : l.length ≤ k + 1) (key : V) : findL (l.drop k) key = none := by
  by_cases q : k < l.length
  · rw [List.drop_eq_getElem_cons q, List.drop_eq_nil_of_le h, findL]
    intro a b r e
    simp at e
  · rw [List.drop_eq_nil_of_le (by omega), findL]
    intro a b r e
    simp at e
theorem rangeAt_blw {w W : World} {b o : Nat} {l : List Value} (h : w.rangeAt b o l) (hb : Below w.heap.size w W) : W.rangeAt b o l := fun j u hu => bs_cellV hb (h j u hu)
/-- what Find leaves -/
def FindPost (w : World) (o : Option V) (e : Ending) (w' : World) : Prop :=
  (o = none ∧ e = .returned (.tuple #[.agg #[.int .i64 0, .int .u64 0, .string ⟨#[]⟩, .slice none 0 0, .int .i64 0], .bool false]) ∧ Below w.heap.size w w') ∨ ∃ b t F, o = some b ∧ e = .returned (.tuple #[.agg #[.int .i64 b.kind, .int .u64 b.num, .string b.text, t, .int .i64 b.elem], .bool true]) ∧ VO w' w.heap.size b t F ∧ Below w.heap.size w w'

set_option maxRecDepth 20000 in
set_option maxHeartbeats 4000000 in
theorem find_any (m key : V) (w : World) (s t : Value) (hm : VIn w m s) (hk : VIn w key t) (hwt : m.wt ≤ 1000000) :
    Calls Tryd.prog 39 #[.agg #[.int .i64 m.kind, .int .u64 m.num, .string m.text, s, .int .i64 m.elem], .agg #[.int .i64 key.kind, .int .u64 key.num, .string key.text, t, .int .i64 key.elem]] w (FindPost w (findC m key)) := by
  obtain ⟨p, c, hs, h1, h2, h3⟩ := hm.slice
  obtain ⟨q, d, ht, _⟩ := hk.slice
  obtain ⟨N, hN⟩ : ∃ N, m.list.length = N := ⟨_, rfl⟩
  obtain ⟨M, hM⟩ : ∃ M, key.list.length = M := ⟨_, rfl⟩
  rw [hN] at hs h1 h3
  rw [hM] at ht
  subst hs ht
  unfold maxLen at h2
  obtain ⟨D, hD⟩ : ∃ D, findC m key = D := ⟨_, rfl⟩
  rw [hD]
  have hNb : N ≤ 1000000 := by have := m.len_lt; omega
  have HD := Lib.hid hD
  have HV := Lib.hid (And.intro hm hk)
  have HN := Lib.hid (And.intro hN hM)
  have HW := Lib.hid hwt
  clear hm hk hN hM hwt hD
  go_enter Tryd.func39, Tryd.ntmps39
  go_upto_region 1 with fail
  have hb0 : Below w.heap.size w (((w.alloc (.cells #[.int .i64 m.kind, .int .u64 m.num, .string m.text, .slice p N c, .int .i64 m.elem] 25)).alloc (.cells #[.int .i64 key.kind, .int .u64 key.num, .string key.text, .slice q M d, .int .i64 key.elem] 25)).alloc (.cells #[.int .i64 0, .int .u64 0, .string ⟨#[]⟩, .slice none 0 0, .int .i64 0] 25)) := (((Below.refl _ _).alloc (Nat.le_refl _) _).alloc (by simp) _).alloc (by simp; omega) _
  have o0 : (((w.alloc (.cells #[.int .i64 m.kind, .int .u64 m.num, .string m.text, .slice p N c, .int .i64 m.elem] 25)).alloc (.cells #[.int .i64 key.kind, .int .u64 key.num, .string key.text, .slice q M d, .int .i64 key.elem] 25)).alloc (.cells #[.int .i64 0, .int .u64 0, .string ⟨#[]⟩, .slice none 0 0, .int .i64 0] 25)).heap[w.heap.size]? = some (.cells #[.int .i64 m.kind, .int .u64 m.num, .string m.text, .slice p N c, .int .i64 m.elem] 25 (0, 0)) := (_root_.Go.heap_alloc_old _ _ (by simp; omega)).trans ((_root_.Go.heap_alloc_old _ _ (by simp)).trans (_root_.Go.heap_alloc_new _ _))
  have o1 : (((w.alloc (.cells #[.int .i64 m.kind, .int .u64 m.num, .string m.text, .slice p N c, .int .i64 m.elem] 25)).alloc (.cells #[.int .i64 key.kind, .int .u64 key.num, .string key.text, .slice q M d, .int .i64 key.elem] 25)).alloc (.cells #[.int .i64 0, .int .u64 0, .string ⟨#[]⟩, .slice none 0 0, .int .i64 0] 25)).heap[w.heap.size + 1]? = some (.cells #[.int .i64 key.kind, .int .u64 key.num, .string key.text, .slice q M d, .int .i64 key.elem] 25 (0, 0)) := (_root_.Go.heap_alloc_old _ _ (by simp)).trans (by have := _root_.Go.heap_alloc_new (w.alloc (.cells #[.int .i64 m.kind, .int .u64 m.num, .string m.text, .slice p N c, .int .i64 m.elem] 25)) (.cells #[.int .i64 key.kind, .int .u64 key.num, .string key.text, .slice q M d, .int .i64 key.elem] 25); rwa [World.size_alloc] at this)
  have o2 : (((w.alloc (.cells #[.int .i64 m.kind, .int .u64 m.num, .string m.text, .slice p N c, .int .i64 m.elem] 25)).alloc (.cells #[.int .i64 key.kind, .int .u64 key.num, .string key.text, .slice q M d, .int .i64 key.elem] 25)).alloc (.cells #[.int .i64 0, .int .u64 0, .string ⟨#[]⟩, .slice none 0 0, .int .i64 0] 25)).heap[w.heap.size + 1 + 1]? = some (.cells #[.int .i64 0, .int .u64 0, .string ⟨#[]⟩, .slice none 0 0, .int .i64 0] 25 (0, 0)) := by have := _root_.Go.heap_alloc_new ((w.alloc (.cells #[.int .i64 m.kind, .int .u64 m.num, .string m.text, .slice p N c, .int .i64 m.elem] 25)).alloc (.cells #[.int .i64 key.kind, .int .u64 key.num, .string key.text, .slice q M d, .int .i64 key.elem] 25)) (.cells #[.int .i64 0, .int .u64 0, .string ⟨#[]⟩, .slice none 0 0, .int .i64 0] 25); rwa [World.size_alloc, World.size_alloc] at this
  generalize (((w.alloc (.cells #[.int .i64 m.kind, .int .u64 m.num, .string m.text, .slice p N c, .int .i64 m.elem] 25)).alloc (.cells #[.int .i64 key.kind, .int .u64 key.num, .string key.text, .slice q M d, .int .i64 key.elem] 25)).alloc (.cells #[.int .i64 0, .int .u64 0, .string ⟨#[]⟩, .slice none 0 0, .int .i64 0] 25)) = w0 at *
  obtain ⟨x, hx⟩ : ∃ x, w.heap.size = x := ⟨_, rfl⟩
  rw [hx] at o0 o1 o2 ⊢
  obtain ⟨y, hy⟩ : ∃ y, x + 1 = y := ⟨_, rfl⟩
  rw [hy] at o1 o2 ⊢
  obtain ⟨z, hz⟩ : ∃ z, y + 1 = z := ⟨_, rfl⟩
  rw [hz] at o2 ⊢
  have HB0 := Lib.hid (And.intro hb0 (And.intro (show w.heap.size ≤ z by omega) (show x ≠ z ∧ y ≠ z by omega)))
  have HO := Lib.hid (And.intro o0 (And.intro o1 o2))
  clear hb0 o0 o1 o2 hx hy hz
  have x0 : w0.cell? ⟨x, 0, none⟩ = some (.int .i64 m.kind) := (cell_of_row _ _ 0 _ _ _ HO.out.1).trans rfl
  have x3 : w0.cell? ⟨x, 3, none⟩ = some (.slice p N c) := (cell_of_row _ _ 3 _ _ _ HO.out.1).trans rfl
  by_cases hk : m.kind = 22
  · have hkt : (m.kind == 22) = true := by simpa using hk
    have HDX := Lib.hid (show findL (m.list.drop 0) key = D by rw [List.drop_zero, ← HD.out, findC, if_pos hk])
    have hkn : (m.kind != 22) = false := by simpa using hk
    clear hk
    go_wp2_with fail
    go_loopw [6] (fun v6 wr => ∃ k : Nat, k ≤ N + 1 ∧ v6 = .int .i64 k ∧ findL (m.list.drop k) key = D ∧ Below w0.heap.size w0 wr) (fun v6 _ => N + 2 - (intOf v6).toNat)
    case atStart => exact ⟨0, by omega, rfl, HDX.out, Below.refl _ _⟩
    case round =>
      obtain ⟨k, hk', rfl, hrest, hb⟩ := hrel
      have HR := Lib.hid (And.intro hrest hb)
      have x3 := bs_cellV hb x3
      have oz := (hb.block z (Array.getElem?_eq_some_iff.1 HO.out.2.2).1).trans HO.out.2.2
      have HZ := Lib.hid oz
      clear hrest hb x0
      by_cases hkN : (k : Int) + 1 < N
      · have k0 : (k : Int) < N := by omega
        have ka : k < m.list.length := by rw [HN.out.1]; omega
        have kb : k + 1 < m.list.length := by rw [HN.out.1]; omega
        obtain ⟨b1, o1, rfl⟩ := h3 (by omega)
        have hB := HB0.out.1.trans (HR.out.2.mono HB0.out.1.size)
        obtain ⟨ta, hta, hia⟩ := (HV.out.1.blw hB).part rfl ka
        obtain ⟨tb, htb, hib⟩ := (HV.out.1.blw hB).part rfl kb
        obtain ⟨c0, c1, c2, c3, c4⟩ := part_cells hta
        have oy := (HR.out.2.block y (Array.getElem?_eq_some_iff.1 HO.out.2.1).1).trans HO.out.2.1
        have y0 : wr.cell? ⟨y, 0, none⟩ = some (.int .i64 key.kind) := (cell_of_row _ _ 0 _ _ _ oy).trans rfl
        have y1 : wr.cell? ⟨y, 1, none⟩ = some (.int .u64 key.num) := (cell_of_row _ _ 1 _ _ _ oy).trans rfl
        have y2 : wr.cell? ⟨y, 2, none⟩ = some (.string key.text) := (cell_of_row _ _ 2 _ _ _ oy).trans rfl
        have y3 : wr.cell? ⟨y, 3, none⟩ = some (.slice q M d) := (cell_of_row _ _ 3 _ _ _ oy).trans rfl
        have y4 : wr.cell? ⟨y, 4, none⟩ = some (.int .i64 key.elem) := (cell_of_row _ _ 4 _ _ _ oy).trans rfl
        have hd : Below wr.heap.size wr wr.drew := ⟨rfl, rfl, rfl, Nat.le_refl _, fun _ _ => rfl⟩
        have hc := equal_on m.list[k] wr.drew ta key _ (hia.blw hd) ((HV.out.2.blw hB).blw hd)
        have hstep := findL_drop kb key
        rw [HR.out.1] at hstep
        obtain ⟨e, he⟩ : ∃ e, decide (m.list[k] = key) = e := ⟨_, rfl⟩
        rw [he] at hc
        have HS := Lib.hid (And.intro hstep he)
        have HP := Lib.hid (And.intro htb hib)
        have HC := Lib.hid hc
        clear hB hta htb hia hib hd hc hstep he oy
        go_wp2_with fail
        go_still_tail 6, (by kernel_rfl)
        change wpList _ _ _ _ _ wr.drew
        have HDR : Hid (Below w0.heap.size w0 wr.drew) := Lib.hid ⟨HR.out.2.os, HR.out.2.tape, HR.out.2.output, HR.out.2.size, HR.out.2.block⟩
        have HPD : Hid (wr.drew.rangeAt b1 (o1 + (k + 1) * 5) (vcells m.list[k + 1] tb) ∧ VIn wr.drew m.list[k + 1] tb) := Lib.hid ⟨HP.out.1, HP.out.2.blw ⟨rfl, rfl, rfl, Nat.le_refl _, fun _ _ => rfl⟩⟩
        generalize wr.drew = wd at *
        go_wp2_with fail
        refine HC.out.mono ?_
        clear c0 c1 c2 c3 c4 y0 y1 y2 y3 y4 oz
        rintro e' w1 ⟨rfl, hb1⟩
        have HB1 := Lib.hid (And.intro hb1 (HDR.out.trans (hb1.mono HDR.out.size)))
        have x3 := bs_cellV HB1.out.2 ((cell_of_row _ _ 3 _ _ _ HO.out.1).trans rfl : w0.cell? ⟨x, 3, none⟩ = some (.slice (some ⟨b1, o1, none⟩) N c))
        clear hb1
        cases e
        · have HN2 := Lib.hid (show findL (m.list.drop (k + 2)) key = D by have h := HS.out.1; rw [if_neg (of_decide_eq_false HS.out.2)] at h; exact h.symm)
          go_wp2_with fail
          go_roundw
          case rel => exact ⟨k + 2, by omega, by go_num, HN2.out, HB1.out.2⟩
          case measure => simp [intOf]; omega
        · have HDV := Lib.hid (show D = some m.list[k + 1] by have h := HS.out.1; rw [if_pos (of_decide_eq_true HS.out.2)] at h; exact h)
          have hyw : (m.list[k + 1]).wt ≤ 1000000 := by have := V.wt_lt (List.getElem_mem kb); have := HW.out; omega
          have hta := HPD.out.1
          have hia := HPD.out.2.blw HB1.out.1
          generalize m.list[k + 1] = ya at *
          obtain ⟨d0, d1, d2, d3, d4⟩ := part_cells (rangeAt_blw hta HB1.out.1)
          obtain ⟨pa, ca, hsa, _⟩ := hia.slice
          subst hsa
          obtain ⟨na, hna⟩ : ∃ na, ya.list.length = na := ⟨_, rfl⟩
          rw [hna] at d3 hia
          have hcp := copied_on ya w1 _ hia hyw
          have HCP := Lib.hid hcp
          have HNA := Lib.hid hna
          clear hta hia hcp hyw hna
          go_wp2_with fail
          refine HCP.out.mono ?_
          clear d0 d1 d2 d3 d4 x3
          rintro e' w2 ⟨t2, F2, rfl, hvo, hb2⟩
          obtain ⟨p2, c2, hs2, _, _⟩ := hvo.slice
          rw [HNA.out] at hs2
          subst hs2
          have hB2 := HB1.out.2.trans (hb2.mono HB1.out.2.size)
          have oz2 := (hB2.block z (Array.getElem?_eq_some_iff.1 HO.out.2.2).1).trans HO.out.2.2
          have hFz : ¬ F2 z := fun q => by have h1 := (hvo.lt z q).1; have h2 := (Array.getElem?_eq_some_iff.1 HO.out.2.2).1; have h3 := HB1.out.2.size; omega
          have HH := Lib.hid (And.intro hvo (And.intro hB2 (And.intro hFz oz2)))
          clear hvo hb2 hB2 hFz
          go_wp2_with (refine wpList_store_rowTo rfl 25 (.tmp 4) (.tmp 32) rfl rfl z #[.int .i64 ya.kind, .int .u64 ya.num, .string ya.text, (.slice p2 na c2), .int .i64 ya.elem] rfl rfl 25 #[.int .i64 0, .int .u64 0, .string ⟨#[]⟩, .slice none 0 0, .int .i64 0] oz2 (by as_aux_lemma => kernel_rfl) (by as_aux_lemma => kernel_rfl) (by simp [Value.oneCell']) ?_)
          obtain ⟨hvo, hB2, hFz, oz3⟩ := HH.out
          have hh := setRow_heap w2 z _ #[.int .i64 ya.kind, .int .u64 ya.num, .string ya.text, (.slice p2 na c2), .int .i64 ya.elem] _ _ oz3
          have hB := below_setRow (HB0.out.1.trans (hB2.mono HB0.out.1.size)) HB0.out.2.1 #[.int .i64 ya.kind, .int .u64 ya.num, .string ya.text, (.slice p2 na c2), .int .i64 ya.elem]
          have hvo2 := (hvo.mono (Nat.le_trans HB0.out.1.size HB1.out.2.size)).keep (w' := w2.setRow z #[.int .i64 ya.kind, .int .u64 ya.num, .string ya.text, (.slice p2 na c2), .int .i64 ya.elem]) (fun b hb => setRow_other w2 z b _ (fun e => hFz (e ▸ hb)))
          have k0 := (cell_of_row _ _ 0 _ _ _ hh).trans rfl
          have k1 := (cell_of_row _ _ 1 _ _ _ hh).trans rfl
          have k2 := (cell_of_row _ _ 2 _ _ _ hh).trans rfl
          have k3 := (cell_of_row _ _ 3 _ _ _ hh).trans rfl
          have k4 := (cell_of_row _ _ 4 _ _ _ hh).trans rfl
          refine bodyPost_ret (v := .tuple #[.agg #[.int .i64 ya.kind, .int .u64 ya.num, .string ya.text, (.slice p2 na c2), .int .i64 ya.elem], .bool true]) ?_ rfl ?_
          · simp [results, Tryd.f39, go_sem, k0, k1, k2, k3, k4]
          · exact .inr ⟨ya, _, F2, HDV.out, rfl, hvo2, hB⟩
      · have HE := Lib.hid (show D = none by rw [← HR.out.1]; exact findL_end (by rw [HN.out.1]; omega) key)
        go_wp2_with (refine wpList_store_rowTo rfl 25 (.tmp 4) (.tmp 33) rfl rfl z #[.int .i64 0, .int .u64 0, .string ⟨#[]⟩, .slice none 0 0, .int .i64 0] rfl rfl 25 #[.int .i64 0, .int .u64 0, .string ⟨#[]⟩, .slice none 0 0, .int .i64 0] oz (by as_aux_lemma => kernel_rfl) (by as_aux_lemma => kernel_rfl) (by simp [Value.oneCell']) ?_)
        have hh := setRow_heap wr z _ #[.int .i64 0, .int .u64 0, .string ⟨#[]⟩, .slice none 0 0, .int .i64 0] _ _ HZ.out
        have hB := below_setRow (HB0.out.1.trans (HR.out.2.mono HB0.out.1.size)) HB0.out.2.1 #[.int .i64 0, .int .u64 0, .string ⟨#[]⟩, .slice none 0 0, .int .i64 0]
        have k0 := (cell_of_row _ _ 0 _ _ _ hh).trans rfl
        have k1 := (cell_of_row _ _ 1 _ _ _ hh).trans rfl
        have k2 := (cell_of_row _ _ 2 _ _ _ hh).trans rfl
        have k3 := (cell_of_row _ _ 3 _ _ _ hh).trans rfl
        have k4 := (cell_of_row _ _ 4 _ _ _ hh).trans rfl
        refine bodyPost_ret (v := .tuple #[.agg #[.int .i64 0, .int .u64 0, .string ⟨#[]⟩, .slice none 0 0, .int .i64 0], .bool false]) ?_ rfl ?_
        · simp [results, Tryd.f39, go_sem, k0, k1, k2, k3, k4]
        · exact .inl ⟨HE.out, rfl, hB⟩
  · have hkt : (m.kind == 22) = false := by simpa using hk
    have HDX := Lib.hid (show D = none by rw [← HD.out, findC, if_neg hk])
    clear hk
    have oz := HO.out.2.2
    go_wp2_with (refine wpList_store_rowTo rfl 25 (.tmp 4) (.tmp 10) rfl rfl z #[.int .i64 0, .int .u64 0, .string ⟨#[]⟩, .slice none 0 0, .int .i64 0] rfl rfl 25 #[.int .i64 0, .int .u64 0, .string ⟨#[]⟩, .slice none 0 0, .int .i64 0] oz (by as_aux_lemma => kernel_rfl) (by as_aux_lemma => kernel_rfl) (by simp [Value.oneCell']) ?_)
    have hh := setRow_heap w0 z _ #[.int .i64 0, .int .u64 0, .string ⟨#[]⟩, .slice none 0 0, .int .i64 0] _ _ HO.out.2.2
    have hB := below_setRow HB0.out.1 HB0.out.2.1 #[.int .i64 0, .int .u64 0, .string ⟨#[]⟩, .slice none 0 0, .int .i64 0]
    have k0 := (cell_of_row _ _ 0 _ _ _ hh).trans rfl
    have k1 := (cell_of_row _ _ 1 _ _ _ hh).trans rfl
    have k2 := (cell_of_row _ _ 2 _ _ _ hh).trans rfl
    have k3 := (cell_of_row _ _ 3 _ _ _ hh).trans rfl
    have k4 := (cell_of_row _ _ 4 _ _ _ hh).trans rfl
    refine bodyPost_ret (v := .tuple #[.agg #[.int .i64 0, .int .u64 0, .string ⟨#[]⟩, .slice none 0 0, .int .i64 0], .bool false]) ?_ rfl ?_
    · simp [results, Tryd.f39, go_sem, k0, k1, k2, k3, k4]
    · exact .inl ⟨HDX.out, rfl, hB⟩

set_option maxRecDepth 20000 in
set_option maxHeartbeats 4000000 in
theorem rfind_any (m key : V) (w : World) (s t : Value) (hm : VIn w m s) (hk : VIn w key t) (hwt : m.wt ≤ 1000000) :
    Calls Tryd.prog 40 #[.agg #[.int .i64 m.kind, .int .u64 m.num, .string m.text, s, .int .i64 m.elem], .agg #[.int .i64 key.kind, .int .u64 key.num, .string key.text, t, .int .i64 key.elem]] w (FindPost w (findC m key)) := by
  obtain ⟨p, c, hs, h1, h2, h3⟩ := hm.slice
  obtain ⟨q, d, ht, _⟩ := hk.slice
  obtain ⟨N, hN⟩ : ∃ N, m.list.length = N := ⟨_, rfl⟩
  obtain ⟨M, hM⟩ : ∃ M, key.list.length = M := ⟨_, rfl⟩
  rw [hN] at hs h1 h3
  rw [hM] at ht
  subst hs ht
  unfold maxLen at h2
  obtain ⟨D, hD⟩ : ∃ D, findC m key = D := ⟨_, rfl⟩
  rw [hD]
  have hNb : N ≤ 1000000 := by have := m.len_lt; omega
  have HD := Lib.hid hD
  have HV := Lib.hid (And.intro hm hk)
  have HN := Lib.hid (And.intro hN hM)
  have HW := Lib.hid hwt
  clear hm hk hN hM hwt hD
  go_enter Tryd.func40, Tryd.ntmps40
  go_upto_region 1 with fail
  have hb0 : Below w.heap.size w (((w.alloc (.cells #[.int .i64 m.kind, .int .u64 m.num, .string m.text, .slice p N c, .int .i64 m.elem] 25)).alloc (.cells #[.int .i64 key.kind, .int .u64 key.num, .string key.text, .slice q M d, .int .i64 key.elem] 25)).alloc (.cells #[.int .i64 0, .int .u64 0, .string ⟨#[]⟩, .slice none 0 0, .int .i64 0] 25)) := (((Below.refl _ _).alloc (Nat.le_refl _) _).alloc (by simp) _).alloc (by simp; omega) _
  have o0 : (((w.alloc (.cells #[.int .i64 m.kind, .int .u64 m.num, .string m.text, .slice p N c, .int .i64 m.elem] 25)).alloc (.cells #[.int .i64 key.kind, .int .u64 key.num, .string key.text, .slice q M d, .int .i64 key.elem] 25)).alloc (.cells #[.int .i64 0, .int .u64 0, .string ⟨#[]⟩, .slice none 0 0, .int .i64 0] 25)).heap[w.heap.size]? = some (.cells #[.int .i64 m.kind, .int .u64 m.num, .string m.text, .slice p N c, .int .i64 m.elem] 25 (0, 0)) := (_root_.Go.heap_alloc_old _ _ (by simp; omega)).trans ((_root_.Go.heap_alloc_old _ _ (by simp)).trans (_root_.Go.heap_alloc_new _ _))
  have o1 : (((w.alloc (.cells #[.int .i64 m.kind, .int .u64 m.num, .string m.text, .slice p N c, .int .i64 m.elem] 25)).alloc (.cells #[.int .i64 key.kind, .int .u64 key.num, .string key.text, .slice q M d, .int .i64 key.elem] 25)).alloc (.cells #[.int .i64 0, .int .u64 0, .string ⟨#[]⟩, .slice none 0 0, .int .i64 0] 25)).heap[w.heap.size + 1]? = some (.cells #[.int .i64 key.kind, .int .u64 key.num, .string key.text, .slice q M d, .int .i64 key.elem] 25 (0, 0)) := (_root_.Go.heap_alloc_old _ _ (by simp)).trans (by have := _root_.Go.heap_alloc_new (w.alloc (.cells #[.int .i64 m.kind, .int .u64 m.num, .string m.text, .slice p N c, .int .i64 m.elem] 25)) (.cells #[.int .i64 key.kind, .int .u64 key.num, .string key.text, .slice q M d, .int .i64 key.elem] 25); rwa [World.size_alloc] at this)
  have o2 : (((w.alloc (.cells #[.int .i64 m.kind, .int .u64 m.num, .string m.text, .slice p N c, .int .i64 m.elem] 25)).alloc (.cells #[.int .i64 key.kind, .int .u64 key.num, .string key.text, .slice q M d, .int .i64 key.elem] 25)).alloc (.cells #[.int .i64 0, .int .u64 0, .string ⟨#[]⟩, .slice none 0 0, .int .i64 0] 25)).heap[w.heap.size + 1 + 1]? = some (.cells #[.int .i64 0, .int .u64 0, .string ⟨#[]⟩, .slice none 0 0, .int .i64 0] 25 (0, 0)) := by have := _root_.Go.heap_alloc_new ((w.alloc (.cells #[.int .i64 m.kind, .int .u64 m.num, .string m.text, .slice p N c, .int .i64 m.elem] 25)).alloc (.cells #[.int .i64 key.kind, .int .u64 key.num, .string key.text, .slice q M d, .int .i64 key.elem] 25)) (.cells #[.int .i64 0, .int .u64 0, .string ⟨#[]⟩, .slice none 0 0, .int .i64 0] 25); rwa [World.size_alloc, World.size_alloc] at this
  generalize (((w.alloc (.cells #[.int .i64 m.kind, .int .u64 m.num, .string m.text, .slice p N c, .int .i64 m.elem] 25)).alloc (.cells #[.int .i64 key.kind, .int .u64 key.num, .string key.text, .slice q M d, .int .i64 key.elem] 25)).alloc (.cells #[.int .i64 0, .int .u64 0, .string ⟨#[]⟩, .slice none 0 0, .int .i64 0] 25)) = w0 at *
  obtain ⟨x, hx⟩ : ∃ x, w.heap.size = x := ⟨_, rfl⟩
  rw [hx] at o0 o1 o2 ⊢
  obtain ⟨y, hy⟩ : ∃ y, x + 1 = y := ⟨_, rfl⟩
  rw [hy] at o1 o2 ⊢
  obtain ⟨z, hz⟩ : ∃ z, y + 1 = z := ⟨_, rfl⟩
  rw [hz] at o2 ⊢
  have HB0 := Lib.hid (And.intro hb0 (And.intro (show w.heap.size ≤ z by omega) (show x ≠ z ∧ y ≠ z by omega)))
  have HO := Lib.hid (And.intro o0 (And.intro o1 o2))
  clear hb0 o0 o1 o2 hx hy hz
  have x0 : w0.cell? ⟨x, 0, none⟩ = some (.int .i64 m.kind) := (cell_of_row _ _ 0 _ _ _ HO.out.1).trans rfl
  have x3 : w0.cell? ⟨x, 3, none⟩ = some (.slice p N c) := (cell_of_row _ _ 3 _ _ _ HO.out.1).trans rfl
  by_cases hk : m.kind = 22
  · have hkt : (m.kind == 22) = true := by simpa using hk
    have HDX := Lib.hid (show findL (m.list.drop 0) key = D by rw [List.drop_zero, ← HD.out, findC, if_pos hk])
    have hkn : (m.kind != 22) = false := by simpa using hk
    clear hk
    go_wp2_with fail
    go_loopw [6] (fun v6 wr => ∃ k : Nat, k ≤ N + 1 ∧ v6 = .int .i64 k ∧ findL (m.list.drop k) key = D ∧ Below w0.heap.size w0 wr) (fun v6 _ => N + 2 - (intOf v6).toNat)
    case atStart => exact ⟨0, by omega, rfl, HDX.out, Below.refl _ _⟩
    case round =>
      obtain ⟨k, hk', rfl, hrest, hb⟩ := hrel
      have HR := Lib.hid (And.intro hrest hb)
      have x3 := bs_cellV hb x3
      have oz := (hb.block z (Array.getElem?_eq_some_iff.1 HO.out.2.2).1).trans HO.out.2.2
      have HZ := Lib.hid oz
      clear hrest hb x0
      by_cases hkN : (k : Int) + 1 < N
      · have k0 : (k : Int) < N := by omega
        have ka : k < m.list.length := by rw [HN.out.1]; omega
        have kb : k + 1 < m.list.length := by rw [HN.out.1]; omega
        obtain ⟨b1, o1, rfl⟩ := h3 (by omega)
        have hB := HB0.out.1.trans (HR.out.2.mono HB0.out.1.size)
        obtain ⟨ta, hta, hia⟩ := (HV.out.1.blw hB).part rfl ka
        obtain ⟨tb, htb, hib⟩ := (HV.out.1.blw hB).part rfl kb
        obtain ⟨c0, c1, c2, c3, c4⟩ := part_cells hta
        have oy := (HR.out.2.block y (Array.getElem?_eq_some_iff.1 HO.out.2.1).1).trans HO.out.2.1
        have y0 : wr.cell? ⟨y, 0, none⟩ = some (.int .i64 key.kind) := (cell_of_row _ _ 0 _ _ _ oy).trans rfl
        have y1 : wr.cell? ⟨y, 1, none⟩ = some (.int .u64 key.num) := (cell_of_row _ _ 1 _ _ _ oy).trans rfl
        have y2 : wr.cell? ⟨y, 2, none⟩ = some (.string key.text) := (cell_of_row _ _ 2 _ _ _ oy).trans rfl
        have y3 : wr.cell? ⟨y, 3, none⟩ = some (.slice q M d) := (cell_of_row _ _ 3 _ _ _ oy).trans rfl
        have y4 : wr.cell? ⟨y, 4, none⟩ = some (.int .i64 key.elem) := (cell_of_row _ _ 4 _ _ _ oy).trans rfl
        have hd : Below wr.heap.size wr wr.drew := ⟨rfl, rfl, rfl, Nat.le_refl _, fun _ _ => rfl⟩
        have hc := requal_any m.list[k] wr.drew ta key _ (hia.blw hd) ((HV.out.2.blw hB).blw hd)
        have hstep := findL_drop kb key
        rw [HR.out.1] at hstep
        obtain ⟨e, he⟩ : ∃ e, decide (m.list[k] = key) = e := ⟨_, rfl⟩
        rw [he] at hc
        have HS := Lib.hid (And.intro hstep he)
        have HP := Lib.hid (And.intro htb hib)
        have HC := Lib.hid hc
        clear hB hta htb hia hib hd hc hstep he oy
        go_wp2_with fail
        go_still_tail 6, (by kernel_rfl)
        change wpList _ _ _ _ _ wr.drew
        have HDR : Hid (Below w0.heap.size w0 wr.drew) := Lib.hid ⟨HR.out.2.os, HR.out.2.tape, HR.out.2.output, HR.out.2.size, HR.out.2.block⟩
        have HPD : Hid (wr.drew.rangeAt b1 (o1 + (k + 1) * 5) (vcells m.list[k + 1] tb) ∧ VIn wr.drew m.list[k + 1] tb) := Lib.hid ⟨HP.out.1, HP.out.2.blw ⟨rfl, rfl, rfl, Nat.le_refl _, fun _ _ => rfl⟩⟩
        generalize wr.drew = wd at *
        go_wp2_with fail
        refine HC.out.mono ?_
        clear c0 c1 c2 c3 c4 y0 y1 y2 y3 y4 oz
        rintro e' w1 ⟨rfl, hb1⟩
        have HB1 := Lib.hid (And.intro hb1 (HDR.out.trans (hb1.mono HDR.out.size)))
        have x3 := bs_cellV HB1.out.2 ((cell_of_row _ _ 3 _ _ _ HO.out.1).trans rfl : w0.cell? ⟨x, 3, none⟩ = some (.slice (some ⟨b1, o1, none⟩) N c))
        clear hb1
        cases e
        · have HN2 := Lib.hid (show findL (m.list.drop (k + 2)) key = D by have h := HS.out.1; rw [if_neg (of_decide_eq_false HS.out.2)] at h; exact h.symm)
          go_wp2_with fail
          go_roundw
          case rel => exact ⟨k + 2, by omega, by go_num, HN2.out, HB1.out.2⟩
          case measure => simp [intOf]; omega
        · have HDV := Lib.hid (show D = some m.list[k + 1] by have h := HS.out.1; rw [if_pos (of_decide_eq_true HS.out.2)] at h; exact h)
          have hyw : (m.list[k + 1]).wt ≤ 1000000 := by have := V.wt_lt (List.getElem_mem kb); have := HW.out; omega
          have hta := HPD.out.1
          have hia := HPD.out.2.blw HB1.out.1
          generalize m.list[k + 1] = ya at *
          obtain ⟨d0, d1, d2, d3, d4⟩ := part_cells (rangeAt_blw hta HB1.out.1)
          obtain ⟨pa, ca, hsa, _⟩ := hia.slice
          subst hsa
          obtain ⟨na, hna⟩ : ∃ na, ya.list.length = na := ⟨_, rfl⟩
          rw [hna] at d3 hia
          have hcp := rcopied_on ya w1 _ hia hyw
          have HCP := Lib.hid hcp
          have HNA := Lib.hid hna
          clear hta hia hcp hyw hna
          go_wp2_with fail
          refine HCP.out.mono ?_
          clear d0 d1 d2 d3 d4 x3
          rintro e' w2 ⟨t2, F2, rfl, hvo, hb2⟩
          obtain ⟨p2, c2, hs2, _, _⟩ := hvo.slice
          rw [HNA.out] at hs2
          subst hs2
          have hB2 := HB1.out.2.trans (hb2.mono HB1.out.2.size)
          have oz2 := (hB2.block z (Array.getElem?_eq_some_iff.1 HO.out.2.2).1).trans HO.out.2.2
          have hFz : ¬ F2 z := fun q => by have h1 := (hvo.lt z q).1; have h2 := (Array.getElem?_eq_some_iff.1 HO.out.2.2).1; have h3 := HB1.out.2.size; omega
          have HH := Lib.hid (And.intro hvo (And.intro hB2 (And.intro hFz oz2)))
          clear hvo hb2 hB2 hFz
          go_wp2_with (refine wpList_store_rowTo rfl 25 (.tmp 4) (.tmp 34) rfl rfl z #[.int .i64 ya.kind, .int .u64 ya.num, .string ya.text, (.slice p2 na c2), .int .i64 ya.elem] rfl rfl 25 #[.int .i64 0, .int .u64 0, .string ⟨#[]⟩, .slice none 0 0, .int .i64 0] oz2 (by as_aux_lemma => kernel_rfl) (by as_aux_lemma => kernel_rfl) (by simp [Value.oneCell']) ?_)
          obtain ⟨hvo, hB2, hFz, oz3⟩ := HH.out
          have hh := setRow_heap w2 z _ #[.int .i64 ya.kind, .int .u64 ya.num, .string ya.text, (.slice p2 na c2), .int .i64 ya.elem] _ _ oz3
          have hB := below_setRow (HB0.out.1.trans (hB2.mono HB0.out.1.size)) HB0.out.2.1 #[.int .i64 ya.kind, .int .u64 ya.num, .string ya.text, (.slice p2 na c2), .int .i64 ya.elem]
          have hvo2 := (hvo.mono (Nat.le_trans HB0.out.1.size HB1.out.2.size)).keep (w' := w2.setRow z #[.int .i64 ya.kind, .int .u64 ya.num, .string ya.text, (.slice p2 na c2), .int .i64 ya.elem]) (fun b hb => setRow_other w2 z b _ (fun e => hFz (e ▸ hb)))
          have k0 := (cell_of_row _ _ 0 _ _ _ hh).trans rfl
          have k1 := (cell_of_row _ _ 1 _ _ _ hh).trans rfl
          have k2 := (cell_of_row _ _ 2 _ _ _ hh).trans rfl
          have k3 := (cell_of_row _ _ 3 _ _ _ hh).trans rfl
          have k4 := (cell_of_row _ _ 4 _ _ _ hh).trans rfl
          refine bodyPost_ret (v := .tuple #[.agg #[.int .i64 ya.kind, .int .u64 ya.num, .string ya.text, (.slice p2 na c2), .int .i64 ya.elem], .bool true]) ?_ rfl ?_
          · simp [results, Tryd.f40, go_sem, k0, k1, k2, k3, k4]
          · exact .inr ⟨ya, _, F2, HDV.out, rfl, hvo2, hB⟩
      · have HE := Lib.hid (show D = none by rw [← HR.out.1]; exact findL_end (by rw [HN.out.1]; omega) key)
        go_wp2_with (refine wpList_store_rowTo rfl 25 (.tmp 4) (.tmp 35) rfl rfl z #[.int .i64 0, .int .u64 0, .string ⟨#[]⟩, .slice none 0 0, .int .i64 0] rfl rfl 25 #[.int .i64 0, .int .u64 0, .string ⟨#[]⟩, .slice none 0 0, .int .i64 0] oz (by as_aux_lemma => kernel_rfl) (by as_aux_lemma => kernel_rfl) (by simp [Value.oneCell']) ?_)
        have hh := setRow_heap wr z _ #[.int .i64 0, .int .u64 0, .string ⟨#[]⟩, .slice none 0 0, .int .i64 0] _ _ HZ.out
        have hB := below_setRow (HB0.out.1.trans (HR.out.2.mono HB0.out.1.size)) HB0.out.2.1 #[.int .i64 0, .int .u64 0, .string ⟨#[]⟩, .slice none 0 0, .int .i64 0]
        have k0 := (cell_of_row _ _ 0 _ _ _ hh).trans rfl
        have k1 := (cell_of_row _ _ 1 _ _ _ hh).trans rfl
        have k2 := (cell_of_row _ _ 2 _ _ _ hh).trans rfl
        have k3 := (cell_of_row _ _ 3 _ _ _ hh).trans rfl
        have k4 := (cell_of_row _ _ 4 _ _ _ hh).trans rfl
        refine bodyPost_ret (v := .tuple #[.agg #[.int .i64 0, .int .u64 0, .string ⟨#[]⟩, .slice none 0 0, .int .i64 0], .bool false]) ?_ rfl ?_
        · simp [results, Tryd.f40, go_sem, k0, k1, k2, k3, k4]
        · exact .inl ⟨HE.out, rfl, hB⟩
  · have hkt : (m.kind == 22) = false := by simpa using hk
    have HDX := Lib.hid (show D = none by rw [← HD.out, findC, if_neg hk])
    clear hk
    have oz := HO.out.2.2
    go_wp2_with (refine wpList_store_rowTo rfl 25 (.tmp 4) (.tmp 11) rfl rfl z #[.int .i64 0, .int .u64 0, .string ⟨#[]⟩, .slice none 0 0, .int .i64 0] rfl rfl 25 #[.int .i64 0, .int .u64 0, .string ⟨#[]⟩, .slice none 0 0, .int .i64 0] oz (by as_aux_lemma => kernel_rfl) (by as_aux_lemma => kernel_rfl) (by simp [Value.oneCell']) ?_)
    have hh := setRow_heap w0 z _ #[.int .i64 0, .int .u64 0, .string ⟨#[]⟩, .slice none 0 0, .int .i64 0] _ _ HO.out.2.2
    have hB := below_setRow HB0.out.1 HB0.out.2.1 #[.int .i64 0, .int .u64 0, .string ⟨#[]⟩, .slice none 0 0, .int .i64 0]
    have k0 := (cell_of_row _ _ 0 _ _ _ hh).trans rfl
    have k1 := (cell_of_row _ _ 1 _ _ _ hh).trans rfl
    have k2 := (cell_of_row _ _ 2 _ _ _ hh).trans rfl
    have k3 := (cell_of_row _ _ 3 _ _ _ hh).trans rfl
    have k4 := (cell_of_row _ _ 4 _ _ _ hh).trans rfl
    refine bodyPost_ret (v := .tuple #[.agg #[.int .i64 0, .int .u64 0, .string ⟨#[]⟩, .slice none 0 0, .int .i64 0], .bool false]) ?_ rfl ?_
    · simp [results, Tryd.f40, go_sem, k0, k1, k2, k3, k4]
    · exact .inl ⟨HDX.out, rfl, hB⟩


end Go.Proofs.YtakbgekamjpibaaDoor
