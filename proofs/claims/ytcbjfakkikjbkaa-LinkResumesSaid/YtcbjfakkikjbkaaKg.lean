/-
  terms.Same. Conditions: the states lie in memory.
-/
import Derived.Test.YtcbjfakkikjbkaaKd
import Derived.Test.YtcbjfakkikjbkaaVc
namespace Go.Proofs.Ytcbjfakkikjbkaa
open Go.RowKit
set_option linter.all false

theorem list_ext_s {a b : List St} (hl : a.length = b.length) (h : ∀ j (h1 : j < a.length) (h2 : j < b.length), a[j] = b[j]) : a = b := List.ext_getElem hl h
/-- two states are compared, the second function handed on -/
def SameOn (a : St) : Prop := ∀ (w : World) (s : Sl) (b : St) (t : Sl), SIn w a s → SIn w b t →
    Calls Try.prog 38 #[.agg (sarr a s), .agg (sarr b t)] w fun e w' => e = .returned (.bool (decide (a = b))) ∧ Below w.heap.size w w'
def farr (a : St) (s : Value) : Array Value := #[.string a.cond, .string a.text, .int .i64 a.info.kind, .int .u64 a.info.num, .string a.info.text, s, .int .i64 a.info.elem]

set_option maxRecDepth 20000 in
set_option maxHeartbeats 8000000 in
theorem sameFault_any (w : World) (a b : St) (s t : Value) (h : VIn w a.info s) (hb : VIn w b.info t) :
    Calls Try.prog 47 #[.agg (farr a s), .agg (farr b t)] w fun e w' => e = .returned (.bool (decide (a.cond = b.cond ∧ a.text = b.text ∧ a.info = b.info))) ∧ Below w.heap.size w w' := by
  have HV := Lib.hid (And.intro h hb)
  obtain ⟨D, hD⟩ : ∃ D, decide (a.cond = b.cond ∧ a.text = b.text ∧ a.info = b.info) = D := ⟨_, rfl⟩
  rw [hD]
  have HD := Lib.hid hD
  have HEQ := Lib.hid (equal_on a.info)
  obtain ⟨ps, cs, hs, _⟩ := h.slice
  obtain ⟨pt, ct, ht, _⟩ := hb.slice
  obtain ⟨ns, hns⟩ : ∃ n, a.info.list.length = n := ⟨_, rfl⟩
  obtain ⟨nt, hnt⟩ : ∃ n, b.info.list.length = n := ⟨_, rfl⟩
  rw [hns] at hs
  rw [hnt] at ht
  subst hs ht
  clear hD h hb hns hnt
  go_enter Try.func47, Try.ntmps47
  go_upto_region 1 with fail
  obtain ⟨w0, x, y, e0, hx, hy, hz, hb0, ox, oy⟩ := box2 w (farr a (.slice ps ns cs)) (farr b (.slice pt nt ct)) 30 30
  change Code.wp _ _ _ _ ((w.alloc (.cells (farr a (.slice ps ns cs)) 30)).alloc (.cells (farr b (.slice pt nt ct)) 30))
  rw [e0, hx, hy]
  have HB0 := Lib.hid hb0
  have HO0 := Lib.hid (And.intro ox oy)
  clear e0 hx hy hz hb0 ox oy
  have x0 : w0.cell? ⟨x, 0, none⟩ = some (.string a.cond) := (cell_of_row _ _ 0 _ _ _ HO0.out.1).trans rfl
  have y0 : w0.cell? ⟨y, 0, none⟩ = some (.string b.cond) := (cell_of_row _ _ 0 _ _ _ HO0.out.2).trans rfl
  have x1 : w0.cell? ⟨x, 1, none⟩ = some (.string a.text) := (cell_of_row _ _ 1 _ _ _ HO0.out.1).trans rfl
  have y1 : w0.cell? ⟨y, 1, none⟩ = some (.string b.text) := (cell_of_row _ _ 1 _ _ _ HO0.out.2).trans rfl
  have x2 : w0.cell? ⟨x, 2, none⟩ = some (.int .i64 a.info.kind) := (cell_of_row _ _ 2 _ _ _ HO0.out.1).trans rfl
  have y2 : w0.cell? ⟨y, 2, none⟩ = some (.int .i64 b.info.kind) := (cell_of_row _ _ 2 _ _ _ HO0.out.2).trans rfl
  have x3 : w0.cell? ⟨x, 3, none⟩ = some (.int .u64 a.info.num) := (cell_of_row _ _ 3 _ _ _ HO0.out.1).trans rfl
  have y3 : w0.cell? ⟨y, 3, none⟩ = some (.int .u64 b.info.num) := (cell_of_row _ _ 3 _ _ _ HO0.out.2).trans rfl
  have x4 : w0.cell? ⟨x, 4, none⟩ = some (.string a.info.text) := (cell_of_row _ _ 4 _ _ _ HO0.out.1).trans rfl
  have y4 : w0.cell? ⟨y, 4, none⟩ = some (.string b.info.text) := (cell_of_row _ _ 4 _ _ _ HO0.out.2).trans rfl
  have x5 : w0.cell? ⟨x, 5, none⟩ = some (.slice ps ns cs) := (cell_of_row _ _ 5 _ _ _ HO0.out.1).trans rfl
  have y5 : w0.cell? ⟨y, 5, none⟩ = some (.slice pt nt ct) := (cell_of_row _ _ 5 _ _ _ HO0.out.2).trans rfl
  have x6 : w0.cell? ⟨x, 6, none⟩ = some (.int .i64 a.info.elem) := (cell_of_row _ _ 6 _ _ _ HO0.out.1).trans rfl
  have y6 : w0.cell? ⟨y, 6, none⟩ = some (.int .i64 b.info.elem) := (cell_of_row _ _ 6 _ _ _ HO0.out.2).trans rfl
  by_cases h : a.cond = b.cond
  · have e_cond : (a.cond.toList == b.cond.toList) = true := by rw [teq]; exact decide_eq_true h
    have He_cond := Lib.hid h
    clear h
    by_cases h : a.text = b.text
    · have e_text : (a.text.toList == b.text.toList) = true := by rw [teq]; exact decide_eq_true h
      have He_text := Lib.hid h
      clear h
      have hc := HEQ.out w0 _ b.info _ (HV.out.1.blw HB0.out) (HV.out.2.blw HB0.out)
      have hDl : decide (a.info = b.info) = D := by
        rw [← HD.out, decide_eq_decide]
        exact ⟨fun q => ⟨He_cond.out, He_text.out, q⟩, fun q => q.2.2⟩
      rw [hDl] at hc
      clear hDl
      go_wp2_with fail
      refine hc.mono ?_
      clear hc
      rintro e w1 ⟨rfl, hb1⟩
      have HB1 := Lib.hid (HB0.out.trans (hb1.mono HB0.out.size))
      clear hb1
      go_wp2_with fail
      go_ret
      exact ⟨rfl, HB1.out⟩
    · have e_text : (a.text.toList == b.text.toList) = false := by rw [teq]; exact decide_eq_false h
      have hDf : D = false := by rw [← HD.out]; exact decide_eq_false (fun q => h (by exact q.2.1))
      subst hDf
      clear h
      go_wp2_with fail
      all_goals
        go_ret
        exact ⟨rfl, HB0.out⟩
  · have e_cond : (a.cond.toList == b.cond.toList) = false := by rw [teq]; exact decide_eq_false h
    have hDf : D = false := by rw [← HD.out]; exact decide_eq_false (fun q => h (by exact q.1))
    subst hDf
    clear h
    go_wp2_with fail
    all_goals
      go_ret
      exact ⟨rfl, HB0.out⟩
set_option maxRecDepth 20000 in
set_option maxHeartbeats 4000000 in
theorem eqfuncS_any (a : St) (ih : ∀ x ∈ a.inner, SameOn x) (w : World) (s : Sl) (b : St) (t : Sl) (h : SIn w a s) (hb : SIn w b t) :
    Calls Try.prog 49 #[s.l, t.l, .func (.func 38) #[] #[]] w fun e w' => e = .returned (.bool (decide (a.inner = b.inner))) ∧ Below w.heap.size w w' := by
  obtain ⟨p, c, hs, h1, h2, h3⟩ := h.slice
  obtain ⟨q, d, ht, k1, k2, k3⟩ := hb.slice
  obtain ⟨N, hN⟩ : ∃ N, a.inner.length = N := ⟨_, rfl⟩
  obtain ⟨M, hM⟩ : ∃ M, b.inner.length = M := ⟨_, rfl⟩
  rw [hN] at hs h1 h3
  rw [hM] at ht k1 k3
  rw [hs, ht]
  unfold maxLen at h2 k2
  obtain ⟨D, hD⟩ : ∃ D, decide (a.inner = b.inner) = D := ⟨_, rfl⟩
  rw [hD]
  have HD := Lib.hid hD
  clear hD
  have HI := Lib.hid ih
  have HN := Lib.hid (And.intro hN hM)
  have HV := Lib.hid (And.intro h hb)
  have HS0 := Lib.hid (And.intro hs ht)
  clear ih h hb hN hM hs ht
  go_enter Try.func49, Try.ntmps49
  by_cases hNM : N = M
  · have hNMi : (N : Int) = M := by omega
    have HNM := Lib.hid hNM
    go_wp2_with fail
    clear hNMi hNM
    go_loopw [17] (fun v5 wr => ∃ k : Nat, k ≤ N ∧ v5 = .int .i64 k ∧ (∀ j (j1 : j < a.inner.length) (j2 : j < b.inner.length), j < k → a.inner[j] = b.inner[j]) ∧ Below w.heap.size w wr) (fun v5 _ => N - (intOf v5).toNat)
    case atStart => exact ⟨0, Nat.zero_le _, rfl, fun j _ _ h => by omega, Below.refl _ _⟩
    case round =>
      obtain ⟨k, hk', rfl, hsame, hbw⟩ := hrel
      have HR := Lib.hid (And.intro hsame hbw)
      clear hsame hbw
      by_cases hkN : (k : Int) < N
      · have ka : k < a.inner.length := by rw [HN.out.1]; omega
        have kb : k < b.inner.length := by have := HNM.out; rw [HN.out.2]; omega
        have hkM : (k : Int) < M := by have := HNM.out; omega
        obtain ⟨b1, o1, rfl⟩ := h3 (by omega)
        obtain ⟨b2, o2, rfl⟩ := k3 (by have := HNM.out; omega)
        obtain ⟨ta, hta, hia⟩ := (HV.out.1.blw HR.out.2).part HS0.out.1 ka
        obtain ⟨tb, htb, hib⟩ := (HV.out.2.blw HR.out.2).part HS0.out.2 kb
        have HIK := Lib.hid (HI.out _ (List.getElem_mem ka))
        have HS := Lib.hid (show ∀ j (j1 : j < a.inner.length) (j2 : j < b.inner.length), j < k + 1 → (decide (a.inner[k] = b.inner[k])) = true → a.inner[j] = b.inner[j] from fun j j1 j2 hj he => by
          by_cases e : j = k
          · subst e; exact of_decide_eq_true he
          · exact HR.out.1 j j1 j2 (by omega))
        have HF := Lib.hid (show (decide (a.inner[k] = b.inner[k])) = false → D = false from fun he => by
          rw [← HD.out]
          exact decide_eq_false (fun q => of_decide_eq_false he (by simp only [q])))
        generalize a.inner[k] = ya at *
        generalize b.inner[k] = yb at *
        have HP := Lib.hid (And.intro hia hib)
        obtain ⟨A1, hA1⟩ : ∃ E, sarr ya ta = E := ⟨_, rfl⟩
        obtain ⟨B1, hB1⟩ : ∃ E, sarr yb tb = E := ⟨_, rfl⟩
        have HAB := Lib.hid (And.intro hA1 hB1)
        have HTA := Lib.hid (show wr.rangeAt b1 (o1 + k * 19) A1.toList by rw [← hA1]; exact hta)
        have HZA := Lib.hid (show (Try.prog.info? 33).map (·.size) = some A1.toList.length by rw [← hA1]; exact size_state)
        have HZA2 := Lib.hid (show (Try.prog.info? 33).map (·.size) = some A1.size by rw [← hA1]; exact size_state)
        have HOA := Lib.hid (show A1.all (·.oneCell') = true by rw [← hA1]; exact sarr_one hia)
        have HZB := Lib.hid (show (Try.prog.info? 33).map (·.size) = some B1.toList.length by rw [← hB1]; exact size_state)
        have HZB2 := Lib.hid (show (Try.prog.info? 33).map (·.size) = some B1.size by rw [← hB1]; exact size_state)
        have HOB := Lib.hid (show B1.all (·.oneCell') = true by rw [← hB1]; exact sarr_one hib)
        have HTB := Lib.hid (show wr.rangeAt b2 (o2 + k * 19) B1.toList by rw [← hB1]; exact htb)
        clear hta htb hia hib hA1 hB1
        go_upto_region 6 with (first
          | (refine wpList_load_midTo rfl 33 (.tmp 20) rfl (some 21) rfl b1 (o1 + k * 19) rfl A1 _ HTA.out Try.underlying33 rfl HZA.out ?_)
          | (refine wpList_store_rowTo rfl 33 (.tmp 8) (.tmp 21) rfl rfl wr.heap.size A1 rfl rfl 33 (sarr zS default) (_root_.Go.heap_alloc_new wr _) HZA2.out (by rw [← HAB.out.1]; rfl) HOA.out ?_))
        have hb_w1 : Below wr.heap.size wr ((wr.alloc (.cells (sarr zS default) 33)).setRow wr.heap.size A1) := below_setRow ((Below.refl _ _).alloc (Nat.le_refl _) _) (Nat.le_refl _) _
        have ox := setRow_heap (wr.alloc (.cells (sarr zS default) 33)) wr.heap.size _ A1 _ _ (_root_.Go.heap_alloc_new wr _)
        change Code.wp _ _ _ _ ((wr.alloc (.cells (sarr zS default) 33)).setRow wr.heap.size A1)
        generalize ((wr.alloc (.cells (sarr zS default) 33)).setRow wr.heap.size A1) = w1 at *
        obtain ⟨x, hx_x⟩ : ∃ x, wr.heap.size = x := ⟨_, rfl⟩
        rw [hx_x] at ox ⊢
        clear hx_x
        have HTB1 := Lib.hid (show w1.rangeAt b2 (o2 + k * 19) B1.toList from fun j u hu => bs_cellV hb_w1 (HTB.out j u hu))
        have HB1 := Lib.hid (HR.out.2.trans (hb_w1.mono HR.out.2.size))
        have HP1 := Lib.hid (And.intro (HP.out.1.blw hb_w1) (HP.out.2.blw hb_w1))
        have HOX := Lib.hid ox
        clear hb_w1 ox
        go_upto_region 7 with (first
          | (refine wpList_load_midTo rfl 33 (.tmp 24) rfl (some 25) rfl b2 (o2 + k * 19) rfl B1 _ HTB1.out Try.underlying33 rfl HZB.out ?_)
          | (refine wpList_store_rowTo rfl 33 (.tmp 9) (.tmp 25) rfl rfl w1.heap.size B1 rfl rfl 33 (sarr zS default) (_root_.Go.heap_alloc_new w1 _) HZB2.out (by rw [← HAB.out.2]; rfl) HOB.out ?_))
        have hb_w2 : Below w1.heap.size w1 ((w1.alloc (.cells (sarr zS default) 33)).setRow w1.heap.size B1) := below_setRow ((Below.refl _ _).alloc (Nat.le_refl _) _) (Nat.le_refl _) _
        have oy := setRow_heap (w1.alloc (.cells (sarr zS default) 33)) w1.heap.size _ B1 _ _ (_root_.Go.heap_alloc_new w1 _)
        change Code.wp _ _ _ _ ((w1.alloc (.cells (sarr zS default) 33)).setRow w1.heap.size B1)
        generalize ((w1.alloc (.cells (sarr zS default) 33)).setRow w1.heap.size B1) = w2 at *
        obtain ⟨y, hx_y⟩ : ∃ x, w1.heap.size = x := ⟨_, rfl⟩
        rw [hx_y] at oy ⊢
        clear hx_y
        have HRX := Lib.hid (range_of_row ((hb_w2.block x (Array.getElem?_eq_some_iff.1 HOX.out).1).trans HOX.out))
        have HRY := Lib.hid (range_of_row oy)
        have HB2 := Lib.hid (HB1.out.trans (hb_w2.mono HB1.out.size))
        have hc := HIK.out
        unfold SameOn at hc
        have hc := hc w2 _ yb _ (HP1.out.1.blw hb_w2) (HP1.out.2.blw hb_w2)
        rw [HAB.out.1, HAB.out.2] at hc
        generalize decide (ya = yb) = z at hc HS HF
        clear hb_w2 oy
        have HC := Lib.hid hc
        clear hc
        go_wp2_with (first
          | (refine wpList_load_midTo rfl 33 (.tmp 8) rfl (some 27) rfl x 0 rfl A1 _ HRX.out Try.underlying33 rfl HZA.out ?_)
          | (refine wpList_load_midTo rfl 33 (.tmp 9) rfl (some 28) rfl y 0 rfl B1 _ HRY.out Try.underlying33 rfl HZB.out ?_))
        refine HC.out.mono ?_
        rintro e w3 ⟨rfl, hb3⟩
        have HB3 := Lib.hid (HB2.out.trans (hb3.mono HB2.out.size))
        clear hb3
        cases z
        · have hDf := HF.out rfl
          subst hDf
          go_wp2_with fail
          go_ret
          exact ⟨rfl, HB3.out⟩
        · go_wp2_with fail
          go_roundw
          case rel => exact ⟨k + 1, by omega, by go_num, fun j j1 j2 hj => HS.out j j1 j2 hj (by first | rfl | trivial), HB3.out⟩
          case measure => simp [intOf]; omega
      · have hDt : D = true := by
          rw [← HD.out]
          exact decide_eq_true (list_ext_s (by rw [HN.out.1, HN.out.2, HNM.out]) (fun j j1 j2 => HR.out.1 j j1 j2 (by have := HN.out.1; omega)))
        subst hDt
        have hkM : ¬ (k : Int) < M := by have := HNM.out; omega
        go_wp2_with fail
        go_ret
        exact ⟨rfl, HR.out.2⟩
  · have HNM := Lib.hid hNM
    have hNM2 : ¬ (N : Int) = M := by omega
    have hDf : D = false := by rw [← HD.out]; exact decide_eq_false (fun q => hNM (by rw [← HN.out.1, ← HN.out.2, q]))
    subst hDf
    clear hNM
    go_wp2_with fail
    all_goals
      go_ret
      exact ⟨rfl, Below.refl _ _⟩

set_option maxRecDepth 20000 in
set_option maxHeartbeats 8000000 in
theorem same_on : ∀ a : St, SameOn a := by
  refine St.ind (fun a ih w s b t h hb => ?_)
  have hef := eqfuncS_any a ih
  obtain ⟨p1, c1, h1, _⟩ := h.i.slice
  obtain ⟨p2, c2, h2, _⟩ := h.a.slice
  obtain ⟨p3, c3, h3, _⟩ := h.slice
  obtain ⟨q1, d1, k1, _⟩ := hb.i.slice
  obtain ⟨q2, d2, k2, _⟩ := hb.a.slice
  obtain ⟨q3, d3, k3, _⟩ := hb.slice
  obtain ⟨s1, s2, s3⟩ := s
  obtain ⟨t1, t2, t3⟩ := t
  simp only at h1 h2 h3 k1 k2 k3
  generalize a.info.list.length = n1 at h1
  generalize a.ann.list.length = n2 at h2
  generalize a.inner.length = n3 at h3
  generalize b.info.list.length = m1 at k1
  generalize b.ann.list.length = m2 at k2
  generalize b.inner.length = m3 at k3
  subst h1 h2 h3 k1 k2 k3
  obtain ⟨D, hD⟩ : ∃ D, decide (a = b) = D := ⟨_, rfl⟩
  rw [hD]
  have HD := Lib.hid hD
  have HEF := Lib.hid hef
  have HEQ := Lib.hid (equal_on a.ann)
  have HV := Lib.hid (And.intro h hb)
  clear hD hef ih h hb
  go_enter Try.func38, Try.ntmps38
  go_upto_region 1 with fail
  obtain ⟨w0, x, y, e0, hx, hy, hz, hb0, ox, oy⟩ := box2 w (sarr a ⟨.slice p1 n1 c1, .slice p2 n2 c2, .slice p3 n3 c3⟩) (sarr b ⟨.slice q1 m1 d1, .slice q2 m2 d2, .slice q3 m3 d3⟩) 33 33
  change Code.wp _ _ _ _ ((w.alloc (.cells (sarr a ⟨.slice p1 n1 c1, .slice p2 n2 c2, .slice p3 n3 c3⟩) 33)).alloc (.cells (sarr b ⟨.slice q1 m1 d1, .slice q2 m2 d2, .slice q3 m3 d3⟩) 33))
  rw [e0, hx, hy]
  have HB0 := Lib.hid hb0
  have HO0 := Lib.hid (And.intro ox oy)
  clear e0 hx hy hz hb0 ox oy
  have x0 : w0.cell? ⟨x, 0, none⟩ = some (.int .i64 a.kind) := (cell_of_row _ _ 0 _ _ _ HO0.out.1).trans rfl
  have y0 : w0.cell? ⟨y, 0, none⟩ = some (.int .i64 b.kind) := (cell_of_row _ _ 0 _ _ _ HO0.out.2).trans rfl
  have x1 : w0.cell? ⟨x, 1, none⟩ = some (.int .i64 a.sec) := (cell_of_row _ _ 1 _ _ _ HO0.out.1).trans rfl
  have y1 : w0.cell? ⟨y, 1, none⟩ = some (.int .i64 b.sec) := (cell_of_row _ _ 1 _ _ _ HO0.out.2).trans rfl
  have x2 : w0.cell? ⟨x, 2, none⟩ = some (.int .i64 a.off) := (cell_of_row _ _ 2 _ _ _ HO0.out.1).trans rfl
  have y2 : w0.cell? ⟨y, 2, none⟩ = some (.int .i64 b.off) := (cell_of_row _ _ 2 _ _ _ HO0.out.2).trans rfl
  have x3 : w0.cell? ⟨x, 3, none⟩ = some (.string a.cond) := (cell_of_row _ _ 3 _ _ _ HO0.out.1).trans rfl
  have y3 : w0.cell? ⟨y, 3, none⟩ = some (.string b.cond) := (cell_of_row _ _ 3 _ _ _ HO0.out.2).trans rfl
  have x4 : w0.cell? ⟨x, 4, none⟩ = some (.string a.text) := (cell_of_row _ _ 4 _ _ _ HO0.out.1).trans rfl
  have y4 : w0.cell? ⟨y, 4, none⟩ = some (.string b.text) := (cell_of_row _ _ 4 _ _ _ HO0.out.2).trans rfl
  have x5 : w0.cell? ⟨x, 5, none⟩ = some (.int .i64 a.info.kind) := (cell_of_row _ _ 5 _ _ _ HO0.out.1).trans rfl
  have y5 : w0.cell? ⟨y, 5, none⟩ = some (.int .i64 b.info.kind) := (cell_of_row _ _ 5 _ _ _ HO0.out.2).trans rfl
  have x6 : w0.cell? ⟨x, 6, none⟩ = some (.int .u64 a.info.num) := (cell_of_row _ _ 6 _ _ _ HO0.out.1).trans rfl
  have y6 : w0.cell? ⟨y, 6, none⟩ = some (.int .u64 b.info.num) := (cell_of_row _ _ 6 _ _ _ HO0.out.2).trans rfl
  have x7 : w0.cell? ⟨x, 7, none⟩ = some (.string a.info.text) := (cell_of_row _ _ 7 _ _ _ HO0.out.1).trans rfl
  have y7 : w0.cell? ⟨y, 7, none⟩ = some (.string b.info.text) := (cell_of_row _ _ 7 _ _ _ HO0.out.2).trans rfl
  have x8 : w0.cell? ⟨x, 8, none⟩ = some (.slice p1 n1 c1) := (cell_of_row _ _ 8 _ _ _ HO0.out.1).trans rfl
  have y8 : w0.cell? ⟨y, 8, none⟩ = some (.slice q1 m1 d1) := (cell_of_row _ _ 8 _ _ _ HO0.out.2).trans rfl
  have x9 : w0.cell? ⟨x, 9, none⟩ = some (.int .i64 a.info.elem) := (cell_of_row _ _ 9 _ _ _ HO0.out.1).trans rfl
  have y9 : w0.cell? ⟨y, 9, none⟩ = some (.int .i64 b.info.elem) := (cell_of_row _ _ 9 _ _ _ HO0.out.2).trans rfl
  by_cases h : a.kind = b.kind
  · have e_kind : (a.kind == b.kind) = true := by simpa using h
    have He_kind := Lib.hid h
    clear h
    by_cases h : a.sec = b.sec
    · have e_sec : (a.sec == b.sec) = true := by simpa using h
      have He_sec := Lib.hid h
      clear h
      by_cases h : a.off = b.off
      · have e_off : (a.off == b.off) = true := by simpa using h
        have He_off := Lib.hid h
        clear h
        have hc := sameFault_any w0 a b _ _ (HV.out.1.i.blw HB0.out) (HV.out.2.i.blw HB0.out)
        obtain ⟨z1, hz1⟩ : ∃ z, decide (a.cond = b.cond ∧ a.text = b.text ∧ a.info = b.info) = z := ⟨_, rfl⟩
        rw [hz1] at hc
        have HZz1 := Lib.hid hz1
        clear hz1
        go_wp2_with fail
        refine hc.mono ?_
        clear hc
        rintro e w1 ⟨rfl, hb1⟩
        have HB1 := Lib.hid (HB0.out.trans (hb1.mono HB0.out.size))
        have HO1 := Lib.hid (And.intro ((hb1.block x (Array.getElem?_eq_some_iff.1 HO0.out.1).1).trans HO0.out.1) ((hb1.block y (Array.getElem?_eq_some_iff.1 HO0.out.2).1).trans HO0.out.2))
        clear hb1
        clear x0 y0 x1 y1 x2 y2 x3 y3 x4 y4 x5 y5 x6 y6 x7 y7 x8 y8 x9 y9
        have x10 : w1.cell? ⟨x, 10, none⟩ = some (.bool a.failed) := (cell_of_row _ _ 10 _ _ _ HO1.out.1).trans rfl
        have y10 : w1.cell? ⟨y, 10, none⟩ = some (.bool b.failed) := (cell_of_row _ _ 10 _ _ _ HO1.out.2).trans rfl
        have x11 : w1.cell? ⟨x, 11, none⟩ = some (.bool a.els) := (cell_of_row _ _ 11 _ _ _ HO1.out.1).trans rfl
        have y11 : w1.cell? ⟨y, 11, none⟩ = some (.bool b.els) := (cell_of_row _ _ 11 _ _ _ HO1.out.2).trans rfl
        have x12 : w1.cell? ⟨x, 12, none⟩ = some (.int .i64 a.ann.kind) := (cell_of_row _ _ 12 _ _ _ HO1.out.1).trans rfl
        have y12 : w1.cell? ⟨y, 12, none⟩ = some (.int .i64 b.ann.kind) := (cell_of_row _ _ 12 _ _ _ HO1.out.2).trans rfl
        have x13 : w1.cell? ⟨x, 13, none⟩ = some (.int .u64 a.ann.num) := (cell_of_row _ _ 13 _ _ _ HO1.out.1).trans rfl
        have y13 : w1.cell? ⟨y, 13, none⟩ = some (.int .u64 b.ann.num) := (cell_of_row _ _ 13 _ _ _ HO1.out.2).trans rfl
        have x14 : w1.cell? ⟨x, 14, none⟩ = some (.string a.ann.text) := (cell_of_row _ _ 14 _ _ _ HO1.out.1).trans rfl
        have y14 : w1.cell? ⟨y, 14, none⟩ = some (.string b.ann.text) := (cell_of_row _ _ 14 _ _ _ HO1.out.2).trans rfl
        have x15 : w1.cell? ⟨x, 15, none⟩ = some (.slice p2 n2 c2) := (cell_of_row _ _ 15 _ _ _ HO1.out.1).trans rfl
        have y15 : w1.cell? ⟨y, 15, none⟩ = some (.slice q2 m2 d2) := (cell_of_row _ _ 15 _ _ _ HO1.out.2).trans rfl
        have x16 : w1.cell? ⟨x, 16, none⟩ = some (.int .i64 a.ann.elem) := (cell_of_row _ _ 16 _ _ _ HO1.out.1).trans rfl
        have y16 : w1.cell? ⟨y, 16, none⟩ = some (.int .i64 b.ann.elem) := (cell_of_row _ _ 16 _ _ _ HO1.out.2).trans rfl
        cases z1
        · have hDf : D = false := by rw [← HD.out]; exact decide_eq_false (fun q => absurd (HZz1.out.symm.trans (decide_eq_true (by rw [q]; exact ⟨rfl, rfl, rfl⟩))) (by decide))
          subst hDf
          go_wp2_with fail
          all_goals
            go_ret
            exact ⟨rfl, HB1.out⟩
        · have HTz1 := Lib.hid (of_decide_eq_true HZz1.out)
          by_cases h : a.failed = b.failed
          · have e_failed : (a.failed == b.failed) = true := by simpa using h
            have He_failed := Lib.hid h
            clear h
            by_cases h : a.els = b.els
            · have e_els : (a.els == b.els) = true := by simpa using h
              have He_els := Lib.hid h
              clear h
              have hc := HEQ.out w1 _ b.ann _ (HV.out.1.a.blw HB1.out) (HV.out.2.a.blw HB1.out)
              obtain ⟨z2, hz2⟩ : ∃ z, decide (a.ann = b.ann) = z := ⟨_, rfl⟩
              rw [hz2] at hc
              have HZz2 := Lib.hid hz2
              clear hz2
              go_wp2_with fail
              refine hc.mono ?_
              clear hc
              rintro e w2 ⟨rfl, hb2⟩
              have HB2 := Lib.hid (HB1.out.trans (hb2.mono HB1.out.size))
              have HO2 := Lib.hid (And.intro ((hb2.block x (Array.getElem?_eq_some_iff.1 HO1.out.1).1).trans HO1.out.1) ((hb2.block y (Array.getElem?_eq_some_iff.1 HO1.out.2).1).trans HO1.out.2))
              clear hb2
              clear x10 y10 x11 y11 x12 y12 x13 y13 x14 y14 x15 y15 x16 y16
              have x17 : w2.cell? ⟨x, 17, none⟩ = some (.string a.txn) := (cell_of_row _ _ 17 _ _ _ HO2.out.1).trans rfl
              have y17 : w2.cell? ⟨y, 17, none⟩ = some (.string b.txn) := (cell_of_row _ _ 17 _ _ _ HO2.out.2).trans rfl
              have x18 : w2.cell? ⟨x, 18, none⟩ = some (.slice p3 n3 c3) := (cell_of_row _ _ 18 _ _ _ HO2.out.1).trans rfl
              have y18 : w2.cell? ⟨y, 18, none⟩ = some (.slice q3 m3 d3) := (cell_of_row _ _ 18 _ _ _ HO2.out.2).trans rfl
              cases z2
              · have hDf : D = false := by rw [← HD.out]; exact decide_eq_false (fun q => absurd (HZz2.out.symm.trans (decide_eq_true (by rw [q]))) (by decide))
                subst hDf
                go_wp2_with fail
                all_goals
                  go_ret
                  exact ⟨rfl, HB2.out⟩
              · have HTz2 := Lib.hid (of_decide_eq_true HZz2.out)
                by_cases h : a.txn = b.txn
                · have e_txn : (a.txn.toList == b.txn.toList) = true := by rw [teq]; exact decide_eq_true h
                  have He_txn := Lib.hid h
                  clear h
                  have hc := HEF.out w2 _ b _ (HV.out.1.blw HB2.out) (HV.out.2.blw HB2.out)
                  have hDl : decide (a.inner = b.inner) = D := by
                    rw [← HD.out, decide_eq_decide]
                    exact ⟨fun q => St.ext He_kind.out He_sec.out He_off.out HTz1.out.1 HTz1.out.2.1 HTz1.out.2.2 He_failed.out He_els.out HTz2.out He_txn.out q, fun q => by rw [q]⟩
                  rw [hDl] at hc
                  clear hDl
                  go_wp2_with fail
                  refine hc.mono ?_
                  clear hc
                  rintro e w3 ⟨rfl, hb3⟩
                  have HB3 := Lib.hid (HB2.out.trans (hb3.mono HB2.out.size))
                  clear hb3
                  go_wp2_with fail
                  go_ret
                  exact ⟨rfl, HB3.out⟩
                · have e_txn : (a.txn.toList == b.txn.toList) = false := by rw [teq]; exact decide_eq_false h
                  have hDf : D = false := by rw [← HD.out]; exact decide_eq_false (fun q => h (by rw [q]))
                  subst hDf
                  clear h
                  go_wp2_with fail
                  all_goals
                    go_ret
                    exact ⟨rfl, HB2.out⟩
            · have e_els : (a.els == b.els) = false := by simpa using h
              have hDf : D = false := by rw [← HD.out]; exact decide_eq_false (fun q => h (by rw [q]))
              subst hDf
              clear h
              go_wp2_with fail
              all_goals
                go_ret
                exact ⟨rfl, HB1.out⟩
          · have e_failed : (a.failed == b.failed) = false := by simpa using h
            have hDf : D = false := by rw [← HD.out]; exact decide_eq_false (fun q => h (by rw [q]))
            subst hDf
            clear h
            go_wp2_with fail
            all_goals
              go_ret
              exact ⟨rfl, HB1.out⟩
      · have e_off : (a.off == b.off) = false := by simpa using h
        have hDf : D = false := by rw [← HD.out]; exact decide_eq_false (fun q => h (by rw [q]))
        subst hDf
        clear h
        go_wp2_with fail
        all_goals
          go_ret
          exact ⟨rfl, HB0.out⟩
    · have e_sec : (a.sec == b.sec) = false := by simpa using h
      have hDf : D = false := by rw [← HD.out]; exact decide_eq_false (fun q => h (by rw [q]))
      subst hDf
      clear h
      go_wp2_with fail
      all_goals
        go_ret
        exact ⟨rfl, HB0.out⟩
  · have e_kind : (a.kind == b.kind) = false := by simpa using h
    have hDf : D = false := by rw [← HD.out]; exact decide_eq_false (fun q => h (by rw [q]))
    subst hDf
    clear h
    go_wp2_with fail
    all_goals
      go_ret
      exact ⟨rfl, HB0.out⟩
end Go.Proofs.Ytcbjfakkikjbkaa
