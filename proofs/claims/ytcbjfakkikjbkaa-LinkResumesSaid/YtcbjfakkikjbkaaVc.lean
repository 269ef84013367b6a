/-
  The program's Equal. Conditions: the values lie in memory.
-/
import Derived.Test.YtcbjfakkikjbkaaVb
namespace Go.Proofs.Ytcbjfakkikjbkaa
open Go.RowKit
set_option linter.all false

/-- an equality of two values, handed on as a function -/
def EqOn (a : V) : Prop := ∀ (w : World) (s : Value) (b : V) (t : Value), VIn w a s → VIn w b t →
    Calls Try.prog 48 #[.agg #[.int .i64 a.kind, .int .u64 a.num, .string a.text, s, .int .i64 a.elem], .agg #[.int .i64 b.kind, .int .u64 b.num, .string b.text, t, .int .i64 b.elem]] w fun e w' => e = .returned (.bool (decide (a = b))) ∧ Below w.heap.size w w'

set_option maxRecDepth 20000 in
set_option maxHeartbeats 4000000 in
theorem eqfunc_any (a : V) (ih : ∀ x ∈ a.list, EqOn x) (w : World) (s : Value) (b : V) (t : Value) (h : VIn w a s) (hb : VIn w b t) :
    Calls Try.prog 71 #[s, t, .func (.func 48) #[] #[]] w fun e w' => e = .returned (.bool (decide (a.list = b.list))) ∧ Below w.heap.size w w' := by
  obtain ⟨p, c, hs, h1, h2, h3⟩ := h.slice
  obtain ⟨q, d, ht, k1, k2, k3⟩ := hb.slice
  obtain ⟨N, hN⟩ : ∃ N, a.list.length = N := ⟨_, rfl⟩
  obtain ⟨M, hM⟩ : ∃ M, b.list.length = M := ⟨_, rfl⟩
  rw [hN] at hs h1 h3
  rw [hM] at ht k1 k3
  subst hs ht
  unfold maxLen at h2 k2
  obtain ⟨D, hD⟩ : ∃ D, decide (a.list = b.list) = D := ⟨_, rfl⟩
  rw [hD]
  have HD := Lib.hid hD
  clear hD
  have HI := Lib.hid ih
  have HN := Lib.hid (And.intro hN hM)
  have HV := Lib.hid (And.intro h hb)
  clear ih h hb hN hM
  go_enter Try.func71, Try.ntmps71
  by_cases hNM : N = M
  · have hNMi : (N : Int) = M := by omega
    have HNM := Lib.hid hNM
    go_wp2_with fail
    clear hNMi hNM
    go_loopw [17] (fun v5 wr => ∃ k : Nat, k ≤ N ∧ v5 = .int .i64 k ∧ (∀ j (j1 : j < a.list.length) (j2 : j < b.list.length), j < k → a.list[j] = b.list[j]) ∧ Below w.heap.size w wr) (fun v5 _ => N - (intOf v5).toNat)
    case atStart => exact ⟨0, Nat.zero_le _, rfl, fun j _ _ h => by omega, Below.refl _ _⟩
    case round =>
      obtain ⟨k, hk', rfl, hsame, hbw⟩ := hrel
      have HR := Lib.hid (And.intro hsame hbw)
      clear hsame hbw
      by_cases hkN : (k : Int) < N
      · have ka : k < a.list.length := by rw [HN.out.1]; omega
        have kb : k < b.list.length := by have := HNM.out; rw [HN.out.2]; omega
        have hkM : (k : Int) < M := by have := HNM.out; omega
        obtain ⟨b1, o1, rfl⟩ := h3 (by omega)
        obtain ⟨b2, o2, rfl⟩ := k3 (by have := HNM.out; omega)
        obtain ⟨ta, hta, hia⟩ := (HV.out.1.blw HR.out.2).part rfl ka
        obtain ⟨tb, htb, hib⟩ := (HV.out.2.blw HR.out.2).part rfl kb
        obtain ⟨pa, ca, hsa, _⟩ := hia.slice
        obtain ⟨pb, cb, hsb, _⟩ := hib.slice
        subst hsa hsb
        obtain ⟨c0, c1, c2, c3, c4⟩ := part_cells hta
        obtain ⟨d0, d1, d2, d3, d4⟩ := part_cells htb
        have HIK := Lib.hid (HI.out _ (List.getElem_mem ka))
        have HS := Lib.hid (show ∀ j (j1 : j < a.list.length) (j2 : j < b.list.length), j < k + 1 → (decide (a.list[k] = b.list[k])) = true → a.list[j] = b.list[j] from fun j j1 j2 hj he => by
          by_cases e : j = k
          · subst e; exact of_decide_eq_true he
          · exact HR.out.1 j j1 j2 (by omega))
        have HF := Lib.hid (show (decide (a.list[k] = b.list[k])) = false → D = false from fun he => by
          rw [← HD.out]
          exact decide_eq_false (fun q => of_decide_eq_false he (by simp only [q])))
        generalize a.list[k] = ya at *
        generalize b.list[k] = yb at *
        have HP := Lib.hid (And.intro hia hib)
        have HDT := Lib.hid htb
        clear hta htb hia hib
        obtain ⟨na, hna⟩ : ∃ na, ya.list.length = na := ⟨_, rfl⟩
        obtain ⟨nb, hnb⟩ : ∃ nb, yb.list.length = nb := ⟨_, rfl⟩
        rw [hna] at c3 HP
        rw [hnb] at d3 HP
        clear d0 d1 d2 d3 d4
        go_upto_region 6 with (refine wpList_store_rowTo rfl 28 (.tmp 8) (.tmp 21) rfl rfl wr.heap.size #[.int .i64 ya.kind, .int .u64 ya.num, .string ya.text, (.slice pa na ca), .int .i64 ya.elem] rfl rfl 28 #[.int .i64 0, .int .u64 0, .string ⟨#[]⟩, .slice none 0 0, .int .i64 0] (_root_.Go.heap_alloc_new wr _) (by as_aux_lemma => kernel_rfl) (by as_aux_lemma => kernel_rfl) (by simp [Value.oneCell']) ?_)
        have hb_w1 : Below wr.heap.size wr ((wr.alloc (.cells #[.int .i64 0, .int .u64 0, .string ⟨#[]⟩, .slice none 0 0, .int .i64 0] 28)).setRow wr.heap.size #[.int .i64 ya.kind, .int .u64 ya.num, .string ya.text, (.slice pa na ca), .int .i64 ya.elem]) := below_setRow ((Below.refl _ _).alloc (Nat.le_refl _) _) (Nat.le_refl _) _
        have ox := setRow_heap (wr.alloc (.cells #[.int .i64 0, .int .u64 0, .string ⟨#[]⟩, .slice none 0 0, .int .i64 0] 28)) wr.heap.size _ #[.int .i64 ya.kind, .int .u64 ya.num, .string ya.text, (.slice pa na ca), .int .i64 ya.elem] _ _ (_root_.Go.heap_alloc_new wr _)
        change Code.wp _ _ _ _ ((wr.alloc (.cells #[.int .i64 0, .int .u64 0, .string ⟨#[]⟩, .slice none 0 0, .int .i64 0] 28)).setRow wr.heap.size #[.int .i64 ya.kind, .int .u64 ya.num, .string ya.text, (.slice pa na ca), .int .i64 ya.elem])
        generalize ((wr.alloc (.cells #[.int .i64 0, .int .u64 0, .string ⟨#[]⟩, .slice none 0 0, .int .i64 0] 28)).setRow wr.heap.size #[.int .i64 ya.kind, .int .u64 ya.num, .string ya.text, (.slice pa na ca), .int .i64 ya.elem]) = w1 at *
        obtain ⟨x, hx_x⟩ : ∃ x, wr.heap.size = x := ⟨_, rfl⟩
        rw [hx_x] at ox ⊢
        clear hx_x
        obtain ⟨d0, d1, d2, d3, d4⟩ := part_cells HDT.out
        rw [hnb] at d3
        have d0 := bs_cellV hb_w1 d0
        have d1 := bs_cellV hb_w1 d1
        have d2 := bs_cellV hb_w1 d2
        have d3 := bs_cellV hb_w1 d3
        have d4 := bs_cellV hb_w1 d4
        have HB1 := Lib.hid (HR.out.2.trans (hb_w1.mono HR.out.2.size))
        have HP1 := Lib.hid (And.intro (HP.out.1.blw hb_w1) (HP.out.2.blw hb_w1))
        have HOX := Lib.hid ox
        clear hb_w1 ox c0 c1 c2 c3 c4 hna hnb
        go_upto_region 7 with (refine wpList_store_rowTo rfl 28 (.tmp 9) (.tmp 25) rfl rfl w1.heap.size #[.int .i64 yb.kind, .int .u64 yb.num, .string yb.text, (.slice pb nb cb), .int .i64 yb.elem] rfl rfl 28 #[.int .i64 0, .int .u64 0, .string ⟨#[]⟩, .slice none 0 0, .int .i64 0] (_root_.Go.heap_alloc_new w1 _) (by as_aux_lemma => kernel_rfl) (by as_aux_lemma => kernel_rfl) (by simp [Value.oneCell']) ?_)
        have hb_w2 : Below w1.heap.size w1 ((w1.alloc (.cells #[.int .i64 0, .int .u64 0, .string ⟨#[]⟩, .slice none 0 0, .int .i64 0] 28)).setRow w1.heap.size #[.int .i64 yb.kind, .int .u64 yb.num, .string yb.text, (.slice pb nb cb), .int .i64 yb.elem]) := below_setRow ((Below.refl _ _).alloc (Nat.le_refl _) _) (Nat.le_refl _) _
        have oy := setRow_heap (w1.alloc (.cells #[.int .i64 0, .int .u64 0, .string ⟨#[]⟩, .slice none 0 0, .int .i64 0] 28)) w1.heap.size _ #[.int .i64 yb.kind, .int .u64 yb.num, .string yb.text, (.slice pb nb cb), .int .i64 yb.elem] _ _ (_root_.Go.heap_alloc_new w1 _)
        change Code.wp _ _ _ _ ((w1.alloc (.cells #[.int .i64 0, .int .u64 0, .string ⟨#[]⟩, .slice none 0 0, .int .i64 0] 28)).setRow w1.heap.size #[.int .i64 yb.kind, .int .u64 yb.num, .string yb.text, (.slice pb nb cb), .int .i64 yb.elem])
        generalize ((w1.alloc (.cells #[.int .i64 0, .int .u64 0, .string ⟨#[]⟩, .slice none 0 0, .int .i64 0] 28)).setRow w1.heap.size #[.int .i64 yb.kind, .int .u64 yb.num, .string yb.text, (.slice pb nb cb), .int .i64 yb.elem]) = w2 at *
        obtain ⟨y, hx_y⟩ : ∃ x, w1.heap.size = x := ⟨_, rfl⟩
        rw [hx_y] at oy ⊢
        clear hx_y
        have hox := (hb_w2.block x (Array.getElem?_eq_some_iff.1 HOX.out).1).trans HOX.out
        have x0 : w2.cell? ⟨x, 0, none⟩ = some (.int .i64 ya.kind) := (cell_of_row _ _ 0 _ _ _ hox).trans rfl
        have x1 : w2.cell? ⟨x, 1, none⟩ = some (.int .u64 ya.num) := (cell_of_row _ _ 1 _ _ _ hox).trans rfl
        have x2 : w2.cell? ⟨x, 2, none⟩ = some (.string ya.text) := (cell_of_row _ _ 2 _ _ _ hox).trans rfl
        have x3 : w2.cell? ⟨x, 3, none⟩ = some (.slice pa na ca) := (cell_of_row _ _ 3 _ _ _ hox).trans rfl
        have x4 : w2.cell? ⟨x, 4, none⟩ = some (.int .i64 ya.elem) := (cell_of_row _ _ 4 _ _ _ hox).trans rfl
        have y0 : w2.cell? ⟨y, 0, none⟩ = some (.int .i64 yb.kind) := (cell_of_row _ _ 0 _ _ _ oy).trans rfl
        have y1 : w2.cell? ⟨y, 1, none⟩ = some (.int .u64 yb.num) := (cell_of_row _ _ 1 _ _ _ oy).trans rfl
        have y2 : w2.cell? ⟨y, 2, none⟩ = some (.string yb.text) := (cell_of_row _ _ 2 _ _ _ oy).trans rfl
        have y3 : w2.cell? ⟨y, 3, none⟩ = some (.slice pb nb cb) := (cell_of_row _ _ 3 _ _ _ oy).trans rfl
        have y4 : w2.cell? ⟨y, 4, none⟩ = some (.int .i64 yb.elem) := (cell_of_row _ _ 4 _ _ _ oy).trans rfl
        have HB2 := Lib.hid (HB1.out.trans (hb_w2.mono HB1.out.size))
        have hc := HIK.out w2 _ yb _ (HP1.out.1.blw hb_w2) (HP1.out.2.blw hb_w2)
        generalize decide (ya = yb) = z at hc HS HF
        clear hb_w2 hox oy d0 d1 d2 d3 d4
        have HC := Lib.hid hc
        clear hc
        go_wp2_with fail
        refine HC.out.mono ?_
        rintro e w3 ⟨rfl, hb3⟩
        have HB3 := Lib.hid (HB2.out.trans (hb3.mono HB2.out.size))
        clear hb3 x0 x1 x2 x3 x4 y0 y1 y2 y3 y4
        cases z
        · have hDf := HF.out rfl
          subst hDf
          go_wp2_with fail
          go_ret
          exact ⟨rfl, HB3.out⟩
        · go_wp2_with fail
          go_roundw
          case rel => exact ⟨k + 1, by omega, by go_num, fun j j1 j2 hj => HS.out j j1 j2 hj (by first | rfl | trivial), HB3.out⟩
          case measure => simp [intOf]; omega
      · have hDt : D = true := by
          rw [← HD.out]
          exact decide_eq_true (list_ext_k (by rw [HN.out.1, HN.out.2, HNM.out]) (fun j j1 j2 => HR.out.1 j j1 j2 (by have := HN.out.1; omega)))
        subst hDt
        have hkM : ¬ (k : Int) < M := by have := HNM.out; omega
        go_wp2_with fail
        go_ret
        exact ⟨rfl, HR.out.2⟩
  · have HNM := Lib.hid hNM
    have hNM2 : ¬ (N : Int) = M := by omega
    have hDf : D = false := by rw [← HD.out]; exact decide_eq_false (fun q => hNM (by rw [← HN.out.1, ← HN.out.2, q]))
    subst hDf
    clear hNM
    go_wp2_with fail
    all_goals
      go_ret
      exact ⟨rfl, Below.refl _ _⟩

set_option maxRecDepth 20000 in
set_option maxHeartbeats 4000000 in
theorem equal_on : ∀ a : V, EqOn a := by
  refine V.ind (fun a ih w s b t h hb => ?_)
  have hef := eqfunc_any a ih
  obtain ⟨p, c, hs, h1, h2, h3⟩ := h.slice
  obtain ⟨q, d, ht, k1, k2, k3⟩ := hb.slice
  obtain ⟨N, hN⟩ : ∃ N, a.list.length = N := ⟨_, rfl⟩
  obtain ⟨M, hM⟩ : ∃ M, b.list.length = M := ⟨_, rfl⟩
  rw [hN] at hs h1 h3
  rw [hM] at ht k1 k3
  subst hs ht
  unfold maxLen at h2 k2
  obtain ⟨D, hD⟩ : ∃ D, decide (a = b) = D := ⟨_, rfl⟩
  rw [hD]
  have HD := Lib.hid hD
  have HEF := Lib.hid hef
  clear hD hef
  have HI := Lib.hid ih
  have HN := Lib.hid (And.intro hN hM)
  have HV := Lib.hid (And.intro h hb)
  clear ih h hb hN hM
  go_enter Try.func48, Try.ntmps48
  go_upto_region 1 with fail
  have hb0 : Below w.heap.size w ((w.alloc (.cells #[.int .i64 a.kind, .int .u64 a.num, .string a.text, (.slice p N c), .int .i64 a.elem] 28)).alloc (.cells #[.int .i64 b.kind, .int .u64 b.num, .string b.text, (.slice q M d), .int .i64 b.elem] 28)) := (((Below.refl _ _).alloc (Nat.le_refl _) _).alloc (by simp) _)
  have ox : ((w.alloc (.cells #[.int .i64 a.kind, .int .u64 a.num, .string a.text, (.slice p N c), .int .i64 a.elem] 28)).alloc (.cells #[.int .i64 b.kind, .int .u64 b.num, .string b.text, (.slice q M d), .int .i64 b.elem] 28)).heap[w.heap.size]? = some (.cells #[.int .i64 a.kind, .int .u64 a.num, .string a.text, (.slice p N c), .int .i64 a.elem] 28 (0, 0)) := (_root_.Go.heap_alloc_old _ _ (by simp)).trans (_root_.Go.heap_alloc_new _ _)
  have oy : ((w.alloc (.cells #[.int .i64 a.kind, .int .u64 a.num, .string a.text, (.slice p N c), .int .i64 a.elem] 28)).alloc (.cells #[.int .i64 b.kind, .int .u64 b.num, .string b.text, (.slice q M d), .int .i64 b.elem] 28)).heap[w.heap.size + 1]? = some (.cells #[.int .i64 b.kind, .int .u64 b.num, .string b.text, (.slice q M d), .int .i64 b.elem] 28 (0, 0)) := by have := _root_.Go.heap_alloc_new (w.alloc (.cells #[.int .i64 a.kind, .int .u64 a.num, .string a.text, (.slice p N c), .int .i64 a.elem] 28)) (.cells #[.int .i64 b.kind, .int .u64 b.num, .string b.text, (.slice q M d), .int .i64 b.elem] 28); rwa [World.size_alloc] at this
  generalize ((w.alloc (.cells #[.int .i64 a.kind, .int .u64 a.num, .string a.text, (.slice p N c), .int .i64 a.elem] 28)).alloc (.cells #[.int .i64 b.kind, .int .u64 b.num, .string b.text, (.slice q M d), .int .i64 b.elem] 28)) = w0 at *
  obtain ⟨x, hx⟩ : ∃ x, w.heap.size = x := ⟨_, rfl⟩
  rw [hx] at ox oy ⊢
  obtain ⟨y, hy⟩ : ∃ y, x + 1 = y := ⟨_, rfl⟩
  rw [hy] at oy ⊢
  have HB0 := Lib.hid hb0
  have HOx := Lib.hid ox
  have HOy := Lib.hid oy
  clear hb0 ox oy hx hy
  have x0 : w0.cell? ⟨x, 0, none⟩ = some (.int .i64 a.kind) := (cell_of_row _ _ 0 _ _ _ HOx.out).trans rfl
  have x1 : w0.cell? ⟨x, 1, none⟩ = some (.int .u64 a.num) := (cell_of_row _ _ 1 _ _ _ HOx.out).trans rfl
  have x2 : w0.cell? ⟨x, 2, none⟩ = some (.string a.text) := (cell_of_row _ _ 2 _ _ _ HOx.out).trans rfl
  have x3 : w0.cell? ⟨x, 3, none⟩ = some (.slice p N c) := (cell_of_row _ _ 3 _ _ _ HOx.out).trans rfl
  have x4 : w0.cell? ⟨x, 4, none⟩ = some (.int .i64 a.elem) := (cell_of_row _ _ 4 _ _ _ HOx.out).trans rfl
  have y0 : w0.cell? ⟨y, 0, none⟩ = some (.int .i64 b.kind) := (cell_of_row _ _ 0 _ _ _ HOy.out).trans rfl
  have y1 : w0.cell? ⟨y, 1, none⟩ = some (.int .u64 b.num) := (cell_of_row _ _ 1 _ _ _ HOy.out).trans rfl
  have y2 : w0.cell? ⟨y, 2, none⟩ = some (.string b.text) := (cell_of_row _ _ 2 _ _ _ HOy.out).trans rfl
  have y3 : w0.cell? ⟨y, 3, none⟩ = some (.slice q M d) := (cell_of_row _ _ 3 _ _ _ HOy.out).trans rfl
  have y4 : w0.cell? ⟨y, 4, none⟩ = some (.int .i64 b.elem) := (cell_of_row _ _ 4 _ _ _ HOy.out).trans rfl
  by_cases hk : a.kind = b.kind
  · have hk_t : (a.kind == b.kind) = true := by simpa using hk
    have Hhk := Lib.hid hk
    clear hk
    by_cases hn : a.num = b.num
    · have hn_t : (a.num == b.num) = true := by simpa using hn
      have Hhn := Lib.hid hn
      clear hn
      by_cases htx : a.text = b.text
      · have htx_t : (a.text.toList == b.text.toList) = true := by rw [teq]; exact decide_eq_true htx
        have Hhtx := Lib.hid htx
        clear htx
        by_cases he : a.elem = b.elem
        · have he_t : (a.elem == b.elem) = true := by simpa using he
          have Hhe := Lib.hid he
          clear he
          have hc := HEF.out w0 _ b _ (HV.out.1.blw HB0.out) (HV.out.2.blw HB0.out)
          have hDl : decide (a.list = b.list) = D := by
            rw [← HD.out, decide_eq_decide]
            exact ⟨fun q => V.ext Hhk.out Hhn.out Hhtx.out q Hhe.out, fun q => by rw [q]⟩
          rw [hDl] at hc
          clear hDl
          go_wp2_with fail
          refine hc.mono ?_
          clear hc
          rintro e w1 ⟨rfl, hb1⟩
          have HB1 := Lib.hid (HB0.out.trans (hb1.mono HB0.out.size))
          clear hb1
          go_wp2_with fail
          go_ret
          exact ⟨rfl, HB1.out⟩
        · have he_t : (a.elem == b.elem) = false := by simpa using he
          have hDf : D = false := by rw [← HD.out]; exact decide_eq_false (fun q => he (by rw [q]))
          subst hDf
          clear he
          go_wp2_with fail
          all_goals
            go_ret
            exact ⟨rfl, HB0.out⟩
      · have htx_t : (a.text.toList == b.text.toList) = false := by rw [teq]; exact decide_eq_false htx
        have hDf : D = false := by rw [← HD.out]; exact decide_eq_false (fun q => htx (by rw [q]))
        subst hDf
        clear htx
        go_wp2_with fail
        all_goals
          go_ret
          exact ⟨rfl, HB0.out⟩
    · have hn_t : (a.num == b.num) = false := by simpa using hn
      have hDf : D = false := by rw [← HD.out]; exact decide_eq_false (fun q => hn (by rw [q]))
      subst hDf
      clear hn
      go_wp2_with fail
      all_goals
        go_ret
        exact ⟨rfl, HB0.out⟩
  · have hk_t : (a.kind == b.kind) = false := by simpa using hk
    have hDf : D = false := by rw [← HD.out]; exact decide_eq_false (fun q => hk (by rw [q]))
    subst hDf
    clear hk
    go_wp2_with fail
    all_goals
      go_ret
      exact ⟨rfl, HB0.out⟩

end Go.Proofs.Ytcbjfakkikjbkaa
