/-
  Order, once more, with what it draws. Conditions: the values lie in memory.
  The library's slices.SortFunc laid at this dump (printed by the shelf's plain mode; its numbers are this seat's). No conditions.
-/
import Derived.Test.YtjipennigjlklaaDoorMg06
import Derived.Sort.Grow
import Derived.Shelf.SlSortCmp.WholeK
import Derived.Test.YtjipennigjlklaaDoorProg
namespace Go.Proofs.YtjipennigjlklaaDoor
open Go.RowKit
set_option linter.unusedVariables false

structure BelowD (B : Nat) (w w' : World) : Prop extends Below B w w' where
  drawn : w.drawn ≤ w'.drawn
theorem BelowD.refl (B : Nat) (w : World) : BelowD B w w := ⟨Below.refl B w, Nat.le_refl _⟩
theorem BelowD.trans {B : Nat} {a b c : World} (h : BelowD B a b) (k : BelowD B b c) : BelowD B a c := ⟨h.toBelow.trans k.toBelow, Nat.le_trans h.drawn k.drawn⟩
theorem BelowD.mono {B B' : Nat} {a b : World} (h : BelowD B a b) (hB : B' ≤ B) : BelowD B' a b := ⟨h.toBelow.mono hB, h.drawn⟩
theorem BelowD.alloc {B : Nat} {a b : World} (h : BelowD B a b) (hB : B ≤ b.heap.size) (o : Obj) : BelowD B a (b.alloc o) := ⟨h.toBelow.alloc hB o, h.drawn⟩
theorem below_setRowD {B : Nat} {w w' : World} {g : Nat} (h : BelowD B w w') (hg : B ≤ g) (cs : Array Value) : BelowD B w (w'.setRow g cs) := ⟨below_setRow h.toBelow hg cs, h.drawn⟩
theorem bs_cellD {w w' : World} {a : Addr} {u : Value} (hb : BelowD w.heap.size w w') (h : w.cell? a = some u) : w'.cell? a = some u := bs_cellV hb.toBelow h
theorem VIn.blwD {w w' : World} {v : V} {s : Value} (h : VIn w v s) (hb : BelowD w.heap.size w w') : VIn w' v s := h.blw hb.toBelow

def OrdOnD (a : V) : Prop := ∀ (w : World) (s : Value) (b : V) (t : Value), VIn w a s → VIn w b t →
    Calls Tryd.prog 57 #[.agg #[.int .i64 a.kind, .int .u64 a.num, .string a.text, s, .int .i64 a.elem], .agg #[.int .i64 b.kind, .int .u64 b.num, .string b.text, t, .int .i64 b.elem]] w fun e w' => e = .returned (.int .i64 (ordV a b)) ∧ BelowD w.heap.size w w'

set_option maxRecDepth 20000 in
set_option maxHeartbeats 4000000 in
theorem cmpfuncD_any (a : V) (ih : ∀ x ∈ a.list, OrdOnD x) (w : World) (s : Value) (b : V) (t : Value) (h : VIn w a s) (hb : VIn w b t) :
    Calls Tryd.prog 73 #[s, t, .func (.func 57) #[] #[]] w fun e w' => e = .returned (.int .i64 (ordL a.list b.list)) ∧ BelowD w.heap.size w w' := by
  obtain ⟨p, c, hs, h1, h2, h3⟩ := h.slice
  obtain ⟨q, d, ht, k1, k2, k3⟩ := hb.slice
  obtain ⟨N, hN⟩ : ∃ N, a.list.length = N := ⟨_, rfl⟩
  obtain ⟨M, hM⟩ : ∃ M, b.list.length = M := ⟨_, rfl⟩
  rw [hN] at hs h1 h3
  rw [hM] at ht k1 k3
  subst hs ht
  unfold maxLen at h2 k2
  obtain ⟨D, hD⟩ : ∃ D, ordL a.list b.list = D := ⟨_, rfl⟩
  rw [hD]
  have HD := Lib.hid hD
  clear hD
  have HI := Lib.hid ih
  have HN := Lib.hid (And.intro hN hM)
  have HV := Lib.hid (And.intro h hb)
  clear ih h hb hN hM
  go_enter Tryd.func73, Tryd.ntmps73
  go_wp2_with fail
  go_loopw [13] (fun v5 wr => ∃ k : Nat, k ≤ N ∧ v5 = .int .i64 k ∧ a.list.take k = b.list.take k ∧ BelowD w.heap.size w wr) (fun v5 _ => N - (intOf v5).toNat)
  case atStart => exact ⟨0, Nat.zero_le _, rfl, by rw [List.take_zero, List.take_zero], BelowD.refl _ _⟩
  case round =>
    obtain ⟨k, hk', rfl, hsame, hbw⟩ := hrel
    have HR := Lib.hid (And.intro hsame hbw)
    clear hsame hbw
    by_cases hkN : (k : Int) < N
    · have ka : k < a.list.length := by rw [HN.out.1]; omega
      obtain ⟨b1, o1, rfl⟩ := h3 (by omega)
      obtain ⟨ta, hta, hia⟩ := (HV.out.1.blwD HR.out.2).part rfl ka
      obtain ⟨pa, ca, hsa, _⟩ := hia.slice
      subst hsa
      obtain ⟨c0, c1, c2, c3, c4⟩ := part_cells hta
      obtain ⟨ya, hya⟩ : ∃ ya, a.list[k] = ya := ⟨_, rfl⟩
      have HYA := Lib.hid hya
      have HIK := Lib.hid (HI.out _ (List.getElem_mem ka))
      rw [hya] at c0 c1 c2 c3 c4 hia HIK
      obtain ⟨na, hna⟩ : ∃ na, ya.list.length = na := ⟨_, rfl⟩
      rw [hna] at c3 hia
      have HP := Lib.hid hia
      clear hta hia hya hna
      go_upto_region 4 with (refine wpList_store_rowTo rfl 25 (.tmp 8) (.tmp 17) rfl rfl wr.heap.size #[.int .i64 ya.kind, .int .u64 ya.num, .string ya.text, (.slice pa na ca), .int .i64 ya.elem] rfl rfl 25 #[.int .i64 0, .int .u64 0, .string ⟨#[]⟩, .slice none 0 0, .int .i64 0] (_root_.Go.heap_alloc_new wr _) (by as_aux_lemma => kernel_rfl) (by as_aux_lemma => kernel_rfl) (by simp [Value.oneCell']) ?_)
      have hb_w1 : BelowD wr.heap.size wr ((wr.alloc (.cells #[.int .i64 0, .int .u64 0, .string ⟨#[]⟩, .slice none 0 0, .int .i64 0] 25)).setRow wr.heap.size #[.int .i64 ya.kind, .int .u64 ya.num, .string ya.text, (.slice pa na ca), .int .i64 ya.elem]) := below_setRowD ((BelowD.refl _ _).alloc (Nat.le_refl _) _) (Nat.le_refl _) _
      have ox := setRow_heap (wr.alloc (.cells #[.int .i64 0, .int .u64 0, .string ⟨#[]⟩, .slice none 0 0, .int .i64 0] 25)) wr.heap.size _ #[.int .i64 ya.kind, .int .u64 ya.num, .string ya.text, (.slice pa na ca), .int .i64 ya.elem] _ _ (_root_.Go.heap_alloc_new wr _)
      change Code.wp _ _ _ _ ((wr.alloc (.cells #[.int .i64 0, .int .u64 0, .string ⟨#[]⟩, .slice none 0 0, .int .i64 0] 25)).setRow wr.heap.size #[.int .i64 ya.kind, .int .u64 ya.num, .string ya.text, (.slice pa na ca), .int .i64 ya.elem])
      generalize ((wr.alloc (.cells #[.int .i64 0, .int .u64 0, .string ⟨#[]⟩, .slice none 0 0, .int .i64 0] 25)).setRow wr.heap.size #[.int .i64 ya.kind, .int .u64 ya.num, .string ya.text, (.slice pa na ca), .int .i64 ya.elem]) = w1 at *
      obtain ⟨x, hx_x⟩ : ∃ x, wr.heap.size = x := ⟨_, rfl⟩
      rw [hx_x] at ox ⊢
      clear hx_x
      have HB1 := Lib.hid (HR.out.2.trans (hb_w1.mono HR.out.2.size))
      have HP1 := Lib.hid (HP.out.blwD hb_w1)
      have HOX := Lib.hid ox
      clear hb_w1 ox c0 c1 c2 c3 c4
      by_cases hkM : (k : Int) < M
      · have kb : k < b.list.length := by rw [HN.out.2]; omega
        obtain ⟨b2, o2, rfl⟩ := k3 (by omega)
        obtain ⟨tb, htb, hib⟩ := (HV.out.2.blwD HB1.out).part rfl kb
        obtain ⟨pb, cb, hsb, _⟩ := hib.slice
        subst hsb
        obtain ⟨d0, d1, d2, d3, d4⟩ := part_cells htb
        obtain ⟨yb, hyb⟩ : ∃ yb, b.list[k] = yb := ⟨_, rfl⟩
        have HYB := Lib.hid hyb
        rw [hyb] at d0 d1 d2 d3 d4 hib
        obtain ⟨nb, hnb⟩ : ∃ nb, yb.list.length = nb := ⟨_, rfl⟩
        rw [hnb] at d3 hib
        have HPB := Lib.hid hib
        clear htb hib hyb hnb
        go_upto_region 7 with (refine wpList_store_rowTo rfl 25 (.tmp 9) (.tmp 25) rfl rfl w1.heap.size #[.int .i64 yb.kind, .int .u64 yb.num, .string yb.text, (.slice pb nb cb), .int .i64 yb.elem] rfl rfl 25 #[.int .i64 0, .int .u64 0, .string ⟨#[]⟩, .slice none 0 0, .int .i64 0] (_root_.Go.heap_alloc_new w1 _) (by as_aux_lemma => kernel_rfl) (by as_aux_lemma => kernel_rfl) (by simp [Value.oneCell']) ?_)
        have hb_w2 : BelowD w1.heap.size w1 ((w1.alloc (.cells #[.int .i64 0, .int .u64 0, .string ⟨#[]⟩, .slice none 0 0, .int .i64 0] 25)).setRow w1.heap.size #[.int .i64 yb.kind, .int .u64 yb.num, .string yb.text, (.slice pb nb cb), .int .i64 yb.elem]) := below_setRowD ((BelowD.refl _ _).alloc (Nat.le_refl _) _) (Nat.le_refl _) _
        have oy := setRow_heap (w1.alloc (.cells #[.int .i64 0, .int .u64 0, .string ⟨#[]⟩, .slice none 0 0, .int .i64 0] 25)) w1.heap.size _ #[.int .i64 yb.kind, .int .u64 yb.num, .string yb.text, (.slice pb nb cb), .int .i64 yb.elem] _ _ (_root_.Go.heap_alloc_new w1 _)
        change Code.wp _ _ _ _ ((w1.alloc (.cells #[.int .i64 0, .int .u64 0, .string ⟨#[]⟩, .slice none 0 0, .int .i64 0] 25)).setRow w1.heap.size #[.int .i64 yb.kind, .int .u64 yb.num, .string yb.text, (.slice pb nb cb), .int .i64 yb.elem])
        generalize ((w1.alloc (.cells #[.int .i64 0, .int .u64 0, .string ⟨#[]⟩, .slice none 0 0, .int .i64 0] 25)).setRow w1.heap.size #[.int .i64 yb.kind, .int .u64 yb.num, .string yb.text, (.slice pb nb cb), .int .i64 yb.elem]) = w2 at *
        obtain ⟨y, hx_y⟩ : ∃ x, w1.heap.size = x := ⟨_, rfl⟩
        rw [hx_y] at oy ⊢
        clear hx_y
        have hox := (hb_w2.block x (Array.getElem?_eq_some_iff.1 HOX.out).1).trans HOX.out
        have x0 : w2.cell? ⟨x, 0, none⟩ = some (.int .i64 ya.kind) := (cell_of_row _ _ 0 _ _ _ hox).trans rfl
        have x1 : w2.cell? ⟨x, 1, none⟩ = some (.int .u64 ya.num) := (cell_of_row _ _ 1 _ _ _ hox).trans rfl
        have x2 : w2.cell? ⟨x, 2, none⟩ = some (.string ya.text) := (cell_of_row _ _ 2 _ _ _ hox).trans rfl
        have x3 : w2.cell? ⟨x, 3, none⟩ = some (.slice pa na ca) := (cell_of_row _ _ 3 _ _ _ hox).trans rfl
        have x4 : w2.cell? ⟨x, 4, none⟩ = some (.int .i64 ya.elem) := (cell_of_row _ _ 4 _ _ _ hox).trans rfl
        have y0 : w2.cell? ⟨y, 0, none⟩ = some (.int .i64 yb.kind) := (cell_of_row _ _ 0 _ _ _ oy).trans rfl
        have y1 : w2.cell? ⟨y, 1, none⟩ = some (.int .u64 yb.num) := (cell_of_row _ _ 1 _ _ _ oy).trans rfl
        have y2 : w2.cell? ⟨y, 2, none⟩ = some (.string yb.text) := (cell_of_row _ _ 2 _ _ _ oy).trans rfl
        have y3 : w2.cell? ⟨y, 3, none⟩ = some (.slice pb nb cb) := (cell_of_row _ _ 3 _ _ _ oy).trans rfl
        have y4 : w2.cell? ⟨y, 4, none⟩ = some (.int .i64 yb.elem) := (cell_of_row _ _ 4 _ _ _ oy).trans rfl
        have HB2 := Lib.hid (HB1.out.trans (hb_w2.mono HB1.out.size))
        have hc := HIK.out w2 _ yb _ (HP1.out.blwD hb_w2) (HPB.out.blwD hb_w2)
        have hat := ordL_at HR.out.1 ka kb
        rw [HD.out, HYA.out, HYB.out] at hat
        have hz : ordV ya yb = 0 → a.list.take (k + 1) = b.list.take (k + 1) := fun q => take_next HR.out.1 ka kb (by rw [HYA.out, HYB.out]; exact ordV_zero.1 q)
        obtain ⟨z, hzz⟩ : ∃ z, ordV ya yb = z := ⟨_, rfl⟩
        rw [hzz] at hc hat hz
        have HZ := Lib.hid (And.intro hat hz)
        clear hb_w2 hox oy d0 d1 d2 d3 d4 hat hz hzz
        have HC := Lib.hid hc
        clear hc
        go_wp2_with fail
        refine HC.out.mono ?_
        rintro e w3 ⟨rfl, hb3⟩
        have HB3 := Lib.hid (HB2.out.trans (hb3.mono HB2.out.size))
        clear hb3 x0 x1 x2 x3 x4 y0 y1 y2 y3 y4
        by_cases hz0 : z = 0
        · have hzt : (z == 0) = true := by simpa using hz0
          have HZ2 := Lib.hid (HZ.out.2 hz0)
          subst hz0
          go_wp2_with fail
          go_roundw
          case rel => exact ⟨k + 1, by omega, by go_num, HZ2.out, HB3.out⟩
          case measure => simp [intOf]; omega
        · have hzt : (z == 0) = false := by simpa using hz0
          have HDZ := Lib.hid (show D = z by rw [HZ.out.1]; simp [thenZ, hz0])
          go_wp2_with fail
          go_ret
          exact ⟨by rw [HDZ.out]; rfl, HB3.out⟩
      · have HD1 := Lib.hid (show D = 1 by rw [← HD.out]; exact ordL_longer HR.out.1 ka (by rw [HN.out.2]; omega))
        go_wp2_with fail
        go_ret
        exact ⟨by rw [HD1.out]; rfl, HB1.out⟩
    · have hkN2 : k = N := by omega
      have hend := ordL_end HR.out.1 (by rw [HN.out.1]; omega) (by rw [HN.out.1]; omega)
      rw [HD.out, HN.out.1, HN.out.2] at hend
      have hMN : ¬ M < N := by
        intro q
        have := congrArg List.length HR.out.1
        rw [List.length_take, List.length_take, HN.out.1, HN.out.2] at this
        omega
      by_cases hlt : (N : Int) < M
      · have HE := Lib.hid (show D = -1 by rw [hend, if_pos (by omega)])
        clear hend hkN2 hMN
        go_wp2_with fail
        go_ret
        exact ⟨by rw [HE.out]; rfl, HR.out.2⟩
      · have HE := Lib.hid (show D = 0 by rw [hend, if_neg (by omega), if_neg hMN])
        clear hend hkN2 hMN
        go_wp2_with fail
        go_ret
        exact ⟨by rw [HE.out]; rfl, HR.out.2⟩

set_option maxRecDepth 20000 in
set_option maxHeartbeats 4000000 in
theorem orderD_on : ∀ a : V, OrdOnD a := by
  refine V.ind (fun a ih w s b t h hb => ?_)
  have hef := cmpfuncD_any a ih
  obtain ⟨p, c, hs, h1, h2, h3⟩ := h.slice
  obtain ⟨q, d, ht, k1, k2, k3⟩ := hb.slice
  obtain ⟨N, hN⟩ : ∃ N, a.list.length = N := ⟨_, rfl⟩
  obtain ⟨M, hM⟩ : ∃ M, b.list.length = M := ⟨_, rfl⟩
  rw [hN] at hs h1 h3
  rw [hM] at ht k1 k3
  subst hs ht
  unfold maxLen at h2 k2
  obtain ⟨D, hD⟩ : ∃ D, ordV a b = D := ⟨_, rfl⟩
  rw [hD]
  have HD := Lib.hid (show thenZ (sgnZ a.kind b.kind) (thenZ (sgnZ a.num b.num) (thenZ (cmpT a.text b.text) (thenZ (ordL a.list b.list) (sgnZ a.elem b.elem)))) = D by rw [← ordV_eq]; exact hD)
  have HEF := Lib.hid hef
  clear hD hef
  have HI := Lib.hid ih
  have HN := Lib.hid (And.intro hN hM)
  have HV := Lib.hid (And.intro h hb)
  clear ih h hb hN hM
  go_enter Tryd.func57, Tryd.ntmps57
  go_upto_region 1 with fail
  have hb0 : BelowD w.heap.size w ((w.alloc (.cells #[.int .i64 a.kind, .int .u64 a.num, .string a.text, (.slice p N c), .int .i64 a.elem] 25)).alloc (.cells #[.int .i64 b.kind, .int .u64 b.num, .string b.text, (.slice q M d), .int .i64 b.elem] 25)) := (((BelowD.refl _ _).alloc (Nat.le_refl _) _).alloc (by simp) _)
  have ox : ((w.alloc (.cells #[.int .i64 a.kind, .int .u64 a.num, .string a.text, (.slice p N c), .int .i64 a.elem] 25)).alloc (.cells #[.int .i64 b.kind, .int .u64 b.num, .string b.text, (.slice q M d), .int .i64 b.elem] 25)).heap[w.heap.size]? = some (.cells #[.int .i64 a.kind, .int .u64 a.num, .string a.text, (.slice p N c), .int .i64 a.elem] 25 (0, 0)) := (_root_.Go.heap_alloc_old _ _ (by simp)).trans (_root_.Go.heap_alloc_new _ _)
  have oy : ((w.alloc (.cells #[.int .i64 a.kind, .int .u64 a.num, .string a.text, (.slice p N c), .int .i64 a.elem] 25)).alloc (.cells #[.int .i64 b.kind, .int .u64 b.num, .string b.text, (.slice q M d), .int .i64 b.elem] 25)).heap[w.heap.size + 1]? = some (.cells #[.int .i64 b.kind, .int .u64 b.num, .string b.text, (.slice q M d), .int .i64 b.elem] 25 (0, 0)) := by have := _root_.Go.heap_alloc_new (w.alloc (.cells #[.int .i64 a.kind, .int .u64 a.num, .string a.text, (.slice p N c), .int .i64 a.elem] 25)) (.cells #[.int .i64 b.kind, .int .u64 b.num, .string b.text, (.slice q M d), .int .i64 b.elem] 25); rwa [World.size_alloc] at this
  generalize ((w.alloc (.cells #[.int .i64 a.kind, .int .u64 a.num, .string a.text, (.slice p N c), .int .i64 a.elem] 25)).alloc (.cells #[.int .i64 b.kind, .int .u64 b.num, .string b.text, (.slice q M d), .int .i64 b.elem] 25)) = w0 at *
  obtain ⟨x, hx⟩ : ∃ x, w.heap.size = x := ⟨_, rfl⟩
  rw [hx] at ox oy ⊢
  obtain ⟨y, hy⟩ : ∃ y, x + 1 = y := ⟨_, rfl⟩
  rw [hy] at oy ⊢
  have HB0 := Lib.hid hb0
  have HOx := Lib.hid ox
  have HOy := Lib.hid oy
  clear hb0 ox oy hx hy
  have x0 : w0.cell? ⟨x, 0, none⟩ = some (.int .i64 a.kind) := (cell_of_row _ _ 0 _ _ _ HOx.out).trans rfl
  have x1 : w0.cell? ⟨x, 1, none⟩ = some (.int .u64 a.num) := (cell_of_row _ _ 1 _ _ _ HOx.out).trans rfl
  have x2 : w0.cell? ⟨x, 2, none⟩ = some (.string a.text) := (cell_of_row _ _ 2 _ _ _ HOx.out).trans rfl
  have x3 : w0.cell? ⟨x, 3, none⟩ = some (.slice p N c) := (cell_of_row _ _ 3 _ _ _ HOx.out).trans rfl
  have x4 : w0.cell? ⟨x, 4, none⟩ = some (.int .i64 a.elem) := (cell_of_row _ _ 4 _ _ _ HOx.out).trans rfl
  have y0 : w0.cell? ⟨y, 0, none⟩ = some (.int .i64 b.kind) := (cell_of_row _ _ 0 _ _ _ HOy.out).trans rfl
  have y1 : w0.cell? ⟨y, 1, none⟩ = some (.int .u64 b.num) := (cell_of_row _ _ 1 _ _ _ HOy.out).trans rfl
  have y2 : w0.cell? ⟨y, 2, none⟩ = some (.string b.text) := (cell_of_row _ _ 2 _ _ _ HOy.out).trans rfl
  have y3 : w0.cell? ⟨y, 3, none⟩ = some (.slice q M d) := (cell_of_row _ _ 3 _ _ _ HOy.out).trans rfl
  have y4 : w0.cell? ⟨y, 4, none⟩ = some (.int .i64 b.elem) := (cell_of_row _ _ 4 _ _ _ HOy.out).trans rfl
  obtain ⟨z1, hz1⟩ : ∃ z, sgnZ a.kind b.kind = z := ⟨_, rfl⟩
  obtain ⟨z2, hz2⟩ : ∃ z, sgnZ a.num b.num = z := ⟨_, rfl⟩
  obtain ⟨z3, hz3⟩ : ∃ z, cmpT a.text b.text = z := ⟨_, rfl⟩
  obtain ⟨z4, hz4⟩ : ∃ z, ordL a.list b.list = z := ⟨_, rfl⟩
  obtain ⟨z5, hz5⟩ : ∃ z, sgnZ a.elem b.elem = z := ⟨_, rfl⟩
  have hk1 := fun W => compare_int a.kind b.kind W
  have hk2 := fun W => compare_uint64 a.num b.num W
  have hk3 := fun W => strcmp_any a.text b.text W
  have hk5 := fun W => compare_int a.elem b.elem W
  rw [hz1] at hk1
  rw [hz2] at hk2
  rw [hz3] at hk3
  rw [hz5] at hk5
  have HK := Lib.hid (And.intro hk1 (And.intro hk2 (And.intro hk3 hk5)))
  have HD2 : Hid (thenZ z1 (thenZ z2 (thenZ z3 (thenZ z4 z5))) = D) := Lib.hid (by rw [← hz1, ← hz2, ← hz3, ← hz4, ← hz5]; exact HD.out)
  have HZ4 := Lib.hid hz4
  have HX : Hid (∀ W', BelowD w0.heap.size w0 W' → W'.cell? ⟨x, 0, none⟩ = some (.int .i64 a.kind) ∧ W'.cell? ⟨x, 1, none⟩ = some (.int .u64 a.num) ∧ W'.cell? ⟨x, 2, none⟩ = some (.string a.text) ∧ W'.cell? ⟨y, 0, none⟩ = some (.int .i64 b.kind) ∧ W'.cell? ⟨y, 1, none⟩ = some (.int .u64 b.num) ∧ W'.cell? ⟨y, 2, none⟩ = some (.string b.text)) := Lib.hid (fun W' hB => ⟨bs_cellD hB x0, bs_cellD hB x1, bs_cellD hB x2, bs_cellD hB y0, bs_cellD hB y1, bs_cellD hB y2⟩)
  have HX4 : Hid (∀ W', BelowD w0.heap.size w0 W' → W'.cell? ⟨x, 3, none⟩ = some (.slice p N c) ∧ W'.cell? ⟨x, 4, none⟩ = some (.int .i64 a.elem) ∧ W'.cell? ⟨y, 3, none⟩ = some (.slice q M d) ∧ W'.cell? ⟨y, 4, none⟩ = some (.int .i64 b.elem)) := Lib.hid (fun W' hB => ⟨bs_cellD hB x3, bs_cellD hB x4, bs_cellD hB y3, bs_cellD hB y4⟩)
  clear hz1 hz2 hz3 hz4 hz5 hk1 hk2 hk3 hk5 x3 x4 y3 y4
  obtain ⟨u, hu⟩ : ∃ u, orL [z1, z2, z3] = u := ⟨_, rfl⟩
  have HU := Lib.hid hu
  clear hu
  have hdr : BelowD w0.heap.size w0 w0.drew := ⟨⟨rfl, rfl, rfl, Nat.le_refl _, fun _ _ => rfl⟩, Nat.le_succ _⟩
  go_region_held3 (fun w' => w'.cell? ⟨x, 0, none⟩ = some (.int .i64 a.kind) ∧ w'.cell? ⟨x, 1, none⟩ = some (.int .u64 a.num) ∧ w'.cell? ⟨x, 2, none⟩ = some (.string a.text) ∧ w'.cell? ⟨y, 0, none⟩ = some (.int .i64 b.kind) ∧ w'.cell? ⟨y, 1, none⟩ = some (.int .u64 b.num) ∧ w'.cell? ⟨y, 2, none⟩ = some (.string b.text)) (first | exact HX.out _ hdr | exact HX.out _ (hdr.alloc (Nat.le_refl _) _) | exact HX.out _ (by assumption))
    (first
      | (go_at_call 70; refine (HK.out.1 _).mono ?_; rintro e w' ⟨rfl, rfl⟩)
      | (go_at_call 71; refine (HK.out.2.1 _).mono ?_; rintro e w' ⟨rfl, rfl⟩)
      | (go_at_call 72; refine (HK.out.2.2.1 _).mono ?_; rintro e w' ⟨rfl, rfl⟩)
      | (go_at_call 69; refine (or_any _ _ 3 3 [z1, z2, z3] rfl (by omega) (by omega) (or_cells [z1, z2, z3])).mono ?_; rintro e w' ⟨rfl, rfl⟩; rw [HU.out]))
  have hd1 : BelowD w0.heap.size w0 ((w0.alloc (.cells #[.int .i64 z1, .int .i64 z2, .int .i64 z3] 3)).drew) := (hdr.alloc (Nat.le_refl _) _)
  generalize ((w0.alloc (.cells #[.int .i64 z1, .int .i64 z2, .int .i64 z3] 3)).drew) = w1 at *
  have HB1 := Lib.hid hd1
  clear hd1 hdr x0 x1 x2 y0 y1 y2
  by_cases hu0 : u = 0
  · have hut : (u == 0) = true := by simpa using hu0
    have hDu : thenZ z4 z5 = D := by rw [← HD2.out]; exact (orL_zero (by rw [HU.out]; exact hu0)).symm
    obtain ⟨v, hv⟩ : ∃ v, orL [z4, z5] = v := ⟨_, rfl⟩
    have HV2 := Lib.hid hv
    have hvD : v = D := by rw [← hDu, ← hv]; simp only [orL, thenZ]; by_cases h : z5 = 0 <;> simp [h]
    subst hvD
    subst hu0
    obtain ⟨e3, e4, g3, g4⟩ := HX4.out w1 HB1.out
    clear hDu hv
    go_upto_region 4 with fail
    have hdr : BelowD w0.heap.size w0 w1.drew := ⟨⟨HB1.out.os, HB1.out.tape, HB1.out.output, HB1.out.size, HB1.out.block⟩, Nat.le_succ_of_le HB1.out.drawn⟩
    have hc := HEF.out w1.drew _ b _ (HV.out.1.blwD (HB0.out.trans (hdr.mono HB0.out.size))) (HV.out.2.blwD (HB0.out.trans (hdr.mono HB0.out.size)))
    rw [HZ4.out] at hc
    have HC := Lib.hid hc
    clear hc
    go_region_held3 (fun w' => w'.cell? ⟨x, 3, none⟩ = some (.slice p N c) ∧ w'.cell? ⟨x, 4, none⟩ = some (.int .i64 a.elem) ∧ w'.cell? ⟨y, 3, none⟩ = some (.slice q M d) ∧ w'.cell? ⟨y, 4, none⟩ = some (.int .i64 b.elem)) (first | exact HX4.out _ hdr | exact HX4.out _ (by assumption) | exact HX4.out _ (hw2.alloc hw2.size _))
      (first
        | (go_at_call 73; refine HC.out.mono ?_; rintro e w2 ⟨rfl, hb2⟩; have hw2 : BelowD w0.heap.size w0 w2 := hdr.trans (hb2.mono hdr.size); clear hb2)
        | (go_at_call 70; refine (HK.out.2.2.2 _).mono ?_; rintro e w' ⟨rfl, rfl⟩)
        | (go_at_call 69; refine (or_any _ _ 2 2 [z4, z5] rfl (by omega) (by omega) (or_cells' [z4, z5])).mono ?_; rintro e w' ⟨rfl, rfl⟩; rw [HV2.out]))
    go_wp2_with fail
    go_ret
    exact ⟨rfl, HB0.out.trans ((hw2.alloc hw2.size _).mono HB0.out.size)⟩
  · have hut : (u == 0) = false := by simpa using hu0
    have HDu := Lib.hid (show D = u by rw [← HD2.out, ← HU.out]; exact orL_pos (by rw [HU.out]; exact hu0))
    go_wp2_with fail
    go_ret
    exact ⟨by rw [HDu.out]; rfl, HB0.out.trans (HB1.out.mono HB0.out.size)⟩

theorem grow_of_below {W w' : World} (h : BelowD W.heap.size W w') : ∃ q os', w' = Go.Sort.grow (W.drewN q) os' := by
  refine ⟨w'.drawn - W.drawn, w'.heap.extract W.heap.size w'.heap.size, ?_⟩
  obtain ⟨⟨h1, h2, h3, h4, h5⟩, h6⟩ := h
  obtain ⟨hp, tp, dr, o, out⟩ := w'
  simp only at h1 h2 h3 h4 h5 h6 ⊢
  subst h1 h2 h3
  simp only [Go.Sort.grow, World.drewN, World.mk.injEq, and_true, true_and]
  refine ⟨?_, by omega⟩
  apply Array.ext_getElem?
  intro i
  by_cases hi : i < W.heap.size
  · rw [h5 i hi, Array.getElem?_append_left hi]
  · rw [Array.getElem?_append_right (by omega), Array.getElem?_extract]
    by_cases hi2 : i < hp.size
    · rw [if_pos (by omega)]; congr 1; omega
    · rw [if_neg (by omega), Array.getElem?_eq_none (by omega)]

end Go.Proofs.YtjipennigjlklaaDoor

namespace Go.Proofs
open Go.Shelf
def Tryd.sort_ren : Go.Shelf.Ren := ⟨fun | 6 => 56 | 15 => 68 | 14 => 67 | 28 => 85 | 29 => 86 | 20 => 77 | 21 => 78 | 22 => 79 | 23 => 80 | 24 => 81 | 25 => 82 | 26 => 83 | 27 => 84 | 46 => 90 | 47 => 91 | 48 => 92 | 49 => 93 | 50 => 94 | 57 => 96 | n => n, fun | 22 => 23 | 24 => 25 | 25 => 83 | 3 => 3 | 39 => 86 | 0 => 0 | 53 => 112 | 55 => 22 | 4 => 4 | 46 => 105 | 45 => 104 | 50 => 109 | 5 => 5 | 9 => 9 | 66 => 121 | 70 => 125 | 76 => 127 | 77 => 128 | n => n, fun | n => n⟩
theorem Tryd.sort : Go.Proofs.SlLaysF0.n6 Tryd.prog Tryd.sort_ren := {
  mixed := by kernel_rfl
  f6 := ⟨Tryd.f56.name, by decide, Tryd.func56.trans (congrArg some (by kernel_rfl))⟩
  f14 := ⟨Tryd.f67.name, by decide, Tryd.func67.trans (congrArg some (by kernel_rfl))⟩
  f15 := Tryd.func68.trans (congrArg some (by kernel_rfl))
  f20 := ⟨Tryd.f77.name, by decide, Tryd.func77.trans (congrArg some (by kernel_rfl))⟩
  f21 := ⟨Tryd.f78.name, by decide, Tryd.func78.trans (congrArg some (by kernel_rfl))⟩
  f22 := ⟨Tryd.f79.name, by decide, Tryd.func79.trans (congrArg some (by kernel_rfl))⟩
  f23 := ⟨Tryd.f80.name, by decide, Tryd.func80.trans (congrArg some (by kernel_rfl))⟩
  f24 := ⟨Tryd.f81.name, by decide, Tryd.func81.trans (congrArg some (by kernel_rfl))⟩
  f25 := ⟨Tryd.f82.name, by decide, Tryd.func82.trans (congrArg some (by kernel_rfl))⟩
  f26 := ⟨Tryd.f83.name, by decide, Tryd.func83.trans (congrArg some (by kernel_rfl))⟩
  f27 := ⟨Tryd.f84.name, by decide, Tryd.func84.trans (congrArg some (by kernel_rfl))⟩
  f28 := Tryd.func85.trans (congrArg some (by kernel_rfl))
  f29 := Tryd.func86.trans (congrArg some (by kernel_rfl))
  f46 := ⟨Tryd.f90.name, by decide, Tryd.func90.trans (congrArg some (by kernel_rfl))⟩
  f47 := Tryd.func91.trans (congrArg some (by kernel_rfl))
  f48 := Tryd.func92.trans (congrArg some (by kernel_rfl))
  f49 := ⟨Tryd.f93.name, by decide, Tryd.func93.trans (congrArg some (by kernel_rfl))⟩
  f50 := ⟨Tryd.f94.name, by decide, Tryd.func94.trans (congrArg some (by kernel_rfl))⟩
  f57 := ⟨Tryd.f96.name, by decide, Tryd.func96.trans (congrArg some (by kernel_rfl))⟩
  t0 := Tryd.underlying0
  a0 := Tryd.isAgg0
  z0 := Tryd.sizeOf0
  v0 := Tryd.zeroValue0
  t3 := Tryd.underlying3
  a3 := Tryd.isAgg3
  z3 := Tryd.sizeOf3
  v3 := Tryd.zeroValue3
  t4 := Tryd.underlying4
  a4 := Tryd.isAgg4
  z4 := Tryd.sizeOf4
  v4 := Tryd.zeroValue4
  t5 := Tryd.underlying5
  a5 := Tryd.isAgg5
  z5 := Tryd.sizeOf5
  v5 := Tryd.zeroValue5
  t9 := Tryd.underlying9
  a9 := Tryd.isAgg9
  z9 := Tryd.sizeOf9
  v9 := Tryd.zeroValue9
  t22 := Tryd.underlying23
  a22 := Tryd.isAgg23
  z22 := Tryd.sizeOf23
  v22 := Tryd.zeroValue23
  t25 := Tryd.underlying83
  a25 := Tryd.isAgg83
  z25 := Tryd.sizeOf83
  v25 := Tryd.zeroValue83
  t39 := Tryd.underlying86
  a39 := Tryd.isAgg86
  z39 := Tryd.sizeOf86
  v39 := Tryd.zeroValue86
  t45 := Tryd.underlying104
  a45 := Tryd.isAgg104
  z45 := Tryd.sizeOf104
  v45 := Tryd.zeroValue104
  t46 := Tryd.underlying105
  a46 := Tryd.isAgg105
  z46 := Tryd.sizeOf105
  v46 := Tryd.zeroValue105
  t50 := Tryd.underlying109
  a50 := Tryd.isAgg109
  z50 := Tryd.sizeOf109
  v50 := Tryd.zeroValue109
  t53 := Tryd.underlying112
  a53 := Tryd.isAgg112
  z53 := Tryd.sizeOf112
  v53 := Tryd.zeroValue112
  t55 := Tryd.underlying22
  a55 := Tryd.isAgg22
  z55 := Tryd.sizeOf22
  v55 := Tryd.zeroValue22
  t66 := Tryd.underlying121
  a66 := Tryd.isAgg121
  z66 := Tryd.sizeOf121
  v66 := Tryd.zeroValue121
  t70 := Tryd.underlying125
  a70 := Tryd.isAgg125
  z70 := Tryd.sizeOf125
  v70 := Tryd.zeroValue125
  t76 := Tryd.underlying127
  a76 := Tryd.isAgg127
  z76 := Tryd.sizeOf127
  v76 := Tryd.zeroValue127
  t77 := Tryd.underlying128
  a77 := Tryd.isAgg128
  z77 := Tryd.sizeOf128
  v77 := Tryd.zeroValue128 }
end Go.Proofs
