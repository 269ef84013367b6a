/-
  Lemmas on the codec. Conditions: as each says.
-/
import Derived.Test.YtnnnfhobbnjmfaaGreatDoorMg02
import Derived.Handy
import Derived.WalkLawsBesides
namespace Go.Proofs.YtnnnfhobbnjmfaaGreatDoor
open Go.RowKit Go.Proofs.Tryz
set_option linter.all false
set_option maxHeartbeats 40000000
set_option maxRecDepth 20000

theorem ordV_self (a : V) : ordV a a = 0 := ordV_zero.2 rfl
theorem ordL_same : ∀ (p r s : List V), ordL (p ++ r) (p ++ s) = ordL r s
 | [], _, _ => rfl
 | a :: p, r, s => by rw [List.cons_append, List.cons_append, ordL, ordV_self, ordL_same p]; simp [thenZ]
theorem ordL_take {a b : List V} {k : Nat} (h : a.take k = b.take k) : ordL a b = ordL (a.drop k) (b.drop k) := by
 have e1 := List.take_append_drop k a
 have e2 := List.take_append_drop k b
 rw [← h] at e2
 rw [← e1, ← e2, ordL_same, e1, e2]
theorem ordL_at {a b : List V} {k : Nat} (h : a.take k = b.take k) (ha : k < a.length) (hb : k < b.length) : ordL a b = thenZ (ordV a[k] b[k]) (ordL (a.drop (k + 1)) (b.drop (k + 1))) := by
 rw [ordL_take h, List.drop_eq_getElem_cons ha, List.drop_eq_getElem_cons hb, ordL]
theorem take_next {a b : List V} {k : Nat} (h : a.take k = b.take k) (ha : k < a.length) (hb : k < b.length) (e : a[k] = b[k]) : a.take (k + 1) = b.take (k + 1) := by
 rw [List.take_add_one, List.take_add_one, h, List.getElem?_eq_getElem ha, List.getElem?_eq_getElem hb, e]
theorem ordL_longer {a b : List V} {k : Nat} (h : a.take k = b.take k) (ha : k < a.length) (hb : b.length <= k) : ordL a b = 1 := by
 rw [ordL_take h, List.drop_eq_getElem_cons ha, List.drop_eq_nil_of_le hb, ordL]
theorem ordL_end {a b : List V} {k : Nat} (h : a.take k = b.take k) (ha : a.length <= k) (hk : k <= a.length) : ordL a b = if a.length < b.length then -1 else (if b.length < a.length then 1 else 0) := by
 have hka : k = a.length := by omega
 subst hka
 rw [List.take_length] at h
 have hl : a.length <= b.length := by have := congrArg List.length h; rw [List.length_take] at this; omega
 rw [ordL_take (k := a.length) (by rw [List.take_length]; exact h), List.drop_length]
 by_cases hlt : a.length < b.length
 ·rw [if_pos hlt, List.drop_eq_getElem_cons hlt, ordL]
 ·rw [if_neg hlt, if_neg (by omega), List.drop_eq_nil_of_le (by omega), ordL]

theorem or_cells {w : World} {T : Nat} (l : List Int) : ∀ k (hk : k < l.length), ((w.alloc (.cells (l.map fun z => Value.int .i64 z).toArray T)).drew).cell? ⟨w.heap.size, k, none⟩ = some (.int .i64 l[k]) := fun k hk => by
 show (w.alloc _).cell? _ = _
 rw [cell_of_row _ _ _ _ _ _ (zN _ _)]
 simp [List.getElem?_eq_getElem hk]
theorem or_cells' {w : World} {T : Nat} (l : List Int) : ∀ k (hk : k < l.length), (w.alloc (.cells (l.map fun z => Value.int .i64 z).toArray T)).cell? ⟨w.heap.size, k, none⟩ = some (.int .i64 l[k]) := fun k hk => by
 rw [cell_of_row _ _ _ _ _ _ (zN _ _)]
 simp [List.getElem?_eq_getElem hk]
theorem orL_pos {z1 z2 z3 r : Int} (h : orL [z1, z2, z3] ≠ 0) : thenZ z1 (thenZ z2 (thenZ z3 r)) = orL [z1, z2, z3] := by
 simp only [orL, thenZ] at *
 by_cases h1 : z1 = 0 <;> by_cases h2 : z2 = 0 <;> by_cases h3 : z3 = 0 <;> simp_all
theorem orL_zero {z1 z2 z3 r : Int} (h : orL [z1, z2, z3] = 0) : thenZ z1 (thenZ z2 (thenZ z3 r)) = r := by
 simp only [orL, thenZ] at *
 by_cases h1 : z1 = 0 <;> by_cases h2 : z2 = 0 <;> by_cases h3 : z3 = 0 <;> simp_all

def OrdOn (a : V) : Prop := ∀ (w : World) (s : Value) (b : V) (t : Value), VIn w a s -> VIn w b t →
  Calls prog 103 #[.agg #[.int .i64 a.kind, .int .u64 a.num, .string a.text, s, .int .i64 a.elem], .agg #[.int .i64 b.kind, .int .u64 b.num, .string b.text, t, .int .i64 b.elem]] w fun e w' => e = .returned (.int .i64 (ordV a b)) ∧ Below w.heap.size w w'

theorem cmpfunc_any (a : V) (ih : ∀ x ∈ a.list, OrdOn x) (w : World) (s : Value) (b : V) (t : Value) (h : VIn w a s) (hb : VIn w b t) :
  Calls prog 126 #[s, t, .func (.func 103) #[] #[]] w fun e w' => e = .returned (.int .i64 (ordL a.list b.list)) ∧ Below w.heap.size w w' := by
 obtain ⟨p, c, hs, h1, h2, h3⟩ := h.slice
 obtain ⟨q, d, ht, k1, k2, k3⟩ := hb.slice
 obtain ⟨N, hN⟩ : ∃ N, a.list.length = N := ⟨_, rfl⟩
 obtain ⟨M, hM⟩ : ∃ M, b.list.length = M := ⟨_, rfl⟩
 rw [hN] at hs h1 h3
 rw [hM] at ht k1 k3
 subst hs ht
 unfold maxLen at h2 k2
 obtain ⟨D, hD⟩ : ∃ D, ordL a.list b.list = D := ⟨_, rfl⟩
 rw [hD]
 have HD := zH hD
 clear hD
 have HI := zH ih
 have HN := zH (And.intro hN hM)
 have HV := zH (And.intro h hb)
 clear ih h hb hN hM
 go_enter func126, ntmps126
 go_wp2_with fail
 go_loopw [13] (fun v5 wr => ∃ k : Nat, k <= N ∧ v5 = .int .i64 k ∧ a.list.take k = b.list.take k ∧ Below w.heap.size w wr) (fun v5 _ => N - (intOf v5).toNat)
 case atStart => exact ⟨0, Nat.zero_le _, rfl, by rw [List.take_zero, List.take_zero], Below.refl _ _⟩
 obtain ⟨k, hk', rfl, hsame, hbw⟩ := hrel
 have HR := zH (And.intro hsame hbw)
 clear hsame hbw
 by_cases hkN : (k : Int) < N
 ·have ka : k < a.list.length := by rw [HN.out.1]; omega
  obtain ⟨b1, o1, rfl⟩ := h3 (by omega)
  obtain ⟨ta, hta, hia⟩ := (HV.out.1.blw HR.out.2).part rfl ka
  obtain ⟨pa, ca, hsa, _⟩ := hia.slice
  subst hsa
  obtain ⟨c0, c1, c2, c3, c4⟩ := part_cells hta
  obtain ⟨ya, hya⟩ : ∃ ya, a.list[k] = ya := ⟨_, rfl⟩
  have HYA := zH hya
  have HIK := zH (HI.out _ (List.getElem_mem ka))
  rw [hya] at c0 c1 c2 c3 c4 hia HIK
  obtain ⟨na, hna⟩ : ∃ na, ya.list.length = na := ⟨_, rfl⟩
  rw [hna] at c3 hia
  have HP := zH hia
  clear hta hia hya hna
  go_upto_region 4 with (refine stV (.tmp 8) (.tmp 17) rfl rfl rfl rfl rfl (zN wr _) rfl ?_)
  refine layW wr ?_
  intro w1 hb_w1 ox
  obtain ⟨x, hx_x⟩ : ∃ x, wr.heap.size = x := ⟨_, rfl⟩
  rw [hx_x] at ox ⊢
  clear hx_x
  have HB1 := zH (HR.out.2.trans (hb_w1.mono HR.out.2.size))
  have HP1 := zH (HP.out.blw hb_w1)
  have HOX := zH ox
  clear hb_w1 ox c0 c1 c2 c3 c4
  by_cases hkM : (k : Int) < M
  ·have kb : k < b.list.length := by rw [HN.out.2]; omega
   obtain ⟨b2, o2, rfl⟩ := k3 (by omega)
   obtain ⟨tb, htb, hib⟩ := (HV.out.2.blw HB1.out).part rfl kb
   obtain ⟨pb, cb, hsb, _⟩ := hib.slice
   subst hsb
   obtain ⟨d0, d1, d2, d3, d4⟩ := part_cells htb
   obtain ⟨yb, hyb⟩ : ∃ yb, b.list[k] = yb := ⟨_, rfl⟩
   have HYB := zH hyb
   rw [hyb] at d0 d1 d2 d3 d4 hib
   obtain ⟨nb, hnb⟩ : ∃ nb, yb.list.length = nb := ⟨_, rfl⟩
   rw [hnb] at d3 hib
   have HPB := zH hib
   clear htb hib hyb hnb
   go_upto_region 7 with (refine stV (.tmp 9) (.tmp 25) rfl rfl rfl rfl rfl (zN w1 _) rfl ?_)
   refine layW w1 ?_
   intro w2 hb_w2 oy
   obtain ⟨y, hx_y⟩ : ∃ x, w1.heap.size = x := ⟨_, rfl⟩
   rw [hx_y] at oy ⊢
   clear hx_y
   have hox := (hb_w2.block x (Array.getElem?_eq_some_iff.1 HOX.out).1).trans HOX.out
   obtain ⟨x0, x1, x2, x3, x4⟩ := c5 hox
   obtain ⟨y0, y1, y2, y3, y4⟩ := c5 oy
   have HB2 := zH (HB1.out.trans (hb_w2.mono HB1.out.size))
   have hc := HIK.out w2 _ yb _ (HP1.out.blw hb_w2) (HPB.out.blw hb_w2)
   have hat := ordL_at HR.out.1 ka kb
   rw [HD.out, HYA.out, HYB.out] at hat
   have hz : ordV ya yb = 0 -> a.list.take (k + 1) = b.list.take (k + 1) := fun q => take_next HR.out.1 ka kb (by rw [HYA.out, HYB.out]; exact ordV_zero.1 q)
   obtain ⟨z, hzz⟩ : ∃ z, ordV ya yb = z := ⟨_, rfl⟩
   rw [hzz] at hc hat hz
   have HZ := zH (And.intro hat hz)
   clear hb_w2 hox oy d0 d1 d2 d3 d4 hat hz hzz
   have HC := zH hc
   clear hc
   go_wp2_with fail
   refine HC.out.mono ?_
   rintro e w3 ⟨rfl, hb3⟩
   have HB3 := zH (HB2.out.trans (hb3.mono HB2.out.size))
   clear hb3 x0 x1 x2 x3 x4 y0 y1 y2 y3 y4
   by_cases hz0 : z = 0
   ·have hzt : (z == 0) = true := by simpa using hz0
    have HZ2 := zH (HZ.out.2 hz0)
    subst hz0
    go_wp2_with fail
    go_roundw
    case rel => exact ⟨k + 1, by omega, by go_num, HZ2.out, HB3.out⟩
    case measure => simp [intOf]; omega
   ·have hzt : (z == 0) = false := by simpa using hz0
    have HDZ := zH (show D = z by rw [HZ.out.1]; simp [thenZ, hz0])
    go_wp2_with fail
    go_ret
    exact ⟨by rw [HDZ.out]; rfl, HB3.out⟩
  ·have HD1 := zH (show D = 1 by rw [← HD.out]; exact ordL_longer HR.out.1 ka (by rw [HN.out.2]; omega))
   go_wp2_with fail
   go_ret
   exact ⟨by rw [HD1.out]; rfl, HB1.out⟩
 have hkN2 : k = N := by omega
 have hend := ordL_end HR.out.1 (by rw [HN.out.1]; omega) (by rw [HN.out.1]; omega)
 rw [HD.out, HN.out.1, HN.out.2] at hend
 have hMN : ¬ M < N := by
  intro q
  have := congrArg List.length HR.out.1
  rw [List.length_take, List.length_take, HN.out.1, HN.out.2] at this
  omega
 by_cases hlt : (N : Int) < M
 ·have HE := zH (show D = -1 by rw [hend, if_pos (by omega)])
  clear hend hkN2 hMN
  go_wp2_with fail
  go_ret
  exact ⟨by rw [HE.out]; rfl, HR.out.2⟩
 have HE := zH (show D = 0 by rw [hend, if_neg (by omega), if_neg hMN])
 clear hend hkN2 hMN
 go_wp2_with fail
 go_ret
 exact ⟨by rw [HE.out]; rfl, HR.out.2⟩
theorem order_on : ∀ a : V, OrdOn a := by
 refine V.ind (fun a ih w s b t h hb => ?_)
 have hef := cmpfunc_any a ih
 obtain ⟨p, c, hs, h1, h2, h3⟩ := h.slice
 obtain ⟨q, d, ht, k1, k2, k3⟩ := hb.slice
 obtain ⟨N, hN⟩ : ∃ N, a.list.length = N := ⟨_, rfl⟩
 obtain ⟨M, hM⟩ : ∃ M, b.list.length = M := ⟨_, rfl⟩
 rw [hN] at hs h1 h3
 rw [hM] at ht k1 k3
 subst hs ht
 unfold maxLen at h2 k2
 obtain ⟨D, hD⟩ : ∃ D, ordV a b = D := ⟨_, rfl⟩
 rw [hD]
 have HD := zH (show thenZ (sgnZ a.kind b.kind) (thenZ (sgnZ a.num b.num) (thenZ (cmpT a.text b.text) (thenZ (ordL a.list b.list) (sgnZ a.elem b.elem)))) = D by rw [← ordV_eq]; exact hD)
 have HEF := zH hef
 clear hD hef
 have HI := zH ih
 have HN := zH (And.intro hN hM)
 have HV := zH (And.intro h hb)
 clear ih h hb hN hM
 go_enter func103, ntmps103
 go_upto_region 1 with fail
 have hb0 : Below w.heap.size w ((w.alloc (.cells #[.int .i64 a.kind, .int .u64 a.num, .string a.text, (.slice p N c), .int .i64 a.elem] 25)).alloc (.cells #[.int .i64 b.kind, .int .u64 b.num, .string b.text, (.slice q M d), .int .i64 b.elem] 25)) := (((Below.refl _ _).alloc (Nat.le_refl _) _).alloc (by simp) _)
 have ox : ((w.alloc (.cells #[.int .i64 a.kind, .int .u64 a.num, .string a.text, (.slice p N c), .int .i64 a.elem] 25)).alloc (.cells #[.int .i64 b.kind, .int .u64 b.num, .string b.text, (.slice q M d), .int .i64 b.elem] 25)).heap[w.heap.size]? = some (.cells #[.int .i64 a.kind, .int .u64 a.num, .string a.text, (.slice p N c), .int .i64 a.elem] 25 (0, 0)) := (_root_.Go.heap_alloc_old _ _ (by simp)).trans (zN _ _)
 have oy : ((w.alloc (.cells #[.int .i64 a.kind, .int .u64 a.num, .string a.text, (.slice p N c), .int .i64 a.elem] 25)).alloc (.cells #[.int .i64 b.kind, .int .u64 b.num, .string b.text, (.slice q M d), .int .i64 b.elem] 25)).heap[w.heap.size + 1]? = some (.cells #[.int .i64 b.kind, .int .u64 b.num, .string b.text, (.slice q M d), .int .i64 b.elem] 25 (0, 0)) := by have := zN (w.alloc (.cells #[.int .i64 a.kind, .int .u64 a.num, .string a.text, (.slice p N c), .int .i64 a.elem] 25)) (.cells #[.int .i64 b.kind, .int .u64 b.num, .string b.text, (.slice q M d), .int .i64 b.elem] 25); rwa [World.size_alloc] at this
 generalize ((w.alloc (.cells #[.int .i64 a.kind, .int .u64 a.num, .string a.text, (.slice p N c), .int .i64 a.elem] 25)).alloc (.cells #[.int .i64 b.kind, .int .u64 b.num, .string b.text, (.slice q M d), .int .i64 b.elem] 25)) = w0 at *
 obtain ⟨x, hx⟩ : ∃ x, w.heap.size = x := ⟨_, rfl⟩
 rw [hx] at ox oy ⊢
 obtain ⟨y, hy⟩ : ∃ y, x + 1 = y := ⟨_, rfl⟩
 rw [hy] at oy ⊢
 have HB0 := zH hb0
 have HOx := zH ox
 have HOy := zH oy
 clear hb0 ox oy hx hy
 obtain ⟨x0, x1, x2, x3, x4⟩ := c5 HOx.out
 obtain ⟨y0, y1, y2, y3, y4⟩ := c5 HOy.out
 obtain ⟨z1, hz1⟩ : ∃ z, sgnZ a.kind b.kind = z := ⟨_, rfl⟩
 obtain ⟨z2, hz2⟩ : ∃ z, sgnZ a.num b.num = z := ⟨_, rfl⟩
 obtain ⟨z3, hz3⟩ : ∃ z, cmpT a.text b.text = z := ⟨_, rfl⟩
 obtain ⟨z4, hz4⟩ : ∃ z, ordL a.list b.list = z := ⟨_, rfl⟩
 obtain ⟨z5, hz5⟩ : ∃ z, sgnZ a.elem b.elem = z := ⟨_, rfl⟩
 have hk1 := fun W => compare_int a.kind b.kind W
 have hk2 := fun W => compare_uint64 a.num b.num W
 have hk3 := fun W => strcmp_any a.text b.text W
 have hk5 := fun W => compare_int a.elem b.elem W
 rw [hz1] at hk1
 rw [hz2] at hk2
 rw [hz3] at hk3
 rw [hz5] at hk5
 have HK := zH (And.intro hk1 (And.intro hk2 (And.intro hk3 hk5)))
 have HD2 : Hid (thenZ z1 (thenZ z2 (thenZ z3 (thenZ z4 z5))) = D) := zH (by rw [← hz1, ← hz2, ← hz3, ← hz4, ← hz5]; exact HD.out)
 have HZ4 := zH hz4
 have HX : Hid (∀ W', Below w0.heap.size w0 W' -> W'.cell? ⟨x, 0, none⟩ = some (.int .i64 a.kind) ∧ W'.cell? ⟨x, 1, none⟩ = some (.int .u64 a.num) ∧ W'.cell? ⟨x, 2, none⟩ = some (.string a.text) ∧ W'.cell? ⟨y, 0, none⟩ = some (.int .i64 b.kind) ∧ W'.cell? ⟨y, 1, none⟩ = some (.int .u64 b.num) ∧ W'.cell? ⟨y, 2, none⟩ = some (.string b.text)) := zH (fun W' hB => ⟨bs_cellV hB x0, bs_cellV hB x1, bs_cellV hB x2, bs_cellV hB y0, bs_cellV hB y1, bs_cellV hB y2⟩)
 have HX4 : Hid (∀ W', Below w0.heap.size w0 W' -> W'.cell? ⟨x, 3, none⟩ = some (.slice p N c) ∧ W'.cell? ⟨x, 4, none⟩ = some (.int .i64 a.elem) ∧ W'.cell? ⟨y, 3, none⟩ = some (.slice q M d) ∧ W'.cell? ⟨y, 4, none⟩ = some (.int .i64 b.elem)) := zH (fun W' hB => ⟨bs_cellV hB x3, bs_cellV hB x4, bs_cellV hB y3, bs_cellV hB y4⟩)
 clear hz1 hz2 hz3 hz4 hz5 hk1 hk2 hk3 hk5 x3 x4 y3 y4
 obtain ⟨u, hu⟩ : ∃ u, orL [z1, z2, z3] = u := ⟨_, rfl⟩
 have HU := zH hu
 clear hu
 have hdr : Below w0.heap.size w0 w0.drew := ⟨rfl, rfl, rfl, Nat.le_refl _, fun _ _ => rfl⟩
 go_region_held3 (fun w' => w'.cell? ⟨x, 0, none⟩ = some (.int .i64 a.kind) ∧ w'.cell? ⟨x, 1, none⟩ = some (.int .u64 a.num) ∧ w'.cell? ⟨x, 2, none⟩ = some (.string a.text) ∧ w'.cell? ⟨y, 0, none⟩ = some (.int .i64 b.kind) ∧ w'.cell? ⟨y, 1, none⟩ = some (.int .u64 b.num) ∧ w'.cell? ⟨y, 2, none⟩ = some (.string b.text)) (first | exact HX.out _ hdr | exact HX.out _ (hdr.alloc (Nat.le_refl _) _) | exact HX.out _ (by assumption))
  (first
   | (go_at_call 123; refine (HK.out.1 _).mono ?_; rintro e w' ⟨rfl, rfl⟩)
   | (go_at_call 124; refine (HK.out.2.1 _).mono ?_; rintro e w' ⟨rfl, rfl⟩)
   | (go_at_call 125; refine (HK.out.2.2.1 _).mono ?_; rintro e w' ⟨rfl, rfl⟩)
   | (go_at_call 122; refine (or_any _ _ 3 3 [z1, z2, z3] rfl (by omega) (by omega) (or_cells [z1, z2, z3])).mono ?_; rintro e w' ⟨rfl, rfl⟩; rw [HU.out]))
 have hd1 : Below w0.heap.size w0 ((w0.alloc (.cells #[.int .i64 z1, .int .i64 z2, .int .i64 z3] 3)).drew) := (hdr.alloc (Nat.le_refl _) _)
 generalize ((w0.alloc (.cells #[.int .i64 z1, .int .i64 z2, .int .i64 z3] 3)).drew) = w1 at *
 have HB1 := zH hd1
 clear hd1 hdr x0 x1 x2 y0 y1 y2
 by_cases hu0 : u = 0
 ·have hut : (u == 0) = true := by simpa using hu0
  have hDu : thenZ z4 z5 = D := by rw [← HD2.out]; exact (orL_zero (by rw [HU.out]; exact hu0)).symm
  obtain ⟨v, hv⟩ : ∃ v, orL [z4, z5] = v := ⟨_, rfl⟩
  have HV2 := zH hv
  have hvD : v = D := by rw [← hDu, ← hv]; simp only [orL, thenZ]; by_cases h : z5 = 0 <;> simp [h]
  subst hvD
  subst hu0
  obtain ⟨e3, e4, g3, g4⟩ := HX4.out w1 HB1.out
  clear hDu hv
  go_upto_region 4 with fail
  have hdr : Below w0.heap.size w0 w1.drew := ⟨HB1.out.os, HB1.out.tape, HB1.out.output, HB1.out.size, HB1.out.block⟩
  have hc := HEF.out w1.drew _ b _ (HV.out.1.blw (HB0.out.trans (hdr.mono HB0.out.size))) (HV.out.2.blw (HB0.out.trans (hdr.mono HB0.out.size)))
  rw [HZ4.out] at hc
  have HC := zH hc
  clear hc
  go_region_held3 (fun w' => w'.cell? ⟨x, 3, none⟩ = some (.slice p N c) ∧ w'.cell? ⟨x, 4, none⟩ = some (.int .i64 a.elem) ∧ w'.cell? ⟨y, 3, none⟩ = some (.slice q M d) ∧ w'.cell? ⟨y, 4, none⟩ = some (.int .i64 b.elem)) (first | exact HX4.out _ hdr | exact HX4.out _ (by assumption) | exact HX4.out _ (hw2.alloc hw2.size _))
   (first
    | (go_at_call 126; refine HC.out.mono ?_; rintro e w2 ⟨rfl, hb2⟩; have hw2 : Below w0.heap.size w0 w2 := hdr.trans (hb2.mono hdr.size); clear hb2)
    | (go_at_call 123; refine (HK.out.2.2.2 _).mono ?_; rintro e w' ⟨rfl, rfl⟩)
    | (go_at_call 122; refine (or_any _ _ 2 2 [z4, z5] rfl (by omega) (by omega) (or_cells' [z4, z5])).mono ?_; rintro e w' ⟨rfl, rfl⟩; rw [HV2.out]))
  go_wp2_with fail
  go_ret
  exact ⟨rfl, HB0.out.trans ((hw2.alloc hw2.size _).mono HB0.out.size)⟩
 have hut : (u == 0) = false := by simpa using hu0
 have HDu := zH (show D = u by rw [← HD2.out, ← HU.out]; exact orL_pos (by rw [HU.out]; exact hu0))
 go_wp2_with fail
 go_ret
 exact ⟨by rw [HDu.out]; rfl, HB0.out.trans (HB1.out.mono HB0.out.size)⟩

theorem cell_of_newrow {w : World} {ys : List Value} {e : TypeId} {j : Nat} {u : Value} (hj : ys[j]? = some u) : (w.alloc (.cells ys.toArray e)).cell? ((⟨w.heap.size, 0, none⟩ : Addr).add j) = some u := by
 have hadd : (⟨w.heap.size, 0, none⟩ : Addr).add j = ⟨w.heap.size, j, none⟩ := by unfold Addr.add; split <;> simp_all
 rw [hadd, cell_of_row _ _ j _ _ _ (zN w _)]
 simpa using hj
theorem info_val : (Tryz.prog.info? 25).map (fun i => (i.zero, i.size, i.bytes)) = some (some (.agg zR), 5, 64) := by kernel_rfl
theorem info_partsV {P : Program} {t : TypeId} {z : Value} {k b : Nat} (h : (P.info? t).map (fun i => (i.zero, i.size, i.bytes)) = some (some z, k, b)) : ∃ i, P.info? t = some i ∧ i.zero = some z ∧ i.size = k ∧ i.bytes = b := by
 obtain ⟨i, hi, hzz⟩ := Option.map_eq_some_iff.1 h
 simp only [Prod.mk.injEq] at hzz
 exact ⟨i, hi, hzz.1, hzz.2.1, hzz.2.2⟩
theorem VO.slice {w : World} {B : Nat} {v : V} {s : Value} {F : Nat -> Prop} (h : VO w B v s F) : ∃ p c, s = .slice p v.list.length c ∧ v.list.length <= c ∧ c <= maxLen := by
 obtain ⟨p, c, e, h1, h2, _⟩ := h.vin.slice
 exact ⟨p, c, e, h1, h2⟩
theorem set_farV {w : World} {b i g : Nat} {v : Value} (h : g ≠ b) : (w.setCell ⟨b, i, none⟩ v).heap[g]? = w.heap[g]? := by
 simp [World.setCell, Array.getElem?_modify, Ne.symm h]
theorem VO.as {w : World} {B : Nat} {v v' : V} {s : Value} {F : Nat -> Prop} (h : VO w B v s F) (hl : v'.list = v.list) (hw : v'.Wf) : VO w B v' s F := by
 cases h with
 | mk _ _ _ ss Fs wf hrow hin hd hs hF =>
  have hln : v'.list.length = v.list.length := by rw [hl]
  refine .mk v' s F ss Fs hw (by rw [hl]; exact hrow) (fun i hi => ?_) (fun i j hi hj => hd i j (hln ▸ hi) (hln ▸ hj)) (fun g hg i hi => hs g hg i (hln ▸ hi)) (fun b => by rw [hF b, hln])
  have := hin i (hln ▸ hi)
  have e : v'.list[i] = v.list[i]'(hln ▸ hi) := by simp only [hl]
  rw [e]
  exact this


def V.listed (l : List V) : V := .mk 21 0 ⟨#[]⟩ l 0
def hasT (k : Int) : Bool := decide (k = 14 ∨ k = 17 ∨ k = 18 ∨ k = 19 ∨ k = 20)
def hasP (k : Int) : Bool := decide (k = 21 ∨ k = 22 ∨ k = 23 ∨ k = 24)
def hasN (k : Int) : Bool := decide (¬ (k = 0 ∨ k = 14 ∨ k = 17 ∨ k = 18 ∨ k = 19 ∨ k = 20 ∨ k = 21 ∨ k = 22 ∨ k = 23 ∨ k = 24))
theorem has_any (k : Int) (w : World) : Calls prog 98 #[.int .i64 k] w fun e w' => e = .returned (.tuple #[.bool (hasN k), .bool (hasT k), .bool (hasP k)]) ∧ w' = w := by
 by_cases e0 : k = 0
 ·subst e0
  rw [show hasN 0 = false from by decide, show hasT 0 = false from by decide, show hasP 0 = false from by decide]
  go_enter func98, ntmps98
  go_wp2_with fail
  go_ret3
  exact ⟨rfl, rfl⟩
 by_cases e14 : k = 14
 ·subst e14
  rw [show hasN 14 = false from by decide, show hasT 14 = true from by decide, show hasP 14 = false from by decide]
  go_enter func98, ntmps98
  go_wp2_with fail
  go_ret3
  exact ⟨rfl, rfl⟩
 by_cases e17 : k = 17
 ·subst e17
  rw [show hasN 17 = false from by decide, show hasT 17 = true from by decide, show hasP 17 = false from by decide]
  go_enter func98, ntmps98
  go_wp2_with fail
  go_ret3
  exact ⟨rfl, rfl⟩
 by_cases e18 : k = 18
 ·subst e18
  rw [show hasN 18 = false from by decide, show hasT 18 = true from by decide, show hasP 18 = false from by decide]
  go_enter func98, ntmps98
  go_wp2_with fail
  go_ret3
  exact ⟨rfl, rfl⟩
 by_cases e19 : k = 19
 ·subst e19
  rw [show hasN 19 = false from by decide, show hasT 19 = true from by decide, show hasP 19 = false from by decide]
  go_enter func98, ntmps98
  go_wp2_with fail
  go_ret3
  exact ⟨rfl, rfl⟩
 by_cases e20 : k = 20
 ·subst e20
  rw [show hasN 20 = false from by decide, show hasT 20 = true from by decide, show hasP 20 = false from by decide]
  go_enter func98, ntmps98
  go_wp2_with fail
  go_ret3
  exact ⟨rfl, rfl⟩
 by_cases e21 : k = 21
 ·subst e21
  rw [show hasN 21 = false from by decide, show hasT 21 = false from by decide, show hasP 21 = true from by decide]
  go_enter func98, ntmps98
  go_wp2_with fail
  go_ret3
  exact ⟨rfl, rfl⟩
 by_cases e22 : k = 22
 ·subst e22
  rw [show hasN 22 = false from by decide, show hasT 22 = false from by decide, show hasP 22 = true from by decide]
  go_enter func98, ntmps98
  go_wp2_with fail
  go_ret3
  exact ⟨rfl, rfl⟩
 by_cases e23 : k = 23
 ·subst e23
  rw [show hasN 23 = false from by decide, show hasT 23 = false from by decide, show hasP 23 = true from by decide]
  go_enter func98, ntmps98
  go_wp2_with fail
  go_ret3
  exact ⟨rfl, rfl⟩
 by_cases e24 : k = 24
 ·subst e24
  rw [show hasN 24 = false from by decide, show hasT 24 = false from by decide, show hasP 24 = true from by decide]
  go_enter func98, ntmps98
  go_wp2_with fail
  go_ret3
  exact ⟨rfl, rfl⟩
 rw [show hasN k = true from by simp [hasN, e0, e14, e17, e18, e19, e20, e21, e22, e23, e24], show hasT k = false from by simp [hasT, e14, e17, e18, e19, e20], show hasP k = false from by simp [hasP, e21, e22, e23, e24]]
 have m0 : (k == 0) = false := by simpa using e0
 have m14 : (k == 14) = false := by simpa using e14
 have m17 : (k == 17) = false := by simpa using e17
 have m18 : (k == 18) = false := by simpa using e18
 have m19 : (k == 19) = false := by simpa using e19
 have m20 : (k == 20) = false := by simpa using e20
 have m21 : (k == 21) = false := by simpa using e21
 have m22 : (k == 22) = false := by simpa using e22
 have m23 : (k == 23) = false := by simpa using e23
 have m24 : (k == 24) = false := by simpa using e24
 clear e0 e14 e17 e18 e19 e20 e21 e22 e23 e24
 go_enter func98, ntmps98
 go_wp2_with fail
 go_ret3
 exact ⟨rfl, rfl⟩
def twoC (n : Int) : Int := if n < 9223372036854775808 then n else n - 18446744073709551616
theorem wrap_twoC {n : Int} (h : IsU64 n) : wrap64 n = twoC n := by
 obtain ⟨h1, h2⟩ := h
 unfold wrap64 twoC
 split <;> omega
theorem ret_boolV {a b : Bool} (h : a = b) : Ending.returned (.bool a) = .returned (.bool b) := by rw [h]
theorem within8_any (n : Int) (w : World) (hn : IsU64 n) : Calls prog 99 #[.int .u64 n, .int .i64 8] w fun e w' => e = .returned (.bool (decide (-128 <= twoC n ∧ twoC n < 128))) ∧ w' = w := by
 obtain ⟨n0, n1⟩ := hn
 go_enter func99, ntmps99
 have e := wrap_twoC ⟨n0, n1⟩
 go_wp2_with fail
 all_goals
  go_ret
  refine ⟨ret_boolV ?_, rfl⟩
  rw [Bool.eq_iff_iff]
  simp only [Bool.or_eq_true, beq_iff_eq, decide_eq_true_eq]
  try rw [e] at *
  try omega
  try (constructor <;> intro q <;> first | omega | trivial)
theorem within16_any (n : Int) (w : World) (hn : IsU64 n) : Calls prog 99 #[.int .u64 n, .int .i64 16] w fun e w' => e = .returned (.bool (decide (-32768 <= twoC n ∧ twoC n < 32768))) ∧ w' = w := by
 obtain ⟨n0, n1⟩ := hn
 go_enter func99, ntmps99
 have e := wrap_twoC ⟨n0, n1⟩
 go_wp2_with fail
 all_goals
  go_ret
  refine ⟨ret_boolV ?_, rfl⟩
  rw [Bool.eq_iff_iff]
  simp only [Bool.or_eq_true, beq_iff_eq, decide_eq_true_eq]
  try rw [e] at *
  try omega
  try (constructor <;> intro q <;> first | omega | trivial)
theorem within32_any (n : Int) (w : World) (hn : IsU64 n) : Calls prog 99 #[.int .u64 n, .int .i64 32] w fun e w' => e = .returned (.bool (decide (-2147483648 <= twoC n ∧ twoC n < 2147483648))) ∧ w' = w := by
 obtain ⟨n0, n1⟩ := hn
 go_enter func99, ntmps99
 have e := wrap_twoC ⟨n0, n1⟩
 go_wp2_with fail
 all_goals
  go_ret
  refine ⟨ret_boolV ?_, rfl⟩
  rw [Bool.eq_iff_iff]
  simp only [Bool.or_eq_true, beq_iff_eq, decide_eq_true_eq]
  try rw [e] at *
  try omega
  try (constructor <;> intro q <;> first | omega | trivial)


def byteS (s : ByteArray) (k : Nat) : Nat := if h : k < s.size then s[k].toNat else 0
theorem byteS_in (s : ByteArray) (k : Nat) (h : k < s.size) : byteS s k = s[k].toNat := by simp [byteS, h]
theorem byteS_lt (s : ByteArray) (k : Nat) : byteS s k < 256 := by
 unfold byteS; split
 ·exact UInt8.toNat_lt _
 ·omega

def asciiF (s : ByteArray) : Nat → Nat → Int
 | 0, _ => -1
 | f + 1, k => if 128 ≤ byteS s k then (k : Int) else asciiF s f (k + 1)
def asciiS (s : ByteArray) : Int := asciiF s s.size 0

theorem ret_i64 {a b : Int} (h : a = b) : Ending.returned (.int .i64 a) = .returned (.int .i64 b) := by rw [h]
theorem ascii_any (s : ByteArray) (w : World) (hs : s.size ≤ 9223372036854775807) :
  Calls Tryz.prog 101 #[.string s] w fun e w' => e = .returned (.int .i64 (asciiS s)) ∧ w = w' := by
 go_enter Tryz.func101, Tryz.ntmps101
 go_wp2
 go_loop [6] (fun i => ∃ k : Nat, k ≤ s.size ∧ i = .int .i64 k ∧ Hid (asciiS s = asciiF s (s.size - k) k)) (fun i => s.size - (intOf i).toNat)
 case atStart => exact ⟨0, by omega, rfl, Lib.hid rfl⟩
 case round =>
  obtain ⟨k, hk, rfl, H⟩ := hrel
  by_cases hlt : k < s.size
  ·have hb := byteS_in s k hlt
   have hx := byteS_lt s k
   have hf : s.size - k = (s.size - (k + 1)) + 1 := by omega
   by_cases h128 : 128 ≤ s[k].toNat
   ·have HE := Lib.hid (show asciiS s = (k : Int) by rw [H.out, hf, asciiF, hb, if_pos h128])
    clear hb hf hx
    have h128' : (128 : Int) ≤ (s[k].toNat : Int) := by omega
    go_wp2
    go_ret
    exact ⟨ret_i64 HE.out.symm, rfl⟩
   ·have HE := Lib.hid (show asciiS s = asciiF s (s.size - (k + 1)) (k + 1) by rw [H.out, hf, asciiF, hb, if_neg h128])
    clear hb hf hx
    have h128' : ¬ (128 : Int) ≤ (s[k].toNat : Int) := by omega
    go_wp2
    go_round
    case rel => exact ⟨k + 1, by omega, by go_num, HE⟩
    case measure => simp [intOf]; omega
  ·have HE := Lib.hid (show asciiS s = -1 by rw [H.out, show s.size - k = 0 by omega, asciiF])
   go_wp2
   go_ret
   exact ⟨ret_i64 HE.out.symm, rfl⟩

def Tabs (w : World) : Prop := Lib.Utf8Tabs 0 1 w
theorem Tabs.below {w w' : World} (h : Tabs w) (hb : Below w.heap.size w w') : Tabs w' := by
 obtain ⟨h1, h2⟩ := h
 refine ⟨fun c hc => ?_, fun i hi => ?_⟩
 ·exact (hb.cell (World.block_lt_of_cell? w _ (h1 c hc))).trans (h1 c hc)
 ·obtain ⟨e1, e2⟩ := h2 i hi
  exact ⟨(hb.cell (World.block_lt_of_cell? w _ e1)).trans e1, (hb.cell (World.block_lt_of_cell? w _ e2)).trans e2⟩

def utf8F (s : ByteArray) : Nat → Nat → Int
 | 0, _ => -1
 | f + 1, k => if k < s.size then (if (Lib.decodeGo (s.extract k s.size)).1 = 65533 ∧ (Lib.decodeGo (s.extract k s.size)).2 = 1 then (k : Int) else utf8F s f (k + (Lib.decodeGo (s.extract k s.size)).2)) else -1
def utf8S (s : ByteArray) : Int := utf8F s s.size 0

theorem tabs_decode (s : ByteArray) (k : Nat) (w : World) (hT : Tabs w) :
  Calls Tryz.prog 119 #[.string (s.extract k s.size)] w fun e w' =>
   e = .returned (.tuple #[.int .i32 (Lib.decodeGo (s.extract k s.size)).1, .int .i64 (Lib.decodeGo (s.extract k s.size)).2]) ∧ Below w.heap.size w w' :=
 Tryz.utf8_DecodeRuneInString _ w hT

theorem decodeGo_bd (s : ByteArray) (k : Nat) (h : k < s.size) : 1 ≤ (Lib.decodeGo (s.extract k s.size)).2 ∧ (Lib.decodeGo (s.extract k s.size)).2 ≤ s.size - k ∧ (Lib.decodeGo (s.extract k s.size)).1 ≤ 1114111 := by
 have hsz : (s.extract k s.size).size = s.size - k := by simp
 unfold Lib.decodeGo
 rw [if_neg (by omega), Lib.decode_at, hsz]
 have hb : ∀ x : UInt8, x.toNat < 256 := fun x => x.toNat_lt
 have h0 := hb ((s.extract k s.size).get! 0)
 generalize ((s.extract k s.size).get! 0).toNat = b0 at *
 generalize ((s.extract k s.size).get! (0 + 1)).toNat = b1
 generalize ((s.extract k s.size).get! (0 + 2)).toNat = b2
 generalize ((s.extract k s.size).get! (0 + 3)).toNat = b3
 generalize hn : s.size - k = n
 have hn1 : 1 ≤ n := by omega
 clear hb hsz
 unfold Lib.decodeN
 repeat' split
 all_goals first | (simp only; omega) | omega

set_option maxHeartbeats 2000000 in
theorem utf8_any (s : ByteArray) (w : World) (hs : s.size ≤ 9223372036854775800) (hT : Tabs w) :
  Calls Tryz.prog 100 #[.string s] w fun e w' => e = .returned (.int .i64 (utf8S s)) ∧ Below w.heap.size w w' := by
 go_enter Tryz.func100, Tryz.ntmps100
 go_wp2
 go_loopw [3] (fun i wr => ∃ k f : Nat, k ≤ s.size ∧ s.size - k ≤ f ∧ i = .int .i64 k ∧ Hid (utf8S s = utf8F s f k) ∧ Below w.heap.size w wr) (fun i _ => s.size - (intOf i).toNat)
 case atStart => exact ⟨0, s.size, by omega, by omega, rfl, Lib.hid rfl, Below.refl _ _⟩
 case round =>
  obtain ⟨k, f, hk, hf, rfl, H, hB⟩ := hrel
  by_cases hlt : k < s.size
  ·obtain ⟨f, rfl⟩ : ∃ f', f = f' + 1 := ⟨f - 1, by omega⟩
   obtain ⟨hd1, hd2, hd3⟩ := decodeGo_bd s k hlt
   have hs1 := H.out
   rw [utf8F, if_pos hlt] at hs1
   have hc := tabs_decode s k wr (hT.below hB)
   obtain ⟨r, hr⟩ : ∃ r, (Lib.decodeGo (s.extract k s.size)).1 = r := ⟨_, rfl⟩
   obtain ⟨m, hm⟩ : ∃ m, (Lib.decodeGo (s.extract k s.size)).2 = m := ⟨_, rfl⟩
   rw [hr, hm] at hs1 hc
   rw [hr] at hd3
   rw [hm] at hd1 hd2
   clear hr hm H hT
   have HC := Lib.hid hc
   clear hc
   by_cases c1 : r = 65533
   ·by_cases c2 : m = 1
    ·subst c1; subst c2
     have HE := Lib.hid (show utf8S s = (k : Int) by rw [hs1, if_pos ⟨rfl, rfl⟩])
     clear hs1
     go_wp2_with fail
     refine HC.out.mono ?_
     rintro e w' ⟨rfl, hb'⟩
     go_wp2_with fail
     go_ret
     exact ⟨ret_i64 HE.out.symm, hB.trans (hb'.mono hB.size)⟩
    ·subst c1
     have HE := Lib.hid (show utf8S s = utf8F s f (k + m) by rw [hs1, if_neg (fun h => c2 h.2)])
     clear hs1
     have c2' : ((m : Int) == 1) = false := by simp; omega
     go_wp2_with fail
     refine HC.out.mono ?_
     rintro e w' ⟨rfl, hb'⟩
     go_wp2_with fail
     go_roundw
     case rel => exact ⟨k + m, f, by omega, by omega, by go_num, HE, hB.trans (hb'.mono hB.size)⟩
     case measure => simp [intOf]; omega
   ·have HE := Lib.hid (show utf8S s = utf8F s f (k + m) by rw [hs1, if_neg (fun h => c1 h.1)])
    clear hs1
    have c1' : ((r : Int) == 65533) = false := by simp; omega
    go_wp2_with fail
    refine HC.out.mono ?_
    rintro e w' ⟨rfl, hb'⟩
    go_wp2_with fail
    go_roundw
    case rel => exact ⟨k + m, f, by omega, by omega, by go_num, HE, hB.trans (hb'.mono hB.size)⟩
    case measure => simp [intOf]; omega
  ·have HE := Lib.hid (show utf8S s = -1 by rw [H.out]; cases f <;> simp [utf8F, hlt])
   go_wp2
   go_ret
   exact ⟨ret_i64 HE.out.symm, hB⟩

theorem emp_t (s : ByteArray) : (s.toList == []) = decide (s = ⟨#[]⟩) := by
 rw [ByteArray.toList_eq, Bool.eq_iff_iff]
 simp only [beq_iff_eq, decide_eq_true_eq]
 exact ⟨fun h => by cases s; congr 1; exact Array.toList_inj.1 h, fun h => by rw [h]⟩
def extraV (v : V) : Bool := (!hasN v.kind && !decide (v.num = 0)) || (!hasT v.kind && !decide (v.text = ⟨#[]⟩)) || (!hasP v.kind && decide (0 < v.list.length)) || (!decide (v.kind = 23) && !decide (v.elem = 0))

theorem extra_any (v : V) (w : World) (s : Value) (h : VIn w v s) :
  Calls Tryz.prog 70 #[.agg #[.int .i64 v.kind, .int .u64 v.num, .string v.text, s, .int .i64 v.elem]] w fun e w' => e = .returned (.bool (extraV v)) ∧ Below w.heap.size w w' := by
 obtain ⟨p, c, hs, h1, h2, h3⟩ := h.slice
 obtain ⟨N, hN⟩ : ∃ N, v.list.length = N := ⟨_, rfl⟩
 rw [hN] at hs h1 h3
 subst hs
 unfold maxLen at h2
 obtain ⟨D, hD⟩ : ∃ D, extraV v = D := ⟨_, rfl⟩
 rw [hD]
 have hh := fun W => has_any v.kind W
 unfold extraV at hD
 rw [hN] at hD
 obtain ⟨b1, hb1⟩ : ∃ b, hasN v.kind = b := ⟨_, rfl⟩
 obtain ⟨b2, hb2⟩ : ∃ b, hasT v.kind = b := ⟨_, rfl⟩
 obtain ⟨b3, hb3⟩ : ∃ b, hasP v.kind = b := ⟨_, rfl⟩
 rw [hb1, hb2, hb3] at hh hD
 obtain ⟨z1, hz1⟩ : ∃ b, decide (v.num = 0) = b := ⟨_, rfl⟩
 obtain ⟨z2, hz2⟩ : ∃ b, decide (v.text = ⟨#[]⟩) = b := ⟨_, rfl⟩
 obtain ⟨z3, hz3⟩ : ∃ b, decide (0 < N) = b := ⟨_, rfl⟩
 obtain ⟨z4, hz4⟩ : ∃ b, decide (v.kind = 23) = b := ⟨_, rfl⟩
 obtain ⟨z5, hz5⟩ : ∃ b, decide (v.elem = 0) = b := ⟨_, rfl⟩
 rw [hz1, hz2, hz3, hz4, hz5] at hD
 have f1 : (v.num == 0) = z1 := by rw [← hz1]; rfl
 have f2 : (v.text.toList == []) = z2 := by rw [emp_t]; exact hz2
 have f3 : decide ((0 : Int) < N) = z3 := by rw [← hz3, decide_eq_decide]; omega
 have f3n : decide (0 < N) = z3 := hz3
 have f4 : (v.kind == 23) = z4 := by rw [← hz4]; rfl
 have f5 : (v.elem == 0) = z5 := by rw [← hz5]; rfl
 have g1 : (v.num != 0) = !z1 := by rw [← f1]; rfl
 have g2 : (v.text.toList != []) = !z2 := by rw [← f2]; rfl
 have g4 : (v.kind != 23) = !z4 := by rw [← f4]; rfl
 have g5 : (v.elem != 0) = !z5 := by rw [← f5]; rfl
 have HH := zH hh
 have HF := zH (And.intro f1 (And.intro f2 (And.intro f3 (And.intro f4 (And.intro f5 (And.intro g1 (And.intro g2 (And.intro g4 (And.intro g5 f3n)))))))))
 have HD := zH hD
 clear hh hD hb1 hb2 hb3 h hN hz1 hz2 hz3 hz4 hz5 f1 f2 f3 f4 f5 g1 g2 g4 g5 f3n
 go_enter Tryz.func70, Tryz.ntmps70
 go_upto_region 1 with fail
 have hb0 : Below w.heap.size w (w.alloc (.cells #[.int .i64 v.kind, .int .u64 v.num, .string v.text, (.slice p N c), .int .i64 v.elem] 25)) := ((Below.refl _ _).alloc (Nat.le_refl _) _)
 have ox := zN w (.cells #[.int .i64 v.kind, .int .u64 v.num, .string v.text, (.slice p N c), .int .i64 v.elem] 25)
 generalize (w.alloc (.cells #[.int .i64 v.kind, .int .u64 v.num, .string v.text, (.slice p N c), .int .i64 v.elem] 25)) = w0 at *
 obtain ⟨x, hx⟩ : ∃ x, w.heap.size = x := ⟨_, rfl⟩
 rw [hx] at ox ⊢
 have HB0 := zH hb0
 have HOx := zH ox
 clear hb0 ox hx
 obtain ⟨x0, x1, x2, x3, x4⟩ := c5 HOx.out
 have hh := HH.out w0
 go_wp2_with fail
 refine hh.mono ?_
 clear hh
 rintro e w1 ⟨rfl, rfl⟩
 obtain ⟨f1, f2, f3, f4, f5, g1, g2, g4, g5, f3n⟩ := HF.out
 have HD2 := HD.out
 cases b1
 ·cases z1
  ·
   simp only [Bool.not_false, Bool.true_or, Bool.and_self] at HD2
   subst HD2
   try simp only [Bool.not_false] at g1
   try simp only [Bool.not_true, Bool.not_false] at g2
   try simp only [Bool.not_true, Bool.not_false] at g4
   try simp only [Bool.not_true, Bool.not_false] at g5
   go_wp2_with fail
   all_goals
    go_ret
    exact ⟨rfl, HB0.out⟩
  ·
   cases b2
   ·cases z2
    ·
     simp only [Bool.not_true, Bool.not_false, Bool.or_true, Bool.true_or, Bool.and_false, Bool.and_self] at HD2
     subst HD2
     try simp only [Bool.not_true] at g1
     try simp only [Bool.not_false] at g2
     try simp only [Bool.not_true, Bool.not_false] at g4
     try simp only [Bool.not_true, Bool.not_false] at g5
     go_wp2_with fail
     all_goals
      go_ret
      exact ⟨rfl, HB0.out⟩
    ·
     cases b3
     ·cases z3
      ·
       cases z4
       ·cases z5
        ·
         simp only [Bool.not_true, Bool.not_false, Bool.or_true, Bool.and_false, Bool.or_self, Bool.and_self] at HD2
         subst HD2
         try simp only [Bool.not_true] at g1
         try simp only [Bool.not_true] at g2
         try simp only [Bool.not_false] at g4
         try simp only [Bool.not_false] at g5
         go_wp2_with fail
         all_goals
          go_ret
          exact ⟨rfl, HB0.out⟩
        ·
         simp only [Bool.not_true, Bool.not_false, Bool.and_false, Bool.or_self] at HD2
         subst HD2
         try simp only [Bool.not_true] at g1
         try simp only [Bool.not_true] at g2
         try simp only [Bool.not_false] at g4
         try simp only [Bool.not_true] at g5
         go_wp2_with fail
         all_goals
          go_ret
          exact ⟨rfl, HB0.out⟩
       ·
        simp only [Bool.not_true, Bool.not_false, Bool.false_and, Bool.and_false, Bool.or_self] at HD2
        subst HD2
        try simp only [Bool.not_true] at g1
        try simp only [Bool.not_true] at g2
        try simp only [Bool.not_true] at g4
        try simp only [Bool.not_true, Bool.not_false] at g5
        go_wp2_with fail
        all_goals
         go_ret
         exact ⟨rfl, HB0.out⟩
      ·
       simp only [Bool.not_true, Bool.not_false, Bool.or_true, Bool.true_or, Bool.and_false, Bool.or_self, Bool.and_self] at HD2
       subst HD2
       try simp only [Bool.not_true] at g1
       try simp only [Bool.not_true] at g2
       try simp only [Bool.not_true, Bool.not_false] at g4
       try simp only [Bool.not_true, Bool.not_false] at g5
       go_wp2_with fail
       all_goals
        go_ret
        exact ⟨rfl, HB0.out⟩
     ·
      cases z4
      ·cases z5
       ·
        simp only [Bool.not_true, Bool.not_false, Bool.false_and, Bool.or_true, Bool.and_false, Bool.or_self, Bool.and_self] at HD2
        subst HD2
        try simp only [Bool.not_true] at g1
        try simp only [Bool.not_true] at g2
        try simp only [Bool.not_false] at g4
        try simp only [Bool.not_false] at g5
        go_wp2_with fail
        all_goals
         go_ret
         exact ⟨rfl, HB0.out⟩
       ·
        simp only [Bool.not_true, Bool.not_false, Bool.false_and, Bool.and_false, Bool.or_self] at HD2
        subst HD2
        try simp only [Bool.not_true] at g1
        try simp only [Bool.not_true] at g2
        try simp only [Bool.not_false] at g4
        try simp only [Bool.not_true] at g5
        go_wp2_with fail
        all_goals
         go_ret
         exact ⟨rfl, HB0.out⟩
      ·
       simp only [Bool.not_true, Bool.not_false, Bool.false_and, Bool.and_false, Bool.or_self] at HD2
       subst HD2
       try simp only [Bool.not_true] at g1
       try simp only [Bool.not_true] at g2
       try simp only [Bool.not_true] at g4
       try simp only [Bool.not_true, Bool.not_false] at g5
       go_wp2_with fail
       all_goals
        go_ret
        exact ⟨rfl, HB0.out⟩
   ·
    cases b3
    ·cases z3
     ·
      cases z4
      ·cases z5
       ·
        simp only [Bool.not_true, Bool.not_false, Bool.false_and, Bool.or_true, Bool.and_false, Bool.or_self, Bool.and_self] at HD2
        subst HD2
        try simp only [Bool.not_true] at g1
        try simp only [Bool.not_true, Bool.not_false] at g2
        try simp only [Bool.not_false] at g4
        try simp only [Bool.not_false] at g5
        go_wp2_with fail
        all_goals
         go_ret
         exact ⟨rfl, HB0.out⟩
       ·
        simp only [Bool.not_true, Bool.not_false, Bool.false_and, Bool.and_false, Bool.or_self] at HD2
        subst HD2
        try simp only [Bool.not_true] at g1
        try simp only [Bool.not_true, Bool.not_false] at g2
        try simp only [Bool.not_false] at g4
        try simp only [Bool.not_true] at g5
        go_wp2_with fail
        all_goals
         go_ret
         exact ⟨rfl, HB0.out⟩
      ·
       simp only [Bool.not_true, Bool.not_false, Bool.false_and, Bool.and_false, Bool.or_self] at HD2
       subst HD2
       try simp only [Bool.not_true] at g1
       try simp only [Bool.not_true, Bool.not_false] at g2
       try simp only [Bool.not_true] at g4
       try simp only [Bool.not_true, Bool.not_false] at g5
       go_wp2_with fail
       all_goals
        go_ret
        exact ⟨rfl, HB0.out⟩
     ·
      simp only [Bool.not_true, Bool.not_false, Bool.false_and, Bool.or_true, Bool.true_or, Bool.and_false, Bool.or_self, Bool.and_self] at HD2
      subst HD2
      try simp only [Bool.not_true] at g1
      try simp only [Bool.not_true, Bool.not_false] at g2
      try simp only [Bool.not_true, Bool.not_false] at g4
      try simp only [Bool.not_true, Bool.not_false] at g5
      go_wp2_with fail
      all_goals
       go_ret
       exact ⟨rfl, HB0.out⟩
    ·
     cases z4
     ·cases z5
      ·
       simp only [Bool.not_true, Bool.not_false, Bool.false_and, Bool.or_true, Bool.and_false, Bool.or_self, Bool.and_self] at HD2
       subst HD2
       try simp only [Bool.not_true] at g1
       try simp only [Bool.not_true, Bool.not_false] at g2
       try simp only [Bool.not_false] at g4
       try simp only [Bool.not_false] at g5
       go_wp2_with fail
       all_goals
        go_ret
        exact ⟨rfl, HB0.out⟩
      ·
       simp only [Bool.not_true, Bool.not_false, Bool.false_and, Bool.and_false, Bool.or_self] at HD2
       subst HD2
       try simp only [Bool.not_true] at g1
       try simp only [Bool.not_true, Bool.not_false] at g2
       try simp only [Bool.not_false] at g4
       try simp only [Bool.not_true] at g5
       go_wp2_with fail
       all_goals
        go_ret
        exact ⟨rfl, HB0.out⟩
     ·
      simp only [Bool.not_true, Bool.not_false, Bool.false_and, Bool.and_false, Bool.or_self] at HD2
      subst HD2
      try simp only [Bool.not_true] at g1
      try simp only [Bool.not_true, Bool.not_false] at g2
      try simp only [Bool.not_true] at g4
      try simp only [Bool.not_true, Bool.not_false] at g5
      go_wp2_with fail
      all_goals
       go_ret
       exact ⟨rfl, HB0.out⟩
 ·
  cases b2
  ·cases z2
   ·
    simp only [Bool.not_true, Bool.not_false, Bool.false_and, Bool.or_true, Bool.true_or, Bool.and_self] at HD2
    subst HD2
    try simp only [Bool.not_true, Bool.not_false] at g1
    try simp only [Bool.not_false] at g2
    try simp only [Bool.not_true, Bool.not_false] at g4
    try simp only [Bool.not_true, Bool.not_false] at g5
    go_wp2_with fail
    all_goals
     go_ret
     exact ⟨rfl, HB0.out⟩
   ·
    cases b3
    ·cases z3
     ·
      cases z4
      ·cases z5
       ·
        simp only [Bool.not_true, Bool.not_false, Bool.false_and, Bool.or_true, Bool.and_false, Bool.or_self, Bool.and_self] at HD2
        subst HD2
        try simp only [Bool.not_true, Bool.not_false] at g1
        try simp only [Bool.not_true] at g2
        try simp only [Bool.not_false] at g4
        try simp only [Bool.not_false] at g5
        go_wp2_with fail
        all_goals
         go_ret
         exact ⟨rfl, HB0.out⟩
       ·
        simp only [Bool.not_true, Bool.not_false, Bool.false_and, Bool.and_false, Bool.or_self] at HD2
        subst HD2
        try simp only [Bool.not_true, Bool.not_false] at g1
        try simp only [Bool.not_true] at g2
        try simp only [Bool.not_false] at g4
        try simp only [Bool.not_true] at g5
        go_wp2_with fail
        all_goals
         go_ret
         exact ⟨rfl, HB0.out⟩
      ·
       simp only [Bool.not_true, Bool.not_false, Bool.false_and, Bool.and_false, Bool.or_self] at HD2
       subst HD2
       try simp only [Bool.not_true, Bool.not_false] at g1
       try simp only [Bool.not_true] at g2
       try simp only [Bool.not_true] at g4
       try simp only [Bool.not_true, Bool.not_false] at g5
       go_wp2_with fail
       all_goals
        go_ret
        exact ⟨rfl, HB0.out⟩
     ·
      simp only [Bool.not_true, Bool.not_false, Bool.false_and, Bool.or_true, Bool.true_or, Bool.and_false, Bool.or_self, Bool.and_self] at HD2
      subst HD2
      try simp only [Bool.not_true, Bool.not_false] at g1
      try simp only [Bool.not_true] at g2
      try simp only [Bool.not_true, Bool.not_false] at g4
      try simp only [Bool.not_true, Bool.not_false] at g5
      go_wp2_with fail
      all_goals
       go_ret
       exact ⟨rfl, HB0.out⟩
    ·
     cases z4
     ·cases z5
      ·
       simp only [Bool.not_true, Bool.not_false, Bool.false_and, Bool.or_true, Bool.and_false, Bool.or_self, Bool.and_self] at HD2
       subst HD2
       try simp only [Bool.not_true, Bool.not_false] at g1
       try simp only [Bool.not_true] at g2
       try simp only [Bool.not_false] at g4
       try simp only [Bool.not_false] at g5
       go_wp2_with fail
       all_goals
        go_ret
        exact ⟨rfl, HB0.out⟩
      ·
       simp only [Bool.not_true, Bool.not_false, Bool.false_and, Bool.and_false, Bool.or_self] at HD2
       subst HD2
       try simp only [Bool.not_true, Bool.not_false] at g1
       try simp only [Bool.not_true] at g2
       try simp only [Bool.not_false] at g4
       try simp only [Bool.not_true] at g5
       go_wp2_with fail
       all_goals
        go_ret
        exact ⟨rfl, HB0.out⟩
     ·
      simp only [Bool.not_true, Bool.not_false, Bool.false_and, Bool.and_false, Bool.or_self] at HD2
      subst HD2
      try simp only [Bool.not_true, Bool.not_false] at g1
      try simp only [Bool.not_true] at g2
      try simp only [Bool.not_true] at g4
      try simp only [Bool.not_true, Bool.not_false] at g5
      go_wp2_with fail
      all_goals
       go_ret
       exact ⟨rfl, HB0.out⟩
  ·
   cases b3
   ·cases z3
    ·
     cases z4
     ·cases z5
      ·
       simp only [Bool.not_true, Bool.not_false, Bool.false_and, Bool.or_true, Bool.and_false, Bool.or_self, Bool.and_self] at HD2
       subst HD2
       try simp only [Bool.not_true, Bool.not_false] at g1
       try simp only [Bool.not_true, Bool.not_false] at g2
       try simp only [Bool.not_false] at g4
       try simp only [Bool.not_false] at g5
       go_wp2_with fail
       all_goals
        go_ret
        exact ⟨rfl, HB0.out⟩
      ·
       simp only [Bool.not_true, Bool.not_false, Bool.false_and, Bool.and_false, Bool.or_self] at HD2
       subst HD2
       try simp only [Bool.not_true, Bool.not_false] at g1
       try simp only [Bool.not_true, Bool.not_false] at g2
       try simp only [Bool.not_false] at g4
       try simp only [Bool.not_true] at g5
       go_wp2_with fail
       all_goals
        go_ret
        exact ⟨rfl, HB0.out⟩
     ·
      simp only [Bool.not_true, Bool.not_false, Bool.false_and, Bool.and_false, Bool.or_self] at HD2
      subst HD2
      try simp only [Bool.not_true, Bool.not_false] at g1
      try simp only [Bool.not_true, Bool.not_false] at g2
      try simp only [Bool.not_true] at g4
      try simp only [Bool.not_true, Bool.not_false] at g5
      go_wp2_with fail
      all_goals
       go_ret
       exact ⟨rfl, HB0.out⟩
    ·
     simp only [Bool.not_true, Bool.not_false, Bool.false_and, Bool.or_true, Bool.true_or, Bool.or_self, Bool.and_self] at HD2
     subst HD2
     try simp only [Bool.not_true, Bool.not_false] at g1
     try simp only [Bool.not_true, Bool.not_false] at g2
     try simp only [Bool.not_true, Bool.not_false] at g4
     try simp only [Bool.not_true, Bool.not_false] at g5
     go_wp2_with fail
     all_goals
      go_ret
      exact ⟨rfl, HB0.out⟩
   ·
    cases z4
    ·cases z5
     ·
      simp only [Bool.not_true, Bool.not_false, Bool.false_and, Bool.or_true, Bool.or_self, Bool.and_self] at HD2
      subst HD2
      try simp only [Bool.not_true, Bool.not_false] at g1
      try simp only [Bool.not_true, Bool.not_false] at g2
      try simp only [Bool.not_false] at g4
      try simp only [Bool.not_false] at g5
      go_wp2_with fail
      all_goals
       go_ret
       exact ⟨rfl, HB0.out⟩
     ·
      simp only [Bool.not_true, Bool.not_false, Bool.false_and, Bool.and_false, Bool.or_self] at HD2
      subst HD2
      try simp only [Bool.not_true, Bool.not_false] at g1
      try simp only [Bool.not_true, Bool.not_false] at g2
      try simp only [Bool.not_false] at g4
      try simp only [Bool.not_true] at g5
      go_wp2_with fail
      all_goals
       go_ret
       exact ⟨rfl, HB0.out⟩
    ·
     simp only [Bool.not_true, Bool.false_and, Bool.or_self] at HD2
     subst HD2
     try simp only [Bool.not_true, Bool.not_false] at g1
     try simp only [Bool.not_true, Bool.not_false] at g2
     try simp only [Bool.not_true] at g4
     try simp only [Bool.not_true, Bool.not_false] at g5
     go_wp2_with fail
     all_goals
      go_ret
      exact ⟨rfl, HB0.out⟩
end Go.Proofs.YtnnnfhobbnjmfaaGreatDoor
