/-
  Lemmas on the codec. Conditions: as each says.
-/
import Derived.Test.YtnnnfhobbnjmfaaGreatDoorMg04
import Derived.Test.YtnnnfhobbnjmfaaGreatDoorMg03
import Derived.Sort.Grow
import Derived.Shelf.SlSortCmp.WholeK
import Derived.Test.YtnnnfhobbnjmfaaGreatDoorProg
import Derived.OwnWalk
namespace Go.Proofs.YtnnnfhobbnjmfaaGreatDoor
open Go.RowKit Go.Proofs.Tryz
set_option linter.all false
set_option maxHeartbeats 40000000
set_option maxRecDepth 20000

structure KeepR (lp : Nat) (O : Nat -> Prop) (W : World) (O2 : Nat -> Prop) (W2 : World) : Prop where
 os : W2.os = W.os
 tape : W2.tape = W.tape
 output : W2.output = W.output
 size : W.heap.size <= W2.heap.size
 block : ∀ j, j < W.heap.size -> ¬ O j -> j ≠ lp -> W2.heap[j]? = W.heap[j]?
 own : ∀ j, O2 j -> O j ∨ W.heap.size <= j
theorem KeepR.turn {lp : Nat} {O O2 : Nat -> Prop} {W W2 W3 : World} (h : KeepR lp O W O2 W2) (ht : Turn lp W2 W3) : KeepW (fun j => O j ∨ j = lp) W (fun j => O2 j ∨ j = lp) W3 := by
 obtain ⟨g, hz⟩ := ht
 refine ⟨g.os.trans h.os, g.tape.trans h.tape, g.output.trans h.output, Nat.le_trans h.size g.size, fun j hj ho => ?_, fun j hj => ?_⟩
 ·rw [g.block j (Nat.lt_of_lt_of_le hj h.size) (fun e => ho (.inr (Option.some.inj e))), h.block j hj (fun q => ho (.inl q)) (fun q => ho (.inr q))]
 ·rcases hj with hj | hj
  ·rcases h.own j hj with q | q
   ·exact .inl (.inl q)
   ·exact .inr q
  ·exact .inl (.inr hj)
theorem grown_below {W W' : World} (h : Below W.heap.size W W') (d : Nat) : W.grownBy W' (some d) := ⟨h.os, h.tape, h.output, h.size, fun k hk _ => h.block k hk⟩

theorem each1_in {l : Nat} {w : World} {J : Nat -> (Nat -> Prop) -> World -> Prop} {Jx : (Nat -> Prop) -> World -> Prop} {v : V} {s : Value} {O : Nat -> Prop} {W : World} {y : Nat} (hR : RidesW l w (v.pre 1) J Jx) (hv : VIn w v s) (hJ : J 0 O W) (hwt : v.wt <= 4611686018427387000)
  (hy : W.heap[y]? = some (.cells #[.int .i64 v.kind, .int .u64 v.num, .string v.text, s, .int .i64 v.elem] 25 (0, 0))) :
  Calls prog 68 #[.func (.yield l) #[] #[], .pointer (some ⟨y, 0, none⟩)] W fun e W' => (∃ u, e = .returned u) ∧ ((∃ O2, J (v.pre 1).length O2 W') ∨ ∃ O2, Jx O2 W') := by
 have hc := walk_in hR v 1 s 0 O W hv hJ (fun i _ => by rw [Nat.zero_add]) (by omega) (by omega)
 obtain ⟨p, c, hs, h1, h2, h3⟩ := hv.slice
 obtain ⟨N, hN⟩ : ∃ N, v.list.length = N := ⟨_, rfl⟩
 rw [hN] at hs
 subst hs
 rw [Nat.zero_add] at hc
 obtain ⟨y0, y1, y2, y3, y4⟩ := c5 hy
 have HC := zH hc
 clear hc h1 h2 h3 hN hy hv hJ hR hwt
 go_enter func68, ntmps68
 go_wp2_with fail
 refine HC.out.mono ?_
 rintro e w1 (⟨rfl, O2, hj, _⟩ | ⟨rfl, O2, hj, _⟩)
 ·have H := zH hj
  clear hj y0 y1 y2 y3 y4
  go_wp2_with fail
  go_end0
  exact ⟨⟨_, rfl⟩, .inl ⟨O2, H.out⟩⟩
 ·have H := zH hj
  clear hj y0 y1 y2 y3 y4
  go_wp2_with fail
  go_end0
  exact ⟨⟨_, rfl⟩, .inr ⟨O2, H.out⟩⟩

theorem wp_range_each {a : Act} {w wv : World} {g : Operand} {ps : Array Tmp} {assign body : Code} {Q : Exit -> Act -> World -> Prop} {y : Nat} {v : V} {s : Value}
  (hg : a.eval g = .func (.func 68) #[] #[.pointer (some ⟨y, 0, none⟩)]) (hps : ps.size = 2)
  (hy : w.heap[y]? = some (.cells #[.int .i64 v.kind, .int .u64 v.num, .string v.text, s, .int .i64 v.elem] 25 (0, 0))) (hv : VIn wv v s) (hwt : v.wt <= 4611686018427387000)
  (I : Nat -> (Nat -> Prop) -> World -> Prop) (Ix : Code -> (Nat -> Prop) -> World -> Prop) (O : Nat -> Prop)
  (hrd : ∀ k O W, I k O W -> Rd wv W) (hfr : ∀ k O W, I k O W -> ∀ j, O j -> j < W.heap.size)
  (hturn : ∀ k O W W' d, I k O W -> W.grownBy W' (some d) -> w.heap.size <= d -> ¬ O d -> I k O W')
  (hturnX : ∀ c O W W' d, Ix c O W -> W.grownBy W' (some d) -> w.heap.size <= d -> ¬ O d -> Ix c O W')
  (hI0 : I 0 O w)
  (hround : ∀ (K : LoopBook w.heap.size (w.heap.size + 1)) k O d x t W, K.rdy W -> I k O W -> ¬ O w.heap.size -> ¬ O (w.heap.size + 1) -> w.heap.size + 2 <= W.heap.size -> (v.pre 1)[k]? = some (d, x) -> VIn W x t →
   RoundOf prog K a.tmps ps assign body #[.int .i64 d, .agg #[.int .i64 x.kind, .int .u64 x.num, .string x.text, t, .int .i64 x.elem]] W (fun W3 => ∃ O2, I (k + 1) O2 W3 ∧ KeepR (w.heap.size + 1) O W O2 W3) (fun c W3 => ∃ O2, Ix c O2 W3 ∧ KeepR (w.heap.size + 1) O W O2 W3))
  (hdone : ∀ O W, I (v.pre 1).length O W -> W.heap[w.heap.size]? = some (.deferred (some [])) -> ¬ O w.heap.size -> Q .normal { a with defers := { target := .collected w.heap.size, args := #[] } :: a.defers } W)
  (hexit : ∀ c O W, Ix c O W -> W.heap[w.heap.size]? = some (.deferred (some [])) -> ¬ O w.heap.size -> c.wp prog Q { a with defers := { target := .collected w.heap.size, args := #[] } :: a.defers } W) :
  (Code.rangeFunc g ps assign body).wp prog Q a w := by
 refine wp_rangeFunc_any (gf := 68) (lb := #[.pointer (some ⟨y, 0, none⟩)]) hg (enters_of func68 (by kernel_rfl) rfl) ?_
 intro K W1 hg1 hz1 hrd1 hyield
 have hylt := (Array.getElem?_eq_some_iff.1 hy).1
 have hy1 := (hg1.block y hylt (by simp)).trans hy
 have hfr0 := hfr 0 O w hI0
 have hOD : ¬ O w.heap.size := fun q => by have := hfr0 _ q; omega
 have hOl : ¬ O (w.heap.size + 1) := fun q => by have := hfr0 _ q; omega
 let J : Nat -> (Nat -> Prop) -> World -> Prop := fun k O' W => ∃ O, (O' = fun j => O j ∨ j = w.heap.size + 1) ∧ K.rdy W ∧ I k O W ∧ ¬ O w.heap.size ∧ ¬ O (w.heap.size + 1) ∧ w.heap.size + 2 <= W.heap.size
 let Jx : (Nat -> Prop) -> World -> Prop := fun O' W => ∃ O c, (O' = fun j => O j ∨ j = w.heap.size + 1) ∧ K.fin c W ∧ Ix c O W ∧ ¬ O w.heap.size ∧ ¬ O (w.heap.size + 1)
 have hR : RidesW (w.heap.size + 1) wv (v.pre 1) J Jx := by
  refine ⟨?_, ?_, ?_, ?_⟩
  ·rintro k O' W ⟨O, rfl, _, hI, _⟩
   exact hrd k O W hI
  ·rintro k O' W ⟨O, rfl, _, hI, _, _, hz⟩ j (hj | hj)
   ·exact hfr k O W hI j hj
   ·omega
  ·rintro k O' W W' ⟨O, rfl, hr, hI, h1, h2, hz⟩ hb
   exact ⟨O, rfl, K.keepR W W' hr (hb.block _ (by omega)) (hb.block _ (by omega)), hturn k O W W' _ hI (grown_below hb w.heap.size) (Nat.le_refl _) h1, h1, h2, Nat.le_trans hz hb.size⟩
  ·rintro k O' W d x t ⟨O, rfl, hr, hI, h1, h2, hz⟩ hL hx
   have hyl := hyield #[.int .i64 d, .agg #[.int .i64 x.kind, .int .u64 x.num, .string x.text, t, .int .i64 x.elem]] W _ _ (by rw [hps]; rfl) hr (hround K k O d x t W hr hI h1 h2 hz hL (hx.rd (hrd k O W hI)))
   obtain ⟨fn, tmps, asg, bd, hyy, hRd⟩ := hyl
   refine ⟨fn, tmps, asg, bd, hyy, hRd.mono ?_⟩
   rintro e W' (⟨rfl, hr', W3, ⟨O2, hI2, hk2⟩, ht⟩ | ⟨rfl, c, hf', W3, ⟨O2, hI2, hk2⟩, ht⟩)
   ·have n1 : ¬ O2 w.heap.size := fun q => by rcases hk2.own _ q with r | r; exact h1 r; omega
    have n2 : ¬ O2 (w.heap.size + 1) := fun q => by rcases hk2.own _ q with r | r; exact h2 r; omega
    exact .inl ⟨rfl, _, ⟨O2, rfl, hr', hturn _ _ _ _ _ hI2 ht.1 (by omega) n2, n1, n2, Nat.le_trans hz (Nat.le_trans hk2.size ht.1.size)⟩, hk2.turn ht⟩
   ·have n1 : ¬ O2 w.heap.size := fun q => by rcases hk2.own _ q with r | r; exact h1 r; omega
    have n2 : ¬ O2 (w.heap.size + 1) := fun q => by rcases hk2.own _ q with r | r; exact h2 r; omega
    exact .inr ⟨rfl, _, ⟨O2, c, rfl, hf', hturnX _ _ _ _ _ hI2 ht.1 (by omega) n2, n1, n2⟩, hk2.turn ht⟩
 have hJ1 : J 0 (fun j => O j ∨ j = w.heap.size + 1) W1 := ⟨O, rfl, hrd1, hturn 0 O w W1 w.heap.size hI0 ⟨hg1.os, hg1.tape, hg1.output, hg1.size, fun k hk _ => hg1.block k hk (by simp)⟩ (Nat.le_refl _) hOD, hOD, hOl, by omega⟩
 refine (each1_in hR hv hJ1 hwt hy1).mono ?_
 rintro e W2 ⟨⟨u, rfl⟩, (⟨O2, O3, rfl, hr, hI, h1, h2, hz⟩ | ⟨O2, O3, c, rfl, hf, hI, h1, h2⟩)⟩
 ·exact ⟨⟨_, rfl⟩, .inl ⟨hr, fun W3 ht hD => hdone O3 W3 (hturn _ _ _ _ _ hI ht.1 (by omega) h2) hD h1⟩⟩
 ·exact ⟨⟨_, rfl⟩, .inr ⟨c, hf, fun W3 ht hD => hexit c O3 W3 (hturnX _ _ _ _ _ hI ht.1 (by omega) h2) hD h1⟩⟩

structure BelowD (B : Nat) (w w' : World) : Prop extends Below B w w' where
 drawn : w.drawn <= w'.drawn
theorem BelowD.refl (B : Nat) (w : World) : BelowD B w w := ⟨Below.refl B w, Nat.le_refl _⟩
theorem BelowD.trans {B : Nat} {a b c : World} (h : BelowD B a b) (k : BelowD B b c) : BelowD B a c := ⟨h.toBelow.trans k.toBelow, Nat.le_trans h.drawn k.drawn⟩
theorem BelowD.mono {B B' : Nat} {a b : World} (h : BelowD B a b) (hB : B' <= B) : BelowD B' a b := ⟨h.toBelow.mono hB, h.drawn⟩
theorem BelowD.alloc {B : Nat} {a b : World} (h : BelowD B a b) (hB : B <= b.heap.size) (o : Obj) : BelowD B a (b.alloc o) := ⟨h.toBelow.alloc hB o, h.drawn⟩
theorem below_setRowD {B : Nat} {w w' : World} {g : Nat} (h : BelowD B w w') (hg : B <= g) (cs : Array Value) : BelowD B w (w'.setRow g cs) := ⟨below_setRow h.toBelow hg cs, h.drawn⟩
theorem bs_cellD {w w' : World} {a : Addr} {u : Value} (hb : BelowD w.heap.size w w') (h : w.cell? a = some u) : w'.cell? a = some u := bs_cellV hb.toBelow h
theorem VIn.blwD {w w' : World} {v : V} {s : Value} (h : VIn w v s) (hb : BelowD w.heap.size w w') : VIn w' v s := h.blw hb.toBelow

def OrdOnD (a : V) : Prop := ∀ (w : World) (s : Value) (b : V) (t : Value), VIn w a s -> VIn w b t →
  Calls prog 103 #[.agg #[.int .i64 a.kind, .int .u64 a.num, .string a.text, s, .int .i64 a.elem], .agg #[.int .i64 b.kind, .int .u64 b.num, .string b.text, t, .int .i64 b.elem]] w fun e w' => e = .returned (.int .i64 (ordV a b)) ∧ BelowD w.heap.size w w'

theorem cmpfuncD_any (a : V) (ih : ∀ x ∈ a.list, OrdOnD x) (w : World) (s : Value) (b : V) (t : Value) (h : VIn w a s) (hb : VIn w b t) :
  Calls prog 126 #[s, t, .func (.func 103) #[] #[]] w fun e w' => e = .returned (.int .i64 (ordL a.list b.list)) ∧ BelowD w.heap.size w w' := by
 obtain ⟨p, c, hs, h1, h2, h3⟩ := h.slice
 obtain ⟨q, d, ht, k1, k2, k3⟩ := hb.slice
 obtain ⟨N, hN⟩ : ∃ N, a.list.length = N := ⟨_, rfl⟩
 obtain ⟨M, hM⟩ : ∃ M, b.list.length = M := ⟨_, rfl⟩
 rw [hN] at hs h1 h3
 rw [hM] at ht k1 k3
 subst hs ht
 unfold maxLen at h2 k2
 obtain ⟨D, hD⟩ : ∃ D, ordL a.list b.list = D := ⟨_, rfl⟩
 rw [hD]
 have HD := zH hD
 clear hD
 have HI := zH ih
 have HN := zH (And.intro hN hM)
 have HV := zH (And.intro h hb)
 clear ih h hb hN hM
 go_enter func126, ntmps126
 go_wp2_with fail
 go_loopw [13] (fun v5 wr => ∃ k : Nat, k <= N ∧ v5 = .int .i64 k ∧ a.list.take k = b.list.take k ∧ BelowD w.heap.size w wr) (fun v5 _ => N - (intOf v5).toNat)
 case atStart => exact ⟨0, Nat.zero_le _, rfl, by rw [List.take_zero, List.take_zero], BelowD.refl _ _⟩
 obtain ⟨k, hk', rfl, hsame, hbw⟩ := hrel
 have HR := zH (And.intro hsame hbw)
 clear hsame hbw
 by_cases hkN : (k : Int) < N
 ·have ka : k < a.list.length := by rw [HN.out.1]; omega
  obtain ⟨b1, o1, rfl⟩ := h3 (by omega)
  obtain ⟨ta, hta, hia⟩ := (HV.out.1.blwD HR.out.2).part rfl ka
  obtain ⟨pa, ca, hsa, _⟩ := hia.slice
  subst hsa
  obtain ⟨c0, c1, c2, c3, c4⟩ := part_cells hta
  obtain ⟨ya, hya⟩ : ∃ ya, a.list[k] = ya := ⟨_, rfl⟩
  have HYA := zH hya
  have HIK := zH (HI.out _ (List.getElem_mem ka))
  rw [hya] at c0 c1 c2 c3 c4 hia HIK
  obtain ⟨na, hna⟩ : ∃ na, ya.list.length = na := ⟨_, rfl⟩
  rw [hna] at c3 hia
  have HP := zH hia
  clear hta hia hya hna
  go_upto_region 4 with (refine stV (.tmp 8) (.tmp 17) rfl rfl rfl rfl rfl (zN wr _) rfl ?_)
  have hb_w1 : BelowD wr.heap.size wr ((wr.alloc (.cells zR 25)).setRow wr.heap.size #[.int .i64 ya.kind, .int .u64 ya.num, .string ya.text, (.slice pa na ca), .int .i64 ya.elem]) := below_setRowD ((BelowD.refl _ _).alloc (Nat.le_refl _) _) (Nat.le_refl _) _
  have ox := setRow_heap (wr.alloc (.cells zR 25)) wr.heap.size _ #[.int .i64 ya.kind, .int .u64 ya.num, .string ya.text, (.slice pa na ca), .int .i64 ya.elem] _ _ (zN wr _)
  change Code.wp _ _ _ _ ((wr.alloc (.cells zR 25)).setRow wr.heap.size #[.int .i64 ya.kind, .int .u64 ya.num, .string ya.text, (.slice pa na ca), .int .i64 ya.elem])
  generalize ((wr.alloc (.cells zR 25)).setRow wr.heap.size #[.int .i64 ya.kind, .int .u64 ya.num, .string ya.text, (.slice pa na ca), .int .i64 ya.elem]) = w1 at *
  obtain ⟨x, hx_x⟩ : ∃ x, wr.heap.size = x := ⟨_, rfl⟩
  rw [hx_x] at ox ⊢
  clear hx_x
  have HB1 := zH (HR.out.2.trans (hb_w1.mono HR.out.2.size))
  have HP1 := zH (HP.out.blwD hb_w1)
  have HOX := zH ox
  clear hb_w1 ox c0 c1 c2 c3 c4
  by_cases hkM : (k : Int) < M
  ·have kb : k < b.list.length := by rw [HN.out.2]; omega
   obtain ⟨b2, o2, rfl⟩ := k3 (by omega)
   obtain ⟨tb, htb, hib⟩ := (HV.out.2.blwD HB1.out).part rfl kb
   obtain ⟨pb, cb, hsb, _⟩ := hib.slice
   subst hsb
   obtain ⟨d0, d1, d2, d3, d4⟩ := part_cells htb
   obtain ⟨yb, hyb⟩ : ∃ yb, b.list[k] = yb := ⟨_, rfl⟩
   have HYB := zH hyb
   rw [hyb] at d0 d1 d2 d3 d4 hib
   obtain ⟨nb, hnb⟩ : ∃ nb, yb.list.length = nb := ⟨_, rfl⟩
   rw [hnb] at d3 hib
   have HPB := zH hib
   clear htb hib hyb hnb
   go_upto_region 7 with (refine stV (.tmp 9) (.tmp 25) rfl rfl rfl rfl rfl (zN w1 _) rfl ?_)
   have hb_w2 : BelowD w1.heap.size w1 ((w1.alloc (.cells zR 25)).setRow w1.heap.size #[.int .i64 yb.kind, .int .u64 yb.num, .string yb.text, (.slice pb nb cb), .int .i64 yb.elem]) := below_setRowD ((BelowD.refl _ _).alloc (Nat.le_refl _) _) (Nat.le_refl _) _
   have oy := setRow_heap (w1.alloc (.cells zR 25)) w1.heap.size _ #[.int .i64 yb.kind, .int .u64 yb.num, .string yb.text, (.slice pb nb cb), .int .i64 yb.elem] _ _ (zN w1 _)
   change Code.wp _ _ _ _ ((w1.alloc (.cells zR 25)).setRow w1.heap.size #[.int .i64 yb.kind, .int .u64 yb.num, .string yb.text, (.slice pb nb cb), .int .i64 yb.elem])
   generalize ((w1.alloc (.cells zR 25)).setRow w1.heap.size #[.int .i64 yb.kind, .int .u64 yb.num, .string yb.text, (.slice pb nb cb), .int .i64 yb.elem]) = w2 at *
   obtain ⟨y, hx_y⟩ : ∃ x, w1.heap.size = x := ⟨_, rfl⟩
   rw [hx_y] at oy ⊢
   clear hx_y
   have hox := (hb_w2.block x (Array.getElem?_eq_some_iff.1 HOX.out).1).trans HOX.out
   obtain ⟨x0, x1, x2, x3, x4⟩ := c5 hox
   obtain ⟨y0, y1, y2, y3, y4⟩ := c5 oy
   have HB2 := zH (HB1.out.trans (hb_w2.mono HB1.out.size))
   have hc := HIK.out w2 _ yb _ (HP1.out.blwD hb_w2) (HPB.out.blwD hb_w2)
   have hat := ordL_at HR.out.1 ka kb
   rw [HD.out, HYA.out, HYB.out] at hat
   have hz : ordV ya yb = 0 -> a.list.take (k + 1) = b.list.take (k + 1) := fun q => take_next HR.out.1 ka kb (by rw [HYA.out, HYB.out]; exact ordV_zero.1 q)
   obtain ⟨z, hzz⟩ : ∃ z, ordV ya yb = z := ⟨_, rfl⟩
   rw [hzz] at hc hat hz
   have HZ := zH (And.intro hat hz)
   clear hb_w2 hox oy d0 d1 d2 d3 d4 hat hz hzz
   have HC := zH hc
   clear hc
   go_wp2_with fail
   refine HC.out.mono ?_
   rintro e w3 ⟨rfl, hb3⟩
   have HB3 := zH (HB2.out.trans (hb3.mono HB2.out.size))
   clear hb3 x0 x1 x2 x3 x4 y0 y1 y2 y3 y4
   by_cases hz0 : z = 0
   ·have hzt : (z == 0) = true := by simpa using hz0
    have HZ2 := zH (HZ.out.2 hz0)
    subst hz0
    go_wp2_with fail
    go_roundw
    case rel => exact ⟨k + 1, by omega, by go_num, HZ2.out, HB3.out⟩
    case measure => simp [intOf]; omega
   ·have hzt : (z == 0) = false := by simpa using hz0
    have HDZ := zH (show D = z by rw [HZ.out.1]; simp [thenZ, hz0])
    go_wp2_with fail
    go_ret
    exact ⟨by rw [HDZ.out]; rfl, HB3.out⟩
  ·have HD1 := zH (show D = 1 by rw [← HD.out]; exact ordL_longer HR.out.1 ka (by rw [HN.out.2]; omega))
   go_wp2_with fail
   go_ret
   exact ⟨by rw [HD1.out]; rfl, HB1.out⟩
 have hkN2 : k = N := by omega
 have hend := ordL_end HR.out.1 (by rw [HN.out.1]; omega) (by rw [HN.out.1]; omega)
 rw [HD.out, HN.out.1, HN.out.2] at hend
 have hMN : ¬ M < N := by
  intro q
  have := congrArg List.length HR.out.1
  rw [List.length_take, List.length_take, HN.out.1, HN.out.2] at this
  omega
 by_cases hlt : (N : Int) < M
 ·have HE := zH (show D = -1 by rw [hend, if_pos (by omega)])
  clear hend hkN2 hMN
  go_wp2_with fail
  go_ret
  exact ⟨by rw [HE.out]; rfl, HR.out.2⟩
 have HE := zH (show D = 0 by rw [hend, if_neg (by omega), if_neg hMN])
 clear hend hkN2 hMN
 go_wp2_with fail
 go_ret
 exact ⟨by rw [HE.out]; rfl, HR.out.2⟩
theorem orderD_on : ∀ a : V, OrdOnD a := by
 refine V.ind (fun a ih w s b t h hb => ?_)
 have hef := cmpfuncD_any a ih
 obtain ⟨p, c, hs, h1, h2, h3⟩ := h.slice
 obtain ⟨q, d, ht, k1, k2, k3⟩ := hb.slice
 obtain ⟨N, hN⟩ : ∃ N, a.list.length = N := ⟨_, rfl⟩
 obtain ⟨M, hM⟩ : ∃ M, b.list.length = M := ⟨_, rfl⟩
 rw [hN] at hs h1 h3
 rw [hM] at ht k1 k3
 subst hs ht
 unfold maxLen at h2 k2
 obtain ⟨D, hD⟩ : ∃ D, ordV a b = D := ⟨_, rfl⟩
 rw [hD]
 have HD := zH (show thenZ (sgnZ a.kind b.kind) (thenZ (sgnZ a.num b.num) (thenZ (cmpT a.text b.text) (thenZ (ordL a.list b.list) (sgnZ a.elem b.elem)))) = D by rw [← ordV_eq]; exact hD)
 have HEF := zH hef
 clear hD hef
 have HI := zH ih
 have HN := zH (And.intro hN hM)
 have HV := zH (And.intro h hb)
 clear ih h hb hN hM
 go_enter func103, ntmps103
 go_upto_region 1 with fail
 have hb0 : BelowD w.heap.size w ((w.alloc (.cells #[.int .i64 a.kind, .int .u64 a.num, .string a.text, (.slice p N c), .int .i64 a.elem] 25)).alloc (.cells #[.int .i64 b.kind, .int .u64 b.num, .string b.text, (.slice q M d), .int .i64 b.elem] 25)) := (((BelowD.refl _ _).alloc (Nat.le_refl _) _).alloc (by simp) _)
 have ox : ((w.alloc (.cells #[.int .i64 a.kind, .int .u64 a.num, .string a.text, (.slice p N c), .int .i64 a.elem] 25)).alloc (.cells #[.int .i64 b.kind, .int .u64 b.num, .string b.text, (.slice q M d), .int .i64 b.elem] 25)).heap[w.heap.size]? = some (.cells #[.int .i64 a.kind, .int .u64 a.num, .string a.text, (.slice p N c), .int .i64 a.elem] 25 (0, 0)) := (_root_.Go.heap_alloc_old _ _ (by simp)).trans (zN _ _)
 have oy : ((w.alloc (.cells #[.int .i64 a.kind, .int .u64 a.num, .string a.text, (.slice p N c), .int .i64 a.elem] 25)).alloc (.cells #[.int .i64 b.kind, .int .u64 b.num, .string b.text, (.slice q M d), .int .i64 b.elem] 25)).heap[w.heap.size + 1]? = some (.cells #[.int .i64 b.kind, .int .u64 b.num, .string b.text, (.slice q M d), .int .i64 b.elem] 25 (0, 0)) := by have := zN (w.alloc (.cells #[.int .i64 a.kind, .int .u64 a.num, .string a.text, (.slice p N c), .int .i64 a.elem] 25)) (.cells #[.int .i64 b.kind, .int .u64 b.num, .string b.text, (.slice q M d), .int .i64 b.elem] 25); rwa [World.size_alloc] at this
 generalize ((w.alloc (.cells #[.int .i64 a.kind, .int .u64 a.num, .string a.text, (.slice p N c), .int .i64 a.elem] 25)).alloc (.cells #[.int .i64 b.kind, .int .u64 b.num, .string b.text, (.slice q M d), .int .i64 b.elem] 25)) = w0 at *
 obtain ⟨x, hx⟩ : ∃ x, w.heap.size = x := ⟨_, rfl⟩
 rw [hx] at ox oy ⊢
 obtain ⟨y, hy⟩ : ∃ y, x + 1 = y := ⟨_, rfl⟩
 rw [hy] at oy ⊢
 have HB0 := zH hb0
 have HOx := zH ox
 have HOy := zH oy
 clear hb0 ox oy hx hy
 obtain ⟨x0, x1, x2, x3, x4⟩ := c5 HOx.out
 obtain ⟨y0, y1, y2, y3, y4⟩ := c5 HOy.out
 obtain ⟨z1, hz1⟩ : ∃ z, sgnZ a.kind b.kind = z := ⟨_, rfl⟩
 obtain ⟨z2, hz2⟩ : ∃ z, sgnZ a.num b.num = z := ⟨_, rfl⟩
 obtain ⟨z3, hz3⟩ : ∃ z, cmpT a.text b.text = z := ⟨_, rfl⟩
 obtain ⟨z4, hz4⟩ : ∃ z, ordL a.list b.list = z := ⟨_, rfl⟩
 obtain ⟨z5, hz5⟩ : ∃ z, sgnZ a.elem b.elem = z := ⟨_, rfl⟩
 have hk1 := fun W => compare_int a.kind b.kind W
 have hk2 := fun W => compare_uint64 a.num b.num W
 have hk3 := fun W => strcmp_any a.text b.text W
 have hk5 := fun W => compare_int a.elem b.elem W
 rw [hz1] at hk1
 rw [hz2] at hk2
 rw [hz3] at hk3
 rw [hz5] at hk5
 have HK := zH (And.intro hk1 (And.intro hk2 (And.intro hk3 hk5)))
 have HD2 : Hid (thenZ z1 (thenZ z2 (thenZ z3 (thenZ z4 z5))) = D) := zH (by rw [← hz1, ← hz2, ← hz3, ← hz4, ← hz5]; exact HD.out)
 have HZ4 := zH hz4
 have HX : Hid (∀ W', BelowD w0.heap.size w0 W' -> W'.cell? ⟨x, 0, none⟩ = some (.int .i64 a.kind) ∧ W'.cell? ⟨x, 1, none⟩ = some (.int .u64 a.num) ∧ W'.cell? ⟨x, 2, none⟩ = some (.string a.text) ∧ W'.cell? ⟨y, 0, none⟩ = some (.int .i64 b.kind) ∧ W'.cell? ⟨y, 1, none⟩ = some (.int .u64 b.num) ∧ W'.cell? ⟨y, 2, none⟩ = some (.string b.text)) := zH (fun W' hB => ⟨bs_cellD hB x0, bs_cellD hB x1, bs_cellD hB x2, bs_cellD hB y0, bs_cellD hB y1, bs_cellD hB y2⟩)
 have HX4 : Hid (∀ W', BelowD w0.heap.size w0 W' -> W'.cell? ⟨x, 3, none⟩ = some (.slice p N c) ∧ W'.cell? ⟨x, 4, none⟩ = some (.int .i64 a.elem) ∧ W'.cell? ⟨y, 3, none⟩ = some (.slice q M d) ∧ W'.cell? ⟨y, 4, none⟩ = some (.int .i64 b.elem)) := zH (fun W' hB => ⟨bs_cellD hB x3, bs_cellD hB x4, bs_cellD hB y3, bs_cellD hB y4⟩)
 clear hz1 hz2 hz3 hz4 hz5 hk1 hk2 hk3 hk5 x3 x4 y3 y4
 obtain ⟨u, hu⟩ : ∃ u, orL [z1, z2, z3] = u := ⟨_, rfl⟩
 have HU := zH hu
 clear hu
 have hdr : BelowD w0.heap.size w0 w0.drew := ⟨⟨rfl, rfl, rfl, Nat.le_refl _, fun _ _ => rfl⟩, Nat.le_succ _⟩
 go_region_held3 (fun w' => w'.cell? ⟨x, 0, none⟩ = some (.int .i64 a.kind) ∧ w'.cell? ⟨x, 1, none⟩ = some (.int .u64 a.num) ∧ w'.cell? ⟨x, 2, none⟩ = some (.string a.text) ∧ w'.cell? ⟨y, 0, none⟩ = some (.int .i64 b.kind) ∧ w'.cell? ⟨y, 1, none⟩ = some (.int .u64 b.num) ∧ w'.cell? ⟨y, 2, none⟩ = some (.string b.text)) (first | exact HX.out _ hdr | exact HX.out _ (hdr.alloc (Nat.le_refl _) _) | exact HX.out _ (by assumption))
  (first
   | (go_at_call 123; refine (HK.out.1 _).mono ?_; rintro e w' ⟨rfl, rfl⟩)
   | (go_at_call 124; refine (HK.out.2.1 _).mono ?_; rintro e w' ⟨rfl, rfl⟩)
   | (go_at_call 125; refine (HK.out.2.2.1 _).mono ?_; rintro e w' ⟨rfl, rfl⟩)
   | (go_at_call 122; refine (or_any _ _ 3 3 [z1, z2, z3] rfl (by omega) (by omega) (or_cells [z1, z2, z3])).mono ?_; rintro e w' ⟨rfl, rfl⟩; rw [HU.out]))
 have hd1 : BelowD w0.heap.size w0 ((w0.alloc (.cells #[.int .i64 z1, .int .i64 z2, .int .i64 z3] 3)).drew) := (hdr.alloc (Nat.le_refl _) _)
 generalize ((w0.alloc (.cells #[.int .i64 z1, .int .i64 z2, .int .i64 z3] 3)).drew) = w1 at *
 have HB1 := zH hd1
 clear hd1 hdr x0 x1 x2 y0 y1 y2
 by_cases hu0 : u = 0
 ·have hut : (u == 0) = true := by simpa using hu0
  have hDu : thenZ z4 z5 = D := by rw [← HD2.out]; exact (orL_zero (by rw [HU.out]; exact hu0)).symm
  obtain ⟨v, hv⟩ : ∃ v, orL [z4, z5] = v := ⟨_, rfl⟩
  have HV2 := zH hv
  have hvD : v = D := by rw [← hDu, ← hv]; simp only [orL, thenZ]; by_cases h : z5 = 0 <;> simp [h]
  subst hvD
  subst hu0
  obtain ⟨e3, e4, g3, g4⟩ := HX4.out w1 HB1.out
  clear hDu hv
  go_upto_region 4 with fail
  have hdr : BelowD w0.heap.size w0 w1.drew := ⟨⟨HB1.out.os, HB1.out.tape, HB1.out.output, HB1.out.size, HB1.out.block⟩, Nat.le_succ_of_le HB1.out.drawn⟩
  have hc := HEF.out w1.drew _ b _ (HV.out.1.blwD (HB0.out.trans (hdr.mono HB0.out.size))) (HV.out.2.blwD (HB0.out.trans (hdr.mono HB0.out.size)))
  rw [HZ4.out] at hc
  have HC := zH hc
  clear hc
  go_region_held3 (fun w' => w'.cell? ⟨x, 3, none⟩ = some (.slice p N c) ∧ w'.cell? ⟨x, 4, none⟩ = some (.int .i64 a.elem) ∧ w'.cell? ⟨y, 3, none⟩ = some (.slice q M d) ∧ w'.cell? ⟨y, 4, none⟩ = some (.int .i64 b.elem)) (first | exact HX4.out _ hdr | exact HX4.out _ (by assumption) | exact HX4.out _ (hw2.alloc hw2.size _))
   (first
    | (go_at_call 126; refine HC.out.mono ?_; rintro e w2 ⟨rfl, hb2⟩; have hw2 : BelowD w0.heap.size w0 w2 := hdr.trans (hb2.mono hdr.size); clear hb2)
    | (go_at_call 123; refine (HK.out.2.2.2 _).mono ?_; rintro e w' ⟨rfl, rfl⟩)
    | (go_at_call 122; refine (or_any _ _ 2 2 [z4, z5] rfl (by omega) (by omega) (or_cells' [z4, z5])).mono ?_; rintro e w' ⟨rfl, rfl⟩; rw [HV2.out]))
  go_wp2_with fail
  go_ret
  exact ⟨rfl, HB0.out.trans ((hw2.alloc hw2.size _).mono HB0.out.size)⟩
 have hut : (u == 0) = false := by simpa using hu0
 have HDu := zH (show D = u by rw [← HD2.out, ← HU.out]; exact orL_pos (by rw [HU.out]; exact hu0))
 go_wp2_with fail
 go_ret
 exact ⟨by rw [HDu.out]; rfl, HB0.out.trans (HB1.out.mono HB0.out.size)⟩
theorem grow_of_below {W w' : World} (h : BelowD W.heap.size W w') : ∃ q os', w' = Go.Sort.grow (W.drewN q) os' := by
 refine ⟨w'.drawn - W.drawn, w'.heap.extract W.heap.size w'.heap.size, ?_⟩
 obtain ⟨⟨h1, h2, h3, h4, h5⟩, h6⟩ := h
 obtain ⟨hp, tp, dr, o, out⟩ := w'
 simp only at h1 h2 h3 h4 h5 h6 ⊢
 subst h1 h2 h3
 simp only [Go.Sort.grow, World.drewN, World.mk.injEq, and_true, true_and]
 refine ⟨?_, by omega⟩
 apply Array.ext_getElem?
 intro i
 by_cases hi : i < W.heap.size
 ·rw [h5 i hi, Array.getElem?_append_left hi]
 ·rw [Array.getElem?_append_right (by omega), Array.getElem?_extract]
  by_cases hi2 : i < hp.size
  ·rw [if_pos (by omega)]; congr 1; omega
  ·rw [if_neg (by omega), Array.getElem?_eq_none (by omega)]

end Go.Proofs.YtnnnfhobbnjmfaaGreatDoor

namespace Go.Proofs
open Go.Shelf
def Tryz.sort_ren : Go.Shelf.Ren := ⟨fun | 6 => 102 | 15 => 121 | 14 => 120 | 28 => 144 | 29 => 145 | 20 => 136 | 21 => 137 | 22 => 138 | 23 => 139 | 24 => 140 | 25 => 141 | 26 => 142 | 27 => 143 | 46 => 150 | 47 => 151 | 48 => 152 | 49 => 153 | 50 => 154 | 57 => 158 | n => n, fun | 22 => 23 | 24 => 25 | 25 => 117 | 3 => 3 | 39 => 119 | 0 => 0 | 53 => 150 | 55 => 22 | 4 => 4 | 46 => 143 | 45 => 142 | 50 => 147 | 5 => 5 | 9 => 9 | 66 => 157 | 70 => 161 | 76 => 165 | 77 => 166 | n => n, fun | n => n⟩
theorem Tryz.sort : Go.Proofs.SlLaysF0.n6 Tryz.prog Tryz.sort_ren := {
 mixed := by kernel_rfl
 f6 := ⟨Tryz.f102.name, by decide, Tryz.func102.trans (congrArg some (by kernel_rfl))⟩
 f14 := ⟨Tryz.f120.name, by decide, Tryz.func120.trans (congrArg some (by kernel_rfl))⟩
 f15 := Tryz.func121.trans (congrArg some (by kernel_rfl))
 f20 := ⟨Tryz.f136.name, by decide, Tryz.func136.trans (congrArg some (by kernel_rfl))⟩
 f21 := ⟨Tryz.f137.name, by decide, Tryz.func137.trans (congrArg some (by kernel_rfl))⟩
 f22 := ⟨Tryz.f138.name, by decide, Tryz.func138.trans (congrArg some (by kernel_rfl))⟩
 f23 := ⟨Tryz.f139.name, by decide, Tryz.func139.trans (congrArg some (by kernel_rfl))⟩
 f24 := ⟨Tryz.f140.name, by decide, Tryz.func140.trans (congrArg some (by kernel_rfl))⟩
 f25 := ⟨Tryz.f141.name, by decide, Tryz.func141.trans (congrArg some (by kernel_rfl))⟩
 f26 := ⟨Tryz.f142.name, by decide, Tryz.func142.trans (congrArg some (by kernel_rfl))⟩
 f27 := ⟨Tryz.f143.name, by decide, Tryz.func143.trans (congrArg some (by kernel_rfl))⟩
 f28 := Tryz.func144.trans (congrArg some (by kernel_rfl))
 f29 := Tryz.func145.trans (congrArg some (by kernel_rfl))
 f46 := ⟨Tryz.f150.name, by decide, Tryz.func150.trans (congrArg some (by kernel_rfl))⟩
 f47 := Tryz.func151.trans (congrArg some (by kernel_rfl))
 f48 := Tryz.func152.trans (congrArg some (by kernel_rfl))
 f49 := ⟨Tryz.f153.name, by decide, Tryz.func153.trans (congrArg some (by kernel_rfl))⟩
 f50 := ⟨Tryz.f154.name, by decide, Tryz.func154.trans (congrArg some (by kernel_rfl))⟩
 f57 := ⟨Tryz.f158.name, by decide, Tryz.func158.trans (congrArg some (by kernel_rfl))⟩
 t0 := Tryz.underlying0
 a0 := Tryz.isAgg0
 z0 := Tryz.sizeOf0
 v0 := Tryz.zeroValue0
 t3 := Tryz.underlying3
 a3 := Tryz.isAgg3
 z3 := Tryz.sizeOf3
 v3 := Tryz.zeroValue3
 t4 := Tryz.underlying4
 a4 := Tryz.isAgg4
 z4 := Tryz.sizeOf4
 v4 := Tryz.zeroValue4
 t5 := Tryz.underlying5
 a5 := Tryz.isAgg5
 z5 := Tryz.sizeOf5
 v5 := Tryz.zeroValue5
 t9 := Tryz.underlying9
 a9 := Tryz.isAgg9
 z9 := Tryz.sizeOf9
 v9 := Tryz.zeroValue9
 t22 := Tryz.underlying23
 a22 := Tryz.isAgg23
 z22 := Tryz.sizeOf23
 v22 := Tryz.zeroValue23
 t25 := Tryz.underlying117
 a25 := Tryz.isAgg117
 z25 := Tryz.sizeOf117
 v25 := Tryz.zeroValue117
 t39 := Tryz.underlying119
 a39 := Tryz.isAgg119
 z39 := Tryz.sizeOf119
 v39 := Tryz.zeroValue119
 t45 := Tryz.underlying142
 a45 := Tryz.isAgg142
 z45 := Tryz.sizeOf142
 v45 := Tryz.zeroValue142
 t46 := Tryz.underlying143
 a46 := Tryz.isAgg143
 z46 := Tryz.sizeOf143
 v46 := Tryz.zeroValue143
 t50 := Tryz.underlying147
 a50 := Tryz.isAgg147
 z50 := Tryz.sizeOf147
 v50 := Tryz.zeroValue147
 t53 := Tryz.underlying150
 a53 := Tryz.isAgg150
 z53 := Tryz.sizeOf150
 v53 := Tryz.zeroValue150
 t55 := Tryz.underlying22
 a55 := Tryz.isAgg22
 z55 := Tryz.sizeOf22
 v55 := Tryz.zeroValue22
 t66 := Tryz.underlying157
 a66 := Tryz.isAgg157
 z66 := Tryz.sizeOf157
 v66 := Tryz.zeroValue157
 t70 := Tryz.underlying161
 a70 := Tryz.isAgg161
 z70 := Tryz.sizeOf161
 v70 := Tryz.zeroValue161
 t76 := Tryz.underlying165
 a76 := Tryz.isAgg165
 z76 := Tryz.sizeOf165
 v76 := Tryz.zeroValue165
 t77 := Tryz.underlying166
 a77 := Tryz.isAgg166
 z77 := Tryz.sizeOf166
 v77 := Tryz.zeroValue166 }
end Go.Proofs

namespace Go.Proofs.YtnnnfhobbnjmfaaGreatDoor
open Go.RowKit Go.Proofs.Tryz
set_option linter.all false
set_option maxHeartbeats 40000000
set_option maxRecDepth 20000

open Go.Sort
def evens : List V -> List V
 | [] => []
 | [a] => [a]
 | a :: _ :: r => a :: evens r
theorem evens_len : ∀ l : List V, (evens l).length = (l.length + 1) / 2
 | [] => rfl
 | [_] => by simp [evens]
 | a :: b :: r => by rw [evens, List.length_cons, evens_len r, List.length_cons, List.length_cons]; omega
theorem evens_get : ∀ (l : List V) (i : Nat) (h : 2 * i < l.length) (h2 : i < (evens l).length), (evens l)[i] = l[2 * i]
 | [], i, h, _ => by simp at h
 | [_], i, h, _ => by
  have : i = 0 := by simp at h; omega
  subst this
  rfl
 | a :: b :: r, 0, h, _ => rfl
 | a :: b :: r, i + 1, h, h2 => by
  have h3 : 2 * i < r.length := by simp only [List.length_cons] at h; omega
  have h4 : i < (evens r).length := by rw [evens_len]; omega
  have := evens_get r i h3 h4
  simp only [evens, List.getElem_cons_succ, this, show 2 * (i + 1) = 2 * i + 1 + 1 by omega]
theorem evens_take (l : List V) (i : Nat) (h : 2 * i < l.length) : (evens l).take (i + 1) = (evens l).take i ++ [l[2 * i]] := by
 have h2 : i < (evens l).length := by rw [evens_len]; omega
 rw [List.take_add_one, List.getElem?_eq_getElem h2, evens_get l i h h2, Option.toList_some]
noncomputable def mapOk (l : List V) : Bool := decide (l.length % 2 = 0 ∧ l.length <= 2048 ∧ (evens l).Nodup)

theorem VIn.parts {w : World} {v : V} {p : Option Addr} {n c : Nat} (h : VIn w v (.slice p n c)) : ∃ ss : Nat -> Value, ∀ i (hi : i < v.list.length), VIn w v.list[i] (ss i) ∧ ∀ b o, p = some ⟨b, o, none⟩ -> w.rangeAt b (o + i * 5) (vcells v.list[i] (ss i)) := by
 cases h with
 | mk _ _ _ ss wf hc hm ha hcell hin => exact ⟨ss, fun i hi => ⟨hin i hi, fun b o e => hcell b o e i hi⟩⟩

abbrev VP (w : World) := { p : V × Value // VIn w p.1 p.2 }
theorem vin_nil (w : World) : VIn w default (.slice none 0 0) := (VO.nil w 0 (v := default) ⟨⟨by decide, by decide⟩, ⟨by decide, by decide⟩, Nat.zero_le _, ⟨by decide, by decide⟩⟩ rfl).vin
instance (w : World) : Inhabited (VP w) := ⟨⟨(default, .slice none 0 0), vin_nil w⟩⟩
def encP {w : World} (x : VP w) : List Value := vcells x.1.1 x.1.2
def cfP {w : World} (x y : VP w) : Int := ordV x.1.1 y.1.1
theorem swoP (w : World) : SWO (ltOf (cfP (w := w))) := by
 refine ⟨fun x => ?_, fun x y z h1 h2 => ?_, fun x y z h1 h2 => ?_⟩
 ·simp [ltOf, cfP, ordV_self]
 ·have h1 : ordV x.1.1 y.1.1 < 0 := of_decide_eq_true h1
  have h2 : ordV y.1.1 z.1.1 < 0 := of_decide_eq_true h2
  refine decide_eq_true (show ordV x.1.1 z.1.1 < 0 from ?_)
  obtain ⟨q1, q2⟩ := ordV_tri x.1.1 y.1.1 z.1.1 (by omega) (by omega)
  have : ordV x.1.1 z.1.1 ≠ 0 := fun q => by have := q2.1 q; omega
  omega
 have h1 : ¬ ordV x.1.1 y.1.1 < 0 := of_decide_eq_false h1
 have h2 : ¬ ordV y.1.1 z.1.1 < 0 := of_decide_eq_false h2
 refine decide_eq_false (show ¬ ordV x.1.1 z.1.1 < 0 from ?_)
 have n1 := ordV_neg x.1.1 y.1.1
 have n2 := ordV_neg y.1.1 z.1.1
 have n3 := ordV_neg x.1.1 z.1.1
 obtain ⟨q1, q2⟩ := ordV_tri z.1.1 y.1.1 x.1.1 (by omega) (by omega)
 omega
theorem below_sort {w w1 : World} {blk m : Nat} {dk : Array (VP w)} {os : Array Obj} (hb : Below w.heap.size w w1) (hg : w.heap.size <= blk) : Below w.heap.size w (sortWorldK encP 5 w1 blk 0 m dk os) := by
 have hz := hb.size
 refine ⟨hb.os, hb.tape, hb.output, Nat.le_trans hz (size_sortWorldK_c _ _ _ _ _ _ _ _), fun j hj => ?_⟩
 have h1 := hb.block j hj
 rw [← h1]
 show ((w1.heap.modify blk _) ++ os)[j]? = _
 rw [Array.getElem?_append_left (by simp; omega), Array.getElem?_modify, if_neg (by omega)]
theorem cmpP {w w1 : World} {blk size : Nat} (hb : Below w.heap.size w w1) (hg : w.heap.size <= blk) : CmpLays Tryz.prog 103 #[] (encP (w := w)) 5 cfP blk 0 size w1 := by
 intro m os dk hs x y
 have hB := below_sort (m := m) (dk := dk) (os := os) hb hg
 refine (orderD_on x.1.1 (sortWorldK encP 5 w1 blk 0 m dk os) x.1.2 y.1.1 y.1.2 (x.2.blw hB) (y.2.blw hB)).mono ?_
 rintro e w' ⟨rfl, hbd⟩
 exact ⟨rfl, grow_of_below hbd⟩

def rowP (w : World) (l : List V) (ss : Nat -> Value) (h : ∀ i (hi : i < l.length), VIn w l[i] (ss i)) : Array (VP w) := Array.ofFn (n := l.length) fun i => ⟨(l[i.1], ss i.1), h i.1 i.2⟩
theorem rowP_size (w : World) (l : List V) (ss : Nat -> Value) (h) : (rowP w l ss h).size = l.length := by simp [rowP]
theorem rowP_get (w : World) (l : List V) (ss : Nat -> Value) (h) (i : Nat) (hi : i < l.length) : ((rowP w l ss h)[i]!).1 = (l[i], ss i) := by
 rw [getElem!_pos _ i (by rw [rowP_size]; exact hi)]
 simp [rowP]
theorem holds_rowP {w w1 : World} {l : List V} {ss : Nat -> Value} {h} {g cap : Nat} {B : Nat} (hr : w1.ownsRow B 25 5 (.slice (some ⟨g, 0, none⟩) l.length cap) l.length (vrow l ss)) : HoldsK encP 5 w1 g 0 (rowP w l ss h) := by
 have hcell := hr
 rcases hr.2 with hn | ⟨g', cap', cur, hv, hbg, hh, _⟩
 ·simp at hn
 simp only [Value.slice.injEq, Option.some.injEq, Addr.mk.injEq] at hv
 obtain ⟨⟨rfl, _⟩, _, rfl⟩ := hv
 intro j hj
 rw [size_flatK, rowP_size] at hj
 have hj5 : j / 5 < l.length := by omega
 refine ⟨?_, by simp [World.frozen?, hh]⟩
 rw [Nat.zero_add, get_flatK _ _ _ _ (by rw [rowP_size]; exact hj)]
 have h1 := vrow_get l ss (j / 5) (j % 5) hj5 (Nat.mod_lt _ (by omega))
 have h2 := rowP_get w l ss h (j / 5) hj5
 have h3 : encP (rowP w l ss h)[j / 5]! = vcells l[j / 5] (ss (j / 5)) := by
  unfold encP
  rw [h2]
 rw [h3]
 have h4 : (vcells l[j / 5] (ss (j / 5)))[j % 5]? = some (vcells l[j / 5] (ss (j / 5)))[j % 5]! := by
  have : j % 5 < (vcells l[j / 5] (ss (j / 5))).length := by rw [vcells_len]; exact Nat.mod_lt _ (by omega)
  rw [List.getElem?_eq_getElem this, getElem!_pos (vcells l[j / 5] (ss (j / 5))) (j % 5) this]
 rw [h4] at h1
 have h5 := ownsRow_cell hcell (i := j / 5 * 5 + j % 5) h1
 rw [show j / 5 * 5 + j % 5 = j by omega] at h5
 exact h5

theorem sorted_keys {w : World} {l : List V} {ss : Nat -> Value} {h} {d' : Array (VP w)} (hp : PermIn 0 l.length (rowP w l ss h) d') : d'.size = l.length ∧ (d'.toList.map fun x => x.1.1).Perm l := by
 obtain ⟨h1, _, h3⟩ := hp
 rw [rowP_size] at h1
 refine ⟨h1, ?_⟩
 have e1 : d'.extract 0 l.length = d' := by rw [← h1]; exact Array.extract_size
 have e2 : (rowP w l ss h).extract 0 l.length = rowP w l ss h := by
  have := Array.extract_size (xs := rowP w l ss h)
  rwa [rowP_size] at this
 rw [e1, e2] at h3
 have h4 := h3.map (fun x => x.1.1)
 have e3 : (rowP w l ss h).toList.map (fun x => x.1.1) = l := by
  apply List.ext_getElem?
  intro i
  by_cases hi : i < l.length
  ·simp [rowP, hi]
  ·rw [List.getElem?_eq_none (by simp [rowP]; omega), List.getElem?_eq_none (by omega)]
 rw [e3] at h4
 exact h4
theorem nodup_sorted {ks : List V} (hs : ∀ i j (hi : i < ks.length) (hj : j < ks.length), i < j -> ¬ ordV ks[j] ks[i] < 0) (hn : ∀ i (hi : i + 1 < ks.length), ordV ks[i] ks[i + 1] ≠ 0) : ks.Nodup := by
 have key : ∀ k i (hi : i < ks.length) (hj : i + k + 1 < ks.length), ordV ks[i] ks[i + k + 1] < 0 := by
  intro k
  induction k with
  | zero =>
   intro i hi hj
   have h1 := hs i (i + 1) hi hj (by omega)
   have h2 := hn i hj
   have h3 := ordV_neg ks[i] ks[i + 1]
   simp only [Nat.add_zero]
   omega
  | succ k ih =>
   intro i hi hj
   have h1 := ih i hi (by omega)
   have h2 := ih 0 (by omega) (by omega)
   have h4 := hs (i + k + 1) (i + k + 1 + 1) (by omega) (by omega) (by omega)
   have h5 := hn (i + k + 1) (by omega)
   have h6 := ordV_neg ks[i + k + 1] ks[i + k + 1 + 1]
   obtain ⟨q1, q2⟩ := ordV_tri ks[i] ks[i + k + 1] ks[i + k + 1 + 1] (by omega) (by omega)
   have : ordV ks[i] ks[i + k + 1 + 1] ≠ 0 := fun q => by have := q2.1 q; omega
   simp only [show i + (k + 1) + 1 = i + k + 1 + 1 by omega]
   omega
 rw [List.nodup_iff_pairwise_ne, List.pairwise_iff_getElem]
 intro i j hi hj hij e
 have h1 := key (j - i - 1) i hi (by omega)
 simp only [show i + (j - i - 1) + 1 = j by omega] at h1
 rw [e, ordV_self] at h1
 omega


open Go.Sort
theorem sortkeys_any {w w1 : World} {l : List V} {ss : Nat -> Value} (h : ∀ i (hi : i < l.length), VIn w l[i] (ss i)) {g cap : Nat} (hb : Below w.heap.size w w1) (hg : w.heap.size <= g) (hr : w1.ownsRow w.heap.size 25 5 (.slice (some ⟨g, 0, none⟩) l.length cap) l.length (vrow l ss)) (hl : l.length <= 1024) :
  Calls prog 102 #[.slice (some ⟨g, 0, none⟩) l.length cap, .func (.func 103) #[] #[]] w1 fun e w' => e = .returned (.tuple #[]) ∧ ∃ (ks : List V) (tt : Nat -> Value), ks.Perm l ∧ (∀ i j (hi : i < ks.length) (hj : j < ks.length), i < j -> ¬ ordV ks[j] ks[i] < 0) ∧
   (∀ i (hi : i < ks.length), VIn w' ks[i] (tt i) ∧ w'.rangeAt g (i * 5) (vcells ks[i] (tt i))) ∧ Below w.heap.size w w' := by
 have eg : ∀ args w, (callFunc 103 args).run prog w = .ok (.enter 103 args) w := enters_of func103 (by kernel_rfl) rfl
 have hH := holds_rowP (h := h) hr
 have hgl : g < w1.heap.size := by
  rcases hr.2 with hn | ⟨g', cap', cur, hv, hbg, hh, _⟩
  ·simp at hn
  simp only [Value.slice.injEq, Option.some.injEq, Addr.mk.injEq] at hv
  obtain ⟨⟨rfl, _⟩, _, rfl⟩ := hv
  exact (Array.getElem?_eq_some_iff.1 hh).1
 have hcon := AnyQ.slices_SortFunc Tryz.sort 5 Tryz.isAgg25 Tryz.sizeOf25 (encP (w := w)) (fun _ => rfl) (fun x v hv => by
   obtain ⟨p, c, e, _⟩ := x.2.slice
   simp only [encP, vcells, List.mem_cons, List.not_mem_nil, or_false] at hv
   rcases hv with rfl | rfl | rfl | rfl | rfl <;> first | rfl | (rw [e]; rfl)) cfP (swoP w) 103 #[] g 0 cap (rowP w l ss h) w1 eg (cmpP hb hg) hH hgl (by rw [rowP_size]; omega)
 rw [rowP_size] at hcon
 change Calls prog 102 _ _ _ at hcon
 refine hcon.mono ?_
 rintro e w' ⟨rfl, d', n, os, hp, hs, rfl⟩
 obtain ⟨h1, h2⟩ := sorted_keys hp
 have hB := below_sort (m := n) (dk := d') (os := os) hb hg
 have hH2 := holdsK_sortWorldK_c encP 5 w1 g 0 _ d' n os hH hgl (by rw [h1, rowP_size])
 have hget : ∀ i (hi : i < (d'.toList.map fun x => x.1.1).length), (d'.toList.map fun x => x.1.1)[i] = (d'[i]!).1.1 := fun i hi => by
  have hi2 : i < d'.size := by simpa using hi
  rw [getElem!_pos _ i hi2]
  simp
 refine ⟨rfl, d'.toList.map fun x => x.1.1, fun i => (d'[i]!).1.2, h2, ?_, ?_, hB⟩
 ·intro i j hi hj hij
  rw [hget i hi, hget j hj]
  exact of_decide_eq_false (hs i j (Nat.zero_le _) hij (by rw [List.length_map, Array.length_toList, h1] at hj; exact hj))
 ·intro i hi
  have hi2 : i < d'.size := by simpa using hi
  rw [hget i hi]
  refine ⟨(d'[i]!).2.blw hB, ?_⟩
  intro j u hj
  have hj5 : j < 5 := (List.getElem?_eq_some_iff.1 hj).1
  have h3 := (hH2.cell hi2 hj5).1
  rw [Nat.zero_add] at h3
  rw [h3]
  show some (vcells (d'[i]!).1.1 (d'[i]!).1.2)[j]! = some u
  obtain ⟨q, e⟩ := List.getElem?_eq_some_iff.1 hj
  rw [getElem!_pos (vcells (d'[i]!).1.1 (d'[i]!).1.2) j q, e]

theorem isMap_any (v : V) (w : World) (s : Value) (h : VIn w v s) :
  Calls prog 73 #[s] w fun e w' => e = .returned (.bool (mapOk v.list)) ∧ Below w.heap.size w w' := by
 obtain ⟨p, c, hs, h1, h2, h3⟩ := h.slice
 obtain ⟨N, hN⟩ : ∃ N, v.list.length = N := ⟨_, rfl⟩
 rw [hN] at hs h1 h3
 subst hs
 unfold maxLen at h2
 obtain ⟨D, hD⟩ : ∃ D, mapOk v.list = D := ⟨_, rfl⟩
 rw [hD]
 have HD := zH hD
 obtain ⟨ss, hss⟩ := h.parts
 have HV := zH (And.intro h hss)
 have HN := zH hN
 clear h hN hD hss
 go_enter func73, ntmps73
 obtain ⟨i0, hi, hz0, hz1, hz2⟩ := info_partsV info_val
 by_cases e1 : (N : Int) % 2 = 0
 ·by_cases e2 : 2048 < (N : Int)
  ·have HDX := zH (show D = false by rw [← HD.out]; exact decide_eq_false (fun q => by have := q.2.1; rw [HN.out] at this; omega))
   go_wp2_with fail
   go_ret
   exact ⟨by rw [HDX.out]; rfl, Below.refl _ _⟩
  ·have hN2 : N <= 2048 := by omega
   have HE := zH (show N % 2 = 0 by omega)
   go_wp2_with (at_make; refine wpList_make_own _ rfl _ _ 23 rfl w.heap.size 25 i0 _ 5 underlying23 hi hz0 hz1 .i64 .i64 _ (N / 2) rfl rfl (by omega) (by rw [hz2]; omega) (by unfold maxLen; omega) (Nat.le_refl _) ?_)
   intro w1 hr1 hg1
   have HR1 := zH (And.intro hr1 (And.intro (show Below w.heap.size w w1 from ⟨hg1.os, hg1.tape, hg1.output, hg1.size, fun j hj => hg1.block j hj (by simp)⟩) (Nat.le_refl w.heap.size)))
   clear hr1 hg1 e1 e2
   generalize hgg : w.heap.size = g0 at HR1 ⊢
   have HG0 := zH hgg
   clear hgg
   go_wp2_with fail
   have HP := zH (show ∀ k (hk : k < v.list.length), VIn w v.list[k] (ss k) ∧ ∀ b o, p = some ⟨b, o, none⟩ -> w.rangeAt b (o + k * 5) (vcells v.list[k] (ss k)) from fun k hk => HV.out.2 k hk)
   go_loopw [3, 4] (fun v3 v4 wr => ∃ (k j g cap : Nat), k <= N ∧ Hid (k = 2 * j) ∧ v4 = .int .i64 k ∧ v3 = .slice (some ⟨g, 0, none⟩) j cap ∧ wr.ownsRow g0 25 5 (.slice (some ⟨g, 0, none⟩) j cap) j (vrow ((evens v.list).take j) (fun i => ss (2 * i))) ∧ Below w.heap.size w wr ∧ g0 <= g) (fun _ v4 _ => N - (intOf v4).toNat)
   case atStart => exact ⟨0, 0, g0, N / 2, Nat.zero_le _, zH rfl, rfl, rfl, by rw [List.take_zero]; exact HR1.out.1, by rw [HG0.out]; exact HR1.out.2.1, Nat.le_refl _⟩
   case round =>
    obtain ⟨k, j, g, cap, hk', hkj, rfl, rfl, hrow, hbw, hgg⟩ := hrel
    have HR := zH (And.intro hrow (And.intro hbw hgg))
    have hbz := hbw.size
    rw [HG0.out] at hbz
    clear hrow hbw hgg
    by_cases hkN : (k : Int) < N
    ·have ka : k < v.list.length := by rw [HN.out]; omega
     have hjN : j < 2000 := by have := hkj.out; omega
     obtain ⟨b1, o1, rfl⟩ := h3 (by omega)
     obtain ⟨hia, hta⟩ := HP.out k ka
     obtain ⟨c0, c1, c2, c3, c4⟩ := part_cells (rangeAt_rd (hta b1 o1 rfl) (rd_below HR.out.2.1))
     have htk : (evens v.list).take (j + 1) = (evens v.list).take j ++ [v.list[k]] := by
      rw [evens_take _ j (by have := hkj.out; omega)]
      simp only [hkj.out]
     have htl : ((evens v.list).take j).length = j := by rw [List.length_take, evens_len]; have := hkj.out; rw [HN.out]; omega
     obtain ⟨ya, hya⟩ : ∃ ya, v.list[k] = ya := ⟨_, rfl⟩
     rw [hya] at c0 c1 c2 c4 hia htk
     obtain ⟨pa, ca, hsa, _⟩ := hia.slice
     have HSA := zH hsa
     rw [hsa] at c3
     obtain ⟨na, hna⟩ : ∃ na, ya.list.length = na := ⟨_, rfl⟩
     rw [hna] at c3 HSA
     have HT := zH (And.intro htk htl)
     clear hia hta htk htl hya hsa hna
     have hrow2 : (wr.alloc (.cells #[.int .i64 ya.kind, .int .u64 ya.num, .string ya.text, .slice pa na ca, .int .i64 ya.elem] 25)).ownsRow g0 25 5 (.slice (some ⟨g, 0, none⟩) j cap) j (vrow ((evens v.list).take j) (fun i => ss (2 * i))) :=
      ownsRow_keep HR.out.1 (fun b hb => Below.heap_alloc _ _ _ (HR.out.1.lt b hb).2)
     have HRW := zH hrow2
     clear hrow2
     go_wp2_with (first
      | (at_builtin; refine wpList_append_two _ rfl (.tmp 25) (.tmp 30) 23 rfl g0 25 i0 _ 5 64 underlying23 hi hz0 hz1 hz2 rfl _ _ _ rfl HRW.out ⟨wr.heap.size, 0, none⟩ 1 [.int .i64 ya.kind, .int .u64 ya.num, .string ya.text, .slice pa na ca, .int .i64 ya.elem] rfl rfl (fun j u hj => cell_of_newrow hj) (by simp [Value.oneCell']) (by unfold maxLen; omega) (by omega) ?_; intro v' w9 hA; have HA := zH hA; clear hA))
     have hown := HA.out.owns (by simp; omega)
     have hgr := HA.out.grown
     have HB9 : Hid (Below w.heap.size w w9) := zH (((HR.out.2.1.alloc (by rw [HG0.out]; exact hbz) _)).grown hgr (by rw [HG0.out, World.size_alloc]; omega) (fun j hj => by rw [HG0.out]; exact (HRW.out.lt j hj).1))
     have hrow3 : w9.ownsRow g0 25 5 v' (j + 1) (vrow ((evens v.list).take (j + 1)) (fun i => ss (2 * i))) := by
      rw [HT.out.1, vrow_snoc, HT.out.2]
      have : ss (2 * j) = .slice pa na ca := by rw [← hkj.out]; exact HSA.out
      simp only [this]
      exact hown
     have hform : ∃ g2 cap2, v' = .slice (some ⟨g2, 0, none⟩) (j + 1) cap2 ∧ g0 <= g2 := by
      rcases HA.out with ⟨g', cap', e1, e2, _⟩ | ⟨cap', e2, _⟩
      ·have q : some g = some g' := congrArg Value.ownBlock e1
       exact ⟨g', cap', e2, by have := HR.out.2.2; have := Option.some.inj q; omega⟩
      ·exact ⟨_, cap', e2, by rw [World.size_alloc]; omega⟩
     obtain ⟨g2, cap2, rfl, hg2⟩ := hform
     have HF := zH (And.intro hrow3 hg2)
     have HKJ := zH (show k + 2 = 2 * (j + 1) by have := hkj.out; omega)
     clear hown hgr hrow3 hg2 c0 c1 c2 c3 c4
     go_roundw
     case rel => exact ⟨k + 2, j + 1, g2, cap2, by have := HE.out; have := hkj.out; omega, HKJ, by go_num, rfl, HF.out.1, HB9.out, HF.out.2⟩
     case measure => simp [intOf]; omega
    ·have hlen : (evens v.list).length = j := by rw [evens_len, HN.out]; have := hkj.out; omega
     have hc := sortkeys_any (w := w) (w1 := wr) (l := evens v.list) (ss := fun i => ss (2 * i)) (fun i hi => by
      rw [evens_get _ i (by rw [evens_len] at hi; rw [HN.out] at hi ⊢; have := HE.out; omega) hi]
      exact (HP.out (2 * i) _).1) (g := g) (cap := cap) HR.out.2.1 (by rw [HG0.out]; exact HR.out.2.2) (by
       have := HR.out.1
       rw [List.take_of_length_le (by omega)] at this
       rw [hlen, HG0.out]
       exact this) (by have := hkj.out; omega)
     rw [hlen] at hc
     have HC := zH hc
     clear hc
     go_wp2_with fail
     refine HC.out.mono ?_
     rintro e w2 ⟨rfl, ks, tt, hperm, hsort, hks, hb2⟩
     have hkl : ks.length = j := by rw [hperm.length_eq, hlen]
     have HK := zH (And.intro hperm (And.intro hsort (And.intro hks (And.intro hb2 hkl))))
     have hjN : j <= 2000 := by have := hkj.out; omega
     clear hperm hsort hks hb2 hkl hlen
     go_wp2_with fail
     go_loopw [5] (fun v5 wz => ∃ m : Nat, v5 = .int .i64 ((m : Int) + 1) ∧ (m + 1 <= j ∨ m = 0) ∧ (∀ q (hq : q + 1 < ks.length), q < m -> ordV ks[q] ks[q + 1] ≠ 0) ∧ Below w2.heap.size w2 wz) (fun v5 _ => j + 1 - (intOf v5).toNat)
     case atStart => exact ⟨0, by simp, .inr rfl, fun q hq h => by omega, Below.refl _ _⟩
     case round =>
      obtain ⟨m, rfl, hmj, hun, hbz⟩ := hrel
      have HZ := zH (And.intro hun hbz)
      clear hun hbz
      by_cases hmi : (m : Int) + 1 < j
      ·have hm0 : m < ks.length := by rw [HK.out.2.2.2.2]; omega
       have hm1 : m + 1 < ks.length := by rw [HK.out.2.2.2.2]; omega
       obtain ⟨hia, hta⟩ := HK.out.2.2.1 m hm0
       obtain ⟨hib, htb⟩ := HK.out.2.2.1 (m + 1) hm1
       obtain ⟨c0, c1, c2, c3, c4⟩ := part_cells (o := 0) (i := m) (by rw [Nat.zero_add]; exact rangeAt_rd hta (rd_below HZ.out.2))
       obtain ⟨d0, d1, d2, d3, d4⟩ := part_cells (o := 0) (i := m + 1) (by rw [Nat.zero_add]; exact rangeAt_rd htb (rd_below HZ.out.2))
       have HUN := zH (show ordV ks[m] ks[m + 1] ≠ 0 -> ∀ q (hq : q + 1 < ks.length), q < m + 1 -> ordV ks[q] ks[q + 1] ≠ 0 from fun hne q hq hqm => by
        by_cases e : q = m
        ·subst e; exact hne
        ·exact HZ.out.1 q hq (by omega))
       have HEQ := zH (show ordV ks[m] ks[m + 1] = 0 -> D = false from fun he => by
        rw [← HD.out]
        refine decide_eq_false (fun q => ?_)
        have hnd := (HK.out.1.nodup_iff).2 q.2.2
        rw [List.nodup_iff_pairwise_ne, List.pairwise_iff_getElem] at hnd
        exact hnd m (m + 1) hm0 hm1 (by omega) (ordV_zero.1 he))
       generalize ks[m] = ya at *
       generalize ks[m + 1] = yb at *
       have HPA := zH (And.intro (hia.blw HZ.out.2) (hib.blw HZ.out.2))
       clear hia hta hib htb
       rw [Nat.zero_add] at c0 c1 c2 c3 c4 d0 d1 d2 d3 d4
       obtain ⟨pa, ca, hsa, _⟩ := HPA.out.1.slice
       obtain ⟨pb, cb, hsb, _⟩ := HPA.out.2.slice
       rw [hsa] at c3 HPA
       rw [hsb] at d3 HPA
       obtain ⟨na, hna⟩ : ∃ na, ya.list.length = na := ⟨_, rfl⟩
       obtain ⟨nb, hnb⟩ : ∃ nb, yb.list.length = nb := ⟨_, rfl⟩
       rw [hna] at c3 HPA
       rw [hnb] at d3 HPA
       clear hsa hsb hna hnb
       obtain ⟨z, hzz⟩ : ∃ z, ordV ya yb = z := ⟨_, rfl⟩
       rw [hzz] at HUN HEQ
       have HZZ := zH hzz
       clear hzz
       have hma : (m : Int) < j := by omega
       have hmb : ¬ ((m : Int) + 1 < 0) := by omega
       have hmt : ((m : Int) + 1).toNat = m + 1 := by omega
       have hma0 : (0 : Int) <= (m : Int) := by omega
       have hmb0 : (0 : Int) <= (m : Int) + 1 := by omega
       have hmw2 : IntKind.i64.wrap (m : Int) = (m : Int) := by simp [IntKind.wrap, IntKind.bits, IntKind.signed]; omega
       have hmw : IntKind.i64.wrap ((m : Int) + 1 - 1) = (m : Int) := by simp [IntKind.wrap, IntKind.bits, IntKind.signed]; omega
       go_upto_region 12 with fail
       have hdr : Below wr.heap.size wr wr.drew := ⟨rfl, rfl, rfl, Nat.le_refl _, fun _ _ => rfl⟩
       have hc := order_on ya wr.drew _ yb _ (HPA.out.1.blw hdr) (HPA.out.2.blw hdr)
       rw [HZZ.out] at hc
       have HCC := zH hc
       clear hc
       go_region_held3 (fun w' => w'.cell? ⟨g, m * 5, none⟩ = some (.int .i64 ya.kind) ∧ w'.cell? ⟨g, m * 5 + 1, none⟩ = some (.int .u64 ya.num) ∧ w'.cell? ⟨g, m * 5 + 2, none⟩ = some (.string ya.text) ∧ w'.cell? ⟨g, m * 5 + 3, none⟩ = some (.slice pa na ca) ∧ w'.cell? ⟨g, m * 5 + 4, none⟩ = some (.int .i64 ya.elem) ∧ w'.cell? ⟨g, (m + 1) * 5, none⟩ = some (.int .i64 yb.kind) ∧ w'.cell? ⟨g, (m + 1) * 5 + 1, none⟩ = some (.int .u64 yb.num) ∧ w'.cell? ⟨g, (m + 1) * 5 + 2, none⟩ = some (.string yb.text) ∧ w'.cell? ⟨g, (m + 1) * 5 + 3, none⟩ = some (.slice pb nb cb) ∧ w'.cell? ⟨g, (m + 1) * 5 + 4, none⟩ = some (.int .i64 yb.elem)) (first | exact ⟨c0, c1, c2, c3, c4, d0, d1, d2, d3, d4⟩ | exact ⟨bs_cellV (w := wr.drew) hb4 c0, bs_cellV (w := wr.drew) hb4 c1, bs_cellV (w := wr.drew) hb4 c2, bs_cellV (w := wr.drew) hb4 c3, bs_cellV (w := wr.drew) hb4 c4, bs_cellV (w := wr.drew) hb4 d0, bs_cellV (w := wr.drew) hb4 d1, bs_cellV (w := wr.drew) hb4 d2, bs_cellV (w := wr.drew) hb4 d3, bs_cellV (w := wr.drew) hb4 d4⟩ | fail)
        (first
         | (go_at_call 103; refine HCC.out.mono ?_; rintro e w4 ⟨rfl, hb4⟩)
         | fail)
       have HB4 := zH (hdr.trans (hb4.mono hdr.size))
       clear hb4 hdr c0 c1 c2 c3 c4 d0 d1 d2 d3 d4
       by_cases hz0 : z = 0
       ·have hzt : (z == 0) = true := by simpa using hz0
        have HDF := zH (HEQ.out hz0)
        clear hz0
        go_wp2_with fail
        go_ret
        exact ⟨by rw [HDF.out]; rfl, HK.out.2.2.2.1.trans ((HZ.out.2.trans (HB4.out.mono HZ.out.2.size)).mono HK.out.2.2.2.1.size)⟩
       ·have hzt : (z == 0) = false := by simpa using hz0
        have HUN2 := zH (HUN.out hz0)
        clear hz0
        go_wp2_with fail
        go_roundw
        case rel => exact ⟨m + 1, by go_num, .inl (by omega), HUN2.out, HZ.out.2.trans (HB4.out.mono HZ.out.2.size)⟩
        case measure => simp [intOf]; omega
      ·have HDT := zH (show D = true by
        rw [← HD.out]
        refine decide_eq_true ⟨by rw [HN.out]; exact HE.out, by rw [HN.out]; exact hN2, ?_⟩
        refine (HK.out.1.nodup_iff).1 (nodup_sorted (fun i j hi hj hij => by have := HK.out.2.1 i j hi hj hij; omega) (fun i hi => HZ.out.1 i hi ?_))
        have := HK.out.2.2.2.2
        omega)
       go_wp2_with fail
       go_ret
       exact ⟨by rw [HDT.out]; rfl, HK.out.2.2.2.1.trans (HZ.out.2.mono HK.out.2.2.2.1.size)⟩
 have HDX := zH (show D = false by rw [← HD.out]; exact decide_eq_false (fun q => by have := q.1; rw [HN.out] at this; omega))
 go_wp2_with fail
 go_ret
 exact ⟨by rw [HDX.out]; rfl, Below.refl _ _⟩
end Go.Proofs.YtnnnfhobbnjmfaaGreatDoor
