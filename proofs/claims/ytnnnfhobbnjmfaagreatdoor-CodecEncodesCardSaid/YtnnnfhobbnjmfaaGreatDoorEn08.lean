/-
  Lemmas on the codec. Conditions: as each says.
-/
import Derived.Test.YtnnnfhobbnjmfaaGreatDoorEn07
import Derived.Test.YtnnnfhobbnjmfaaGreatDoorEn05
import Derived.Test.YtnnnfhobbnjmfaaGreatDoorEn02
import Derived.Orders
import Derived.OrdersIn
import Derived.OrdersHeld
import Derived.Deep.RegionHeld
import Derived.RangeFuncCalls
import Derived.Laws.Rows
import Derived.Laws.Tables
import Derived.Sort.CutIn
import Derived.Test.YtnnnfhobbnjmfaaGreatDoorEn03
namespace Go.Proofs.YtnnnfhobbnjmfaaGreatDoor
open Go.RowKit
set_option linter.all false

open Go.Sort
set_option maxRecDepth 20000 in
set_option maxHeartbeats 4000000 in
theorem sortkeys_any {w w1 : World} {l : List V} {ss : Nat → Value} (h : ∀ i (hi : i < l.length), VIn w l[i] (ss i)) {g cap : Nat} (hb : Below w.heap.size w w1) (hg : w.heap.size ≤ g) (hr : w1.ownsRow w.heap.size 25 5 (.slice (some ⟨g, 0, none⟩) l.length cap) l.length (vrow l ss)) (hl : l.length ≤ 1024) :
    Calls Tryz.prog 102 #[.slice (some ⟨g, 0, none⟩) l.length cap, .func (.func 103) #[] #[]] w1 fun e w' => e = .returned (.tuple #[]) ∧ ∃ (ks : List V) (tt : Nat → Value), ks.Perm l ∧ (∀ i j (hi : i < ks.length) (hj : j < ks.length), i < j → ¬ ordV ks[j] ks[i] < 0) ∧
      (∀ i (hi : i < ks.length), VIn w' ks[i] (tt i) ∧ w'.rangeAt g (i * 5) (vcells ks[i] (tt i))) ∧ Below w.heap.size w w' := by
  have eg : ∀ args w, (callFunc 103 args).run Tryz.prog w = .ok (.enter 103 args) w := enters_of Tryz.func103 (by kernel_rfl) rfl
  have hH := holds_rowP (h := h) hr
  have hgl : g < w1.heap.size := by
    rcases hr.2 with hn | ⟨g', cap', cur, hv, hbg, hh, _⟩
    · simp at hn
    simp only [Value.slice.injEq, Option.some.injEq, Addr.mk.injEq] at hv
    obtain ⟨⟨rfl, _⟩, _, rfl⟩ := hv
    exact (Array.getElem?_eq_some_iff.1 hh).1
  have hcon := AnyQ.slices_SortFunc Tryz.sort 5 Tryz.isAgg25 Tryz.sizeOf25 (encP (w := w)) (fun _ => rfl) (fun x v hv => by
      obtain ⟨p, c, e, _⟩ := x.2.slice
      simp only [encP, vcells, List.mem_cons, List.not_mem_nil, or_false] at hv
      rcases hv with rfl | rfl | rfl | rfl | rfl <;> first | rfl | (rw [e]; rfl)) cfP (swoP w) 103 #[] g 0 cap (rowP w l ss h) w1 eg (cmpP hb hg) hH hgl (by rw [rowP_size]; omega)
  rw [rowP_size] at hcon
  change Calls Tryz.prog 102 _ _ _ at hcon
  refine hcon.mono ?_
  rintro e w' ⟨rfl, d', n, os, hp, hs, rfl⟩
  obtain ⟨h1, h2⟩ := sorted_keys hp
  have hB := below_sort (m := n) (dk := d') (os := os) hb hg
  have hH2 := holdsK_sortWorldK_c encP 5 w1 g 0 _ d' n os hH hgl (by rw [h1, rowP_size])
  have hget : ∀ i (hi : i < (d'.toList.map fun x => x.1.1).length), (d'.toList.map fun x => x.1.1)[i] = (d'[i]!).1.1 := fun i hi => by
    have hi2 : i < d'.size := by simpa using hi
    rw [getElem!_pos _ i hi2]
    simp
  refine ⟨rfl, d'.toList.map fun x => x.1.1, fun i => (d'[i]!).1.2, h2, ?_, ?_, hB⟩
  · intro i j hi hj hij
    rw [hget i hi, hget j hj]
    exact of_decide_eq_false (hs i j (Nat.zero_le _) hij (by rw [List.length_map, Array.length_toList, h1] at hj; exact hj))
  · intro i hi
    have hi2 : i < d'.size := by simpa using hi
    rw [hget i hi]
    refine ⟨(d'[i]!).2.blw hB, ?_⟩
    intro j u hj
    have hj5 : j < 5 := (List.getElem?_eq_some_iff.1 hj).1
    have h3 := (hH2.cell hi2 hj5).1
    rw [Nat.zero_add] at h3
    rw [h3]
    show some (vcells (d'[i]!).1.1 (d'[i]!).1.2)[j]! = some u
    obtain ⟨q, e⟩ := List.getElem?_eq_some_iff.1 hj
    rw [getElem!_pos (vcells (d'[i]!).1.1 (d'[i]!).1.2) j q, e]

set_option maxRecDepth 20000 in
set_option maxHeartbeats 4000000 in
theorem isMap_any (v : V) (w : World) (s : Value) (h : VIn w v s) :
    Calls Tryz.prog 73 #[s] w fun e w' => e = .returned (.bool (mapOk v.list)) ∧ Below w.heap.size w w' := by
  obtain ⟨p, c, hs, h1, h2, h3⟩ := h.slice
  obtain ⟨N, hN⟩ : ∃ N, v.list.length = N := ⟨_, rfl⟩
  rw [hN] at hs h1 h3
  subst hs
  unfold maxLen at h2
  obtain ⟨D, hD⟩ : ∃ D, mapOk v.list = D := ⟨_, rfl⟩
  rw [hD]
  have HD := Lib.hid hD
  obtain ⟨ss, hss⟩ := h.parts
  have HV := Lib.hid (And.intro h hss)
  have HN := Lib.hid hN
  clear h hN hD hss
  go_enter Tryz.func73, Tryz.ntmps73
  obtain ⟨i0, hi, hz0, hz1, hz2⟩ := info_partsV info_val
  by_cases e1 : (N : Int) % 2 = 0
  · by_cases e2 : 2048 < (N : Int)
    · have HDX := Lib.hid (show D = false by rw [← HD.out]; exact decide_eq_false (fun q => by have := q.2.1; rw [HN.out] at this; omega))
      go_wp2_with fail
      go_ret
      exact ⟨by rw [HDX.out]; rfl, Below.refl _ _⟩
    · have hN2 : N ≤ 2048 := by omega
      have HE := Lib.hid (show N % 2 = 0 by omega)
      go_wp2_with (at_make; refine wpList_make_own _ rfl _ _ 23 rfl w.heap.size 25 i0 _ 5 Tryz.underlying23 hi hz0 hz1 .i64 .i64 _ (N / 2) rfl rfl (by omega) (by rw [hz2]; omega) (by unfold maxLen; omega) (Nat.le_refl _) ?_)
      intro w1 hr1 hg1
      have HR1 := Lib.hid (And.intro hr1 (And.intro (show Below w.heap.size w w1 from ⟨hg1.os, hg1.tape, hg1.output, hg1.size, fun j hj => hg1.block j hj (by simp)⟩) (Nat.le_refl w.heap.size)))
      clear hr1 hg1 e1 e2
      generalize hgg : w.heap.size = g0 at HR1 ⊢
      have HG0 := Lib.hid hgg
      clear hgg
      go_wp2_with fail
      have HP := Lib.hid (show ∀ k (hk : k < v.list.length), VIn w v.list[k] (ss k) ∧ ∀ b o, p = some ⟨b, o, none⟩ → w.rangeAt b (o + k * 5) (vcells v.list[k] (ss k)) from fun k hk => HV.out.2 k hk)
      go_loopw [3, 4] (fun v3 v4 wr => ∃ (k j g cap : Nat), k ≤ N ∧ Hid (k = 2 * j) ∧ v4 = .int .i64 k ∧ v3 = .slice (some ⟨g, 0, none⟩) j cap ∧ wr.ownsRow g0 25 5 (.slice (some ⟨g, 0, none⟩) j cap) j (vrow ((evens v.list).take j) (fun i => ss (2 * i))) ∧ Below w.heap.size w wr ∧ g0 ≤ g) (fun _ v4 _ => N - (intOf v4).toNat)
      case atStart => exact ⟨0, 0, g0, N / 2, Nat.zero_le _, Lib.hid rfl, rfl, rfl, by rw [List.take_zero]; exact HR1.out.1, by rw [HG0.out]; exact HR1.out.2.1, Nat.le_refl _⟩
      case round =>
        obtain ⟨k, j, g, cap, hk', hkj, rfl, rfl, hrow, hbw, hgg⟩ := hrel
        have HR := Lib.hid (And.intro hrow (And.intro hbw hgg))
        have hbz := hbw.size
        rw [HG0.out] at hbz
        clear hrow hbw hgg
        by_cases hkN : (k : Int) < N
        · have ka : k < v.list.length := by rw [HN.out]; omega
          have hjN : j < 2000 := by have := hkj.out; omega
          obtain ⟨b1, o1, rfl⟩ := h3 (by omega)
          obtain ⟨hia, hta⟩ := HP.out k ka
          obtain ⟨c0, c1, c2, c3, c4⟩ := part_cells (rangeAt_rd (hta b1 o1 rfl) (rd_below HR.out.2.1))
          have htk : (evens v.list).take (j + 1) = (evens v.list).take j ++ [v.list[k]] := by
            rw [evens_take _ j (by have := hkj.out; omega)]
            simp only [hkj.out]
          have htl : ((evens v.list).take j).length = j := by rw [List.length_take, evens_len]; have := hkj.out; rw [HN.out]; omega
          obtain ⟨ya, hya⟩ : ∃ ya, v.list[k] = ya := ⟨_, rfl⟩
          rw [hya] at c0 c1 c2 c4 hia htk
          obtain ⟨pa, ca, hsa, _⟩ := hia.slice
          have HSA := Lib.hid hsa
          rw [hsa] at c3
          obtain ⟨na, hna⟩ : ∃ na, ya.list.length = na := ⟨_, rfl⟩
          rw [hna] at c3 HSA
          have HT := Lib.hid (And.intro htk htl)
          clear hia hta htk htl hya hsa hna
          have hrow2 : (wr.alloc (.cells #[.int .i64 ya.kind, .int .u64 ya.num, .string ya.text, .slice pa na ca, .int .i64 ya.elem] 25)).ownsRow g0 25 5 (.slice (some ⟨g, 0, none⟩) j cap) j (vrow ((evens v.list).take j) (fun i => ss (2 * i))) :=
            ownsRow_keep HR.out.1 (fun b hb => Below.heap_alloc _ _ _ (HR.out.1.lt b hb).2)
          have HRW := Lib.hid hrow2
          clear hrow2
          go_wp2_with (first
            | (at_builtin; refine wpList_append_two _ rfl (.tmp 25) (.tmp 30) 23 rfl g0 25 i0 _ 5 64 Tryz.underlying23 hi hz0 hz1 hz2 rfl _ _ _ rfl HRW.out ⟨wr.heap.size, 0, none⟩ 1 [.int .i64 ya.kind, .int .u64 ya.num, .string ya.text, .slice pa na ca, .int .i64 ya.elem] rfl rfl (fun j u hj => cell_of_newrow hj) (by simp [Value.oneCell']) (by unfold maxLen; omega) (by omega) ?_; intro v' w9 hA; have HA := Lib.hid hA; clear hA))
          have hown := HA.out.owns (by simp; omega)
          have hgr := HA.out.grown
          have HB9 : Hid (Below w.heap.size w w9) := Lib.hid (((HR.out.2.1.alloc (by rw [HG0.out]; exact hbz) _)).grown hgr (by rw [HG0.out, World.size_alloc]; omega) (fun j hj => by rw [HG0.out]; exact (HRW.out.lt j hj).1))
          have hrow3 : w9.ownsRow g0 25 5 v' (j + 1) (vrow ((evens v.list).take (j + 1)) (fun i => ss (2 * i))) := by
            rw [HT.out.1, vrow_snoc, HT.out.2]
            have : ss (2 * j) = .slice pa na ca := by rw [← hkj.out]; exact HSA.out
            simp only [this]
            exact hown
          have hform : ∃ g2 cap2, v' = .slice (some ⟨g2, 0, none⟩) (j + 1) cap2 ∧ g0 ≤ g2 := by
            rcases HA.out with ⟨g', cap', e1, e2, _⟩ | ⟨cap', e2, _⟩
            · have q : some g = some g' := congrArg Value.ownBlock e1
              exact ⟨g', cap', e2, by have := HR.out.2.2; have := Option.some.inj q; omega⟩
            · exact ⟨_, cap', e2, by rw [World.size_alloc]; omega⟩
          obtain ⟨g2, cap2, rfl, hg2⟩ := hform
          have HF := Lib.hid (And.intro hrow3 hg2)
          have HKJ := Lib.hid (show k + 2 = 2 * (j + 1) by have := hkj.out; omega)
          clear hown hgr hrow3 hg2 c0 c1 c2 c3 c4
          go_roundw
          case rel => exact ⟨k + 2, j + 1, g2, cap2, by have := HE.out; have := hkj.out; omega, HKJ, by go_num, rfl, HF.out.1, HB9.out, HF.out.2⟩
          case measure => simp [intOf]; omega
        · have hlen : (evens v.list).length = j := by rw [evens_len, HN.out]; have := hkj.out; omega
          have hc := sortkeys_any (w := w) (w1 := wr) (l := evens v.list) (ss := fun i => ss (2 * i)) (fun i hi => by
            rw [evens_get _ i (by rw [evens_len] at hi; rw [HN.out] at hi ⊢; have := HE.out; omega) hi]
            exact (HP.out (2 * i) _).1) (g := g) (cap := cap) HR.out.2.1 (by rw [HG0.out]; exact HR.out.2.2) (by
              have := HR.out.1
              rw [List.take_of_length_le (by omega)] at this
              rw [hlen, HG0.out]
              exact this) (by have := hkj.out; omega)
          rw [hlen] at hc
          have HC := Lib.hid hc
          clear hc
          go_wp2_with fail
          refine HC.out.mono ?_
          rintro e w2 ⟨rfl, ks, tt, hperm, hsort, hks, hb2⟩
          have hkl : ks.length = j := by rw [hperm.length_eq, hlen]
          have HK := Lib.hid (And.intro hperm (And.intro hsort (And.intro hks (And.intro hb2 hkl))))
          have hjN : j ≤ 2000 := by have := hkj.out; omega
          clear hperm hsort hks hb2 hkl hlen
          go_wp2_with fail
          go_loopw [5] (fun v5 wz => ∃ m : Nat, v5 = .int .i64 ((m : Int) + 1) ∧ (m + 1 ≤ j ∨ m = 0) ∧ (∀ q (hq : q + 1 < ks.length), q < m → ordV ks[q] ks[q + 1] ≠ 0) ∧ Below w2.heap.size w2 wz) (fun v5 _ => j + 1 - (intOf v5).toNat)
          case atStart => exact ⟨0, by simp, .inr rfl, fun q hq h => by omega, Below.refl _ _⟩
          case round =>
            obtain ⟨m, rfl, hmj, hun, hbz⟩ := hrel
            have HZ := Lib.hid (And.intro hun hbz)
            clear hun hbz
            by_cases hmi : (m : Int) + 1 < j
            · have hm0 : m < ks.length := by rw [HK.out.2.2.2.2]; omega
              have hm1 : m + 1 < ks.length := by rw [HK.out.2.2.2.2]; omega
              obtain ⟨hia, hta⟩ := HK.out.2.2.1 m hm0
              obtain ⟨hib, htb⟩ := HK.out.2.2.1 (m + 1) hm1
              obtain ⟨c0, c1, c2, c3, c4⟩ := part_cells (o := 0) (i := m) (by rw [Nat.zero_add]; exact rangeAt_rd hta (rd_below HZ.out.2))
              obtain ⟨d0, d1, d2, d3, d4⟩ := part_cells (o := 0) (i := m + 1) (by rw [Nat.zero_add]; exact rangeAt_rd htb (rd_below HZ.out.2))
              have HUN := Lib.hid (show ordV ks[m] ks[m + 1] ≠ 0 → ∀ q (hq : q + 1 < ks.length), q < m + 1 → ordV ks[q] ks[q + 1] ≠ 0 from fun hne q hq hqm => by
                by_cases e : q = m
                · subst e; exact hne
                · exact HZ.out.1 q hq (by omega))
              have HEQ := Lib.hid (show ordV ks[m] ks[m + 1] = 0 → D = false from fun he => by
                rw [← HD.out]
                refine decide_eq_false (fun q => ?_)
                have hnd := (HK.out.1.nodup_iff).2 q.2.2
                rw [List.nodup_iff_pairwise_ne, List.pairwise_iff_getElem] at hnd
                exact hnd m (m + 1) hm0 hm1 (by omega) (ordV_zero.1 he))
              generalize ks[m] = ya at *
              generalize ks[m + 1] = yb at *
              have HPA := Lib.hid (And.intro (hia.blw HZ.out.2) (hib.blw HZ.out.2))
              clear hia hta hib htb
              rw [Nat.zero_add] at c0 c1 c2 c3 c4 d0 d1 d2 d3 d4
              obtain ⟨pa, ca, hsa, _⟩ := HPA.out.1.slice
              obtain ⟨pb, cb, hsb, _⟩ := HPA.out.2.slice
              rw [hsa] at c3 HPA
              rw [hsb] at d3 HPA
              obtain ⟨na, hna⟩ : ∃ na, ya.list.length = na := ⟨_, rfl⟩
              obtain ⟨nb, hnb⟩ : ∃ nb, yb.list.length = nb := ⟨_, rfl⟩
              rw [hna] at c3 HPA
              rw [hnb] at d3 HPA
              clear hsa hsb hna hnb
              obtain ⟨z, hzz⟩ : ∃ z, ordV ya yb = z := ⟨_, rfl⟩
              rw [hzz] at HUN HEQ
              have HZZ := Lib.hid hzz
              clear hzz
              have hma : (m : Int) < j := by omega
              have hmb : ¬ ((m : Int) + 1 < 0) := by omega
              have hmt : ((m : Int) + 1).toNat = m + 1 := by omega
              have hma0 : (0 : Int) ≤ (m : Int) := by omega
              have hmb0 : (0 : Int) ≤ (m : Int) + 1 := by omega
              have hmw2 : IntKind.i64.wrap (m : Int) = (m : Int) := by simp [IntKind.wrap, IntKind.bits, IntKind.signed]; omega
              have hmw : IntKind.i64.wrap ((m : Int) + 1 - 1) = (m : Int) := by simp [IntKind.wrap, IntKind.bits, IntKind.signed]; omega
              go_upto_region 12 with fail
              have hdr : Below wr.heap.size wr wr.drew := ⟨rfl, rfl, rfl, Nat.le_refl _, fun _ _ => rfl⟩
              have hc := order_on ya wr.drew _ yb _ (HPA.out.1.blw hdr) (HPA.out.2.blw hdr)
              rw [HZZ.out] at hc
              have HCC := Lib.hid hc
              clear hc
              go_region_held3 (fun w' => w'.cell? ⟨g, m * 5, none⟩ = some (.int .i64 ya.kind) ∧ w'.cell? ⟨g, m * 5 + 1, none⟩ = some (.int .u64 ya.num) ∧ w'.cell? ⟨g, m * 5 + 2, none⟩ = some (.string ya.text) ∧ w'.cell? ⟨g, m * 5 + 3, none⟩ = some (.slice pa na ca) ∧ w'.cell? ⟨g, m * 5 + 4, none⟩ = some (.int .i64 ya.elem) ∧ w'.cell? ⟨g, (m + 1) * 5, none⟩ = some (.int .i64 yb.kind) ∧ w'.cell? ⟨g, (m + 1) * 5 + 1, none⟩ = some (.int .u64 yb.num) ∧ w'.cell? ⟨g, (m + 1) * 5 + 2, none⟩ = some (.string yb.text) ∧ w'.cell? ⟨g, (m + 1) * 5 + 3, none⟩ = some (.slice pb nb cb) ∧ w'.cell? ⟨g, (m + 1) * 5 + 4, none⟩ = some (.int .i64 yb.elem)) (first | exact ⟨c0, c1, c2, c3, c4, d0, d1, d2, d3, d4⟩ | exact ⟨bs_cellV (w := wr.drew) hb4 c0, bs_cellV (w := wr.drew) hb4 c1, bs_cellV (w := wr.drew) hb4 c2, bs_cellV (w := wr.drew) hb4 c3, bs_cellV (w := wr.drew) hb4 c4, bs_cellV (w := wr.drew) hb4 d0, bs_cellV (w := wr.drew) hb4 d1, bs_cellV (w := wr.drew) hb4 d2, bs_cellV (w := wr.drew) hb4 d3, bs_cellV (w := wr.drew) hb4 d4⟩ | fail)
                (first
                  | (go_at_call 103; refine HCC.out.mono ?_; rintro e w4 ⟨rfl, hb4⟩)
                  | fail)
              have HB4 := Lib.hid (hdr.trans (hb4.mono hdr.size))
              clear hb4 hdr c0 c1 c2 c3 c4 d0 d1 d2 d3 d4
              by_cases hz0 : z = 0
              · have hzt : (z == 0) = true := by simpa using hz0
                have HDF := Lib.hid (HEQ.out hz0)
                clear hz0
                go_wp2_with fail
                go_ret
                exact ⟨by rw [HDF.out]; rfl, HK.out.2.2.2.1.trans ((HZ.out.2.trans (HB4.out.mono HZ.out.2.size)).mono HK.out.2.2.2.1.size)⟩
              · have hzt : (z == 0) = false := by simpa using hz0
                have HUN2 := Lib.hid (HUN.out hz0)
                clear hz0
                go_wp2_with fail
                go_roundw
                case rel => exact ⟨m + 1, by go_num, .inl (by omega), HUN2.out, HZ.out.2.trans (HB4.out.mono HZ.out.2.size)⟩
                case measure => simp [intOf]; omega
            · have HDT := Lib.hid (show D = true by
                rw [← HD.out]
                refine decide_eq_true ⟨by rw [HN.out]; exact HE.out, by rw [HN.out]; exact hN2, ?_⟩
                refine (HK.out.1.nodup_iff).1 (nodup_sorted (fun i j hi hj hij => by have := HK.out.2.1 i j hi hj hij; omega) (fun i hi => HZ.out.1 i hi ?_))
                have := HK.out.2.2.2.2
                omega)
              go_wp2_with fail
              go_ret
              exact ⟨by rw [HDT.out]; rfl, HK.out.2.2.2.1.trans (HZ.out.2.mono HK.out.2.2.2.1.size)⟩
  · have HDX := Lib.hid (show D = false by rw [← HD.out]; exact decide_eq_false (fun q => by have := q.1; rw [HN.out] at this; omega))
    go_wp2_with fail
    go_ret
    exact ⟨by rw [HDX.out]; rfl, Below.refl _ _⟩


noncomputable def aloneC (v : V) (d : Int) : Int :=
  if v.kind < 0 then 20 else if 24 < v.kind then 20 else if 32 < d then 26 else if extraV v = true then 25 else if numOk v.kind v.num = false then 21 else if textOk v.kind v.text = false then 22 else
  if v.kind = 22 then (if mapOk v.list = false then 23 else 0) else if v.kind = 23 then (if arrOk v = false then 24 else 0) else if v.kind = 24 then (if v.list.length = 2 then 0 else 27) else 0
def InK (v : V) (d : Int) : Prop := ¬ v.kind < 0 ∧ ¬ 24 < v.kind ∧ ¬ 32 < d
theorem aloneC_in {v : V} {d : Int} (h : InK v d) : aloneC v d = if extraV v = true then 25 else if numOk v.kind v.num = false then 21 else if textOk v.kind v.text = false then 22 else
    if v.kind = 22 then (if mapOk v.list = false then 23 else 0) else if v.kind = 23 then (if arrOk v = false then 24 else 0) else if v.kind = 24 then (if v.list.length = 2 then 0 else 27) else 0 := by
  rw [aloneC, if_neg h.1, if_neg h.2.1, if_neg h.2.2]
theorem aloneC_in3 {v : V} {d : Int} (h : InK v d ∧ extraV v = false ∧ numOk v.kind v.num = true ∧ textOk v.kind v.text = true) : aloneC v d =
    if v.kind = 22 then (if mapOk v.list = false then 23 else 0) else if v.kind = 23 then (if arrOk v = false then 24 else 0) else if v.kind = 24 then (if v.list.length = 2 then 0 else 27) else 0 := by
  rw [aloneC_in h.1, if_neg (by rw [h.2.1]; simp), if_neg (by rw [h.2.2.1]; simp), if_neg (by rw [h.2.2.2]; simp)]
theorem ret_intV {a b : Int} (h : a = b) : Ending.returned (.int .i64 a) = .returned (.int .i64 b) := by rw [h]

set_option maxRecDepth 20000 in
set_option maxHeartbeats 4000000 in
theorem alone_any (v : V) (d : Int) (w : World) (s : Value) (h : VIn w v s) (hT : Tabs w) (hts : v.text.size ≤ 9223372036854775800) :
    Calls Tryz.prog 49 #[.agg #[.int .i64 v.kind, .int .u64 v.num, .string v.text, s, .int .i64 v.elem], .int .i64 d] w fun e w' => e = .returned (.int .i64 (aloneC v d)) ∧ Below w.heap.size w w' := by
  obtain ⟨p, c, hs, h1, h2, h3⟩ := h.slice
  obtain ⟨N, hN⟩ : ∃ N, v.list.length = N := ⟨_, rfl⟩
  rw [hN] at hs h1 h3
  subst hs
  unfold maxLen at h2
  obtain ⟨D, hD⟩ : ∃ D, aloneC v d = D := ⟨_, rfl⟩
  rw [hD]
  have HD := Lib.hid hD
  have HV := Lib.hid h
  have HN := Lib.hid hN
  have HT := Lib.hid hT
  have HTS := Lib.hid hts
  clear h hN hD hT hts
  go_enter Tryz.func49, Tryz.ntmps49
  go_upto_region 1 with fail
  have hb0 : Below w.heap.size w (w.alloc (.cells #[.int .i64 v.kind, .int .u64 v.num, .string v.text, (.slice p N c), .int .i64 v.elem] 25)) := ((Below.refl _ _).alloc (Nat.le_refl _) _)
  have ox := _root_.Go.heap_alloc_new w (.cells #[.int .i64 v.kind, .int .u64 v.num, .string v.text, (.slice p N c), .int .i64 v.elem] 25)
  generalize (w.alloc (.cells #[.int .i64 v.kind, .int .u64 v.num, .string v.text, (.slice p N c), .int .i64 v.elem] 25)) = w0 at *
  obtain ⟨x, hx⟩ : ∃ x, w.heap.size = x := ⟨_, rfl⟩
  rw [hx] at ox ⊢
  have HB0 := Lib.hid hb0
  have HOx := Lib.hid ox
  clear hb0 ox hx
  have x0 : w0.cell? ⟨x, 0, none⟩ = some (.int .i64 v.kind) := (cell_of_row _ _ 0 _ _ _ HOx.out).trans rfl
  have x1 : w0.cell? ⟨x, 1, none⟩ = some (.int .u64 v.num) := (cell_of_row _ _ 1 _ _ _ HOx.out).trans rfl
  have x2 : w0.cell? ⟨x, 2, none⟩ = some (.string v.text) := (cell_of_row _ _ 2 _ _ _ HOx.out).trans rfl
  have x3 : w0.cell? ⟨x, 3, none⟩ = some (.slice p N c) := (cell_of_row _ _ 3 _ _ _ HOx.out).trans rfl
  have x4 : w0.cell? ⟨x, 4, none⟩ = some (.int .i64 v.elem) := (cell_of_row _ _ 4 _ _ _ HOx.out).trans rfl
  have HX : Hid (∀ W', Below w0.heap.size w0 W' → W'.cell? ⟨x, 0, none⟩ = some (.int .i64 v.kind) ∧ W'.cell? ⟨x, 1, none⟩ = some (.int .u64 v.num) ∧ W'.cell? ⟨x, 2, none⟩ = some (.string v.text) ∧ W'.cell? ⟨x, 3, none⟩ = some (.slice p N c) ∧ W'.cell? ⟨x, 4, none⟩ = some (.int .i64 v.elem)) := Lib.hid (fun W' hB => ⟨bs_cellV hB x0, bs_cellV hB x1, bs_cellV hB x2, bs_cellV hB x3, bs_cellV hB x4⟩)
  by_cases k0 : v.kind < 0
  · clear x1 x2 x3 x4
    have HDX := Lib.hid (show D = 20 by rw [← HD.out]; simp [aloneC, k0])
    go_wp2_with fail
    go_ret
    exact ⟨by rw [HDX.out]; rfl, HB0.out⟩
  by_cases k1 : 24 < v.kind
  · clear x1 x2 x3 x4
    have HDX := Lib.hid (show D = 20 by rw [← HD.out]; simp [aloneC, k0, k1])
    go_wp2_with fail
    go_ret
    exact ⟨by rw [HDX.out]; rfl, HB0.out⟩
  by_cases k2 : 32 < d
  · clear x1 x2 x3 x4
    have HDX := Lib.hid (show D = 26 by rw [← HD.out]; simp [aloneC, k0, k1, k2])
    go_wp2_with fail
    go_ret
    exact ⟨by rw [HDX.out]; rfl, HB0.out⟩
  have K : Hid (InK v d) := Lib.hid (And.intro k0 (And.intro k1 k2))
  have hc := extra_any v w0 _ (HV.out.blw HB0.out)
  obtain ⟨z1, hz1⟩ : ∃ z, extraV v = z := ⟨_, rfl⟩
  rw [hz1] at hc
  have Z1 := Lib.hid hz1
  clear hz1
  have HC := Lib.hid hc
  clear hc
  go_wp2_with fail
  refine HC.out.mono ?_
  rintro e w1 ⟨rfl, hb1⟩
  have HB1 := Lib.hid hb1
  clear hb1 x0 x1 x2 x3 x4 HC
  obtain ⟨x0, x1, x2, x3, x4⟩ := HX.out w1 HB1.out
  cases z1
  rotate_left
  · clear x0 x1 x2 x3 x4
    have HDX := Lib.hid (show D = 25 by rw [← HD.out]; rw [aloneC_in K.out]; simp [Z1.out])
    go_wp2_with fail
    go_ret
    exact ⟨by rw [HDX.out]; rfl, HB0.out.trans (HB1.out.mono HB0.out.size)⟩
  have hc := isNum_any v w1 _ (HV.out.blw (HB0.out.trans (HB1.out.mono HB0.out.size)))
  obtain ⟨z2, hz2⟩ : ∃ z, numOk v.kind v.num = z := ⟨_, rfl⟩
  rw [hz2] at hc
  have Z2 := Lib.hid hz2
  clear hz2
  have HC := Lib.hid hc
  clear hc
  go_wp2_with fail
  refine HC.out.mono ?_
  rintro e w2 ⟨rfl, hb2⟩
  have HB2 := Lib.hid (HB1.out.trans (hb2.mono HB1.out.size))
  clear hb2 x0 x1 x2 x3 x4 HC
  obtain ⟨x0, x1, x2, x3, x4⟩ := HX.out w2 HB2.out
  cases z2
  · clear x0 x1 x2 x3 x4
    have HDX := Lib.hid (show D = 21 by rw [← HD.out]; rw [aloneC_in K.out]; simp [Z1.out, Z2.out])
    go_wp2_with fail
    go_ret
    exact ⟨by rw [HDX.out]; rfl, HB0.out.trans (HB2.out.mono HB0.out.size)⟩
  have hc := isText_any v w2 _ (HV.out.blw (HB0.out.trans (HB2.out.mono HB0.out.size))) (HT.out.below (HB0.out.trans (HB2.out.mono HB0.out.size))) HTS.out
  obtain ⟨z3, hz3⟩ : ∃ z, textOk v.kind v.text = z := ⟨_, rfl⟩
  rw [hz3] at hc
  have Z3 := Lib.hid hz3
  clear hz3
  have HC := Lib.hid hc
  clear hc
  go_wp2_with fail
  refine HC.out.mono ?_
  rintro e w3 ⟨rfl, hb3⟩
  have HB3 := Lib.hid (HB2.out.trans (hb3.mono HB2.out.size))
  clear hb3 x0 x1 x2 x3 x4 HC
  obtain ⟨x0, x1, x2, x3, x4⟩ := HX.out w3 HB3.out
  cases z3
  · clear x0 x1 x2 x3 x4
    have HDX := Lib.hid (show D = 22 by rw [← HD.out]; rw [aloneC_in K.out]; simp [Z1.out, Z2.out, Z3.out])
    go_wp2_with fail
    go_ret
    exact ⟨by rw [HDX.out]; rfl, HB0.out.trans (HB3.out.mono HB0.out.size)⟩
  have ZZ := Lib.hid (And.intro K.out (And.intro Z1.out (And.intro Z2.out Z3.out)))
  by_cases m22 : v.kind = 22
  · have t22 : (v.kind == 22) = true := by simpa using m22
    have t23 : (v.kind == 23) = false := by simp [m22]
    have t24 : (v.kind == 24) = false := by simp [m22]
    have M := Lib.hid m22
    clear m22
    have hc := isMap_any v w3 _ (HV.out.blw (HB0.out.trans (HB3.out.mono HB0.out.size)))
    obtain ⟨z4, hz4⟩ : ∃ z, mapOk v.list = z := ⟨_, rfl⟩
    rw [hz4] at hc
    have Z4 := Lib.hid hz4
    clear hz4
    have HC := Lib.hid hc
    clear hc
    go_wp2_with fail
    refine HC.out.mono ?_
    rintro e w4 ⟨rfl, hb4⟩
    have HB4 := Lib.hid (HB3.out.trans (hb4.mono HB3.out.size))
    clear hb4 x0 x1 x2 x3 x4 HC
    obtain ⟨x0, x1, x2, x3, x4⟩ := HX.out w4 HB4.out
    cases z4
    · clear x1 x2 x3 x4
      have HDX := Lib.hid (show D = 23 by rw [← HD.out]; rw [aloneC_in3 ZZ.out]; simp [M.out, Z4.out])
      go_wp2_with fail
      go_ret
      exact ⟨by rw [HDX.out]; rfl, HB0.out.trans (HB4.out.mono HB0.out.size)⟩
    · clear x1 x2 x3 x4
      have HDX := Lib.hid (show D = 0 by rw [← HD.out]; rw [aloneC_in3 ZZ.out]; simp [M.out, Z4.out])
      go_wp2_with fail
      go_ret
      exact ⟨by rw [HDX.out]; rfl, HB0.out.trans (HB4.out.mono HB0.out.size)⟩
  have t22 : (v.kind == 22) = false := by simpa using m22
  have M := Lib.hid m22
  clear m22
  by_cases m23 : v.kind = 23
  · have t23 : (v.kind == 23) = true := by simpa using m23
    have t24 : (v.kind == 24) = false := by simp [m23]
    have M2 := Lib.hid m23
    clear m23
    have hc := isArray_any v w3 _ (HV.out.blw (HB0.out.trans (HB3.out.mono HB0.out.size)))
    obtain ⟨z4, hz4⟩ : ∃ z, arrOk v = z := ⟨_, rfl⟩
    rw [hz4] at hc
    have Z4 := Lib.hid hz4
    clear hz4
    have HC := Lib.hid hc
    clear hc
    go_wp2_with fail
    refine HC.out.mono ?_
    rintro e w4 ⟨rfl, hb4⟩
    have HB4 := Lib.hid (HB3.out.trans (hb4.mono HB3.out.size))
    clear hb4 x0 x1 x2 x3 x4 HC
    obtain ⟨x0, x1, x2, x3, x4⟩ := HX.out w4 HB4.out
    cases z4
    · clear x1 x2 x3 x4
      have HDX := Lib.hid (show D = 24 by rw [← HD.out]; rw [aloneC_in3 ZZ.out]; simp [M2.out, Z4.out])
      go_wp2_with fail
      go_ret
      exact ⟨by rw [HDX.out]; rfl, HB0.out.trans (HB4.out.mono HB0.out.size)⟩
    · clear x1 x2 x3 x4
      have HDX := Lib.hid (show D = 0 by rw [← HD.out]; rw [aloneC_in3 ZZ.out]; simp [M2.out, Z4.out])
      go_wp2_with fail
      go_ret
      exact ⟨by rw [HDX.out]; rfl, HB0.out.trans (HB4.out.mono HB0.out.size)⟩
  have t23 : (v.kind == 23) = false := by simpa using m23
  have M2 := Lib.hid m23
  clear m23
  by_cases m24 : v.kind = 24
  · have t24 : (v.kind == 24) = true := by simpa using m24
    have M3 := Lib.hid m24
    clear m24
    by_cases q : N = 2
    · have qn : ((N : Int) != 2) = false := by simp [q]
      have Q := Lib.hid q
      clear q
      clear x1 x2 x4
      have HDX := Lib.hid (show D = 0 by rw [← HD.out]; rw [aloneC_in3 ZZ.out]; simp [M3.out, HN.out, Q.out])
      go_wp2_with fail
      go_ret
      exact ⟨by rw [HDX.out]; rfl, HB0.out.trans (HB3.out.mono HB0.out.size)⟩
    · have qn : ((N : Int) != 2) = true := by simp; omega
      have Q := Lib.hid q
      clear q
      clear x1 x2 x4
      have HDX := Lib.hid (show D = 27 by rw [← HD.out]; rw [aloneC_in3 ZZ.out]; simp [M3.out, HN.out, Q.out])
      go_wp2_with fail
      go_ret
      exact ⟨by rw [HDX.out]; rfl, HB0.out.trans (HB3.out.mono HB0.out.size)⟩
  have t24 : (v.kind == 24) = false := by simpa using m24
  have M3 := Lib.hid m24
  clear m24 x1 x2 x4
  have HDX := Lib.hid (show D = 0 by rw [← HD.out]; rw [aloneC_in3 ZZ.out]; simp [M.out, M2.out, M3.out])
  go_wp2_with fail
  go_ret
  exact ⟨by rw [HDX.out]; rfl, HB0.out.trans (HB3.out.mono HB0.out.size)⟩


attribute [local go_sem] Oper.semAt_some

theorem calls_of_wp_marks {P : Program} {f : FuncId} {fn : Func} {c : Code} {args : Array Value} {w : World} {R : Ending → World → Prop}
    (hf : P.funcs[f]? = some fn) (hb : fn.body = some c)
    (h : c.wp P (bodyPostM Fence.wide 5 P fn R) { tmps := args ++ Array.replicate (fn.ntmps - args.size) undef, defers := [] } w) : Calls P f args w R :=
  (callsIn_wide (n := 5)).1 (callsIn_of_wp_marks hf hb trivial ((wpIn_wide (n := 5)).2 h))
theorem Tabs.rd {w W : World} (h : Tabs w) (hr : Rd w W) : Tabs W := by
  obtain ⟨h1, h2⟩ := h
  exact ⟨fun c hc => hr _ _ _ (h1 c hc), fun i hi => ⟨hr _ _ _ (h2 i hi).1, hr _ _ _ (h2 i hi).2⟩⟩
structure InBody (lp : Nat) (W Wb : World) : Prop where
  rest : ∀ j, j < W.heap.size → j ≠ lp → Wb.heap[j]? = W.heap[j]?
  size : W.heap.size ≤ Wb.heap.size
  os : Wb.os = W.os
  tape : Wb.tape = W.tape
  output : Wb.output = W.output
theorem inBody_of {lp : Nat} {W Wa Wb : World} (hg : Below W.heap.size W Wa) (ht : Turn lp Wa Wb) : InBody lp W Wb :=
  ⟨fun j h1 h2 => (ht.1.block j (Nat.lt_of_lt_of_le h1 hg.size) (fun h => h2 (Option.some.inj h))).trans (hg.block j h1), Nat.le_trans hg.size ht.1.size, ht.1.os.trans hg.os, ht.1.tape.trans hg.tape, ht.1.output.trans hg.output⟩
theorem InBody.rd {lp : Nat} {W Wb : World} (h : InBody lp W Wb) (hl : ∃ o, W.heap[lp]? = some o ∧ o.isCells = false) : Rd W Wb := by
  obtain ⟨ol, hl, hlc⟩ := hl
  intro b' i' u' hc
  refine (World.cell?_of_block (h.rest b' (World.block_lt_of_cell? W _ hc) ?_)).trans hc
  rintro rfl
  rw [World.cell?, hl] at hc
  cases ol <;> simp [Obj.isCells] at hlc <;> simp at hc
theorem InBody.keepR {lp : Nat} {W Wb w1 : World} (h : InBody lp W Wb) (hb : Below Wb.heap.size Wb w1) (O : Nat → Prop) : KeepR lp O W O w1 :=
  ⟨hb.os.trans h.os, hb.tape.trans h.tape, hb.output.trans h.output, Nat.le_trans h.size hb.size, fun j h1 h2 h3 => (hb.block j (Nat.lt_of_lt_of_le h1 h.size)).trans (h.rest j h1 h3), fun j hj => .inl hj⟩
theorem InBody.below {lp : Nat} {wE W Wb : World} (h : InBody lp W Wb) (hb : Below wE.heap.size wE W) (hlp : wE.heap.size ≤ lp) : Below wE.heap.size wE Wb :=
  ⟨h.os.trans hb.os, h.tape.trans hb.tape, h.output.trans hb.output, Nat.le_trans hb.size h.size, fun j hj => (h.rest j (Nat.lt_of_lt_of_le hj hb.size) (by omega)).trans (hb.block j hj)⟩
def rfOf : Code → Option (Code × Code)
  | .seq a b => match rfOf a with | some r => some r | none => rfOf b
  | .cond _ a b => match rfOf a with | some r => some r | none => rfOf b
  | .block _ c => rfOf c
  | .loop c => rfOf c
  | .scope c => rfOf c
  | .rangeFunc _ _ a b => some (a, b)
  | _ => none

def MidC (tm : Array Value) (W : World) (x : V) (t : Value) (e : Exit) (a : Act) (Wa : World) : Prop :=
  e = .normal ∧ a = { tmps := tm, defers := [] } ∧ Below W.heap.size W Wa ∧ Wa.heap[W.heap.size]? = some (.cells #[.int .i64 x.kind, .int .u64 x.num, .string x.text, t, .int .i64 x.elem] 25 (0, 0))

noncomputable def firstBad : List (Int × V) → Int
  | [] => 0
  | (d, x) :: r => if aloneC x d = 0 then firstBad r else aloneC x d

def CkI (wE : World) (r : Nat) (L : List (Int × V)) (k : Nat) (O : Nat → Prop) (W : World) : Prop :=
  (O = fun j => j = r) ∧ Below wE.heap.size wE W ∧ W.heap[r]? = some (.cells #[.int .i64 0] 29 (0, 0)) ∧ wE.heap.size ≤ r ∧ firstBad L = firstBad (L.drop k)
def CkX (wE : World) (r : Nat) (L : List (Int × V)) (c : Code) (O : Nat → Prop) (W : World) : Prop :=
  c = .ret ∧ (O = fun j => j = r) ∧ Below wE.heap.size wE W ∧ W.heap[r]? = some (.cells #[.int .i64 (firstBad L)] 29 (0, 0)) ∧ wE.heap.size ≤ r

set_option maxRecDepth 20000 in
set_option maxHeartbeats 4000000 in
theorem round_check {D lp : Nat} (K : LoopBook D lp) (wE W : World) (r : Nat) (L : List (Int × V)) (k : Nat) (d : Int) (x : V) (t v0 v1 v6 v7 : Value) (asg bdy : Code) (hrf : (Tryz.f33.body.bind rfOf) = some (asg, bdy))
    (hrd : K.rdy W) (hI : CkI wE r L k (fun j => j = r) W) (hL : L[k]? = some (d, x)) (hx : VIn W x t) (hT : Tabs W) (hts : x.text.size ≤ 9223372036854775800) (hDz : D + 2 ≤ W.heap.size) (hlp : lp = D + 1) (hrD : r < D) :
    RoundOf Tryz.prog K #[v0, v1, .pointer (some ⟨r, 0, none⟩), undef, undef, undef, v6, v7, undef, undef, undef, undef, undef, undef, undef, undef] #[8, 9] asg bdy #[.int .i64 d, .agg #[.int .i64 x.kind, .int .u64 x.num, .string x.text, t, .int .i64 x.elem]] W
      (fun W3 => ∃ O2, CkI wE r L (k + 1) O2 W3 ∧ KeepR lp (fun j => j = r) W O2 W3) (fun c W3 => ∃ O2, CkX wE r L c O2 W3 ∧ KeepR lp (fun j => j = r) W O2 W3) := by
  simp only [Tryz.f33, Option.bind_some, rfOf, Option.some.injEq, Prod.mk.injEq] at hrf
  obtain ⟨rfl, rfl⟩ := hrf
  unfold RoundOf
  obtain ⟨p, c, hs, _⟩ := hx.slice
  subst hs
  obtain ⟨N, hN⟩ : ∃ N, x.list.length = N := ⟨_, rfl⟩
  rw [hN] at hx ⊢
  have HI := Lib.hid hI
  have HX := Lib.hid hx
  clear hI hx hN
  refine wpIn_mono (Q := MidC #[v0, v1, .pointer (some ⟨r, 0, none⟩), .int .i64 d, .pointer (some ⟨W.heap.size, 0, none⟩), undef, v6, v7, .int .i64 d, .agg #[.int .i64 x.kind, .int .u64 x.num, .string x.text, (.slice p N c), .int .i64 x.elem], undef, undef, undef, undef, undef, undef] W x (.slice p N c)) ?_ ?_
  · gi_wp2
    exact ⟨rfl, rfl, (Below.refl _ _).alloc (Nat.le_refl _) _, _root_.Go.heap_alloc_new _ _⟩
  · rintro e a' Wa ⟨rfl, rfl, hg, hi⟩
    obtain ⟨⟨oD, hD, hDc⟩, ⟨ol, hl, hlc⟩⟩ := K.rdyN W hrd
    have hDlt := (Array.getElem?_eq_some_iff.1 hD).1
    have hllt := (Array.getElem?_eq_some_iff.1 hl).1
    refine ⟨K.keepR W Wa hrd (hg.block D hDlt) (hg.block lp hllt), ?_⟩
    intro Wb ht hb
    have hib : Wb.heap[W.heap.size]? = some (.cells #[.int .i64 x.kind, .int .u64 x.num, .string x.text, (.slice p N c), .int .i64 x.elem] 25 (0, 0)) :=
      (ht.1.block W.heap.size (Array.getElem?_eq_some_iff.1 hi).1 (fun h => by have := Option.some.inj h; omega)).trans hi
    have hib2 := inBody_of hg ht
    have hrdW := hib2.rd ⟨ol, hl, hlc⟩
    obtain ⟨hO, hB, hr0, hrE, hfb⟩ := HI.out
    have hrW := (Array.getElem?_eq_some_iff.1 hr0).1
    have hrl : r ≠ lp := by omega
    have hrb := (hib2.rest r hrW hrl).trans hr0
    have HL := Lib.hid (And.intro hL hfb)
    have HBE := Lib.hid (hib2.below hB (by omega))
    have HIB := Lib.hid hib2
    have hc := alone_any x d Wb _ (HX.out.rd hrdW) (hT.rd hrdW) hts
    obtain ⟨z, hz⟩ : ∃ z, aloneC x d = z := ⟨_, rfl⟩
    rw [hz] at hc
    have HZ := Lib.hid hz
    have HKB := Lib.hid hb
    have HDL := Lib.hid (And.intro (Nat.lt_of_lt_of_le hDlt hib2.size) (Nat.lt_of_lt_of_le hllt hib2.size))
    have HRB := Lib.hid (And.intro hrb (And.intro hrE hrD))
    have v0' : Wb.cell? ⟨W.heap.size, 0, none⟩ = some (.int .i64 x.kind) := (cell_of_row _ _ 0 _ _ _ hib).trans rfl
    have v1' : Wb.cell? ⟨W.heap.size, 1, none⟩ = some (.int .u64 x.num) := (cell_of_row _ _ 1 _ _ _ hib).trans rfl
    have v2' : Wb.cell? ⟨W.heap.size, 2, none⟩ = some (.string x.text) := (cell_of_row _ _ 2 _ _ _ hib).trans rfl
    have v3' : Wb.cell? ⟨W.heap.size, 3, none⟩ = some (.slice p N c) := (cell_of_row _ _ 3 _ _ _ hib).trans rfl
    have v4' : Wb.cell? ⟨W.heap.size, 4, none⟩ = some (.int .i64 x.elem) := (cell_of_row _ _ 4 _ _ _ hib).trans rfl
    obtain ⟨y, hy⟩ : ∃ y, W.heap.size = y := ⟨_, rfl⟩
    rw [hy] at v0' v1' v2' v3' v4' ⊢
    clear hz hL hB hfb hrdW hb hD hl hDc hlc hDlt hllt hrb hrE hrW hrl hib hi hg ht hr0 hO hrd hT hts hDz hrD hy hib2
    gi_wp2
    refine ⟨trivial, (CallsIn.inRound lp (callsIn_wide.2 hc)).mono ?_⟩
    clear hc v0' v1' v2' v3' v4'
    rintro e w1 ⟨rfl, hb1⟩
    have hr1 := (hb1.block r (Array.getElem?_eq_some_iff.1 HRB.out.1).1).trans HRB.out.1
    have HF := Lib.hid (And.intro (K.keepB Wb w1 HKB.out (hb1.block D HDL.out.1) (hb1.block lp HDL.out.2)) (And.intro (HIB.out.keepR hb1 (fun j => j = r)) (And.intro (HBE.out.trans (hb1.mono HBE.out.size)) hr1)))
    clear hb1
    by_cases hz0 : z = 0
    · have hzt : (z != 0) = false := by simpa using hz0
      have HZ0 := Lib.hid hz0
      clear hr1 hz0
      gi_wp2
      obtain ⟨f1, f2, f3, f4⟩ := HF.out
      refine ⟨f1, _, ⟨rfl, f3, f4, HRB.out.2.1, ?_⟩, f2⟩
      rw [HL.out.2, List.drop_eq_getElem_cons (List.getElem?_eq_some_iff.1 HL.out.1).1, (List.getElem?_eq_some_iff.1 HL.out.1).2, firstBad, if_pos (by rw [HZ.out]; exact HZ0.out)]
    · have hzt : (z != 0) = true := by simpa using hz0
      have c1 : w1.cell? ⟨r, 0, none⟩ = some (.int .i64 0) := (cell_of_row _ _ 0 _ _ _ hr1).trans rfl
      have f1 : w1.frozen? ⟨r, 0, none⟩ = false := by simp [World.frozen?, hr1]
      have HZ0 := Lib.hid hz0
      clear hr1 hz0
      gi_wp2
      obtain ⟨f1, f2, f3, f4⟩ := HF.out
      have hrD := HRB.out.2.2
      have s4 : (w1.setCell ⟨r, 0, none⟩ (.int .i64 z)).heap[r]? = some (.cells #[.int .i64 z] 29 (0, 0)) := heap_setCell_same w1 r 0 _ _ (.int .i64 z) f4
      have hfar : ∀ j, j ≠ r → (w1.setCell ⟨r, 0, none⟩ (.int .i64 z)).heap[j]? = w1.heap[j]? := fun j hj => set_farV hj
      have hsz : (w1.setCell ⟨r, 0, none⟩ (.int .i64 z)).heap.size = w1.heap.size := by simp
      have hfz : firstBad L = z := by
        rw [HL.out.2, List.drop_eq_getElem_cons (List.getElem?_eq_some_iff.1 HL.out.1).1, (List.getElem?_eq_some_iff.1 HL.out.1).2, firstBad, if_neg (by rw [HZ.out]; exact HZ0.out), HZ.out]
      refine ⟨K.keepB _ _ f1 (hfar D (by omega)) (hfar lp (by omega)), fun j => j = r, ⟨rfl, rfl, f3.setCell (p := ⟨r, 0, none⟩) HRB.out.2.1 _, by rw [hfz]; exact s4, HRB.out.2.1⟩, ⟨f2.os, f2.tape, f2.output, by rw [hsz]; exact f2.size, fun j h1 h2 h3 => (hfar j h2).trans (f2.block j h1 h2 h3), f2.own⟩⟩

theorem pre_wt : ∀ (v : V) (d : Int) (p : Int × V), p ∈ v.pre d → p.2.wt ≤ v.wt := by
  refine V.ind (fun v ih d p hp => ?_)
  rw [V.pre_eq] at hp
  rcases List.mem_cons.1 hp with rfl | hp
  · exact Nat.le_refl _
  · have key : ∀ (l : List V), (∀ x ∈ l, ∀ d p, p ∈ x.pre d → p.2.wt ≤ x.wt) → ∀ d, p ∈ pres l d → p.2.wt ≤ wts l := by
      intro l
      induction l with
      | nil => intro _ d hp; simp [pres] at hp
      | cons a r ihl =>
        intro h d hp
        rw [pres, List.mem_append] at hp
        rw [wts]
        rcases hp with hp | hp
        · have := h a (List.mem_cons_self ..) d p hp; omega
        · have := ihl (fun x hx => h x (List.mem_cons_of_mem _ hx)) d hp; omega
    have := key v.list ih _ hp
    rw [v.wt_eq]
    omega
theorem each_any (v : V) (s : Value) (W : World) (p : Option Addr) (n c : Nat) (hs : s = .slice p n c) :
    Calls Tryz.prog 48 #[.agg #[.int .i64 v.kind, .int .u64 v.num, .string v.text, s, .int .i64 v.elem]] W fun e w' => e = .returned (.func (.func 68) #[] #[.pointer (some ⟨W.heap.size, 0, none⟩)]) ∧ w' = W.alloc (.cells #[.int .i64 v.kind, .int .u64 v.num, .string v.text, s, .int .i64 v.elem] 25) := by
  subst hs
  have hmf : ∀ (fn : Fn) (first cap : Array Value) (w : World), (Instr.makeFunc fn first cap).run Tryz.prog w = .ok (.func fn first cap) w := fun _ _ _ _ => rfl
  go_enter Tryz.func48, Tryz.ntmps48
  go_wp2_with fail
  go_ret
  exact ⟨rfl, rfl⟩

theorem below_putObj {B D : Nat} {w W : World} (h : Below B w W) (hD : B ≤ D) (o : Obj) : Below B w (W.putObj D o) :=
  ⟨h.os, h.tape, h.output, by have := h.size; simpa [World.putObj] using this, fun j hj => (World.putObj_heap_other (by omega)).trans (h.block j hj)⟩
theorem leaves_one {P : Program} {fn : Func} {tm : Array Value} {R : Ending → World → Prop} {D : Nat} {W : World} {u : Value} (hD : W.heap[D]? = some (.deferred (some [])))
    (hr : (results fn tm).run P (W.putObj D (.deferred none)) = .ok u (W.putObj D (.deferred none))) (h : R (.returned u) (W.putObj D (.deferred none))) :
    LeavesInM Fence.wide 5 P fn tm R [{ target := .collected D, args := #[] }] .returning W :=
  ⟨by simp, .inl ⟨D, _, rfl, run_takeDeferred hD, ⟨u, hr, h⟩⟩⟩

set_option maxRecDepth 20000 in
set_option maxHeartbeats 4000000 in
theorem check_any (v : V) (w : World) (s : Value) (h : VIn w v s) (hT : Tabs w) (hwt : v.wt ≤ 2000000) :
    Calls Tryz.prog 33 #[.agg #[.int .i64 v.kind, .int .u64 v.num, .string v.text, s, .int .i64 v.elem]] w fun e w' => e = .returned (.int .i64 (firstBad (v.pre 1))) ∧ Below w.heap.size w w' := by
  obtain ⟨p, c, hs, h1, h2, h3⟩ := h.slice
  obtain ⟨N, hN⟩ : ∃ N, v.list.length = N := ⟨_, rfl⟩
  rw [hN] at hs h1 h3
  subst hs
  unfold maxLen at h2
  have HV := Lib.hid h
  have HN := Lib.hid hN
  have HT := Lib.hid hT
  have HW := Lib.hid hwt
  clear h hN hT hwt
  refine calls_of_wp_marks Tryz.func33 rfl ?_
  simp only [Tryz.ntmps33, List.size_toArray, List.length_cons, List.length_nil, Nat.reduceAdd, Nat.reduceSub, Array.replicate_succ, Array.replicate_zero, List.push_toArray, List.append_toArray, List.nil_append, List.cons_append]
  go_upto_region 1 with fail
  have hb0 : Below w.heap.size w ((w.alloc (.cells #[.int .i64 v.kind, .int .u64 v.num, .string v.text, (.slice p N c), .int .i64 v.elem] 25)).alloc (.cells #[.int .i64 0] 29)) := ((Below.refl _ _).alloc (Nat.le_refl _) _).alloc (by simp) _
  have ox : ((w.alloc (.cells #[.int .i64 v.kind, .int .u64 v.num, .string v.text, (.slice p N c), .int .i64 v.elem] 25)).alloc (.cells #[.int .i64 0] 29)).heap[w.heap.size]? = some (.cells #[.int .i64 v.kind, .int .u64 v.num, .string v.text, (.slice p N c), .int .i64 v.elem] 25 (0, 0)) := (_root_.Go.heap_alloc_old _ _ (by simp)).trans (_root_.Go.heap_alloc_new _ _)
  have oy : ((w.alloc (.cells #[.int .i64 v.kind, .int .u64 v.num, .string v.text, (.slice p N c), .int .i64 v.elem] 25)).alloc (.cells #[.int .i64 0] 29)).heap[w.heap.size + 1]? = some (.cells #[.int .i64 0] 29 (0, 0)) := by have := _root_.Go.heap_alloc_new (w.alloc (.cells #[.int .i64 v.kind, .int .u64 v.num, .string v.text, (.slice p N c), .int .i64 v.elem] 25)) (.cells #[.int .i64 0] 29); rwa [World.size_alloc] at this
  generalize ((w.alloc (.cells #[.int .i64 v.kind, .int .u64 v.num, .string v.text, (.slice p N c), .int .i64 v.elem] 25)).alloc (.cells #[.int .i64 0] 29)) = w0 at *
  obtain ⟨x, hx⟩ : ∃ x, w.heap.size = x := ⟨_, rfl⟩
  rw [hx] at ox oy ⊢
  obtain ⟨r, hr⟩ : ∃ r, x + 1 = r := ⟨_, rfl⟩
  rw [hr] at oy ⊢
  have x0 : w0.cell? ⟨x, 0, none⟩ = some (.int .i64 v.kind) := (cell_of_row _ _ 0 _ _ _ ox).trans rfl
  have x1 : w0.cell? ⟨x, 1, none⟩ = some (.int .u64 v.num) := (cell_of_row _ _ 1 _ _ _ ox).trans rfl
  have x2 : w0.cell? ⟨x, 2, none⟩ = some (.string v.text) := (cell_of_row _ _ 2 _ _ _ ox).trans rfl
  have x3 : w0.cell? ⟨x, 3, none⟩ = some (.slice p N c) := (cell_of_row _ _ 3 _ _ _ ox).trans rfl
  have x4 : w0.cell? ⟨x, 4, none⟩ = some (.int .i64 v.elem) := (cell_of_row _ _ 4 _ _ _ ox).trans rfl
  have HB0 := Lib.hid hb0
  have HX := Lib.hid (show w.heap.size ≤ r by omega)
  have HOY := Lib.hid oy
  clear hb0 ox oy hx hr
  have hc := each_any v _ w0 p N c rfl
  go_wp2_with fail
  refine hc.mono ?_
  clear hc x0 x1 x2 x3 x4
  rintro e w1 ⟨rfl, rfl⟩
  have hb1 : Below w.heap.size w (w0.alloc (.cells #[.int .i64 v.kind, .int .u64 v.num, .string v.text, (.slice p N c), .int .i64 v.elem] 25)) := HB0.out.alloc HB0.out.size _
  have oy1 : (w0.alloc (.cells #[.int .i64 v.kind, .int .u64 v.num, .string v.text, (.slice p N c), .int .i64 v.elem] 25)).heap[r]? = _ := (_root_.Go.heap_alloc_old w0 (.cells #[.int .i64 v.kind, .int .u64 v.num, .string v.text, (.slice p N c), .int .i64 v.elem] 25) (Array.getElem?_eq_some_iff.1 HOY.out).1).trans HOY.out
  have oy2 := _root_.Go.heap_alloc_new w0 (.cells #[.int .i64 v.kind, .int .u64 v.num, .string v.text, (.slice p N c), .int .i64 v.elem] 25)
  have hrl := (Array.getElem?_eq_some_iff.1 oy1).1
  generalize w0.alloc (.cells #[.int .i64 v.kind, .int .u64 v.num, .string v.text, (.slice p N c), .int .i64 v.elem] 25) = w1 at *
  obtain ⟨y, hy⟩ : ∃ y, w0.heap.size = y := ⟨_, rfl⟩
  rw [hy] at oy2 ⊢
  have HB1 := Lib.hid hb1
  have HO1 := Lib.hid (And.intro oy1 (And.intro oy2 hrl))
  clear hb1 oy1 oy2 hrl hy
  go_wp2_with fail
  refine wp_range_each (wv := w) (v := v) (s := .slice p N c) (y := y) rfl rfl HO1.out.2.1 HV.out (by have := HW.out; omega) (CkI w r (v.pre 1)) (CkX w r (v.pre 1)) (fun j => j = r) ?_ ?_ ?_ ?_ ?_ ?_ ?_ ?_
  · rintro k O W ⟨_, hB, _⟩
    exact rd_below hB
  · rintro k O W ⟨rfl, hB, hc, _⟩ j hj
    have : j = r := hj
    rw [this]
    exact (Array.getElem?_eq_some_iff.1 hc).1
  · rintro k O W W' d ⟨rfl, hB, hc, h1, h2⟩ hg hd hO
    have := HB1.out.size
    exact ⟨rfl, ⟨hg.os.trans hB.os, hg.tape.trans hB.tape, hg.output.trans hB.output, Nat.le_trans hB.size hg.size, fun j hj => (hg.block j (Nat.lt_of_lt_of_le hj hB.size) (fun e => by have := Option.some.inj e; omega)).trans (hB.block j hj)⟩,
      (hg.block r (Array.getElem?_eq_some_iff.1 hc).1 (fun e => hO (Option.some.inj e).symm)).trans hc, h1, h2⟩
  · rintro cc O W W' d ⟨rfl, rfl, hB, hc, h1⟩ hg hd hO
    have := HB1.out.size
    exact ⟨rfl, rfl, ⟨hg.os.trans hB.os, hg.tape.trans hB.tape, hg.output.trans hB.output, Nat.le_trans hB.size hg.size, fun j hj => (hg.block j (Nat.lt_of_lt_of_le hj hB.size) (fun e => by have := Option.some.inj e; omega)).trans (hB.block j hj)⟩,
      (hg.block r (Array.getElem?_eq_some_iff.1 hc).1 (fun e => hO (Option.some.inj e).symm)).trans hc, h1⟩
  · exact ⟨rfl, HB1.out, HO1.out.1, HX.out, by rw [List.drop_zero]⟩
  · intro K k O d z t W hrd hI n1 n2 hz hL hzin
    obtain ⟨rfl, hI2⟩ := hI
    have hI : CkI w r (v.pre 1) k (fun j => j = r) W := ⟨rfl, hI2⟩
    have hzt := pre_wt v 1 (d, z) (List.mem_of_getElem? hL)
    have hzw := z.text_le
    refine round_check K w W r (v.pre 1) k d z t _ _ _ _ _ _ (by kernel_rfl) hrd hI hL hzin (HT.out.below hI2.1) ?_ hz rfl HO1.out.2.2
    have := HW.out
    simp only at hzt
    omega
  · rintro O W ⟨rfl, hB, hc, hw1, hf⟩ hD hO
    have c0 : W.cell? ⟨r, 0, none⟩ = some (.int .i64 0) := (cell_of_row _ _ 0 _ _ _ hc).trans rfl
    have f0 : W.frozen? ⟨r, 0, none⟩ = false := by simp [World.frozen?, hc]
    have hO2 : w1.heap.size ≠ r := hO
    have H := Lib.hid (And.intro hB (And.intro hc (And.intro hw1 (And.intro hf (And.intro hD hO2)))))
    clear hB hc hw1 hf hD hO hO2
    simp only [Exit.inBlock, Exit.then]
    go_at_K
    go_wp2_with fail
    obtain ⟨hB, hc, hw1, hf, hD, hO2⟩ := H.out
    have s4 : (W.setCell ⟨r, 0, none⟩ (.int .i64 0)).heap[r]? = some (.cells #[.int .i64 0] 29 (0, 0)) := heap_setCell_same W r 0 _ _ (.int .i64 0) hc
    have hD4 := (set_farV (w := W) (i := 0) (v := .int .i64 0) hO2).trans hD
    have hB4 := hB.setCell (p := ⟨r, 0, none⟩) hw1 (.int .i64 0)
    rw [List.drop_length, firstBad] at hf
    have s5 := (World.putObj_heap_other (w := W.setCell ⟨r, 0, none⟩ (.int .i64 0)) (o := .deferred none) hO2.symm).trans s4
    have k0 := (cell_of_row _ _ 0 _ _ _ s5).trans rfl
    refine leaves_one (u := .int .i64 0) hD4 (by simp [results, Tryz.f33, go_sem, k0]) ⟨by rw [hf], below_putObj hB4 HB1.out.size _⟩
  · rintro cc O W ⟨rfl, rfl, hB, hc, hw1⟩ hD hO
    have hO2 : w1.heap.size ≠ r := hO
    refine (wpIn_wide (n := 5)).1 (wpIn_ret ?_)
    have s5 := (World.putObj_heap_other (w := W) (o := .deferred none) hO2.symm).trans hc
    have k0 := (cell_of_row _ _ 0 _ _ _ s5).trans rfl
    refine leaves_one (u := .int .i64 _) hD (by simp [results, Tryz.f33, go_sem, k0]) ⟨rfl, below_putObj hB HB1.out.size _⟩



attribute [local go_sem] Oper.semAt_some

section
end


attribute [local go_sem] Oper.semAt_some

noncomputable def only (w : World) (F : Nat → Prop) : World := by
  classical
  exact { w with heap := w.heap.mapIdx fun i o => if F i then o else .deferred none }
theorem only_heap {w : World} {F : Nat → Prop} {b : Nat} (h : F b) : (only w F).heap[b]? = w.heap[b]? := by
  simp only [only, Array.getElem?_mapIdx]
  cases w.heap[b]? <;> simp [h]
theorem only_rd {w W : World} {F : Nat → Prop} (h : ∀ j, F j → W.heap[j]? = w.heap[j]?) : Rd (only w F) W := by
  intro b i u hc
  by_cases hb : F b
  · rw [World.cell?_of_block (only_heap hb)] at hc
    exact (World.cell?_of_block (h b hb)).trans hc
  · exfalso
    rw [World.cell?] at hc
    simp only [only, Array.getElem?_mapIdx] at hc
    cases h2 : w.heap[b]? <;> simp [h2, hb] at hc
theorem VO.only {w : World} {B : Nat} {v : V} {s : Value} {F : Nat → Prop} (h : VO w B v s F) : VIn (only w F) v s := (h.keep (w' := Proofs.YtnnnfhobbnjmfaaGreatDoor.only w F) (fun b hb => only_heap hb)).vin

structure RidesA (n0 l : Nat) (wA : World) (F0 : Nat → Prop) (L : List (Int × V)) (J : Nat → (Nat → Prop) → World → Prop) (Jx : (Nat → Prop) → World → Prop) : Prop where
  reads : ∀ k O W, J k O W → ∀ j, F0 j → W.heap[j]? = wA.heap[j]?
  fresh : ∀ k O W, J k O W → ∀ j, O j → j < W.heap.size
  turn : ∀ k O W W' d, J k O W → W.grownBy W' (some d) → n0 ≤ d → ¬ O d → J k O W'
  turnX : ∀ O W W' d, Jx O W → W.grownBy W' (some d) → n0 ≤ d → ¬ O d → Jx O W'
  yields : ∀ k O W W' d x t F, J k O W → L[k]? = some (d, x) → Below W.heap.size W W' → VO W' W.heap.size x t F → YieldAt Fence.wide 3 Tryz.prog l #[.int .i64 d, .agg #[.int .i64 x.kind, .int .u64 x.num, .string x.text, t, .int .i64 x.elem]] W' fun e W2 =>
    (e = .returned (.bool true) ∧ ∃ O2, J (k + 1) O2 W2 ∧ KeepW (fun j => O j ∨ F j) W' O2 W2) ∨ (e = .returned (.bool false) ∧ ∃ O2, Jx O2 W2 ∧ KeepW (fun j => O j ∨ F j) W' O2 W2)



attribute [local go_sem] Oper.semAt_some

def foldD (g : Int → Int → Int) : Int → List (Int × V) → Int
  | m, [] => m
  | m, (d, _) :: r => foldD g (g m d) r
def CellI (wE : World) (r : Nat) (g : Int → Int → Int) (P : Int → Prop) (L : List (Int × V)) (k : Nat) (O : Nat → Prop) (W : World) : Prop :=
  (O = fun j => j = r) ∧ Below wE.heap.size wE W ∧ wE.heap.size ≤ r ∧ ∃ m : Int, P m ∧ W.heap[r]? = some (.cells #[.int .i64 m] 3 (0, 0)) ∧ foldD g m (L.drop k) = foldD g 0 L
theorem CellI.turn {wE W W' : World} {r d : Nat} {g : Int → Int → Int} {P : Int → Prop} {L : List (Int × V)} {k : Nat} {O : Nat → Prop} (h : CellI wE r g P L k O W) (hg : W.grownBy W' (some d)) (hd : wE.heap.size ≤ d) (hO : ¬ O d) : CellI wE r g P L k O W' := by
  obtain ⟨rfl, hB, h1, m, hm, hc, hf⟩ := h
  exact ⟨rfl, ⟨hg.os.trans hB.os, hg.tape.trans hB.tape, hg.output.trans hB.output, Nat.le_trans hB.size hg.size, fun j hj => (hg.block j (Nat.lt_of_lt_of_le hj hB.size) (fun e => by have := Option.some.inj e; omega)).trans (hB.block j hj)⟩, h1, m, hm,
      (hg.block r (Array.getElem?_eq_some_iff.1 hc).1 (fun e => hO (Option.some.inj e).symm)).trans hc, hf⟩
theorem CellI.fresh {wE W : World} {r : Nat} {g : Int → Int → Int} {P : Int → Prop} {L : List (Int × V)} {k : Nat} {O : Nat → Prop} (h : CellI wE r g P L k O W) : ∀ j, O j → j < W.heap.size := by
  obtain ⟨rfl, hB, h1, m, hm, hc, hf⟩ := h
  intro j hj
  have : j = r := hj
  rw [this]
  exact (Array.getElem?_eq_some_iff.1 hc).1
theorem CellI.next {wE Wb : World} {r k : Nat} {g : Int → Int → Int} {P : Int → Prop} {L : List (Int × V)} {d m : Int} {x : V} (hB : Below wE.heap.size wE Wb) (h1 : wE.heap.size ≤ r) (hc : Wb.heap[r]? = some (.cells #[.int .i64 m] 3 (0, 0))) (hf : foldD g m (L.drop k) = foldD g 0 L) (hL : L[k]? = some (d, x)) (hP : P (g m d)) :
    CellI wE r g P L (k + 1) (fun j => j = r) (Wb.setCell ⟨r, 0, none⟩ (.int .i64 (g m d))) := by
  refine ⟨rfl, hB.setCell (p := ⟨r, 0, none⟩) h1 _, h1, g m d, hP, heap_setCell_same Wb r 0 _ _ _ hc, ?_⟩
  rw [← hf, List.drop_eq_getElem_cons (List.getElem?_eq_some_iff.1 hL).1, (List.getElem?_eq_some_iff.1 hL).2, foldD]


mutual
def V.dep : V → Int
  | .mk _ _ _ l _ => deps l 0 + 1
def deps : List V → Int → Int
  | [], n => n
  | v :: r, n => deps r (max n v.dep)
end
theorem V.dep_eq (v : V) : v.dep = deps v.list 0 + 1 := by cases v; rw [V.dep]; rfl
theorem dep_bd : ∀ v : V, 1 ≤ v.dep ∧ v.dep ≤ v.wt := by
  refine V.ind (fun v ih => ?_)
  have key : ∀ (l : List V), (∀ x ∈ l, 1 ≤ x.dep ∧ x.dep ≤ x.wt) → ∀ n : Int, n ≤ deps l n ∧ deps l n ≤ max n (wts l) := by
    intro l
    induction l with
    | nil => intro _ n; rw [deps]; omega
    | cons a r ihl =>
      intro h n
      obtain ⟨h1, h2⟩ := h a (List.mem_cons_self ..)
      obtain ⟨q1, q2⟩ := ihl (fun x hx => h x (List.mem_cons_of_mem _ hx)) (max n a.dep)
      rw [deps, wts]
      omega
  have h0 := key v.list ih 0
  rw [V.dep_eq, V.wt_eq]
  omega
theorem deps_mono (l : List V) : ∀ n : Int, 0 ≤ n → deps l n = max n (deps l 0) := by
  induction l with
  | nil => intro n hn; rw [deps, deps]; omega
  | cons a r ih =>
    intro n hn
    have h1 := (dep_bd a).1
    rw [deps, deps, ih (max n a.dep) (by omega), ih (max 0 a.dep) (by omega)]
    omega
end Go.Proofs.YtnnnfhobbnjmfaaGreatDoor
