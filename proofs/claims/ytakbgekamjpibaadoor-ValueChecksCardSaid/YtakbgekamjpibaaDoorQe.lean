/-
  The reference's own, check, Check: the first thing amiss. Conditions: the value lies in memory and is no greater than a million.
-/
import Derived.Test.YtakbgekamjpibaaDoorQc
import Derived.Test.YtakbgekamjpibaaDoorQd
import Derived.Test.YtakbgekamjpibaaDoorWg
namespace Go.Proofs.YtakbgekamjpibaaDoor
open Go.RowKit
set_option linter.unusedVariables false

attribute [local go_sem] Oper.semAt_some

set_option maxRecDepth 20000 in
set_option maxHeartbeats 4000000 in
theorem own_ref (v : V) (d : Int) (w : World) (s : Value) (h : VIn w v s) (hts : v.text.size ≤ 9223372036854775800) (hlb : v.list.length ≤ 1000000) :
    Calls Tryd.prog 68 #[.agg #[.int .i64 v.kind, .int .u64 v.num, .string v.text, s, .int .i64 v.elem], .int .i64 d] w fun e w' => e = .returned (.int .i64 (aloneC v d)) ∧ Below w.heap.size w w' := by
  obtain ⟨p, c, hs, h1, h2, h3⟩ := h.slice
  obtain ⟨N, hN⟩ : ∃ N, v.list.length = N := ⟨_, rfl⟩
  have HLB := Lib.hid (And.intro hts hlb)
  rw [hN] at hs h1 h3 hlb
  subst hs
  unfold maxLen at h2
  have HV := Lib.hid h
  have HN := Lib.hid hN
  obtain ⟨b1, hb1⟩ : ∃ b, rextraV v = b := ⟨_, rfl⟩
  obtain ⟨b2, hb2⟩ : ∃ b, numOk v.kind v.num = b := ⟨_, rfl⟩
  obtain ⟨b3, hb3⟩ : ∃ b, textOk v.kind v.text = b := ⟨_, rfl⟩
  have HBB := Lib.hid (And.intro hb1 (And.intro hb2 hb3))
  clear h hN hb1 hb2 hb3 hts
  go_enter Tryd.func68, Tryd.ntmps68
  go_upto_region 1 with fail
  have hb0 : Below w.heap.size w (w.alloc (.cells #[.int .i64 v.kind, .int .u64 v.num, .string v.text, (.slice p N c), .int .i64 v.elem] 25)) := ((Below.refl _ _).alloc (Nat.le_refl _) _)
  have ox : (w.alloc (.cells #[.int .i64 v.kind, .int .u64 v.num, .string v.text, (.slice p N c), .int .i64 v.elem] 25)).heap[w.heap.size]? = some (.cells #[.int .i64 v.kind, .int .u64 v.num, .string v.text, (.slice p N c), .int .i64 v.elem] 25 (0, 0)) := _root_.Go.heap_alloc_new _ _
  generalize (w.alloc (.cells #[.int .i64 v.kind, .int .u64 v.num, .string v.text, (.slice p N c), .int .i64 v.elem] 25)) = w0 at *
  obtain ⟨x, hx⟩ : ∃ x, w.heap.size = x := ⟨_, rfl⟩
  rw [hx] at ox ⊢
  have HB0 := Lib.hid hb0
  have HO := Lib.hid ox
  clear hb0 ox hx
  have hc := rextra_any v w0 _ (HV.out.blw HB0.out)
  rw [HBB.out.1] at hc
  have HC := Lib.hid hc
  clear hc
  have x0 : w0.cell? ⟨x, 0, none⟩ = some (.int .i64 v.kind) := (cell_of_row _ _ 0 _ _ _ HO.out).trans rfl
  have x1 : w0.cell? ⟨x, 1, none⟩ = some (.int .u64 v.num) := (cell_of_row _ _ 1 _ _ _ HO.out).trans rfl
  have x2 : w0.cell? ⟨x, 2, none⟩ = some (.string v.text) := (cell_of_row _ _ 2 _ _ _ HO.out).trans rfl
  have x3 : w0.cell? ⟨x, 3, none⟩ = some (.slice p N c) := (cell_of_row _ _ 3 _ _ _ HO.out).trans rfl
  have x4 : w0.cell? ⟨x, 4, none⟩ = some (.int .i64 v.elem) := (cell_of_row _ _ 4 _ _ _ HO.out).trans rfl
  go_wp2_with fail
  refine HC.out.mono ?_
  clear x0 x1 x2 x3 x4
  rintro e w1 ⟨rfl, hb1⟩
  have HB1 := Lib.hid hb1
  have ox1 := (hb1.block x (Array.getElem?_eq_some_iff.1 HO.out).1).trans HO.out
  have hc := number_any v w1 _ (HV.out.blw (HB0.out.trans (hb1.mono HB0.out.size)))
  rw [HBB.out.2.1] at hc
  have HC1 := Lib.hid hc
  clear hc hb1
  have x0 : w1.cell? ⟨x, 0, none⟩ = some (.int .i64 v.kind) := (cell_of_row _ _ 0 _ _ _ ox1).trans rfl
  have x1 : w1.cell? ⟨x, 1, none⟩ = some (.int .u64 v.num) := (cell_of_row _ _ 1 _ _ _ ox1).trans rfl
  have x2 : w1.cell? ⟨x, 2, none⟩ = some (.string v.text) := (cell_of_row _ _ 2 _ _ _ ox1).trans rfl
  have x3 : w1.cell? ⟨x, 3, none⟩ = some (.slice p N c) := (cell_of_row _ _ 3 _ _ _ ox1).trans rfl
  have x4 : w1.cell? ⟨x, 4, none⟩ = some (.int .i64 v.elem) := (cell_of_row _ _ 4 _ _ _ ox1).trans rfl
  clear ox1
  go_wp2_with fail
  refine HC1.out.mono ?_
  clear x0 x1 x2 x3 x4
  rintro e w2 ⟨rfl, hb2⟩
  have HB2 := Lib.hid (HB1.out.trans (hb2.mono HB1.out.size))
  have ox2 := (HB2.out.block x (Array.getElem?_eq_some_iff.1 HO.out).1).trans HO.out
  have hc := spelled_any v w2 _ (HV.out.blw (HB0.out.trans (HB2.out.mono HB0.out.size))) HLB.out.1
  rw [HBB.out.2.2] at hc
  have HC2 := Lib.hid hc
  clear hc hb2
  have x0 : w2.cell? ⟨x, 0, none⟩ = some (.int .i64 v.kind) := (cell_of_row _ _ 0 _ _ _ ox2).trans rfl
  have x1 : w2.cell? ⟨x, 1, none⟩ = some (.int .u64 v.num) := (cell_of_row _ _ 1 _ _ _ ox2).trans rfl
  have x2 : w2.cell? ⟨x, 2, none⟩ = some (.string v.text) := (cell_of_row _ _ 2 _ _ _ ox2).trans rfl
  have x3 : w2.cell? ⟨x, 3, none⟩ = some (.slice p N c) := (cell_of_row _ _ 3 _ _ _ ox2).trans rfl
  have x4 : w2.cell? ⟨x, 4, none⟩ = some (.int .i64 v.elem) := (cell_of_row _ _ 4 _ _ _ ox2).trans rfl
  clear ox2
  go_wp2_with fail
  refine HC2.out.mono ?_
  clear x0 x1 x2 x3 x4
  rintro e w3 ⟨rfl, hb3⟩
  have HB3 := Lib.hid (HB2.out.trans (hb3.mono HB2.out.size))
  have ox3 := (HB3.out.block x (Array.getElem?_eq_some_iff.1 HO.out).1).trans HO.out
  have HO3 := Lib.hid ox3
  clear hb3
  have x0 : w3.cell? ⟨x, 0, none⟩ = some (.int .i64 v.kind) := (cell_of_row _ _ 0 _ _ _ ox3).trans rfl
  have x1 : w3.cell? ⟨x, 1, none⟩ = some (.int .u64 v.num) := (cell_of_row _ _ 1 _ _ _ ox3).trans rfl
  have x2 : w3.cell? ⟨x, 2, none⟩ = some (.string v.text) := (cell_of_row _ _ 2 _ _ _ ox3).trans rfl
  have x3 : w3.cell? ⟨x, 3, none⟩ = some (.slice p N c) := (cell_of_row _ _ 3 _ _ _ ox3).trans rfl
  have x4 : w3.cell? ⟨x, 4, none⟩ = some (.int .i64 v.elem) := (cell_of_row _ _ 4 _ _ _ ox3).trans rfl
  clear ox3
  by_cases k0 : v.kind < 0
  · have k1 : ¬ 25 ≤ v.kind := by omega
    have HF := Lib.hid (show aloneC v d = 20 from by unfold aloneC; rw [if_pos k0])
    go_wp2_with fail
    go_ret
    exact ⟨ret_intV (by rw [HF.out]), HB0.out.trans (HB3.out.mono HB0.out.size)⟩
  · by_cases k1 : 25 ≤ v.kind
    · skip
      have HF := Lib.hid (show aloneC v d = 20 from by unfold aloneC; rw [if_neg k0, if_pos (by omega)])
      go_wp2_with fail
      go_ret
      exact ⟨ret_intV (by rw [HF.out]), HB0.out.trans (HB3.out.mono HB0.out.size)⟩
    · have HK := Lib.hid (show 0 ≤ v.kind ∧ v.kind ≤ 24 by omega)
      by_cases kd : 32 < d
      · skip
        have HF := Lib.hid (show aloneC v d = 26 from by have h := HK.out; unfold aloneC; rw [if_neg k0, if_neg (by omega), if_pos kd])
        go_wp2_with fail
        go_ret
        exact ⟨ret_intV (by rw [HF.out]), HB0.out.trans (HB3.out.mono HB0.out.size)⟩
      · have HIK := Lib.hid (show InK v d from ⟨k0, by have := HK.out; omega, kd⟩)
        have HEX := Lib.hid (show extraV v = b1 from by rw [← HBB.out.1]; exact (rextra_eq v HK.out.1 HK.out.2).symm)
        cases b1
        rotate_left
        · skip
          have HF := Lib.hid (show aloneC v d = 25 from by rw [aloneC_in HIK.out, if_pos HEX.out])
          go_wp2_with fail
          go_ret
          exact ⟨ret_intV (by rw [HF.out]), HB0.out.trans (HB3.out.mono HB0.out.size)⟩
        · cases b2
          · skip
            have HF := Lib.hid (show aloneC v d = 21 from by rw [aloneC_in HIK.out, if_neg (by rw [HEX.out]; simp), if_pos HBB.out.2.1])
            go_wp2_with fail
            go_ret
            exact ⟨ret_intV (by rw [HF.out]), HB0.out.trans (HB3.out.mono HB0.out.size)⟩
          · cases b3
            · skip
              have HF := Lib.hid (show aloneC v d = 22 from by rw [aloneC_in HIK.out, if_neg (by rw [HEX.out]; simp), if_neg (by rw [HBB.out.2.1]; simp), if_pos HBB.out.2.2])
              go_wp2_with fail
              go_ret
              exact ⟨ret_intV (by rw [HF.out]), HB0.out.trans (HB3.out.mono HB0.out.size)⟩
            · have HA := Lib.hid (aloneC_in3 ⟨HIK.out, HEX.out, HBB.out.2.1, HBB.out.2.2⟩)
              by_cases e22 : v.kind = 22
              · have q22 : (v.kind == 22) = true := by simp [e22]
                have hm := mapped_ref v w3 _ (HV.out.blw (HB0.out.trans (HB3.out.mono HB0.out.size))) HLB.out.2
                obtain ⟨z, hz⟩ : ∃ z, mapOk v.list = z := ⟨_, rfl⟩
                rw [hz] at hm
                have HM := Lib.hid hm
                have HZ := Lib.hid (show aloneC v d = if z = false then 23 else 0 from by rw [HA.out, if_pos e22, hz])
                clear hm hz e22
                go_wp2_with fail
                refine HM.out.mono ?_
                clear x0 x1 x2 x3 x4
                rintro e w4 ⟨rfl, hb4⟩
                have HB4 := Lib.hid (HB3.out.trans (hb4.mono HB3.out.size))
                clear hb4
                cases z
                · go_wp2_with fail
                  go_ret
                  exact ⟨ret_intV (by rw [HZ.out]; simp), HB0.out.trans (HB4.out.mono HB0.out.size)⟩
                · go_wp2_with fail
                  go_ret
                  exact ⟨ret_intV (by rw [HZ.out, if_neg (by simp)]), HB0.out.trans (HB4.out.mono HB0.out.size)⟩
              · have q22 : (v.kind == 22) = false := by simp [e22]
                by_cases e23 : v.kind = 23
                · have q23 : (v.kind == 23) = true := by simp [e23]
                  have hm := arrayed_ref v w3 _ (HV.out.blw (HB0.out.trans (HB3.out.mono HB0.out.size))) HLB.out.2
                  obtain ⟨z, hz⟩ : ∃ z, arrOk v = z := ⟨_, rfl⟩
                  rw [hz] at hm
                  have HM := Lib.hid hm
                  have HZ := Lib.hid (show aloneC v d = if z = false then 24 else 0 from by rw [HA.out, if_neg e22, if_pos e23, hz])
                  clear hm hz e22 e23
                  go_wp2_with fail
                  refine HM.out.mono ?_
                  clear x0 x1 x2 x3 x4
                  rintro e w4 ⟨rfl, hb4⟩
                  have HB4 := Lib.hid (HB3.out.trans (hb4.mono HB3.out.size))
                  clear hb4
                  cases z
                  · go_wp2_with fail
                    go_ret
                    exact ⟨ret_intV (by rw [HZ.out]; simp), HB0.out.trans (HB4.out.mono HB0.out.size)⟩
                  · go_wp2_with fail
                    go_ret
                    exact ⟨ret_intV (by rw [HZ.out, if_neg (by simp)]), HB0.out.trans (HB4.out.mono HB0.out.size)⟩
                · have q23 : (v.kind == 23) = false := by simp [e23]
                  by_cases e24 : v.kind = 24
                  · have q24 : (v.kind == 24) = true := by simp [e24]
                    have HZ := Lib.hid (show aloneC v d = if N = 2 then 0 else 27 from by rw [HA.out, if_neg e22, if_neg e23, if_pos e24, HN.out])
                    clear e22 e23 e24
                    by_cases n2 : N = 2
                    · have m2 : ((N : Int) == 2) = true := by simp; omega
                      have m3 : ((N : Int) != 2) = false := by simp; omega
                      have HN2 := Lib.hid n2
                      clear n2
                      go_wp2_with fail
                      go_ret
                      exact ⟨ret_intV (by rw [HZ.out, if_pos HN2.out]), HB0.out.trans (HB3.out.mono HB0.out.size)⟩
                    · have m2 : ((N : Int) == 2) = false := by simp; omega
                      have m3 : ((N : Int) != 2) = true := by simp; omega
                      have HN2 := Lib.hid n2
                      clear n2
                      go_wp2_with fail
                      go_ret
                      exact ⟨ret_intV (by rw [HZ.out, if_neg HN2.out]), HB0.out.trans (HB3.out.mono HB0.out.size)⟩
                  · have q24 : (v.kind == 24) = false := by simp [e24]
                    have HZ := Lib.hid (show aloneC v d = 0 from by rw [HA.out, if_neg e22, if_neg e23, if_neg e24])
                    clear e22 e23 e24
                    go_wp2_with fail
                    go_ret
                    exact ⟨ret_intV (by rw [HZ.out]), HB0.out.trans (HB3.out.mono HB0.out.size)⟩

theorem firstBad_append (a b : List (Int × V)) : firstBad (a ++ b) = if firstBad a = 0 then firstBad b else firstBad a := by
  induction a with
  | nil => simp [firstBad]
  | cons x r ih =>
    obtain ⟨d, y⟩ := x
    rw [List.cons_append, firstBad, firstBad]
    by_cases h : aloneC y d = 0
    · rw [if_pos h, if_pos h, ih]
    · rw [if_neg h, if_neg h, if_neg h]
theorem pres_drop {l : List V} {k : Nat} (h : k < l.length) (d : Int) : pres (l.drop k) d = (l[k]).pre d ++ pres (l.drop (k + 1)) d := by
  rw [List.drop_eq_getElem_cons h, pres]
theorem dep_partV {v x : V} (hx : x ∈ v.list) : x.dep + 1 ≤ v.dep := by
  have key : ∀ (l : List V) (n : Int), 0 ≤ n → x ∈ l → x.dep ≤ deps l n := by
    intro l
    induction l with
    | nil => intro n _ h; cases h
    | cons a r ih2 =>
      intro n hn h
      rw [deps, deps_mono r _ (by have := (dep_bd a).1; omega)]
      rcases List.mem_cons.1 h with rfl | h
      · omega
      · have := ih2 0 (Int.le_refl _) h; omega
  have := key v.list 0 (Int.le_refl _) hx
  rw [v.dep_eq]
  omega

set_option maxRecDepth 20000 in
set_option maxHeartbeats 4000000 in
theorem check_ref : ∀ (v : V) (d : Int) (w : World) (s : Value), VIn w v s → v.wt ≤ 1000000 → 1 ≤ d → d + v.dep ≤ 2000000 →
    Calls Tryd.prog 44 #[.agg #[.int .i64 v.kind, .int .u64 v.num, .string v.text, s, .int .i64 v.elem], .int .i64 d] w fun e w' => e = .returned (.int .i64 (firstBad (v.pre d))) ∧ Below w.heap.size w w' := by
  refine V.ind (fun v ih d w s h hwt hd1 hd2 => ?_)
  obtain ⟨p, c, hs, h1, h2, h3⟩ := h.slice
  obtain ⟨N, hN⟩ : ∃ N, v.list.length = N := ⟨_, rfl⟩
  have hvd := (dep_bd v).1
  have htx := v.text_le
  have hlw := v.len_lt
  have HI := Lib.hid ih
  have HW := Lib.hid (And.intro hwt hd2)
  have HPRE := Lib.hid (show firstBad (v.pre d) = if aloneC v d = 0 then firstBad (pres v.list (d + 1)) else aloneC v d from by rw [V.pre_eq, firstBad])
  rw [hN] at hs h1 h3
  subst hs
  unfold maxLen at h2
  have HV := Lib.hid h
  have HN := Lib.hid hN
  have hdb : d ≤ 2000000 := by omega
  have hc0 := fun w0 hb => own_ref v d w0 _ (VIn.blw h (hb : Below w.heap.size w w0)) (by omega) (by omega)
  have HC0 := Lib.hid hc0
  clear ih h hN hwt hd2 hvd htx hlw hc0
  go_enter Tryd.func44, Tryd.ntmps44
  go_upto_region 1 with fail
  have hb0 : Below w.heap.size w (w.alloc (.cells #[.int .i64 v.kind, .int .u64 v.num, .string v.text, (.slice p N c), .int .i64 v.elem] 25)) := ((Below.refl _ _).alloc (Nat.le_refl _) _)
  have ox : (w.alloc (.cells #[.int .i64 v.kind, .int .u64 v.num, .string v.text, (.slice p N c), .int .i64 v.elem] 25)).heap[w.heap.size]? = some (.cells #[.int .i64 v.kind, .int .u64 v.num, .string v.text, (.slice p N c), .int .i64 v.elem] 25 (0, 0)) := _root_.Go.heap_alloc_new _ _
  generalize (w.alloc (.cells #[.int .i64 v.kind, .int .u64 v.num, .string v.text, (.slice p N c), .int .i64 v.elem] 25)) = w0 at *
  obtain ⟨x, hx⟩ : ∃ x, w.heap.size = x := ⟨_, rfl⟩
  rw [hx] at ox ⊢
  have HB0 := Lib.hid hb0
  have HO := Lib.hid ox
  clear hb0 ox hx
  have hc := HC0.out w0 HB0.out
  obtain ⟨z, hz⟩ : ∃ z, aloneC v d = z := ⟨_, rfl⟩
  rw [hz] at hc
  have HZ := Lib.hid hz
  have HC := Lib.hid hc
  clear hc hz
  have x0 : w0.cell? ⟨x, 0, none⟩ = some (.int .i64 v.kind) := (cell_of_row _ _ 0 _ _ _ HO.out).trans rfl
  have x1 : w0.cell? ⟨x, 1, none⟩ = some (.int .u64 v.num) := (cell_of_row _ _ 1 _ _ _ HO.out).trans rfl
  have x2 : w0.cell? ⟨x, 2, none⟩ = some (.string v.text) := (cell_of_row _ _ 2 _ _ _ HO.out).trans rfl
  have x3 : w0.cell? ⟨x, 3, none⟩ = some (.slice p N c) := (cell_of_row _ _ 3 _ _ _ HO.out).trans rfl
  have x4 : w0.cell? ⟨x, 4, none⟩ = some (.int .i64 v.elem) := (cell_of_row _ _ 4 _ _ _ HO.out).trans rfl
  go_wp2_with fail
  refine HC.out.mono ?_
  clear x0 x1 x2 x3 x4
  rintro e w1 ⟨rfl, hb1⟩
  have HB1 := Lib.hid hb1
  have ox1 := (hb1.block x (Array.getElem?_eq_some_iff.1 HO.out).1).trans HO.out
  have x3 : w1.cell? ⟨x, 3, none⟩ = some (.slice p N c) := (cell_of_row _ _ 3 _ _ _ ox1).trans rfl
  clear hb1 ox1
  by_cases hz0 : z = 0
  · have hzb : (z != 0) = false := by simp [hz0]
    have hzc : (z == 0) = true := by simp [hz0]
    obtain ⟨D, hD⟩ : ∃ D, firstBad (pres v.list (d + 1)) = D := ⟨_, rfl⟩
    have HF := Lib.hid (show firstBad (v.pre d) = D from by rw [HPRE.out, HZ.out, if_pos hz0, hD])
    have HD := Lib.hid (show firstBad (pres (v.list.drop 0) (d + 1)) = D by rw [List.drop_zero]; exact hD)
    clear hz0 hD
    go_wp2_with fail
    go_loopw [5, 6] (fun v5 v6 wr => ∃ (k : Nat) (q5 : Int), k ≤ N ∧ v6 = .int .i64 k ∧ v5 = .int .i64 q5 ∧ Hid (firstBad (pres (v.list.drop k) (d + 1)) = D) ∧ Below w1.heap.size w1 wr) (fun _ v6 _ => N - (intOf v6).toNat)
    case atStart => exact ⟨0, _, Nat.zero_le _, rfl, rfl, HD, Below.refl _ _⟩
    case round =>
      obtain ⟨k, q5, hk', rfl, rfl, HK, hb⟩ := hrel
      have HB := Lib.hid hb
      have x3 := bs_cellV hb x3
      by_cases hkN : (k : Int) < N
      · have ka : k < v.list.length := by rw [HN.out]; omega
        obtain ⟨b1, o1, rfl⟩ := h3 (by omega)
        have hB := HB0.out.trans ((HB1.out.trans (hb.mono HB1.out.size)).mono HB0.out.size)
        obtain ⟨ta, hta, hia⟩ := (HV.out.blw hB).part rfl ka
        obtain ⟨c0, c1, c2, c3, c4⟩ := part_cells hta
        have hst := HK.out
        rw [pres_drop ka, firstBad_append] at hst
        have hc := HI.out _ (List.getElem_mem ka) (d + 1) wr ta hia (by have := V.wt_lt (List.getElem_mem ka); have := HW.out.1; omega) (by omega) (by have := dep_partV (List.getElem_mem ka); have := HW.out.2; omega)
        obtain ⟨pa, ca, hsa, hj0⟩ := hia.slice
        subst hsa
        obtain ⟨y, hy⟩ : ∃ y, firstBad ((v.list[k]).pre (d + 1)) = y := ⟨_, rfl⟩
        rw [hy] at hc hst
        obtain ⟨xk, hxk⟩ : ∃ x, v.list[k] = x := ⟨_, rfl⟩
        rw [hxk] at c0 c1 c2 c3 c4 hc
        have HC2 := Lib.hid hc
        have HST := Lib.hid hst
        clear hc hst hy hxk hj0 hia hta hB hb
        go_wp2_with fail
        refine HC2.out.mono ?_
        clear c0 c1 c2 c3 c4
        rintro e w2 ⟨rfl, hb2⟩
        have HB2 := Lib.hid (HB.out.trans (hb2.mono HB.out.size))
        clear hb2
        by_cases hy0 : y = 0
        · have hyb : (y != 0) = false := by simp [hy0]
          have hyc : (y == 0) = true := by simp [hy0]
          have HN2 := Lib.hid (show firstBad (pres (v.list.drop (k + 1)) (d + 1)) = D from by rw [← HST.out, if_pos hy0])
          clear hy0
          go_wp2_with fail
          go_roundw
          case rel => exact ⟨k + 1, _, by omega, by go_num, rfl, HN2, HB2.out⟩
          case measure => simp [intOf]; omega
        · have hyb : (y != 0) = true := by simp [hy0]
          have hyc : (y == 0) = false := by simp [hy0]
          have HN2 := Lib.hid (show D = y from by rw [← HST.out, if_neg hy0])
          clear hy0
          go_wp2_with fail
          go_ret
          exact ⟨ret_intV (by rw [HF.out, HN2.out]), HB0.out.trans ((HB1.out.trans (HB2.out.mono HB1.out.size)).mono HB0.out.size)⟩
      · have HN2 := Lib.hid (show D = 0 from by rw [← HK.out, List.drop_eq_nil_of_le (by rw [HN.out]; omega), pres, firstBad])
        clear hb
        go_wp2_with fail
        go_ret
        exact ⟨ret_intV (by rw [HF.out, HN2.out]), HB0.out.trans ((HB1.out.trans (HB.out.mono HB1.out.size)).mono HB0.out.size)⟩
  · have hzb : (z != 0) = true := by simp [hz0]
    have hzc : (z == 0) = false := by simp [hz0]
    have HF := Lib.hid (show firstBad (v.pre d) = z from by rw [HPRE.out, HZ.out, if_neg hz0])
    clear hz0
    go_wp2_with fail
    go_ret
    exact ⟨ret_intV (by rw [HF.out]), HB0.out.trans (HB1.out.mono HB0.out.size)⟩

set_option maxRecDepth 20000 in
set_option maxHeartbeats 4000000 in
theorem rcheck_any (v : V) (w : World) (s : Value) (h : VIn w v s) (hwt : v.wt ≤ 1000000) :
    Calls Tryd.prog 20 #[.agg #[.int .i64 v.kind, .int .u64 v.num, .string v.text, s, .int .i64 v.elem]] w fun e w' => e = .returned (.int .i64 (firstBad (v.pre 1))) ∧ Below w.heap.size w w' := by
  obtain ⟨p, c, hs, h1, h2, h3⟩ := h.slice
  obtain ⟨N, hN⟩ : ∃ N, v.list.length = N := ⟨_, rfl⟩
  rw [hN] at hs
  subst hs
  have hvd := dep_bd v
  have hc0 := fun w0 hb => check_ref v 1 w0 _ (VIn.blw h (hb : Below w.heap.size w w0)) hwt (by omega) (by omega)
  have HC0 := Lib.hid hc0
  clear h hN hwt hvd hc0 h1 h2 h3
  go_enter Tryd.func20, Tryd.ntmps20
  go_upto_region 1 with fail
  have hb0 : Below w.heap.size w (w.alloc (.cells #[.int .i64 v.kind, .int .u64 v.num, .string v.text, (.slice p N c), .int .i64 v.elem] 25)) := ((Below.refl _ _).alloc (Nat.le_refl _) _)
  have ox : (w.alloc (.cells #[.int .i64 v.kind, .int .u64 v.num, .string v.text, (.slice p N c), .int .i64 v.elem] 25)).heap[w.heap.size]? = some (.cells #[.int .i64 v.kind, .int .u64 v.num, .string v.text, (.slice p N c), .int .i64 v.elem] 25 (0, 0)) := _root_.Go.heap_alloc_new _ _
  generalize (w.alloc (.cells #[.int .i64 v.kind, .int .u64 v.num, .string v.text, (.slice p N c), .int .i64 v.elem] 25)) = w0 at *
  obtain ⟨x, hx⟩ : ∃ x, w.heap.size = x := ⟨_, rfl⟩
  rw [hx] at ox ⊢
  have HB0 := Lib.hid hb0
  have HO := Lib.hid ox
  clear hb0 ox hx
  have HC := Lib.hid (HC0.out w0 HB0.out)
  have x0 : w0.cell? ⟨x, 0, none⟩ = some (.int .i64 v.kind) := (cell_of_row _ _ 0 _ _ _ HO.out).trans rfl
  have x1 : w0.cell? ⟨x, 1, none⟩ = some (.int .u64 v.num) := (cell_of_row _ _ 1 _ _ _ HO.out).trans rfl
  have x2 : w0.cell? ⟨x, 2, none⟩ = some (.string v.text) := (cell_of_row _ _ 2 _ _ _ HO.out).trans rfl
  have x3 : w0.cell? ⟨x, 3, none⟩ = some (.slice p N c) := (cell_of_row _ _ 3 _ _ _ HO.out).trans rfl
  have x4 : w0.cell? ⟨x, 4, none⟩ = some (.int .i64 v.elem) := (cell_of_row _ _ 4 _ _ _ HO.out).trans rfl
  go_wp2_with fail
  refine HC.out.mono ?_
  clear x0 x1 x2 x3 x4
  rintro e w1 ⟨rfl, hb1⟩
  have HB1 := Lib.hid (HB0.out.trans (hb1.mono HB0.out.size))
  clear hb1
  go_wp2_with fail
  go_ret
  exact ⟨rfl, HB1.out⟩

end Go.Proofs.YtakbgekamjpibaaDoor
