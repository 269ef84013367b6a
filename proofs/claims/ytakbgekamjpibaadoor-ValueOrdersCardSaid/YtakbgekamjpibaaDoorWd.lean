/-
  The reference's Order. Conditions: the values lie in memory.
-/
import Derived.Test.YtakbgekamjpibaaDoorVe
import Derived.Sort.Walk0
namespace Go.Proofs.YtakbgekamjpibaaDoor
open Go.RowKit
set_option linter.unusedVariables false

theorem sign_any (b : Bool) (w : World) : Calls Tryd.prog 60 #[.bool b] w fun e w' => e = .returned (.int .i64 (if b then -1 else 1)) ∧ w' = w := by
  cases b
  all_goals
    go_enter Tryd.func60, Tryd.ntmps60
    go_wp2_with fail
    go_ret
    exact ⟨rfl, rfl⟩
theorem sgnZ_ne {a b : Int} (h : a ≠ b) : sgnZ a b = if decide (a < b) then -1 else 1 := by
  unfold sgnZ
  by_cases h1 : a < b
  · simp [h1]
  · have h2 : b < a := by omega
    simp [h1, h2]
theorem cmpB_ne : ∀ (l r : List UInt8), l ≠ r → Lib.compareBytes l r = if decide (l < r) then -1 else 1
  | [], [], h => (h rfl).elim
  | [], _ :: _, _ => by simp [Lib.compareBytes]
  | _ :: _, [], _ => by simp [Lib.compareBytes]
  | x :: l, y :: r, h => by
    rw [Lib.compareBytes]
    by_cases h1 : x < y
    · rw [if_pos h1, if_pos (decide_eq_true (List.cons_lt_cons_iff.2 (.inl h1)))]
    · rw [if_neg h1]
      by_cases h2 : y < x
      · rw [if_pos h2, if_neg]
        intro q
        rcases List.cons_lt_cons_iff.1 (of_decide_eq_true q) with e | ⟨rfl, _⟩
        · exact h1 e
        · exact h1 h2
      · have e : x = y := UInt8.toNat_inj.1 (by rw [UInt8.lt_iff_toNat_lt] at h1 h2; omega)
        subst e
        rw [if_neg h2, cmpB_ne l r (fun q => h (by rw [q]))]
        have : (x :: l < x :: r) ↔ (l < r) := by rw [List.cons_lt_cons_iff]; simp [h1]
        simp only [this]
theorem cmpT_ne {a b : ByteArray} (h : a ≠ b) : cmpT a b = if Op.bytesLess a.toList b.toList then -1 else 1 := by
  rw [bytesLess_eq, Lib.toList_data, Lib.toList_data]
  exact cmpB_ne _ _ (fun q => h (by cases a; cases b; congr 1; exact Array.toList_inj.1 q))
theorem cmpT_ne0 {a b : ByteArray} (h : a ≠ b) : cmpT a b ≠ 0 := by
  rw [cmpT_ne h]
  split <;> decide
theorem cmpT_self (a : ByteArray) : cmpT a a = 0 := by
  have key : ∀ l : List UInt8, Lib.compareBytes l l = 0 := by
    intro l
    induction l with
    | nil => rfl
    | cons x l ih => rw [Lib.compareBytes, if_neg (by rw [UInt8.lt_iff_toNat_lt]; omega), if_neg (by rw [UInt8.lt_iff_toNat_lt]; omega), ih]
  exact key _
theorem thenZ_ne {a b : Int} (h : a ≠ 0) : thenZ a b = a := by simp [thenZ, h]
theorem thenZ_z (b : Int) : thenZ 0 b = b := by simp [thenZ]
theorem sgnZ_self (a : Int) : sgnZ a a = 0 := by simp [sgnZ]
theorem sgnZ_ne0 {a b : Int} (h : a ≠ b) : sgnZ a b ≠ 0 := by
  rw [sgnZ_ne h]
  split <;> decide
set_option maxRecDepth 20000 in
set_option maxHeartbeats 4000000 in
theorem rorder_any : ∀ (a : V) (w : World) (s : Value) (b : V) (t : Value), VIn w a s → VIn w b t →
    Calls Tryd.prog 38 #[.agg #[.int .i64 a.kind, .int .u64 a.num, .string a.text, s, .int .i64 a.elem], .agg #[.int .i64 b.kind, .int .u64 b.num, .string b.text, t, .int .i64 b.elem]] w fun e w' => e = .returned (.int .i64 (ordV a b)) ∧ Below w.heap.size w w' := by
  refine V.ind (fun a ih w s b t h hb => ?_)
  obtain ⟨p, c, hs, h1, h2, h3⟩ := h.slice
  obtain ⟨q, d, ht, k1, k2, k3⟩ := hb.slice
  obtain ⟨N, hN⟩ : ∃ N, a.list.length = N := ⟨_, rfl⟩
  obtain ⟨M, hM⟩ : ∃ M, b.list.length = M := ⟨_, rfl⟩
  rw [hN] at hs h1 h3
  rw [hM] at ht k1 k3
  subst hs ht
  unfold maxLen at h2 k2
  obtain ⟨D, hD⟩ : ∃ D, ordV a b = D := ⟨_, rfl⟩
  rw [hD]
  have HD := Lib.hid (show thenZ (sgnZ a.kind b.kind) (thenZ (sgnZ a.num b.num) (thenZ (cmpT a.text b.text) (thenZ (ordL a.list b.list) (sgnZ a.elem b.elem)))) = D by rw [← ordV_eq]; exact hD)
  clear hD
  have HI := Lib.hid ih
  have HN := Lib.hid (And.intro hN hM)
  have HV := Lib.hid (And.intro h hb)
  clear ih h hb hN hM
  go_enter Tryd.func38, Tryd.ntmps38
  go_upto_region 1 with fail
  have hb0 : Below w.heap.size w ((w.alloc (.cells #[.int .i64 a.kind, .int .u64 a.num, .string a.text, (.slice p N c), .int .i64 a.elem] 25)).alloc (.cells #[.int .i64 b.kind, .int .u64 b.num, .string b.text, (.slice q M d), .int .i64 b.elem] 25)) := (((Below.refl _ _).alloc (Nat.le_refl _) _).alloc (by simp) _)
  have ox : ((w.alloc (.cells #[.int .i64 a.kind, .int .u64 a.num, .string a.text, (.slice p N c), .int .i64 a.elem] 25)).alloc (.cells #[.int .i64 b.kind, .int .u64 b.num, .string b.text, (.slice q M d), .int .i64 b.elem] 25)).heap[w.heap.size]? = some (.cells #[.int .i64 a.kind, .int .u64 a.num, .string a.text, (.slice p N c), .int .i64 a.elem] 25 (0, 0)) := (_root_.Go.heap_alloc_old _ _ (by simp)).trans (_root_.Go.heap_alloc_new _ _)
  have oy : ((w.alloc (.cells #[.int .i64 a.kind, .int .u64 a.num, .string a.text, (.slice p N c), .int .i64 a.elem] 25)).alloc (.cells #[.int .i64 b.kind, .int .u64 b.num, .string b.text, (.slice q M d), .int .i64 b.elem] 25)).heap[w.heap.size + 1]? = some (.cells #[.int .i64 b.kind, .int .u64 b.num, .string b.text, (.slice q M d), .int .i64 b.elem] 25 (0, 0)) := by have := _root_.Go.heap_alloc_new (w.alloc (.cells #[.int .i64 a.kind, .int .u64 a.num, .string a.text, (.slice p N c), .int .i64 a.elem] 25)) (.cells #[.int .i64 b.kind, .int .u64 b.num, .string b.text, (.slice q M d), .int .i64 b.elem] 25); rwa [World.size_alloc] at this
  generalize ((w.alloc (.cells #[.int .i64 a.kind, .int .u64 a.num, .string a.text, (.slice p N c), .int .i64 a.elem] 25)).alloc (.cells #[.int .i64 b.kind, .int .u64 b.num, .string b.text, (.slice q M d), .int .i64 b.elem] 25)) = w0 at *
  obtain ⟨x, hx⟩ : ∃ x, w.heap.size = x := ⟨_, rfl⟩
  rw [hx] at ox oy ⊢
  obtain ⟨y, hy⟩ : ∃ y, x + 1 = y := ⟨_, rfl⟩
  rw [hy] at oy ⊢
  have HB0 := Lib.hid hb0
  have HOx := Lib.hid ox
  have HOy := Lib.hid oy
  clear hb0 ox oy hx hy
  have x0 : w0.cell? ⟨x, 0, none⟩ = some (.int .i64 a.kind) := (cell_of_row _ _ 0 _ _ _ HOx.out).trans rfl
  have x1 : w0.cell? ⟨x, 1, none⟩ = some (.int .u64 a.num) := (cell_of_row _ _ 1 _ _ _ HOx.out).trans rfl
  have x2 : w0.cell? ⟨x, 2, none⟩ = some (.string a.text) := (cell_of_row _ _ 2 _ _ _ HOx.out).trans rfl
  have x3 : w0.cell? ⟨x, 3, none⟩ = some (.slice p N c) := (cell_of_row _ _ 3 _ _ _ HOx.out).trans rfl
  have x4 : w0.cell? ⟨x, 4, none⟩ = some (.int .i64 a.elem) := (cell_of_row _ _ 4 _ _ _ HOx.out).trans rfl
  have y0 : w0.cell? ⟨y, 0, none⟩ = some (.int .i64 b.kind) := (cell_of_row _ _ 0 _ _ _ HOy.out).trans rfl
  have y1 : w0.cell? ⟨y, 1, none⟩ = some (.int .u64 b.num) := (cell_of_row _ _ 1 _ _ _ HOy.out).trans rfl
  have y2 : w0.cell? ⟨y, 2, none⟩ = some (.string b.text) := (cell_of_row _ _ 2 _ _ _ HOy.out).trans rfl
  have y3 : w0.cell? ⟨y, 3, none⟩ = some (.slice q M d) := (cell_of_row _ _ 3 _ _ _ HOy.out).trans rfl
  have y4 : w0.cell? ⟨y, 4, none⟩ = some (.int .i64 b.elem) := (cell_of_row _ _ 4 _ _ _ HOy.out).trans rfl
  by_cases hk : a.kind = b.kind
  · have hk_t : (a.kind == b.kind) = true := by simpa using hk
    have Hhk := Lib.hid hk
    clear hk
    by_cases hn : a.num = b.num
    · have hn_t : (a.num == b.num) = true := by simpa using hn
      have Hhn := Lib.hid hn
      clear hn
      by_cases htx : a.text = b.text
      · have htx_t : (a.text.toList == b.text.toList) = true := by rw [teq]; exact decide_eq_true htx
        have Hhtx := Lib.hid htx
        clear htx
        have HX := Lib.hid (show thenZ (ordL a.list b.list) (sgnZ a.elem b.elem) = D by
          have h := HD.out
          rw [Hhk.out, Hhn.out, Hhtx.out, sgnZ_self, sgnZ_self, cmpT_self, thenZ_z, thenZ_z, thenZ_z] at h
          exact h)
        have hk_n : (a.kind != b.kind) = false := by rw [bne, hk_t]; rfl
        have hn_n : (a.num != b.num) = false := by rw [bne, hn_t]; rfl
        go_wp2_with fail
        go_loopw [5] (fun v5 wr => ∃ k : Nat, k ≤ N ∧ k ≤ M ∧ v5 = .int .i64 k ∧ a.list.take k = b.list.take k ∧ Below w0.heap.size w0 wr) (fun v5 _ => N - (intOf v5).toNat)
        case atStart => exact ⟨0, Nat.zero_le _, Nat.zero_le _, rfl, by rw [List.take_zero, List.take_zero], Below.refl _ _⟩
        case round =>
          obtain ⟨k, hk', hk2, rfl, hsame, hbw⟩ := hrel
          have HR := Lib.hid (And.intro hsame hbw)
          have x3 := bs_cellV hbw x3
          have y3 := bs_cellV hbw y3
          have x4 := bs_cellV hbw x4
          have y4 := bs_cellV hbw y4
          clear hsame hbw x0 x1 x2 y0 y1 y2
          by_cases hin : k < N ∧ k < M
          · have hkN : (k : Int) < N := by omega
            have hkM : (k : Int) < M := by omega
            have ka : k < a.list.length := by rw [HN.out.1]; omega
            have kb : k < b.list.length := by rw [HN.out.2]; omega
            obtain ⟨b1, o1, rfl⟩ := h3 (by omega)
            obtain ⟨b2, o2, rfl⟩ := k3 (by omega)
            have hB := HB0.out.trans (HR.out.2.mono HB0.out.size)
            obtain ⟨ta, hta, hia⟩ := (HV.out.1.blw hB).part rfl ka
            obtain ⟨tb, htb, hib⟩ := (HV.out.2.blw hB).part rfl kb
            obtain ⟨c0, c1, c2, c3, c4⟩ := part_cells hta
            obtain ⟨d0, d1, d2, d3, d4⟩ := part_cells htb
            have hd : Below wr.heap.size wr wr.drew := ⟨rfl, rfl, rfl, Nat.le_refl _, fun _ _ => rfl⟩
            have hc := HI.out _ (List.getElem_mem ka) wr.drew ta _ tb (hia.blw hd) (hib.blw hd)
            have hat := ordL_at HR.out.1 ka kb
            have hz : ordV a.list[k] b.list[k] = 0 → a.list.take (k + 1) = b.list.take (k + 1) := fun q => take_next HR.out.1 ka kb (ordV_zero.1 q)
            generalize ordV a.list[k] b.list[k] = z at hc hat hz
            generalize a.list[k] = ya at *
            generalize b.list[k] = yb at *
            have HZ := Lib.hid (And.intro hat hz)
            clear hB hta htb hia hib hd hat hz
            have HC := Lib.hid hc
            clear hc
            go_wp2_with fail
            go_still_tail 10, (by kernel_rfl)
            change wpList _ _ _ _ _ wr.drew
            have HDR : Hid (Below w0.heap.size w0 wr.drew) := Lib.hid ⟨HR.out.2.os, HR.out.2.tape, HR.out.2.output, HR.out.2.size, HR.out.2.block⟩
            generalize wr.drew = wd at *
            go_wp2_with fail
            refine HC.out.mono ?_
            rintro e w1 ⟨rfl, hb1⟩
            have HB1 := Lib.hid (HDR.out.trans (hb1.mono HDR.out.size))
            clear hb1 c0 c1 c2 c3 c4 d0 d1 d2 d3 d4 x3 x4 y3 y4
            by_cases hz0 : z = 0
            · have hzt : (z == 0) = true := by simpa using hz0
              have HZ2 := Lib.hid (HZ.out.2 hz0)
              clear hz0
              go_wp2_with fail
              go_roundw
              case rel => exact ⟨k + 1, by omega, by omega, by go_num, HZ2.out, HB1.out⟩
              case measure => simp [intOf]; omega
            · have hzt : (z == 0) = false := by simpa using hz0
              have HDZ := Lib.hid (show D = z by rw [← HX.out, HZ.out.1, thenZ_ne (by rw [thenZ_ne hz0]; exact hz0), thenZ_ne hz0])
              clear hz0
              go_wp2_with fail
              go_ret
              exact ⟨by rw [HDZ.out]; rfl, HB0.out.trans (HB1.out.mono HB0.out.size)⟩
          · have hend : ordL a.list b.list = sgnZ N M := by
              by_cases q : k < N
              · have hkM : M ≤ k := by omega
                rw [ordL_longer HR.out.1 (by rw [HN.out.1]; exact q) (by rw [HN.out.2]; exact hkM)]
                unfold sgnZ
                rw [if_neg (by omega), if_pos (by omega)]
              · have hkN : k = N := by omega
                rw [ordL_end HR.out.1 (by rw [HN.out.1]; omega) (by rw [HN.out.1]; omega), HN.out.1, HN.out.2]
                unfold sgnZ
                split <;> split <;> (try split) <;> (try split) <;> omega
            have HE := Lib.hid hend
            clear hend
            have HBW := Lib.hid (HB0.out.trans (HR.out.2.mono HB0.out.size))
            by_cases hNM : N = M
            · have hNMi : ((N : Int) == M) = true := by simp [hNM]
              have hkN : ¬ (k : Int) < N := by omega
              have hkM : ¬ (k : Int) < M := by omega
              have HNM := Lib.hid hNM
              clear hNM hin
              by_cases he : a.elem = b.elem
              · have het : (a.elem == b.elem) = true := by simpa using he
                have HD0 := Lib.hid (show D = 0 by rw [← HX.out, HE.out, HNM.out, sgnZ_self, thenZ_z, he, sgnZ_self])
                clear he
                go_wp2_with fail
                go_ret
                exact ⟨by rw [HD0.out]; rfl, HBW.out⟩
              · have het : (a.elem == b.elem) = false := by simpa using he
                have HD0 := Lib.hid (show D = if decide (a.elem < b.elem) then -1 else 1 by rw [← HX.out, HE.out, HNM.out, sgnZ_self, thenZ_z, sgnZ_ne he])
                clear he
                have hc := sign_any (decide (a.elem < b.elem)) wr
                rw [← HD0.out] at hc
                go_wp2_with fail
                refine hc.mono ?_
                clear hc
                rintro e w1 ⟨rfl, rfl⟩
                go_wp2_with fail
                go_ret
                exact ⟨rfl, HBW.out⟩
            · have hNMi : ((N : Int) == M) = false := by simp; omega
              have HD0 := Lib.hid (show D = if decide (N < M) then -1 else 1 by
                have hne : (N : Int) ≠ M := by omega
                rw [← HX.out, HE.out, thenZ_ne (sgnZ_ne0 hne), sgnZ_ne hne]
                simp only [Int.ofNat_lt])
              have hc := sign_any (decide (N < M)) wr
              rw [← HD0.out] at hc
              have HC := Lib.hid hc
              clear hc
              by_cases q : (k : Int) < N
              · have q2 : ¬ (k : Int) < M := by omega
                clear hin hNM
                go_wp2_with fail
                refine HC.out.mono ?_
                rintro e w1 ⟨rfl, rfl⟩
                go_wp2_with fail
                go_ret
                exact ⟨rfl, HBW.out⟩
              · clear hin hNM
                go_wp2_with fail
                refine HC.out.mono ?_
                rintro e w1 ⟨rfl, rfl⟩
                go_wp2_with fail
                go_ret
                exact ⟨rfl, HBW.out⟩
      · have htx_t : (a.text.toList == b.text.toList) = false := by rw [teq]; exact decide_eq_false htx
        have HX := Lib.hid (show D = if Op.bytesLess a.text.toList b.text.toList then -1 else 1 by
          have h := HD.out
          rw [Hhk.out, Hhn.out, sgnZ_self, sgnZ_self, thenZ_z, thenZ_z] at h
          rw [← h, thenZ_ne (cmpT_ne0 htx), cmpT_ne htx])
        clear htx
        have hc := sign_any (Op.bytesLess a.text.toList b.text.toList) w0
        rw [← HX.out] at hc
        go_wp2_with fail
        refine hc.mono ?_
        clear hc
        rintro e w1 ⟨rfl, rfl⟩
        go_wp2_with fail
        go_ret
        exact ⟨rfl, HB0.out⟩
    · have hn_t : (a.num == b.num) = false := by simpa using hn
      have HX := Lib.hid (show D = if decide (a.num < b.num) then -1 else 1 by
        have h := HD.out
        rw [Hhk.out, sgnZ_self, thenZ_z] at h
        rw [← h, thenZ_ne (sgnZ_ne0 hn), sgnZ_ne hn])
      clear hn
      have hc := sign_any (decide (a.num < b.num)) w0
      rw [← HX.out] at hc
      go_wp2_with fail
      refine hc.mono ?_
      clear hc
      rintro e w1 ⟨rfl, rfl⟩
      go_wp2_with fail
      go_ret
      exact ⟨rfl, HB0.out⟩
  · have hk_t : (a.kind == b.kind) = false := by simpa using hk
    have HX := Lib.hid (show D = if decide (a.kind < b.kind) then -1 else 1 by
      have h := HD.out
      skip
      rw [← h, thenZ_ne (sgnZ_ne0 hk), sgnZ_ne hk])
    clear hk
    have hc := sign_any (decide (a.kind < b.kind)) w0
    rw [← HX.out] at hc
    go_wp2_with fail
    refine hc.mono ?_
    clear hc
    rintro e w1 ⟨rfl, rfl⟩
    go_wp2_with fail
    go_ret
    exact ⟨rfl, HB0.out⟩

end Go.Proofs.YtakbgekamjpibaaDoor
