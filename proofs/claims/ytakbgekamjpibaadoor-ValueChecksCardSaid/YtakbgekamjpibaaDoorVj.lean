/-
  isArray. Conditions: the value lies in memory.
-/
import Derived.Test.YtakbgekamjpibaaDoorVi
namespace Go.Proofs.YtakbgekamjpibaaDoor
open Go.RowKit
set_option linter.unusedVariables false

/-- all parts are of one kind -/
def Alike (v : V) (el : Int) : Prop := ∀ x ∈ v.list, x.kind = el
instance (v : V) (el : Int) : Decidable (Alike v el) := by unfold Alike; infer_instance
def arrOk (v : V) : Bool := decide (0 < v.elem ∧ v.elem < 24 ∧ Alike v v.elem)

set_option maxRecDepth 20000 in
set_option maxHeartbeats 4000000 in
theorem unlike_any (x : V) (t : Value) (w : World) (b : Nat) (el : Int) (h : VIn w x t) (hc : w.cell? ⟨b, 4, none⟩ = some (.int .i64 el)) :
    Calls Tryd.prog 78 #[.agg #[.int .i64 x.kind, .int .u64 x.num, .string x.text, t, .int .i64 x.elem], .pointer (some ⟨b, 0, none⟩)] w fun e w' => e = .returned (.bool (x.kind != el)) ∧ Below w.heap.size w w' := by
  obtain ⟨p, c, hs, h1, h2, h3⟩ := h.slice
  obtain ⟨N, hN⟩ : ∃ N, x.list.length = N := ⟨_, rfl⟩
  rw [hN] at hs
  subst hs
  have HC := Lib.hid hc
  clear h1 h2 h3 h hN hc
  go_enter Tryd.func78, Tryd.ntmps78
  go_upto_region 1 with fail
  have hb0 : Below w.heap.size w (w.alloc (.cells #[.int .i64 x.kind, .int .u64 x.num, .string x.text, (.slice p N c), .int .i64 x.elem] 25)) := ((Below.refl _ _).alloc (Nat.le_refl _) _)
  have oy : (w.alloc (.cells #[.int .i64 x.kind, .int .u64 x.num, .string x.text, (.slice p N c), .int .i64 x.elem] 25)).heap[w.heap.size]? = some (.cells #[.int .i64 x.kind, .int .u64 x.num, .string x.text, (.slice p N c), .int .i64 x.elem] 25 (0, 0)) := _root_.Go.heap_alloc_new _ _
  generalize (w.alloc (.cells #[.int .i64 x.kind, .int .u64 x.num, .string x.text, (.slice p N c), .int .i64 x.elem] 25)) = w0 at *
  obtain ⟨y, hy⟩ : ∃ x, w.heap.size = x := ⟨_, rfl⟩
  rw [hy] at oy ⊢
  have HB0 := Lib.hid hb0
  have HOy := Lib.hid oy
  clear hb0 oy hy
  have y0 : w0.cell? ⟨y, 0, none⟩ = some (.int .i64 x.kind) := (cell_of_row _ _ 0 _ _ _ HOy.out).trans rfl
  have hb0 := HB0.out
  have c4 := bs_cellV hb0 HC.out
  clear hb0
  go_wp2_with fail
  all_goals
    go_ret
    exact ⟨rfl, HB0.out⟩

set_option maxRecDepth 20000 in
set_option maxHeartbeats 4000000 in
theorem index_any (v : V) (w : World) (s : Value) (bx : Nat) (el : Int) (h : VIn w v s) (hc : w.cell? ⟨bx, 4, none⟩ = some (.int .i64 el)) :
    Calls Tryd.prog 88 #[s, .func (.func 78) #[] #[.pointer (some ⟨bx, 0, none⟩)]] w fun e w' => ∃ m : Int, e = .returned (.int .i64 m) ∧ (0 ≤ m ↔ ¬ Alike v el) ∧ Below w.heap.size w w' := by
  obtain ⟨p, c, hs, h1, h2, h3⟩ := h.slice
  obtain ⟨N, hN⟩ : ∃ N, v.list.length = N := ⟨_, rfl⟩
  rw [hN] at hs h1 h3
  subst hs
  unfold maxLen at h2
  have HN := Lib.hid hN
  have HV := Lib.hid h
  have HC := Lib.hid hc
  clear h hN hc
  have eg : ∀ args w, (callFunc 78 args).run Tryd.prog w = .ok (.enter 78 args) w := enters_of Tryd.func78 (by kernel_rfl) rfl
  go_enter Tryd.func88, Tryd.ntmps88
  go_wp2_with fail
  go_loopw [8] (fun v5 wr => ∃ k : Nat, k ≤ N ∧ v5 = .int .i64 k ∧ (∀ j (j1 : j < v.list.length), j < k → v.list[j].kind = el) ∧ Below w.heap.size w wr) (fun v5 _ => N - (intOf v5).toNat)
  case atStart => exact ⟨0, Nat.zero_le _, rfl, fun j _ h => by omega, Below.refl _ _⟩
  case round =>
    obtain ⟨k, hk', rfl, hsame, hbw⟩ := hrel
    have HR := Lib.hid (And.intro hsame hbw)
    clear hsame hbw
    by_cases hkN : (k : Int) < N
    · have ka : k < v.list.length := by rw [HN.out]; omega
      obtain ⟨b1, o1, rfl⟩ := h3 (by omega)
      obtain ⟨ta, hta, hia⟩ := (HV.out.blw HR.out.2).part rfl ka
      obtain ⟨c0, c1, c2, c3, c4⟩ := part_cells hta
      have hcl := unlike_any v.list[k] ta wr bx el hia (bs_cellV HR.out.2 HC.out)
      have HS := Lib.hid (show v.list[k].kind = el → ∀ j (j1 : j < v.list.length), j < k + 1 → v.list[j].kind = el from fun he j j1 hj => by
        by_cases e : j = k
        · subst e; exact he
        · exact HR.out.1 j j1 (by omega))
      have HF := Lib.hid (show v.list[k].kind ≠ el → ¬ Alike v el from fun he q => he (q _ (List.getElem_mem ka)))
      generalize v.list[k] = y at *
      obtain ⟨pa, ca, hsa, _⟩ := hia.slice
      subst hsa
      obtain ⟨na, hna⟩ : ∃ na, y.list.length = na := ⟨_, rfl⟩
      rw [hna] at c3 hcl
      clear hta hia hna
      by_cases hz : y.kind = el
      · have hzz : (y.kind != el) = false := by simpa using hz
        rw [hzz] at hcl
        have HS2 := Lib.hid (HS.out hz)
        clear hzz hz
        have HCL := Lib.hid hcl
        clear hcl
        go_wp2_with fail
        refine HCL.out.mono ?_
        rintro e w1 ⟨rfl, hb1⟩
        have HB1 := Lib.hid (HR.out.2.trans (hb1.mono HR.out.2.size))
        clear hb1 c0 c1 c2 c3 c4
        go_wp2_with fail
        go_roundw
        case rel => exact ⟨k + 1, by omega, by go_num, HS2.out, HB1.out⟩
        case measure => simp [intOf]; omega
      · have hzz : (y.kind != el) = true := by simpa using hz
        rw [hzz] at hcl
        have HF2 := Lib.hid (HF.out hz)
        clear hzz hz
        have HCL := Lib.hid hcl
        clear hcl
        go_wp2_with fail
        refine HCL.out.mono ?_
        rintro e w1 ⟨rfl, hb1⟩
        have HB1 := Lib.hid (HR.out.2.trans (hb1.mono HR.out.2.size))
        clear hb1 c0 c1 c2 c3 c4
        go_wp2_with fail
        go_ret
        exact ⟨k, rfl, ⟨fun _ => HF2.out, fun _ => by omega⟩, HB1.out⟩
    · have HE := Lib.hid (show Alike v el from fun x hx => by
        obtain ⟨j, hj, rfl⟩ := List.getElem_of_mem hx
        exact HR.out.1 j hj (by have := HN.out; omega))
      go_wp2_with fail
      go_ret
      exact ⟨-1, rfl, ⟨fun q => by omega, fun q => (q HE.out).elim⟩, HR.out.2⟩

set_option maxRecDepth 20000 in
set_option maxHeartbeats 4000000 in
theorem contains_any (v : V) (w : World) (s : Value) (bx : Nat) (el : Int) (h : VIn w v s) (hc : w.cell? ⟨bx, 4, none⟩ = some (.int .i64 el)) :
    Calls Tryd.prog 77 #[s, .func (.func 78) #[] #[.pointer (some ⟨bx, 0, none⟩)]] w fun e w' => e = .returned (.bool (decide (¬ Alike v el))) ∧ Below w.heap.size w w' := by
  have hc := index_any v w s bx el h hc
  obtain ⟨p, c, hs, h1, h2, h3⟩ := h.slice
  subst hs
  clear h
  go_enter Tryd.func77, Tryd.ntmps77
  go_wp2_with fail
  refine hc.mono ?_
  clear hc
  rintro e w1 ⟨m, rfl, hm, hb1⟩
  have HM := Lib.hid (And.intro hm hb1)
  clear hm hb1
  go_wp2_with fail
  all_goals
    go_ret
    refine ⟨ret_boolV ?_, HM.out.2⟩
    rw [Bool.eq_iff_iff]
    simp only [decide_eq_true_eq, ← HM.out.1]

set_option maxRecDepth 20000 in
set_option maxHeartbeats 4000000 in
theorem isArray_any (v : V) (w : World) (s : Value) (h : VIn w v s) :
    Calls Tryd.prog 67 #[.agg #[.int .i64 v.kind, .int .u64 v.num, .string v.text, s, .int .i64 v.elem]] w fun e w' => e = .returned (.bool (arrOk v)) ∧ Below w.heap.size w w' := by
  obtain ⟨p, c, hs, h1, h2, h3⟩ := h.slice
  obtain ⟨N, hN⟩ : ∃ N, v.list.length = N := ⟨_, rfl⟩
  rw [hN] at hs h1 h3
  subst hs
  unfold maxLen at h2
  obtain ⟨D, hD⟩ : ∃ D, arrOk v = D := ⟨_, rfl⟩
  rw [hD]
  have HD := Lib.hid hD
  have HV := Lib.hid h
  have HN := Lib.hid hN
  have hmf : ∀ (fn : Fn) (first cap : Array Value) (w : World), (Instr.makeFunc fn first cap).run Tryd.prog w = .ok (.func fn first cap) w := fun _ _ _ _ => rfl
  clear h hN hD
  go_enter Tryd.func67, Tryd.ntmps67
  go_upto_region 1 with fail
  have hb0 : Below w.heap.size w (w.alloc (.cells #[.int .i64 v.kind, .int .u64 v.num, .string v.text, (.slice p N c), .int .i64 v.elem] 25)) := ((Below.refl _ _).alloc (Nat.le_refl _) _)
  have ox : (w.alloc (.cells #[.int .i64 v.kind, .int .u64 v.num, .string v.text, (.slice p N c), .int .i64 v.elem] 25)).heap[w.heap.size]? = some (.cells #[.int .i64 v.kind, .int .u64 v.num, .string v.text, (.slice p N c), .int .i64 v.elem] 25 (0, 0)) := _root_.Go.heap_alloc_new _ _
  generalize (w.alloc (.cells #[.int .i64 v.kind, .int .u64 v.num, .string v.text, (.slice p N c), .int .i64 v.elem] 25)) = w0 at *
  obtain ⟨x, hx⟩ : ∃ x, w.heap.size = x := ⟨_, rfl⟩
  rw [hx] at ox ⊢
  have HB0 := Lib.hid hb0
  have HOx := Lib.hid ox
  clear hb0 ox hx
  have x3 : w0.cell? ⟨x, 3, none⟩ = some (.slice p N c) := (cell_of_row _ _ 3 _ _ _ HOx.out).trans rfl
  have x4 : w0.cell? ⟨x, 4, none⟩ = some (.int .i64 v.elem) := (cell_of_row _ _ 4 _ _ _ HOx.out).trans rfl
  have hcon := contains_any v w0 _ x v.elem (HV.out.blw HB0.out) x4
  have HC := Lib.hid hcon
  clear hcon
  by_cases e1 : v.elem ≤ 0
  · have HDX := Lib.hid (show D = false by rw [← HD.out]; exact decide_eq_false (fun q => by omega))
    go_wp2_with fail
    all_goals
      go_ret
      exact ⟨by rw [HDX.out]; rfl, HB0.out⟩
  · by_cases e2 : 24 ≤ v.elem
    · have HDX := Lib.hid (show D = false by rw [← HD.out]; exact decide_eq_false (fun q => by omega))
      go_wp2_with fail
      all_goals
        go_ret
        exact ⟨by rw [HDX.out]; rfl, HB0.out⟩
    · have HDX := Lib.hid (show D = !(decide (¬ Alike v v.elem)) by
        rw [← HD.out, Bool.eq_iff_iff]
        simp only [arrOk, decide_eq_true_eq, Bool.not_eq_true', decide_eq_false_iff_not, Classical.not_not]
        exact ⟨fun q => q.2.2, fun q => ⟨by omega, by omega, q⟩⟩)
      have hz : ∃ z, decide (¬ Alike v v.elem) = z := ⟨_, rfl⟩
      obtain ⟨z, hz⟩ := hz
      have HZ := Lib.hid hz
      have hcon := HC.out
      rw [hz] at hcon
      have HC2 := Lib.hid hcon
      clear hz hcon
      go_wp2_with fail
      refine HC2.out.mono ?_
      rintro e w1 ⟨rfl, hb1⟩
      have HB1 := Lib.hid (HB0.out.trans (hb1.mono HB0.out.size))
      clear hb1 x3 x4
      go_wp2_with fail
      all_goals
        go_ret
        exact ⟨by rw [HDX.out, HZ.out]; first | rfl | simp_all, HB1.out⟩

end Go.Proofs.YtakbgekamjpibaaDoor
