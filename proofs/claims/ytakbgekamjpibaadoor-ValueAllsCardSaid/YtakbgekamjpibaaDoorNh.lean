/-
  ValueDepths. Conditions: the value lies in memory; the tables stand.
-/
import Derived.Test.YtakbgekamjpibaaDoorNb
import Derived.Test.YtakbgekamjpibaaDoorMg16
import Derived.Test.YtakbgekamjpibaaDoorMg24
namespace Go.Proofs.YtakbgekamjpibaaDoor
open Go.RowKit
set_option linter.unusedVariables false

attribute [local go_sem] Oper.semAt_some

theorem deps_mem {l : List V} {x : V} (hx : x ∈ l) : ∀ n : Int, 0 ≤ n → x.dep ≤ deps l n := by
  induction l with
  | nil => cases hx
  | cons a r ih =>
    intro n hn
    have h1 := (dep_bd a).1
    rw [deps, deps_mono r _ (by omega)]
    rcases List.mem_cons.1 hx with rfl | h
    · omega
    · have := ih h 0 (Int.le_refl _); omega
theorem dep_part {v x : V} (hx : x ∈ v.list) : x.dep + 1 ≤ v.dep := by
  have := deps_mem hx 0 (Int.le_refl _)
  rw [v.dep_eq]
  omega

set_option maxRecDepth 20000 in
set_option maxHeartbeats 4000000 in
theorem tale_any : ∀ (v : V) (w : World) (s : Value) (d n : Int), VIn w v s → 1 ≤ d → d + v.dep ≤ 200002 → 0 ≤ n → n ≤ 100000 →
    Calls Tryd.prog 50 #[.agg #[.int .i64 v.kind, .int .u64 v.num, .string v.text, s, .int .i64 v.elem], .int .i64 d, .int .i64 n] w fun e w' => (∃ m, e = .returned (.int .i64 m) ∧ 0 ≤ m ∧ m ≤ 300002) ∧ Below w.heap.size w w' := by
  refine V.ind (fun v ih w s d n h hd1 hdd hn0 hn1 => ?_)
  obtain ⟨p, c, hs, h1, h2, h3⟩ := h.slice
  obtain ⟨N, hN⟩ : ∃ N, v.list.length = N := ⟨_, rfl⟩
  have hvd := (dep_bd v).1
  rw [hN] at hs h1 h3
  subst hs
  unfold maxLen at h2
  have HI := Lib.hid ih
  have HN := Lib.hid (And.intro hN hdd)
  have HV := Lib.hid h
  have hd2 : d ≤ 200002 := by omega
  clear ih h hN hdd hvd
  go_enter Tryd.func50, Tryd.ntmps50
  go_upto_region 1 with fail
  have hb0 : Below w.heap.size w (w.alloc (.cells #[.int .i64 v.kind, .int .u64 v.num, .string v.text, (.slice p N c), .int .i64 v.elem] 25)) := ((Below.refl _ _).alloc (Nat.le_refl _) _)
  have ox : (w.alloc (.cells #[.int .i64 v.kind, .int .u64 v.num, .string v.text, (.slice p N c), .int .i64 v.elem] 25)).heap[w.heap.size]? = some (.cells #[.int .i64 v.kind, .int .u64 v.num, .string v.text, (.slice p N c), .int .i64 v.elem] 25 (0, 0)) := _root_.Go.heap_alloc_new _ _
  generalize (w.alloc (.cells #[.int .i64 v.kind, .int .u64 v.num, .string v.text, (.slice p N c), .int .i64 v.elem] 25)) = w0 at *
  obtain ⟨x, hx⟩ : ∃ x, w.heap.size = x := ⟨_, rfl⟩
  rw [hx] at ox ⊢
  have HB0 := Lib.hid hb0
  have x3 : w0.cell? ⟨x, 3, none⟩ = some (.slice p N c) := (cell_of_row _ _ 3 _ _ _ ox).trans rfl
  clear hb0 ox hx
  go_wp2_with fail
  go_loopw [2, 7] (fun v2 v7 wr => ∃ (k : Nat) (m : Int), k ≤ N ∧ v7 = .int .i64 k ∧ v2 = .int .i64 m ∧ 0 ≤ m ∧ m ≤ 300002 ∧ Below w0.heap.size w0 wr) (fun _ v7 _ => N - (intOf v7).toNat)
  case atStart => exact ⟨0, _, Nat.zero_le _, rfl, rfl, by omega, by omega, Below.refl _ _⟩
  case round =>
    obtain ⟨k, m, hk, rfl, rfl, hm0, hm1, hb⟩ := hrel
    have HR := Lib.hid hb
    have x3 := bs_cellV hb x3
    clear hb
    by_cases hkN : (k : Int) < N
    · by_cases hmm : m ≤ 100000
      · have hk' : k < v.list.length := by rw [HN.out.1]; omega
        obtain ⟨b, o, rfl⟩ := h3 (by omega)
        have hB := HB0.out.trans (HR.out.mono HB0.out.size)
        obtain ⟨t, ht, hin⟩ := (HV.out.blw hB).part rfl hk'
        obtain ⟨c0, c1, c2, c3, c4⟩ := part_cells ht
        have hc := HI.out _ (List.getElem_mem hk') wr t (d + 1) m hin (by omega) (by have h1 := dep_part (List.getElem_mem hk'); have h2 := HN.out.2; omega) hm0 hmm
        generalize v.list[k] = y at *
        have HC := Lib.hid hc
        clear hB ht hin hc
        go_wp2_with fail
        refine HC.out.mono ?_
        clear c0 c1 c2 c3 c4
        rintro e w1 ⟨⟨m2, rfl, h20, h21⟩, hb1⟩
        have HB1 := Lib.hid (HR.out.trans (hb1.mono HR.out.size))
        clear hb1
        go_wp2_with fail
        go_roundw
        case rel => exact ⟨k + 1, m2, by omega, by go_num, rfl, h20, h21, HB1.out⟩
        case measure => simp [intOf]; omega
      · go_wp2_with fail
        go_ret
        exact ⟨⟨m, rfl, hm0, hm1⟩, HB0.out.trans (HR.out.mono HB0.out.size)⟩
    · by_cases hmm : m ≤ 100000
      all_goals
        go_wp2_with fail
        go_ret
        exact ⟨⟨m, rfl, hm0, hm1⟩, HB0.out.trans (HR.out.mono HB0.out.size)⟩

set_option maxRecDepth 20000 in
set_option maxHeartbeats 4000000 in
theorem long_any (v : V) (w : World) (s : Value) (h : VIn w v s) (hwt : v.wt ≤ 100000) :
    Calls Tryd.prog 23 #[.agg #[.int .i64 v.kind, .int .u64 v.num, .string v.text, s, .int .i64 v.elem]] w fun e w' => (∃ q : Bool, e = .returned (.bool q)) ∧ Below w.heap.size w w' := by
  obtain ⟨p, c, hs, _⟩ := h.slice
  obtain ⟨N, hN⟩ : ∃ N, v.list.length = N := ⟨_, rfl⟩
  rw [hN] at hs
  subst hs
  have hvd := dep_bd v
  have HV := Lib.hid h
  have HVD := Lib.hid (show (1 : Int) + v.dep ≤ 200002 by omega)
  clear h hN hvd
  go_enter Tryd.func23, Tryd.ntmps23
  go_upto_region 1 with fail
  have hb0 : Below w.heap.size w (w.alloc (.cells #[.int .i64 v.kind, .int .u64 v.num, .string v.text, (.slice p N c), .int .i64 v.elem] 25)) := ((Below.refl _ _).alloc (Nat.le_refl _) _)
  have ox : (w.alloc (.cells #[.int .i64 v.kind, .int .u64 v.num, .string v.text, (.slice p N c), .int .i64 v.elem] 25)).heap[w.heap.size]? = some (.cells #[.int .i64 v.kind, .int .u64 v.num, .string v.text, (.slice p N c), .int .i64 v.elem] 25 (0, 0)) := _root_.Go.heap_alloc_new _ _
  generalize (w.alloc (.cells #[.int .i64 v.kind, .int .u64 v.num, .string v.text, (.slice p N c), .int .i64 v.elem] 25)) = w0 at *
  obtain ⟨x, hx⟩ : ∃ x, w.heap.size = x := ⟨_, rfl⟩
  rw [hx] at ox ⊢
  have x0 : w0.cell? ⟨x, 0, none⟩ = some (.int .i64 v.kind) := (cell_of_row _ _ 0 _ _ _ ox).trans rfl
  have x1 : w0.cell? ⟨x, 1, none⟩ = some (.int .u64 v.num) := (cell_of_row _ _ 1 _ _ _ ox).trans rfl
  have x2 : w0.cell? ⟨x, 2, none⟩ = some (.string v.text) := (cell_of_row _ _ 2 _ _ _ ox).trans rfl
  have x3 : w0.cell? ⟨x, 3, none⟩ = some (.slice p N c) := (cell_of_row _ _ 3 _ _ _ ox).trans rfl
  have x4 : w0.cell? ⟨x, 4, none⟩ = some (.int .i64 v.elem) := (cell_of_row _ _ 4 _ _ _ ox).trans rfl
  have hc := tale_any v w0 _ 1 0 (HV.out.blw hb0) (by omega) HVD.out (by omega) (by omega)
  have HC := Lib.hid hc
  have HB0 := Lib.hid hb0
  clear hb0 ox hx hc
  go_wp2_with fail
  refine HC.out.mono ?_
  clear x0 x1 x2 x3 x4
  rintro e w1 ⟨⟨m, rfl, h0, h1⟩, hb1⟩
  have HB1 := Lib.hid (HB0.out.trans (hb1.mono HB0.out.size))
  clear hb1
  by_cases hm : 100000 < m
  · go_wp2_with fail
    go_ret
    exact ⟨⟨_, rfl⟩, HB1.out⟩
  · go_wp2_with fail
    go_ret
    exact ⟨⟨_, rfl⟩, HB1.out⟩

set_option maxRecDepth 20000 in
set_option maxHeartbeats 4000000 in
theorem round_deepest {D lp : Nat} (K : LoopBook D lp) (wE W : World) (r : Nat) (L : List (Int × V)) (k : Nat) (d : Int) (x : V) (F : Nat → Prop) (v0 v1 v2 v3 v6 v7 v8 v9 v10 y : Value) (asg bdy : Code) (hrf : (Tryd.f26.body.bind rfOf) = some (asg, bdy))
    (hrd : K.rdy W) (hI : CellI wE r max (fun _ => True) L k (fun j => j = r) W) (hL : L[k]? = some (d, x)) (hDz : D + 2 ≤ W.heap.size) (hlp : lp = D + 1) (hrD : r < D) :
    RoundOf Tryd.prog K #[v0, v1, v2, v3, .pointer (some ⟨r, 0, none⟩), undef, v6, v7, v8, v9, v10, undef, undef, undef, undef, undef, undef] #[11, 12] asg bdy #[.int .i64 d, y] W
      (fun W3 => ∃ O2, CellI wE r max (fun _ => True) L (k + 1) O2 W3 ∧ KeepR lp (fun j => j = r ∨ F j) W O2 W3) (fun c W3 => ∃ O2, False ∧ KeepR lp (fun j => j = r ∨ F j) W O2 W3) := by
  simp only [Tryd.f26, Option.bind_some, rfOf, Option.some.injEq, Prod.mk.injEq] at hrf
  obtain ⟨rfl, rfl⟩ := hrf
  unfold RoundOf
  obtain ⟨_, hB, hrE, m, _, hc, hf⟩ := hI
  refine wpIn_mono (Q := fun e a Wa => e = .normal ∧ a = { tmps := #[v0, v1, v2, v3, .pointer (some ⟨r, 0, none⟩), .int .i64 d, v6, v7, v8, v9, v10, .int .i64 d, y, undef, undef, undef, undef], defers := [] } ∧ Wa = W) ?_ ?_
  · gi_wp2
  · rintro e a' Wa ⟨rfl, rfl, rfl⟩
    refine ⟨hrd, ?_⟩
    intro Wb ht hb
    have hib := inBody_of (Below.refl _ _) ht
    have hcb := (hib.rest r (Array.getElem?_eq_some_iff.1 hc).1 (by omega)).trans hc
    have hBb := hib.below hB (by omega)
    have c0 : Wb.cell? ⟨r, 0, none⟩ = some (.int .i64 m) := (cell_of_row _ _ 0 _ _ _ hcb).trans rfl
    have f0 : Wb.frozen? ⟨r, 0, none⟩ = false := by simp [World.frozen?, hcb]
    have H := Lib.hid (And.intro hib (And.intro hcb (And.intro hBb (And.intro hb (And.intro hf hrE)))))
    have HN := Lib.hid (And.intro hlp (And.intro hrD hL))
    clear hib hcb hBb hb hf hrE hlp hrD hL hDz ht hB hc hrd
    gi_wp2
    all_goals
      obtain ⟨hib, hcb, hBb, hb, hf, hrE⟩ := H.out
      obtain ⟨hlp, hrD, hL⟩ := HN.out
      have hfar : ∀ j, j ≠ r → (Wb.setCell ⟨r, 0, none⟩ (.int .i64 (max m d))).heap[j]? = Wb.heap[j]? := fun j hj => set_farV hj
      have hsz : (Wb.setCell ⟨r, 0, none⟩ (.int .i64 (max m d))).heap.size = Wb.heap.size := by simp
      have hk := hib.keepR (Below.refl _ _) (fun j => j = r)
      exact ⟨K.keepB _ _ hb (hfar D (by omega)) (hfar lp (by omega)), _, CellI.next hBb hrE hcb hf hL trivial, hk.os, hk.tape, hk.output, by rw [hsz]; exact hk.size, fun j h1 h2 h3 => (hfar j (fun e => h2 (.inl e))).trans (hk.block j h1 (fun e => h2 (.inl e)) h3), fun j hj => .inl (.inl hj)⟩

set_option maxRecDepth 20000 in
set_option maxHeartbeats 4000000 in
theorem deepest_any (v : V) (w : World) (s : Value) (h : VIn w v s) (hwt : v.wt ≤ 1000000) :
    Calls Tryd.prog 26 #[.agg #[.int .i64 v.kind, .int .u64 v.num, .string v.text, s, .int .i64 v.elem]] w fun e w' => e = .returned (.int .i64 v.dep) ∧ Below w.heap.size w w' := by
  obtain ⟨p, c, hs, _⟩ := h.slice
  obtain ⟨N, hN⟩ : ∃ N, v.list.length = N := ⟨_, rfl⟩
  rw [hN] at hs
  subst hs
  have HV := Lib.hid h
  have hfn := func_nil
  clear h hN
  refine calls_of_wp_marks Tryd.func26 rfl ?_
  simp only [Tryd.ntmps26, List.size_toArray, List.length_cons, List.length_nil, Nat.reduceAdd, Nat.reduceSub, Array.replicate_succ, Array.replicate_zero, List.push_toArray, List.append_toArray, List.nil_append, List.cons_append]
  go_upto_region 1 with fail
  have hb0 : Below w.heap.size w (w.alloc (.cells #[.int .i64 v.kind, .int .u64 v.num, .string v.text, (.slice p N c), .int .i64 v.elem] 25)) := ((Below.refl _ _).alloc (Nat.le_refl _) _)
  have ox : (w.alloc (.cells #[.int .i64 v.kind, .int .u64 v.num, .string v.text, (.slice p N c), .int .i64 v.elem] 25)).heap[w.heap.size]? = some (.cells #[.int .i64 v.kind, .int .u64 v.num, .string v.text, (.slice p N c), .int .i64 v.elem] 25 (0, 0)) := _root_.Go.heap_alloc_new _ _
  generalize (w.alloc (.cells #[.int .i64 v.kind, .int .u64 v.num, .string v.text, (.slice p N c), .int .i64 v.elem] 25)) = w0 at *
  obtain ⟨x, hx⟩ : ∃ x, w.heap.size = x := ⟨_, rfl⟩
  rw [hx] at ox ⊢
  have x0 : w0.cell? ⟨x, 0, none⟩ = some (.int .i64 v.kind) := (cell_of_row _ _ 0 _ _ _ ox).trans rfl
  have x1 : w0.cell? ⟨x, 1, none⟩ = some (.int .u64 v.num) := (cell_of_row _ _ 1 _ _ _ ox).trans rfl
  have x2 : w0.cell? ⟨x, 2, none⟩ = some (.string v.text) := (cell_of_row _ _ 2 _ _ _ ox).trans rfl
  have x3 : w0.cell? ⟨x, 3, none⟩ = some (.slice p N c) := (cell_of_row _ _ 3 _ _ _ ox).trans rfl
  have x4 : w0.cell? ⟨x, 4, none⟩ = some (.int .i64 v.elem) := (cell_of_row _ _ 4 _ _ _ ox).trans rfl
  have hc := all_any v w0 _ (HV.out.blw hb0) hwt
  have HC := Lib.hid hc
  have HB0 := Lib.hid hb0
  clear hb0 ox hx hc
  go_wp2_with fail
  refine HC.out.mono ?_
  clear x0 x1 x2 x3 x4
  rintro e w3 ⟨xa, u, FA, rfl, hxa, hvoa, hFx, hza, hb3⟩
  have HO3 := Lib.hid (And.intro hxa (And.intro hvoa (And.intro hFx (And.intro hza hb3))))
  clear hxa hvoa hFx hza hb3
  go_upto_region 5 with fail
  have hb4 : Below w3.heap.size w3 (w3.alloc (.cells #[.int .i64 0] 3)) := (Below.refl _ _).alloc (Nat.le_refl _) _
  have or4 : (w3.alloc (.cells #[.int .i64 0] 3)).heap[w3.heap.size]? = some (.cells #[.int .i64 0] 3 (0, 0)) := _root_.Go.heap_alloc_new _ _
  generalize (w3.alloc (.cells #[.int .i64 0] 3)) = w4 at *
  obtain ⟨r, hr⟩ : ∃ r, w3.heap.size = r := ⟨_, rfl⟩
  rw [hr] at or4 ⊢
  have hrl := (Array.getElem?_eq_some_iff.1 or4).1
  go_wp2_with fail
  obtain ⟨hxa, hvoa, hFx, hza, hb3⟩ := HO3.out
  have hxa4 := (hb4.block xa (Array.getElem?_eq_some_iff.1 hxa).1).trans hxa
  refine wp_range_all (x := xa) (v := v) (s := u) (F0 := FA) rfl rfl hxa4 (hvoa.blw hb4) hwt (fun k O W => CellI w3 r max (fun _ => True) (v.pre 1) k O W) (fun _ _ _ => False) (fun j => j = r) ?_ ?_ ?_ ?_ ?_ ?_ ?_ ?_
  · rintro k O W ⟨_, hB, _⟩ j hj
    have := (hvoa.lt j hj).2
    rw [hB.block j this, hb4.block j this]
  · rintro k O W hI
    exact hI.fresh
  · rintro k O W W' d hI hg hd hO
    exact hI.turn hg (by have := hb4.size; omega) hO
  · rintro cc O W W' d h
    exact h.elim
  · exact ⟨rfl, hb4, by omega, 0, trivial, or4, by rw [List.drop_zero]⟩
  · intro K k O d z t F W W' hrd hI n1 n2 hz hL hbw hzo
    have hI2 := hI.turn (d := w4.heap.size) (grown_below hbw _) (by have := hb4.size; omega) n1
    obtain ⟨rfl, hI3⟩ := hI2
    exact round_deepest K w3 W' r _ k d z F _ _ _ _ _ _ _ _ _ _ _ _ (by kernel_rfl) hrd ⟨rfl, hI3⟩ hL (Nat.le_trans hz hbw.size) rfl hrl
  · rintro O W ⟨rfl, hB, hw1, m, _, hc, hf⟩ hD hO
    rw [List.drop_length, foldD, foldD_pre v 1 0] at hf
    have hdb := (dep_bd v).1
    have hf2 : m = v.dep := by omega
    clear hf
    subst hf2
    have hBW : Below w.heap.size w W := by
      have h1 := HB0.out
      exact (h1.trans (hb3.mono h1.size)).trans (hB.mono (h1.trans (hb3.mono h1.size)).size)
    have H := Lib.hid (And.intro hBW hD)
    have c0 : W.cell? ⟨r, 0, none⟩ = some (.int .i64 v.dep) := (cell_of_row _ _ 0 _ _ _ hc).trans rfl
    have HSZ := Lib.hid (show w.heap.size ≤ w4.heap.size by have := HB0.out.size; have := hb3.size; have := hb4.size; omega)
    clear hBW hB hw1 hc hD hO hdb
    simp only [Exit.inBlock, Exit.then]
    go_at_K
    go_wp2_with fail
    exact leaves_one (u := .int .i64 v.dep) H.out.2 (by simp [results, Tryd.f26, go_sem]) ⟨rfl, below_putObj H.out.1 HSZ.out _⟩
  · rintro cc O W h
    exact h.elim

set_option maxRecDepth 20000 in
set_option maxHeartbeats 4000000 in
theorem depths_walk (w : World) (hT : Tabs w) (a : V) (s : Value) (ha : VIn w a s) :
    Calls Tryd.prog 5 #[.agg #[.int .i64 a.kind, .int .u64 a.num, .string a.text, s, .int .i64 a.elem]] w fun e w' => e = .returned (.bool true) ∧ Below w.heap.size w w' := by
  obtain ⟨pa, ca, hsa, hja⟩ := ha.slice
  clear hja
  obtain ⟨na, hna⟩ : ∃ n, a.list.length = n := ⟨_, rfl⟩
  rw [hna] at hsa
  subst hsa
  have HV := Lib.hid ha
  have HT := Lib.hid hT
  clear ha hT
  have HNA := Lib.hid hna
  clear hna
  go_enter Tryd.func5, Tryd.ntmps5
  go_upto_region 1 with fail
  have hb0 : Below w.heap.size w (w.alloc (.cells #[.int .i64 a.kind, .int .u64 a.num, .string a.text, .slice pa na ca, .int .i64 a.elem] 25)) := (Below.refl _ _).alloc (Nat.le_refl _) _
  have o0 : (w.alloc (.cells #[.int .i64 a.kind, .int .u64 a.num, .string a.text, .slice pa na ca, .int .i64 a.elem] 25)).heap[w.heap.size]? = some (.cells #[.int .i64 a.kind, .int .u64 a.num, .string a.text, .slice pa na ca, .int .i64 a.elem] 25 (0, 0)) := _root_.Go.heap_alloc_new w _
  generalize (w.alloc (.cells #[.int .i64 a.kind, .int .u64 a.num, .string a.text, .slice pa na ca, .int .i64 a.elem] 25)) = w0 at *
  obtain ⟨x0, hx0⟩ : ∃ x, w.heap.size = x := ⟨_, rfl⟩
  rw [hx0] at o0
  rw [hx0]
  have HX_x0 := Lib.hid hx0
  have HZw := Lib.hid hb0.size
  have hlt0 := (Array.getElem?_eq_some_iff.1 o0).1
  have HLT0 := Lib.hid hlt0
  clear hlt0
  have HM1 : Hid ((Below w.heap.size w w0) ∧ (w0.heap[x0]? = some (.cells #[.int .i64 a.kind, .int .u64 a.num, .string a.text, .slice pa na ca, .int .i64 a.elem] 25 (0, 0)))) := Lib.hid ((And.intro hb0 o0))
  clear hb0 o0 hx0
  have hc := awake_any w0 (HT.out.below HM1.out.1)
  have HC1 := Lib.hid hc
  clear hc
  go_wp2_with fail
  refine HC1.out.mono ?_
  rintro e W1 ⟨rfl, hb⟩
  have hz1 : w0.heap.size ≤ W1.heap.size := hb.size
  have HZ1 := Lib.hid hz1
  clear hz1
  have HM2 : Hid ((Below w.heap.size w W1) ∧ (W1.heap[x0]? = some (.cells #[.int .i64 a.kind, .int .u64 a.num, .string a.text, .slice pa na ca, .int .i64 a.elem] 25 (0, 0)))) := Lib.hid ((And.intro (HM1.out.1.trans (hb.mono HM1.out.1.size)) ((hb.block _ (Array.getElem?_eq_some_iff.1 HM1.out.2).1).trans HM1.out.2)))
  clear HM1
  clear hb
  obtain ⟨G, hG⟩ : ∃ G, decide (100000 < a.wt) = G := ⟨_, rfl⟩
  have HGD := Lib.hid hG
  clear hG
  have hc := great_any a W1 _ (HV.out.blw HM2.out.1)
  rw [HGD.out] at hc
  have HC2 := Lib.hid hc
  clear hc
  have q := HM2.out.2
  have x0_0 : W1.cell? ⟨x0, 0, none⟩ = some (.int .i64 a.kind) := (cell_of_row _ _ 0 _ _ _ q).trans rfl
  have x0_1 : W1.cell? ⟨x0, 1, none⟩ = some (.int .u64 a.num) := (cell_of_row _ _ 1 _ _ _ q).trans rfl
  have x0_2 : W1.cell? ⟨x0, 2, none⟩ = some (.string a.text) := (cell_of_row _ _ 2 _ _ _ q).trans rfl
  have x0_3 : W1.cell? ⟨x0, 3, none⟩ = some (.slice pa na ca) := (cell_of_row _ _ 3 _ _ _ q).trans rfl
  have x0_4 : W1.cell? ⟨x0, 4, none⟩ = some (.int .i64 a.elem) := (cell_of_row _ _ 4 _ _ _ q).trans rfl
  clear q
  go_wp2_with fail
  refine HC2.out.mono ?_
  clear x0_0 x0_1 x0_2 x0_3 x0_4
  rintro e W2 ⟨rfl, hb⟩
  have hz2 : W1.heap.size ≤ W2.heap.size := hb.size
  have HZ2 := Lib.hid hz2
  clear hz2
  have HM3 : Hid ((Below w.heap.size w W2) ∧ (W2.heap[x0]? = some (.cells #[.int .i64 a.kind, .int .u64 a.num, .string a.text, .slice pa na ca, .int .i64 a.elem] 25 (0, 0)))) := Lib.hid ((And.intro (HM2.out.1.trans (hb.mono HM2.out.1.size)) ((hb.block _ (Array.getElem?_eq_some_iff.1 HM2.out.2).1).trans HM2.out.2)))
  clear HM2
  clear hb
  cases G
  rotate_left
  · go_wp2_with fail
    go_ret
    exact ⟨rfl, HM3.out.1⟩
  have HW := Lib.hid (show a.wt ≤ 100000 from by have h1 := of_decide_eq_false HGD.out; omega)
  obtain ⟨dp, hdp⟩ : ∃ dp, a.dep = dp := ⟨_, rfl⟩
  have HDP := Lib.hid hdp
  have HFD := Lib.hid (show foldD max 0 (a.pre 1) = dp from by rw [foldD_pre a 1 0, ← hdp]; have := (dep_bd a).1; omega)
  clear hdp
  have hc := long_any a W2 _ (HV.out.blw HM3.out.1) HW.out
  have HC3 := Lib.hid hc
  clear hc
  have q := HM3.out.2
  have x0_0 : W2.cell? ⟨x0, 0, none⟩ = some (.int .i64 a.kind) := (cell_of_row _ _ 0 _ _ _ q).trans rfl
  have x0_1 : W2.cell? ⟨x0, 1, none⟩ = some (.int .u64 a.num) := (cell_of_row _ _ 1 _ _ _ q).trans rfl
  have x0_2 : W2.cell? ⟨x0, 2, none⟩ = some (.string a.text) := (cell_of_row _ _ 2 _ _ _ q).trans rfl
  have x0_3 : W2.cell? ⟨x0, 3, none⟩ = some (.slice pa na ca) := (cell_of_row _ _ 3 _ _ _ q).trans rfl
  have x0_4 : W2.cell? ⟨x0, 4, none⟩ = some (.int .i64 a.elem) := (cell_of_row _ _ 4 _ _ _ q).trans rfl
  clear q
  go_wp2_with fail
  refine HC3.out.mono ?_
  clear x0_0 x0_1 x0_2 x0_3 x0_4
  rintro e W3 ⟨⟨lq, rfl⟩, hb⟩
  have hz3 : W2.heap.size ≤ W3.heap.size := hb.size
  have HZ3 := Lib.hid hz3
  clear hz3
  have HM4 : Hid ((Below w.heap.size w W3) ∧ (W3.heap[x0]? = some (.cells #[.int .i64 a.kind, .int .u64 a.num, .string a.text, .slice pa na ca, .int .i64 a.elem] 25 (0, 0)))) := Lib.hid ((And.intro (HM3.out.1.trans (hb.mono HM3.out.1.size)) ((hb.block _ (Array.getElem?_eq_some_iff.1 HM3.out.2).1).trans HM3.out.2)))
  clear HM3
  clear hb
  have hc := lent_on a W3 _ (HV.out.blw HM4.out.1) (by have := HW.out; omega)
  have HC4 := Lib.hid hc
  clear hc
  have q := HM4.out.2
  have x0_0 : W3.cell? ⟨x0, 0, none⟩ = some (.int .i64 a.kind) := (cell_of_row _ _ 0 _ _ _ q).trans rfl
  have x0_1 : W3.cell? ⟨x0, 1, none⟩ = some (.int .u64 a.num) := (cell_of_row _ _ 1 _ _ _ q).trans rfl
  have x0_2 : W3.cell? ⟨x0, 2, none⟩ = some (.string a.text) := (cell_of_row _ _ 2 _ _ _ q).trans rfl
  have x0_3 : W3.cell? ⟨x0, 3, none⟩ = some (.slice pa na ca) := (cell_of_row _ _ 3 _ _ _ q).trans rfl
  have x0_4 : W3.cell? ⟨x0, 4, none⟩ = some (.int .i64 a.elem) := (cell_of_row _ _ 4 _ _ _ q).trans rfl
  clear q
  go_wp2_with fail
  refine HC4.out.mono ?_
  clear x0_0 x0_1 x0_2 x0_3 x0_4
  rintro e W4 ⟨t_x6, F6, rfl, hvl, hb⟩
  obtain ⟨g_x6, hs, hj1, hj2⟩ := hvl.slice
  clear hj1 hj2
  rw [HNA.out] at hs
  subst hs
  have HIN_F6 : Hid (∀ g, F6 g → W3.heap.size ≤ g ∧ g < W4.heap.size) := Lib.hid (hvl.lt)
  have hz4 : W3.heap.size ≤ W4.heap.size := hb.size
  have HZ4 := Lib.hid hz4
  clear hz4
  have HM5 : Hid ((Below w.heap.size w W4) ∧ (W4.heap[x0]? = some (.cells #[.int .i64 a.kind, .int .u64 a.num, .string a.text, .slice pa na ca, .int .i64 a.elem] 25 (0, 0))) ∧ (VL W4 W3.heap.size a (.slice (some ⟨g_x6, 0, none⟩) na (na + 3)) F6)) := Lib.hid ((And.intro (HM4.out.1.trans (hb.mono HM4.out.1.size)) (And.intro ((hb.block _ (Array.getElem?_eq_some_iff.1 HM4.out.2).1).trans HM4.out.2) hvl)))
  clear HM4
  clear hb hvl
  go_upto_region 9 with (refine wpList_store_rowTo rfl 25 (.tmp 6) (.tmp 20) rfl rfl W4.heap.size #[.int .i64 a.kind, .int .u64 a.num, .string a.text, .slice (some ⟨g_x6, 0, none⟩) na (na + 3), .int .i64 a.elem] rfl rfl 25 #[.int .i64 0, .int .u64 0, .string ⟨#[]⟩, .slice none 0 0, .int .i64 0] (_root_.Go.heap_alloc_new W4 _) (by as_aux_lemma => kernel_rfl) (by as_aux_lemma => kernel_rfl) (by simp [Value.oneCell']) ?_)
  have hb_W5 : Below W4.heap.size W4 ((W4.alloc (.cells #[.int .i64 0, .int .u64 0, .string ⟨#[]⟩, .slice none 0 0, .int .i64 0] 25)).setRow W4.heap.size #[.int .i64 a.kind, .int .u64 a.num, .string a.text, .slice (some ⟨g_x6, 0, none⟩) na (na + 3), .int .i64 a.elem]) := below_setRow ((Below.refl _ _).alloc (Nat.le_refl _) _) (Nat.le_refl _) _
  have ox6 := setRow_heap (W4.alloc (.cells #[.int .i64 0, .int .u64 0, .string ⟨#[]⟩, .slice none 0 0, .int .i64 0] 25)) W4.heap.size _ #[.int .i64 a.kind, .int .u64 a.num, .string a.text, .slice (some ⟨g_x6, 0, none⟩) na (na + 3), .int .i64 a.elem] _ _ (_root_.Go.heap_alloc_new W4 _)
  change Code.wp _ _ _ _ ((W4.alloc (.cells #[.int .i64 0, .int .u64 0, .string ⟨#[]⟩, .slice none 0 0, .int .i64 0] 25)).setRow W4.heap.size #[.int .i64 a.kind, .int .u64 a.num, .string a.text, .slice (some ⟨g_x6, 0, none⟩) na (na + 3), .int .i64 a.elem])
  generalize ((W4.alloc (.cells #[.int .i64 0, .int .u64 0, .string ⟨#[]⟩, .slice none 0 0, .int .i64 0] 25)).setRow W4.heap.size #[.int .i64 a.kind, .int .u64 a.num, .string a.text, .slice (some ⟨g_x6, 0, none⟩) na (na + 3), .int .i64 a.elem]) = W5 at *
  obtain ⟨x6, hx_x6⟩ : ∃ x, W4.heap.size = x := ⟨_, rfl⟩
  rw [hx_x6] at ox6 ⊢
  have HX_x6 := Lib.hid hx_x6
  clear hx_x6
  have hlt := (Array.getElem?_eq_some_iff.1 ox6).1
  have HLT_x6 := Lib.hid hlt
  clear hlt
  have hz5 : W4.heap.size ≤ W5.heap.size := hb_W5.size
  have HZ5 := Lib.hid hz5
  clear hz5
  have HM6 : Hid ((Below w.heap.size w W5) ∧ (W5.heap[x0]? = some (.cells #[.int .i64 a.kind, .int .u64 a.num, .string a.text, .slice pa na ca, .int .i64 a.elem] 25 (0, 0))) ∧ (VL W5 W3.heap.size a (.slice (some ⟨g_x6, 0, none⟩) na (na + 3)) F6) ∧ (W5.heap[x6]? = some (.cells #[.int .i64 a.kind, .int .u64 a.num, .string a.text, .slice (some ⟨g_x6, 0, none⟩) na (na + 3), .int .i64 a.elem] 25 (0, 0)))) := Lib.hid ((And.intro (HM5.out.1.trans (hb_W5.mono HM5.out.1.size)) (And.intro ((hb_W5.block _ (Array.getElem?_eq_some_iff.1 HM5.out.2.1).1).trans HM5.out.2.1) (And.intro (HM5.out.2.2.blw hb_W5) ox6))))
  clear HM5
  clear hb_W5 ox6
  have hc := depth_any a W5 _ HM6.out.2.2.1.vin (by have := HW.out; omega)
  rw [HFD.out] at hc
  have HC6 := Lib.hid hc
  clear hc
  have q := HM6.out.2.2.2
  have x6_0 : W5.cell? ⟨x6, 0, none⟩ = some (.int .i64 a.kind) := (cell_of_row _ _ 0 _ _ _ q).trans rfl
  have x6_1 : W5.cell? ⟨x6, 1, none⟩ = some (.int .u64 a.num) := (cell_of_row _ _ 1 _ _ _ q).trans rfl
  have x6_2 : W5.cell? ⟨x6, 2, none⟩ = some (.string a.text) := (cell_of_row _ _ 2 _ _ _ q).trans rfl
  have x6_3 : W5.cell? ⟨x6, 3, none⟩ = some (.slice (some ⟨g_x6, 0, none⟩) na (na + 3)) := (cell_of_row _ _ 3 _ _ _ q).trans rfl
  have x6_4 : W5.cell? ⟨x6, 4, none⟩ = some (.int .i64 a.elem) := (cell_of_row _ _ 4 _ _ _ q).trans rfl
  clear q
  go_wp2_with fail
  refine HC6.out.mono ?_
  clear x6_0 x6_1 x6_2 x6_3 x6_4
  rintro e W6 ⟨rfl, hb⟩
  have hz6 : W5.heap.size ≤ W6.heap.size := hb.size
  have HZ6 := Lib.hid hz6
  clear hz6
  have HM7 : Hid ((Below w.heap.size w W6) ∧ (W6.heap[x0]? = some (.cells #[.int .i64 a.kind, .int .u64 a.num, .string a.text, .slice pa na ca, .int .i64 a.elem] 25 (0, 0))) ∧ (VL W6 W3.heap.size a (.slice (some ⟨g_x6, 0, none⟩) na (na + 3)) F6) ∧ (W6.heap[x6]? = some (.cells #[.int .i64 a.kind, .int .u64 a.num, .string a.text, .slice (some ⟨g_x6, 0, none⟩) na (na + 3), .int .i64 a.elem] 25 (0, 0)))) := Lib.hid ((And.intro (HM6.out.1.trans (hb.mono HM6.out.1.size)) (And.intro ((hb.block _ (Array.getElem?_eq_some_iff.1 HM6.out.2.1).1).trans HM6.out.2.1) (And.intro (HM6.out.2.2.1.blw hb) ((hb.block _ (Array.getElem?_eq_some_iff.1 HM6.out.2.2.2).1).trans HM6.out.2.2.2)))))
  clear HM6
  clear hb
  have hc := rdepth_any a W6 _ (HV.out.blw HM7.out.1) (by have := HW.out; omega)
  rw [HDP.out] at hc
  have HC7 := Lib.hid hc
  clear hc
  have q := HM7.out.2.1
  have x0_0 : W6.cell? ⟨x0, 0, none⟩ = some (.int .i64 a.kind) := (cell_of_row _ _ 0 _ _ _ q).trans rfl
  have x0_1 : W6.cell? ⟨x0, 1, none⟩ = some (.int .u64 a.num) := (cell_of_row _ _ 1 _ _ _ q).trans rfl
  have x0_2 : W6.cell? ⟨x0, 2, none⟩ = some (.string a.text) := (cell_of_row _ _ 2 _ _ _ q).trans rfl
  have x0_3 : W6.cell? ⟨x0, 3, none⟩ = some (.slice pa na ca) := (cell_of_row _ _ 3 _ _ _ q).trans rfl
  have x0_4 : W6.cell? ⟨x0, 4, none⟩ = some (.int .i64 a.elem) := (cell_of_row _ _ 4 _ _ _ q).trans rfl
  clear q
  go_wp2_with fail
  refine HC7.out.mono ?_
  clear x0_0 x0_1 x0_2 x0_3 x0_4
  rintro e W7 ⟨rfl, hb⟩
  have hz7 : W6.heap.size ≤ W7.heap.size := hb.size
  have HZ7 := Lib.hid hz7
  clear hz7
  have HM8 : Hid ((Below w.heap.size w W7) ∧ (W7.heap[x0]? = some (.cells #[.int .i64 a.kind, .int .u64 a.num, .string a.text, .slice pa na ca, .int .i64 a.elem] 25 (0, 0))) ∧ (VL W7 W3.heap.size a (.slice (some ⟨g_x6, 0, none⟩) na (na + 3)) F6) ∧ (W7.heap[x6]? = some (.cells #[.int .i64 a.kind, .int .u64 a.num, .string a.text, .slice (some ⟨g_x6, 0, none⟩) na (na + 3), .int .i64 a.elem] 25 (0, 0)))) := Lib.hid ((And.intro (HM7.out.1.trans (hb.mono HM7.out.1.size)) (And.intro ((hb.block _ (Array.getElem?_eq_some_iff.1 HM7.out.2.1).1).trans HM7.out.2.1) (And.intro (HM7.out.2.2.1.blw hb) ((hb.block _ (Array.getElem?_eq_some_iff.1 HM7.out.2.2.2).1).trans HM7.out.2.2.2)))))
  clear HM7
  clear hb
  cases lq
  · skip
    have hc := deepest_any a W7 _ HM8.out.2.2.1.vin (by have := HW.out; omega)
    rw [HDP.out] at hc
    have HC8 := Lib.hid hc
    clear hc
    have q := HM8.out.2.2.2
    have x6_0 : W7.cell? ⟨x6, 0, none⟩ = some (.int .i64 a.kind) := (cell_of_row _ _ 0 _ _ _ q).trans rfl
    have x6_1 : W7.cell? ⟨x6, 1, none⟩ = some (.int .u64 a.num) := (cell_of_row _ _ 1 _ _ _ q).trans rfl
    have x6_2 : W7.cell? ⟨x6, 2, none⟩ = some (.string a.text) := (cell_of_row _ _ 2 _ _ _ q).trans rfl
    have x6_3 : W7.cell? ⟨x6, 3, none⟩ = some (.slice (some ⟨g_x6, 0, none⟩) na (na + 3)) := (cell_of_row _ _ 3 _ _ _ q).trans rfl
    have x6_4 : W7.cell? ⟨x6, 4, none⟩ = some (.int .i64 a.elem) := (cell_of_row _ _ 4 _ _ _ q).trans rfl
    clear q
    go_wp2_with fail
    refine HC8.out.mono ?_
    clear x6_0 x6_1 x6_2 x6_3 x6_4
    rintro e W8 ⟨rfl, hb⟩
    have hz8 : W7.heap.size ≤ W8.heap.size := hb.size
    have HZ8 := Lib.hid hz8
    clear hz8
    have HM9 : Hid ((Below w.heap.size w W8) ∧ (W8.heap[x0]? = some (.cells #[.int .i64 a.kind, .int .u64 a.num, .string a.text, .slice pa na ca, .int .i64 a.elem] 25 (0, 0))) ∧ (VL W8 W3.heap.size a (.slice (some ⟨g_x6, 0, none⟩) na (na + 3)) F6) ∧ (W8.heap[x6]? = some (.cells #[.int .i64 a.kind, .int .u64 a.num, .string a.text, .slice (some ⟨g_x6, 0, none⟩) na (na + 3), .int .i64 a.elem] 25 (0, 0)))) := Lib.hid ((And.intro (HM8.out.1.trans (hb.mono HM8.out.1.size)) (And.intro ((hb.block _ (Array.getElem?_eq_some_iff.1 HM8.out.2.1).1).trans HM8.out.2.1) (And.intro (HM8.out.2.2.1.blw hb) ((hb.block _ (Array.getElem?_eq_some_iff.1 HM8.out.2.2.2).1).trans HM8.out.2.2.2)))))
    clear HM8
    clear hb
    have hc : Calls Tryd.prog 19 #[.agg #[.int .i64 a.kind, .int .u64 a.num, .string a.text, .slice (some ⟨g_x6, 0, none⟩) na (na + 3), .int .i64 a.elem], .agg #[.int .i64 a.kind, .int .u64 a.num, .string a.text, .slice pa na ca, .int .i64 a.elem]] W8 _ := asl_on a W8 w _ _ _ F6 HM9.out.2.2.1 HV.out (fun W hW => rd_below (KeepF.below HM9.out.1 hW (fun j q => by have h1 := HIN_F6.out j q; have z0 := HX_x0.out; have z1 := HZw.out; have z2 := HLT0.out; have z3 := HZ1.out; have z4 := HZ2.out; have z5 := HZ3.out; have z6 := HZ4.out; have z7 := HX_x6.out; have z8 := HLT_x6.out; have z9 := HZ5.out; have z10 := HZ6.out; have z11 := HZ7.out; have z12 := HZ8.out; omega) HM9.out.1.size)) (by have := HW.out; omega)
    have HC9 := Lib.hid hc
    clear hc
    have q := HM9.out.2.2.2
    have x6_0 : W8.cell? ⟨x6, 0, none⟩ = some (.int .i64 a.kind) := (cell_of_row _ _ 0 _ _ _ q).trans rfl
    have x6_1 : W8.cell? ⟨x6, 1, none⟩ = some (.int .u64 a.num) := (cell_of_row _ _ 1 _ _ _ q).trans rfl
    have x6_2 : W8.cell? ⟨x6, 2, none⟩ = some (.string a.text) := (cell_of_row _ _ 2 _ _ _ q).trans rfl
    have x6_3 : W8.cell? ⟨x6, 3, none⟩ = some (.slice (some ⟨g_x6, 0, none⟩) na (na + 3)) := (cell_of_row _ _ 3 _ _ _ q).trans rfl
    have x6_4 : W8.cell? ⟨x6, 4, none⟩ = some (.int .i64 a.elem) := (cell_of_row _ _ 4 _ _ _ q).trans rfl
    clear q
    have q := HM9.out.2.1
    have x0_0 : W8.cell? ⟨x0, 0, none⟩ = some (.int .i64 a.kind) := (cell_of_row _ _ 0 _ _ _ q).trans rfl
    have x0_1 : W8.cell? ⟨x0, 1, none⟩ = some (.int .u64 a.num) := (cell_of_row _ _ 1 _ _ _ q).trans rfl
    have x0_2 : W8.cell? ⟨x0, 2, none⟩ = some (.string a.text) := (cell_of_row _ _ 2 _ _ _ q).trans rfl
    have x0_3 : W8.cell? ⟨x0, 3, none⟩ = some (.slice pa na ca) := (cell_of_row _ _ 3 _ _ _ q).trans rfl
    have x0_4 : W8.cell? ⟨x0, 4, none⟩ = some (.int .i64 a.elem) := (cell_of_row _ _ 4 _ _ _ q).trans rfl
    clear q
    go_wp2_with fail
    refine HC9.out.mono ?_
    clear x6_0 x6_1 x6_2 x6_3 x6_4 x0_0 x0_1 x0_2 x0_3 x0_4
    rintro e W9 ⟨rfl, hk⟩
    have HM10 : Hid ((Below w.heap.size w W8) ∧ (W8.heap[x0]? = some (.cells #[.int .i64 a.kind, .int .u64 a.num, .string a.text, .slice pa na ca, .int .i64 a.elem] 25 (0, 0))) ∧ (W8.heap[x6]? = some (.cells #[.int .i64 a.kind, .int .u64 a.num, .string a.text, .slice (some ⟨g_x6, 0, none⟩) na (na + 3), .int .i64 a.elem] 25 (0, 0)))) := Lib.hid ((And.intro HM9.out.1 (And.intro HM9.out.2.1 HM9.out.2.2.2)))
    clear HM9
    have hz10 : W8.heap.size ≤ W9.heap.size := hk.size
    have HZ10 := Lib.hid hz10
    clear hz10
    have HM11 : Hid ((Below w.heap.size w W9) ∧ (W9.heap[x0]? = some (.cells #[.int .i64 a.kind, .int .u64 a.num, .string a.text, .slice pa na ca, .int .i64 a.elem] 25 (0, 0))) ∧ (W9.heap[x6]? = some (.cells #[.int .i64 a.kind, .int .u64 a.num, .string a.text, .slice (some ⟨g_x6, 0, none⟩) na (na + 3), .int .i64 a.elem] 25 (0, 0)))) := Lib.hid ((And.intro (KeepF.below HM10.out.1 hk (fun j q => by have h1 := HIN_F6.out j q; have z0 := HX_x0.out; have z1 := HZw.out; have z2 := HLT0.out; have z3 := HZ1.out; have z4 := HZ2.out; have z5 := HZ3.out; have z6 := HZ4.out; have z7 := HX_x6.out; have z8 := HLT_x6.out; have z9 := HZ5.out; have z10 := HZ6.out; have z11 := HZ7.out; have z12 := HZ8.out; have z13 := HZ10.out; omega) HM10.out.1.size) (And.intro ((hk.block _ (Array.getElem?_eq_some_iff.1 HM10.out.2.1).1 (fun q => by have h1 := HIN_F6.out _ q; have z0 := HX_x0.out; have z1 := HZw.out; have z2 := HLT0.out; have z3 := HZ1.out; have z4 := HZ2.out; have z5 := HZ3.out; have z6 := HZ4.out; have z7 := HX_x6.out; have z8 := HLT_x6.out; have z9 := HZ5.out; have z10 := HZ6.out; have z11 := HZ7.out; have z12 := HZ8.out; have z13 := HZ10.out; omega)).trans HM10.out.2.1) ((hk.block _ (Array.getElem?_eq_some_iff.1 HM10.out.2.2).1 (fun q => by have h1 := HIN_F6.out _ q; have z0 := HX_x0.out; have z1 := HZw.out; have z2 := HLT0.out; have z3 := HZ1.out; have z4 := HZ2.out; have z5 := HZ3.out; have z6 := HZ4.out; have z7 := HX_x6.out; have z8 := HLT_x6.out; have z9 := HZ5.out; have z10 := HZ6.out; have z11 := HZ7.out; have z12 := HZ8.out; have z13 := HZ10.out; omega)).trans HM10.out.2.2))))
    clear HM10
    clear hk
    go_wp2_with fail
    go_ret
    exact ⟨rfl, HM11.out.1⟩
  · skip
    have hc : Calls Tryd.prog 19 #[.agg #[.int .i64 a.kind, .int .u64 a.num, .string a.text, .slice (some ⟨g_x6, 0, none⟩) na (na + 3), .int .i64 a.elem], .agg #[.int .i64 a.kind, .int .u64 a.num, .string a.text, .slice pa na ca, .int .i64 a.elem]] W7 _ := asl_on a W7 w _ _ _ F6 HM8.out.2.2.1 HV.out (fun W hW => rd_below (KeepF.below HM8.out.1 hW (fun j q => by have h1 := HIN_F6.out j q; have z0 := HX_x0.out; have z1 := HZw.out; have z2 := HLT0.out; have z3 := HZ1.out; have z4 := HZ2.out; have z5 := HZ3.out; have z6 := HZ4.out; have z7 := HX_x6.out; have z8 := HLT_x6.out; have z9 := HZ5.out; have z10 := HZ6.out; have z11 := HZ7.out; omega) HM8.out.1.size)) (by have := HW.out; omega)
    have HC8 := Lib.hid hc
    clear hc
    have q := HM8.out.2.2.2
    have x6_0 : W7.cell? ⟨x6, 0, none⟩ = some (.int .i64 a.kind) := (cell_of_row _ _ 0 _ _ _ q).trans rfl
    have x6_1 : W7.cell? ⟨x6, 1, none⟩ = some (.int .u64 a.num) := (cell_of_row _ _ 1 _ _ _ q).trans rfl
    have x6_2 : W7.cell? ⟨x6, 2, none⟩ = some (.string a.text) := (cell_of_row _ _ 2 _ _ _ q).trans rfl
    have x6_3 : W7.cell? ⟨x6, 3, none⟩ = some (.slice (some ⟨g_x6, 0, none⟩) na (na + 3)) := (cell_of_row _ _ 3 _ _ _ q).trans rfl
    have x6_4 : W7.cell? ⟨x6, 4, none⟩ = some (.int .i64 a.elem) := (cell_of_row _ _ 4 _ _ _ q).trans rfl
    clear q
    have q := HM8.out.2.1
    have x0_0 : W7.cell? ⟨x0, 0, none⟩ = some (.int .i64 a.kind) := (cell_of_row _ _ 0 _ _ _ q).trans rfl
    have x0_1 : W7.cell? ⟨x0, 1, none⟩ = some (.int .u64 a.num) := (cell_of_row _ _ 1 _ _ _ q).trans rfl
    have x0_2 : W7.cell? ⟨x0, 2, none⟩ = some (.string a.text) := (cell_of_row _ _ 2 _ _ _ q).trans rfl
    have x0_3 : W7.cell? ⟨x0, 3, none⟩ = some (.slice pa na ca) := (cell_of_row _ _ 3 _ _ _ q).trans rfl
    have x0_4 : W7.cell? ⟨x0, 4, none⟩ = some (.int .i64 a.elem) := (cell_of_row _ _ 4 _ _ _ q).trans rfl
    clear q
    go_wp2_with fail
    refine HC8.out.mono ?_
    clear x6_0 x6_1 x6_2 x6_3 x6_4 x0_0 x0_1 x0_2 x0_3 x0_4
    rintro e W8 ⟨rfl, hk⟩
    have HM9 : Hid ((Below w.heap.size w W7) ∧ (W7.heap[x0]? = some (.cells #[.int .i64 a.kind, .int .u64 a.num, .string a.text, .slice pa na ca, .int .i64 a.elem] 25 (0, 0))) ∧ (W7.heap[x6]? = some (.cells #[.int .i64 a.kind, .int .u64 a.num, .string a.text, .slice (some ⟨g_x6, 0, none⟩) na (na + 3), .int .i64 a.elem] 25 (0, 0)))) := Lib.hid ((And.intro HM8.out.1 (And.intro HM8.out.2.1 HM8.out.2.2.2)))
    clear HM8
    have hz9 : W7.heap.size ≤ W8.heap.size := hk.size
    have HZ9 := Lib.hid hz9
    clear hz9
    have HM10 : Hid ((Below w.heap.size w W8) ∧ (W8.heap[x0]? = some (.cells #[.int .i64 a.kind, .int .u64 a.num, .string a.text, .slice pa na ca, .int .i64 a.elem] 25 (0, 0))) ∧ (W8.heap[x6]? = some (.cells #[.int .i64 a.kind, .int .u64 a.num, .string a.text, .slice (some ⟨g_x6, 0, none⟩) na (na + 3), .int .i64 a.elem] 25 (0, 0)))) := Lib.hid ((And.intro (KeepF.below HM9.out.1 hk (fun j q => by have h1 := HIN_F6.out j q; have z0 := HX_x0.out; have z1 := HZw.out; have z2 := HLT0.out; have z3 := HZ1.out; have z4 := HZ2.out; have z5 := HZ3.out; have z6 := HZ4.out; have z7 := HX_x6.out; have z8 := HLT_x6.out; have z9 := HZ5.out; have z10 := HZ6.out; have z11 := HZ7.out; have z12 := HZ9.out; omega) HM9.out.1.size) (And.intro ((hk.block _ (Array.getElem?_eq_some_iff.1 HM9.out.2.1).1 (fun q => by have h1 := HIN_F6.out _ q; have z0 := HX_x0.out; have z1 := HZw.out; have z2 := HLT0.out; have z3 := HZ1.out; have z4 := HZ2.out; have z5 := HZ3.out; have z6 := HZ4.out; have z7 := HX_x6.out; have z8 := HLT_x6.out; have z9 := HZ5.out; have z10 := HZ6.out; have z11 := HZ7.out; have z12 := HZ9.out; omega)).trans HM9.out.2.1) ((hk.block _ (Array.getElem?_eq_some_iff.1 HM9.out.2.2).1 (fun q => by have h1 := HIN_F6.out _ q; have z0 := HX_x0.out; have z1 := HZw.out; have z2 := HLT0.out; have z3 := HZ1.out; have z4 := HZ2.out; have z5 := HZ3.out; have z6 := HZ4.out; have z7 := HX_x6.out; have z8 := HLT_x6.out; have z9 := HZ5.out; have z10 := HZ6.out; have z11 := HZ7.out; have z12 := HZ9.out; omega)).trans HM9.out.2.2))))
    clear HM9
    clear hk
    go_wp2_with fail
    go_ret
    exact ⟨rfl, HM10.out.1⟩

end Go.Proofs.YtakbgekamjpibaaDoor
