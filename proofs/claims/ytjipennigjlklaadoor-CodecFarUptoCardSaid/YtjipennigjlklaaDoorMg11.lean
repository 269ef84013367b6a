/-
  walk and each: all that stands in a value is told. Conditions: the value lies in memory.
  A range over what stands in a value (each): its law. Conditions: the value lies in memory.
-/
import Derived.Test.YtjipennigjlklaaDoorMg10
namespace Go.Proofs.YtjipennigjlklaaDoor
open Go.RowKit
set_option linter.unusedVariables false

mutual
def V.pre : V → Int → List (Int × V)
  | .mk k n t l e, d => (d, .mk k n t l e) :: pres l (d + 1)
def pres : List V → Int → List (Int × V)
  | [], _ => []
  | v :: r, d => v.pre d ++ pres r d
end
theorem V.pre_eq (v : V) (d : Int) : v.pre d = (d, v) :: pres v.list (d + 1) := by cases v; rw [V.pre]; rfl
theorem pres_take (l : List V) (d : Int) {i : Nat} (h : i < l.length) : pres (l.take (i + 1)) d = pres (l.take i) d ++ l[i].pre d := by
  induction l generalizing i with
  | nil => simp at h
  | cons a r ih =>
    cases i with
    | zero => simp [pres]
    | succ i =>
      have h2 : i < r.length := by simpa using h
      simp only [List.take_succ_cons, pres, List.getElem_cons_succ, List.append_assoc, ih h2]
theorem pres_split (l : List V) (d : Int) (i : Nat) : pres l d = pres (l.take i) d ++ pres (l.drop i) d := by
  induction l generalizing i with
  | nil => simp [pres]
  | cons a r ih =>
    cases i with
    | zero => simp [pres]
    | succ i => simp only [List.take_succ_cons, List.drop_succ_cons, pres, List.append_assoc, ← ih]

def Rd (w W : World) : Prop := ∀ (b i : Nat) (u : Value), w.cell? ⟨b, i, none⟩ = some u → W.cell? ⟨b, i, none⟩ = some u
theorem VIn.rd {w W : World} {v : V} {s : Value} (h : VIn w v s) (hr : Rd w W) : VIn W v s := by
  induction h with
  | mk v p c ss wf hc hm ha hcell hin ih =>
    exact .mk v p c ss wf hc hm ha (fun b o e i hi j u hu => hr _ _ _ (hcell b o e i hi j u hu)) ih
theorem rd_below {w W : World} (h : Below w.heap.size w W) : Rd w W := fun b i u hc => bs_cellV h hc
theorem Rd.trans {w W W' : World} (h : Rd w W) (h' : Rd W W') : Rd w W' := fun b i u hc => h' b i u (h b i u hc)
theorem rangeAt_rd {w W : World} {b o : Nat} {l : List Value} (h : w.rangeAt b o l) (hr : Rd w W) : W.rangeAt b o l := fun j u hu => hr _ _ _ (h j u hu)

structure KeepW (O : Nat → Prop) (W : World) (O2 : Nat → Prop) (W2 : World) : Prop where
  os : W2.os = W.os
  tape : W2.tape = W.tape
  output : W2.output = W.output
  size : W.heap.size ≤ W2.heap.size
  block : ∀ j, j < W.heap.size → ¬ O j → W2.heap[j]? = W.heap[j]?
  own : ∀ j, O2 j → O j ∨ W.heap.size ≤ j
theorem KeepW.trans {O O2 O3 : Nat → Prop} {W W2 W3 : World} (h : KeepW O W O2 W2) (h' : KeepW O2 W2 O3 W3) : KeepW O W O3 W3 := by
  refine ⟨h'.os.trans h.os, h'.tape.trans h.tape, h'.output.trans h.output, Nat.le_trans h.size h'.size, fun j hj ho => (h'.block j (Nat.lt_of_lt_of_le hj h.size) (fun q => ?_)).trans (h.block j hj ho), fun j hj => ?_⟩
  · rcases h.own j q with r | r
    · exact ho r
    · omega
  · have := h.size
    rcases h'.own j hj with r | r
    · exact h.own j r
    · exact .inr (by omega)
theorem keepW_below {O : Nat → Prop} {W W2 : World} (h : Below W.heap.size W W2) : KeepW O W O W2 := ⟨h.os, h.tape, h.output, h.size, fun j hj _ => h.block j hj, fun j hj => .inl hj⟩

structure RidesW (l : Nat) (w : World) (L : List (Int × V)) (J : Nat → (Nat → Prop) → World → Prop) (Jx : (Nat → Prop) → World → Prop) : Prop where
  reads : ∀ k O W, J k O W → Rd w W
  fresh : ∀ k O W, J k O W → ∀ j, O j → j < W.heap.size
  turn : ∀ k O W W', J k O W → Below W.heap.size W W' → J k O W'
  yields : ∀ k O W d x t, J k O W → L[k]? = some (d, x) → VIn w x t → YieldAt Fence.wide 3 Tryd.prog l #[.int .i64 d, .agg #[.int .i64 x.kind, .int .u64 x.num, .string x.text, t, .int .i64 x.elem]] W fun e W2 =>
    (e = .returned (.bool true) ∧ ∃ O2, J (k + 1) O2 W2 ∧ KeepW O W O2 W2) ∨ (e = .returned (.bool false) ∧ ∃ O2, Jx O2 W2 ∧ KeepW O W O2 W2)
def WalkEnd (J : Nat → (Nat → Prop) → World → Prop) (Jx : (Nat → Prop) → World → Prop) (k : Nat) (O : Nat → Prop) (W : World) (e : Ending) (W' : World) : Prop :=
  (e = .returned (.bool true) ∧ ∃ O2, J k O2 W' ∧ KeepW O W O2 W') ∨ (e = .returned (.bool false) ∧ ∃ O2, Jx O2 W' ∧ KeepW O W O2 W')

set_option maxRecDepth 20000 in
set_option maxHeartbeats 4000000 in
theorem walk_in {l : Nat} {w : World} {L : List (Int × V)} {J : Nat → (Nat → Prop) → World → Prop} {Jx : (Nat → Prop) → World → Prop} (hR : RidesW l w L J Jx) : ∀ (v : V) (d : Int) (s : Value) (k : Nat) (O : Nat → Prop) (W : World),
    VIn w v s → J k O W → (∀ i, i < (v.pre d).length → L[k + i]? = (v.pre d)[i]?) → 0 ≤ d → d + v.wt ≤ 4611686018427387904 →
    Calls Tryd.prog 36 #[.agg #[.int .i64 v.kind, .int .u64 v.num, .string v.text, s, .int .i64 v.elem], .int .i64 d, .func (.yield l) #[] #[]] W (WalkEnd J Jx (k + (v.pre d).length) O W) := by
  refine V.ind (fun v ih d s k O W h hJ hL hd0 hd1 => ?_)
  obtain ⟨p, c, hs, h1, h2, h3⟩ := h.slice
  obtain ⟨N, hN⟩ : ∃ N, v.list.length = N := ⟨_, rfl⟩
  rw [hN] at hs h1 h3
  subst hs
  unfold maxLen at h2
  have HI := Lib.hid ih
  have HN := Lib.hid hN
  have HV := Lib.hid h
  have HJ := Lib.hid hJ
  have HL := Lib.hid hL
  have HD := Lib.hid hd1
  have HR := Lib.hid hR
  have hd2 : d + 1 ≤ 9223372036854775807 := by omega
  obtain ⟨K, hK⟩ : ∃ K, k + (v.pre d).length = K := ⟨_, rfl⟩
  have HK := Lib.hid hK
  rw [hK]
  clear ih h hN hJ hL hd1 hR hK
  go_enter Tryd.func36, Tryd.ntmps36
  go_upto_region 1 with fail
  have hb0 : Below W.heap.size W (W.alloc (.cells #[.int .i64 v.kind, .int .u64 v.num, .string v.text, (.slice p N c), .int .i64 v.elem] 25)) := ((Below.refl _ _).alloc (Nat.le_refl _) _)
  have ox : (W.alloc (.cells #[.int .i64 v.kind, .int .u64 v.num, .string v.text, (.slice p N c), .int .i64 v.elem] 25)).heap[W.heap.size]? = some (.cells #[.int .i64 v.kind, .int .u64 v.num, .string v.text, (.slice p N c), .int .i64 v.elem] 25 (0, 0)) := _root_.Go.heap_alloc_new _ _
  generalize (W.alloc (.cells #[.int .i64 v.kind, .int .u64 v.num, .string v.text, (.slice p N c), .int .i64 v.elem] 25)) = w0 at *
  obtain ⟨x, hx⟩ : ∃ x, W.heap.size = x := ⟨_, rfl⟩
  have HX0 := Lib.hid hx
  rw [hx] at ox ⊢
  have HB0 := Lib.hid hb0
  have HOx := Lib.hid ox
  clear hb0 ox hx
  have x0 : w0.cell? ⟨x, 0, none⟩ = some (.int .i64 v.kind) := (cell_of_row _ _ 0 _ _ _ HOx.out).trans rfl
  have x1 : w0.cell? ⟨x, 1, none⟩ = some (.int .u64 v.num) := (cell_of_row _ _ 1 _ _ _ HOx.out).trans rfl
  have x2 : w0.cell? ⟨x, 2, none⟩ = some (.string v.text) := (cell_of_row _ _ 2 _ _ _ HOx.out).trans rfl
  have x3 : w0.cell? ⟨x, 3, none⟩ = some (.slice p N c) := (cell_of_row _ _ 3 _ _ _ HOx.out).trans rfl
  have x4 : w0.cell? ⟨x, 4, none⟩ = some (.int .i64 v.elem) := (cell_of_row _ _ 4 _ _ _ HOx.out).trans rfl
  have HX : Hid (W.heap.size = x ∧ x < w0.heap.size) := Lib.hid ⟨HX0.out, (Array.getElem?_eq_some_iff.1 HOx.out).1⟩
  have hJ0 := HR.out.turn k O W w0 HJ.out HB0.out
  have h0 : L[k]? = some (d, v) := by
    have := HL.out 0 (by rw [V.pre_eq]; simp)
    rw [V.pre_eq] at this
    simpa using this
  have hyl := HR.out.yields k O w0 d v _ hJ0 h0 HV.out
  obtain ⟨fn, tmps, assign, body, hyy, hRd⟩ := hyl
  have HRd := Lib.hid hRd
  clear hRd hJ0 h0
  refine (wpIn_wide (n := 4)).1 ?_
  gi_wp2
  refine HRd.out.mono ?_
  rintro e W2 (⟨rfl, O2, hj2, hk2⟩ | ⟨rfl, O2, hj2, hk2⟩)
  · have HK2 := Lib.hid ((keepW_below (O := O) HB0.out).trans hk2)
    have HJ2 := Lib.hid hj2
    have hxo : ¬ O2 x := fun q => by
      have h1 := HX.out
      rcases HK2.out.own x q with r | r
      · have := HR.out.fresh k O W HJ.out x r; omega
      · rcases hk2.own x q with r2 | r2
        · have := HR.out.fresh k O W HJ.out x r2; omega
        · omega
    have hxb : W2.heap[x]? = _ := (hk2.block x HX.out.2 (fun q => by have := HR.out.fresh k O W HJ.out x q; have := HX.out.1; omega)).trans HOx.out
    have c3 : W2.cell? ⟨x, 3, none⟩ = some (.slice p N c) := (cell_of_row _ _ 3 _ _ _ hxb).trans rfl
    clear hj2 hk2 hxb hxo x0 x1 x2 x3 x4 hyy
    gi_wp2
    go_wp2_with fail
    go_loopw [17] (fun v5 wr => ∃ (i : Nat) (O3 : Nat → Prop), i ≤ N ∧ v5 = .int .i64 i ∧ J (k + 1 + (pres (v.list.take i) (d + 1)).length) O3 wr ∧ KeepW O W O3 wr) (fun v5 _ => N - (intOf v5).toNat)
    case atStart => exact ⟨0, O2, Nat.zero_le _, rfl, by rw [List.take_zero]; exact HJ2.out, HK2.out⟩
    case round =>
      obtain ⟨i, O3, hi, rfl, hj3, hk3⟩ := hrel
      have HR3 := Lib.hid (And.intro hj3 hk3)
      clear hj3 hk3 c3
      by_cases hkN : (i : Int) < N
      · have ka : i < v.list.length := by rw [HN.out]; omega
        obtain ⟨b1, o1, rfl⟩ := h3 (by omega)
        obtain ⟨ta, hta, hia⟩ := HV.out.part rfl ka
        obtain ⟨pa, ca, hsa, _⟩ := hia.slice
        subst hsa
        obtain ⟨c0, c1, c2, c3, c4⟩ := part_cells (rangeAt_rd hta (HR.out.reads _ _ _ HR3.out.1))
        have htk := pres_take v.list (d + 1) ka
        have hwt := V.wt_lt (List.getElem_mem ka)
        have hIH := HI.out _ (List.getElem_mem ka) (d + 1) (.slice pa v.list[i].list.length ca) (k + 1 + (pres (v.list.take i) (d + 1)).length) O3
        have hseg : ∀ j, j < (v.list[i].pre (d + 1)).length → L[k + 1 + (pres (v.list.take i) (d + 1)).length + j]? = (v.list[i].pre (d + 1))[j]? := by
          intro j hj
          have hsp := pres_split v.list (d + 1) (i + 1)
          rw [htk] at hsp
          have hlen : (v.pre d).length = 1 + ((pres (v.list.take i) (d + 1)).length + (v.list[i].pre (d + 1)).length + (pres (v.list.drop (i + 1)) (d + 1)).length) := by
            rw [V.pre_eq, hsp]; simp only [List.length_cons, List.length_append]; omega
          have := HL.out (1 + (pres (v.list.take i) (d + 1)).length + j) (by omega)
          rw [show k + 1 + (pres (v.list.take i) (d + 1)).length + j = k + (1 + (pres (v.list.take i) (d + 1)).length + j) by omega, this, V.pre_eq, hsp,
            show 1 + (pres (v.list.take i) (d + 1)).length + j = ((pres (v.list.take i) (d + 1)).length + j) + 1 by omega, List.getElem?_cons_succ, List.append_assoc,
            List.getElem?_append_right (by omega), Nat.add_sub_cancel_left, List.getElem?_append_left hj]
        have hnext : k + 1 + (pres (v.list.take i) (d + 1)).length + (v.list[i].pre (d + 1)).length = k + 1 + (pres (v.list.take (i + 1)) (d + 1)).length := by rw [htk, List.length_append]; omega
        obtain ⟨ya, hya⟩ : ∃ ya, v.list[i] = ya := ⟨_, rfl⟩
        rw [hya] at c0 c1 c2 c3 c4 hia hIH hseg hnext hwt
        have hIH2 := fun W hJ => hIH W hia hJ hseg (by omega) (by have := HD.out; omega)
        rw [hnext] at hIH2
        obtain ⟨na, hna⟩ : ∃ na, ya.list.length = na := ⟨_, rfl⟩
        rw [hna] at c3 hIH2
        have HIH := Lib.hid hIH2
        clear hta hia hya hna htk hIH hseg hnext hwt hIH2
        go_upto_region 6 with (refine wpList_store_rowTo rfl 25 (.tmp 8) (.tmp 20) rfl rfl wr.heap.size #[.int .i64 ya.kind, .int .u64 ya.num, .string ya.text, (.slice pa na ca), .int .i64 ya.elem] rfl rfl 25 #[.int .i64 0, .int .u64 0, .string ⟨#[]⟩, .slice none 0 0, .int .i64 0] (_root_.Go.heap_alloc_new wr _) (by as_aux_lemma => kernel_rfl) (by as_aux_lemma => kernel_rfl) (by simp [Value.oneCell']) ?_)
        have hb_w1 : Below wr.heap.size wr ((wr.alloc (.cells #[.int .i64 0, .int .u64 0, .string ⟨#[]⟩, .slice none 0 0, .int .i64 0] 25)).setRow wr.heap.size #[.int .i64 ya.kind, .int .u64 ya.num, .string ya.text, (.slice pa na ca), .int .i64 ya.elem]) := below_setRow ((Below.refl _ _).alloc (Nat.le_refl _) _) (Nat.le_refl _) _
        have oy := setRow_heap (wr.alloc (.cells #[.int .i64 0, .int .u64 0, .string ⟨#[]⟩, .slice none 0 0, .int .i64 0] 25)) wr.heap.size _ #[.int .i64 ya.kind, .int .u64 ya.num, .string ya.text, (.slice pa na ca), .int .i64 ya.elem] _ _ (_root_.Go.heap_alloc_new wr _)
        change Code.wp _ _ _ _ ((wr.alloc (.cells #[.int .i64 0, .int .u64 0, .string ⟨#[]⟩, .slice none 0 0, .int .i64 0] 25)).setRow wr.heap.size #[.int .i64 ya.kind, .int .u64 ya.num, .string ya.text, (.slice pa na ca), .int .i64 ya.elem])
        generalize ((wr.alloc (.cells #[.int .i64 0, .int .u64 0, .string ⟨#[]⟩, .slice none 0 0, .int .i64 0] 25)).setRow wr.heap.size #[.int .i64 ya.kind, .int .u64 ya.num, .string ya.text, (.slice pa na ca), .int .i64 ya.elem]) = w1 at *
        obtain ⟨y, hx_y⟩ : ∃ x, wr.heap.size = x := ⟨_, rfl⟩
        rw [hx_y] at oy ⊢
        clear hx_y
        have y0 : w1.cell? ⟨y, 0, none⟩ = some (.int .i64 ya.kind) := (cell_of_row _ _ 0 _ _ _ oy).trans rfl
        have y1 : w1.cell? ⟨y, 1, none⟩ = some (.int .u64 ya.num) := (cell_of_row _ _ 1 _ _ _ oy).trans rfl
        have y2 : w1.cell? ⟨y, 2, none⟩ = some (.string ya.text) := (cell_of_row _ _ 2 _ _ _ oy).trans rfl
        have y3 : w1.cell? ⟨y, 3, none⟩ = some (.slice pa na ca) := (cell_of_row _ _ 3 _ _ _ oy).trans rfl
        have y4 : w1.cell? ⟨y, 4, none⟩ = some (.int .i64 ya.elem) := (cell_of_row _ _ 4 _ _ _ oy).trans rfl
        have hc := HIH.out w1 (HR.out.turn _ _ _ _ HR3.out.1 hb_w1)
        have HB1 := Lib.hid hb_w1
        have HC := Lib.hid hc
        clear hb_w1 oy hc c0 c1 c2 c3 c4
        go_wp2_with fail
        refine HC.out.mono ?_
        rintro e w2 (⟨rfl, O4, hj4, hk4⟩ | ⟨rfl, O4, hj4, hk4⟩)
        · have HR4 := Lib.hid (And.intro hj4 ((HR3.out.2.trans (keepW_below HB1.out)).trans hk4))
          clear hj4 hk4 y0 y1 y2 y3 y4
          go_wp2_with fail
          go_roundw
          case rel => exact ⟨i + 1, O4, by omega, by go_num, HR4.out.1, HR4.out.2⟩
          case measure => simp [intOf]; omega
        · have HR4 := Lib.hid (And.intro hj4 ((HR3.out.2.trans (keepW_below HB1.out)).trans hk4))
          clear hj4 hk4 y0 y1 y2 y3 y4
          go_wp2_with fail
          go_ret
          exact .inr ⟨rfl, O4, HR4.out.1, HR4.out.2⟩
      · have hJK : J K O3 wr := by
          have h1 := HR3.out.1
          rw [List.take_of_length_le (by rw [HN.out]; omega)] at h1
          rw [← HK.out, V.pre_eq, List.length_cons, show k + ((pres v.list (d + 1)).length + 1) = k + 1 + (pres v.list (d + 1)).length by omega]
          exact h1
        have HJK := Lib.hid hJK
        clear hJK
        go_wp2_with fail
        go_ret
        exact .inl ⟨rfl, O3, HJK.out, HR3.out.2⟩
  · have HK2 := Lib.hid (And.intro hj2 ((keepW_below (O := O) HB0.out).trans hk2))
    clear hj2 hk2 x0 x1 x2 x3 x4 hyy
    gi_wp2
    go_wp2_with fail
    go_ret
    exact .inr ⟨rfl, O2, HK2.out.1, HK2.out.2⟩



structure KeepR (lp : Nat) (O : Nat → Prop) (W : World) (O2 : Nat → Prop) (W2 : World) : Prop where
  os : W2.os = W.os
  tape : W2.tape = W.tape
  output : W2.output = W.output
  size : W.heap.size ≤ W2.heap.size
  block : ∀ j, j < W.heap.size → ¬ O j → j ≠ lp → W2.heap[j]? = W.heap[j]?
  own : ∀ j, O2 j → O j ∨ W.heap.size ≤ j
theorem KeepR.turn {lp : Nat} {O O2 : Nat → Prop} {W W2 W3 : World} (h : KeepR lp O W O2 W2) (ht : Turn lp W2 W3) : KeepW (fun j => O j ∨ j = lp) W (fun j => O2 j ∨ j = lp) W3 := by
  obtain ⟨g, hz⟩ := ht
  refine ⟨g.os.trans h.os, g.tape.trans h.tape, g.output.trans h.output, Nat.le_trans h.size g.size, fun j hj ho => ?_, fun j hj => ?_⟩
  · rw [g.block j (Nat.lt_of_lt_of_le hj h.size) (fun e => ho (.inr (Option.some.inj e))), h.block j hj (fun q => ho (.inl q)) (fun q => ho (.inr q))]
  · rcases hj with hj | hj
    · rcases h.own j hj with q | q
      · exact .inl (.inl q)
      · exact .inr q
    · exact .inl (.inr hj)
theorem grown_below {W W' : World} (h : Below W.heap.size W W') (d : Nat) : W.grownBy W' (some d) := ⟨h.os, h.tape, h.output, h.size, fun k hk _ => h.block k hk⟩

set_option maxRecDepth 20000 in
set_option maxHeartbeats 4000000 in
theorem each1_in {l : Nat} {w : World} {J : Nat → (Nat → Prop) → World → Prop} {Jx : (Nat → Prop) → World → Prop} {v : V} {s : Value} {O : Nat → Prop} {W : World} {y : Nat} (hR : RidesW l w (v.pre 1) J Jx) (hv : VIn w v s) (hJ : J 0 O W) (hwt : v.wt ≤ 4611686018427387000)
    (hy : W.heap[y]? = some (.cells #[.int .i64 v.kind, .int .u64 v.num, .string v.text, s, .int .i64 v.elem] 25 (0, 0))) :
    Calls Tryd.prog 35 #[.func (.yield l) #[] #[], .pointer (some ⟨y, 0, none⟩)] W fun e W' => (∃ u, e = .returned u) ∧ ((∃ O2, J (v.pre 1).length O2 W') ∨ ∃ O2, Jx O2 W') := by
  have hc := walk_in hR v 1 s 0 O W hv hJ (fun i _ => by rw [Nat.zero_add]) (by omega) (by omega)
  obtain ⟨p, c, hs, h1, h2, h3⟩ := hv.slice
  obtain ⟨N, hN⟩ : ∃ N, v.list.length = N := ⟨_, rfl⟩
  rw [hN] at hs
  subst hs
  rw [Nat.zero_add] at hc
  have y0 : W.cell? ⟨y, 0, none⟩ = some (.int .i64 v.kind) := (cell_of_row _ _ 0 _ _ _ hy).trans rfl
  have y1 : W.cell? ⟨y, 1, none⟩ = some (.int .u64 v.num) := (cell_of_row _ _ 1 _ _ _ hy).trans rfl
  have y2 : W.cell? ⟨y, 2, none⟩ = some (.string v.text) := (cell_of_row _ _ 2 _ _ _ hy).trans rfl
  have y3 : W.cell? ⟨y, 3, none⟩ = some (.slice p N c) := (cell_of_row _ _ 3 _ _ _ hy).trans rfl
  have y4 : W.cell? ⟨y, 4, none⟩ = some (.int .i64 v.elem) := (cell_of_row _ _ 4 _ _ _ hy).trans rfl
  have HC := Lib.hid hc
  clear hc h1 h2 h3 hN hy hv hJ hR hwt
  go_enter Tryd.func35, Tryd.ntmps35
  go_wp2_with fail
  refine HC.out.mono ?_
  rintro e w1 (⟨rfl, O2, hj, _⟩ | ⟨rfl, O2, hj, _⟩)
  · have H := Lib.hid hj
    clear hj y0 y1 y2 y3 y4
    go_wp2_with fail
    go_end0
    exact ⟨⟨_, rfl⟩, .inl ⟨O2, H.out⟩⟩
  · have H := Lib.hid hj
    clear hj y0 y1 y2 y3 y4
    go_wp2_with fail
    go_end0
    exact ⟨⟨_, rfl⟩, .inr ⟨O2, H.out⟩⟩

theorem wp_range_each {a : Act} {w wv : World} {g : Operand} {ps : Array Tmp} {assign body : Code} {Q : Exit → Act → World → Prop} {y : Nat} {v : V} {s : Value}
    (hg : a.eval g = .func (.func 35) #[] #[.pointer (some ⟨y, 0, none⟩)]) (hps : ps.size = 2)
    (hy : w.heap[y]? = some (.cells #[.int .i64 v.kind, .int .u64 v.num, .string v.text, s, .int .i64 v.elem] 25 (0, 0))) (hv : VIn wv v s) (hwt : v.wt ≤ 4611686018427387000)
    (I : Nat → (Nat → Prop) → World → Prop) (Ix : Code → (Nat → Prop) → World → Prop) (O : Nat → Prop)
    (hrd : ∀ k O W, I k O W → Rd wv W) (hfr : ∀ k O W, I k O W → ∀ j, O j → j < W.heap.size)
    (hturn : ∀ k O W W' d, I k O W → W.grownBy W' (some d) → w.heap.size ≤ d → ¬ O d → I k O W')
    (hturnX : ∀ c O W W' d, Ix c O W → W.grownBy W' (some d) → w.heap.size ≤ d → ¬ O d → Ix c O W')
    (hI0 : I 0 O w)
    (hround : ∀ (K : LoopBook w.heap.size (w.heap.size + 1)) k O d x t W, K.rdy W → I k O W → ¬ O w.heap.size → ¬ O (w.heap.size + 1) → w.heap.size + 2 ≤ W.heap.size → (v.pre 1)[k]? = some (d, x) → VIn W x t →
      RoundOf Tryd.prog K a.tmps ps assign body #[.int .i64 d, .agg #[.int .i64 x.kind, .int .u64 x.num, .string x.text, t, .int .i64 x.elem]] W (fun W3 => ∃ O2, I (k + 1) O2 W3 ∧ KeepR (w.heap.size + 1) O W O2 W3) (fun c W3 => ∃ O2, Ix c O2 W3 ∧ KeepR (w.heap.size + 1) O W O2 W3))
    (hdone : ∀ O W, I (v.pre 1).length O W → W.heap[w.heap.size]? = some (.deferred (some [])) → ¬ O w.heap.size → Q .normal { a with defers := { target := .collected w.heap.size, args := #[] } :: a.defers } W)
    (hexit : ∀ c O W, Ix c O W → W.heap[w.heap.size]? = some (.deferred (some [])) → ¬ O w.heap.size → c.wp Tryd.prog Q { a with defers := { target := .collected w.heap.size, args := #[] } :: a.defers } W) :
    (Code.rangeFunc g ps assign body).wp Tryd.prog Q a w := by
  refine wp_rangeFunc_any (gf := 35) (lb := #[.pointer (some ⟨y, 0, none⟩)]) hg (enters_of Tryd.func35 (by kernel_rfl) rfl) ?_
  intro K W1 hg1 hz1 hrd1 hyield
  have hylt := (Array.getElem?_eq_some_iff.1 hy).1
  have hy1 := (hg1.block y hylt (by simp)).trans hy
  have hfr0 := hfr 0 O w hI0
  have hOD : ¬ O w.heap.size := fun q => by have := hfr0 _ q; omega
  have hOl : ¬ O (w.heap.size + 1) := fun q => by have := hfr0 _ q; omega
  let J : Nat → (Nat → Prop) → World → Prop := fun k O' W => ∃ O, (O' = fun j => O j ∨ j = w.heap.size + 1) ∧ K.rdy W ∧ I k O W ∧ ¬ O w.heap.size ∧ ¬ O (w.heap.size + 1) ∧ w.heap.size + 2 ≤ W.heap.size
  let Jx : (Nat → Prop) → World → Prop := fun O' W => ∃ O c, (O' = fun j => O j ∨ j = w.heap.size + 1) ∧ K.fin c W ∧ Ix c O W ∧ ¬ O w.heap.size ∧ ¬ O (w.heap.size + 1)
  have hR : RidesW (w.heap.size + 1) wv (v.pre 1) J Jx := by
    refine ⟨?_, ?_, ?_, ?_⟩
    · rintro k O' W ⟨O, rfl, _, hI, _⟩
      exact hrd k O W hI
    · rintro k O' W ⟨O, rfl, _, hI, _, _, hz⟩ j (hj | hj)
      · exact hfr k O W hI j hj
      · omega
    · rintro k O' W W' ⟨O, rfl, hr, hI, h1, h2, hz⟩ hb
      exact ⟨O, rfl, K.keepR W W' hr (hb.block _ (by omega)) (hb.block _ (by omega)), hturn k O W W' _ hI (grown_below hb w.heap.size) (Nat.le_refl _) h1, h1, h2, Nat.le_trans hz hb.size⟩
    · rintro k O' W d x t ⟨O, rfl, hr, hI, h1, h2, hz⟩ hL hx
      have hyl := hyield #[.int .i64 d, .agg #[.int .i64 x.kind, .int .u64 x.num, .string x.text, t, .int .i64 x.elem]] W _ _ (by rw [hps]; rfl) hr (hround K k O d x t W hr hI h1 h2 hz hL (hx.rd (hrd k O W hI)))
      obtain ⟨fn, tmps, asg, bd, hyy, hRd⟩ := hyl
      refine ⟨fn, tmps, asg, bd, hyy, hRd.mono ?_⟩
      rintro e W' (⟨rfl, hr', W3, ⟨O2, hI2, hk2⟩, ht⟩ | ⟨rfl, c, hf', W3, ⟨O2, hI2, hk2⟩, ht⟩)
      · have n1 : ¬ O2 w.heap.size := fun q => by rcases hk2.own _ q with r | r; exact h1 r; omega
        have n2 : ¬ O2 (w.heap.size + 1) := fun q => by rcases hk2.own _ q with r | r; exact h2 r; omega
        exact .inl ⟨rfl, _, ⟨O2, rfl, hr', hturn _ _ _ _ _ hI2 ht.1 (by omega) n2, n1, n2, Nat.le_trans hz (Nat.le_trans hk2.size ht.1.size)⟩, hk2.turn ht⟩
      · have n1 : ¬ O2 w.heap.size := fun q => by rcases hk2.own _ q with r | r; exact h1 r; omega
        have n2 : ¬ O2 (w.heap.size + 1) := fun q => by rcases hk2.own _ q with r | r; exact h2 r; omega
        exact .inr ⟨rfl, _, ⟨O2, c, rfl, hf', hturnX _ _ _ _ _ hI2 ht.1 (by omega) n2, n1, n2⟩, hk2.turn ht⟩
  have hJ1 : J 0 (fun j => O j ∨ j = w.heap.size + 1) W1 := ⟨O, rfl, hrd1, hturn 0 O w W1 w.heap.size hI0 ⟨hg1.os, hg1.tape, hg1.output, hg1.size, fun k hk _ => hg1.block k hk (by simp)⟩ (Nat.le_refl _) hOD, hOD, hOl, by omega⟩
  refine (each1_in hR hv hJ1 hwt hy1).mono ?_
  rintro e W2 ⟨⟨u, rfl⟩, (⟨O2, O3, rfl, hr, hI, h1, h2, hz⟩ | ⟨O2, O3, c, rfl, hf, hI, h1, h2⟩)⟩
  · exact ⟨⟨_, rfl⟩, .inl ⟨hr, fun W3 ht hD => hdone O3 W3 (hturn _ _ _ _ _ hI ht.1 (by omega) h2) hD h1⟩⟩
  · exact ⟨⟨_, rfl⟩, .inr ⟨c, hf, fun W3 ht hD => hexit c O3 W3 (hturnX _ _ _ _ _ hI ht.1 (by omega) h2) hD h1⟩⟩
end Go.Proofs.YtjipennigjlklaaDoor
