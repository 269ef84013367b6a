/-
  walk and each: all that stands in a value is told. Conditions: the value lies in memory.
  Values that came in lie in memory. Plain lemmas over the form's readings. No conditions.
-/
import Derived.Test.YtakbgekamjpibaaDoorMg12
import Derived.Test.YtakbgekamjpibaaDoorMg04
import Derived.Test.YtakbgekamjpibaaDoorRows
import Derived.ProofKit
import Derived.OpenShut
import Derived.ChangeArms
import Derived.Deep.Slices
namespace Go.Proofs.YtakbgekamjpibaaDoor
open Go.RowKit
set_option linter.unusedVariables false

mutual
/-- what stands in a value, itself ahead of it, each with its depth -/
def V.pre : V → Int → List (Int × V)
  | .mk k n t l e, d => (d, .mk k n t l e) :: pres l (d + 1)
def pres : List V → Int → List (Int × V)
  | [], _ => []
  | v :: r, d => v.pre d ++ pres r d
end
theorem V.pre_eq (v : V) (d : Int) : v.pre d = (d, v) :: pres v.list (d + 1) := by cases v; rw [V.pre]; rfl
theorem pres_take (l : List V) (d : Int) {i : Nat} (h : i < l.length) : pres (l.take (i + 1)) d = pres (l.take i) d ++ l[i].pre d := by
  induction l generalizing i with
  | nil => simp at h
  | cons a r ih =>
    cases i with
    | zero => simp [pres]
    | succ i =>
      have h2 : i < r.length := by simpa using h
      simp only [List.take_succ_cons, pres, List.getElem_cons_succ, List.append_assoc, ih h2]
theorem pres_split (l : List V) (d : Int) (i : Nat) : pres l d = pres (l.take i) d ++ pres (l.drop i) d := by
  induction l generalizing i with
  | nil => simp [pres]
  | cons a r ih =>
    cases i with
    | zero => simp [pres]
    | succ i => simp only [List.take_succ_cons, List.drop_succ_cons, pres, List.append_assoc, ← ih]

/-- the cells of one world lie in another one -/
def Rd (w W : World) : Prop := ∀ (b i : Nat) (u : Value), w.cell? ⟨b, i, none⟩ = some u → W.cell? ⟨b, i, none⟩ = some u
theorem VIn.rd {w W : World} {v : V} {s : Value} (h : VIn w v s) (hr : Rd w W) : VIn W v s := by
  induction h with
  | mk v p c ss wf hc hm ha hcell hin ih =>
    exact .mk v p c ss wf hc hm ha (fun b o e i hi j u hu => hr _ _ _ (hcell b o e i hi j u hu)) ih
theorem rd_below {w W : World} (h : Below w.heap.size w W) : Rd w W := fun b i u hc => bs_cellV h hc
theorem Rd.trans {w W W' : World} (h : Rd w W) (h' : Rd W W') : Rd w W' := fun b i u hc => h' b i u (h b i u hc)
theorem rangeAt_rd {w W : World} {b o : Nat} {l : List Value} (h : w.rangeAt b o l) (hr : Rd w W) : W.rangeAt b o l := fun j u hu => hr _ _ _ (h j u hu)

/-- all is kept but what one may write (O) -/
structure KeepW (O : Nat → Prop) (W : World) (O2 : Nat → Prop) (W2 : World) : Prop where
  os : W2.os = W.os
  tape : W2.tape = W.tape
  output : W2.output = W.output
  size : W.heap.size ≤ W2.heap.size
  block : ∀ j, j < W.heap.size → ¬ O j → W2.heap[j]? = W.heap[j]?
  own : ∀ j, O2 j → O j ∨ W.heap.size ≤ j
theorem KeepW.trans {O O2 O3 : Nat → Prop} {W W2 W3 : World} (h : KeepW O W O2 W2) (h' : KeepW O2 W2 O3 W3) : KeepW O W O3 W3 := by
  refine ⟨h'.os.trans h.os, h'.tape.trans h.tape, h'.output.trans h.output, Nat.le_trans h.size h'.size, fun j hj ho => (h'.block j (Nat.lt_of_lt_of_le hj h.size) (fun q => ?_)).trans (h.block j hj ho), fun j hj => ?_⟩
  · rcases h.own j q with r | r
    · exact ho r
    · omega
  · have := h.size
    rcases h'.own j hj with r | r
    · exact h.own j r
    · exact .inr (by omega)
theorem keepW_below {O : Nat → Prop} {W W2 : World} (h : Below W.heap.size W W2) : KeepW O W O W2 := ⟨h.os, h.tape, h.output, h.size, fun j hj _ => h.block j hj, fun j hj => .inl hj⟩

/-- what a caller's invariant must bear: L is what is told, k how far; O: what the caller may write -/
structure RidesW (l : Nat) (w : World) (L : List (Int × V)) (J : Nat → (Nat → Prop) → World → Prop) (Jx : (Nat → Prop) → World → Prop) : Prop where
  reads : ∀ k O W, J k O W → Rd w W
  fresh : ∀ k O W, J k O W → ∀ j, O j → j < W.heap.size
  turn : ∀ k O W W', J k O W → Below W.heap.size W W' → J k O W'
  yields : ∀ k O W d x t, J k O W → L[k]? = some (d, x) → VIn w x t → YieldAt Fence.wide 3 Tryd.prog l #[.int .i64 d, .agg #[.int .i64 x.kind, .int .u64 x.num, .string x.text, t, .int .i64 x.elem]] W fun e W2 =>
    (e = .returned (.bool true) ∧ ∃ O2, J (k + 1) O2 W2 ∧ KeepW O W O2 W2) ∨ (e = .returned (.bool false) ∧ ∃ O2, Jx O2 W2 ∧ KeepW O W O2 W2)
/-- how it ends -/
def WalkEnd (J : Nat → (Nat → Prop) → World → Prop) (Jx : (Nat → Prop) → World → Prop) (k : Nat) (O : Nat → Prop) (W : World) (e : Ending) (W' : World) : Prop :=
  (e = .returned (.bool true) ∧ ∃ O2, J k O2 W' ∧ KeepW O W O2 W') ∨ (e = .returned (.bool false) ∧ ∃ O2, Jx O2 W' ∧ KeepW O W O2 W')

set_option maxRecDepth 20000 in
set_option maxHeartbeats 4000000 in
theorem walk_in {l : Nat} {w : World} {L : List (Int × V)} {J : Nat → (Nat → Prop) → World → Prop} {Jx : (Nat → Prop) → World → Prop} (hR : RidesW l w L J Jx) : ∀ (v : V) (d : Int) (s : Value) (k : Nat) (O : Nat → Prop) (W : World),
    VIn w v s → J k O W → (∀ i, i < (v.pre d).length → L[k + i]? = (v.pre d)[i]?) → 0 ≤ d → d + v.wt ≤ 4611686018427387904 →
    Calls Tryd.prog 62 #[.agg #[.int .i64 v.kind, .int .u64 v.num, .string v.text, s, .int .i64 v.elem], .int .i64 d, .func (.yield l) #[] #[]] W (WalkEnd J Jx (k + (v.pre d).length) O W) := by
  refine V.ind (fun v ih d s k O W h hJ hL hd0 hd1 => ?_)
  obtain ⟨p, c, hs, h1, h2, h3⟩ := h.slice
  obtain ⟨N, hN⟩ : ∃ N, v.list.length = N := ⟨_, rfl⟩
  rw [hN] at hs h1 h3
  subst hs
  unfold maxLen at h2
  have HI := Lib.hid ih
  have HN := Lib.hid hN
  have HV := Lib.hid h
  have HJ := Lib.hid hJ
  have HL := Lib.hid hL
  have HD := Lib.hid hd1
  have HR := Lib.hid hR
  have hd2 : d + 1 ≤ 9223372036854775807 := by omega
  obtain ⟨K, hK⟩ : ∃ K, k + (v.pre d).length = K := ⟨_, rfl⟩
  have HK := Lib.hid hK
  rw [hK]
  clear ih h hN hJ hL hd1 hR hK
  go_enter Tryd.func62, Tryd.ntmps62
  go_upto_region 1 with fail
  have hb0 : Below W.heap.size W (W.alloc (.cells #[.int .i64 v.kind, .int .u64 v.num, .string v.text, (.slice p N c), .int .i64 v.elem] 25)) := ((Below.refl _ _).alloc (Nat.le_refl _) _)
  have ox : (W.alloc (.cells #[.int .i64 v.kind, .int .u64 v.num, .string v.text, (.slice p N c), .int .i64 v.elem] 25)).heap[W.heap.size]? = some (.cells #[.int .i64 v.kind, .int .u64 v.num, .string v.text, (.slice p N c), .int .i64 v.elem] 25 (0, 0)) := _root_.Go.heap_alloc_new _ _
  generalize (W.alloc (.cells #[.int .i64 v.kind, .int .u64 v.num, .string v.text, (.slice p N c), .int .i64 v.elem] 25)) = w0 at *
  obtain ⟨x, hx⟩ : ∃ x, W.heap.size = x := ⟨_, rfl⟩
  have HX0 := Lib.hid hx
  rw [hx] at ox ⊢
  have HB0 := Lib.hid hb0
  have HOx := Lib.hid ox
  clear hb0 ox hx
  have x0 : w0.cell? ⟨x, 0, none⟩ = some (.int .i64 v.kind) := (cell_of_row _ _ 0 _ _ _ HOx.out).trans rfl
  have x1 : w0.cell? ⟨x, 1, none⟩ = some (.int .u64 v.num) := (cell_of_row _ _ 1 _ _ _ HOx.out).trans rfl
  have x2 : w0.cell? ⟨x, 2, none⟩ = some (.string v.text) := (cell_of_row _ _ 2 _ _ _ HOx.out).trans rfl
  have x3 : w0.cell? ⟨x, 3, none⟩ = some (.slice p N c) := (cell_of_row _ _ 3 _ _ _ HOx.out).trans rfl
  have x4 : w0.cell? ⟨x, 4, none⟩ = some (.int .i64 v.elem) := (cell_of_row _ _ 4 _ _ _ HOx.out).trans rfl
  have HX : Hid (W.heap.size = x ∧ x < w0.heap.size) := Lib.hid ⟨HX0.out, (Array.getElem?_eq_some_iff.1 HOx.out).1⟩
  have hJ0 := HR.out.turn k O W w0 HJ.out HB0.out
  have h0 : L[k]? = some (d, v) := by
    have := HL.out 0 (by rw [V.pre_eq]; simp)
    rw [V.pre_eq] at this
    simpa using this
  have hyl := HR.out.yields k O w0 d v _ hJ0 h0 HV.out
  obtain ⟨fn, tmps, assign, body, hyy, hRd⟩ := hyl
  have HRd := Lib.hid hRd
  clear hRd hJ0 h0
  refine (wpIn_wide (n := 4)).1 ?_
  gi_wp2
  refine HRd.out.mono ?_
  rintro e W2 (⟨rfl, O2, hj2, hk2⟩ | ⟨rfl, O2, hj2, hk2⟩)
  · have HK2 := Lib.hid ((keepW_below (O := O) HB0.out).trans hk2)
    have HJ2 := Lib.hid hj2
    have hxo : ¬ O2 x := fun q => by
      have h1 := HX.out
      rcases HK2.out.own x q with r | r
      · have := HR.out.fresh k O W HJ.out x r; omega
      · rcases hk2.own x q with r2 | r2
        · have := HR.out.fresh k O W HJ.out x r2; omega
        · omega
    have hxb : W2.heap[x]? = _ := (hk2.block x HX.out.2 (fun q => by have := HR.out.fresh k O W HJ.out x q; have := HX.out.1; omega)).trans HOx.out
    have c3 : W2.cell? ⟨x, 3, none⟩ = some (.slice p N c) := (cell_of_row _ _ 3 _ _ _ hxb).trans rfl
    clear hj2 hk2 hxb hxo x0 x1 x2 x3 x4 hyy
    gi_wp2
    go_wp2_with fail
    go_loopw [17] (fun v5 wr => ∃ (i : Nat) (O3 : Nat → Prop), i ≤ N ∧ v5 = .int .i64 i ∧ J (k + 1 + (pres (v.list.take i) (d + 1)).length) O3 wr ∧ KeepW O W O3 wr) (fun v5 _ => N - (intOf v5).toNat)
    case atStart => exact ⟨0, O2, Nat.zero_le _, rfl, by rw [List.take_zero]; exact HJ2.out, HK2.out⟩
    case round =>
      obtain ⟨i, O3, hi, rfl, hj3, hk3⟩ := hrel
      have HR3 := Lib.hid (And.intro hj3 hk3)
      clear hj3 hk3 c3
      by_cases hkN : (i : Int) < N
      · have ka : i < v.list.length := by rw [HN.out]; omega
        obtain ⟨b1, o1, rfl⟩ := h3 (by omega)
        obtain ⟨ta, hta, hia⟩ := HV.out.part rfl ka
        obtain ⟨pa, ca, hsa, _⟩ := hia.slice
        subst hsa
        obtain ⟨c0, c1, c2, c3, c4⟩ := part_cells (rangeAt_rd hta (HR.out.reads _ _ _ HR3.out.1))
        have htk := pres_take v.list (d + 1) ka
        have hwt := V.wt_lt (List.getElem_mem ka)
        have hIH := HI.out _ (List.getElem_mem ka) (d + 1) (.slice pa v.list[i].list.length ca) (k + 1 + (pres (v.list.take i) (d + 1)).length) O3
        have hseg : ∀ j, j < (v.list[i].pre (d + 1)).length → L[k + 1 + (pres (v.list.take i) (d + 1)).length + j]? = (v.list[i].pre (d + 1))[j]? := by
          intro j hj
          have hsp := pres_split v.list (d + 1) (i + 1)
          rw [htk] at hsp
          have hlen : (v.pre d).length = 1 + ((pres (v.list.take i) (d + 1)).length + (v.list[i].pre (d + 1)).length + (pres (v.list.drop (i + 1)) (d + 1)).length) := by
            rw [V.pre_eq, hsp]; simp only [List.length_cons, List.length_append]; omega
          have := HL.out (1 + (pres (v.list.take i) (d + 1)).length + j) (by omega)
          rw [show k + 1 + (pres (v.list.take i) (d + 1)).length + j = k + (1 + (pres (v.list.take i) (d + 1)).length + j) by omega, this, V.pre_eq, hsp,
            show 1 + (pres (v.list.take i) (d + 1)).length + j = ((pres (v.list.take i) (d + 1)).length + j) + 1 by omega, List.getElem?_cons_succ, List.append_assoc,
            List.getElem?_append_right (by omega), Nat.add_sub_cancel_left, List.getElem?_append_left hj]
        have hnext : k + 1 + (pres (v.list.take i) (d + 1)).length + (v.list[i].pre (d + 1)).length = k + 1 + (pres (v.list.take (i + 1)) (d + 1)).length := by rw [htk, List.length_append]; omega
        obtain ⟨ya, hya⟩ : ∃ ya, v.list[i] = ya := ⟨_, rfl⟩
        rw [hya] at c0 c1 c2 c3 c4 hia hIH hseg hnext hwt
        have hIH2 := fun W hJ => hIH W hia hJ hseg (by omega) (by have := HD.out; omega)
        rw [hnext] at hIH2
        obtain ⟨na, hna⟩ : ∃ na, ya.list.length = na := ⟨_, rfl⟩
        rw [hna] at c3 hIH2
        have HIH := Lib.hid hIH2
        clear hta hia hya hna htk hIH hseg hnext hwt hIH2
        go_upto_region 6 with (refine wpList_store_rowTo rfl 25 (.tmp 8) (.tmp 20) rfl rfl wr.heap.size #[.int .i64 ya.kind, .int .u64 ya.num, .string ya.text, (.slice pa na ca), .int .i64 ya.elem] rfl rfl 25 #[.int .i64 0, .int .u64 0, .string ⟨#[]⟩, .slice none 0 0, .int .i64 0] (_root_.Go.heap_alloc_new wr _) (by as_aux_lemma => kernel_rfl) (by as_aux_lemma => kernel_rfl) (by simp [Value.oneCell']) ?_)
        have hb_w1 : Below wr.heap.size wr ((wr.alloc (.cells #[.int .i64 0, .int .u64 0, .string ⟨#[]⟩, .slice none 0 0, .int .i64 0] 25)).setRow wr.heap.size #[.int .i64 ya.kind, .int .u64 ya.num, .string ya.text, (.slice pa na ca), .int .i64 ya.elem]) := below_setRow ((Below.refl _ _).alloc (Nat.le_refl _) _) (Nat.le_refl _) _
        have oy := setRow_heap (wr.alloc (.cells #[.int .i64 0, .int .u64 0, .string ⟨#[]⟩, .slice none 0 0, .int .i64 0] 25)) wr.heap.size _ #[.int .i64 ya.kind, .int .u64 ya.num, .string ya.text, (.slice pa na ca), .int .i64 ya.elem] _ _ (_root_.Go.heap_alloc_new wr _)
        change Code.wp _ _ _ _ ((wr.alloc (.cells #[.int .i64 0, .int .u64 0, .string ⟨#[]⟩, .slice none 0 0, .int .i64 0] 25)).setRow wr.heap.size #[.int .i64 ya.kind, .int .u64 ya.num, .string ya.text, (.slice pa na ca), .int .i64 ya.elem])
        generalize ((wr.alloc (.cells #[.int .i64 0, .int .u64 0, .string ⟨#[]⟩, .slice none 0 0, .int .i64 0] 25)).setRow wr.heap.size #[.int .i64 ya.kind, .int .u64 ya.num, .string ya.text, (.slice pa na ca), .int .i64 ya.elem]) = w1 at *
        obtain ⟨y, hx_y⟩ : ∃ x, wr.heap.size = x := ⟨_, rfl⟩
        rw [hx_y] at oy ⊢
        clear hx_y
        have y0 : w1.cell? ⟨y, 0, none⟩ = some (.int .i64 ya.kind) := (cell_of_row _ _ 0 _ _ _ oy).trans rfl
        have y1 : w1.cell? ⟨y, 1, none⟩ = some (.int .u64 ya.num) := (cell_of_row _ _ 1 _ _ _ oy).trans rfl
        have y2 : w1.cell? ⟨y, 2, none⟩ = some (.string ya.text) := (cell_of_row _ _ 2 _ _ _ oy).trans rfl
        have y3 : w1.cell? ⟨y, 3, none⟩ = some (.slice pa na ca) := (cell_of_row _ _ 3 _ _ _ oy).trans rfl
        have y4 : w1.cell? ⟨y, 4, none⟩ = some (.int .i64 ya.elem) := (cell_of_row _ _ 4 _ _ _ oy).trans rfl
        have hc := HIH.out w1 (HR.out.turn _ _ _ _ HR3.out.1 hb_w1)
        have HB1 := Lib.hid hb_w1
        have HC := Lib.hid hc
        clear hb_w1 oy hc c0 c1 c2 c3 c4
        go_wp2_with fail
        refine HC.out.mono ?_
        rintro e w2 (⟨rfl, O4, hj4, hk4⟩ | ⟨rfl, O4, hj4, hk4⟩)
        · have HR4 := Lib.hid (And.intro hj4 ((HR3.out.2.trans (keepW_below HB1.out)).trans hk4))
          clear hj4 hk4 y0 y1 y2 y3 y4
          go_wp2_with fail
          go_roundw
          case rel => exact ⟨i + 1, O4, by omega, by go_num, HR4.out.1, HR4.out.2⟩
          case measure => simp [intOf]; omega
        · have HR4 := Lib.hid (And.intro hj4 ((HR3.out.2.trans (keepW_below HB1.out)).trans hk4))
          clear hj4 hk4 y0 y1 y2 y3 y4
          go_wp2_with fail
          go_ret
          exact .inr ⟨rfl, O4, HR4.out.1, HR4.out.2⟩
      · have hJK : J K O3 wr := by
          have h1 := HR3.out.1
          rw [List.take_of_length_le (by rw [HN.out]; omega)] at h1
          rw [← HK.out, V.pre_eq, List.length_cons, show k + ((pres v.list (d + 1)).length + 1) = k + 1 + (pres v.list (d + 1)).length by omega]
          exact h1
        have HJK := Lib.hid hJK
        clear hJK
        go_wp2_with fail
        go_ret
        exact .inl ⟨rfl, O3, HJK.out, HR3.out.2⟩
  · have HK2 := Lib.hid (And.intro hj2 ((keepW_below (O := O) HB0.out).trans hk2))
    clear hj2 hk2 x0 x1 x2 x3 x4 hyy
    gi_wp2
    go_wp2_with fail
    go_ret
    exact .inr ⟨rfl, O2, HK2.out.1, HK2.out.2⟩


end Go.Proofs.YtakbgekamjpibaaDoor

namespace Go.Proofs.YtakbgekamjpibaaDoor
open Go.RowKit Go.ChangeShapes Go.WideShapes Go.ChangeAt Go.Deep
set_option linter.unusedVariables false

theorem vlist5v {l : List Value} (h : l.length = 5) : ∃ a b c d e, l = [a, b, c, d, e] := by
  match l, h with
  | [a, b, c, d, e], _ => exact ⟨a, b, c, d, e, rfl⟩
theorem wf_i64V {n : Int} (h : (Lit.int .i64 n).wf = true) : IsI64 n := by
  obtain ⟨h1, h2⟩ := bd_i64 h
  exact ⟨h1, by omega⟩
theorem wf_u64V {n : Int} (h : (Lit.int .u64 n).wf = true) : IsU64 n := by
  obtain ⟨m, rfl, hm⟩ := bd_u64 h
  exact ⟨by omega, by omega⟩
theorem choose_ltV {α : Type} (d : α) {n : Nat} {p : Nat → α → Prop} (h : ∀ i, i < n → ∃ x, p i x) : ∃ F : Nat → α, ∀ i, i < n → p i (F i) := by
  refine ⟨fun i => if hi : i < n then (h i hi).choose else d, fun i hi => ?_⟩
  simp only [dif_pos hi]
  exact (h i hi).choose_spec

section
variable {H : Type} {enc : TypeId × Value → H} {w : World}

/-- the parts of a list that came in -/
theorem parts_openV {fuel : Nat} {v : Value} {x : DataW H × List MemPlace} (h : DataW.trod enc Tryd.prog w 0 (fun _ => true) true fuel 23 [v] = some x)
    (ih : ∀ n, n < fuel → ∀ cs x, DataW.trod enc Tryd.prog w 0 (fun _ => true) true n 25 cs = some x → ∃ v s, cs = vcells v s ∧ VIn w v s) :
    ∃ (p : Option Addr) (n c : Nat) (l : List V) (ss : Nat → Value), v = .slice p n c ∧ l.length = n ∧ n ≤ c ∧ c ≤ maxLen ∧ (0 < n → ∃ b o, p = some ⟨b, o, none⟩) ∧ (∀ b o, p = some ⟨b, o, none⟩ → ∀ i (hi : i < l.length), w.rangeAt b (o + i * 5) (vcells l[i] (ss i))) ∧ ∀ i (hi : i < l.length), VIn w l[i] (ss i) := by
  rcases DataW.trod_slice Tryd.underlying23 h with ⟨e, _⟩ | ⟨a, len, cap, elems, rest, n, rfl, hcs, _, _, hl, hm, hlen, hel, _, _⟩
  · simp only [List.cons.injEq, and_true] at e
    subst e
    exact ⟨none, 0, 0, [], fun _ => undef, rfl, rfl, Nat.le_refl _, Nat.zero_le _, fun q => by omega, (fun b o e => by cases e), fun i hi => by simp at hi⟩
  · simp only [List.cons.injEq, and_true] at hcs
    subst hcs
    have hc5 : Tryd.prog.cellsOf 25 = 5 := by kernel_rfl
    rw [hc5] at hel
    obtain ⟨F, hF⟩ := choose_ltV (α := V × Value) (default, undef) (n := len) (p := fun i f => w.cells? 0 (a.add (i * 5)) 5 = some (vcells f.1 f.2) ∧ VIn w f.1 f.2) (fun i hi => by
      have hb := hel i hi
      rw [List.getElem?_eq_getElem (by omega)] at hb
      obtain ⟨cs', h1, h2⟩ := Option.bind_eq_some_iff.1 hb
      obtain ⟨v, s, rfl, h3⟩ := ih n (Nat.lt_succ_self n) cs' _ h2
      exact ⟨(v, s), h1, h3⟩)
    have hadd : ∀ (b o' i : Nat), (⟨b, o', none⟩ : Addr).add i = ⟨b, o' + i, none⟩ := fun b o' i => by unfold Addr.add; split <;> simp_all
    refine ⟨some a, len, cap, (List.range len).map fun i => (F i).1, fun i => (F i).2, rfl, by simp, hl, hm, fun hpos => ?_, fun b o e i hi j u hu => ?_, fun i hi => ?_⟩
    · obtain ⟨b, o, spot⟩ := a
      obtain ⟨h1, _⟩ := hF 0 hpos
      obtain ⟨_, _, h0c⟩ := World.cells?_some h1
      have h00 := h0c 0 (by omega)
      have hspot : spot = none := by simpa [Addr.add] using World.cell?_spot (h00.trans rfl)
      subst hspot
      exact ⟨b, o, rfl⟩
    · simp only [Option.some.injEq] at e
      subst e
      have hil : i < len := by simpa using hi
      obtain ⟨h1, _⟩ := hF i hil
      obtain ⟨_, _, h1c⟩ := World.cells?_some h1
      have hj : j < 5 := (List.getElem?_eq_some_iff.1 hu).1
      have := h1c j hj
      rw [hadd, hadd] at this
      rw [this, ← hu]
      simp
    · have hil : i < len := by simpa using hi
      have := (hF i hil).2
      simpa using this

theorem val_open : ∀ (fuel : Nat) (cs : List Value) (x : DataW H × List MemPlace), DataW.trod enc Tryd.prog w 0 (fun _ => true) true fuel 25 cs = some x → ∃ v s, cs = vcells v s ∧ VIn w v s := by
  intro fuel
  induction fuel using Nat.strongRecOn with
  | ind fuel ih =>
    intro cs x h
    obtain ⟨xs, n, rfl, rfl, hl, hlen, hf⟩ := DataW.trod_struct Tryd.underlying25 h
    have hc5 : Tryd.prog.cellsOf 25 = 5 := by kernel_rfl
    rw [hc5] at hl
    obtain ⟨v0, v1, v2, v3, v4, rfl⟩ := vlist5v hl
    have ci : Tryd.prog.cellsOf 3 = 1 := by kernel_rfl
    have cn : Tryd.prog.cellsOf 22 = 1 := by kernel_rfl
    have cs' : Tryd.prog.cellsOf 9 = 1 := by kernel_rfl
    have cl : Tryd.prog.cellsOf 23 = 1 := by kernel_rfl
    match xs, hlen with
    | [y0, y1, y2, y3, y4], _ =>
      have h0 : DataW.trod enc Tryd.prog w 0 (fun _ => true) true n 3 [v0] = some y0 := by simpa [ci] using hf 0 _ rfl
      have h1 : DataW.trod enc Tryd.prog w 0 (fun _ => true) true n 22 [v1] = some y1 := by simpa [cn] using hf 1 _ rfl
      have h2 : DataW.trod enc Tryd.prog w 0 (fun _ => true) true n 9 [v2] = some y2 := by simpa [cs'] using hf 2 _ rfl
      have h3 : DataW.trod enc Tryd.prog w 0 (fun _ => true) true n 23 [v3] = some y3 := by simpa [cl] using hf 3 _ rfl
      have h4 : DataW.trod enc Tryd.prog w 0 (fun _ => true) true n 3 [v4] = some y4 := by simpa [ci] using hf 4 _ rfl
      obtain ⟨k, e0, _, w0⟩ := DataW.trod_int Tryd.underlying3 h0
      obtain ⟨m, e1, _, w1⟩ := DataW.trod_int Tryd.underlying22 h1
      obtain ⟨t, e2, _, w2⟩ := DataW.trod_string Tryd.underlying9 h2
      obtain ⟨p, n3, c3, l, ss, e3, hll, q1, q2, q3, q4, q5⟩ := parts_openV h3 (fun m hm => ih m (by omega))
      obtain ⟨e, e4, _, w4⟩ := DataW.trod_int Tryd.underlying3 h4
      simp only [List.cons.injEq, and_true] at e0 e1 e2 e4
      subst e0 e1 e2 e3 e4
      subst hll
      exact ⟨.mk k m t l e, _, rfl, .mk (.mk k m t l e) p c3 ss ⟨wf_i64V w0, wf_u64V w1, w2, wf_i64V w4⟩ q1 q2 q3 q4 q5⟩

theorem vals_open {fuel : Nat} {v : Value} {x : DataW H × List MemPlace} (h : DataW.trod enc Tryd.prog w 0 (fun _ => true) true fuel 23 [v] = some x) : ∃ L, VIn w (V.mk 0 0 ByteArray.empty L 0) v := by
  obtain ⟨p, n, c, l, ss, rfl, hll, q1, q2, q3, q4, q5⟩ := parts_openV h (fun m _ => val_open m)
  subst hll
  exact ⟨l, .mk (V.mk 0 0 ByteArray.empty l 0) p c ss ⟨⟨by show (-9223372036854775808 : Int) ≤ 0; omega, by show (0 : Int) ≤ 9223372036854775807; omega⟩, ⟨by show (0 : Int) ≤ 0; omega, by show (0 : Int) ≤ 18446744073709551615; omega⟩, Nat.zero_le _, ⟨by show (-9223372036854775808 : Int) ≤ 0; omega, by show (0 : Int) ≤ 9223372036854775807; omega⟩⟩ q1 q2 q3 q4 q5⟩
end
end Go.Proofs.YtakbgekamjpibaaDoor
