/-
  The codec's inner, put of every right value; Encode, Length. Conditions: the value lies in memory; the tables stand.
  Values that came in lie in memory. Plain lemmas over the form's readings. No conditions.
  Values that were lent: each list in a block of one's own with three marked places behind it; what keeps all but some blocks; a value turned. Plain lemmas. No conditions.
-/
import Derived.Test.YtjipennigjlklaaDoorDd
import Derived.Test.YtjipennigjlklaaDoorMg24
import Derived.Test.YtjipennigjlklaaDoorMg04
import Derived.Test.YtjipennigjlklaaDoorRows
import Derived.ProofKit
import Derived.OpenShut
import Derived.ChangeArms
import Derived.Deep.Slices
import Derived.Test.YtjipennigjlklaaDoorMg11
import Derived.Test.YtjipennigjlklaaDoorMg07
namespace Go.Proofs.YtjipennigjlklaaDoor
open Go.RowKit
set_option linter.unusedVariables false
set_option maxHeartbeats 4000000

attribute [local go_sem] Oper.semAt_some

set_option maxRecDepth 20000 in
theorem inn_of (v : V) (ih : ∀ x ∈ v.list, PutOn x) (hu : UniOn v) : InnOn v := by
  intro hr hwt w s hv
  obtain ⟨p, cs, hs, h1, h2, h3⟩ := hv.slice
  obtain ⟨N, hN⟩ : ∃ N, v.list.length = N := ⟨_, rfl⟩
  rw [hN] at hs h1 h3
  subst hs
  have hlw := list_wt v
  have hNb : (N : Int) ≤ 4294967296 := by omega
  have HV := Lib.hid (And.intro hv (And.intro hN h3))
  have HR := Lib.hid (And.intro hr hwt)
  have HU := Lib.hid hu
  clear hv hN h1 h2 h3 hr hwt hlw hu
  go_enter Tryd.func27, Tryd.ntmps27
  go_upto_region 1 with fail
  have hb0 : Below w.heap.size w (w.alloc (.cells #[.int .i64 v.kind, .int .u64 v.num, .string v.text, (.slice p N cs), .int .i64 v.elem] 25)) := ((Below.refl _ _).alloc (Nat.le_refl _) _)
  have ox := _root_.Go.heap_alloc_new w (.cells #[.int .i64 v.kind, .int .u64 v.num, .string v.text, (.slice p N cs), .int .i64 v.elem] 25)
  generalize (w.alloc (.cells #[.int .i64 v.kind, .int .u64 v.num, .string v.text, (.slice p N cs), .int .i64 v.elem] 25)) = w0 at *
  obtain ⟨x, hx⟩ : ∃ x, w.heap.size = x := ⟨_, rfl⟩
  rw [hx] at ox ⊢
  have HB0 := Lib.hid hb0
  have x0 : w0.cell? ⟨x, 0, none⟩ = some (.int .i64 v.kind) := (cell_of_row _ _ 0 _ _ _ ox).trans rfl
  have x1 : w0.cell? ⟨x, 1, none⟩ = some (.int .u64 v.num) := (cell_of_row _ _ 1 _ _ _ ox).trans rfl
  have x2 : w0.cell? ⟨x, 2, none⟩ = some (.string v.text) := (cell_of_row _ _ 2 _ _ _ ox).trans rfl
  have x3 : w0.cell? ⟨x, 3, none⟩ = some ((.slice p N cs)) := (cell_of_row _ _ 3 _ _ _ ox).trans rfl
  have x4 : w0.cell? ⟨x, 4, none⟩ = some (.int .i64 v.elem) := (cell_of_row _ _ 4 _ _ _ ox).trans rfl
  have HX := Lib.hid hx
  have HOX := Lib.hid ox
  clear hb0 ox hx
  have HW0 := Lib.hid (And.intro HB0.out HB0.out.size)
  by_cases hk : v.kind = 23
  · have hc := HU.out HR.out.1 HR.out.2 hk w0 _ (HV.out.1.blw HB0.out)
    have HC := Lib.hid hc
    have hk2 : (v.kind == 23) = true := by simp [hk]
    clear hc hk
    go_wp2_with fail
    refine HC.out.mono ?_
    clear x0 x1 x2 x3 x4
    rintro e w1 ⟨u, rfl, hu, hb1⟩
    have HO := Lib.hid (show OwnBytes w1 w.heap.size 5 u (inn v) from ⟨ownsRow_base hu.row (fun i hi => by have h1 := (hu.row.lt i hi).1; have h2 := HW0.out.2; omega)⟩)
    have HB1 := Lib.hid (HB0.out.trans (hb1.mono HW0.out.2))
    clear hu hb1
    go_wp2_with fail
    go_ret
    exact ⟨_, rfl, HO.out, HB1.out⟩
  · have hk2 : (v.kind == 23) = false := by simp [hk]
    have HK := Lib.hid hk
    clear hk
    go_wp2_with fail
    go_loopw [3, 14] (fun v3 v14 wr => ∃ (k : Nat) (u : Value), k ≤ N ∧ v14 = .int .i64 k ∧ u = v3 ∧ OwnBytes wr w.heap.size 5 u (putVs (v.list.take k)) ∧ Below w.heap.size w wr) (fun _ v14 _ => N - (intOf v14).toNat)
    case atStart => exact ⟨0, _, Nat.zero_le _, rfl, rfl, by simpa [putVs] using OwnBytes.nil _ _ _, HB0.out⟩
    case round =>
      obtain ⟨k, u, hkN, rfl, rfl, ho, hb⟩ := hrel
      have HOB := Lib.hid (And.intro ho hb)
      clear ho hb x0 x1 x2 x3 x4
      by_cases hlt : (k : Int) < N
      · have ka : k < v.list.length := by rw [HV.out.2.1]; omega
        obtain ⟨b, o, rfl⟩ := HV.out.2.2 (by omega)
        obtain ⟨t, hct, hvx⟩ := HV.out.1.part rfl ka
        have hmx := List.getElem_mem ka
        obtain ⟨px, nx, hsx, _⟩ := hvx.slice
        have hpv : putVs (v.list.take (k + 1)) = putVs (v.list.take k) ++ putV v.list[k] := by unfold putVs; rw [List.take_add_one, List.getElem?_eq_getElem ka, Option.toList_some, List.flatMap_append]; simp
        have hlen : (putVs (v.list.take k)).length + 81 * v.list[k].wt ≤ 81 * v.wt := by
          have h1 : (putVs (v.list.take k)).length ≤ 81 * wts (v.list.take k) := lens_le putV _ (fun x _ => (putV_len x).2)
          have h2 := wts_append (v.list.take k) (v.list.drop k)
          rw [List.take_append_drop] at h2
          have h3 : v.list[k].wt ≤ wts (v.list.drop k) := wts_mem (List.mem_of_getElem? (i := 0) (by rw [List.getElem?_drop, Nat.add_zero, List.getElem?_eq_getElem ka]))
          have h4 := v.wt_eq
          omega
        have hpx := ih _ hmx (HR.out.1.part hmx) (by have := V.wt_lt hmx; have := HR.out.2; omega)
        obtain ⟨c0, c1, c2, c3, c4⟩ := part_cells (rangeAt_rd hct (rd_below HOB.out.2))
        generalize v.list[k] = y at *
        obtain ⟨ny, hny⟩ : ∃ ny, y.list.length = ny := ⟨_, rfl⟩
        rw [hny] at hsx
        subst hsx
        have HY := Lib.hid (And.intro hvx (And.intro hpv (And.intro hlen hpx)))
        clear hct hvx hpv hlen hpx hmx ka hny
        skip
        go_upto_region 7 with (refine wpList_store_rowTo rfl 25 (.tmp 5) (.tmp 17) rfl rfl wr.heap.size #[.int .i64 y.kind, .int .u64 y.num, .string y.text, .slice px ny nx, .int .i64 y.elem] rfl rfl 25 zR (_root_.Go.heap_alloc_new wr _) (by as_aux_lemma => kernel_rfl) (by as_aux_lemma => kernel_rfl) (by simp [Value.oneCell']) ?_)
        have hb_w5 : Below wr.heap.size wr ((wr.alloc (.cells zR 25)).setRow wr.heap.size #[.int .i64 y.kind, .int .u64 y.num, .string y.text, .slice px ny nx, .int .i64 y.elem]) := below_setRow ((Below.refl _ _).alloc (Nat.le_refl _) _) (Nat.le_refl _) _
        have oxy := setRow_heap (wr.alloc (.cells zR 25)) wr.heap.size _ #[.int .i64 y.kind, .int .u64 y.num, .string y.text, .slice px ny nx, .int .i64 y.elem] _ _ (_root_.Go.heap_alloc_new wr _)
        change Code.wp _ _ _ _ ((wr.alloc (.cells zR 25)).setRow wr.heap.size #[.int .i64 y.kind, .int .u64 y.num, .string y.text, .slice px ny nx, .int .i64 y.elem])
        generalize ((wr.alloc (.cells zR 25)).setRow wr.heap.size #[.int .i64 y.kind, .int .u64 y.num, .string y.text, .slice px ny nx, .int .i64 y.elem]) = w5 at *
        obtain ⟨xy, hx_xy⟩ : ∃ x, wr.heap.size = x := ⟨_, rfl⟩
        rw [hx_xy] at oxy ⊢
        have HX_xy := Lib.hid hx_xy
        clear hx_xy
        have HB5 := Lib.hid hb_w5
        have HXY := Lib.hid oxy
        clear hb_w5 oxy c0 c1 c2 c3 c4
        have y0 : w5.cell? ⟨xy, 0, none⟩ = some (.int .i64 y.kind) := (cell_of_row _ _ 0 _ _ _ HXY.out).trans rfl
        have y1 : w5.cell? ⟨xy, 1, none⟩ = some (.int .u64 y.num) := (cell_of_row _ _ 1 _ _ _ HXY.out).trans rfl
        have y2 : w5.cell? ⟨xy, 2, none⟩ = some (.string y.text) := (cell_of_row _ _ 2 _ _ _ HXY.out).trans rfl
        have y3 : w5.cell? ⟨xy, 3, none⟩ = some (.slice px ny nx) := (cell_of_row _ _ 3 _ _ _ HXY.out).trans rfl
        have y4 : w5.cell? ⟨xy, 4, none⟩ = some (.int .i64 y.elem) := (cell_of_row _ _ 4 _ _ _ HXY.out).trans rfl
        have hbz : Below w.heap.size w w5 := HOB.out.2.trans (HB5.out.mono HOB.out.2.size)
        have hd := HY.out.2.2.2 w5 w _ u _ HY.out.1 hbz (HOB.out.1.of_below HB5.out) (by have h1 := HY.out.2.2.1; have h2 := HR.out.2; omega)
        have HD := Lib.hid hd
        have HZ := Lib.hid hbz
        clear hd hbz
        go_wp2_with fail
        refine HD.out.mono ?_
        rintro e w7 ⟨u7, rfl, ho7, hg7⟩
        have HO7 := Lib.hid ho7
        have HB7 := Lib.hid (HZ.out.trans (hg7.below (HOB.out.1.of_below HB5.out) HZ.out.size))
        clear ho7 hg7 y0 y1 y2 y3 y4
        go_wp2_with fail
        go_roundw
        case rel => exact ⟨k + 1, _, by omega, by go_num, rfl, by rw [HY.out.2.1]; exact HO7.out, HB7.out⟩
        case measure => simp [intOf]; omega
      · have hkN2 : k = N := by omega
        have HE := Lib.hid (show OwnBytes wr w.heap.size 5 u (inn v) from by
          have h := HOB.out.1
          rw [hkN2, List.take_of_length_le (by rw [HV.out.2.1]; exact Nat.le_refl _)] at h
          rw [inn_eq, if_neg HK.out]
          exact h)
        clear hkN2
        go_wp2_with fail
        go_ret
        exact ⟨_, rfl, HE.out, HOB.out.2⟩
theorem both_on : ∀ v : V, InnOn v ∧ PutOn v := by
  refine V.ind (fun v ih => ?_)
  have h1 : InnOn v := inn_of v (fun x hx => (ih x hx).2) (uni_of v (fun x hx => (ih x hx).1))
  exact ⟨h1, put_of v (fun x hx => (ih x hx).2) h1⟩
def EncTo (w : World) (v : V) (e : Ending) (w' : World) : Prop := ∃ u, e = .returned (.tuple #[u, .int .i64 (encS v).2]) ∧ OwnBytes w' w.heap.size 5 u (encS v).1 ∧ Below w.heap.size w w'
set_option maxRecDepth 20000 in
theorem encode_any (v : V) (w : World) (s : Value) (hv : VIn w v s) (hT : Tabs w) (hwt : v.wt ≤ 2000000) :
    Calls Tryd.prog 10 #[.agg #[.int .i64 v.kind, .int .u64 v.num, .string v.text, s, .int .i64 v.elem]] w (EncTo w v) := by
  have hc := fun W (hW : Below w.heap.size w W) => check_any v W s (hv.blw hW) (hT.below hW) hwt
  obtain ⟨E, hE⟩ : ∃ E, firstBad (v.pre 1) = E := ⟨_, rfl⟩
  rw [hE] at hc
  have HC := Lib.hid hc
  have HV := Lib.hid (And.intro hv (And.intro hwt hE))
  clear hc hv hT hwt hE
  go_enter Tryd.func10, Tryd.ntmps10
  go_upto_region 1 with fail
  have hb0 : Below w.heap.size w (w.alloc (.cells #[.int .i64 v.kind, .int .u64 v.num, .string v.text, s, .int .i64 v.elem] 25)) := ((Below.refl _ _).alloc (Nat.le_refl _) _)
  have ox := _root_.Go.heap_alloc_new w (.cells #[.int .i64 v.kind, .int .u64 v.num, .string v.text, s, .int .i64 v.elem] 25)
  generalize (w.alloc (.cells #[.int .i64 v.kind, .int .u64 v.num, .string v.text, s, .int .i64 v.elem] 25)) = w0 at *
  obtain ⟨x, hx⟩ : ∃ x, w.heap.size = x := ⟨_, rfl⟩
  rw [hx] at ox ⊢
  have HB0 := Lib.hid hb0
  have x0 : w0.cell? ⟨x, 0, none⟩ = some (.int .i64 v.kind) := (cell_of_row _ _ 0 _ _ _ ox).trans rfl
  have x1 : w0.cell? ⟨x, 1, none⟩ = some (.int .u64 v.num) := (cell_of_row _ _ 1 _ _ _ ox).trans rfl
  have x2 : w0.cell? ⟨x, 2, none⟩ = some (.string v.text) := (cell_of_row _ _ 2 _ _ _ ox).trans rfl
  have x3 : w0.cell? ⟨x, 3, none⟩ = some (s) := (cell_of_row _ _ 3 _ _ _ ox).trans rfl
  have x4 : w0.cell? ⟨x, 4, none⟩ = some (.int .i64 v.elem) := (cell_of_row _ _ 4 _ _ _ ox).trans rfl
  have HX := Lib.hid hx
  have HOX := Lib.hid ox
  clear hb0 ox hx
  go_wp2_with fail
  refine (HC.out w0 HB0.out).mono ?_
  clear x0 x1 x2 x3 x4
  rintro e w1 ⟨rfl, hb1⟩
  have HX1 := Lib.hid ((hb1.block x (gl HOX.out)).trans HOX.out)
  have HB1 := Lib.hid (HB0.out.trans (hb1.mono HB0.out.size))
  clear hb1
  by_cases hE : E = 0
  · subst hE
    obtain ⟨hr, hd⟩ := (right_iff (vin_wf v s HV.out.1)).1 HV.out.2.2
    have hp := (both_on v).2 hr (by have := HV.out.2.1; omega) w1 w s (.slice none 0 0) [] HV.out.1 HB1.out (OwnBytes.nil _ _ _) (by have := HV.out.2.1; simp; omega)
    have HP := Lib.hid hp
    have HR := Lib.hid hr
    clear hp hr hd
    have x0 : w1.cell? ⟨x, 0, none⟩ = some (.int .i64 v.kind) := (cell_of_row _ _ 0 _ _ _ HX1.out).trans rfl
    have x1 : w1.cell? ⟨x, 1, none⟩ = some (.int .u64 v.num) := (cell_of_row _ _ 1 _ _ _ HX1.out).trans rfl
    have x2 : w1.cell? ⟨x, 2, none⟩ = some (.string v.text) := (cell_of_row _ _ 2 _ _ _ HX1.out).trans rfl
    have x3 : w1.cell? ⟨x, 3, none⟩ = some s := (cell_of_row _ _ 3 _ _ _ HX1.out).trans rfl
    have x4 : w1.cell? ⟨x, 4, none⟩ = some (.int .i64 v.elem) := (cell_of_row _ _ 4 _ _ _ HX1.out).trans rfl
    go_wp2_with fail
    refine HP.out.mono ?_
    clear x0 x1 x2 x3 x4
    rintro e w2 ⟨u, rfl, ho, hg⟩
    rw [List.nil_append] at ho
    have hb2 := HB1.out.trans (hg.below (OwnBytes.nil w1 w.heap.size _) HB1.out.size)
    obtain ⟨q, cc, hu, _⟩ := ho.bytes
    subst hu
    obtain ⟨m, hm⟩ : ∃ m, (putV v).length = m := ⟨_, rfl⟩
    rw [hm] at ho ⊢
    have HO := Lib.hid (And.intro ho (And.intro hb2 hm))
    clear ho hg hb2 hm
    by_cases hl : 1048576 < (m : Int)
    · have he : encS v = ([], 2) := by unfold encS; rw [if_neg (by rw [HV.out.2.2]; simp), if_pos (by have := HO.out.2.2; omega)]
      have HE := Lib.hid he
      clear he
      go_wp2_with fail
      go_ret2
      exact ⟨.slice none 0 0, by rw [HE.out]; rfl, by rw [HE.out]; exact OwnBytes.nil _ _ _, HO.out.2.1⟩
    · have he : encS v = (putV v, 0) := by unfold encS; rw [if_neg (by rw [HV.out.2.2]; simp), if_neg (by have := HO.out.2.2; omega)]
      have HE := Lib.hid he
      clear he
      go_wp2_with fail
      go_ret2
      exact ⟨.slice q m cc, by rw [HE.out]; rfl, by rw [HE.out]; exact HO.out.1, HO.out.2.1⟩
  · have he : encS v = ([], E) := by unfold encS; rw [HV.out.2.2, if_pos hE]
    have HE := Lib.hid he
    have hE2 : (E == 0) = false := by simp [hE]
    clear he
    go_wp2_with fail
    go_ret2
    exact ⟨.slice none 0 0, by rw [HE.out]; rfl, by rw [HE.out]; exact OwnBytes.nil _ _ _, HB1.out⟩
set_option maxRecDepth 20000 in
theorem length_any (v : V) (w : World) (s : Value) (hv : VIn w v s) (hT : Tabs w) (hwt : v.wt ≤ 2000000) :
    Calls Tryd.prog 17 #[.agg #[.int .i64 v.kind, .int .u64 v.num, .string v.text, s, .int .i64 v.elem]] w fun e w' => e = .returned (.tuple #[.int .i64 (encS v).1.length, .int .i64 (encS v).2]) ∧ Below w.heap.size w w' := by
  have hc := fun W (hW : Below w.heap.size w W) => encode_any v W s (hv.blw hW) (hT.below hW) hwt
  have HC := Lib.hid hc
  clear hc hv hT hwt
  go_enter Tryd.func17, Tryd.ntmps17
  go_upto_region 1 with fail
  have hb0 : Below w.heap.size w (w.alloc (.cells #[.int .i64 v.kind, .int .u64 v.num, .string v.text, s, .int .i64 v.elem] 25)) := ((Below.refl _ _).alloc (Nat.le_refl _) _)
  have ox := _root_.Go.heap_alloc_new w (.cells #[.int .i64 v.kind, .int .u64 v.num, .string v.text, s, .int .i64 v.elem] 25)
  generalize (w.alloc (.cells #[.int .i64 v.kind, .int .u64 v.num, .string v.text, s, .int .i64 v.elem] 25)) = w0 at *
  obtain ⟨x, hx⟩ : ∃ x, w.heap.size = x := ⟨_, rfl⟩
  rw [hx] at ox ⊢
  have HB0 := Lib.hid hb0
  have x0 : w0.cell? ⟨x, 0, none⟩ = some (.int .i64 v.kind) := (cell_of_row _ _ 0 _ _ _ ox).trans rfl
  have x1 : w0.cell? ⟨x, 1, none⟩ = some (.int .u64 v.num) := (cell_of_row _ _ 1 _ _ _ ox).trans rfl
  have x2 : w0.cell? ⟨x, 2, none⟩ = some (.string v.text) := (cell_of_row _ _ 2 _ _ _ ox).trans rfl
  have x3 : w0.cell? ⟨x, 3, none⟩ = some (s) := (cell_of_row _ _ 3 _ _ _ ox).trans rfl
  have x4 : w0.cell? ⟨x, 4, none⟩ = some (.int .i64 v.elem) := (cell_of_row _ _ 4 _ _ _ ox).trans rfl
  have HX := Lib.hid hx
  have HOX := Lib.hid ox
  clear hb0 ox hx
  go_wp2_with fail
  refine (HC.out w0 HB0.out).mono ?_
  clear x0 x1 x2 x3 x4
  rintro e w1 ⟨u, rfl, ho, hb1⟩
  have HB1 := Lib.hid (HB0.out.trans (hb1.mono HB0.out.size))
  obtain ⟨q, cc, hu, _⟩ := ho.bytes
  subst hu
  clear ho hb1
  go_wp2_with fail
  go_ret2
  exact ⟨rfl, HB1.out⟩
end Go.Proofs.YtjipennigjlklaaDoor

namespace Go.Proofs.YtjipennigjlklaaDoor
open Go.RowKit Go.ChangeShapes Go.WideShapes Go.ChangeAt Go.Deep
set_option linter.unusedVariables false

theorem wf_u64V {n : Int} (h : (Lit.int .u64 n).wf = true) : IsU64 n := by
  obtain ⟨m, rfl, hm⟩ := bd_u64 h
  exact ⟨by omega, by omega⟩
section
variable {H : Type} {enc : TypeId × Value → H} {w : World}

end

structure KeepF (F : Nat → Prop) (W W2 : World) : Prop where
  os : W2.os = W.os
  tape : W2.tape = W.tape
  output : W2.output = W.output
  size : W.heap.size ≤ W2.heap.size
  block : ∀ j, j < W.heap.size → ¬ F j → W2.heap[j]? = W.heap[j]?
theorem KeepF.refl (F : Nat → Prop) (W : World) : KeepF F W W := ⟨rfl, rfl, rfl, Nat.le_refl _, fun _ _ _ => rfl⟩
theorem KeepF.trans {F : Nat → Prop} {W W2 W3 : World} (h : KeepF F W W2) (h' : KeepF F W2 W3) : KeepF F W W3 :=
  ⟨h'.os.trans h.os, h'.tape.trans h.tape, h'.output.trans h.output, Nat.le_trans h.size h'.size, fun j hj ho => (h'.block j (Nat.lt_of_lt_of_le hj h.size) ho).trans (h.block j hj ho)⟩
theorem KeepF.wide {F G : Nat → Prop} {W W2 : World} (h : KeepF F W W2) (hg : ∀ j, F j → G j) : KeepF G W W2 := ⟨h.os, h.tape, h.output, h.size, fun j hj ho => h.block j hj (fun q => ho (hg j q))⟩
theorem KeepF.of_below {F : Nat → Prop} {W W2 : World} (h : Below W.heap.size W W2) : KeepF F W W2 := ⟨h.os, h.tape, h.output, h.size, fun j hj _ => h.block j hj⟩
theorem KeepF.below {F : Nat → Prop} {n : Nat} {w W W2 : World} (hb : Below n w W) (h : KeepF F W W2) (hF : ∀ j, F j → n ≤ j) (hn : n ≤ W.heap.size) : Below n w W2 :=
  ⟨h.os.trans hb.os, h.tape.trans hb.tape, h.output.trans hb.output, Nat.le_trans hb.size h.size, fun j hj => (h.block j (by omega) (fun q => by have := hF j q; omega)).trans (hb.block j hj)⟩
theorem KeepF.setCells {F : Nat → Prop} {w W : World} {b : Nat} (h : KeepF F w W) (hb : F b) (o : Nat) (vs : List Value) : KeepF F w (W.setCells b o vs) := by
  have g := setCells_grown W b o vs
  exact h.trans ⟨g.os, g.tape, g.output, g.size, fun j hj ho => g.block j hj (fun e => by have := Option.some.inj e; subst this; exact ho hb)⟩
theorem KeepF.grown {F : Nat → Prop} {w W W' : World} {d : Nat} (h : KeepF F w W) (hg : W.grownBy W' (some d)) (hd : w.heap.size ≤ d) : KeepF F w W' :=
  ⟨hg.os.trans h.os, hg.tape.trans h.tape, hg.output.trans h.output, Nat.le_trans h.size hg.size, fun j hj ho => (hg.block j (Nat.lt_of_lt_of_le hj h.size) (fun e => by have := Option.some.inj e; omega)).trans (h.block j hj ho)⟩
theorem KeepF.drew {F : Nat → Prop} {w W : World} (h : KeepF F w W) : KeepF F w W.drew := ⟨h.os, h.tape, h.output, h.size, h.block⟩

/-! ### rows of five cells each, by number -/
def rowsF : Nat → (Nat → List Value) → List Value
  | 0, _ => []
  | n + 1, c => rowsF n c ++ c n
def updF (c : Nat → List Value) (k : Nat) (m : List Value) : Nat → List Value := fun i => if i = k then m else c i
theorem updF_same (c : Nat → List Value) (k : Nat) (m : List Value) : updF c k m k = m := if_pos rfl
theorem updF_other {c : Nat → List Value} {k i : Nat} {m : List Value} (h : i ≠ k) : updF c k m i = c i := if_neg h
theorem updF_len {c : Nat → List Value} {k : Nat} {m : List Value} (hc : ∀ i, (c i).length = 5) (hm : m.length = 5) (i : Nat) : (updF c k m i).length = 5 := by
  unfold updF; split
  · exact hm
  · exact hc i
theorem rowsF_len {c : Nat → List Value} (hc : ∀ i, (c i).length = 5) : ∀ n, (rowsF n c).length = n * 5
  | 0 => rfl
  | n + 1 => by rw [rowsF, List.length_append, rowsF_len hc n, hc n]; omega
theorem rowsF_get {c : Nat → List Value} (hc : ∀ i, (c i).length = 5) : ∀ (n i j : Nat), i < n → j < 5 → (rowsF n c)[i * 5 + j]? = (c i)[j]?
  | 0, i, j, h, _ => by omega
  | n + 1, i, j, h, hj => by
    rw [rowsF]
    by_cases e : i < n
    · rw [List.getElem?_append_left (by rw [rowsF_len hc]; omega)]
      exact rowsF_get hc n i j e hj
    · obtain rfl : i = n := by omega
      rw [List.getElem?_append_right (by rw [rowsF_len hc]; omega), rowsF_len hc]
      congr 1
      omega
theorem rowsF_set {c : Nat → List Value} (hc : ∀ i, (c i).length = 5) {m : List Value} (hm : m.length = 5) {n k : Nat} (hk : k < n) : splice (rowsF n c) (k * 5) m = rowsF n (updF c k m) := by
  apply List.ext_getElem?
  intro q
  have hu := updF_len (k := k) hc hm
  have hl := rowsF_len hc n
  have hl2 := rowsF_len hu n
  have hs := splice_length (rowsF n c) (k * 5) m (by rw [hl, hm]; omega)
  by_cases hq : q < n * 5
  · have hq2 : q = q / 5 * 5 + q % 5 := by omega
    have h5 : q % 5 < 5 := by omega
    have hqn : q / 5 < n := by omega
    generalize q / 5 = i at *
    generalize q % 5 = j at *
    subst hq2
    rw [rowsF_get hu n i j hqn h5]
    have t1 : ((rowsF n c).take (k * 5)).length = k * 5 := by rw [List.length_take, hl]; omega
    unfold splice
    rw [List.append_assoc]
    by_cases e : i = k
    · subst e
      rw [updF_same, List.getElem?_append_right (by omega), t1, List.getElem?_append_left (by omega)]
      congr 1
      omega
    · rw [updF_other e]
      by_cases e2 : i < k
      · rw [List.getElem?_append_left (by omega), List.getElem?_take_of_lt (by omega)]
        exact rowsF_get hc n i j hqn h5
      · rw [List.getElem?_append_right (by omega), t1, List.getElem?_append_right (by omega), List.getElem?_drop, hm, ← rowsF_get hc n i j hqn h5]
        congr 1
        omega
  · rw [List.getElem?_eq_none (by omega), List.getElem?_eq_none (by omega)]

def RowF (w : World) (B b n : Nat) (c : Nat → List Value) : Prop := w.ownsRow B 25 5 (.slice (some ⟨b, 0, none⟩) n n) n (rowsF n c)
section
variable {w w' : World} {B b n : Nat} {c : Nat → List Value}
theorem RowF.lt (h : RowF w B b n c) : B ≤ b ∧ b < w.heap.size := World.ownsRow.lt h b rfl
theorem RowF.keep (h : RowF w B b n c) (e : w'.heap[b]? = w.heap[b]?) : RowF w' B b n c := ownsRow_keep h (fun j hj => by have : b = j := by simpa [Value.ownBlock] using hj
                                                                                                                          subst this; exact e)
theorem RowF.cell (h : RowF w B b n c) (hc : ∀ i, (c i).length = 5) {i j : Nat} {u : Value} (hi : i < n) (hu : (c i)[j]? = some u) : w.cell? ⟨b, i * 5 + j, none⟩ = some u := by
  have hj : j < 5 := by rw [← hc i]; exact (List.getElem?_eq_some_iff.1 hu).1
  exact ownsRow_cell h (by rw [rowsF_get hc n i j hi hj]; exact hu)
theorem RowF.there (h : RowF w B b n c) {k : Nat} (hk : k < n) : w.there b (k * 5) 5 := ownsRow_there h hk
theorem RowF.set (h : RowF w B b n c) (hc : ∀ i, (c i).length = 5) {k : Nat} (hk : k < n) {m : List Value} (hm : m.length = 5) : RowF (w.setCells b (k * 5) m) B b n (updF c k m) := by
  have := ownsRow_set h hk hm
  rwa [rowsF_set hc hm hk] at this
theorem RowF.cap (h : RowF w B b n c) : n ≤ maxLen := by
  rcases h.2 with ⟨q, _⟩ | ⟨g, cap, cur, q, _, _, h1, h2, _⟩
  · simp at q
  · simp only [Value.slice.injEq] at q
    omega
theorem RowF.base (h : RowF w B b n c) {B' : Nat} (hB : B' ≤ B) : RowF w B' b n c := ownsRow_base h (fun j hj => by have : b = j := by simpa [Value.ownBlock] using hj
                                                                                                                    subst this; exact Nat.le_trans hB h.lt.1)
end

/-! ### lent -/
def mkV (i : Nat) : V := .mk (-7) i ⟨#[]⟩ [] 0
def nilS : Value := .slice none 0 0
inductive VL (w : World) (B : Nat) : V → Value → (Nat → Prop) → Prop
  | mk (v : V) (b : Nat) (F : Nat → Prop) (c : Nat → List Value) (ss : Nat → Value) (Fs : Nat → Nat → Prop) (wf : v.Wf) (hc : ∀ i, (c i).length = 5) (hrow : RowF w B b (v.list.length + 3) c)
      (h1 : ∀ i (h : i < v.list.length), c i = vcells v.list[i] (ss i)) (h2 : ∀ i, v.list.length ≤ i → i < v.list.length + 3 → c i = vcells (mkV i) nilS) (hin : ∀ i (h : i < v.list.length), VL w B v.list[i] (ss i) (Fs i))
      (hd : ∀ i j, i < v.list.length → j < v.list.length → i ≠ j → ∀ g, Fs i g → ¬ Fs j g) (hs : ∀ i, i < v.list.length → ¬ Fs i b) (hF : ∀ g, F g ↔ (g = b ∨ ∃ i, i < v.list.length ∧ Fs i g)) : VL w B v (.slice (some ⟨b, 0, none⟩) v.list.length (v.list.length + 3)) F
section
variable {w w' : World} {v : V} {s : Value} {B B' : Nat} {F : Nat → Prop}
theorem VL.wf (h : VL w B v s F) : v.Wf := by cases h; assumption
theorem VL.lt (h : VL w B v s F) : ∀ b, F b → B ≤ b ∧ b < w.heap.size := by
  induction h with
  | mk v b F c ss Fs wf hc hrow h1 h2 hin hd hs hF ih =>
    intro g hg
    rcases (hF g).1 hg with rfl | ⟨i, hi, q⟩
    · exact hrow.lt
    · exact ih i hi g q
theorem VL.keep (h : VL w B v s F) (e : ∀ b, F b → w'.heap[b]? = w.heap[b]?) : VL w' B v s F := by
  induction h with
  | mk v b F c ss Fs wf hc hrow h1 h2 hin hd hs hF ih =>
    exact .mk v b F c ss Fs wf hc (hrow.keep (e b ((hF b).2 (.inl rfl)))) h1 h2 (fun i hi => ih i hi (fun g hg => e g ((hF g).2 (.inr ⟨i, hi, hg⟩)))) hd hs hF
theorem VL.blw (h : VL w B v s F) (hb : Below w.heap.size w w') : VL w' B v s F := h.keep (fun b q => hb.block b (h.lt b q).2)
theorem VL.keepF {G : Nat → Prop} (h : VL w B v s F) (hk : KeepF G w w') (hd : ∀ b, F b → ¬ G b) : VL w' B v s F := h.keep (fun b q => hk.block b (h.lt b q).2 (hd b q))
theorem VL.mono (h : VL w B v s F) (hB : B' ≤ B) : VL w B' v s F := by
  induction h with
  | mk v b F c ss Fs wf hc hrow h1 h2 hin hd hs hF ih =>
    exact .mk v b F c ss Fs wf hc (hrow.base hB) h1 h2 (fun i hi => ih i hi) hd hs hF
theorem VL.as {v' : V} (h : VL w B v s F) (hl : v'.list = v.list) (hw : v'.Wf) : VL w B v' s F := by
  cases h with
  | mk _ b _ c ss Fs wf hc hrow h1 h2 hin hd hs hF =>
    have key : ∀ (L : List V) (e : L = v.list), v'.list = L → VL w B v' (.slice (some ⟨b, 0, none⟩) L.length (L.length + 3)) F := by
      intro L e e2
      subst e2
      have hln : v'.list.length = v.list.length := by rw [e]
      refine .mk v' b F c ss Fs hw hc (by rw [hln]; exact hrow) (fun i hi => ?_) (fun i q1 q2 => h2 i (hln ▸ q1) (hln ▸ q2)) (fun i hi => ?_) (fun i j hi hj => hd i j (hln ▸ hi) (hln ▸ hj)) (fun i hi => hs i (hln ▸ hi)) (fun g => by rw [hF g, hln])
      · rw [h1 i (hln ▸ hi)]
        simp only [e]
      · have := hin i (hln ▸ hi)
        simpa only [e] using this
    exact key v.list rfl hl
theorem VL.slice (h : VL w B v s F) : ∃ b, s = .slice (some ⟨b, 0, none⟩) v.list.length (v.list.length + 3) ∧ F b ∧ v.list.length + 3 ≤ maxLen := by
  cases h with
  | mk _ b _ c ss Fs wf hc hrow h1 h2 hin hd hs hF => exact ⟨b, rfl, (hF b).2 (.inl rfl), hrow.cap⟩
theorem VL.vin (h : VL w B v s F) : VIn w v s := by
  induction h with
  | mk v b F c ss Fs wf hc hrow h1 h2 hin hd hs hF ih =>
    refine .mk v (some ⟨b, 0, none⟩) _ ss wf (by omega) hrow.cap (fun _ => ⟨b, 0, rfl⟩) (fun b' o e i hi j u hu => ?_) ih
    simp only [Option.some.injEq, Addr.mk.injEq] at e
    obtain ⟨rfl, rfl, _⟩ := e
    rw [Nat.zero_add]
    exact hrow.cell hc (by omega) (by rw [h1 i hi]; exact hu)
end
/-! ### turned -/
def xor1 (n : Int) : Int := bits BinOp.xor IntKind.u64 n 1
theorem xor1_u64 (n : Int) : IsU64 (xor1 n) := wf_u64V (wf_bits _ _ _ _)
mutual
def V.turned : V → V
  | .mk k n t l e => .mk k (xor1 n) t (turneds l) e
def turneds : List V → List V
  | [] => []
  | v :: r => v.turned :: turneds r
end
theorem turneds_map (l : List V) : turneds l = l.map V.turned := by
  induction l with
  | nil => rfl
  | cons a r ih => rw [turneds, ih]; rfl
theorem V.turned_eq (v : V) : v.turned = .mk v.kind (xor1 v.num) v.text (v.list.map V.turned) v.elem := by cases v; rw [V.turned, turneds_map]; rfl
theorem V.Wf.turned {v : V} (h : v.Wf) : v.turned.Wf := by
  rw [V.turned_eq]
  exact ⟨h.k, xor1_u64 _, h.t, h.e⟩
end Go.Proofs.YtjipennigjlklaaDoor
