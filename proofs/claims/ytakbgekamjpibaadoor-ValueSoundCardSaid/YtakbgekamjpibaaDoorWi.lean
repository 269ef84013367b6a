/-
  ValueSound's round: each part is right. Conditions: the values lie in memory; the tables stand.
-/
import Derived.Test.YtakbgekamjpibaaDoorWh
import Derived.Test.YtakbgekamjpibaaDoorNa
namespace Go.Proofs.YtakbgekamjpibaaDoor
open Go.RowKit
set_option linter.unusedVariables false

attribute [local go_sem] Oper.semAt_some

set_option maxRecDepth 20000 in
set_option maxHeartbeats 4000000 in
theorem round_sound {D lp : Nat} (K : LoopBook D lp) (wE wB W : World) (q r : Nat) (dep : Int) (L : List (Int × V)) (k : Nat) (d : Int) (x : V) (t : Value) (F : Nat → Prop) (v0 v1 v2 v3 v4 v5 v6 v7 v8 v9 v11 v13 v29 v30 v31 v32 v33 v34 v35 v36 v37 v38 v39 v40 v41 v42 v43 v44 v45 v46 v47 v48 v49 v50 v51 v52 v53 v54 v55 v56 v57 v58 v59 v60 : Value) (asg bdy : Code) (hrf : (Tryd.f11.body.bind rfOf) = some (asg, bdy))
    (hrd : K.rdy W) (hI : CellI wE r (fun m _ => m + 1) (fun m => 0 ≤ m ∧ m < 300) L k (fun j => j = r) W) (hq : W.heap[q]? = some (.cells #[.int .i64 dep] 3 (0, 0))) (hqE : q < wE.heap.size) (hL : L[k]? = some (d, x)) (hx : VIn W x t) (hT : Tabs W) (hwt : x.wt ≤ 1000000)
    (hok : firstBad (x.pre 1) = 0) (hd1 : 1 ≤ d) (hd2 : d ≤ 1000000) (hxd : foldD max 0 (x.pre 1) = x.dep) (hx0 : 1 ≤ x.dep) (hx2 : x.dep ≤ 1000000) (hdd : d - 1 + x.dep ≤ dep) (hDz : D + 2 ≤ W.heap.size) (hlp : lp = D + 1) (hrD : r < D) (hkf : KeepF (fun j => j = r) wB W) (hlB : wB.heap.size ≤ lp) :
    RoundOf Tryd.prog K #[v0, v1, v2, v3, v4, v5, v6, v7, v8, v9, .pointer (some ⟨q, 0, none⟩), v11, .pointer (some ⟨r, 0, none⟩), v13, undef, undef, undef, undef, undef, undef, undef, undef, undef, undef, undef, undef, undef, undef, undef, v29, v30, v31, v32, v33, v34, v35, v36, v37, v38, v39, v40, v41, v42, v43, v44, v45, v46, v47, v48, v49, v50, v51, v52, v53, v54, v55, v56, v57, v58, v59, v60, undef, undef, undef, undef, undef, undef, undef, undef, undef, undef, undef, undef, undef, undef, undef, undef, undef, undef, undef, undef, undef, undef, undef, undef, undef, undef, undef, undef, undef, undef, undef, undef, undef, undef, undef, undef, undef, undef, undef, undef, undef, undef, undef, undef, undef, undef, undef, undef, undef, undef, undef, undef, undef, undef, undef, undef, undef, undef, undef, undef, undef, undef, undef, undef, undef, undef, undef, undef, undef, undef, undef, undef, undef, undef, undef, undef, undef, undef, undef, undef, undef, undef, undef, undef, undef, undef, undef, undef, undef, undef, undef] #[61, 62] asg bdy #[.int .i64 d, .agg #[.int .i64 x.kind, .int .u64 x.num, .string x.text, t, .int .i64 x.elem]] W
      (fun W3 => ∃ O2, (CellI wE r (fun m _ => m + 1) (fun m => 0 ≤ m ∧ m < 300) L (k + 1) O2 W3 ∧ KeepF (fun j => j = r) wB W3) ∧ KeepR lp (fun j => j = r ∨ F j) W O2 W3) (fun c W3 => ∃ O2, (c = .exit 0 ∧ (O2 = fun j => j = r) ∧ Below wE.heap.size wE W3 ∧ KeepF (fun j => j = r) wB W3) ∧ KeepR lp (fun j => j = r ∨ F j) W O2 W3) := by
  simp only [Tryd.f11, Option.bind_some, rfOf, Option.some.injEq, Prod.mk.injEq] at hrf
  obtain ⟨rfl, rfl⟩ := hrf
  unfold RoundOf
  obtain ⟨p, c, hs, _⟩ := hx.slice
  subst hs
  obtain ⟨N, hN⟩ : ∃ N, x.list.length = N := ⟨_, rfl⟩
  rw [hN] at hx ⊢
  have HI := Lib.hid hI
  have HX := Lib.hid hx
  have HP := Lib.hid (And.intro hok hxd)
  have HKF := Lib.hid (And.intro hkf hlB)
  clear hI hx hN hok hxd hkf hlB
  refine wpIn_mono (Q := MidC #[v0, v1, v2, v3, v4, v5, v6, v7, v8, v9, .pointer (some ⟨q, 0, none⟩), v11, .pointer (some ⟨r, 0, none⟩), v13, .int .i64 d, .pointer (some ⟨W.heap.size, 0, none⟩), undef, undef, undef, undef, undef, undef, undef, undef, undef, undef, undef, undef, undef, v29, v30, v31, v32, v33, v34, v35, v36, v37, v38, v39, v40, v41, v42, v43, v44, v45, v46, v47, v48, v49, v50, v51, v52, v53, v54, v55, v56, v57, v58, v59, v60, .int .i64 d, .agg #[.int .i64 x.kind, .int .u64 x.num, .string x.text, (.slice p N c), .int .i64 x.elem], undef, undef, undef, undef, undef, undef, undef, undef, undef, undef, undef, undef, undef, undef, undef, undef, undef, undef, undef, undef, undef, undef, undef, undef, undef, undef, undef, undef, undef, undef, undef, undef, undef, undef, undef, undef, undef, undef, undef, undef, undef, undef, undef, undef, undef, undef, undef, undef, undef, undef, undef, undef, undef, undef, undef, undef, undef, undef, undef, undef, undef, undef, undef, undef, undef, undef, undef, undef, undef, undef, undef, undef, undef, undef, undef, undef, undef, undef, undef, undef, undef, undef, undef, undef, undef, undef, undef, undef, undef] W x (.slice p N c)) ?_ ?_
  · gi_wp2
    exact ⟨rfl, rfl, (Below.refl _ _).alloc (Nat.le_refl _) _, _root_.Go.heap_alloc_new _ _⟩
  · rintro e a' Wa ⟨rfl, rfl, hg, hi⟩
    obtain ⟨⟨oD, hD, hDc⟩, ⟨ol, hl, hlc⟩⟩ := K.rdyN W hrd
    have hDlt := (Array.getElem?_eq_some_iff.1 hD).1
    have hllt := (Array.getElem?_eq_some_iff.1 hl).1
    refine ⟨K.keepR W Wa hrd (hg.block D hDlt) (hg.block lp hllt), ?_⟩
    intro Wb ht hb
    have hib : Wb.heap[W.heap.size]? = some (.cells #[.int .i64 x.kind, .int .u64 x.num, .string x.text, (.slice p N c), .int .i64 x.elem] 25 (0, 0)) :=
      (ht.1.block W.heap.size (Array.getElem?_eq_some_iff.1 hi).1 (fun h => by have := Option.some.inj h; omega)).trans hi
    have hib2 := inBody_of hg ht
    have hrdW := hib2.rd ⟨ol, hl, hlc⟩
    obtain ⟨_, hB, hrE, m, ⟨hm0, hm1⟩, hr0, hf⟩ := HI.out
    have hrW := (Array.getElem?_eq_some_iff.1 hr0).1
    have hrl : r ≠ lp := by omega
    have hrb := (hib2.rest r hrW hrl).trans hr0
    have hqb := (hib2.rest q (Array.getElem?_eq_some_iff.1 hq).1 (by omega)).trans hq
    have HL := Lib.hid (And.intro hL hf)
    have HBE := Lib.hid (hib2.below hB (by omega))
    have HIB := Lib.hid hib2
    have hc := check_any x Wb _ (HX.out.rd hrdW) (hT.rd hrdW) hwt
    rw [HP.out.1] at hc
    have hdp := fun W1 (h1 : Below Wb.heap.size Wb W1) => depth_any x W1 _ ((HX.out.rd hrdW).blw h1) hwt
    rw [HP.out.2] at hdp
    obtain ⟨n, hn⟩ : ∃ n, x.dep = n := ⟨_, rfl⟩
    rw [hn] at hdp hx0 hx2 hdd
    have HDP := Lib.hid hdp
    have HKB := Lib.hid hb
    have HDL := Lib.hid (And.intro (Nat.lt_of_lt_of_le hDlt hib2.size) (Nat.lt_of_lt_of_le hllt hib2.size))
    have HRB := Lib.hid (And.intro hrb (And.intro hrE (And.intro hrD hqb)))
    have HIBX := Lib.hid hib
    have HN := Lib.hid (And.intro hlp hqE)
    have y0 : Wb.cell? ⟨W.heap.size, 0, none⟩ = some (.int .i64 x.kind) := (cell_of_row _ _ 0 _ _ _ hib).trans rfl
    have y1 : Wb.cell? ⟨W.heap.size, 1, none⟩ = some (.int .u64 x.num) := (cell_of_row _ _ 1 _ _ _ hib).trans rfl
    have y2 : Wb.cell? ⟨W.heap.size, 2, none⟩ = some (.string x.text) := (cell_of_row _ _ 2 _ _ _ hib).trans rfl
    have y3 : Wb.cell? ⟨W.heap.size, 3, none⟩ = some (.slice p N c) := (cell_of_row _ _ 3 _ _ _ hib).trans rfl
    have y4 : Wb.cell? ⟨W.heap.size, 4, none⟩ = some (.int .i64 x.elem) := (cell_of_row _ _ 4 _ _ _ hib).trans rfl
    obtain ⟨y, hy⟩ : ∃ y, W.heap.size = y := ⟨_, rfl⟩
    rw [hy] at y0 y1 y2 y3 y4 ⊢
    have HY := Lib.hid hy
    clear hdp hL hB hf hrdW hb hD hl hDc hlc hDlt hllt hrb hqb hrE hrW hrl hib hi hg ht hr0 hrd hT hwt hDz hrD hy hib2 hq hlp hqE hn
    gi_wp2
    refine ⟨trivial, (CallsIn.inRound lp (callsIn_wide.2 hc)).mono ?_⟩
    clear hc y0 y1 y2 y3 y4
    rintro e w1 ⟨rfl, hb1⟩
    have hc := HDP.out w1 hb1
    have hibx : Wb.heap[y]? = some (.cells #[.int .i64 x.kind, .int .u64 x.num, .string x.text, (.slice p N c), .int .i64 x.elem] 25 (0, 0)) := HY.out ▸ HIBX.out
    have hib1 := (hb1.block y (Array.getElem?_eq_some_iff.1 hibx).1).trans hibx
    have HB1 := Lib.hid hb1
    have y0 : w1.cell? ⟨y, 0, none⟩ = some (.int .i64 x.kind) := (cell_of_row _ _ 0 _ _ _ hib1).trans rfl
    have y1 : w1.cell? ⟨y, 1, none⟩ = some (.int .u64 x.num) := (cell_of_row _ _ 1 _ _ _ hib1).trans rfl
    have y2 : w1.cell? ⟨y, 2, none⟩ = some (.string x.text) := (cell_of_row _ _ 2 _ _ _ hib1).trans rfl
    have y3 : w1.cell? ⟨y, 3, none⟩ = some (.slice p N c) := (cell_of_row _ _ 3 _ _ _ hib1).trans rfl
    have y4 : w1.cell? ⟨y, 4, none⟩ = some (.int .i64 x.elem) := (cell_of_row _ _ 4 _ _ _ hib1).trans rfl
    clear hb1 hib1 hibx
    gi_wp2
    refine ⟨trivial, (CallsIn.inRound lp (callsIn_wide.2 hc)).mono ?_⟩
    clear hc y0 y1 y2 y3 y4
    rintro e w2 ⟨rfl, hb2⟩
    have hbb := HB1.out.trans (hb2.mono HB1.out.size)
    have hr2 := (hbb.block r (Array.getElem?_eq_some_iff.1 HRB.out.1).1).trans HRB.out.1
    have hq2 := (hbb.block q (Array.getElem?_eq_some_iff.1 HRB.out.2.2.2).1).trans HRB.out.2.2.2
    have HF := Lib.hid (And.intro (K.keepB Wb w2 HKB.out (hbb.block D HDL.out.1) (hbb.block lp HDL.out.2)) (And.intro (HIB.out.keepR hbb (fun j => j = r)) (And.intro (HBE.out.trans (hbb.mono HBE.out.size)) hr2)))
    have c1 : w2.cell? ⟨r, 0, none⟩ = some (.int .i64 m) := (cell_of_row _ _ 0 _ _ _ hr2).trans rfl
    have c2 : w2.cell? ⟨q, 0, none⟩ = some (.int .i64 dep) := (cell_of_row _ _ 0 _ _ _ hq2).trans rfl
    have f1 : w2.frozen? ⟨r, 0, none⟩ = false := by simp [World.frozen?, hr2]
    have hm2 : m ≤ 1000000 := by omega
    have hle : decide (dep < d + n - 1) = false := decide_eq_false (by omega)
    have s4 : (w2.setCell ⟨r, 0, none⟩ (.int .i64 (m + 1))).heap[r]? = some (.cells #[.int .i64 (m + 1)] 3 (0, 0)) := heap_setCell_same w2 r 0 _ _ (.int .i64 (m + 1)) hr2
    have c4 : (w2.setCell ⟨r, 0, none⟩ (.int .i64 (m + 1))).cell? ⟨r, 0, none⟩ = some (.int .i64 (m + 1)) := (cell_of_row _ _ 0 _ _ _ s4).trans rfl
    clear hb2 hbb hr2 hq2 s4
    by_cases hlast : m + 1 = 300
    · have hlb : (m + 1 == 300) = true := by simp [hlast]
      have HM := Lib.hid (And.intro hm0 hlast)
      clear hlast
      gi_wp2
      all_goals
        obtain ⟨f1, f2, f3, f4⟩ := HF.out
        obtain ⟨_, hrE, hrD, _⟩ := HRB.out
        obtain ⟨hlp, hqE⟩ := HN.out
        have hfar : ∀ j, j ≠ r → (w2.setCell ⟨r, 0, none⟩ (.int .i64 (m + 1))).heap[j]? = w2.heap[j]? := fun j hj => set_farV hj
        have hsz : (w2.setCell ⟨r, 0, none⟩ (.int .i64 (m + 1))).heap.size = w2.heap.size := by simp
        have hkF : KeepF (fun j => j = r) wB (w2.setCell ⟨r, 0, none⟩ (.int .i64 (m + 1))) := ⟨f2.os.trans HKF.out.1.os, f2.tape.trans HKF.out.1.tape, f2.output.trans HKF.out.1.output, by rw [hsz]; exact Nat.le_trans HKF.out.1.size f2.size, fun j hj ho => (hfar j ho).trans ((f2.block j (Nat.lt_of_lt_of_le hj HKF.out.1.size) ho (by have := HKF.out.2; omega)).trans (HKF.out.1.block j hj ho))⟩
        exact ⟨K.keepB _ _ f1 (hfar D (by omega)) (hfar lp (by omega)), _, ⟨rfl, rfl, f3.setCell (p := ⟨r, 0, none⟩) hrE _, hkF⟩, f2.os, f2.tape, f2.output, by rw [hsz]; exact f2.size, fun j h1 h2 h3 => (hfar j (fun e => h2 (.inl e))).trans (f2.block j h1 (fun e => h2 (.inl e)) h3), fun j hj => .inl (.inl hj)⟩
    · have hlb : (m + 1 == 300) = false := by simp [hlast]
      have HM := Lib.hid (And.intro hm0 (And.intro hm1 hlast))
      clear hlast
      gi_wp2
      all_goals
        obtain ⟨f1, f2, f3, f4⟩ := HF.out
        obtain ⟨_, hrE, hrD, _⟩ := HRB.out
        obtain ⟨hlp, hqE⟩ := HN.out
        obtain ⟨hL, hf⟩ := HL.out
        have hfar : ∀ j, j ≠ r → (w2.setCell ⟨r, 0, none⟩ (.int .i64 (m + 1))).heap[j]? = w2.heap[j]? := fun j hj => set_farV hj
        have hsz : (w2.setCell ⟨r, 0, none⟩ (.int .i64 (m + 1))).heap.size = w2.heap.size := by simp
        have hkF : KeepF (fun j => j = r) wB (w2.setCell ⟨r, 0, none⟩ (.int .i64 (m + 1))) := ⟨f2.os.trans HKF.out.1.os, f2.tape.trans HKF.out.1.tape, f2.output.trans HKF.out.1.output, by rw [hsz]; exact Nat.le_trans HKF.out.1.size f2.size, fun j hj ho => (hfar j ho).trans ((f2.block j (Nat.lt_of_lt_of_le hj HKF.out.1.size) ho (by have := HKF.out.2; omega)).trans (HKF.out.1.block j hj ho))⟩
        exact ⟨K.keepB _ _ f1 (hfar D (by omega)) (hfar lp (by omega)), _, ⟨CellI.next (P := fun m => 0 ≤ m ∧ m < 300) f3 hrE f4 hf hL (show 0 ≤ m + 1 ∧ m + 1 < 300 by have := HM.out; omega), hkF⟩, f2.os, f2.tape, f2.output, by rw [hsz]; exact f2.size, fun j h1 h2 h3 => (hfar j (fun e => h2 (.inl e))).trans (f2.block j h1 (fun e => h2 (.inl e)) h3), fun j hj => .inl (.inl hj)⟩


end Go.Proofs.YtakbgekamjpibaaDoor
