/-
  All's iterator: a copy of each part is told. Conditions: the value is its own, no greater than a million.
  All, its iterator, and a range over it. Conditions: the value lies in memory and is no greater than a million.
-/
import Derived.Test.YtakbgekamjpibaaDoorVy
import Derived.Sort.CutIn
namespace Go.Proofs.YtakbgekamjpibaaDoor
open Go.RowKit
set_option linter.unusedVariables false

attribute [local go_sem] Oper.semAt_some

/-- a world of which some blocks alone are left -/
noncomputable def only (w : World) (F : Nat → Prop) : World := by
  classical
  exact { w with heap := w.heap.mapIdx fun i o => if F i then o else .deferred none }
theorem only_heap {w : World} {F : Nat → Prop} {b : Nat} (h : F b) : (only w F).heap[b]? = w.heap[b]? := by
  simp only [only, Array.getElem?_mapIdx]
  cases w.heap[b]? <;> simp [h]
theorem only_rd {w W : World} {F : Nat → Prop} (h : ∀ j, F j → W.heap[j]? = w.heap[j]?) : Rd (only w F) W := by
  intro b i u hc
  by_cases hb : F b
  · rw [World.cell?_of_block (only_heap hb)] at hc
    exact (World.cell?_of_block (h b hb)).trans hc
  · exfalso
    rw [World.cell?] at hc
    simp only [only, Array.getElem?_mapIdx] at hc
    cases h2 : w.heap[b]? <;> simp [h2, hb] at hc
theorem VO.only {w : World} {B : Nat} {v : V} {s : Value} {F : Nat → Prop} (h : VO w B v s F) : VIn (only w F) v s := (h.keep (w' := Proofs.YtakbgekamjpibaaDoor.only w F) (fun b hb => only_heap hb)).vin

/-- what a caller's loop over All must bear: F0: the blocks of All's own copy; O: what the caller may write -/
structure RidesA (n0 l : Nat) (wA : World) (F0 : Nat → Prop) (L : List (Int × V)) (J : Nat → (Nat → Prop) → World → Prop) (Jx : (Nat → Prop) → World → Prop) : Prop where
  reads : ∀ k O W, J k O W → ∀ j, F0 j → W.heap[j]? = wA.heap[j]?
  fresh : ∀ k O W, J k O W → ∀ j, O j → j < W.heap.size
  turn : ∀ k O W W' d, J k O W → W.grownBy W' (some d) → n0 ≤ d → ¬ O d → J k O W'
  turnX : ∀ O W W' d, Jx O W → W.grownBy W' (some d) → n0 ≤ d → ¬ O d → Jx O W'
  yields : ∀ k O W W' d x t F, J k O W → L[k]? = some (d, x) → Below W.heap.size W W' → VO W' W.heap.size x t F → YieldAt Fence.wide 3 Tryd.prog l #[.int .i64 d, .agg #[.int .i64 x.kind, .int .u64 x.num, .string x.text, t, .int .i64 x.elem]] W' fun e W2 =>
    (e = .returned (.bool true) ∧ ∃ O2, J (k + 1) O2 W2 ∧ KeepW (fun j => O j ∨ F j) W' O2 W2) ∨ (e = .returned (.bool false) ∧ ∃ O2, Jx O2 W2 ∧ KeepW (fun j => O j ∨ F j) W' O2 W2)

/-- within All's loop: J, and the yield's cell -/
def AlI (n0 l : Nat) (J : Nat → (Nat → Prop) → World → Prop) (k : Nat) (O : Nat → Prop) (W : World) : Prop := J k O W ∧ ¬ O n0 ∧ W.heap[n0]? = some (.cells #[.func (.yield l) #[] #[]] 65 (0, 0))
def AlX (n0 : Nat) (Jx : (Nat → Prop) → World → Prop) (c : Code) (O : Nat → Prop) (W : World) : Prop := c = .ret ∧ Jx O W ∧ ¬ O n0

set_option maxRecDepth 20000 in
set_option maxHeartbeats 4000000 in
theorem round_All {D lp : Nat} (K : LoopBook D lp) {n0 nA l : Nat} {wA : World} {F0 : Nat → Prop} {L : List (Int × V)} {J : Nat → (Nat → Prop) → World → Prop} {Jx : (Nat → Prop) → World → Prop} (hR : RidesA nA l wA F0 L J Jx) (W : World) (O : Nat → Prop) (k : Nat) (d : Int) (x : V) (t v1 v5 v6 : Value) (asg bdy : Code) (hrf : (Tryd.f53.body.bind rfOf) = some (asg, bdy))
    (hrd : K.rdy W) (hI : AlI n0 l J k O W) (hL : L[k]? = some (d, x)) (hx : VIn W x t) (hwt : x.wt ≤ 1000000) (hD : ¬ O D) (hl : ¬ O lp) (hDz : D + 2 ≤ W.heap.size) (hlp : lp = D + 1) (hnD : n0 < D) (hnA : nA ≤ n0) :
    RoundOf Tryd.prog K #[.func (.yield l) #[] #[], v1, .pointer (some ⟨n0, 0, none⟩), undef, undef, v5, v6, undef, undef, undef, undef, undef, undef, undef, undef] #[7, 8] asg bdy #[.int .i64 d, .agg #[.int .i64 x.kind, .int .u64 x.num, .string x.text, t, .int .i64 x.elem]] W
      (fun W3 => ∃ O2, AlI n0 l J (k + 1) O2 W3 ∧ KeepR lp O W O2 W3) (fun c W3 => ∃ O2, AlX n0 Jx c O2 W3 ∧ KeepR lp O W O2 W3) := by
  simp only [Tryd.f53, Option.bind_some, rfOf, Option.some.injEq, Prod.mk.injEq] at hrf
  obtain ⟨rfl, rfl⟩ := hrf
  unfold RoundOf
  obtain ⟨p, c, hs, _⟩ := hx.slice
  subst hs
  obtain ⟨N, hN⟩ : ∃ N, x.list.length = N := ⟨_, rfl⟩
  rw [hN] at hx ⊢
  have HI := Lib.hid hI
  have HX := Lib.hid hx
  clear hI hx hN
  refine wpIn_mono (Q := MidC #[.func (.yield l) #[] #[], v1, .pointer (some ⟨n0, 0, none⟩), .int .i64 d, .pointer (some ⟨W.heap.size, 0, none⟩), v5, v6, .int .i64 d, .agg #[.int .i64 x.kind, .int .u64 x.num, .string x.text, (.slice p N c), .int .i64 x.elem], undef, undef, undef, undef, undef, undef] W x (.slice p N c)) ?_ ?_
  · gi_wp2
    exact ⟨rfl, rfl, (Below.refl _ _).alloc (Nat.le_refl _) _, _root_.Go.heap_alloc_new _ _⟩
  · rintro e a' Wa ⟨rfl, rfl, hg, hi⟩
    obtain ⟨⟨oD, hDo, hDc⟩, ⟨ol, hlo, hlc⟩⟩ := K.rdyN W hrd
    have hDlt := (Array.getElem?_eq_some_iff.1 hDo).1
    have hllt := (Array.getElem?_eq_some_iff.1 hlo).1
    refine ⟨K.keepR W Wa hrd (hg.block D hDlt) (hg.block lp hllt), ?_⟩
    intro Wb ht hb
    have hib : Wb.heap[W.heap.size]? = some (.cells #[.int .i64 x.kind, .int .u64 x.num, .string x.text, (.slice p N c), .int .i64 x.elem] 25 (0, 0)) :=
      (ht.1.block W.heap.size (Array.getElem?_eq_some_iff.1 hi).1 (fun h => by have := Option.some.inj h; omega)).trans hi
    have hib2 := inBody_of hg ht
    have hrdW := hib2.rd ⟨ol, hlo, hlc⟩
    obtain ⟨hJ, hOn, hyc⟩ := HI.out
    have hyb := (hib2.rest n0 (Array.getElem?_eq_some_iff.1 hyc).1 (by omega)).trans hyc
    have hJa := hR.turn k O W Wa D hJ (grown_below hg D) (by omega) hD
    have hJb := hR.turn k O Wa Wb lp hJa ht.1 (by omega) hl
    have HJB := Lib.hid hJb
    have HKB := Lib.hid hb
    have HIB := Lib.hid hib2
    have HF := Lib.hid (hR.fresh k O W hJ)
    have hcop := fun W' (hB : Below Wb.heap.size Wb W') => copied_on x W' _ ((HX.out.rd hrdW).blw hB) hwt
    have HCP := Lib.hid hcop
    obtain ⟨y, hy⟩ : ∃ y, W.heap.size = y := ⟨_, rfl⟩
    have HY := Lib.hid hy
    rw [hy] at hib ⊢
    have HCELL := Lib.hid (And.intro hib hyb)
    have HR := Lib.hid hR
    have HN2 := Lib.hid (And.intro hD (And.intro hl (And.intro hDz (And.intro hlp (And.intro hnD (And.intro hnA hOn))))))
    clear hrd hJ hOn hyc hJa hJb hb hib2 hrdW hcop hi hg ht hDo hDc hDlt hlo hlc hllt hib hyb hR hDz hlp hnD hnA hD hl
    have hRR : ∀ V' u F, Below Wb.heap.size Wb V' → VO V' Wb.heap.size x u F → YR l (.int .i64 d) x u V' (fun b W2 => (b = true ∧ K.busy W2 ∧ ∃ O2, AlI n0 l J (k + 1) O2 W2 ∧ KeepR lp O W O2 W2) ∨ (b = false ∧ K.busy W2 ∧ ∃ O2, AlX n0 Jx .ret O2 W2 ∧ KeepR lp O W O2 W2)) := by
      intro V' u F hbV hvo
      obtain ⟨hD, hl, hDz, hlp, hnD, hnA, hOn⟩ := HN2.out
      obtain ⟨hib, hyb⟩ := HCELL.out
      have hzb := HIB.out.size
      have hzv := hbV.size
      have hFb : ∀ b, F b → Wb.heap.size ≤ b := fun b q => (hvo.lt b q).1
      have hFO := HF.out
      have key : ∀ O2 W2, KeepW (fun j => O j ∨ F j) V' O2 W2 → K.busy W2 ∧ ¬ O2 n0 ∧ W2.heap[n0]? = some (.cells #[.func (.yield l) #[] #[]] 65 (0, 0)) ∧ KeepR lp O W O2 W2 := by
        intro O2 W2 hk
        have hold : ∀ j, j < Wb.heap.size → ¬ O j → W2.heap[j]? = Wb.heap[j]? := fun j h1 h2 => (hk.block j (by omega) (by rintro (q | q); exact h2 q; have := hFb j q; omega)).trans (hbV.block j h1)
        refine ⟨K.keepB Wb W2 HKB.out (hold D (by omega) hD) (hold lp (by omega) hl), fun q => ?_, (hold n0 (by omega) hOn).trans hyb, hk.os.trans (hbV.os.trans HIB.out.os), hk.tape.trans (hbV.tape.trans HIB.out.tape), hk.output.trans (hbV.output.trans HIB.out.output), by have := hk.size; omega, fun j h1 h2 h3 => (hold j (by omega) h2).trans (HIB.out.rest j h1 h3), fun j hj => ?_⟩
        · rcases hk.own n0 q with (r | r) | r
          · exact hOn r
          · have := hFb n0 r; omega
          · omega
        · rcases hk.own j hj with (r | r) | r
          · exact .inl r
          · have := hFb j r; exact .inr (by omega)
          · exact .inr (by omega)
      obtain ⟨fn, tmps, as_, bd, hyy, hRd⟩ := HR.out.yields k O Wb V' d x u F HJB.out hL hbV hvo
      refine ⟨fn, tmps, as_, bd, hyy, hRd.mono ?_⟩
      rintro e W2 (⟨rfl, O2, hj2, hk2⟩ | ⟨rfl, O2, hj2, hk2⟩)
      · obtain ⟨q1, q2, q3, q4⟩ := key O2 W2 hk2
        exact ⟨true, rfl, .inl ⟨rfl, q1, O2, ⟨hj2, q2, q3⟩, q4⟩⟩
      · obtain ⟨q1, q2, q3, q4⟩ := key O2 W2 hk2
        exact ⟨false, rfl, .inr ⟨rfl, q1, O2, ⟨rfl, hj2, q2⟩, q4⟩⟩
    have HRR := Lib.hid hRR
    clear hRR
    gi_wp2
    gi_cut [14] from 9 (fun s14 wx => ∃ b, s14 = .bool (!b) ∧ ((b = true ∧ K.busy wx ∧ ∃ O2, AlI n0 l J (k + 1) O2 wx ∧ KeepR lp O W O2 wx) ∨ (b = false ∧ K.busy wx ∧ ∃ O2, AlX n0 Jx .ret O2 wx ∧ KeepR lp O W O2 wx)))
    case first =>
      rename_i JJ hJJ KK hKK
      have hdr : Below Wb.heap.size Wb Wb.drew := ⟨rfl, rfl, rfl, Nat.le_refl _, fun _ _ => rfl⟩
      obtain ⟨hib, hyb⟩ := HCELL.out
      have hyb' : Wb.drew.cell? ⟨n0, 0, none⟩ = some (.func (.yield l) #[] #[]) := (cell_of_row Wb.drew _ 0 _ _ _ hyb).trans rfl
      have hc := (HCP.out Wb.drew hdr).mono (R' := fun e V' => ∃ u, e = .returned (.agg #[.int .i64 x.kind, .int .u64 x.num, .string x.text, u, .int .i64 x.elem]) ∧ V'.cell? ⟨n0, 0, none⟩ = some (.func (.yield l) #[] #[]) ∧ YR l (.int .i64 d) x u V' (fun b W2 => (b = true ∧ K.busy W2 ∧ ∃ O2, AlI n0 l J (k + 1) O2 W2 ∧ KeepR lp O W O2 W2) ∨ (b = false ∧ K.busy W2 ∧ ∃ O2, AlX n0 Jx .ret O2 W2 ∧ KeepR lp O W O2 W2))) (by
        rintro e V' ⟨u, F, rfl, hvo, hbV⟩
        exact ⟨u, rfl, bs_cellV hbV hyb', HRR.out V' u F (hdr.trans hbV) hvo⟩)
      refine wpIn_region_f (f := 6) rfl (by kernel_rfl) ?_
      refine gAn (by kernel_rfl) Wb.drew hc hyb' ((cell_of_row Wb.drew _ 0 _ _ _ hib).trans rfl) ((cell_of_row Wb.drew _ 1 _ _ _ hib).trans rfl) ((cell_of_row Wb.drew _ 2 _ _ _ hib).trans rfl) ((cell_of_row Wb.drew _ 3 _ _ _ hib).trans rfl) ((cell_of_row Wb.drew _ 4 _ _ _ hib).trans rfl) (fun u b W2 hRb => ?_)
      refine Met.intro ?_
      refine hKK _ _ (KK _ _ ?_)
      (repeat apply Exists.intro)
      refine ⟨?_, rfl⟩
      exact ⟨b, rfl, hRb⟩
    case rest =>
      rcases hcut with ⟨b, rfl, (⟨rfl, hbz, hq⟩ | ⟨rfl, hbz, hq⟩)⟩
      · have HQ := Lib.hid (And.intro hbz hq)
        clear hbz hq
        simp only [Bool.not_true]
        go_at_K
        gi_wp2
        exact HQ.out
      · have HQ := Lib.hid (And.intro hbz hq)
        clear hbz hq
        simp only [Bool.not_false]
        go_at_K
        gi_wp2
        exact HQ.out

end Go.Proofs.YtakbgekamjpibaaDoor

namespace Go.Proofs.YtakbgekamjpibaaDoor
open Go.RowKit
set_option linter.unusedVariables false

theorem grownN {W W' : World} (h : W.grownBy W' none) (d : Nat) : W.grownBy W' (some d) := ⟨h.os, h.tape, h.output, h.size, fun k hk _ => h.block k hk (by simp)⟩

set_option maxRecDepth 20000 in
set_option maxHeartbeats 4000000 in
theorem all1_in {nA l B : Nat} {wA : World} {F0 : Nat → Prop} {v : V} {s : Value} {J : Nat → (Nat → Prop) → World → Prop} {Jx : (Nat → Prop) → World → Prop} {x : Nat} {O : Nat → Prop} {W : World} (hR : RidesA nA l wA F0 (v.pre 1) J Jx) (hJ : J 0 O W) (hvo : VO wA B v s F0) (hwt : v.wt ≤ 1000000)
    (hx : W.heap[x]? = some (.cells #[.int .i64 v.kind, .int .u64 v.num, .string v.text, s, .int .i64 v.elem] 25 (0, 0))) (hnA : nA ≤ W.heap.size) :
    Calls Tryd.prog 53 #[.func (.yield l) #[] #[], .pointer (some ⟨x, 0, none⟩)] W fun e W' => (∃ u, e = .returned u) ∧ ((∃ O2, J (v.pre 1).length O2 W') ∨ ∃ O2, Jx O2 W') := by
  obtain ⟨p, c, hs, _⟩ := hvo.slice
  obtain ⟨N, hN⟩ : ∃ N, v.list.length = N := ⟨_, rfl⟩
  rw [hN] at hs
  subst hs
  have HR := Lib.hid hR
  have HJ := Lib.hid hJ
  have HV := Lib.hid hvo
  have HW := Lib.hid hwt
  have HX := Lib.hid hx
  have HA := Lib.hid hnA
  clear hR hJ hvo hwt hnA hN
  refine calls_of_wp_marks Tryd.func53 rfl ?_
  simp only [Tryd.ntmps53, List.size_toArray, List.length_cons, List.length_nil, Nat.reduceAdd, Nat.reduceSub, Array.replicate_succ, Array.replicate_zero, List.push_toArray, List.append_toArray, List.nil_append, List.cons_append]
  go_upto_region 1 with fail
  have hb0 : Below W.heap.size W (W.alloc (.cells #[.func (.yield l) #[] #[]] 65)) := (Below.refl _ _).alloc (Nat.le_refl _) _
  have oy : (W.alloc (.cells #[.func (.yield l) #[] #[]] 65)).heap[W.heap.size]? = some (.cells #[.func (.yield l) #[] #[]] 65 (0, 0)) := _root_.Go.heap_alloc_new _ _
  have ox := (hb0.block x (Array.getElem?_eq_some_iff.1 hx).1).trans hx
  generalize (W.alloc (.cells #[.func (.yield l) #[] #[]] 65)) = w0 at *
  obtain ⟨n0, hn0⟩ : ∃ n0, W.heap.size = n0 := ⟨_, rfl⟩
  rw [hn0] at oy ⊢
  have x0 : w0.cell? ⟨x, 0, none⟩ = some (.int .i64 v.kind) := (cell_of_row _ _ 0 _ _ _ ox).trans rfl
  have x1 : w0.cell? ⟨x, 1, none⟩ = some (.int .u64 v.num) := (cell_of_row _ _ 1 _ _ _ ox).trans rfl
  have x2 : w0.cell? ⟨x, 2, none⟩ = some (.string v.text) := (cell_of_row _ _ 2 _ _ _ ox).trans rfl
  have x3 : w0.cell? ⟨x, 3, none⟩ = some (.slice p N c) := (cell_of_row _ _ 3 _ _ _ ox).trans rfl
  have x4 : w0.cell? ⟨x, 4, none⟩ = some (.int .i64 v.elem) := (cell_of_row _ _ 4 _ _ _ ox).trans rfl
  have HB0 := Lib.hid (And.intro hb0 (And.intro oy hn0))
  have hc := each_any v _ w0 p N c rfl
  clear hb0 ox oy hx hn0
  go_wp2_with fail
  refine hc.mono ?_
  clear hc x0 x1 x2 x3 x4
  rintro e w1 ⟨rfl, rfl⟩
  obtain ⟨hb0, oy, hn0⟩ := HB0.out
  have hb1 : Below W.heap.size W (w0.alloc (.cells #[.int .i64 v.kind, .int .u64 v.num, .string v.text, (.slice p N c), .int .i64 v.elem] 25)) := hb0.alloc hb0.size _
  have oy1 : (w0.alloc (.cells #[.int .i64 v.kind, .int .u64 v.num, .string v.text, (.slice p N c), .int .i64 v.elem] 25)).heap[n0]? = some (.cells #[.func (.yield l) #[] #[]] 65 (0, 0)) := (_root_.Go.heap_alloc_old w0 _ (Array.getElem?_eq_some_iff.1 oy).1).trans oy
  have oy2 : (w0.alloc (.cells #[.int .i64 v.kind, .int .u64 v.num, .string v.text, (.slice p N c), .int .i64 v.elem] 25)).heap[w0.heap.size]? = some (.cells #[.int .i64 v.kind, .int .u64 v.num, .string v.text, (.slice p N c), .int .i64 v.elem] 25 (0, 0)) := _root_.Go.heap_alloc_new _ _
  have hnl := (Array.getElem?_eq_some_iff.1 oy1).1
  generalize w0.alloc (.cells #[.int .i64 v.kind, .int .u64 v.num, .string v.text, (.slice p N c), .int .i64 v.elem] 25) = w1 at *
  obtain ⟨y, hy⟩ : ∃ y, w0.heap.size = y := ⟨_, rfl⟩
  rw [hy] at oy2 ⊢
  have HB1 := Lib.hid (And.intro hb1 (And.intro oy1 (And.intro oy2 (And.intro hnl hn0))))
  clear hb0 oy hb1 oy1 oy2 hy hnl hn0
  go_wp2_with fail
  obtain ⟨hb1, oy1, oy2, hnl, hn0⟩ := HB1.out
  have hf0 := HR.out.fresh 0 O W HJ.out
  have hOn : ¬ O n0 := fun q => by have := hf0 _ q; omega
  have hR := HR.out
  have hA := HA.out
  refine wp_range_each (wv := only wA F0) (v := v) (s := .slice p N c) (y := y) rfl rfl oy2 HV.out.only (by have := HW.out; omega) (AlI n0 l J) (AlX n0 Jx) O ?_ ?_ ?_ ?_ ?_ ?_ ?_ ?_
  · rintro k O W ⟨hj, _⟩
    exact only_rd (hR.reads k O W hj)
  · rintro k O W ⟨hj, _⟩
    exact hR.fresh k O W hj
  · rintro k O W W' d ⟨hj, h1, h2⟩ hg hd hO
    exact ⟨hR.turn k O W W' d hj hg (by omega) hO, h1, (hg.block n0 (Array.getElem?_eq_some_iff.1 h2).1 (fun e => by have := Option.some.inj e; omega)).trans h2⟩
  · rintro cc O W W' d ⟨rfl, hj, h1⟩ hg hd hO
    exact ⟨rfl, hR.turnX O W W' d hj hg (by omega) hO, h1⟩
  · exact ⟨hR.turn 0 O W w1 n0 HJ.out (grown_below hb1 n0) (by omega) hOn, hOn, oy1⟩
  · intro K k O d z t W hrd hI n1 n2 hz hL hzin
    have hzt := pre_wt v 1 (d, z) (List.mem_of_getElem? hL)
    have := HW.out
    simp only at hzt
    exact round_All K hR W O k d z t _ _ _ _ _ (by kernel_rfl) hrd hI hL hzin (by omega) n1 n2 hz rfl hnl (by omega)
  · rintro O W ⟨hj, h1, h2⟩ hD hO
    have H := Lib.hid (And.intro hj (And.intro hD hO))
    clear hj h1 h2 hD hO
    simp only [Exit.inBlock]
    try go_at_K
    try go_wp2_with fail
    obtain ⟨hj, hD, hO⟩ := H.out
    exact leaves_one (u := .tuple #[]) hD (results_none (by kernel_rfl) _ _ _) ⟨⟨_, rfl⟩, .inl ⟨O, hR.turn _ O W _ _ hj (grownBy_putObj' W w1.heap.size (.deferred none)) (by omega) hO⟩⟩
  · rintro cc O W ⟨rfl, hj, h1⟩ hD hO
    refine (wpIn_wide (n := 5)).1 (wpIn_ret ?_)
    exact leaves_one (u := .tuple #[]) hD (results_none (by kernel_rfl) _ _ _) ⟨⟨_, rfl⟩, .inr ⟨O, hR.turnX O W _ _ hj (grownBy_putObj' W w1.heap.size (.deferred none)) (by omega) hO⟩⟩

/-- what All leaves: a function over a copy of its own -/
def AllPost (w : World) (v : V) (e : Ending) (w' : World) : Prop := ∃ (x : Nat) (u : Value) (F : Nat → Prop), e = .returned (.func (.func 53) #[] #[.pointer (some ⟨x, 0, none⟩)]) ∧ w'.heap[x]? = some (.cells #[.int .i64 v.kind, .int .u64 v.num, .string v.text, u, .int .i64 v.elem] 25 (0, 0)) ∧ VO w' w.heap.size v u F ∧ ¬ F x ∧ w.heap.size ≤ x ∧ Below w.heap.size w w'

set_option maxRecDepth 20000 in
set_option maxHeartbeats 4000000 in
theorem all_any (v : V) (w : World) (s : Value) (h : VIn w v s) (hwt : v.wt ≤ 1000000) : Calls Tryd.prog 29 #[.agg #[.int .i64 v.kind, .int .u64 v.num, .string v.text, s, .int .i64 v.elem]] w (AllPost w v) := by
  have hmf : ∀ (fn : Fn) (first cap : Array Value) (w : World), (Instr.makeFunc fn first cap).run Tryd.prog w = .ok (.func fn first cap) w := fun _ _ _ _ => rfl
  obtain ⟨p, c, hs, _⟩ := h.slice
  obtain ⟨N, hN⟩ : ∃ N, v.list.length = N := ⟨_, rfl⟩
  rw [hN] at hs
  subst hs
  have HV := Lib.hid h
  have HN := Lib.hid hN
  have HW := Lib.hid hwt
  clear h hN hwt
  go_enter Tryd.func29, Tryd.ntmps29
  go_upto_region 1 with fail
  have hb0 : Below w.heap.size w (w.alloc (.cells #[.int .i64 v.kind, .int .u64 v.num, .string v.text, (.slice p N c), .int .i64 v.elem] 25)) := (Below.refl _ _).alloc (Nat.le_refl _) _
  have ox : (w.alloc (.cells #[.int .i64 v.kind, .int .u64 v.num, .string v.text, (.slice p N c), .int .i64 v.elem] 25)).heap[w.heap.size]? = some (.cells #[.int .i64 v.kind, .int .u64 v.num, .string v.text, (.slice p N c), .int .i64 v.elem] 25 (0, 0)) := _root_.Go.heap_alloc_new _ _
  generalize w.alloc (.cells #[.int .i64 v.kind, .int .u64 v.num, .string v.text, (.slice p N c), .int .i64 v.elem] 25) = w0 at *
  obtain ⟨x, hx⟩ : ∃ x, w.heap.size = x := ⟨_, rfl⟩
  rw [hx] at ox ⊢
  have x0 : w0.cell? ⟨x, 0, none⟩ = some (.int .i64 v.kind) := (cell_of_row _ _ 0 _ _ _ ox).trans rfl
  have x1 : w0.cell? ⟨x, 1, none⟩ = some (.int .u64 v.num) := (cell_of_row _ _ 1 _ _ _ ox).trans rfl
  have x2 : w0.cell? ⟨x, 2, none⟩ = some (.string v.text) := (cell_of_row _ _ 2 _ _ _ ox).trans rfl
  have x3 : w0.cell? ⟨x, 3, none⟩ = some (.slice p N c) := (cell_of_row _ _ 3 _ _ _ ox).trans rfl
  have x4 : w0.cell? ⟨x, 4, none⟩ = some (.int .i64 v.elem) := (cell_of_row _ _ 4 _ _ _ ox).trans rfl
  have hc := copied_on v w0 _ (HV.out.blw hb0) HW.out
  have HB0 := Lib.hid (And.intro hb0 (And.intro ox hx))
  have HC := Lib.hid hc
  clear hb0 ox hx hc
  go_wp2_with fail
  refine HC.out.mono ?_
  clear x0 x1 x2 x3 x4
  rintro e w1 ⟨t, F, rfl, hvo, hb1⟩
  obtain ⟨pt, ct, hst, _, _⟩ := hvo.slice
  rw [HN.out] at hst
  subst hst
  obtain ⟨hb0, ox, hx⟩ := HB0.out
  have ox1 := (hb1.block x (Array.getElem?_eq_some_iff.1 ox).1).trans ox
  have hFx : ¬ F x := fun q => by have h1 := (hvo.lt x q).1; have h2 := (Array.getElem?_eq_some_iff.1 ox).1; omega
  have HH := Lib.hid (And.intro hvo (And.intro hFx (And.intro (hb0.trans (hb1.mono hb0.size)) (And.intro hx hb0.size))))
  have HOX := Lib.hid ox1
  clear hvo hb1 hb0 ox hx hFx
  go_wp2_with (refine wpList_store_rowTo rfl 25 (.tmp 1) (.tmp 4) rfl rfl x #[.int .i64 v.kind, .int .u64 v.num, .string v.text, (.slice pt N ct), .int .i64 v.elem] rfl rfl 25 #[.int .i64 v.kind, .int .u64 v.num, .string v.text, (.slice p N c), .int .i64 v.elem] ox1 (by as_aux_lemma => kernel_rfl) (by as_aux_lemma => kernel_rfl) (by simp [Value.oneCell']) ?_)
  have hh := setRow_heap w1 x _ #[.int .i64 v.kind, .int .u64 v.num, .string v.text, (.slice pt N ct), .int .i64 v.elem] _ _ HOX.out
  obtain ⟨hvo, hFx, hB, hx, hz⟩ := HH.out
  have hB2 := below_setRow hB (show w.heap.size ≤ x by omega) #[.int .i64 v.kind, .int .u64 v.num, .string v.text, (.slice pt N ct), .int .i64 v.elem]
  have hvo2 := (hvo.mono hz).keep (w' := w1.setRow x #[.int .i64 v.kind, .int .u64 v.num, .string v.text, (.slice pt N ct), .int .i64 v.elem]) (fun b hb => setRow_other w1 x b _ (fun e => hFx (e ▸ hb)))
  have HE : Hid (AllPost w v (.returned (.func (.func 53) #[] #[.pointer (some ⟨x, 0, none⟩)])) (w1.setRow x #[.int .i64 v.kind, .int .u64 v.num, .string v.text, (.slice pt N ct), .int .i64 v.elem])) := Lib.hid ⟨x, _, F, rfl, hh, hvo2, hFx, by omega, hB2⟩
  clear hvo hFx hB hx hz hB2 hvo2 hh HOX ox1
  go_ret
  exact HE.out

/-- A RANGE OVER All(v): each comes as one's own -/
theorem wp_range_all {a : Act} {w : World} {g : Operand} {ps : Array Tmp} {assign body : Code} {Q : Exit → Act → World → Prop} {x B : Nat} {v : V} {s : Value} {F0 : Nat → Prop}
    (hg : a.eval g = .func (.func 53) #[] #[.pointer (some ⟨x, 0, none⟩)]) (hps : ps.size = 2)
    (hx : w.heap[x]? = some (.cells #[.int .i64 v.kind, .int .u64 v.num, .string v.text, s, .int .i64 v.elem] 25 (0, 0))) (hvo : VO w B v s F0) (hwt : v.wt ≤ 1000000)
    (I : Nat → (Nat → Prop) → World → Prop) (Ix : Code → (Nat → Prop) → World → Prop) (O : Nat → Prop)
    (hrd : ∀ k O W, I k O W → ∀ j, F0 j → W.heap[j]? = w.heap[j]?) (hfr : ∀ k O W, I k O W → ∀ j, O j → j < W.heap.size)
    (hturn : ∀ k O W W' d, I k O W → W.grownBy W' (some d) → w.heap.size ≤ d → ¬ O d → I k O W')
    (hturnX : ∀ c O W W' d, Ix c O W → W.grownBy W' (some d) → w.heap.size ≤ d → ¬ O d → Ix c O W')
    (hI0 : I 0 O w)
    (hround : ∀ (K : LoopBook w.heap.size (w.heap.size + 1)) k O d z t F W W', K.rdy W' → I k O W → ¬ O w.heap.size → ¬ O (w.heap.size + 1) → w.heap.size + 2 ≤ W.heap.size → (v.pre 1)[k]? = some (d, z) → Below W.heap.size W W' → VO W' W.heap.size z t F →
      RoundOf Tryd.prog K a.tmps ps assign body #[.int .i64 d, .agg #[.int .i64 z.kind, .int .u64 z.num, .string z.text, t, .int .i64 z.elem]] W' (fun W3 => ∃ O2, I (k + 1) O2 W3 ∧ KeepR (w.heap.size + 1) (fun j => O j ∨ F j) W' O2 W3) (fun c W3 => ∃ O2, Ix c O2 W3 ∧ KeepR (w.heap.size + 1) (fun j => O j ∨ F j) W' O2 W3))
    (hdone : ∀ O W, I (v.pre 1).length O W → W.heap[w.heap.size]? = some (.deferred (some [])) → ¬ O w.heap.size → Q .normal { a with defers := { target := .collected w.heap.size, args := #[] } :: a.defers } W)
    (hexit : ∀ c O W, Ix c O W → W.heap[w.heap.size]? = some (.deferred (some [])) → ¬ O w.heap.size → c.wp Tryd.prog Q { a with defers := { target := .collected w.heap.size, args := #[] } :: a.defers } W) :
    (Code.rangeFunc g ps assign body).wp Tryd.prog Q a w := by
  refine wp_rangeFunc_any (gf := 53) (lb := #[.pointer (some ⟨x, 0, none⟩)]) hg (enters_of Tryd.func53 (by kernel_rfl) rfl) ?_
  intro K W1 hg1 hz1 hrd1 hyield
  have hxlt := (Array.getElem?_eq_some_iff.1 hx).1
  have hx1 := (hg1.block x hxlt (by simp)).trans hx
  have hfr0 := hfr 0 O w hI0
  have hOD : ¬ O w.heap.size := fun q => by have := hfr0 _ q; omega
  have hOl : ¬ O (w.heap.size + 1) := fun q => by have := hfr0 _ q; omega
  let J : Nat → (Nat → Prop) → World → Prop := fun k O' W => ∃ O, (O' = fun j => O j ∨ j = w.heap.size + 1) ∧ K.rdy W ∧ I k O W ∧ ¬ O w.heap.size ∧ ¬ O (w.heap.size + 1) ∧ w.heap.size + 2 ≤ W.heap.size
  let Jx : (Nat → Prop) → World → Prop := fun O' W => ∃ O c, (O' = fun j => O j ∨ j = w.heap.size + 1) ∧ K.fin c W ∧ Ix c O W ∧ ¬ O w.heap.size ∧ ¬ O (w.heap.size + 1) ∧ w.heap.size + 2 ≤ W.heap.size
  have hswap : ∀ (O F : Nat → Prop), (fun j => (O j ∨ F j) ∨ j = w.heap.size + 1) = fun j => (O j ∨ j = w.heap.size + 1) ∨ F j := fun O F => by
    funext j
    simp only [or_assoc, or_comm, or_left_comm]
  have hR : RidesA (w.heap.size + 2) (w.heap.size + 1) w F0 (v.pre 1) J Jx := by
    refine ⟨?_, ?_, ?_, ?_, ?_⟩
    · rintro k O' W ⟨O, rfl, _, hI, _⟩
      exact hrd k O W hI
    · rintro k O' W ⟨O, rfl, _, hI, _, _, hz⟩ j (hj | hj)
      · exact hfr k O W hI j hj
      · omega
    · rintro k O' W W' d ⟨O, rfl, hr, hI, h1, h2, hz⟩ hb hd hO
      exact ⟨O, rfl, K.keepR W W' hr (hb.block _ (by omega) (fun e => by have := Option.some.inj e; omega)) (hb.block _ (by omega) (fun e => by have := Option.some.inj e; omega)), hturn k O W W' d hI hb (by omega) (fun q => hO (.inl q)), h1, h2, Nat.le_trans hz hb.size⟩
    · rintro O' W W' d ⟨O, c, rfl, hf, hI, h1, h2, hz⟩ hb hd hO
      exact ⟨O, c, rfl, K.keepF c W W' hf (hb.block _ (by omega) (fun e => by have := Option.some.inj e; omega)) (hb.block _ (by omega) (fun e => by have := Option.some.inj e; omega)), hturnX c O W W' d hI hb (by omega) (fun q => hO (.inl q)), h1, h2, Nat.le_trans hz hb.size⟩
    · rintro k O' W W0 d z t F ⟨O, rfl, hr, hI, h1, h2, hz⟩ hL hbw hz0
      have hr0 := K.keepR W W0 hr (hbw.block _ (by omega)) (hbw.block _ (by omega))
      have hFlt := fun j (q : F j) => (hz0.lt j q).1
      have hzw := hbw.size
      have hyl := hyield #[.int .i64 d, .agg #[.int .i64 z.kind, .int .u64 z.num, .string z.text, t, .int .i64 z.elem]] W0 _ _ (by rw [hps]; rfl) hr0 (hround K k O d z t F W W0 hr0 hI h1 h2 hz hL hbw hz0)
      obtain ⟨fn, tmps, asg, bd, hyy, hRd⟩ := hyl
      refine ⟨fn, tmps, asg, bd, hyy, hRd.mono ?_⟩
      rintro e W' (⟨rfl, hr', W3, ⟨O2, hI2, hk2⟩, ht⟩ | ⟨rfl, c, hf', W3, ⟨O2, hI2, hk2⟩, ht⟩)
      · have n1 : ¬ O2 w.heap.size := fun q => by rcases hk2.own _ q with (r | r) | r; exact h1 r; have := hFlt _ r; omega; omega
        have n2 : ¬ O2 (w.heap.size + 1) := fun q => by rcases hk2.own _ q with (r | r) | r; exact h2 r; have := hFlt _ r; omega; omega
        have hkt := hk2.turn ht
        rw [hswap] at hkt
        exact .inl ⟨rfl, _, ⟨O2, rfl, hr', hturn _ _ _ _ _ hI2 ht.1 (by omega) n2, n1, n2, Nat.le_trans hz (Nat.le_trans hzw (Nat.le_trans hk2.size ht.1.size))⟩, hkt⟩
      · have n1 : ¬ O2 w.heap.size := fun q => by rcases hk2.own _ q with (r | r) | r; exact h1 r; have := hFlt _ r; omega; omega
        have n2 : ¬ O2 (w.heap.size + 1) := fun q => by rcases hk2.own _ q with (r | r) | r; exact h2 r; have := hFlt _ r; omega; omega
        have hkt := hk2.turn ht
        rw [hswap] at hkt
        exact .inr ⟨rfl, _, ⟨O2, c, rfl, hf', hturnX _ _ _ _ _ hI2 ht.1 (by omega) n2, n1, n2, Nat.le_trans hz (Nat.le_trans hzw (Nat.le_trans hk2.size ht.1.size))⟩, hkt⟩
  have hJ1 : J 0 (fun j => O j ∨ j = w.heap.size + 1) W1 := ⟨O, rfl, hrd1, hturn 0 O w W1 w.heap.size hI0 (grownN hg1 _) (Nat.le_refl _) hOD, hOD, hOl, by omega⟩
  refine (all1_in hR hJ1 hvo hwt hx1 (by omega)).mono ?_
  rintro e W2 ⟨⟨u, rfl⟩, (⟨O2, O3, rfl, hr, hI, h1, h2, hz⟩ | ⟨O2, O3, c, rfl, hf, hI, h1, h2, hz⟩)⟩
  · exact ⟨⟨_, rfl⟩, .inl ⟨hr, fun W3 ht hD => hdone O3 W3 (hturn _ _ _ _ _ hI ht.1 (by omega) h2) hD h1⟩⟩
  · exact ⟨⟨_, rfl⟩, .inr ⟨c, hf, fun W3 ht hD => hexit c O3 W3 (hturnX _ _ _ _ _ hI ht.1 (by omega) h2) hD h1⟩⟩
end Go.Proofs.YtakbgekamjpibaaDoor
