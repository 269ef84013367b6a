/-
  All's iterator: a copy of each part is told. Conditions: the value is its own, no greater than a million.
-/
import Derived.Test.YtakbgekamjpibaaDoorVy
import Derived.Sort.CutIn
namespace Go.Proofs.YtakbgekamjpibaaDoor
open Go.RowKit
set_option linter.unusedVariables false

attribute [local go_sem] Oper.semAt_some

/-- a world of which some blocks alone are left -/
noncomputable def only (w : World) (F : Nat → Prop) : World := by
  classical
  exact { w with heap := w.heap.mapIdx fun i o => if F i then o else .deferred none }
theorem only_heap {w : World} {F : Nat → Prop} {b : Nat} (h : F b) : (only w F).heap[b]? = w.heap[b]? := by
  simp only [only, Array.getElem?_mapIdx]
  cases w.heap[b]? <;> simp [h]
theorem only_rd {w W : World} {F : Nat → Prop} (h : ∀ j, F j → W.heap[j]? = w.heap[j]?) : Rd (only w F) W := by
  intro b i u hc
  by_cases hb : F b
  · rw [World.cell?_of_block (only_heap hb)] at hc
    exact (World.cell?_of_block (h b hb)).trans hc
  · exfalso
    rw [World.cell?] at hc
    simp only [only, Array.getElem?_mapIdx] at hc
    cases h2 : w.heap[b]? <;> simp [h2, hb] at hc
theorem VO.only {w : World} {B : Nat} {v : V} {s : Value} {F : Nat → Prop} (h : VO w B v s F) : VIn (only w F) v s := (h.keep (w' := Proofs.YtakbgekamjpibaaDoor.only w F) (fun b hb => only_heap hb)).vin

/-- what a caller's loop over All must bear: F0: the blocks of All's own copy; O: what the caller may write -/
structure RidesA (n0 l : Nat) (wA : World) (F0 : Nat → Prop) (L : List (Int × V)) (J : Nat → (Nat → Prop) → World → Prop) (Jx : (Nat → Prop) → World → Prop) : Prop where
  reads : ∀ k O W, J k O W → ∀ j, F0 j → W.heap[j]? = wA.heap[j]?
  fresh : ∀ k O W, J k O W → ∀ j, O j → j < W.heap.size
  turn : ∀ k O W W' d, J k O W → W.grownBy W' (some d) → n0 ≤ d → ¬ O d → J k O W'
  turnX : ∀ O W W' d, Jx O W → W.grownBy W' (some d) → n0 ≤ d → ¬ O d → Jx O W'
  yields : ∀ k O W W' d x t F, J k O W → L[k]? = some (d, x) → Below W.heap.size W W' → VO W' W.heap.size x t F → YieldAt Fence.wide 3 Tryd.prog l #[.int .i64 d, .agg #[.int .i64 x.kind, .int .u64 x.num, .string x.text, t, .int .i64 x.elem]] W' fun e W2 =>
    (e = .returned (.bool true) ∧ ∃ O2, J (k + 1) O2 W2 ∧ KeepW (fun j => O j ∨ F j) W' O2 W2) ∨ (e = .returned (.bool false) ∧ ∃ O2, Jx O2 W2 ∧ KeepW (fun j => O j ∨ F j) W' O2 W2)

/-- within All's loop: J, and the yield's cell -/
def AlI (n0 l : Nat) (J : Nat → (Nat → Prop) → World → Prop) (k : Nat) (O : Nat → Prop) (W : World) : Prop := J k O W ∧ ¬ O n0 ∧ W.heap[n0]? = some (.cells #[.func (.yield l) #[] #[]] 65 (0, 0))
def AlX (n0 : Nat) (Jx : (Nat → Prop) → World → Prop) (c : Code) (O : Nat → Prop) (W : World) : Prop := c = .ret ∧ Jx O W ∧ ¬ O n0

set_option maxRecDepth 20000 in
set_option maxHeartbeats 4000000 in
theorem round_All {D lp : Nat} (K : LoopBook D lp) {n0 nA l : Nat} {wA : World} {F0 : Nat → Prop} {L : List (Int × V)} {J : Nat → (Nat → Prop) → World → Prop} {Jx : (Nat → Prop) → World → Prop} (hR : RidesA nA l wA F0 L J Jx) (W : World) (O : Nat → Prop) (k : Nat) (d : Int) (x : V) (t v1 v5 v6 : Value) (asg bdy : Code) (hrf : (Tryd.f53.body.bind rfOf) = some (asg, bdy))
    (hrd : K.rdy W) (hI : AlI n0 l J k O W) (hL : L[k]? = some (d, x)) (hx : VIn W x t) (hwt : x.wt ≤ 1000000) (hD : ¬ O D) (hl : ¬ O lp) (hDz : D + 2 ≤ W.heap.size) (hlp : lp = D + 1) (hnD : n0 < D) (hnA : nA ≤ n0) :
    RoundOf Tryd.prog K #[.func (.yield l) #[] #[], v1, .pointer (some ⟨n0, 0, none⟩), undef, undef, v5, v6, undef, undef, undef, undef, undef, undef, undef, undef] #[7, 8] asg bdy #[.int .i64 d, .agg #[.int .i64 x.kind, .int .u64 x.num, .string x.text, t, .int .i64 x.elem]] W
      (fun W3 => ∃ O2, AlI n0 l J (k + 1) O2 W3 ∧ KeepR lp O W O2 W3) (fun c W3 => ∃ O2, AlX n0 Jx c O2 W3 ∧ KeepR lp O W O2 W3) := by
  simp only [Tryd.f53, Option.bind_some, rfOf, Option.some.injEq, Prod.mk.injEq] at hrf
  obtain ⟨rfl, rfl⟩ := hrf
  unfold RoundOf
  obtain ⟨p, c, hs, _⟩ := hx.slice
  subst hs
  obtain ⟨N, hN⟩ : ∃ N, x.list.length = N := ⟨_, rfl⟩
  rw [hN] at hx ⊢
  have HI := Lib.hid hI
  have HX := Lib.hid hx
  clear hI hx hN
  refine wpIn_mono (Q := MidC #[.func (.yield l) #[] #[], v1, .pointer (some ⟨n0, 0, none⟩), .int .i64 d, .pointer (some ⟨W.heap.size, 0, none⟩), v5, v6, .int .i64 d, .agg #[.int .i64 x.kind, .int .u64 x.num, .string x.text, (.slice p N c), .int .i64 x.elem], undef, undef, undef, undef, undef, undef] W x (.slice p N c)) ?_ ?_
  · gi_wp2
    exact ⟨rfl, rfl, (Below.refl _ _).alloc (Nat.le_refl _) _, _root_.Go.heap_alloc_new _ _⟩
  · rintro e a' Wa ⟨rfl, rfl, hg, hi⟩
    obtain ⟨⟨oD, hDo, hDc⟩, ⟨ol, hlo, hlc⟩⟩ := K.rdyN W hrd
    have hDlt := (Array.getElem?_eq_some_iff.1 hDo).1
    have hllt := (Array.getElem?_eq_some_iff.1 hlo).1
    refine ⟨K.keepR W Wa hrd (hg.block D hDlt) (hg.block lp hllt), ?_⟩
    intro Wb ht hb
    have hib : Wb.heap[W.heap.size]? = some (.cells #[.int .i64 x.kind, .int .u64 x.num, .string x.text, (.slice p N c), .int .i64 x.elem] 25 (0, 0)) :=
      (ht.1.block W.heap.size (Array.getElem?_eq_some_iff.1 hi).1 (fun h => by have := Option.some.inj h; omega)).trans hi
    have hib2 := inBody_of hg ht
    have hrdW := hib2.rd ⟨ol, hlo, hlc⟩
    obtain ⟨hJ, hOn, hyc⟩ := HI.out
    have hyb := (hib2.rest n0 (Array.getElem?_eq_some_iff.1 hyc).1 (by omega)).trans hyc
    have hJa := hR.turn k O W Wa D hJ (grown_below hg D) (by omega) hD
    have hJb := hR.turn k O Wa Wb lp hJa ht.1 (by omega) hl
    have HJB := Lib.hid hJb
    have HKB := Lib.hid hb
    have HIB := Lib.hid hib2
    have HF := Lib.hid (hR.fresh k O W hJ)
    have hcop := fun W' (hB : Below Wb.heap.size Wb W') => copied_on x W' _ ((HX.out.rd hrdW).blw hB) hwt
    have HCP := Lib.hid hcop
    obtain ⟨y, hy⟩ : ∃ y, W.heap.size = y := ⟨_, rfl⟩
    have HY := Lib.hid hy
    rw [hy] at hib ⊢
    have HCELL := Lib.hid (And.intro hib hyb)
    have HR := Lib.hid hR
    have HN2 := Lib.hid (And.intro hD (And.intro hl (And.intro hDz (And.intro hlp (And.intro hnD (And.intro hnA hOn))))))
    clear hrd hJ hOn hyc hJa hJb hb hib2 hrdW hcop hi hg ht hDo hDc hDlt hlo hlc hllt hib hyb hR hDz hlp hnD hnA hD hl
    have hRR : ∀ V' u F, Below Wb.heap.size Wb V' → VO V' Wb.heap.size x u F → YR l (.int .i64 d) x u V' (fun b W2 => (b = true ∧ K.busy W2 ∧ ∃ O2, AlI n0 l J (k + 1) O2 W2 ∧ KeepR lp O W O2 W2) ∨ (b = false ∧ K.busy W2 ∧ ∃ O2, AlX n0 Jx .ret O2 W2 ∧ KeepR lp O W O2 W2)) := by
      intro V' u F hbV hvo
      obtain ⟨hD, hl, hDz, hlp, hnD, hnA, hOn⟩ := HN2.out
      obtain ⟨hib, hyb⟩ := HCELL.out
      have hzb := HIB.out.size
      have hzv := hbV.size
      have hFb : ∀ b, F b → Wb.heap.size ≤ b := fun b q => (hvo.lt b q).1
      have hFO := HF.out
      have key : ∀ O2 W2, KeepW (fun j => O j ∨ F j) V' O2 W2 → K.busy W2 ∧ ¬ O2 n0 ∧ W2.heap[n0]? = some (.cells #[.func (.yield l) #[] #[]] 65 (0, 0)) ∧ KeepR lp O W O2 W2 := by
        intro O2 W2 hk
        have hold : ∀ j, j < Wb.heap.size → ¬ O j → W2.heap[j]? = Wb.heap[j]? := fun j h1 h2 => (hk.block j (by omega) (by rintro (q | q); exact h2 q; have := hFb j q; omega)).trans (hbV.block j h1)
        refine ⟨K.keepB Wb W2 HKB.out (hold D (by omega) hD) (hold lp (by omega) hl), fun q => ?_, (hold n0 (by omega) hOn).trans hyb, hk.os.trans (hbV.os.trans HIB.out.os), hk.tape.trans (hbV.tape.trans HIB.out.tape), hk.output.trans (hbV.output.trans HIB.out.output), by have := hk.size; omega, fun j h1 h2 h3 => (hold j (by omega) h2).trans (HIB.out.rest j h1 h3), fun j hj => ?_⟩
        · rcases hk.own n0 q with (r | r) | r
          · exact hOn r
          · have := hFb n0 r; omega
          · omega
        · rcases hk.own j hj with (r | r) | r
          · exact .inl r
          · have := hFb j r; exact .inr (by omega)
          · exact .inr (by omega)
      obtain ⟨fn, tmps, as_, bd, hyy, hRd⟩ := HR.out.yields k O Wb V' d x u F HJB.out hL hbV hvo
      refine ⟨fn, tmps, as_, bd, hyy, hRd.mono ?_⟩
      rintro e W2 (⟨rfl, O2, hj2, hk2⟩ | ⟨rfl, O2, hj2, hk2⟩)
      · obtain ⟨q1, q2, q3, q4⟩ := key O2 W2 hk2
        exact ⟨true, rfl, .inl ⟨rfl, q1, O2, ⟨hj2, q2, q3⟩, q4⟩⟩
      · obtain ⟨q1, q2, q3, q4⟩ := key O2 W2 hk2
        exact ⟨false, rfl, .inr ⟨rfl, q1, O2, ⟨rfl, hj2, q2⟩, q4⟩⟩
    have HRR := Lib.hid hRR
    clear hRR
    gi_wp2
    gi_cut [14] from 9 (fun s14 wx => ∃ b, s14 = .bool (!b) ∧ ((b = true ∧ K.busy wx ∧ ∃ O2, AlI n0 l J (k + 1) O2 wx ∧ KeepR lp O W O2 wx) ∨ (b = false ∧ K.busy wx ∧ ∃ O2, AlX n0 Jx .ret O2 wx ∧ KeepR lp O W O2 wx)))
    case first =>
      rename_i JJ hJJ KK hKK
      have hdr : Below Wb.heap.size Wb Wb.drew := ⟨rfl, rfl, rfl, Nat.le_refl _, fun _ _ => rfl⟩
      obtain ⟨hib, hyb⟩ := HCELL.out
      have hyb' : Wb.drew.cell? ⟨n0, 0, none⟩ = some (.func (.yield l) #[] #[]) := (cell_of_row Wb.drew _ 0 _ _ _ hyb).trans rfl
      have hc := (HCP.out Wb.drew hdr).mono (R' := fun e V' => ∃ u, e = .returned (.agg #[.int .i64 x.kind, .int .u64 x.num, .string x.text, u, .int .i64 x.elem]) ∧ V'.cell? ⟨n0, 0, none⟩ = some (.func (.yield l) #[] #[]) ∧ YR l (.int .i64 d) x u V' (fun b W2 => (b = true ∧ K.busy W2 ∧ ∃ O2, AlI n0 l J (k + 1) O2 W2 ∧ KeepR lp O W O2 W2) ∨ (b = false ∧ K.busy W2 ∧ ∃ O2, AlX n0 Jx .ret O2 W2 ∧ KeepR lp O W O2 W2))) (by
        rintro e V' ⟨u, F, rfl, hvo, hbV⟩
        exact ⟨u, rfl, bs_cellV hbV hyb', HRR.out V' u F (hdr.trans hbV) hvo⟩)
      refine wpIn_region_f (f := 6) rfl (by kernel_rfl) ?_
      refine gAn (by kernel_rfl) Wb.drew hc hyb' ((cell_of_row Wb.drew _ 0 _ _ _ hib).trans rfl) ((cell_of_row Wb.drew _ 1 _ _ _ hib).trans rfl) ((cell_of_row Wb.drew _ 2 _ _ _ hib).trans rfl) ((cell_of_row Wb.drew _ 3 _ _ _ hib).trans rfl) ((cell_of_row Wb.drew _ 4 _ _ _ hib).trans rfl) (fun u b W2 hRb => ?_)
      refine Met.intro ?_
      refine hKK _ _ (KK _ _ ?_)
      (repeat apply Exists.intro)
      refine ⟨?_, rfl⟩
      exact ⟨b, rfl, hRb⟩
    case rest =>
      rcases hcut with ⟨b, rfl, (⟨rfl, hbz, hq⟩ | ⟨rfl, hbz, hq⟩)⟩
      · have HQ := Lib.hid (And.intro hbz hq)
        clear hbz hq
        simp only [Bool.not_true]
        go_at_K
        gi_wp2
        exact HQ.out
      · have HQ := Lib.hid (And.intro hbz hq)
        clear hbz hq
        simp only [Bool.not_false]
        go_at_K
        gi_wp2
        exact HQ.out

end Go.Proofs.YtakbgekamjpibaaDoor
