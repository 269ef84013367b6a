/-
  The stream's All once more: what its iterator asks of a caller whose body may write any block that was made since the yield began. Conditions: the stream lies in a block of its own; the chunk lies elsewhere.
-/
import Derived.Test.YtofdpccjpodbhaaPrJ
namespace Go.Proofs.Ytofdpccjpodbhaa
open Go.RowKit
set_option linter.unusedVariables false

attribute [local go_sem] Oper.semAt_some

/-- KeepO for the blocks below N alone -/
structure KeepL (N : Nat) (O : Nat → Prop) (b : Nat) (hv : Value) (W : World) (O2 : Nat → Prop) (hv2 : Value) (W2 : World) : Prop where
  os : W2.os = W.os
  tape : W2.tape = W.tape
  output : W2.output = W.output
  size : W.heap.size ≤ W2.heap.size
  block : ∀ j, j < N → ¬ O j → j ≠ b → hv.ownBlock ≠ some j → W2.heap[j]? = W.heap[j]?
  own : ∀ j, O2 j → O j ∨ N ≤ j
  held : ∀ j, hv2.ownBlock = some j → hv.ownBlock = some j ∨ N ≤ j

theorem KeepO.transL {N N2 : Nat} {O O2 O3 : Nat → Prop} {b : Nat} {hv hv2 hv3 : Value} {W W2 W3 : World} (h : KeepO N O b hv W O2 hv2 W2) (k : KeepL N2 O2 b hv2 W2 O3 hv3 W3) (hN : W.heap.size ≤ N) (hN2 : N ≤ N2) : KeepO N O b hv W O3 hv3 W3 := by
  refine ⟨k.os.trans h.os, k.tape.trans h.tape, k.output.trans h.output, Nat.le_trans h.size k.size, fun j hj hO hb hh => ?_, fun j hj => ?_, fun j hj => ?_⟩
  · rw [k.block j (by omega) (fun ho => ?_) hb (fun hq => ?_), h.block j hj hO hb hh]
    · rcases h.own j ho with h1 | h1
      · exact hO h1
      · omega
    · rcases h.held j hq with h1 | h1
      · exact hh h1
      · omega
  · rcases k.own j hj with h1 | h1
    · exact h.own j h1
    · exact .inr (Nat.le_trans hN2 h1)
  · rcases k.held j hj with h1 | h1
    · exact h.held j h1
    · exact .inr (Nat.le_trans hN2 h1)

theorem InA.keepL {N n0 l b n c : Nat} {pa : Option Addr} {O O2 : Nat → Prop} {hv hv2 : Value} {W W2 : World} (h : InA n0 l b n c pa O hv W) (hk : KeepL N O b hv W O2 hv2 W2) (hN : n0 + 5 ≤ N) : InA n0 l b n c pa O2 hv2 W2 := by
  have hz := h.size
  have hb : ∀ j, n0 ≤ j → j < n0 + 5 → W2.heap[j]? = W.heap[j]? := fun j h1 h2 => hk.block j (by omega) (h.fr j h1 h2).1 (h.fr j h1 h2).2.1 (h.fr j h1 h2).2.2
  refine ⟨fun j h1 h2 => ⟨fun ho => ?_, (h.fr j h1 h2).2.1, fun hq => ?_⟩, Nat.le_trans hz hk.size, (hb n0 (by omega) (by omega)).trans h.cy, (hb (n0 + 1) (by omega) (by omega)).trans h.cS, (hb (n0 + 2) (by omega) (by omega)).trans h.cC⟩
  · rcases hk.own j ho with h3 | h3
    · exact (h.fr j h1 h2).1 h3
    · omega
  · rcases hk.held j hq with h3 | h3
    · exact (h.fr j h1 h2).2.2 h3
    · omega

/-- what All's iterator asks of a caller's invariant J, KeepL for its body -/
structure RidesB (n0 l b B : Nat) (pa : Option Addr) (n c : Nat) (ch : List UInt8) (J : Nat → SM → Value → (Nat → Prop) → World → Prop) (Jx : SM → Value → (Nat → Prop) → World → Prop) : Prop where
  fresh : ∀ k s hv O W, J k s hv O W → ∀ j, O j → j < W.heap.size
  reads : ∀ k s hv O W, J k s hv O W → BytesIn W pa n c ch
  turn : ∀ k s hv O W W' d, J k s hv O W → n0 ≤ d → ¬ O d → d ≠ b → hv.ownBlock ≠ some d → W.grownBy W' (some d) → J k s hv O W'
  turnX : ∀ s hv O W W' d, Jx s hv O W → n0 ≤ d → ¬ O d → d ≠ b → hv.ownBlock ≠ some d → W.grownBy W' (some d) → Jx s hv O W'
  quiet : ∀ k s hv O W hv' W', k < n → J k s hv O W → StS W b B s hv → s.err = 0 → (step s (ch.getD k 0)).2 = .no → Mv b hv W hv' W' → StS W' b B (step s (ch.getD k 0)).1 hv' → J (k + 1) (step s (ch.getD k 0)).1 hv' O W'
  yields : ∀ k s hv O W hv' W' ve vb, k < n → J k s hv O W → StS W b B s hv → s.err = 0 → (step s (ch.getD k 0)).2.kind ≠ 0 → Mv b hv W hv' W' → StS W' b B (step s (ch.getD k 0)).1 hv' →
    ItO W.heap.size W' (step s (ch.getD k 0)).2 ve vb → Apart ve hv' → Apart vb hv' →
    YieldAt Fence.wide 3 Try.prog l #[(step s (ch.getD k 0)).2.val ve vb] W' fun e W2 =>
      (e = .returned (.bool true) ∧ ∃ s2 hv2 O2, StS W2 b B s2 hv2 ∧ J (k + 1) s2 hv2 O2 W2 ∧ KeepL W.heap.size O b hv' W' O2 hv2 W2) ∨
      (e = .returned (.bool false) ∧ ∃ s2 hv2 O2, StS W2 b B s2 hv2 ∧ Jx s2 hv2 O2 W2 ∧ KeepL W.heap.size O b hv' W' O2 hv2 W2)

set_option maxHeartbeats 1000000 in
theorem rides_B {n0 l b B n c gS gC : Nat} {pa : Option Addr} {ch : List UInt8} {J : Nat → SM → Value → (Nat → Prop) → World → Prop} {Jx : SM → Value → (Nat → Prop) → World → Prop} (hR : RidesB n0 l b B pa n c ch J Jx) (K : LoopBook (n0 + 3) (n0 + 3 + 1)) (asg bdy : Code) (hrf : (Try.f60.body.bind rfOf) = some (asg, bdy))
    (hyield : ∀ (xs : Array Value) (W : World) (I : World → Prop) (Ix : Code → World → Prop), xs.size = 2 → K.rdy W →
      RoundOf Try.prog K #[.func (.yield l) #[] #[], .pointer (some ⟨gS, 0, none⟩), .pointer (some ⟨gC, 0, none⟩), .pointer (some ⟨n0, 0, none⟩), undef, undef, .pointer (some ⟨b, 0, none⟩), .slice pa n c,
        .func (.func 70) #[] #[.pointer (some ⟨n0 + 2, 0, none⟩), .pointer (some ⟨n0 + 1, 0, none⟩)], undef, undef, undef, undef, undef, undef] #[9, 10] asg bdy xs W I Ix →
      YieldAt Fence.wide 3 Try.prog (n0 + 3 + 1) xs W (YieldOf K I Ix)) :
    Rides (n0 + 3 + 1) b B (n0 + 1) pa n c ch (JA K n0 l b n c pa J) (JXA K n0 l b B n c pa Jx) := by
  refine ⟨?_, ?_, ?_⟩
  · rintro k s hv W ⟨O, hrd, hJ, hI⟩
    have hf := hI.fr (n0 + 1) (by omega) (by omega)
    exact ⟨(cell_of_row _ _ 0 _ _ _ hI.cS).trans rfl, hR.reads k s hv O W hJ, hf.2.1, hf.2.2⟩
  · rintro k s hv W hv' W' hk ⟨O, hrd, hJ, hI⟩ hS he hno hm hS'
    have hI' := hI.keep (hm.keepO O (Nat.le_refl _)) hI.size
    have h3 := hI.fr (n0 + 3) (by omega) (by omega)
    have h4 := hI.fr (n0 + 4) (by omega) (by omega)
    have hz := hI.size
    exact ⟨O, K.keepR W W' hrd (hm.block _ (by omega) h3.2.1 h3.2.2) (hm.block _ (by omega) h4.2.1 h4.2.2), hR.quiet k s hv O W hv' W' hk hJ hS he hno hm hS', hI'⟩
  · rintro k s hv W hv' W' ve vb hk ⟨O, hrd, hJ, hI⟩ hS he hne hm hS' hit ha1 ha2
    have hI' := hI.keep (hm.keepO O (Nat.le_refl _)) hI.size
    have h3 := hI.fr (n0 + 3) (by omega) (by omega)
    have h4 := hI.fr (n0 + 4) (by omega) (by omega)
    have hz := hI.size
    have hrd' := K.keepR W W' hrd (hm.block _ (by omega) h3.2.1 h3.2.2) (hm.block _ (by omega) h4.2.1 h4.2.2)
    have hln : n0 ≠ n0 + 3 + 1 := by omega
    have hcy : W'.cell? ⟨n0, 0, none⟩ = some (.func (.yield l) #[] #[]) := (cell_of_row _ _ 0 _ _ _ hI'.cy).trans rfl
    have hyl := hR.yields k s hv O
    obtain ⟨st, hst⟩ : ∃ st, step s (ch.getD k 0) = st := ⟨_, rfl⟩
    rw [hst] at hyl hne hS' hit ⊢
    obtain ⟨s', it⟩ := st
    simp only at hyl hne hS' hit ⊢
    obtain ⟨pe, ce, rfl, _⟩ := hit.ext.bytes
    obtain ⟨pb, cb, rfl, _⟩ := hit.body.bytes
    have hro := round_A (gS := gS) (gC := gC) (b := b) (pa := pa) (n := n) (c := c) K W' l n0 ((k : Int) + 1) it.kind it.proto it.T it.ch pe it.ext.length ce pb it.body.length cb
      (fun W3 => ∃ s2 hv2 O2, StS W3 b B s2 hv2 ∧ J (k + 1) s2 hv2 O2 W3 ∧ InA n0 l b n c pa O2 hv2 W3) (fun c' W3 => c' = .ret ∧ ∃ s2 hv2 O2, StS W3 b B s2 hv2 ∧ Jx s2 hv2 O2 W3 ∧ InA n0 l b n c pa O2 hv2 W3) asg bdy hrf hcy hrd' hln (by
        intro Wa Wb hga htu hbu
        obtain ⟨_, ⟨o, ho, _⟩⟩ := K.busyN Wb hbu
        have hz' := hI'.size
        have hlpW : n0 + 3 + 1 < W.heap.size := by omega
        have ht0 := turn_putObj W (n0 + 3 + 1) o
        have hSt := hS.grown ht0.1 h4.2.1 h4.2.2
        have hJt := hR.turn k s hv O W _ (n0 + 3 + 1) hJ (by omega) h4.1 h4.2.1 h4.2.2 ht0.1
        have f4 := hI'.fr (n0 + 4) (by omega) (by omega)
        have f3 := hI'.fr (n0 + 3) (by omega) (by omega)
        have hSb := (hS'.grown (grownBy_none hga (n0 + 3 + 1)) f4.2.1 f4.2.2).grown htu.1 f4.2.1 f4.2.2
        have hMv : Mv b hv (W.putObj (n0 + 3 + 1) o) hv' Wb := by
          refine ⟨htu.1.os.trans (hga.os.trans (hm.os.trans ht0.1.os.symm)), htu.1.tape.trans (hga.tape.trans (hm.tape.trans ht0.1.tape.symm)), htu.1.output.trans (hga.output.trans (hm.output.trans ht0.1.output.symm)),
            by rw [ht0.2, htu.2]; exact Nat.le_trans hm.size hga.size, fun j hj hjb hjh => ?_, by rw [ht0.2]; exact hm.hv⟩
          rw [ht0.2] at hj
          by_cases hjl : j = n0 + 3 + 1
          · subst hjl
            rw [ho, World.putObj_heap_same hlpW]
          · have e1 : (n0 + 3 + 1) ≠ j := fun e => hjl e.symm
            rw [World.putObj_heap_other hjl, ← hm.block j hj hjb hjh, ← hga.block j (Nat.lt_of_lt_of_le hj hm.size) (by simp)]
            exact htu.1.block j (Nat.lt_of_lt_of_le hj (Nat.le_trans hm.size hga.size)) (fun e => hjl (Option.some.inj e))
        have hIt : ItO (W.putObj (n0 + 3 + 1) o).heap.size Wb it (.slice pe it.ext.length ce) (.slice pb it.body.length cb) := by
          rw [ht0.2]
          exact (hit.move (Nat.le_refl _) hga (by simp)).move (Nat.le_refl _) htu.1 (fun k hk => by cases hk; exact hlpW)
        have hIb : InA n0 l b n c pa O hv' Wb := (hI'.grown (grownBy_none hga (n0 + 4)) (.inr (.inl rfl))).grown htu.1 (.inr (.inl rfl))
        refine (hyl _ hv' Wb _ _ hk hJt hSt he hne hMv hSb hIt ha1 ha2).mono ?_
        have hbz : Wb.heap.size = Wa.heap.size := htu.2
        have hzb := hIb.size
        rintro e W2 (⟨rfl, s2, hv2, O2, hs2, hj2, hk2⟩ | ⟨rfl, s2, hv2, O2, hs2, hj2, hk2⟩)
        · exact .inl ⟨rfl, K.keepB Wb W2 hbu (hk2.block _ (by rw [ht0.2]; omega) f3.1 f3.2.1 f3.2.2) (hk2.block _ (by rw [ht0.2]; omega) f4.1 f4.2.1 f4.2.2), s2, hv2, O2, hs2, hj2, hIb.keepL hk2 (by rw [ht0.2]; exact hI.size)⟩
        · exact .inr ⟨rfl, K.keepB Wb W2 hbu (hk2.block _ (by rw [ht0.2]; omega) f3.1 f3.2.1 f3.2.2) (hk2.block _ (by rw [ht0.2]; omega) f4.1 f4.2.1 f4.2.2), rfl, s2, hv2, O2, hs2, hj2, hIb.keepL hk2 (by rw [ht0.2]; exact hI.size)⟩)
    refine (hyield _ W' _ _ rfl hrd' hro).mono ?_
    rintro e W'' (⟨rfl, hr2, W3, ⟨s2, hv2, O2, hs2, hj2, hi2⟩, ht2⟩ | ⟨rfl, c', hf2, W3, ⟨rfl, s2, hv2, O2, hs2, hj2, hi2⟩, ht2⟩)
    · have f4 := hi2.fr (n0 + 4) (by omega) (by omega)
      exact .inl ⟨rfl, s2, hv2, hs2.grown ht2.1 f4.2.1 f4.2.2, O2, hr2, hR.turn _ _ _ _ _ _ _ hj2 (by omega) f4.1 f4.2.1 f4.2.2 ht2.1, hi2.grown ht2.1 (.inr (.inl rfl))⟩
    · have f4 := hi2.fr (n0 + 4) (by omega) (by omega)
      exact .inr ⟨rfl, hf2, s2, hv2, O2, hR.turnX _ _ _ _ _ _ hj2 (by omega) f4.1 f4.2.1 f4.2.2 ht2.1, hs2.grown ht2.1 f4.2.1 f4.2.2, hi2.grown ht2.1 (.inr (.inl rfl))⟩


set_option maxHeartbeats 1000000 in
theorem all1_inB (w : World) (l b B gS gC : Nat) (pa : Option Addr) (n c : Nat) (ch : List UInt8) (J : Nat → SM → Value → (Nat → Prop) → World → Prop) (Jx : SM → Value → (Nat → Prop) → World → Prop) (hR : RidesB w.heap.size l b B pa n c ch J Jx)
    (s : SM) (hv : Value) (O : Nat → Prop) (h0 : J 0 s hv O w) (hS : StS w b B s hv) (hs : w.cell? ⟨gS, 0, none⟩ = some (.pointer (some ⟨b, 0, none⟩))) (hc : w.cell? ⟨gC, 0, none⟩ = some (.slice pa n c)) :
    Calls Try.prog 60 #[.func (.yield l) #[] #[], .pointer (some ⟨gS, 0, none⟩), .pointer (some ⟨gC, 0, none⟩)] w (ItEndA b B n J Jx) := by
  have HR := Lib.hid hR
  have H0 := Lib.hid h0
  have HS := Lib.hid hS
  clear hR h0 hS
  refine calls_of_wp_marks Try.func60 rfl ?_
  simp only [Try.ntmps60, List.size_toArray, List.length_cons, List.length_nil, Nat.reduceAdd, Nat.reduceSub, Array.replicate_succ, Array.replicate_zero, List.push_toArray, List.append_toArray, List.nil_append, List.cons_append]
  go_upto_region 1 with fail
  have hs1 : (w.alloc (.cells #[.func (.yield l) #[] #[]] 102)).cell? ⟨gS, 0, none⟩ = some (.pointer (some ⟨b, 0, none⟩)) := (World.cell?_of_block (heap_alloc_old w _ (cell_lt hs))).trans hs
  have hc1 : (w.alloc (.cells #[.func (.yield l) #[] #[]] 102)).cell? ⟨gC, 0, none⟩ = some (.slice pa n c) := (World.cell?_of_block (heap_alloc_old w _ (cell_lt hc))).trans hc
  have a1 : (w.alloc (.cells #[.func (.yield l) #[] #[]] 102)).heap[w.heap.size]? = some (.cells #[.func (.yield l) #[] #[]] 102 (0, 0)) := heap_alloc_new _ _
  have g1 : w.grownBy (w.alloc (.cells #[.func (.yield l) #[] #[]] 102)) none := grown_alloc _ _ _
  have z1 : (w.alloc (.cells #[.func (.yield l) #[] #[]] 102)).heap.size = w.heap.size + 1 := by simp
  generalize (w.alloc (.cells #[.func (.yield l) #[] #[]] 102)) = w1 at *
  have hit := items_any w1 b pa n c
  go_wp2_with fail
  refine hit.mono ?_
  clear hit
  rintro e w2 ⟨rfl, rfl⟩
  go_wp2_with fail
  have y2 : ((w1.alloc (.cells #[.pointer (some ⟨b, 0, none⟩)] 56)).alloc (.cells #[.slice pa n c] 22)).heap[w.heap.size]? = some (.cells #[.func (.yield l) #[] #[]] 102 (0, 0)) := (heap_alloc_old _ _ (by simp; omega)).trans ((heap_alloc_old _ _ (by omega)).trans a1)
  have S2 : ((w1.alloc (.cells #[.pointer (some ⟨b, 0, none⟩)] 56)).alloc (.cells #[.slice pa n c] 22)).heap[w.heap.size + 1]? = some (.cells #[.pointer (some ⟨b, 0, none⟩)] 56 (0, 0)) := (heap_alloc_old _ _ (by simp; omega)).trans (by rw [← z1]; exact heap_alloc_new _ _)
  have C2 : ((w1.alloc (.cells #[.pointer (some ⟨b, 0, none⟩)] 56)).alloc (.cells #[.slice pa n c] 22)).heap[w.heap.size + 2]? = some (.cells #[.slice pa n c] 22 (0, 0)) := by
    have := heap_alloc_new (w1.alloc (.cells #[.pointer (some ⟨b, 0, none⟩)] 56)) (.cells #[.slice pa n c] 22)
    rwa [World.size_alloc, z1] at this
  have g2 : w.grownBy ((w1.alloc (.cells #[.pointer (some ⟨b, 0, none⟩)] 56)).alloc (.cells #[.slice pa n c] 22)) none := grown_trans g1 (grown_trans (grown_alloc _ _ _) (grown_alloc _ _ _))
  have z2 : ((w1.alloc (.cells #[.pointer (some ⟨b, 0, none⟩)] 56)).alloc (.cells #[.slice pa n c] 22)).heap.size = w.heap.size + 3 := by simp; omega
  generalize ((w1.alloc (.cells #[.pointer (some ⟨b, 0, none⟩)] 56)).alloc (.cells #[.slice pa n c] 22)) = w2 at *
  clear hs1 hc1 a1 g1 z1
  obtain ⟨n0, hn0⟩ : ∃ n0, w.heap.size = n0 := ⟨_, rfl⟩
  rw [hn0] at y2 S2 C2 z2 HR ⊢
  refine wp_rangeFunc_any (gf := 70) (lb := #[.pointer (some ⟨n0 + 2, 0, none⟩), .pointer (some ⟨n0 + 1, 0, none⟩)]) rfl (enters_of Try.func70 (by kernel_rfl) rfl) ?_
  rw [z2]
  intro K W1 hg1 hz1 hrd hyield
  have hRi := rides_B HR.out K _ _ (by kernel_rfl) hyield
  have hbn : b < n0 := by rw [← hn0]; exact (Array.getElem?_eq_some_iff.1 HS.out.ins.row).1
  have hOn : ∀ j, O j → j < n0 := by rw [← hn0]; exact HR.out.fresh 0 s hv O w H0.out
  have hhn : ∀ j, hv.ownBlock = some j → j < n0 := by rw [← hn0]; exact HS.out.held_lt
  have hgw : w.grownBy W1 none := grown_trans g2 hg1
  have hJ0 : JA K n0 l b n c pa J 0 s hv W1 := by
    refine ⟨O, hrd, HR.out.turn 0 s hv O w W1 n0 H0.out (Nat.le_refl _) (fun h => by have := hOn _ h; omega) (by omega) (fun h => by have := hhn _ h; omega) (grownBy_none hgw n0), ?_⟩
    exact ⟨fun j h1 h2 => ⟨fun h => by have := hOn _ h; omega, by omega, fun h => by have := hhn _ h; omega⟩, by omega,
      (hg1.block n0 (by omega) (by simp)).trans y2, (hg1.block (n0 + 1) (by omega) (by simp)).trans S2, (hg1.block (n0 + 2) (by omega) (by simp)).trans C2⟩
  have hS1 : StS W1 b B s hv := HS.out.grown (grownBy_none hgw n0) (by omega) (fun h => by have := hhn _ h; omega)
  have hC1 : W1.cell? ⟨n0 + 2, 0, none⟩ = some (.slice pa n c) := (World.cell?_of_block (hg1.block (n0 + 2) (by omega) (by simp))).trans ((cell_of_row _ _ 0 _ _ _ C2).trans rfl)
  simp only [List.append_toArray, List.cons_append, List.nil_append]
  refine (items1_in W1 (n0 + 3 + 1) b B (n0 + 1) (n0 + 2) pa n c ch _ _ hRi s hv hJ0 hS1 hC1).mono ?_
  have hfin : ∀ {W W3 : World} {o : Obj} {s' : SM} {hv' : Value} {O' : Nat → Prop}, StS W b B s' hv' → InA n0 l b n c pa O' hv' W → Turn (n0 + 3 + 1) W W3 →
      StS (W3.putObj (n0 + 3) o) b B s' hv' ∧ (∀ k, J k s' hv' O' W → J k s' hv' O' (W3.putObj (n0 + 3) o)) ∧ (Jx s' hv' O' W → Jx s' hv' O' (W3.putObj (n0 + 3) o)) := by
    intro W W3 o s' hv' O' hs' hi ht
    have f4 := hi.fr (n0 + 4) (by omega) (by omega)
    have f3 := hi.fr (n0 + 3) (by omega) (by omega)
    have gp := grownBy_putObj' W3 (n0 + 3) o
    refine ⟨(hs'.grown ht.1 f4.2.1 f4.2.2).grown gp f3.2.1 f3.2.2, fun k hj => ?_, fun hj => ?_⟩
    · exact HR.out.turn _ _ _ _ _ _ _ (HR.out.turn _ _ _ _ _ _ _ hj (by omega) f4.1 f4.2.1 f4.2.2 ht.1) (by omega) f3.1 f3.2.1 f3.2.2 gp
    · exact HR.out.turnX _ _ _ _ _ _ (HR.out.turnX _ _ _ _ _ _ hj (by omega) f4.1 f4.2.1 f4.2.2 ht.1) (by omega) f3.1 f3.2.1 f3.2.2 gp
  rintro e W2 ⟨⟨v, rfl⟩, h⟩
  refine ⟨⟨v, rfl⟩, ?_⟩
  rcases h with ⟨k, s', hv', hk, hor, ⟨O', hr2, hJ2, hi2⟩, hs2⟩ | ⟨hf2, s', hv', O', hJ2, hs2, hi2⟩
  · refine .inl ⟨hr2, fun W3 ht hD => ?_⟩
    obtain ⟨q1, q2, q3⟩ := hfin (o := .deferred none) hs2 hi2 ht
    refine ⟨by simp, .inl ⟨_, _, rfl, run_takeDeferred hD, ?_⟩⟩
    refine ⟨.tuple #[], results_none (by kernel_rfl) _ _ _, ?_⟩
    exact ⟨⟨_, rfl⟩, .inl ⟨k, s', hv', O', hk, hor, q2 k hJ2, q1⟩⟩
  · refine .inr ⟨.ret, hf2, fun W3 ht hD => ?_⟩
    obtain ⟨q1, q2, q3⟩ := hfin (o := .deferred none) hs2 hi2 ht
    refine (wpIn_wide (n := 5)).1 (wpIn_ret ?_)
    refine ⟨by simp, .inl ⟨_, _, rfl, run_takeDeferred hD, ?_⟩⟩
    refine ⟨.tuple #[], results_none (by kernel_rfl) _ _ _, ?_⟩
    exact ⟨⟨_, rfl⟩, .inr ⟨s', hv', O', q3 hJ2, q1⟩⟩
end Go.Proofs.Ytofdpccjpodbhaa
