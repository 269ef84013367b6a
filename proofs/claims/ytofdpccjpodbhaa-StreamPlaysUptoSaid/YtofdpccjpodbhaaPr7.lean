/-
  A stream beside the document's: inner's range. Conditions: both stand alike; the bytes lie elsewhere.
-/
import Derived.Test.YtofdpccjpodbhaaPr9
namespace Go.Proofs.Ytofdpccjpodbhaa
open Go.RowKit
set_option linter.unusedVariables false

/-- what the document's Take leaves behind a range: no item -/
def TookE (K : PK) (w : World) (O : Nat → Prop) (hv : Value) (N : Nat) (s2 : SM) (hv2 vc vd : Value) (L M : List (Itm × Value × Value)) (Op : Nat → Prop) (n : Nat) (W3 V0 : World) (e : Ending) (V : World) : Prop :=
  ∃ fr' rv', e = .returned (.tuple #[.agg #[.int .i64 0, .int .i64 0, .int .i64 0, .int .i64 0, .slice none 0 0, .slice none 0 0], .int .i64 n]) ∧ Pair K fr' s2 s2 hv2 rv' vc vd L M (fun j => Op j ∨ rv'.ownBlock = some j) V ∧ KeepO w.heap.size O K.b hv w (fun j => Op j ∨ rv'.ownBlock = some j) hv2 V ∧ (∀ j, j < V0.heap.size → ¬ Op j → V.heap[j]? = V0.heap[j]?) ∧ (∀ j, rv'.ownBlock = some j → Op j ∨ V0.heap.size ≤ j) ∧ V0.heap.size ≤ V.heap.size

/-- what inner's last region finds -/
def TookC (K : PK) (w : World) (O : Nat → Prop) (hv : Value) (N : Nat) (s2 : SM) (hv2 vc vd : Value) (L M : List (Itm × Value × Value)) (a n6 x : Nat) (wx : World) : Prop :=
  ∃ fr' rv' Oq, wx.cell? ⟨a, 0, none⟩ = some (.int .i64 0) ∧ (wx.heap[n6]? = some (.deferred (some [])) ∧ ¬ Oq n6 ∧ n6 ≠ K.b ∧ hv2.ownBlock ≠ some n6) ∧ wx.cell? ⟨x, 0, none⟩ = some (.bool true) ∧ Pair K fr' s2 s2 hv2 rv' vc vd L M Oq wx ∧ KeepO w.heap.size O K.b hv w Oq hv2 wx

/-- six zeros over an item of zeros -/
theorem zeros_row {V : World} {d : Nat} (h : V.heap[d]? = some (.cells #[.int .i64 0, .int .i64 0, .int .i64 0, .int .i64 0, .slice none 0 0, .slice none 0 0] 71 (0, 0))) :
    ((((((V.setCell ⟨d, 0, none⟩ (.int .i64 0)).setCell ⟨d, 1, none⟩ (.int .i64 0)).setCell ⟨d, 2, none⟩ (.int .i64 0)).setCell ⟨d, 3, none⟩ (.int .i64 0)).setCell ⟨d, 4, none⟩ (.slice none 0 0)).setCell ⟨d, 5, none⟩ (.slice none 0 0)).heap[d]? = some (.cells #[.int .i64 0, .int .i64 0, .int .i64 0, .int .i64 0, .slice none 0 0, .slice none 0 0] 71 (0, 0)) ∧
    V.grownBy ((((((V.setCell ⟨d, 0, none⟩ (.int .i64 0)).setCell ⟨d, 1, none⟩ (.int .i64 0)).setCell ⟨d, 2, none⟩ (.int .i64 0)).setCell ⟨d, 3, none⟩ (.int .i64 0)).setCell ⟨d, 4, none⟩ (.slice none 0 0)).setCell ⟨d, 5, none⟩ (.slice none 0 0)) (some d) := by
  have s0 := heap_setCell_same V d 0 _ _ (.int .i64 0) h
  have s1 := heap_setCell_same _ d 1 _ _ (.int .i64 0) s0
  have s2 := heap_setCell_same _ d 2 _ _ (.int .i64 0) s1
  have s3 := heap_setCell_same _ d 3 _ _ (.int .i64 0) s2
  have s4 := heap_setCell_same _ d 4 _ _ (.slice none 0 0) s3
  have s5 := heap_setCell_same _ d 5 _ _ (.slice none 0 0) s4
  exact ⟨s5, grown_trans (grown_trans (grown_trans (grown_trans (grown_trans (setCell_grown V d 0 (.int .i64 0)) (setCell_grown _ d 1 (.int .i64 0))) (setCell_grown _ d 2 (.int .i64 0))) (setCell_grown _ d 3 (.int .i64 0))) (setCell_grown _ d 4 (.slice none 0 0))) (setCell_grown _ d 5 (.slice none 0 0))⟩

theorem tookC {K : PK} {w : World} {O : Nat → Prop} {hv : Value} {N : Nat} {s2 : SM} {hv2 rv2 vc vd : Value} {L M : List (Itm × Value × Value)} {Op : Nat → Prop} {fr2 fr' n6 x d : Nat} {q : SM} {rv' : Value} {W3 V0 V wx : World}
    (HP : Pair K fr2 s2 q hv2 rv2 vc vd L M Op W3) (hp : Pair K fr' s2 s2 hv2 rv' vc vd L M (fun j => Op j ∨ rv'.ownBlock = some j) V) (hk : KeepO w.heap.size O K.b hv w (fun j => Op j ∨ rv'.ownBlock = some j) hv2 V)
    (hf : ∀ j, j < V0.heap.size → ¬ Op j → V.heap[j]? = V0.heap[j]?) (hr : ∀ j, rv'.ownBlock = some j → Op j ∨ V0.heap.size ≤ j) (hz : V0.heap.size ≤ V.heap.size) (hb : Below W3.heap.size W3 V0) (hg : V.grownBy wx (some d)) (hd : (W3.heap.size ≤ d ∧ d < V0.heap.size) ∨ V.heap.size ≤ d)
    (hrow : wx.heap[d]? = some (.cells #[.int .i64 0, .int .i64 0, .int .i64 0, .int .i64 0, .slice none 0 0, .slice none 0 0] 71 (0, 0))) (hK : W3.heap[x]? = some (.cells #[.bool true] 4 (0, 0))) (hO : ¬ Op n6 ∧ ¬ Op x ∧ n6 ≠ K.b ∧ hv2.ownBlock ≠ some n6) (hD : W3.heap[n6]? = some (.deferred (some []))) (hW : w.heap.size ≤ n6) :
    TookC K w O hv N s2 hv2 vc vd L M d n6 x wx := by
  have hz3 := hb.size
  have hn6 := (Array.getElem?_eq_some_iff.1 hD).1
  have hx := (Array.getElem?_eq_some_iff.1 hK).1
  have hblt := HP.blt
  have hOd : ¬ (Op d ∨ rv'.ownBlock = some d) := by
    rintro (ho | ho)
    · have := hblt d (.inl ho); omega
    · rcases hd with hd | hd
      · rcases hr d ho with h1 | h1
        · have := hblt d (.inl h1); omega
        · omega
      · have := hp.blt d (.inl (.inr ho)); omega
  have hne : d ≠ K.b := fun e => by have := hblt K.b (.inr (.inl rfl)); omega
  have hnh : hv2.ownBlock ≠ some d := fun e => by have := hblt d (.inr (.inr e)); omega
  have key : ∀ j, j < W3.heap.size → ¬ Op j → wx.heap[j]? = W3.heap[j]? := fun j h1 h2 => by
    rw [hg.block j (by omega) (fun e => by have := Option.some.inj e; omega), hf j (by omega) h2, hb.block j h1]
  refine ⟨fr', rv', _, (cell_of_row _ _ 0 _ _ _ hrow).trans rfl, ⟨(key n6 hn6 hO.1).trans hD, ?_, hO.2.2⟩, (cell_of_row _ _ 0 _ _ _ ((key x hx hO.2.1).trans hK)).trans rfl, hp.grown hg hOd hne hnh, hk.turn hg ?_⟩
  · rintro (ho | ho)
    · exact hO.1 ho
    · rcases hr _ ho with h1 | h1
      · exact hO.1 h1
      · omega
  · omega

/-- inner ends behind its range -/
theorem endH {K : PK} {w : World} {O Oq : Nat → Prop} {hv hv2 rv' vc vd : Value} {N fr' n6 : Nat} {s2 : SM} {L M : List (Itm × Value × Value)} {wx : World} (h1 : wx.heap[n6]? = some (.deferred (some []))) (h2 : ¬ Oq n6 ∧ n6 ≠ K.b ∧ hv2.ownBlock ≠ some n6)
    (hp : Pair K fr' s2 s2 hv2 rv' vc vd L M Oq wx) (hk : KeepO w.heap.size O K.b hv w Oq hv2 wx) (hL : L.map Prod.fst = M.map Prod.fst ∧ L.length ≤ N) (hW : w.heap.size ≤ n6) (tm : Array Value) (ht : tm.getD 4 undef = .bool true) :
    LeavesInM Fence.wide 5 Try.prog Try.f68 tm (EPost K N (.bool true) O hv w) [{ target := .collected n6, args := #[] }] .returning wx := by
  refine leaves_all [n6] wx (by simp) (by simpa using h1) ?_
  intro W' q1 q2 q3 q4 q5
  have hg : wx.grownBy W' (some n6) := ⟨q3, q4, q5, by omega, fun j _ hj => q2 j (fun hm => hj (by simp at hm; rw [hm]))⟩
  have ht' : tm[4]?.getD undef = .bool true := by simpa using ht
  exact ⟨.bool true, by simp [results, Try.f68, go_sem, ht'], s2, rfl, _, _, ⟨_, _, _, _, _, _, hp.grown hg h2.1 h2.2.1 h2.2.2, hL⟩, hk.turn hg hW⟩

set_option maxRecDepth 20000 in
set_option maxHeartbeats 4000000 in
theorem pinner_high (w : World) (K : PK) (N : Nat) (s : SM) (O : Nat → Prop) (hv : Value) (kd nn mm : Int) (da : Option Addr) (dn dc : Nat) (ma : Option Addr) (mn mc : Nat) (more : List UInt8) (h : Sync K N s O hv w) (hm : mm < 0) (hN : N + mn ≤ 549755813888) (hby : BytesIn w ma mn mc more) (hz : mn ≤ 1048576) (hlow : LowA K.B ma mc) :
    Calls Try.prog 68 #[.pointer (some ⟨K.pb, 0, none⟩), .agg #[.int .i64 kd, .int .i64 nn, .int .i64 mm, .slice da dn dc, .slice ma mn mc]] w (EPost K (N + mn) (.bool true) O hv w) := by
  obtain ⟨fr, rv, vc, vd, L, M, hp, hLM, hLN⟩ := h
  have HP := Lib.hid hp
  have HLM := Lib.hid hLM
  have HBY := Lib.hid hby
  have HLOW := Lib.hid hlow
  have hmm : ¬ 0 < mm := by omega
  have hm0 : (mm == 0) = false := by simp; omega
  clear hp hLM hby hlow
  refine calls_of_wp_marksN Try.func68 rfl ?_
  simp only [Try.ntmps68, List.size_toArray, List.length_cons, List.length_nil, Nat.reduceAdd, Nat.reduceSub, Array.replicate_succ, Array.replicate_zero, List.push_toArray, List.append_toArray, List.nil_append, List.cons_append]
  go_upto_region 1 with fail
  have hb1 : Below w.heap.size w ((w.alloc (.cells #[.pointer (some ⟨K.pb, 0, none⟩)] 55)).alloc (.cells #[.int .i64 kd, .int .i64 nn, .int .i64 mm, .slice da dn dc, .slice ma mn mc] 64)) := ((Below.refl _ w).alloc (Nat.le_refl _) _).alloc (by simp) _
  have p1 : ((w.alloc (.cells #[.pointer (some ⟨K.pb, 0, none⟩)] 55)).alloc (.cells #[.int .i64 kd, .int .i64 nn, .int .i64 mm, .slice da dn dc, .slice ma mn mc] 64)).heap[w.heap.size]? = some (.cells #[.pointer (some ⟨K.pb, 0, none⟩)] 55 (0, 0)) := (heap_alloc_old _ _ (by simp)).trans (heap_alloc_new _ _)
  have o1 : ((w.alloc (.cells #[.pointer (some ⟨K.pb, 0, none⟩)] 55)).alloc (.cells #[.int .i64 kd, .int .i64 nn, .int .i64 mm, .slice da dn dc, .slice ma mn mc] 64)).heap[w.heap.size + 1]? = some (.cells #[.int .i64 kd, .int .i64 nn, .int .i64 mm, .slice da dn dc, .slice ma mn mc] 64 (0, 0)) := heap_alloc2_new _ _ _
  have z1 : ((w.alloc (.cells #[.pointer (some ⟨K.pb, 0, none⟩)] 55)).alloc (.cells #[.int .i64 kd, .int .i64 nn, .int .i64 mm, .slice da dn dc, .slice ma mn mc] 64)).heap.size = w.heap.size + 2 := by simp
  generalize ((w.alloc (.cells #[.pointer (some ⟨K.pb, 0, none⟩)] 55)).alloc (.cells #[.int .i64 kd, .int .i64 nn, .int .i64 mm, .slice da dn dc, .slice ma mn mc] 64)) = w1 at *
  obtain ⟨x, hx⟩ : ∃ x, w.heap.size = x := ⟨_, rfl⟩
  have hp1 := HP.out.below hb1
  have HB1 := Lib.hid hb1
  have HBX := Lib.hid HP.out.blt
  rw [hx] at p1 o1 z1 ⊢
  have HX := Lib.hid hx
  have q2 : w1.cell? ⟨x + 1, 2, none⟩ = some (.int .i64 mm) := (cell_of_row _ _ 2 _ _ _ o1).trans rfl
  have q4 : w1.cell? ⟨x + 1, 4, none⟩ = some (.slice ma mn mc) := (cell_of_row _ _ 4 _ _ _ o1).trans rfl
  have HP1 := Lib.hid hp1
  have HP1c := Lib.hid p1
  have HO1c := Lib.hid o1
  clear hb1 p1 o1 hx hp1
  go_upto_region 9 with fail
  have hb2 : Below w1.heap.size w1 ((w1.alloc (.cells #[.bool true] 4)).alloc (.cells #[.slice ma mn mc] 22)) := ((Below.refl _ w1).alloc (Nat.le_refl _) _).alloc (by simp) _
  have k2 : ((w1.alloc (.cells #[.bool true] 4)).alloc (.cells #[.slice ma mn mc] 22)).heap[w1.heap.size]? = some (.cells #[.bool true] 4 (0, 0)) := (heap_alloc_old _ _ (by simp)).trans (heap_alloc_new _ _)
  have l2 : ((w1.alloc (.cells #[.bool true] 4)).alloc (.cells #[.slice ma mn mc] 22)).heap[w1.heap.size + 1]? = some (.cells #[.slice ma mn mc] 22 (0, 0)) := heap_alloc2_new _ _ _
  have z2 : ((w1.alloc (.cells #[.bool true] 4)).alloc (.cells #[.slice ma mn mc] 22)).heap.size = w1.heap.size + 2 := by simp
  have l2' : ((w1.alloc (.cells #[.bool true] 4)).alloc (.cells #[.slice ma mn mc] 22)).heap[x + 2 + 1]? = some (.cells #[.slice ma mn mc] 22 (0, 0)) := by rw [z1] at l2; exact l2
  generalize ((w1.alloc (.cells #[.bool true] 4)).alloc (.cells #[.slice ma mn mc] 22)) = w2 at *
  rw [z1] at k2 z2
  have HP2 := Lib.hid (HP1.out.below hb2)
  have hp2x := (hb2.block x (by omega)).trans HP1c.out
  have ho2x := (hb2.block (x + 1) (by omega)).trans HO1c.out
  have q0 : w2.cell? ⟨x, 0, none⟩ = some (.pointer (some ⟨K.pb, 0, none⟩)) := (cell_of_row _ _ 0 _ _ _ hp2x).trans rfl
  have q4' : w2.cell? ⟨x + 1, 4, none⟩ = some (.slice ma mn mc) := (cell_of_row _ _ 4 _ _ _ ho2x).trans rfl
  have c0 : w2.cell? ⟨K.pb, 0, none⟩ = some (.pointer (some ⟨K.b, 0, none⟩)) := (cell_of_row _ _ 0 _ _ _ HP2.out.cell).trans rfl
  have HB2 := Lib.hid (HB1.out.trans (hb2.mono HB1.out.size))
  have HP2c := Lib.hid hp2x
  have HK2 := Lib.hid k2
  have HL2 := Lib.hid l2'
  have HZ2 := Lib.hid z2
  clear hb2 k2 l2 l2' hp2x ho2x z2 z1 q2 q4 HP1 HP1c HO1c HB1
  go_still_tail 6, (by kernel_rfl)
  change wpList _ _ _ _ _ w2.drew
  have hbD : Below w2.heap.size w2 w2.drew := ⟨rfl, rfl, rfl, Nat.le_refl _, fun _ _ => rfl⟩
  have HPD := Lib.hid (HP2.out.below hbD)
  have HBD := Lib.hid (HB2.out.trans (hbD.mono HB2.out.size))
  have HPDc : Hid (w2.drew.heap[x]? = _) := Lib.hid HP2c.out
  have HKD : Hid (w2.drew.heap[x + 2]? = _) := Lib.hid HK2.out
  have HLD : Hid (w2.drew.heap[x + 2 + 1]? = _) := Lib.hid HL2.out
  have HZD : Hid (w2.drew.heap.size = x + 4) := Lib.hid (by have := HZ2.out; show w2.heap.size = _; omega)
  have hlow : Low K w w2.drew := Low.of_below HP.out.bb.2.2 HBD.out
  have hbm := HBY.out.low hlow.1 hlow.2 HLOW.out
  have hcall := all_any w2.drew K.b ma mn mc more hbm (by omega)
  have HBM := Lib.hid hbm
  have hfn := func_nil
  clear hbD HP2 HB2 HP2c HK2 HL2 HZ2 q0 q4' c0 hlow hbm
  generalize w2.drew = wd at *
  go_wp2_with fail
  refine hcall.mono ?_
  clear hcall
  rintro e w6 ⟨gS, gC, v, rfl, hg6, hcS, hcC, hov, hzS, hzC, hvS, hvC⟩
  go_wp2_with fail
  obtain ⟨n6, hn6⟩ : ∃ n6, w6.heap.size = n6 := ⟨_, rfl⟩
  have hb6 : Below wd.heap.size wd w6 := ⟨hg6.os, hg6.tape, hg6.output, hg6.size, fun k hk => hg6.block k hk (by simp)⟩
  have hzd := HZD.out
  have hp6 := HPD.out.below hb6
  have hpx6 := (hb6.block x (by omega)).trans HPDc.out
  have hk6 := (hb6.block (x + 2) (by omega)).trans HKD.out
  have hl6 := (hb6.block (x + 2 + 1) (by omega)).trans HLD.out
  have hz6 := hb6.size
  have hlov : ∀ j, v.ownBlock = some j → wd.heap.size ≤ j ∧ j < w6.heap.size := fun j hj => hov.row.lt j hj
  obtain ⟨pv, cv, rfl, hbv⟩ := hov.bytes
  have hmore : more.length = mn := HBY.out.len
  have hgSlt : gS < w6.heap.size := cell_lt hcS
  have hgClt : gC < w6.heap.size := cell_lt hcC
  have hxw : w.heap.size = x := HX.out
  have hbx := HBX.out
  have hbb := HP.out.bb
  have hOB : ∀ j, O j → K.B ≤ j := fun j hj => (HP.out.ow j hj).1
  refine wp_rangeFunc_any (gf := 60) (lb := #[.pointer (some ⟨gS, 0, none⟩), .pointer (some ⟨gC, 0, none⟩)]) rfl (enters_of Try.func60 (by kernel_rfl) rfl) ?_
  rw [hn6]
  intro Kb W1 hg1 hz1 hrd hyield
  simp only [List.append_toArray, List.cons_append, List.nil_append]
  have hbd1 : Below w6.heap.size w6 W1 := ⟨hg1.os, hg1.tape, hg1.output, hg1.size, fun k hk => hg1.block k hk (by simp)⟩
  have hw1 : Below w.heap.size w W1 := (HBD.out.trans (hb6.mono (by omega))).trans (hbd1.mono (by omega))
  have hl1 : Low K w W1 := Low.of_below hbb.2.2 hw1
  have hR := rides_I (K := K) (N0 := N) (n := more.length) (gp := x) (gk := x + 2) (gl := x + 2 + 1) (hv0 := hv) (O0 := fun j => O j ∨ j = x ∨ j = x + 2 ∨ j = x + 2 + 1 ∨ j = n6 + 1) (W1 := W1) Kb _ _ _ _ _ _ _ _ _ _ _ _ _ _ _ _ _ _ _ _ _ _ _ _ _ _ _ _ _ _ _ _ _ _ _ _ _ _ _ _ _ _ _ _ _ _ _ _ _ _ _ _ _ _ _ (by kernel_rfl) (by omega)
    ⟨by rintro (ho | ho | ho | ho | ho) <;> first | exact absurd (hbx _ (.inl ho)) (by omega) | omega, fun e => by have := hbx _ (.inr (.inl e)); omega, fun e => by have := hbx _ (.inr (.inr e)); omega⟩ ⟨by omega, by omega, by omega, by omega, by omega⟩
    (by rintro j (ho | ho | ho | ho | ho) <;> first | exact hOB j ho | omega) (by omega) (hbv.below hbd1) (by
      intro a ha
      have h9 := hlov a.block (by rw [ha]; rfl)
      exact ⟨by rintro (ho | ho | ho | ho | ho) <;> first | exact absurd (hbx _ (.inl ho)) (by omega) | omega, fun e => by have := hbx _ (.inr (.inl e)); omega, fun e => by have := hbx _ (.inr (.inr e)); omega⟩) hyield
  have hJ0 : JI Kb K N more.length x (x + 2) (x + 2 + 1) hv (fun j => O j ∨ j = x ∨ j = x + 2 ∨ j = x + 2 + 1 ∨ j = n6 + 1) W1 more 0 s hv (fun j => O j ∨ j = x ∨ j = x + 2 ∨ j = x + 2 + 1 ∨ j = n6 + 1) W1 := by
    refine ⟨hrd, KeepO.refl _ _ _ _ _, ⟨s, 0, fr, rv, vc, vd, L, M, O, ma, mn, mc, hp6.below hbd1, HLM.out, by omega, Nat.le_refl _, Nat.zero_le _, TakeAt.start _ _, (hbd1.block _ (by omega)).trans hl6, by omega, by rw [List.drop_zero]; exact HBY.out.low hl1.1 hl1.2 HLOW.out, HLOW.out, fun j hj => ?_⟩, (hbd1.block _ (by omega)).trans hk6, (hbd1.block _ (by omega)).trans hpx6, ?_, ⟨by simp, by simp, by simp, by simp⟩⟩
    · have := hbx j (.inl hj)
      exact ⟨.inl hj, by omega, by omega, by omega, by omega, by omega⟩
    · have hbK := hbx _ (.inr (.inl rfl))
      rintro j (ho | ho | ho | ho | ho)
      · have := (hp6.below hbd1).ow j ho
        exact ⟨this.2.1, this.2.2⟩
      all_goals exact ⟨by omega, by omega, fun e => by have := hbx _ (.inr (.inr e)); omega⟩
  refine (all1_in W1 (n6 + 1) K.b K.Bs gS gC pv more.length cv more _ _ hR s hv _ hJ0 (hp6.below hbd1).st
    ((World.cell?_of_block (hg1.block gS (by omega) (by simp))).trans hcS) ((World.cell?_of_block (hg1.block gC (by omega) (by simp))).trans hcC)).mono ?_
  rintro e W2 ⟨⟨v', rfl⟩, h⟩
  refine ⟨⟨_, rfl⟩, ?_⟩
  rcases h with ⟨k2, s2, hv2, O2, hk2, hor, hJ, hs2⟩ | ⟨_, _, _, hF, _⟩
  rotate_left
  · exact hF.elim
  refine .inl ⟨hJ.rdy, fun W3 ht hDf => ?_⟩
  obtain ⟨q, m, fr2, rv2, vc2, vd2, L2, M2, Op, pt, nt, ct, e1, e2, e3, e4, e5, e6, e7, e8, e9, e10, e11⟩ := hJ.st
  have hdone := e6.done (by rw [List.length_drop]; rcases hor with h | h; exact .inl (by omega); exact .inr ⟨by omega, h⟩)
  obtain ⟨hnD2, hnl2⟩ := Kb.rdyN W2 hJ.rdy
  have hz3 := ht.2
  have hlp : ¬ Op (n6 + 1) := fun ho => (e11 _ ho).2.2.2.2.1 rfl
  have hlpo := hJ.own _ hJ.inO.1
  have hp3 := e1.grown ht.1 hlp hlpo.2.1 hlpo.2.2
  have hk3 := (ht.1.block (x + 2) (Array.getElem?_eq_some_iff.1 hJ.ck).1 (fun e => cells_not hJ.ck hnl2 (Option.some.inj e))).trans hJ.ck
  have hl3 := (ht.1.block (x + 2 + 1) (Array.getElem?_eq_some_iff.1 e7).1 (fun e => cells_not e7 hnl2 (Option.some.inj e))).trans e7
  have hpx3 := (ht.1.block x (Array.getElem?_eq_some_iff.1 hJ.cp).1 (fun e => cells_not hJ.cp hnl2 (Option.some.inj e))).trans hJ.cp
  have hwz2 := hJ.keep.size
  have hkw2 : KeepO w.heap.size O K.b hv w Op hv2 W3 := by
    refine ⟨ht.1.os.trans (hJ.keep.os.trans hw1.os), ht.1.tape.trans (hJ.keep.tape.trans hw1.tape), ht.1.output.trans (hJ.keep.output.trans hw1.output), Nat.le_trans hw1.size (Nat.le_trans hwz2 ht.1.size), fun j q1 q2 q3 q4 => ?_, fun j hj => ?_, fun j hj => ?_⟩
    · rw [ht.1.block j (by omega) (fun e => by have := Option.some.inj e; omega), hJ.keep.block j (by omega) (by rintro (ho | ho | ho | ho | ho) <;> first | exact q2 ho | omega) q3 q4, hw1.block j q1]
    · rcases hJ.keep.own j (e11 j hj).1 with ho | ho
      · rcases ho with ho | ho | ho | ho | ho
        · exact .inl ho
        all_goals exact .inr (by omega)
      · exact .inr (by omega)
    · rcases hJ.keep.held j hj with ho | ho
      · exact .inl ho
      · exact .inr (by omega)
  have hlow3 : Low K w W3 := ⟨fun j hj => hkw2.block j (by omega) (fun ho => by have := hOB j ho; omega) (by omega) (fun e => by have := hbb.2.1 j e; omega), hkw2.size⟩
  have hby3 : BytesIn W3 pt nt ct (more.drop m) := e9.low (B := K.B) (fun j hj => ht.1.block j (by omega) (fun e => by have := Option.some.inj e; omega)) ht.1.size e10
  have hDO : ¬ Op n6 := fun ho => (e11 _ ho).2.2.2.2.2 rfl
  have hgkO : ¬ Op (x + 2) := fun ho => (e11 _ ho).2.2.1 rfl
  have hgpO : ¬ Op x := fun ho => (e11 _ ho).2.1 rfl
  have hglO : ¬ Op (x + 2 + 1) := fun ho => (e11 _ ho).2.2.2.1 rfl
  have HC : Hid (∀ V0, Below W3.heap.size W3 V0 → Calls Try.prog 67 #[.pointer (some ⟨K.r, 0, none⟩), .slice pt nt ct] V0 (TookE K w O hv (N + mn) s2 hv2 vc2 vd2 L2 M2 Op (more.drop m).length W3 V0)) := Lib.hid (fun V0 hV => by
    have hp := hp3.below hV
    have hl := Low.of_below (K := K) hp3.bb.2.2 hV
    have h := rtake_any V0 K.r K.Br fr2 q rv2 pt nt ct (more.drop m) hp.re hp.okq hp.rel (hby3.low hl.1 hl.2 e10) (fun hc0 a ha => by
      have h1 := e10 hc0 a ha
      have h2 := (hp.ow _ hp.oo.2.1).1
      exact ⟨by omega, fun e => by have := (hp.ow _ (hp.oo.2.2 _ e)).1; omega⟩)
    unfold RTPost at h
    rw [hdone] at h
    simp only at h
    refine h.mono ?_
    rintro e V ⟨fr', rv', we, wb, rfl, hin, hrel, hok, hm, hit, ha1, ha2⟩
    obtain ⟨_, rfl, rfl⟩ := hit.nil rfl
    have hKV := (hkw2.trans (KeepO.of_below (N := w.heap.size) hV) (Nat.le_refl _) (Nat.le_refl _)).trans (hp.keepR (N := w.heap.size) hm (Nat.le_trans hkw2.size hV.size)) (Nat.le_refl _) (Nat.le_refl _)
    exact ⟨fr', rv', rfl, hp.moveR hm hin hrel hok, hKV, fun j h1 h2 => hm.block j h1 (fun e => h2 (e ▸ hp.oo.2.1)) (fun e => h2 (hp.oo.2.2 j e)), fun j hj => (by
      rcases hm.hv with h3 | h3 | ⟨g, h3, h4⟩
      · rw [h3] at hj; simp at hj
      · exact .inl (hp.oo.2.2 j (h3 ▸ hj))
      · rw [h3] at hj; exact .inr (by cases hj; exact h4)), hm.size⟩)
  have HL2 : Hid (L2.map Prod.fst = M2.map Prod.fst ∧ L2.length ≤ N + mn) := Lib.hid ⟨e2, by omega⟩
  have r1 : W3.cell? ⟨K.pb, 1, none⟩ = some (.pointer (some ⟨K.r, 0, none⟩)) := (cell_of_row _ _ 1 _ _ _ hp3.cell).trans rfl
  have p0 : W3.cell? ⟨x, 0, none⟩ = some (.pointer (some ⟨K.pb, 0, none⟩)) := (cell_of_row _ _ 0 _ _ _ hpx3).trans rfl
  have l0 : W3.cell? ⟨x + 2 + 1, 0, none⟩ = some (.slice pt nt ct) := (cell_of_row _ _ 0 _ _ _ hl3).trans rfl
  have HP3 := Lib.hid hp3
  have HK3 := Lib.hid hk3
  have HO : Hid (¬ Op n6 ∧ ¬ Op (x + 2) ∧ n6 ≠ K.b ∧ hv2.ownBlock ≠ some n6) := Lib.hid ⟨hDO, hgkO, fun e => by have := hbx K.b (.inr (.inl rfl)); omega, fun e => by
    rcases hJ.keep.held n6 e with h | h
    · have := hbx n6 (.inr (.inr h)); omega
    · omega⟩
  have HD3 := Lib.hid hDf
  have HW : Hid (w.heap.size ≤ n6) := Lib.hid (by omega)
  have hn6w3 : n6 < W3.heap.size := (Array.getElem?_eq_some_iff.1 hDf).1
  have HNW := Lib.hid hn6w3
  clear e1 e2 e3 e4 e5 e6 e7 e8 e9 e10 e11 hJ hJ0 hR hl1 hw1 hbd1 hyield hrd hz1 hg1 hbb hbx hOB hxw hgClt hgSlt hmore hbv hlov hz6 hl6 hk6 hpx6 hp6 hzd hb6 hn6 hg6 hcS hcC hov hzS hzC hvS hvC ht hDf hs2 hor hk2 hdone hnD2 hnl2 hz3 hlp hlpo hp3 hk3 hl3 hpx3 hwz2 hkw2 hlow3 hby3 hDO hgkO hgpO hglO hn6w3 HBD HPD HPDc HKD HLD HZD HBM HP HLM HBY HLOW HBX HX hfn
  simp only [Exit.inBlock, Exit.then]
  go_at_K
  have HB0 : Hid (Below W3.heap.size W3 W3.drew) := Lib.hid ⟨rfl, rfl, rfl, Nat.le_refl _, fun _ _ => rfl⟩
  have HBe : Hid (Below W3.heap.size W3 (W3.alloc (.cells #[.int .i64 0, .int .i64 0, .int .i64 0, .int .i64 0, .slice none 0 0, .slice none 0 0] 71)).drew) := by
    have h := (Below.refl W3.heap.size W3).alloc (Nat.le_refl _) (.cells #[.int .i64 0, .int .i64 0, .int .i64 0, .int .i64 0, .slice none 0 0, .slice none 0 0] 71)
    exact Lib.hid ⟨h.os, h.tape, h.output, h.size, h.block⟩
  have hltp := cell_lt p0
  have hltl := cell_lt l0
  have hltr := cell_lt r1
  have p0e := (HBe.out.cell (p := ⟨x, 0, none⟩) hltp).trans p0
  have l0e := (HBe.out.cell (p := ⟨x + 2 + 1, 0, none⟩) hltl).trans l0
  have r1e := (HBe.out.cell (p := ⟨K.pb, 1, none⟩) hltr).trans r1
  clear hltp hltl hltr
  have HC0 := Lib.hid (HC.out _ HB0.out)
  have HCe := Lib.hid (HC.out _ HBe.out)
  clear HC
  go_upto_region 20 with fail
  have HZe : Hid ((W3.alloc (.cells #[.int .i64 0, .int .i64 0, .int .i64 0, .int .i64 0, .slice none 0 0, .slice none 0 0] 71)).drew.heap[W3.heap.size]? = some (.cells #[.int .i64 0, .int .i64 0, .int .i64 0, .int .i64 0, .slice none 0 0, .slice none 0 0] 71 (0, 0))) := Lib.hid (heap_alloc_new W3 _)
  have HZl : Hid (W3.heap.size < (W3.alloc (.cells #[.int .i64 0, .int .i64 0, .int .i64 0, .int .i64 0, .slice none 0 0, .slice none 0 0] 71)).drew.heap.size) := Lib.hid (by show W3.heap.size < (W3.alloc _).heap.size; simp)
  have HZo : Hid (¬ Op W3.heap.size) := Lib.hid (fun ho => by have := HP3.out.blt _ (.inl ho); omega)
  go_cut [14, 15] from 102 to 110 (fun s14 s15 wx => s15 = .int .i64 ((more.drop m).length : Nat) ∧ ∃ a14, s14 = .pointer (some ⟨a14, 0, none⟩) ∧ TookC K w O hv (N + mn) s2 hv2 vc2 vd2 L2 M2 a14 n6 (x + 2) wx)
  case first =>
    go_region_law (first
      | (go_simp; go_at_call 67; (with_reducible refine HC0.out.mono ?_); rintro e w4 ⟨fr', rv', rfl, hp4, hk4, hf4, hr4, hz4⟩; have HY := Lib.hid HB0.out)
      | (go_simp; go_at_call 67; (with_reducible refine HCe.out.mono ?_); rintro e w4 ⟨fr', rv', rfl, hp4, hk4, hf4, hr4, hz4⟩; have HY := Lib.hid HBe.out; have hh4 := (hf4 _ HZl.out HZo.out).trans HZe.out; have HH4 := Lib.hid hh4; have e0 : w4.cell? ⟨W3.heap.size, 0, none⟩ = some (.int .i64 0) := (by simp [World.cell?, hh4]); have e1 : w4.cell? ⟨W3.heap.size, 1, none⟩ = some (.int .i64 0) := (by simp [World.cell?, hh4]); have e2 : w4.cell? ⟨W3.heap.size, 2, none⟩ = some (.int .i64 0) := (by simp [World.cell?, hh4]); have e3 : w4.cell? ⟨W3.heap.size, 3, none⟩ = some (.int .i64 0) := (by simp [World.cell?, hh4]); have e4 : w4.cell? ⟨W3.heap.size, 4, none⟩ = some (.slice none 0 0) := (by simp [World.cell?, hh4]); have e5 : w4.cell? ⟨W3.heap.size, 5, none⟩ = some (.slice none 0 0) := (by simp [World.cell?, hh4]); have ef : ∀ k, w4.frozen? ⟨W3.heap.size, k, none⟩ = false := (by intro k; simp [World.frozen?, hh4]); clear hh4))
    all_goals
      have HO4 := Lib.hid (And.intro hp4 (And.intro hk4 (And.intro hf4 (And.intro hr4 hz4))))
      clear hp4 hk4 hf4 hr4 hz4
      go_wp2_with fail
      go_meet
      case rel =>
        obtain ⟨y1, y2, y3, y4, y5⟩ := HO4.out
        first
          | (have hz := zeros_row HH4.out
             have hT := tookC (N := N + mn) HP3.out y1 y2 y3 y4 y5 HY.out hz.2 (.inl ⟨Nat.le_refl _, HZl.out⟩) hz.1 HK3.out HO.out HD3.out HW.out
             refine ⟨by rw [List.length_drop], W3.heap.size, rfl, ?_⟩
             with_reducible exact hT)
          | (have hT := tookC (N := N + mn) HP3.out y1 y2 y3 y4 y5 HY.out (grown_alloc w4 (.cells #[.int .i64 0, .int .i64 0, .int .i64 0, .int .i64 0, .slice none 0 0, .slice none 0 0] 71) (some w4.heap.size)) (.inr (Nat.le_refl _)) (heap_alloc_new w4 _) HK3.out HO.out HD3.out HW.out
             refine ⟨by rw [List.length_drop], w4.heap.size, rfl, ?_⟩
             with_reducible exact hT)
          | trace_state
  case rest =>
    obtain ⟨rfl, a14, rfl, fr', rv', Oq, c14, hD4, ck4, hp4, hk4⟩ := hcut
    have HE := Lib.hid (And.intro hD4 (And.intro hp4 hk4))
    clear hD4 hp4 hk4
    go_upto_region 21 with fail
    go_wp2_with fail
    exact endH HE.out.1.1 HE.out.1.2 HE.out.2.1 HE.out.2.2 HL2.out HW.out _ rfl
end Go.Proofs.Ytofdpccjpodbhaa
