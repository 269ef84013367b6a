/-
  The statements' book of lists that came out: take. Conditions: the book lies in memory; the list that came out is the caller's own.
-/
import Derived.Test.YtbkimebmoafbnaaMg19
import Derived.Test.YtbkimebmoafbnaaMg06
namespace Go.Proofs.Ytbkimebmoafbnaa
open Go.RowKit Go.Maps
set_option linter.unusedVariables false

/-- the book, whatever its rows hold -/
structure BkH (w : World) (B bp : Nat) (N : Int) (vl vw : Value) (vs us : List Value) : Prop where
  at_ : w.heap[bp]? = some (.cells #[.int .i64 N, vl, vw] 76 (0, 0))
  row : w.ownsRow B 56 1 vl vs.length vs
  roww : w.ownsRow B 56 1 vw us.length us
  dvw : ∀ j, vl.ownBlock = some j → vw.ownBlock ≠ some j
  le : B ≤ w.heap.size
  lt : B ≤ bp

section
variable {w w' w2 wr : World} {B bp : Nat} {N : Int} {vl vl' vw vw' v : Value} {vs us : List Value} {Ls : List (List Pnd)}
theorem BkIn.h (h : BkIn w B bp N vl vw vs us Ls) : BkH w B bp N vl vw vs us := ⟨h.at_, h.row, h.roww, h.dvw, h.le, h.lt⟩
theorem BkH.cs (h : BkH w B bp N vl vw vs us) : w.cell? ⟨bp, 0, none⟩ = some (.int .i64 N) ∧ w.cell? ⟨bp, 1, none⟩ = some vl ∧ w.cell? ⟨bp, 2, none⟩ = some vw :=
  ⟨(cell_of_row _ _ 0 _ _ _ h.at_).trans rfl, (cell_of_row _ _ 1 _ _ _ h.at_).trans rfl, (cell_of_row _ _ 2 _ _ _ h.at_).trans rfl⟩
theorem BkH.fz (h : BkH w B bp N vl vw vs us) (i : Nat) : w.frozen? ⟨bp, i, none⟩ = false := by simp [World.frozen?, h.at_]
theorem BkH.offl (h : BkH w B bp N vl vw vs us) : vl.ownBlock ≠ some bp := ownsRow_off h.row h.at_ (by decide)
theorem BkH.offw (h : BkH w B bp N vl vw vs us) : vw.ownBlock ≠ some bp := ownsRow_off h.roww h.at_ (by decide)
theorem BkH.below (h : BkH w B bp N vl vw vs us) (hb : Below w.heap.size w w') : BkH w' B bp N vl vw vs us :=
  ⟨(hb.block bp (Array.getElem?_eq_some_iff.1 h.at_).1).trans h.at_, ownsRow_keep h.row (fun j hj => hb.block j (h.row.lt j hj).2), ownsRow_keep h.roww (fun j hj => hb.block j (h.roww.lt j hj).2), h.dvw, Nat.le_trans h.le hb.size, h.lt⟩
theorem BkMv.refl (S : Nat → Prop) (w : World) : BkMv S w w := ⟨rfl, rfl, rfl, Nat.le_refl _, fun _ _ _ => rfl⟩
theorem BkMv.trans {S : Nat → Prop} (h : BkMv S w wr) (k : BkMv S wr w') : BkMv S w w' := ⟨k.os.trans h.os, k.tape.trans h.tape, k.output.trans h.output, Nat.le_trans h.size k.size, fun j hj hn => (k.block j (Nat.lt_of_lt_of_le hj h.size) hn).trans (h.block j hj hn)⟩
theorem BkMv.mono {S T : Nat → Prop} (h : BkMv S w w') (hs : ∀ j, j < w.heap.size → S j → T j) : BkMv T w w' := ⟨h.os, h.tape, h.output, h.size, fun j hj hn => h.block j hj (fun q => hn (hs j hj q))⟩
theorem BkMv.of_below {S : Nat → Prop} (h : Below w.heap.size w w') : BkMv S w w' := ⟨h.os, h.tape, h.output, h.size, fun j hj _ => h.block j hj⟩
theorem BkMv.of_grown {S : Nat → Prop} {row : Option Nat} (h : w.grownBy w' row) (hs : ∀ j, row = some j → S j) : BkMv S w w' := ⟨h.os, h.tape, h.output, h.size, fun j hj hn => h.block j hj (fun q => hn (hs j q.symm))⟩
theorem BkMv.of_only (h : OnlyG vs w w') {S : Nat → Prop} (hs : ∀ v ∈ vs, ∀ j, v.ownBlock = some j → S j) : BkMv S w w' := ⟨h.os, h.tape, h.output, h.size, fun j hj hn => h.block j hj (fun v hv q => hn (hs v hv j q))⟩
theorem BkMv.keep {S : Nat → Prop} (h : BkMv S w w') {B' n e K : Nat} {u : Value} {xs : List Value} (hu : w.ownsRow B' e K u n xs) (hn : ∀ j, u.ownBlock = some j → ¬ S j) : w'.ownsRow B' e K u n xs :=
  ownsRow_keep hu (fun j hj => h.block j (hu.lt j hj).2 (hn j hj))

theorem set_off (w : World) {b i g : Nat} (v : Value) (h : g ≠ b) : (w.setCell ⟨b, i, none⟩ v).heap[g]? = w.heap[g]? := set_far h

/-- it counts -/
theorem BkH.count (h : BkH w B bp N vl vw vs us) (M : Int) : BkH (w.setCell ⟨bp, 0, none⟩ (.int .i64 M)) B bp M vl vw vs us ∧ BkMv (fun j => j = bp) w (w.setCell ⟨bp, 0, none⟩ (.int .i64 M)) := by
  refine ⟨⟨?_, ownsRow_keep h.row (fun j hj => set_off _ _ (fun e => h.offl (by rw [hj, e]))), ownsRow_keep h.roww (fun j hj => set_off _ _ (fun e => h.offw (by rw [hj, e]))), h.dvw, by have := h.le; simp [World.setCell]; omega, h.lt⟩, ⟨rfl, rfl, rfl, by simp [World.setCell], fun j hj hn => set_off _ _ hn⟩⟩
  rw [heap_setCell_same _ bp 0 _ _ _ h.at_]
  rfl
/-- a list more -/
theorem BkH.pushL (h : BkH wr B bp N vl vw vs us) (hr : w2.ownsRow B 56 1 vl' (vs.length + 1) (vs ++ [v])) (hg : wr.grownBy w2 vl.ownBlock) (hs : SameOrNew wr vl vl') :
    BkH (w2.setCell ⟨bp, 1, none⟩ vl') B bp N vl' vw (vs ++ [v]) us ∧ BkMv (fun j => j = bp ∨ vl.ownBlock = some j) wr (w2.setCell ⟨bp, 1, none⟩ vl') ∧ (∀ j, vl'.ownBlock = some j → vl.ownBlock = some j ∨ wr.heap.size ≤ j) := by
  have hbp : w2.heap[bp]? = _ := (hg.block bp (Array.getElem?_eq_some_iff.1 h.at_).1 (fun e => h.offl e.symm)).trans h.at_
  have hnew : ∀ j, vl'.ownBlock = some j → vl.ownBlock = some j ∨ wr.heap.size ≤ j := fun j hj => by
    rcases hs with q | ⟨g, q, q2⟩
    · exact .inl (by rw [← q, hj])
    · rw [hj] at q; cases q; exact .inr q2
  have hbl : bp < wr.heap.size := (Array.getElem?_eq_some_iff.1 h.at_).1
  refine ⟨⟨?_, ?_, ?_, ?_, ?_, h.lt⟩, ⟨hg.os, hg.tape, hg.output, by have := hg.size; simp [World.setCell]; omega, fun j hj hn => ?_⟩, hnew⟩
  · rw [heap_setCell_same _ bp 1 _ _ _ hbp]
    rfl
  · rw [List.length_append, List.length_singleton]
    refine ownsRow_keep hr (fun j hj => set_off _ _ (fun e => ?_))
    subst e
    rcases hnew j hj with q | q
    · exact h.offl q
    · omega
  · refine ownsRow_keep h.roww (fun j hj => (set_off _ _ (fun e => h.offw (by rw [hj, e]))).trans (hg.block j (h.roww.lt j hj).2 (fun e => h.dvw j e.symm hj)))
  · intro j hj hj2
    rcases hnew j hj with q | q
    · exact h.dvw j q hj2
    · have := (h.roww.lt j hj2).2; omega
  · have := h.le; have := hg.size; simp [World.setCell]; omega
  · exact (set_off _ _ (fun e => hn (.inl e))).trans (hg.block j hj (fun e => hn (.inr e.symm)))
/-- .. and what it was -/
theorem BkH.pushW (h : BkH wr B bp N vl vw vs us) (hr : w2.ownsRow B 56 1 vw' (us.length + 1) (us ++ [v])) (hg : wr.grownBy w2 vw.ownBlock) (hs : SameOrNew wr vw vw') :
    BkH (w2.setCell ⟨bp, 2, none⟩ vw') B bp N vl vw' vs (us ++ [v]) ∧ BkMv (fun j => j = bp ∨ vw.ownBlock = some j) wr (w2.setCell ⟨bp, 2, none⟩ vw') ∧ (∀ j, vw'.ownBlock = some j → vw.ownBlock = some j ∨ wr.heap.size ≤ j) := by
  have hbp : w2.heap[bp]? = _ := (hg.block bp (Array.getElem?_eq_some_iff.1 h.at_).1 (fun e => h.offw e.symm)).trans h.at_
  have hnew : ∀ j, vw'.ownBlock = some j → vw.ownBlock = some j ∨ wr.heap.size ≤ j := fun j hj => by
    rcases hs with q | ⟨g, q, q2⟩
    · exact .inl (by rw [← q, hj])
    · rw [hj] at q; cases q; exact .inr q2
  have hbl : bp < wr.heap.size := (Array.getElem?_eq_some_iff.1 h.at_).1
  refine ⟨⟨?_, ?_, ?_, ?_, ?_, h.lt⟩, ⟨hg.os, hg.tape, hg.output, by have := hg.size; simp [World.setCell]; omega, fun j hj hn => ?_⟩, hnew⟩
  · rw [heap_setCell_same _ bp 2 _ _ _ hbp]
    rfl
  · refine ownsRow_keep h.row (fun j hj => (set_off _ _ (fun e => h.offl (by rw [hj, e]))).trans (hg.block j (h.row.lt j hj).2 (fun e => h.dvw j hj e.symm)))
  · rw [List.length_append, List.length_singleton]
    refine ownsRow_keep hr (fun j hj => set_off _ _ (fun e => ?_))
    subst e
    rcases hnew j hj with q | q
    · exact h.offw q
    · omega
  · intro j hj hj2
    rcases hnew j hj2 with q | q
    · exact h.dvw j hj q
    · have := (h.row.lt j hj).2; omega
  · have := h.le; have := hg.size; simp [World.setCell]; omega
  · exact (set_off _ _ (fun e => hn (.inl e))).trans (hg.block j hj (fun e => hn (.inr e.symm)))
end

/-- behind a take -/
def BkTo (w w' : World) (B bp : Nat) (N : Int) (vl vw v : Value) (vs us : List Value) : Prop :=
  ∃ vl' vw' vs' us' Ls', BkIn w' B bp (N + 1) vl' vw' vs' us' Ls' ∧ vs'.length ≤ vs.length + 1 ∧ (∀ j, BkBlk bp vl' vw' vs' us' j → BkBlk bp vl vw vs us j ∨ v.ownBlock = some j ∨ w.heap.size ≤ j) ∧ BkMv (fun j => BkBlk bp vl vw vs us j ∨ v.ownBlock = some j) w w'

set_option maxRecDepth 20000 in
set_option maxHeartbeats 4000000 in
theorem take_any (w : World) (B bp : Nat) (N : Int) (vl vw : Value) (vs us : List Value) (Ls : List (List Pnd)) (v : Value) (L : List Pnd) (n : Nat) (hn : L.length = n) (hn2 : n ≤ 1073741824) (hN : N ≤ 1073741824) (hvs : vs.length ≤ 1073741824) (h : BkIn w B bp N vl vw vs us Ls) (hv : w.ownsRow B 59 3 v n (pndRow L)) (hdis : ∀ j, v.ownBlock = some j → ¬ BkBlk bp vl vw vs us j) :
    Calls Try.prog 47 #[.pointer (some ⟨bp, 0, none⟩), v] w fun e w' => e = .returned (.tuple #[]) ∧ BkTo w w' B bp N vl vw v vs us := by
  obtain ⟨p, c, rfl, h1, h2, h3⟩ := ownsRow_form hv
  unfold maxLen at h2
  have hus : us.length = vs.length := h.lenu.trans h.lenv.symm
  obtain ⟨c0, c1, c2⟩ := h.h.cs
  have fz := h.h.fz
  have hN0 := h.N0
  have hN1 : 0 ≤ N + 1 := by omega
  obtain ⟨hk1, hm1⟩ := h.h.count (N + 1)
  have hL := hn
  subst hL
  have hv1 : (w.setCell ⟨bp, 0, none⟩ (.int .i64 (N + 1))).ownsRow B 59 3 (.slice p L.length c) L.length (pndRow L) := hm1.keep hv (fun j hj e => hdis j hj (.inl e))
  have H := Lib.hid (And.intro h (And.intro hv hdis))
  have HN := Lib.hid (And.intro hn hus)
  obtain ⟨n, hn3⟩ : ∃ n, L.length = n := ⟨_, rfl⟩
  rw [hn3] at hv1 h1 h3 hn2
  have HN3 := Lib.hid hn3
  have HK1 := Lib.hid (And.intro hk1 (And.intro hm1 hv1))
  rw [hn3]
  clear h hv hdis hk1 hm1 hv1 hn hn3 hus
  go_enter Try.func47, Try.ntmps47
  go_upto_region 1 with fail
  generalize w.setCell ⟨bp, 0, none⟩ (.int .i64 (N + 1)) = w1 at *
  obtain ⟨d0, d1, d2⟩ := HK1.out.1.cs
  have fz1 := HK1.out.1.fz
  clear c0 c1 c2 fz
  have hBw : B ≤ w1.heap.size := HK1.out.1.le
  by_cases hodd : (N + 1) % 2 = 1
  · have hov := over_any w1 B n _ _ HK1.out.2.2 hn2 HK1.out.1.le
    go_wp2_with fail
    refine hov.mono ?_
    clear hov
    rintro e w2 ⟨rfl, ho⟩
    have HO := Lib.hid ho
    clear ho
    go_wp2_with fail
    (try simp only [Exit.inBlock, Exit.then])
    refine bodyPost_ret (results_none rfl _ _ _) rfl ?_
    refine ⟨rfl, vl, vw, vs, us, Ls, ?_, by omega, fun j hj => .inl hj, (HK1.out.2.1.mono fun j _ e => .inl (.inl e)).trans (BkMv.of_only HO.out (fun v hv j hj => by obtain rfl := List.mem_singleton.1 hv; exact .inr hj))⟩
    have hb1 : BkIn w1 B bp (N + 1) vl vw vs us Ls := ⟨HK1.out.1.at_, HK1.out.1.row, HK1.out.1.roww, H.out.1.lenv, H.out.1.lenu, fun j hj => ⟨HK1.out.2.1.keep (H.out.1.has j hj).1 (fun i hi e => ownsRow_off (H.out.1.has j hj).1 H.out.1.at_ (by decide) (by rw [hi, e])), HK1.out.2.1.keep (H.out.1.has j hj).2.1 (fun i hi e => ownsRow_off (H.out.1.has j hj).2.1 H.out.1.at_ (by decide) (by rw [hi, e])), (H.out.1.has j hj).2.2⟩, H.out.1.dist, H.out.1.dvw, HK1.out.1.le, H.out.1.lt, by omega⟩
    refine hb1.keep HO.out.size (fun j hj => HO.out.block j (hb1.blt j hj).2 (fun v hv q => ?_))
    obtain rfl := List.mem_singleton.1 hv
    exact H.out.2.2 j (by rw [HN3.out]; exact q) hj
  · have HO := Lib.hid hodd
    have hpr : PndRd w1 p c L := by
      have hr1 := HK1.out.2.2
      rw [← HN3.out] at hr1
      obtain ⟨p', c', e, hrd, _⟩ := PndRd.of_row hr1
      simp only [Value.slice.injEq, true_and] at e
      obtain ⟨rfl, rfl⟩ := e
      exact hrd
    have HP := Lib.hid hpr
    have hn4 := hpr.info HN3.out
    obtain ⟨_, _, h4⟩ := hn4
    obtain ⟨i0, hi, hz0, hz1, hz2⟩ := info_parts info_pend
    clear hpr hodd
    have hev : ((N + 1) % 2 == 1) = false := by have := HO.out; simpa using this
    go_wp2_with fail
    go_loopw [4, 5] (fun v4 v5 wr => ∃ (k : Nat) (v : Value), k ≤ n ∧ v5 = .int .i64 k ∧ v4 = v ∧ Below w1.heap.size w1 wr ∧ wr.ownsRow w1.heap.size 59 3 v k (pndRow (L.take k))) (fun _ v5 _ => n - (intOf v5).toNat)
    case atStart => exact ⟨0, _, Nat.zero_le _, rfl, rfl, Below.refl _ _, by rw [List.take_zero]; exact World.ownsRow_nil _ _ _ _⟩
    case round =>
      obtain ⟨k, v, hk, rfl, rfl, hb, hrow⟩ := hrel
      by_cases hkN : (k : Int) < n
      · have hk' : k < n := by omega
        obtain ⟨g, rfl⟩ := h4 (by omega)
        have hkL : k < L.length := by rw [HN3.out]; exact hk'
        obtain ⟨e0, e1, e2⟩ := (HP.out.below hb).cell g rfl k hkL
        have htk : L.take (k + 1) = L.take k ++ [L[k]] := by rw [List.take_add_one, List.getElem?_eq_getElem hkL, Option.toList_some]
        generalize L[k] = q at e0 e1 e2 htk
        obtain ⟨pid, ph, ptag⟩ := q
        simp only at e0 e1 e2 htk
        have HF := Lib.hid htk
        have HBL := Lib.hid hb
        have HRO := Lib.hid hrow
        have hbz := hb.size
        clear hb hrow htk
        go_wp2_with (first
          | (at_builtin; refine wpList_append_own _ rfl (.tmp 28) (.tmp 33) 56 rfl w1.heap.size 59 i0 _ 3 32 Try.underlying56 hi hz0 hz1 hz2 rfl (by decide) _ _ _ rfl (HRO.out.alloc _) ⟨wr.heap.size, 0, none⟩ 1 1 [.int .i64 pid, .int .i64 ph, .string ptag] rfl rfl (fun j u hj => cell_of_newrow hj) (by simp [Value.oneCell']) (by unfold maxLen; omega) (by omega) (by simp; omega) ?_; intro v' w9 hown9 hgrow9 hnil9))
        go_roundw
        case rel => exact ⟨k + 1, _, by omega, by go_num, rfl, ((HBL.out.alloc hbz _).grown hgrow9 (by have := hbz; simp; omega) (fun j e => (HRO.out.lt j e).1)), by rw [HF.out, pndRow_snoc]; exact hown9⟩
        case measure => simp [intOf]; omega
      · have hkN2 : k = n := by omega
        rw [hkN2, List.take_of_length_le (by rw [HN3.out]; exact Nat.le_refl _)] at hrow
        have hk2 := HK1.out.1.below hb
        obtain ⟨p6, c6, hv6⟩ := row_slice hrow
        subst hv6
        obtain ⟨x0, x1, x2⟩ := hk2.cs
        have xf := hk2.fz
        have hoffl := hk2.offl
        have hoffw := hk2.offw
        have HE := Lib.hid (And.intro hrow (And.intro hb hk2))
        have hrl := hk2.row
        have hle2 := hk2.le
        clear hrow hb hk2 d0 d1 d2 fz1 x2
        go_upto_region 9 with (at_builtin; refine wpList_append_val rfl (.tmp 39) (.tmp 41) 74 rfl B 56 (.slice none 0 0) 24 Try.underlying74 info_lists rfl _ _ _ (.slice p n c) rfl rfl rfl hrl (by unfold maxLen; omega) (by omega) hle2 ?_; intro vl' w2 hr2 hg2 hbb2 hsn2; obtain ⟨pl, cl, hvl2⟩ := row_slice hr2; subst hvl2; have y1 : w2.cell? ⟨bp, 1, none⟩ = some vl := (World.cell?_of_block (hg2.block bp (Array.getElem?_eq_some_iff.1 HE.out.2.2.at_).1 (fun e => hoffl e.symm))).trans x1; have y2 : w2.frozen? ⟨bp, 1, none⟩ = false := (World.frozen?_of_block (hg2.block bp (Array.getElem?_eq_some_iff.1 HE.out.2.2.at_).1 (fun e => hoffl e.symm))).trans (xf 1))
        obtain ⟨hk3, hm3, hnew3⟩ := HE.out.2.2.pushL hr2 hg2 hsn2
        generalize w2.setCell ⟨bp, 1, none⟩ (.slice pl (vs.length + 1) cl) = w3 at *
        have HE3 := Lib.hid (And.intro hk3 (And.intro hm3 hnew3))
        obtain ⟨z0, z1, z2⟩ := hk3.cs
        have zf := hk3.fz
        have hoffw3 := hk3.offw
        have hrw3 := hk3.roww
        rw [HN.out.2] at hrw3
        have hle3 := hk3.le
        clear y1 y2 x0 x1 xf hoffl hoffw hrl hle2 hk3 hm3 hnew3 hr2 hg2 hbb2 hsn2 z0 z1
        go_wp2_with (at_builtin; refine wpList_append_val rfl (.tmp 49) (.tmp 51) 74 rfl B 56 (.slice none 0 0) 24 Try.underlying74 info_lists rfl _ _ _ (.slice p6 n c6) rfl rfl rfl hrw3 (by unfold maxLen; omega) (by omega) hle3 ?_; intro vw' w4 hr4 hg4 hbb4 hsn4; obtain ⟨pw, cw, hvw2⟩ := row_slice hr4; subst hvw2; have y1 : w4.cell? ⟨bp, 2, none⟩ = some vw := (World.cell?_of_block (hg4.block bp (Array.getElem?_eq_some_iff.1 HE3.out.1.at_).1 (fun e => hoffw3 e.symm))).trans z2; have y2 : w4.frozen? ⟨bp, 2, none⟩ = false := (World.frozen?_of_block (hg4.block bp (Array.getElem?_eq_some_iff.1 HE3.out.1.at_).1 (fun e => hoffw3 e.symm))).trans (zf 2))
        go_end0
        have hr4' : w4.ownsRow B 56 1 (.slice pw (vs.length + 1) cw) (us.length + 1) (us ++ [.slice p6 n c6]) := by rw [HN.out.2]; exact hr4
        obtain ⟨hk5, hm5, hnew5⟩ := HE3.out.1.pushW hr4' hg4 hsn4
        have s1 : w.heap.size ≤ w1.heap.size := HK1.out.2.1.size
        have s2 := HE.out.2.1.size
        have s3 := HE3.out.2.1.size
        generalize w4.setCell ⟨bp, 2, none⟩ (.slice pw (vs.length + 1) cw) = w5 at *
        have kp : ∀ {B' m : Nat} {u : Value} {xs : List Value}, wr.ownsRow B' 59 3 u m xs → w5.ownsRow B' 59 3 u m xs := fun {B' m u xs} hu => by
          have h3 : w3.ownsRow B' 59 3 u m xs := HE3.out.2.1.keep hu (fun j hj q => by
            rcases q with q | q
            · exact ownsRow_off hu HE.out.2.2.at_ (by decide) (by rw [hj, q])
            · rcases ownsRow_apart hu HE.out.2.2.row (by decide) with q2 | q2
              · rw [q2] at hj; cases hj
              · exact q2 (hj.trans q.symm))
          exact hm5.keep h3 (fun j hj q => by
            rcases q with q | q
            · exact ownsRow_off h3 HE3.out.1.at_ (by decide) (by rw [hj, q])
            · rcases ownsRow_apart h3 HE3.out.1.roww (by decide) with q2 | q2
              · rw [q2] at hj; cases hj
              · exact q2 (hj.trans q.symm))
        have kq : ∀ {B' m : Nat} {u : Value} {xs : List Value}, w.ownsRow B' 59 3 u m xs → w5.ownsRow B' 59 3 u m xs := fun {B' m u xs} hu => by
          have h1 : w1.ownsRow B' 59 3 u m xs := HK1.out.2.1.keep hu (fun j hj q => ownsRow_off hu H.out.1.at_ (by decide) (by rw [hj, q]))
          exact kp (ownsRow_keep h1 (fun j hj => HE.out.2.1.block j (h1.lt j hj).2))
        have hD := H.out.2.2
        have hHas := H.out.1.has
        have hlu := H.out.1.lenu
        have hlv := H.out.1.lenv
        have hds := H.out.1.dist
        have hvb : ∀ j, j < vs.length → (Value.slice p n c).ownBlock = none ∨ (Value.slice p n c).ownBlock ≠ (vs.getD j default).ownBlock := fun j hj => by
          cases hb : (Value.slice p n c).ownBlock with
          | none => exact .inl rfl
          | some b => exact .inr (fun q => hD b (by rw [HN3.out]; exact hb) (.inr (.inr (.inr (.inl ⟨_, getD_mem hj, q.symm⟩)))))
        refine ⟨rfl, _, _, vs ++ [.slice p n c], us ++ [.slice p6 n c6], Ls ++ [L], ⟨hk5.at_, hk5.row, hk5.roww, by simp [hlv], by simp [hlu], fun j hj => ?_, fun i j hi hj hij => ?_, hk5.dvw, hk5.le, hk5.lt, hN1⟩, by simp, fun j hj => ?_, ?_⟩
        · by_cases hjl : j < Ls.length
          · rw [getD_snoc_lt (l := vs) (by rw [hlv]; exact hjl), getD_snoc_lt (l := us) (by rw [hlu]; exact hjl), getD_snoc_lt (l := Ls) hjl]
            exact ⟨kq (hHas j hjl).1, kq (hHas j hjl).2.1, (hHas j hjl).2.2⟩
          · have hje : j = Ls.length := by simp at hj; omega
            rw [getD_snoc_eq (l := vs) (by rw [hlv]; exact hje), getD_snoc_eq (l := us) (by rw [hlu]; exact hje), getD_snoc_eq (l := Ls) hje, HN3.out]
            exact ⟨kp (ownsRow_keep HK1.out.2.2 (fun j hj => HE.out.2.1.block j (HK1.out.2.2.lt j hj).2)), kp (row_mono9 HE.out.1 hBw), hn2⟩
        · rw [List.length_append, List.length_singleton] at hi hj
          by_cases hiv : i < vs.length
          · rw [getD_snoc_lt hiv]
            by_cases hjv : j < vs.length
            · rw [getD_snoc_lt hjv]; exact hds i j hiv hjv hij
            · rw [getD_snoc_eq (show j = vs.length by omega)]
              rcases hvb i hiv with q | q
              · rw [q]
                cases hb : (vs.getD i default).ownBlock with
                | none => exact .inl rfl
                | some b => exact .inr (fun q => by cases q)
              · exact .inr (fun e => q e.symm)
          · rw [getD_snoc_eq (show i = vs.length by omega), getD_snoc_lt (show j < vs.length by omega)]
            exact hvb j (by omega)
        · rcases hj with q | q | q | ⟨v', hv', q⟩ | ⟨u', hu', q⟩
          · exact .inl (.inl q)
          · rcases HE3.out.2.2 j q with q2 | q2
            · exact .inl (.inr (.inl q2))
            · exact .inr (.inr (by omega))
          · rcases hnew5 j q with q2 | q2
            · exact .inl (.inr (.inr (.inl q2)))
            · exact .inr (.inr (by omega))
          · rcases List.mem_append.1 hv' with h9 | h9
            · exact .inl (.inr (.inr (.inr (.inl ⟨v', h9, q⟩))))
            · obtain rfl := List.mem_singleton.1 h9
              exact .inr (.inl q)
          · rcases List.mem_append.1 hu' with h9 | h9
            · exact .inl (.inr (.inr (.inr (.inr ⟨u', h9, q⟩))))
            · obtain rfl := List.mem_singleton.1 h9
              have := (HE.out.1.lt j q).1
              exact .inr (.inr (by omega))
        · refine (HK1.out.2.1.mono fun j _ e => .inl (.inl e)).trans ((BkMv.of_below HE.out.2.1).trans ((HE3.out.2.1.mono fun j _ e => ?_).trans (hm5.mono fun j _ e => ?_)))
          · rcases e with e | e
            · exact .inl (.inl e)
            · exact .inl (.inr (.inl e))
          · rcases e with e | e
            · exact .inl (.inl e)
            · exact .inl (.inr (.inr (.inl e)))
end Go.Proofs.Ytbkimebmoafbnaa
