/-
  The reference's stream: frame. Conditions: it lies in a block of its own.
  The reference's frame: a part of its walk.
  The reference's frame: a part of its walk.
-/
import Derived.Test.YtofdpccjpodbhaaMg22
import Derived.Deep.QuietTactic
import Derived.BigQuiet
import Derived.Deep.RegionLaw
namespace Go.Proofs.Ytofdpccjpodbhaa
open Go.RowKit
set_option linter.unusedVariables false

/-- what frame leaves -/
def RFPost (w : World) (r B : Nat) (s : SM) (rv : Value) (q : Nat × Itm × Int) (e : Ending) (w' : World) : Prop :=
  ∃ ve vb, e = .returned (.tuple #[q.2.1.val ve vb, .int .i64 q.2.2]) ∧ InR w' r B q.1 s rv ∧ w.grownBy w' (some r) ∧ ItO w.heap.size w' q.2.1 ve vb

theorem InR.grown {W W' : World} {r B fr d : Nat} {s : SM} {rv : Value} (h : InR W r B fr s rv) (hg : W.grownBy W' (some d)) (h1 : d ≠ r) (h2 : rv.ownBlock ≠ some d) : InR W' r B fr s rv :=
  ⟨(hg.block r (Array.getElem?_eq_some_iff.1 h.row).1 (fun e => h1 (Option.some.inj e).symm)).trans h.row, h.held.kept hg (.inr h2), h.lt, Nat.le_trans h.le hg.size⟩

theorem InR.below {W W' : World} {r B fr : Nat} {s : SM} {rv : Value} (h : InR W r B fr s rv) (hb : Below W.heap.size W W') : InR W' r B fr s rv :=
  ⟨(hb.block r (Array.getElem?_eq_some_iff.1 h.row).1).trans h.row, h.held.of_below hb, h.lt, Nat.le_trans h.le hb.size⟩

/-- a new block of the call's own is written -/
theorem RFPost.set {w w5 : World} {r B x : Nat} {s : SM} {rv : Value} {q : Nat × Itm × Int} {cs : Array Value} {ve vb : Value} {v : Value} (hx : w.heap.size ≤ x) (hs : InR w5 r B q.1 s rv) (hg : w.grownBy w5 (some r)) (hr : r < w.heap.size) (hv : ∀ j, rv.ownBlock = some j → j < w.heap.size)
    (hit : ItO w.heap.size w5 q.2.1 ve vb) (h1 : ve.ownBlock ≠ some x) (h2 : vb.ownBlock ≠ some x) (hc : .agg cs = q.2.1.val ve vb) (he : v = .int .i64 q.2.2) : RFPost w r B s rv q (.returned (.tuple #[.agg cs, v])) (w5.setRow x cs) := by
  have g := setRow_grown w5 x cs
  refine ⟨ve, vb, by rw [hc, he], hs.grown g (by omega) (fun h => by have := hv x h; omega), ⟨g.os.trans hg.os, g.tape.trans hg.tape, g.output.trans hg.output, Nat.le_trans hg.size g.size, fun k hk hn => ?_⟩, ⟨hit.nil, hit.ext.kept g (.inr h1), hit.body.kept g (.inr h2), hit.apart⟩⟩
  exact (g.block k (Nat.lt_of_lt_of_le hk hg.size) (fun e => by have := Option.some.inj e; omega)).trans (hg.block k hk hn)

theorem open_held {w3 : World} {r B f : Nat} {s : SM} {p : Option Addr} {n d : Nat} (h : InR w3 r B f s (.slice p n d)) (hz : n ≤ 140737488355328) {T C : Nat} {X Y : List UInt8} {pl er : Int} (ho : openR s.held 0 f = (T, C, X, Y, pl, er)) :
    ∀ ww, Below w3.heap.size w3 ww → Calls Try.prog 19 #[.slice p n d, .int .i64 0, .int .i64 f] ww (fun e w' => ∃ ea ne ce ba nb cb, e = .returned (.tuple #[.agg #[.int .i64 T, .int .i64 C, .slice ea ne ce, .slice ba nb cb], .int .i64 pl, .int .i64 er]) ∧ Below ww.heap.size ww w' ∧
      OwnBytes w' ww.heap.size 5 (.slice ea ne ce) X ∧ OwnBytes w' ww.heap.size 5 (.slice ba nb cb) Y ∧ Apart (.slice ea ne ce) (.slice ba nb cb)) := fun ww hw => by
  have := ropen2_any ww p n d s.held 0 f (h.held.slice.2.below hw) hz
  rw [ho] at this
  exact this

/-- a frame that came out lies in a block of its own -/
def RFrAt (w3 wx : World) (T C : Nat) (X Y : List UInt8) (xf : Nat) (ea : Option Addr) (ne ce : Nat) (ba : Option Addr) (nb cb : Nat) : Prop :=
  w3.heap.size ≤ xf ∧ wx.heap[xf]? = some (.cells #[.int .i64 T, .int .i64 C, .slice ea ne ce, .slice ba nb cb] 24 (0, 0)) ∧ Below w3.heap.size w3 wx ∧ OwnBytes wx w3.heap.size 5 (.slice ea ne ce) X ∧ OwnBytes wx w3.heap.size 5 (.slice ba nb cb) Y ∧ Apart (.slice ea ne ce) (.slice ba nb cb) ∧
  (Value.slice ea ne ce).ownBlock ≠ some xf ∧ (Value.slice ba nb cb).ownBlock ≠ some xf

theorem rfrAt_new {w3 ww w4 : World} {T C : Nat} {X Y : List UInt8} {ea ba : Option Addr} {ne ce nb cb : Nat} (h : Below w3.heap.size w3 ww)
    (HO : Below ww.heap.size ww w4 ∧ OwnBytes w4 ww.heap.size 5 (.slice ea ne ce) X ∧ OwnBytes w4 ww.heap.size 5 (.slice ba nb cb) Y ∧ Apart (.slice ea ne ce) (.slice ba nb cb)) :
    RFrAt w3 (w4.alloc (.cells #[.int .i64 T, .int .i64 C, .slice ea ne ce, .slice ba nb cb] 24)) T C X Y w4.heap.size ea ne ce ba nb cb := by
  obtain ⟨h1, h2, h3, h4⟩ := HO
  have hz := h.size
  have hb := h.trans (h1.mono hz)
  have ha : Below w4.heap.size w4 (w4.alloc (.cells #[.int .i64 T, .int .i64 C, .slice ea ne ce, .slice ba nb cb] 24)) := (Below.refl _ _).alloc (Nat.le_refl _) _
  exact ⟨hb.size, heap_alloc_new _ _, hb.alloc hb.size _, (h2.of_below ha).lower hz, (h3.of_below ha).lower hz, h4, fun hq => by have := (h2.row.lt _ hq).2; omega, fun hq => by have := (h3.row.lt _ hq).2; omega⟩

theorem rfrAt_set {w3 ww w4 : World} {T C : Nat} {X Y : List UInt8} {ea ba : Option Addr} {ne ce nb cb : Nat} (h : Below w3.heap.size w3 ww) (hlt : w3.heap.size < ww.heap.size) (hh : w4.heap[w3.heap.size]? = some (.cells #[.int .i64 0, .int .i64 0, .slice none 0 0, .slice none 0 0] 24 (0, 0)))
    (HO : Below ww.heap.size ww w4 ∧ OwnBytes w4 ww.heap.size 5 (.slice ea ne ce) X ∧ OwnBytes w4 ww.heap.size 5 (.slice ba nb cb) Y ∧ Apart (.slice ea ne ce) (.slice ba nb cb)) :
    RFrAt w3 ((((w4.setCell ⟨w3.heap.size, 0, none⟩ (.int .i64 T)).setCell ⟨w3.heap.size, 1, none⟩ (.int .i64 C)).setCell ⟨w3.heap.size, 2, none⟩ (.slice ea ne ce)).setCell ⟨w3.heap.size, 3, none⟩ (.slice ba nb cb)) T C X Y w3.heap.size ea ne ce ba nb cb := by
  obtain ⟨h1, h2, h3, h4⟩ := HO
  have hz := h.size
  have hb := h.trans (h1.mono hz)
  have s0 := heap_setCell_same w4 w3.heap.size 0 _ _ (.int .i64 T) hh
  have s1 := heap_setCell_same _ w3.heap.size 1 _ _ (.int .i64 C) s0
  have s2 := heap_setCell_same _ w3.heap.size 2 _ _ (.slice ea ne ce) s1
  have s3 := heap_setCell_same _ w3.heap.size 3 _ _ (.slice ba nb cb) s2
  have g := grown_trans (grown_trans (grown_trans (setCell_grown w4 w3.heap.size 0 (.int .i64 T)) (setCell_grown _ w3.heap.size 1 (.int .i64 C))) (setCell_grown _ w3.heap.size 2 (.slice ea ne ce))) (setCell_grown _ w3.heap.size 3 (.slice ba nb cb))
  refine ⟨Nat.le_refl _, s3, ⟨g.os.trans hb.os, g.tape.trans hb.tape, g.output.trans hb.output, Nat.le_trans hb.size g.size, fun k hk => (g.block k (Nat.lt_of_lt_of_le hk hb.size) (fun e => by have := Option.some.inj e; omega)).trans (hb.block k hk)⟩, (h2.kept g (h2.off' hlt)).lower hz, (h3.kept g (h3.off' hlt)).lower hz, h4, fun hq => by have := (h2.row.lt _ hq).1; omega, fun hq => by have := (h3.row.lt _ hq).1; omega⟩

end Go.Proofs.Ytofdpccjpodbhaa

namespace Go.Proofs.Ytofdpccjpodbhaa
open Go.RowKit
set_option linter.unusedVariables false

set_option maxHeartbeats 8000000 in
set_option maxRecDepth 20000 in
noncomputable def rfrA (w : World) (r B fr : Nat) (s : SM) (p : Option Addr) (n d : Nat) (HS : Hid (InR w r B fr s (.slice p n d))) (HN : Hid (s.held.length = n)) (hz : n ≤ 140737488355328) :
    (R0 : Prop) ×' (Hid R0 → Calls Try.prog 75 #[.pointer (some ⟨r, 0, none⟩)] w (RFPost w r B s (.slice p n d) (rframe fr s))) :=
  ⟨_, fun hR0 => by
  have hS := HS.out
  have hn := HN.out
  have hrw : r < w.heap.size := (Array.getElem?_eq_some_iff.1 hS.row).1
  have hvl : ∀ j, (Value.slice p n d).ownBlock = some j → j < w.heap.size := fun j h => (hS.held_lt j h).2
  have hrow := hS.row
  obtain ⟨x, hx⟩ : ∃ x, w.heap.size = x := ⟨_, rfl⟩
  have hb1 : Below w.heap.size w (w.alloc (.cells #[.int .i64 0, .int .i64 0, .int .i64 0, .int .i64 0, .slice none 0 0, .slice none 0 0] 71)) := (Below.refl _ w).alloc (Nat.le_refl _) _
  have a1 : (w.alloc (.cells #[.int .i64 0, .int .i64 0, .int .i64 0, .int .i64 0, .slice none 0 0, .slice none 0 0] 71)).heap[w.heap.size]? = some (.cells #[.int .i64 0, .int .i64 0, .int .i64 0, .int .i64 0, .slice none 0 0, .slice none 0 0] 71 (0, 0)) := heap_alloc_new _ _
  have h1 := hS.below hb1
  have g1 : w.grownBy (w.alloc (.cells #[.int .i64 0, .int .i64 0, .int .i64 0, .int .i64 0, .slice none 0 0, .slice none 0 0] 71)) (some r) := grown_below hb1
  have HX := Lib.hid hx
  have HVL := Lib.hid hvl
  have HRW := Lib.hid hrw
  clear hS hn hrow hvl hrw hb1
  go_enter Try.func75, Try.ntmps75
  go_upto_region 1 with fail
  generalize (w.alloc (.cells #[.int .i64 0, .int .i64 0, .int .i64 0, .int .i64 0, .slice none 0 0, .slice none 0 0] 71)) = w1 at *
  rw [hx] at a1
  have r1 := h1.row
  have c2 : w1.cell? ⟨r, 2, none⟩ = some (.slice p n d) := (cell_of_row _ _ 2 _ _ _ r1).trans rfl
  by_cases h4 : n < 4
  · have h4' : (n : Int) < 4 := by omega
    have hq : rframe fr s = (fr, .no, 0) := by unfold rframe; rw [if_pos (by rw [HN.out]; exact h4)]
    have HQ := Lib.hid hq
    have H1 := Lib.hid h1
    clear hq hx h4 h1 r1
    go_wp2_with (refine wpList_store_row rfl 71 (.tmp 2) _ rfl x _ rfl rfl 71 _ a1 (by as_aux_lemma => kernel_rfl) (by as_aux_lemma => kernel_rfl) (by as_aux_lemma => kernel_rfl) ?_)
    have hh := setRow_heap w1 x _ #[.int .i64 0, .int .i64 0, .int .i64 0, .int .i64 0, .slice none 0 0, .slice none 0 0] _ _ a1
    refine bodyPost_ret (results_cell_tmp rfl _ _ x _ _ _ _ (.int .i64 0) rfl rfl hh Try.underlying71 rfl (by kernel_rfl)) rfl ?_
    rw [HQ.out]
    exact RFPost.set (Nat.le_of_eq HX.out) H1.out g1 HRW.out HVL.out (ItO.no _ _) (by simp [Value.ownBlock]) (by simp [Value.ownBlock]) rfl rfl
  · have hcase : (n = 4 ∧ s.held = [76, 83, 72, 82]) ∨ (n = 4 ∧ ¬ s.held = [76, 83, 72, 82]) ∨ ¬ n = 4 := by
      by_cases h5 : n = 4
      · by_cases h6 : s.held = [76, 83, 72, 82]
        · exact .inl ⟨h5, h6⟩
        · exact .inr (.inl ⟨h5, h6⟩)
      · exact .inr (.inr h5)
    have hxl : x < w1.heap.size := (Array.getElem?_eq_some_iff.1 a1).1
    have hrx : r < x := by have := HRW.out; omega
    have HX1 := Lib.hid (And.intro hxl hrx)
    have H4 := Lib.hid h4
    have h4' : ¬ (n : Int) < 4 := by omega
    go_upto_if 18 with fail
    go_cut [5] (fun s5 wx => ∃ f : Nat, InR wx r B f s (.slice p n d) ∧ w.grownBy wx (some r) ∧ wx.heap[x]? = some (.cells #[.int .i64 0, .int .i64 0, .int .i64 0, .int .i64 0, .slice none 0 0, .slice none 0 0] 71 (0, 0)) ∧ (∀ o, openR s.held 0 f = o → rframe fr s = if o.2.2.2.2.2 ≠ 0 ∧ o.2.2.2.2.2 ≠ 10 then (f, .no, o.2.2.2.2.2) else if 6 ≤ s.held.length ∧ ((s.held.getD 5 0).toNat : Int) ≠ s.kind then (f, .no, 60) else if o.2.2.2.2.2 = 10 then (f, .no, 0) else (f, ⟨2, 0, o.1, o.2.1, o.2.2.1, o.2.2.2.1⟩, 0)))
    case first =>
      try clear hR0
      rcases hcase with ⟨e4, hm⟩ | ⟨e4, hm⟩ | e4
      · subst e4
        have m0 : w1.cell? ⟨r, 0, none⟩ = some (.int .i64 s.most) := (cell_of_row _ _ 0 _ _ _ r1).trans rfl
        have m1 : w1.cell? ⟨r, 1, none⟩ = some (.int .i64 fr) := (cell_of_row _ _ 1 _ _ _ r1).trans rfl
        have fz : ∀ k, w1.frozen? ⟨r, k, none⟩ = false := fun k => by simp [World.frozen?, r1]
        have H1 := Lib.hid h1
        have HM := Lib.hid hm
        clear h4 h1 r1 hm
        go_upto_region 6 with fail
        have s2 := heap_setCell_same _ r 1 _ _ (.int .i64 s.most) H1.out.row
        simp only [List.setIfInBounds_toArray, List.set] at s2
        have g12 := setCell_grown w1 r 1 (.int .i64 s.most)
        have h2 : InR (w1.setCell ⟨r, 1, none⟩ (.int .i64 s.most)) r B s.most s (.slice p 4 d) := ⟨s2, H1.out.held.kept g12 (H1.out.held.off' H1.out.lt), H1.out.lt, Nat.le_trans H1.out.le g12.size⟩
        have g2 := grown_trans g1 g12
        have a2 := (g12.block x hxl (fun e => by have := Option.some.inj e; omega)).trans a1
        generalize (w1.setCell ⟨r, 1, none⟩ (.int .i64 s.most)) = w2 at *
        clear m0 m1 fz c2 g12 s2 g1 a1 hxl
        have c2 : w2.cell? ⟨r, 2, none⟩ = some (.slice p 4 d) := (cell_of_row _ _ 2 _ _ _ h2.row).trans rfl
        have hf := first_four w2 p d s.held h2.held.slice.2
        have H2 := Lib.hid h2
        have G2 := Lib.hid g2
        clear h2 g2
        rw [decide_eq_true HM.out] at hf
        have HQ : Hid (rframe fr s = (s.most, .no, 60)) := Lib.hid (by unfold rframe; rw [if_neg (by have := HN.out; omega), if_pos ⟨HN.out, HM.out⟩])
        go_wp2_with fail
        refine hf.mono ?_
        clear hf
        rintro e w3 ⟨rfl, rfl⟩
        go_wp2_with (refine wpList_store_row rfl 71 (.tmp 2) _ rfl x _ rfl rfl 71 _ a2 (by as_aux_lemma => kernel_rfl) (by as_aux_lemma => kernel_rfl) (by as_aux_lemma => kernel_rfl) ?_)
        have hh := setRow_heap w3 x _ #[.int .i64 0, .int .i64 0, .int .i64 0, .int .i64 0, .slice none 0 0, .slice none 0 0] _ _ a2
        refine bodyPost_ret (results_cell_tmp rfl _ _ x _ _ _ _ (.int .i64 60) rfl rfl hh Try.underlying71 rfl (by kernel_rfl)) rfl ?_
        rw [HQ.out]
        exact RFPost.set (Nat.le_of_eq HX.out) H2.out G2.out HRW.out HVL.out (ItO.no _ _) (by simp [Value.ownBlock]) (by simp [Value.ownBlock]) rfl rfl
      · subst e4
        have m0 : w1.cell? ⟨r, 0, none⟩ = some (.int .i64 s.most) := (cell_of_row _ _ 0 _ _ _ r1).trans rfl
        have m1 : w1.cell? ⟨r, 1, none⟩ = some (.int .i64 fr) := (cell_of_row _ _ 1 _ _ _ r1).trans rfl
        have fz : ∀ k, w1.frozen? ⟨r, k, none⟩ = false := fun k => by simp [World.frozen?, r1]
        have H1 := Lib.hid h1
        have HM := Lib.hid hm
        clear h4 h1 r1 hm
        go_upto_region 6 with fail
        have s2 := heap_setCell_same _ r 1 _ _ (.int .i64 s.most) H1.out.row
        simp only [List.setIfInBounds_toArray, List.set] at s2
        have g12 := setCell_grown w1 r 1 (.int .i64 s.most)
        have h2 : InR (w1.setCell ⟨r, 1, none⟩ (.int .i64 s.most)) r B s.most s (.slice p 4 d) := ⟨s2, H1.out.held.kept g12 (H1.out.held.off' H1.out.lt), H1.out.lt, Nat.le_trans H1.out.le g12.size⟩
        have g2 := grown_trans g1 g12
        have a2 := (g12.block x hxl (fun e => by have := Option.some.inj e; omega)).trans a1
        generalize (w1.setCell ⟨r, 1, none⟩ (.int .i64 s.most)) = w2 at *
        clear m0 m1 fz c2 g12 s2 g1 a1 hxl
        have c2 : w2.cell? ⟨r, 2, none⟩ = some (.slice p 4 d) := (cell_of_row _ _ 2 _ _ _ h2.row).trans rfl
        have hf := first_four w2 p d s.held h2.held.slice.2
        have H2 := Lib.hid h2
        have G2 := Lib.hid g2
        clear h2 g2
        rw [decide_eq_false HM.out] at hf
        have HFR : Hid (∀ o, openR s.held 0 s.most = o → rframe fr s = if o.2.2.2.2.2 ≠ 0 ∧ o.2.2.2.2.2 ≠ 10 then (s.most, .no, o.2.2.2.2.2) else if 6 ≤ s.held.length ∧ ((s.held.getD 5 0).toNat : Int) ≠ s.kind then (s.most, .no, 60) else if o.2.2.2.2.2 = 10 then (s.most, .no, 0) else (s.most, ⟨2, 0, o.1, o.2.1, o.2.2.1, o.2.2.2.1⟩, 0)) := Lib.hid (by
          intro o ho
          unfold rframe
          rw [if_neg (by have := HN.out; omega), if_neg (fun h => HM.out h.2)]
          simp only [if_pos HN.out, ho])
        go_wp2_with fail
        refine hf.mono ?_
        clear hf
        rintro e w3 ⟨rfl, rfl⟩
        go_wp2_with fail
        go_meet
        case rel => exact ⟨s.most, H2.out, G2.out, a2, HFR.out⟩
      · have HFR : Hid (∀ o, openR s.held 0 fr = o → rframe fr s = if o.2.2.2.2.2 ≠ 0 ∧ o.2.2.2.2.2 ≠ 10 then (fr, .no, o.2.2.2.2.2) else if 6 ≤ s.held.length ∧ ((s.held.getD 5 0).toNat : Int) ≠ s.kind then (fr, .no, 60) else if o.2.2.2.2.2 = 10 then (fr, .no, 0) else (fr, ⟨2, 0, o.1, o.2.1, o.2.2.1, o.2.2.2.1⟩, 0)) := Lib.hid (by
          intro o ho
          unfold rframe
          have h9 := HN.out
          rw [if_neg (by omega), if_neg (fun h => e4 (by omega))]
          simp only [if_neg (show ¬ s.held.length = 4 by omega)]
          simp only [ho])
        have t4 : ((n : Int) == 4) = false := by simpa using (show ¬ (n : Int) = 4 by omega)
        have h4' : ¬ (n : Int) < 4 := by omega
        clear h4 e4
        have H2 := Lib.hid h1
        have G2 := Lib.hid g1
        clear h1 g1 r1
        go_wp2_with fail
        go_meet
        case rel => exact ⟨fr, H2.out, G2.out, a1, HFR.out⟩
    case rest =>
      obtain ⟨f, h2, g2, a2, hfr⟩ := hcut
      clear hcase h4 h1 g1 a1 r1 hxl hrx c2
      rename_i U1 U2
      revert x hx HX HVL HRW w1 HX1 H4 h4' U1 U2 wc u3 u5 u9 u10 u11 u12 u13 u14 u15 u16 u17 u18 u19 u20 u21 u22 u23 u24 u25 u26 u27 u28 u29 u30 u31 u32 u33 u34 u35 u36 u37 u38 u39 u40 u41 u42 u43 u44 u45 u46 u47 u48 u49 u50 u51 u52 u53 u54 u55 u56 u57 u58 u59 u60 u61 u62 u63 u64 u65 u66 u67 u68 u69 u70 u71 u72 u73 u74 u75 f h2 g2 a2 hfr
      exact hR0.out⟩
end Go.Proofs.Ytofdpccjpodbhaa

namespace Go.Proofs.Ytofdpccjpodbhaa
open Go.RowKit
set_option linter.unusedVariables false

set_option maxHeartbeats 8000000 in
set_option maxRecDepth 20000 in
noncomputable def rfrB (w : World) (r B fr : Nat) (s : SM) (p : Option Addr) (n d : Nat) (HS : Hid (InR w r B fr s (.slice p n d))) (HN : Hid (s.held.length = n)) (hz : n ≤ 140737488355328) :
    (R0 : Prop) ×' (Hid R0 → (rfrA w r B fr s p n d HS HN hz).1) :=
  ⟨_, fun hR0 => by
  intro x hx HX HVL HRW w1 HX1 H4 h4' U1 U2 wc u3 u5 u9 u10 u11 u12 u13 u14 u15 u16 u17 u18 u19 u20 u21 u22 u23 u24 u25 u26 u27 u28 u29 u30 u31 u32 u33 u34 u35 u36 u37 u38 u39 u40 u41 u42 u43 u44 u45 u46 u47 u48 u49 u50 u51 u52 u53 u54 u55 u56 u57 u58 u59 u60 u61 u62 u63 u64 u65 u66 u67 u68 u69 u70 u71 u72 u73 u74 u75 f h2 g2 a2 hfr
  have H2 := Lib.hid h2
  have G2 := Lib.hid g2
  have HFR := Lib.hid hfr
  obtain ⟨w3, hw3⟩ : ∃ w3, w3 = wc := ⟨_, rfl⟩
  subst hw3
  have c2 : w3.cell? ⟨r, 2, none⟩ = some (.slice p n d) := (cell_of_row _ _ 2 _ _ _ h2.row).trans rfl
  clear h2 g2 hfr
  go_upto_region 9 with fail
  obtain ⟨T, C, X, Y, pl, er, ho⟩ : ∃ T C X Y pl er, openR s.held 0 f = (T, C, X, Y, pl, er) := ⟨_, _, _, _, _, _, rfl⟩
  have HQ := Lib.hid (HFR.out _ ho)
  have HOP := Lib.hid (open_held H2.out hz ho)
  have hr3 : r < w3.heap.size := (Array.getElem?_eq_some_iff.1 H2.out.row).1
  have c1 : w3.cell? ⟨r, 1, none⟩ = some (.int .i64 f) := (cell_of_row _ _ 1 _ _ _ H2.out.row).trans rfl
  have HB0 : Hid (Below w3.heap.size w3 w3.drew) := Lib.hid ⟨rfl, rfl, rfl, Nat.le_refl _, fun _ _ => rfl⟩
  have HBe : Hid (Below w3.heap.size w3 (w3.alloc (.cells #[.int .i64 0, .int .i64 0, .slice none 0 0, .slice none 0 0] 24)).drew) := by
    have h := (Below.refl w3.heap.size w3).alloc (Nat.le_refl _) (.cells #[.int .i64 0, .int .i64 0, .slice none 0 0, .slice none 0 0] 24)
    exact Lib.hid ⟨h.os, h.tape, h.output, h.size, h.block⟩
  have HZe : Hid ((w3.alloc (.cells #[.int .i64 0, .int .i64 0, .slice none 0 0, .slice none 0 0] 24)).drew.heap[w3.heap.size]? = some (.cells #[.int .i64 0, .int .i64 0, .slice none 0 0, .slice none 0 0] 24 (0, 0))) := Lib.hid (heap_alloc_new w3 _)
  have HZl : Hid (w3.heap.size < (w3.alloc (.cells #[.int .i64 0, .int .i64 0, .slice none 0 0, .slice none 0 0] 24)).drew.heap.size) := Lib.hid (by show w3.heap.size < (w3.alloc _).heap.size; simp)
  have c1e := (HBe.out.cell (p := ⟨r, 1, none⟩) hr3).trans c1
  have c2e := (HBe.out.cell (p := ⟨r, 2, none⟩) hr3).trans c2
  have HA2 := Lib.hid a2
  clear ho HFR
  go_cut [6, 8] (fun s6 s8 wx => s8 = .int .i64 er ∧ ∃ xf ea ne ce ba nb cb, s6 = .pointer (some ⟨xf, 0, none⟩) ∧ RFrAt w3 wx T C X Y xf ea ne ce ba nb cb)
  case first =>
    go_region_law (first
      | (go_simp; go_at_call 19; (with_reducible refine (HOP.out _ HB0.out).mono ?_); rintro e w4 ⟨ea, ne, ce, ba, nb, cb, rfl, hb4, o1, o2, hap⟩)
      | (go_simp; go_at_call 19; (with_reducible refine (HOP.out _ HBe.out).mono ?_); rintro e w4 ⟨ea, ne, ce, ba, nb, cb, rfl, hb4, o1, o2, hap⟩; have hh4 := (hb4.block w3.heap.size HZl.out).trans HZe.out; have e0 : w4.cell? ⟨w3.heap.size, 0, none⟩ = some (.int .i64 0) := (by simp [World.cell?, hh4]); have e1 : w4.cell? ⟨w3.heap.size, 1, none⟩ = some (.int .i64 0) := (by simp [World.cell?, hh4]); have e2 : w4.cell? ⟨w3.heap.size, 2, none⟩ = some (.slice none 0 0) := (by simp [World.cell?, hh4]); have e3 : w4.cell? ⟨w3.heap.size, 3, none⟩ = some (.slice none 0 0) := (by simp [World.cell?, hh4]); have ef : ∀ k, w4.frozen? ⟨w3.heap.size, k, none⟩ = false := (by intro k; simp [World.frozen?, hh4])))
    all_goals
      have HO := Lib.hid (And.intro hb4 (And.intro o1 (And.intro o2 hap)))
      try have HH4 := Lib.hid hh4
      try clear hh4
      clear hb4 o1 o2 hap
      go_wp2_with fail
      go_meet
      case rel =>
        first
          | (have hx4 := HH4; have hx5 := rfrAt_set (T := T) (C := C) HBe.out HZl.out HH4.out HO.out; refine ⟨rfl, w3.heap.size, ea, ne, ce, ba, nb, cb, rfl, ?_⟩; with_reducible exact hx5)
          | (have hx5 := rfrAt_new (T := T) (C := C) HB0.out HO.out; refine ⟨rfl, w4.heap.size, ea, ne, ce, ba, nb, cb, rfl, ?_⟩; with_reducible exact hx5)
  case rest =>
    obtain ⟨rfl, xf, ea, ne, ce, ba, nb, cb, rfl, f1, f2, f3, f4, f5, f6, f7, f8⟩ := hcut
    have h5 := H2.out.below f3
    have g5 : w.grownBy wc (some r) := grown_trans G2.out (grown_below f3)
    have a5 := (f3.block x (Array.getElem?_eq_some_iff.1 HA2.out).1).trans HA2.out
    have hwz : w.heap.size ≤ w3.heap.size := G2.out.size
    have hx3 := (Array.getElem?_eq_some_iff.1 HA2.out).1
    have hit : OwnBytes wc w.heap.size 5 (.slice ea ne ce) X ∧ OwnBytes wc w.heap.size 5 (.slice ba nb cb) Y ∧ Apart (.slice ea ne ce) (.slice ba nb cb) ∧ (Value.slice ea ne ce).ownBlock ≠ some x ∧ (Value.slice ba nb cb).ownBlock ≠ some x :=
      ⟨f4.lower hwz, f5.lower hwz, f6, fun e => by have := (f4.row.lt _ e).1; omega, fun e => by have := (f5.row.lt _ e).1; omega⟩
    have hq := HQ.out
    clear f1 f3 f4 f5 f6 f7 f8 a2 c1 c2 c1e c2e HQ HOP HB0 HBe HZe HZl HA2 H2 G2 hr3 hwz hx3
    simp only [] at hq
    rename_i V1 V2 V3 V4 V5 V6 V7 V8 V9 V10 V11 V12 V13 V14 V15 V16 V17 V18 V19 V20 V21 V22 V23 V24 V25 V26 V27 V28 V29 V30 V31 V32 V33 V34 V35 V36 V37 V38 V39 V40 V41 V42 V43 V44 V45 V46 V47 V48 V49 V50 V51 V52 V53 V54 V55 V56 V57 V58 V59 V60 V61 V62 V63 V64 V65 V66 V67 V68 V69
    revert x hx HX HVL HRW w1 HX1 H4 h4' u3 u5 V1 V2 V3 V4 V5 V6 V7 V8 V9 V10 V11 V12 V13 V14 V15 V16 V17 V18 V19 V20 V21 V22 V23 V24 V25 V26 V27 V28 V29 V30 V31 V32 V33 V34 V35 V36 V37 V38 V39 V40 V41 V42 V43 V44 V45 V46 V47 V48 V49 V50 V51 V52 V53 V54 V55 V56 V57 V58 V59 V60 V61 V62 V63 V64 V65 V66 V67 f w3 V68 V69 T C X Y pl er wc u7 u9 u10 u11 u12 u13 u14 u15 u16 u17 u18 u19 u20 u21 u22 u23 u24 u25 u26 u27 u28 u29 u30 u31 u32 u33 u34 u35 u36 u37 u38 u39 u40 u41 u42 u43 u44 u45 u46 u47 u48 u49 u50 u51 u52 u53 u54 u55 u56 u57 u58 u59 u60 u61 u62 u63 u64 u65 u66 u67 u68 u69 u70 u71 u72 u73 u74 u75 xf ea ne ce ba nb cb f2 h5 g5 a5 hit hq
    exact hR0.out⟩
end Go.Proofs.Ytofdpccjpodbhaa
