/-
  A script that came in: its steps. Plain lemmas over the form's readings. No conditions.
  SessionPlays' walk. Conditions: its script reads as it came in.
  What the second form's bound gives: the length of a slice, of a string is at most its bulk. No conditions.
-/
import Derived.Test.YtbkimebmoafbnaaMg28
import Derived.Deep.Slices
import Derived.Test.YtbkimebmoafbnaaRows
namespace Go.Proofs.Ytbkimebmoafbnaa
open Go.RowKit Go.ChangeShapes Go.WideShapes Go.ChangeAt Go.Deep
set_option linter.unusedVariables false

structure Op13R where
  k : Int
  a : Int
  b : Int
  c : Int
  d : Int
  e : Int
  g : ByteArray
  l : Bool
instance : Inhabited Op13R := ⟨⟨0, 0, 0, 0, 0, 0, ByteArray.empty, false⟩⟩
def Op13R.cells (o : Op13R) : List Value := [.int .i64 o.k, .int .i64 o.a, .int .i64 o.b, .int .i64 o.c, .int .i64 o.d, .int .i64 o.e, .string o.g, .bool o.l]
def Op13R.ok (o : Op13R) : Prop := IsI64 o.a ∧ IsI64 o.b ∧ IsI64 o.c ∧ IsI64 o.d ∧ IsI64 o.e

structure Ops13In (w : World) (a : Option Addr) (n c : Nat) (L : List Op13R) : Prop where
  len : L.length = n
  le : n ≤ c
  cap : c ≤ maxLen
  at_ : 0 < c → ∃ b o, a = some ⟨b, o, none⟩ ∧ b < w.heap.size ∧ ∀ i f, L[i]? = some f → ∀ (k : Nat) v, f.cells[k]? = some v → w.cell? ⟨b, o + i * 8 + k, none⟩ = some v
  ok : ∀ f ∈ L, f.ok

theorem wf_isI64 {n : Int} (h : (Lit.int .i64 n).wf = true) : IsI64 n := by
  obtain ⟨h1, h2⟩ := bd_i64 h
  exact ⟨h1, by omega⟩

theorem choose_lt' {α : Type} [Inhabited α] {n : Nat} {p : Nat → α → Prop} (h : ∀ i, i < n → ∃ x, p i x) : ∃ F : Nat → α, ∀ i, i < n → p i (F i) := by
  refine ⟨fun i => if hi : i < n then (h i hi).choose else default, fun i hi => ?_⟩
  simp only [dif_pos hi]
  exact (h i hi).choose_spec

theorem ops13_open {H : Type} {enc : TypeId × Value → H} {w : World} {fuel : Nat} {x : DataW H × List MemPlace} {a : Option Addr} {n c : Nat} (h : DataW.trod enc Try.prog w 0 (fun _ => true) true fuel 72 [.slice a n c] = some x) :
    ∃ L, Ops13In w a n c L ∧ ((n = 0 ∧ x.1 = .nil) ∨ ∃ es sp : List (DataW H), x.1 = .slice es sp ∧ es.length = n ∧ sp.length = c - n) := by
  rcases open_slice Try.underlying72 h with ⟨hcs, hx⟩ | ⟨ad, len, cap, m, k, D, Pl, hcs, _, hl, hm, hmm, hx, hcell⟩
  · simp only [List.cons.injEq, Value.slice.injEq, and_true] at hcs
    obtain ⟨rfl, rfl, rfl⟩ := hcs
    exact ⟨[], ⟨rfl, Nat.le_refl _, Nat.zero_le _, fun h => absurd h (by omega), fun f hf => by simp at hf⟩, .inl ⟨rfl, by rw [hx]⟩⟩
  · simp only [List.cons.injEq, Value.slice.injEq, and_true] at hcs
    obtain ⟨rfl, rfl, rfl⟩ := hcs
    simp only [if_true] at hmm
    subst hmm
    have hc8 : Try.prog.cellsOf 24 = 8 := by kernel_rfl
    rw [hc8] at hcell
    obtain ⟨F, hF⟩ := choose_lt' (α := Op13R) (n := n) (p := fun i f => w.cells? 0 (ad.add (i * 8)) 8 = some f.cells ∧ f.ok) (fun i hi => by
      obtain ⟨cs', h1, h2⟩ := hcell i (by omega)
      obtain ⟨k, a, b, c, d, e, g, l, rfl, x1, x2, x3, x4, x5⟩ := op13_open h2
      exact ⟨⟨k, a, b, c, d, e, g, l⟩, h1, wf_isI64 x1, wf_isI64 x2, wf_isI64 x3, wf_isI64 x4, wf_isI64 x5⟩)
    refine ⟨(List.range n).map F, ⟨by simp, hl, hm, fun hpos => ?_, fun f hf => ?_⟩, .inr ⟨(List.range n).map D, _, by rw [hx], by simp, by simp⟩⟩
    · obtain ⟨b, o, spot⟩ := ad
      obtain ⟨cs0, h0, _⟩ := hcell 0 (by omega)
      obtain ⟨_, hl0, h0c⟩ := World.cells?_some h0
      have h00 := h0c 0 (by omega)
      have hcs0 : ∃ v, cs0[0]? = some v := ⟨_, List.getElem?_eq_getElem (by omega)⟩
      obtain ⟨v0, hv0⟩ := hcs0
      rw [hv0] at h00
      have hspot : spot = none := by simpa [Addr.add] using World.cell?_spot h00
      subst hspot
      have hadd : ∀ (o' i : Nat), (⟨b, o', none⟩ : Addr).add i = ⟨b, o' + i, none⟩ := fun o' i => by unfold Addr.add; split <;> simp_all
      refine ⟨b, o, rfl, ?_, fun i f hf k v hv => ?_⟩
      · have := World.block_lt_of_cell? w _ h00
        rwa [hadd, hadd] at this
      · have hi : i < n := by
          have := (List.getElem?_eq_some_iff.1 hf).1
          simpa using this
        have hfi : f = F i := by
          rw [List.getElem?_map, List.getElem?_range hi] at hf
          simpa using hf.symm
        subst hfi
        obtain ⟨h1, _⟩ := hF i hi
        obtain ⟨_, _, h1c⟩ := World.cells?_some h1
        have hk : k < 8 := (List.getElem?_eq_some_iff.1 hv).1
        have := h1c k hk
        rw [hadd, hadd] at this
        rw [this, hv]
    · obtain ⟨i, hi, rfl⟩ := List.mem_map.1 hf
      rw [List.mem_range] at hi
      exact (hF i hi).2
end Go.Proofs.Ytbkimebmoafbnaa

namespace Go.Proofs.Ytbkimebmoafbnaa
open Go.RowKit Go.Maps
set_option linter.unusedVariables false

/-- behind i steps -/
def SpInv (W0 : World) (K1 K2 : SK) (r1 r2 bp i : Nat) (W : World) : Prop :=
  ∃ (own : Nat → Nat) (S1 S2 : Sd) (X : Bk), S1.In W own 1 2 i ∧ S2.In W own 3 4 i ∧ X.In W own 5 i ∧ S1.K = K1 ∧ S1.r = r1 ∧ S2.K = K2 ∧ S2.r = r2 ∧ X.bp = bp ∧ (∀ j, j < W0.heap.size → own j = 0) ∧ Below W0.heap.size W0 W

/-- a step of the first one -/
theorem SpInv.one {W0 W W' : World} {K1 K2 : SK} {r1 r2 bp i : Nat} {own : Nat → Nat} {S1 S2 : Sd} {X : Bk} (h1 : S1.In W own 1 2 i) (h2 : S2.In W own 3 4 i) (h3 : X.In W own 5 i) (e1 : S1.K = K1) (e2 : S1.r = r1) (e3 : S2.K = K2) (e4 : S2.r = r2) (e5 : X.bp = bp) (ho : ∀ j, j < W0.heap.size → own j = 0) (hb : Below W0.heap.size W0 W)
    (ht : StepTo W W' own 1 2 5 i S1 X) : SpInv W0 K1 K2 r1 r2 bp (i + 1) W' := by
  obtain ⟨own', S', X', q1, q2, q3, q4, q5, q6⟩ := ht
  refine ⟨own', S', S2, X', q1.sd, h2.keep q6 (by decide) (by decide) q5 (Nat.le_succ i), q1.bk, q2.trans e1, q3.trans e2, e3, e4, q4.trans e5, fun j hj => (q5 j (Nat.lt_of_lt_of_le hj hb.size)).trans (ho j hj), ⟨q6.os.trans hb.os, q6.tape.trans hb.tape, q6.output.trans hb.output, Nat.le_trans hb.size q6.size, fun j hj => (q6.block j (Nat.lt_of_lt_of_le hj hb.size) (by rw [ho j hj]; decide)).trans (hb.block j hj)⟩⟩
/-- .. of the second one -/
theorem SpInv.two {W0 W W' : World} {K1 K2 : SK} {r1 r2 bp i : Nat} {own : Nat → Nat} {S1 S2 : Sd} {X : Bk} (h1 : S1.In W own 1 2 i) (h2 : S2.In W own 3 4 i) (h3 : X.In W own 5 i) (e1 : S1.K = K1) (e2 : S1.r = r1) (e3 : S2.K = K2) (e4 : S2.r = r2) (e5 : X.bp = bp) (ho : ∀ j, j < W0.heap.size → own j = 0) (hb : Below W0.heap.size W0 W)
    (ht : StepTo W W' own 3 4 5 i S2 X) : SpInv W0 K1 K2 r1 r2 bp (i + 1) W' := by
  obtain ⟨own', S', X', q1, q2, q3, q4, q5, q6⟩ := ht
  refine ⟨own', S1, S', X', h1.keep q6 (by decide) (by decide) q5 (Nat.le_succ i), q1.sd, q1.bk, e1, e2, q2.trans e3, q3.trans e4, q4.trans e5, fun j hj => (q5 j (Nat.lt_of_lt_of_le hj hb.size)).trans (ho j hj), ⟨q6.os.trans hb.os, q6.tape.trans hb.tape, q6.output.trans hb.output, Nat.le_trans hb.size q6.size, fun j hj => (q6.block j (Nat.lt_of_lt_of_le hj hb.size) (by rw [ho j hj]; decide)).trans (hb.block j hj)⟩⟩

set_option maxRecDepth 20000 in
set_option maxHeartbeats 8000000 in
theorem splays_walk (W : World) (ka aa ab ac ad ae : Int) (ag : ByteArray) (al : Bool) (kb ba bb bc bd be : Int) (bg : ByteArray) (bl : Bool) (pl : Option Addr) (n cl : Nat) (L : List Op13R) (hL : Ops13In W pl n cl L) (hn : n ≤ 1048576) :
    Calls Try.prog 7 #[.agg #[.int .i64 ka, .int .i64 aa, .int .i64 ab, .int .i64 ac, .int .i64 ad, .int .i64 ae, .string ag, .bool al], .agg #[.int .i64 kb, .int .i64 ba, .int .i64 bb, .int .i64 bc, .int .i64 bd, .int .i64 be, .string bg, .bool bl], .slice pl n cl] W fun en w' => en = .returned (.bool true) ∧ Below W.heap.size W w' := by
  have hcl := hL.le
  have hcm := hL.cap
  unfold maxLen at hcm
  have HL := Lib.hid hL
  clear hL
  go_enter Try.func7, Try.ntmps7
  go_upto_region 1 with fail
  have hb1 : Below W.heap.size W ((W.alloc (.cells #[.int .i64 ka, .int .i64 aa, .int .i64 ab, .int .i64 ac, .int .i64 ad, .int .i64 ae, .string ag, .bool al] 24)).alloc (.cells #[.int .i64 kb, .int .i64 ba, .int .i64 bb, .int .i64 bc, .int .i64 bd, .int .i64 be, .string bg, .bool bl] 24)) := ((Below.refl _ _).alloc (Nat.le_refl _) _).alloc (by simp) _
  have o1 : ((W.alloc (.cells #[.int .i64 ka, .int .i64 aa, .int .i64 ab, .int .i64 ac, .int .i64 ad, .int .i64 ae, .string ag, .bool al] 24)).alloc (.cells #[.int .i64 kb, .int .i64 ba, .int .i64 bb, .int .i64 bc, .int .i64 bd, .int .i64 be, .string bg, .bool bl] 24)).heap[W.heap.size]? = some (.cells #[.int .i64 ka, .int .i64 aa, .int .i64 ab, .int .i64 ac, .int .i64 ad, .int .i64 ae, .string ag, .bool al] 24 (0, 0)) := heap_alloc2_old _ _ _
  have o2 : ((W.alloc (.cells #[.int .i64 ka, .int .i64 aa, .int .i64 ab, .int .i64 ac, .int .i64 ad, .int .i64 ae, .string ag, .bool al] 24)).alloc (.cells #[.int .i64 kb, .int .i64 ba, .int .i64 bb, .int .i64 bc, .int .i64 bd, .int .i64 be, .string bg, .bool bl] 24)).heap[W.heap.size + 1]? = some (.cells #[.int .i64 kb, .int .i64 ba, .int .i64 bb, .int .i64 bc, .int .i64 bd, .int .i64 be, .string bg, .bool bl] 24 (0, 0)) := heap_alloc2_new _ _ _
  generalize ((W.alloc (.cells #[.int .i64 ka, .int .i64 aa, .int .i64 ab, .int .i64 ac, .int .i64 ad, .int .i64 ae, .string ag, .bool al] 24)).alloc (.cells #[.int .i64 kb, .int .i64 ba, .int .i64 bb, .int .i64 bc, .int .i64 bd, .int .i64 be, .string bg, .bool bl] 24)) = w1 at *
  obtain ⟨x, hx⟩ : ∃ x, W.heap.size = x := ⟨_, rfl⟩
  have hl := live_any w1
  rw [hx] at o1 o2 ⊢
  have HB1 := Lib.hid hb1
  have HO1 := Lib.hid (And.intro o1 o2)
  clear hb1 o1 o2
  go_wp2_with fail
  refine hl.mono ?_
  clear hl
  rintro en w2 ⟨rfl, hb2⟩
  have hx2 := hb2.size
  have HB2 := Lib.hid (HB1.out.trans (hb2.mono HB1.out.size))
  have HO2 : Hid (w2.heap[x]? = some (.cells #[.int .i64 ka, .int .i64 aa, .int .i64 ab, .int .i64 ac, .int .i64 ad, .int .i64 ae, .string ag, .bool al] 24 (0, 0)) ∧ w2.heap[x + 1]? = some (.cells #[.int .i64 kb, .int .i64 ba, .int .i64 bb, .int .i64 bc, .int .i64 bd, .int .i64 be, .string bg, .bool bl] 24 (0, 0))) := Lib.hid ⟨(hb2.block x (Array.getElem?_eq_some_iff.1 HO1.out.1).1).trans HO1.out.1, (hb2.block (x + 1) (Array.getElem?_eq_some_iff.1 HO1.out.2).1).trans HO1.out.2⟩
  clear hb2 hx2
  have q0 : w2.cell? ⟨x, 0, none⟩ = some (.int .i64 ka) := (cell_of_row _ _ 0 _ _ _ HO2.out.1).trans rfl
  have q1 : w2.cell? ⟨x, 1, none⟩ = some (.int .i64 aa) := (cell_of_row _ _ 1 _ _ _ HO2.out.1).trans rfl
  have q2 : w2.cell? ⟨x, 2, none⟩ = some (.int .i64 ab) := (cell_of_row _ _ 2 _ _ _ HO2.out.1).trans rfl
  have q3 : w2.cell? ⟨x, 3, none⟩ = some (.int .i64 ac) := (cell_of_row _ _ 3 _ _ _ HO2.out.1).trans rfl
  have q4 : w2.cell? ⟨x, 4, none⟩ = some (.int .i64 ad) := (cell_of_row _ _ 4 _ _ _ HO2.out.1).trans rfl
  have q5 : w2.cell? ⟨x, 5, none⟩ = some (.int .i64 ae) := (cell_of_row _ _ 5 _ _ _ HO2.out.1).trans rfl
  have q6 : w2.cell? ⟨x, 6, none⟩ = some (.string ag) := (cell_of_row _ _ 6 _ _ _ HO2.out.1).trans rfl
  have q7 : w2.cell? ⟨x, 7, none⟩ = some (.bool al) := (cell_of_row _ _ 7 _ _ _ HO2.out.1).trans rfl
  have hbg := begin_any w2 ka aa ab ac ad ae ag al
  obtain ⟨CA, hC⟩ : ∃ C, beginC aa ab ac ad ae = C := ⟨_, rfl⟩
  have hz : CA.size = 128 := by rw [← hC]; exact perf_size ..
  have HCA := Lib.hid (And.intro hC hz)
  rw [hC] at hbg
  clear hC hz
  go_wp2_with fail
  refine hbg.mono ?_
  clear hbg q0 q1 q2 q3 q4 q5 q6 q7
  rintro en w3a ⟨rfl, hb3⟩
  have Hw3a := Lib.hid hb3
  clear hb3
  go_upto_region 3 with (refine wpList_store_rowTo rfl 39 (.tmp 8) (.tmp 23) rfl rfl w3a.heap.size CA rfl rfl 39 perfZ (_root_.Go.heap_alloc_new w3a _) (by rw [HCA.out.2]; as_aux_lemma => kernel_rfl) (by rw [HCA.out.2]; as_aux_lemma => kernel_rfl) (by rw [← HCA.out.1]; as_aux_lemma => kernel_rfl) ?_)
  have hb4 : Below w3a.heap.size w3a ((w3a.alloc (.cells perfZ 39)).setRow w3a.heap.size CA) := below_setRow ((Below.refl _ _).alloc (Nat.le_refl _) _) (Nat.le_refl _) _
  have h4 := setRow_heap (w3a.alloc (.cells perfZ 39)) w3a.heap.size _ CA _ _ (_root_.Go.heap_alloc_new w3a _)
  change Code.wp _ _ _ _ ((w3a.alloc (.cells perfZ 39)).setRow w3a.heap.size CA)
  generalize ((w3a.alloc (.cells perfZ 39)).setRow w3a.heap.size CA) = w3 at *
  have hbb := Hw3a.out.trans (hb4.mono Hw3a.out.size)
  obtain ⟨yCA, hy⟩ : ∃ y, w3a.heap.size = y := ⟨_, rfl⟩
  rw [hy] at h4 ⊢
  have HB3 := Lib.hid (HB2.out.trans (hbb.mono HB2.out.size))
  have HO3 : Hid (w3.heap[x + 1]? = some (.cells #[.int .i64 kb, .int .i64 ba, .int .i64 bb, .int .i64 bc, .int .i64 bd, .int .i64 be, .string bg, .bool bl] 24 (0, 0)) ∧ w3.heap[yCA]? = some (.cells CA 39 (0, 0))) := Lib.hid ⟨(hbb.block (x + 1) (Array.getElem?_eq_some_iff.1 HO2.out.2).1).trans HO2.out.2, h4⟩
  clear hb4 h4 hbb hy
  have q0 : w3.cell? ⟨x + 1, 0, none⟩ = some (.int .i64 kb) := (cell_of_row _ _ 0 _ _ _ HO3.out.1).trans rfl
  have q1 : w3.cell? ⟨x + 1, 1, none⟩ = some (.int .i64 ba) := (cell_of_row _ _ 1 _ _ _ HO3.out.1).trans rfl
  have q2 : w3.cell? ⟨x + 1, 2, none⟩ = some (.int .i64 bb) := (cell_of_row _ _ 2 _ _ _ HO3.out.1).trans rfl
  have q3 : w3.cell? ⟨x + 1, 3, none⟩ = some (.int .i64 bc) := (cell_of_row _ _ 3 _ _ _ HO3.out.1).trans rfl
  have q4 : w3.cell? ⟨x + 1, 4, none⟩ = some (.int .i64 bd) := (cell_of_row _ _ 4 _ _ _ HO3.out.1).trans rfl
  have q5 : w3.cell? ⟨x + 1, 5, none⟩ = some (.int .i64 be) := (cell_of_row _ _ 5 _ _ _ HO3.out.1).trans rfl
  have q6 : w3.cell? ⟨x + 1, 6, none⟩ = some (.string bg) := (cell_of_row _ _ 6 _ _ _ HO3.out.1).trans rfl
  have q7 : w3.cell? ⟨x + 1, 7, none⟩ = some (.bool bl) := (cell_of_row _ _ 7 _ _ _ HO3.out.1).trans rfl
  have hbg := begin_any w3 kb ba bb bc bd be bg bl
  obtain ⟨CB, hC⟩ : ∃ C, beginC ba bb bc bd be = C := ⟨_, rfl⟩
  have hz : CB.size = 128 := by rw [← hC]; exact perf_size ..
  have HCB := Lib.hid (And.intro hC hz)
  rw [hC] at hbg
  clear hC hz
  go_wp2_with fail
  refine hbg.mono ?_
  clear hbg q0 q1 q2 q3 q4 q5 q6 q7
  rintro en w4a ⟨rfl, hb3⟩
  have Hw4a := Lib.hid hb3
  clear hb3
  go_upto_region 4 with (refine wpList_store_rowTo rfl 39 (.tmp 9) (.tmp 25) rfl rfl w4a.heap.size CB rfl rfl 39 perfZ (_root_.Go.heap_alloc_new w4a _) (by rw [HCB.out.2]; as_aux_lemma => kernel_rfl) (by rw [HCB.out.2]; as_aux_lemma => kernel_rfl) (by rw [← HCB.out.1]; as_aux_lemma => kernel_rfl) ?_)
  have hb4 : Below w4a.heap.size w4a ((w4a.alloc (.cells perfZ 39)).setRow w4a.heap.size CB) := below_setRow ((Below.refl _ _).alloc (Nat.le_refl _) _) (Nat.le_refl _) _
  have h4 := setRow_heap (w4a.alloc (.cells perfZ 39)) w4a.heap.size _ CB _ _ (_root_.Go.heap_alloc_new w4a _)
  change Code.wp _ _ _ _ ((w4a.alloc (.cells perfZ 39)).setRow w4a.heap.size CB)
  generalize ((w4a.alloc (.cells perfZ 39)).setRow w4a.heap.size CB) = w4 at *
  have hbb := Hw4a.out.trans (hb4.mono Hw4a.out.size)
  obtain ⟨yCB, hy⟩ : ∃ y, w4a.heap.size = y := ⟨_, rfl⟩
  rw [hy] at h4 ⊢
  have HB4 := Lib.hid (HB3.out.trans (hbb.mono HB3.out.size))
  have HO4 : Hid (w4.heap[yCA]? = some (.cells CA 39 (0, 0)) ∧ w4.heap[yCB]? = some (.cells CB 39 (0, 0))) := Lib.hid ⟨(hbb.block yCA (Array.getElem?_eq_some_iff.1 HO3.out.2).1).trans HO3.out.2, h4⟩
  clear hb4 h4 hbb hy
  have hnw := snew_all aa ab ac ad ae w4
  rw [HCA.out.1] at hnw
  have h4 := HO4.out.1
  go_wp2_with (refine wpList_load_row rfl 39 (.tmp 8) rfl yCA rfl 39 CA (0, 0) _ h4 Try.underlying39 rfl (by rw [HCA.out.2]; as_aux_lemma => kernel_rfl) ?_)
  refine hnw.mono ?_
  clear hnw h4
  rintro en w5 ⟨vs, rfl, hb5, hc⟩
  have HCvs := Lib.hid hc
  have HBlw5 := Lib.hid hb5
  have HB5 := Lib.hid (HB4.out.trans (hb5.mono HB4.out.size))
  have HO5 : Hid (w5.heap[yCA]? = some (.cells CA 39 (0, 0)) ∧ w5.heap[yCB]? = some (.cells CB 39 (0, 0))) := Lib.hid ⟨(hb5.block yCA (Array.getElem?_eq_some_iff.1 HO4.out.1).1).trans HO4.out.1, (hb5.block yCB (Array.getElem?_eq_some_iff.1 HO4.out.2).1).trans HO4.out.2⟩
  clear hb5 hc
  have hnw := rnew_all aa ab ac ad ae w5
  rw [HCA.out.1] at hnw
  have h4 := HO5.out.1
  go_wp2_with (refine wpList_load_row rfl 39 (.tmp 8) rfl yCA rfl 39 CA (0, 0) _ h4 Try.underlying39 rfl (by rw [HCA.out.2]; as_aux_lemma => kernel_rfl) ?_)
  refine hnw.mono ?_
  clear hnw h4
  rintro en w6 ⟨vt, rfl, hb5, hc⟩
  have HCvt := Lib.hid hc
  have HBlw6 := Lib.hid hb5
  have HB6 := Lib.hid (HB5.out.trans (hb5.mono HB5.out.size))
  have HO6 : Hid (w6.heap[yCA]? = some (.cells CA 39 (0, 0)) ∧ w6.heap[yCB]? = some (.cells CB 39 (0, 0))) := Lib.hid ⟨(hb5.block yCA (Array.getElem?_eq_some_iff.1 HO5.out.1).1).trans HO5.out.1, (hb5.block yCB (Array.getElem?_eq_some_iff.1 HO5.out.2).1).trans HO5.out.2⟩
  clear hb5 hc
  have hnw := snew_all ba bb bc bd be w6
  rw [HCB.out.1] at hnw
  have h4 := HO6.out.2
  go_wp2_with (refine wpList_load_row rfl 39 (.tmp 9) rfl yCB rfl 39 CB (0, 0) _ h4 Try.underlying39 rfl (by rw [HCB.out.2]; as_aux_lemma => kernel_rfl) ?_)
  refine hnw.mono ?_
  clear hnw h4
  rintro en w7 ⟨vu, rfl, hb5, hc⟩
  have HCvu := Lib.hid hc
  have HBlw7 := Lib.hid hb5
  have HB7 := Lib.hid (HB6.out.trans (hb5.mono HB6.out.size))
  have HO7 : Hid (w7.heap[yCA]? = some (.cells CA 39 (0, 0)) ∧ w7.heap[yCB]? = some (.cells CB 39 (0, 0))) := Lib.hid ⟨(hb5.block yCA (Array.getElem?_eq_some_iff.1 HO6.out.1).1).trans HO6.out.1, (hb5.block yCB (Array.getElem?_eq_some_iff.1 HO6.out.2).1).trans HO6.out.2⟩
  clear hb5 hc
  have hnw := rnew_all ba bb bc bd be w7
  rw [HCB.out.1] at hnw
  have h4 := HO7.out.2
  go_wp2_with (refine wpList_load_row rfl 39 (.tmp 9) rfl yCB rfl 39 CB (0, 0) _ h4 Try.underlying39 rfl (by rw [HCB.out.2]; as_aux_lemma => kernel_rfl) ?_)
  refine hnw.mono ?_
  clear hnw h4
  rintro en w8 ⟨vv, rfl, hb5, hc⟩
  have HCvv := Lib.hid hc
  have HBlw8 := Lib.hid hb5
  have HB8 := Lib.hid (HB7.out.trans (hb5.mono HB7.out.size))
  have HO8 : Hid (w8.heap[yCA]? = some (.cells CA 39 (0, 0)) ∧ w8.heap[yCB]? = some (.cells CB 39 (0, 0))) := Lib.hid ⟨(hb5.block yCA (Array.getElem?_eq_some_iff.1 HO7.out.1).1).trans HO7.out.1, (hb5.block yCB (Array.getElem?_eq_some_iff.1 HO7.out.2).1).trans HO7.out.2⟩
  clear hb5 hc
  have e1 := HCvs.out
  have e2 := HCvt.out
  have e3 := HCvu.out
  have e4 := HCvv.out
  clear HO1 HO2 HO3 HO4 HO5 HO6 HO7
  rcases e1 with ⟨g1, K1, rfl, l1, i1⟩ | ⟨g1, rfl⟩
  · rcases e2 with ⟨_, r1, rfl, l2, i2⟩ | ⟨g2, _⟩
    · rcases e3 with ⟨g3, K2, rfl, l3, i3⟩ | ⟨g3, rfl⟩
      · rcases e4 with ⟨_, r2, rfl, l4, i4⟩ | ⟨g4, _⟩
        · have z1 := HBlw5.out.size
          have z2 := HBlw6.out.size
          have z3 := HBlw7.out.size
          have z4 := HBlw8.out.size
          have HI := Lib.hid (And.intro (i1.below HBlw6.out |>.below HBlw7.out |>.below HBlw8.out) (And.intro (i2.below HBlw7.out |>.below HBlw8.out) (And.intro (i3.below HBlw8.out) i4)))
          have HLT := Lib.hid (And.intro (show ∀ j, K1.has j → w4.heap.size ≤ j ∧ j < w5.heap.size from fun j hj => ⟨by rw [← l1]; exact i1.lo j hj, i1.lt j hj⟩) (And.intro (show w5.heap.size ≤ r1 ∧ r1 < w6.heap.size from ⟨l2, i2.blt r1 (.inl rfl)⟩) (And.intro (show ∀ j, K2.has j → w6.heap.size ≤ j ∧ j < w7.heap.size from fun j hj => ⟨by rw [← l3]; exact i3.lo j hj, i3.lt j hj⟩) (show w7.heap.size ≤ r2 ∧ r2 < w8.heap.size from ⟨l4, i4.blt r2 (.inl rfl)⟩))))
          have HZ := Lib.hid (And.intro z1 (And.intro z2 (And.intro z3 (And.intro z4 (show W.heap.size ≤ w4.heap.size from HB4.out.size)))))
          clear i1 i2 i3 i4 l1 l2 l3 l4 g1 g3 z1 z2 z3 z4 HCvs HCvt HCvu HCvv
          go_upto_region 11 with fail
          have hb9 : Below w8.heap.size w8 (w8.alloc (.cells #[.int .i64 0, .slice none 0 0, .slice none 0 0] 76)) := (Below.refl _ _).alloc (Nat.le_refl _) _
          have h9 : (w8.alloc (.cells #[.int .i64 0, .slice none 0 0, .slice none 0 0] 76)).heap[w8.heap.size]? = some (.cells #[.int .i64 0, .slice none 0 0, .slice none 0 0] 76 (0, 0)) := _root_.Go.heap_alloc_new _ _
          generalize (w8.alloc (.cells #[.int .i64 0, .slice none 0 0, .slice none 0 0] 76)) = w9 at *
          have HINV : Hid (SpInv W K1 K2 r1 r2 w8.heap.size 0 w9) := Lib.hid ⟨own0 w4.heap.size w5.heap.size w6.heap.size w7.heap.size w8.heap.size, _, _, _,
            Sd.In.new (HI.out.1.below hb9) (HI.out.2.1.below hb9) (fun j hj => own0_1 (HLT.out.1 j hj)) (own0_2 HZ.out.1 HLT.out.2.1),
            Sd.In.new (HI.out.2.2.1.below hb9) (HI.out.2.2.2.below hb9) (fun j hj => own0_3 HZ.out.1 HZ.out.2.1 (HLT.out.2.2.1 j hj)) (own0_4 HZ.out.1 HZ.out.2.1 HZ.out.2.2.1 HLT.out.2.2.2),
            Bk.In.new h9 (own0_5 HZ.out.1 HZ.out.2.1 HZ.out.2.2.1 HZ.out.2.2.2.1 (Nat.le_refl _)), rfl, rfl, rfl, rfl, rfl, fun j hj => own0_0 (Nat.lt_of_lt_of_le hj HZ.out.2.2.2.2), HB8.out.trans (hb9.mono HB8.out.size)⟩
          obtain ⟨bp, hbp⟩ : ∃ bp, w8.heap.size = bp := ⟨_, rfl⟩
          rw [hbp] at HINV ⊢
          clear hb9 h9 hbp
          go_wp2_with fail
          go_loopw [15] (fun v15 wr => ∃ k : Nat, k ≤ n ∧ v15 = .int .i64 k ∧ SpInv W K1 K2 r1 r2 bp k wr) (fun v15 _ => n - (intOf v15).toNat)
          case atStart => exact ⟨0, Nat.zero_le _, rfl, HINV.out⟩
          case round =>
            obtain ⟨k, hk, rfl, hinv⟩ := hrel
            obtain ⟨own, S1, S2, X, h1, h2, h3, e1, e2, e3, e4, e5, ho, hb⟩ := hinv
            have HV := Lib.hid (And.intro h1 (And.intro h2 (And.intro h3 (And.intro ho hb))))
            subst e1 e2 e3 e4 e5
            clear h1 h2 h3 ho hb
            by_cases hkn : (k : Int) < n
            · have hk' : k < n := by omega
              obtain ⟨gb, go, rfl, hgl, hcell⟩ := HL.out.at_ (by omega)
              have hkL : k < L.length := by rw [HL.out.len]; exact hk'
              obtain ⟨f, hf⟩ : ∃ f, L[k]? = some f := ⟨_, List.getElem?_eq_getElem hkL⟩
              have hok := HL.out.ok f (List.mem_of_getElem? hf)
              have hc := fun j v hv => bs_cell HV.out.2.2.2.2 (hcell k f hf j v hv)
              obtain ⟨fk, fa, fb, fc, fd, fe, fg, fl⟩ := f
              have c0 : wr.cell? ⟨gb, go + k * 8, none⟩ = some (.int .i64 fk) := by simpa using hc 0 _ rfl
              have c1 := hc 1 _ rfl
              have c2 := hc 2 _ rfl
              have c3 := hc 3 _ rfl
              have c4 := hc 4 _ rfl
              have c5 := hc 5 _ rfl
              have c6 := hc 6 _ rfl
              have c7 := hc 7 _ rfl
              obtain ⟨w1', w2', w3', w4', w5'⟩ := hok
              have st1 := step_any wr own 1 2 5 k S1 X ⟨HV.out.1, HV.out.2.2.1⟩ (by decide) (by decide) (by decide) (by omega) fk fa fb fc fd fe fg fl w1' w2' w3' w4' w5'
              have st2 := step_any wr own 3 4 5 k S2 X ⟨HV.out.2.1, HV.out.2.2.1⟩ (by decide) (by decide) (by decide) (by omega) fk fa fb fc fd fe fg fl w1' w2' w3' w4' w5'
              clear hc hcell w1' w2' w3' w4' w5' hf hgl
              by_cases h4 : (k : Int) % 4 = 3
              · clear st1
                go_wp2_with fail
                refine st2.mono ?_
                clear st2
                rintro en w' ⟨rfl, ht⟩
                have HT := Lib.hid ht
                clear ht
                go_wp2_with fail
                go_roundw
                case rel => exact ⟨k + 1, by omega, by go_num, SpInv.two HV.out.1 HV.out.2.1 HV.out.2.2.1 rfl rfl rfl rfl rfl HV.out.2.2.2.1 HV.out.2.2.2.2 HT.out⟩
                case measure => simp [intOf]; omega
              · clear st2
                have h4' : ((k : Int) % 4 == 3) = false := by simpa using h4
                go_wp2_with fail
                refine st1.mono ?_
                clear st1
                rintro en w' ⟨rfl, ht⟩
                have HT := Lib.hid ht
                clear ht
                go_wp2_with fail
                go_roundw
                case rel => exact ⟨k + 1, by omega, by go_num, SpInv.one HV.out.1 HV.out.2.1 HV.out.2.2.1 rfl rfl rfl rfl rfl HV.out.2.2.2.1 HV.out.2.2.2.2 HT.out⟩
                case measure => simp [intOf]; omega
            · have hsn := stands_any wr X.B X.bp X.N X.vl X.vw X.vs X.us X.Ls HV.out.2.2.1.inn (by have := HV.out.2.2.1.len; omega)
              go_wp2_with fail
              refine hsn.mono ?_
              clear hsn
              rintro en wa ⟨rfl, ho⟩
              have hbk : ∀ j, BkBlk X.bp X.vl X.vw X.vs X.us j → own j = 5 := HV.out.2.2.1.own_
              have hm : Mv own (fun t => t = 5) wr wa := BkMv.of_only ho (fun v hv j hj => hbk j (.inr (.inr (.inr (.inl ⟨v, hv, hj⟩)))))
              have HA := Lib.hid (And.intro (HV.out.1.keep (own' := own) hm (by decide) (by decide) (fun _ _ => rfl) (Nat.le_refl k)) (HV.out.2.1.keep (own' := own) hm (by decide) (by decide) (fun _ _ => rfl) (Nat.le_refl k)))
              have HBA : Hid (Below W.heap.size W wa) := Lib.hid ⟨hm.os.trans HV.out.2.2.2.2.os, hm.tape.trans HV.out.2.2.2.2.tape, hm.output.trans HV.out.2.2.2.2.output, Nat.le_trans HV.out.2.2.2.2.size hm.size, fun j hj => (hm.block j (Nat.lt_of_lt_of_le hj HV.out.2.2.2.2.size) (by rw [HV.out.2.2.2.1 j hj]; decide)).trans (HV.out.2.2.2.2.block j hj)⟩
              have hs1 := sameState_any wa S1.K S1.s S1.r S1.B _ S1.rs S1.vh S1.vr S1.vs S1.va HA.out.1.ses HA.out.1.ref.inn
              clear ho hm hbk
              go_wp2_with fail
              refine hs1.mono ?_
              clear hs1
              rintro en wb ⟨rfl, hb2⟩
              have HA2 := Lib.hid (And.intro (HA.out.1.below hb2) (HA.out.2.below hb2))
              have HBB := Lib.hid (HBA.out.trans (hb2.mono HBA.out.size))
              have hs2 := sameState_any wb S2.K S2.s S2.r S2.B _ S2.rs S2.vh S2.vr S2.vs S2.va HA2.out.2.ses HA2.out.2.ref.inn
              clear hb2
              go_wp2_with fail
              refine hs2.mono ?_
              clear hs2
              rintro en wc ⟨rfl, hb3⟩
              have HA3 := Lib.hid (HA2.out.1.below hb3)
              have HBC := Lib.hid (HBB.out.trans (hb3.mono HBB.out.size))
              have hs3 := ranges_any wc own 1 2 k S1 HA3.out (by omega)
              clear hb3
              go_wp2_with fail
              refine hs3.mono ?_
              clear hs3
              rintro en wd ⟨rfl, hb4⟩
              have HBD := Lib.hid (HBC.out.trans (hb4.mono HBC.out.size))
              clear hb4
              go_wp2_with fail
              go_ret
              exact ⟨rfl, HBD.out⟩
        · exact absurd g3 g4
      · rcases e4 with ⟨g4, _⟩ | ⟨_, rfl⟩
        · exact absurd g4 g3
        · clear HCvs HCvt HCvu HCvv i1 i2 l1 l2 g1 g3
          go_wp2_with fail
          go_ret
          exact ⟨rfl, HB8.out⟩
    · exact absurd g1 g2
  · rcases e2 with ⟨g2, _⟩ | ⟨_, rfl⟩
    · exact absurd g2 g1
    · rcases e3 with ⟨g3, K2, rfl, l3, i3⟩ | ⟨g3, rfl⟩
      · rcases e4 with ⟨_, r2, rfl, l4, i4⟩ | ⟨g4, _⟩
        · clear HCvs HCvt HCvu HCvv i3 i4 l3 l4 g1 g3
          go_wp2_with fail
          go_ret
          exact ⟨rfl, HB8.out⟩
        · exact absurd g3 g4
      · rcases e4 with ⟨g4, _⟩ | ⟨_, rfl⟩
        · exact absurd g4 g3
        · clear HCvs HCvt HCvu HCvv g1 g3
          go_wp2_with fail
          go_ret
          exact ⟨rfl, HB8.out⟩
end Go.Proofs.Ytbkimebmoafbnaa

namespace Go.Proofs.Ytbkimebmoafbnaa
theorem bulk_pos {H : Type} (d : DataW H) : 1 ≤ Rows.uptoBulk d := by
  cases d with
  | lit l => cases l <;> simp [Rows.uptoBulk]
  | nil => simp [Rows.uptoBulk]
  | ptr d => simp [Rows.uptoBulk]
  | slice elems spare => simp [Rows.uptoBulk]
  | agg parts => simp [Rows.uptoBulk]
  | iface t d => simp [Rows.uptoBulk]
  | map entries => simp [Rows.uptoBulk]
  | held h => simp [Rows.uptoBulk]
theorem bulk_length {H : Type} (l : List (DataW H)) : l.length ≤ Rows.uptoBulkAll l := by
  induction l with
  | nil => simp [Rows.uptoBulkAll]
  | cons x r ih => have := bulk_pos x; simp only [Rows.uptoBulkAll, List.length_cons]; omega
theorem bulk_slice {H : Type} {d : DataW H} {n c : Nat} (h : (n = 0 ∧ d = .nil) ∨ ∃ es sp : List (DataW H), d = .slice es sp ∧ es.length = n ∧ sp.length = c - n) : n ≤ Rows.uptoBulk d := by
  rcases h with ⟨rfl, rfl⟩ | ⟨es, sp, rfl, rfl, _⟩
  · exact Nat.zero_le _
  · have := bulk_length es; simp only [Rows.uptoBulk]; omega
theorem bulk_bound {H : Type} {l : List (DataW H)} (hk : Rows.uptoSmall H l = true) : Rows.uptoBulkAll l ≤ 1048576 := of_decide_eq_true hk
end Go.Proofs.Ytbkimebmoafbnaa
