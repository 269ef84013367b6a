/-
  A frame, a list of frames that came in: what lies in memory. Plain lemmas over the form's readings. No conditions.
-/
import Derived.Test.YtofdpccjpodbhaaFbM
import Derived.Test.YtofdpccjpodbhaaBulk
import Derived.Deep.Slices
import Derived.Lib.SmallJoins
namespace Go.Proofs.Ytofdpccjpodbhaa
open Go.RowKit Go.ChangeShapes Go.WideShapes Go.ChangeAt Go.Deep
set_option linter.unusedVariables false

theorem vlist4 {l : List Value} (h : l.length = 4) : ∃ a b c d, l = [a, b, c, d] := by
  match l, h with
  | [a, b, c, d], _ => exact ⟨a, b, c, d, rfl⟩
theorem bulk_mem {H : Type} {l : List (DataW H)} {d : DataW H} (h : d ∈ l) : Rows.uptoBulk d ≤ Rows.uptoBulkAll l := by
  induction l with
  | nil => cases h
  | cons x r ih =>
    simp only [Rows.uptoBulkAll]
    rcases List.mem_cons.1 h with rfl | h
    · omega
    · have := ih h; omega

section
variable {H : Type} {enc : TypeId × Value → H} {w : World} {fuel : Nat} {x : DataW H × List MemPlace} {a : Option Addr} {n c : Nat}

theorem slice_value1 {P : Program} {e u : TypeId} {v : Value} {y : DataW H × List MemPlace} (ht : P.underlying e = some (.slice u)) (h : DataW.trod enc P w 0 (fun _ => true) true fuel e [v] = some y) : ∃ a n c, v = .slice a n c := by
  rcases open_slice ht h with ⟨hcs, _⟩ | ⟨ad, len, cap, m, k, D, Pl, hcs, _⟩
  · simp only [List.cons.injEq, and_true] at hcs
    exact ⟨_, _, _, hcs⟩
  · simp only [List.cons.injEq, and_true] at hcs
    exact ⟨_, _, _, hcs⟩

theorem frame_open {cs : List Value} (h : DataW.trod enc Try.prog w 0 (fun _ => true) true fuel 24 cs = some x) :
    ∃ f : FrIn, cs = f.cells ∧ BytesIn w f.ea f.ne f.ce f.ext ∧ BytesIn w f.ba f.nb f.cb f.body ∧ f.ne ≤ Rows.uptoBulk x.1 ∧ f.nb ≤ Rows.uptoBulk x.1 ∧ ((Lit.int .i64 f.T).wf = true ∧ (Lit.int .i64 f.C).wf = true) := by
  obtain ⟨y0, y1, y2, y3, n, rfl, hl, h0, h1, h2, h3⟩ := Go.Joins.trod_struct4 Try.underlying24 h
  have hc4 : Try.prog.cellsOf 24 = 4 := by kernel_rfl
  rw [hc4] at hl
  obtain ⟨v0, v1, v2, v3, rfl⟩ := vlist4 hl
  have ci : Try.prog.cellsOf 3 = 1 := by kernel_rfl
  have cb : Try.prog.cellsOf 22 = 1 := by kernel_rfl
  have cu : Try.prog.cellsOf 5 = 1 := by kernel_rfl
  simp only [ci, cb] at h0 h1 h2 h3
  obtain ⟨T, e0, _, w0⟩ := DataW.trod_int Try.underlying3 h0
  obtain ⟨C, e1, _, w1⟩ := DataW.trod_int Try.underlying3 h1
  have h2' : DataW.trod enc Try.prog w 0 (fun _ => true) true n 22 [v2] = some y2 := h2
  have h3' : DataW.trod enc Try.prog w 0 (fun _ => true) true n 22 [v3] = some y3 := h3
  obtain ⟨ea, ne, ce, rfl⟩ := slice_value1 Try.underlying22 h2'
  obtain ⟨ba, nb, cbb, rfl⟩ := slice_value1 Try.underlying22 h3'
  obtain ⟨l2, i2, b2⟩ := ints_open Try.underlying22 Try.underlying5 cu h2'
  obtain ⟨l3, i3, b3⟩ := ints_open Try.underlying22 Try.underlying5 cu h3'
  have e0' : v0 = .int .i64 T := by simpa using e0
  have e1' : v1 = .int .i64 C := by simpa using e1
  subst e0' e1'
  refine ⟨⟨T, C, ea, ne, ce, _, ba, nb, cbb, _⟩, rfl, bytes_of_ints i2, bytes_of_ints i3, ?_, ?_, w0, w1⟩
  · have := bulk_slice b2
    simp only [Rows.uptoBulk, Rows.uptoBulkAll]
    omega
  · have := bulk_slice b3
    simp only [Rows.uptoBulk, Rows.uptoBulkAll]
    omega

theorem choose_lt' {α : Type} [Inhabited α] {n : Nat} {p : Nat → α → Prop} (h : ∀ i, i < n → ∃ x, p i x) : ∃ F : Nat → α, ∀ i, i < n → p i (F i) := by
  refine ⟨fun i => if hi : i < n then (h i hi).choose else default, fun i hi => ?_⟩
  simp only [dif_pos hi]
  exact (h i hi).choose_spec

instance : Inhabited FrIn := ⟨⟨0, 0, none, 0, 0, [], none, 0, 0, []⟩⟩

theorem frames_open (h : DataW.trod enc Try.prog w 0 (fun _ => true) true fuel 27 [.slice a n c] = some x) :
    ∃ L, (Rows.uptoBulk x.1 ≤ 1048576 → FramesIn w a n c L) ∧ ((n = 0 ∧ x.1 = .nil) ∨ ∃ es sp : List (DataW H), x.1 = .slice es sp ∧ es.length = n ∧ sp.length = c - n) := by
  rcases open_slice Try.underlying27 h with ⟨hcs, hx⟩ | ⟨ad, len, cap, m, k, D, Pl, hcs, _, hl, hm, hmm, hx, hcell⟩
  · simp only [List.cons.injEq, Value.slice.injEq, and_true] at hcs
    obtain ⟨rfl, rfl, rfl⟩ := hcs
    exact ⟨[], fun _ => ⟨rfl, Nat.le_refl _, Nat.zero_le _, fun h => absurd h (by omega), fun f hf => by simp at hf⟩, .inl ⟨rfl, by rw [hx]⟩⟩
  · simp only [List.cons.injEq, Value.slice.injEq, and_true] at hcs
    obtain ⟨rfl, rfl, rfl⟩ := hcs
    simp only [if_true] at hmm
    subst hmm
    have hc4 : Try.prog.cellsOf 24 = 4 := by kernel_rfl
    rw [hc4] at hcell
    obtain ⟨F, hF⟩ := choose_lt' (α := FrIn) (n := n) (p := fun i f => w.cells? 0 (ad.add (i * 4)) 4 = some f.cells ∧ BytesIn w f.ea f.ne f.ce f.ext ∧ BytesIn w f.ba f.nb f.cb f.body ∧ f.ne ≤ Rows.uptoBulk (D i) ∧ f.nb ≤ Rows.uptoBulk (D i)) (fun i hi => by
      obtain ⟨cs', h1, h2⟩ := hcell i (by omega)
      obtain ⟨f, rfl, x1, x2, x3, x4, _⟩ := frame_open h2
      exact ⟨f, h1, x1, x2, x3, x4⟩)
    refine ⟨(List.range n).map F, fun hb => ⟨by simp, hl, hm, fun hpos => ?_, fun f hf => ?_⟩, .inr ⟨(List.range n).map D, _, by rw [hx], by simp, by simp⟩⟩
    · obtain ⟨b, o, spot⟩ := ad
      obtain ⟨cs0, h0, _⟩ := hcell 0 (by omega)
      obtain ⟨_, hl0, h0c⟩ := World.cells?_some h0
      have h00 := h0c 0 (by omega)
      have hcs0 : ∃ v, cs0[0]? = some v := ⟨_, List.getElem?_eq_getElem (by omega)⟩
      obtain ⟨v0, hv0⟩ := hcs0
      rw [hv0] at h00
      have hspot : spot = none := by simpa [Addr.add] using World.cell?_spot h00
      subst hspot
      have hadd : ∀ (o' i : Nat), (⟨b, o', none⟩ : Addr).add i = ⟨b, o' + i, none⟩ := fun o' i => by unfold Addr.add; split <;> simp_all
      refine ⟨b, o, rfl, ?_, fun i f hf k v hv => ?_⟩
      · have := World.block_lt_of_cell? w _ h00
        rwa [hadd, hadd] at this
      · have hi : i < n := by
          have := (List.getElem?_eq_some_iff.1 hf).1
          simpa using this
        have hfi : f = F i := by
          rw [List.getElem?_map, List.getElem?_range hi] at hf
          simpa using hf.symm
        subst hfi
        obtain ⟨h1, _⟩ := hF i hi
        obtain ⟨_, _, h1c⟩ := World.cells?_some h1
        have hk : k < 4 := (List.getElem?_eq_some_iff.1 hv).1
        have := h1c k hk
        rw [hadd, hadd] at this
        rw [this, hv]
    · obtain ⟨i, hi, rfl⟩ := List.mem_map.1 hf
      rw [List.mem_range] at hi
      obtain ⟨_, x1, x2, x3, x4⟩ := hF i hi
      have hbi : Rows.uptoBulk (D i) ≤ 1048576 := by
        rw [hx] at hb
        simp only [Rows.uptoBulk] at hb
        have := bulk_mem (H := H) (l := (List.range n).map D) (d := D i) (List.mem_map.2 ⟨i, List.mem_range.2 hi, rfl⟩)
        omega
      exact ⟨x1, x2, by omega, by omega⟩
end
end Go.Proofs.Ytofdpccjpodbhaa
