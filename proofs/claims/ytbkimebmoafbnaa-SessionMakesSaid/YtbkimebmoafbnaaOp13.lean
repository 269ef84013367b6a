/-
  A step that came in: its cells. Plain lemmas over the form's readings. No conditions.
-/
import Derived.Test.YtbkimebmoafbnaaRows
import Derived.ProofKit
import Derived.OpenShut
import Derived.ChangeArms
namespace Go.Proofs.Ytbkimebmoafbnaa
open Go.RowKit Go.ChangeShapes Go.WideShapes Go.ChangeAt
set_option linter.unusedVariables false

theorem vlist8 {l : List Value} (h : l.length = 8) : ∃ a b c d e f g i, l = [a, b, c, d, e, f, g, i] := by
  match l, h with
  | [a, b, c, d, e, f, g, i], _ => exact ⟨a, b, c, d, e, f, g, i, rfl⟩

theorem op13_open {H : Type} {enc : TypeId × Value → H} {w : World} {fuel : Nat} {x : DataW H × List MemPlace} {cs : List Value} (h : DataW.trod enc Try.prog w 0 (fun _ => true) true fuel 24 cs = some x) :
    ∃ (k a b c d e : Int) (tag : ByteArray) (flag : Bool), cs = [.int .i64 k, .int .i64 a, .int .i64 b, .int .i64 c, .int .i64 d, .int .i64 e, .string tag, .bool flag] ∧ (Lit.int .i64 a).wf = true ∧ (Lit.int .i64 b).wf = true ∧ (Lit.int .i64 c).wf = true ∧ (Lit.int .i64 d).wf = true ∧ (Lit.int .i64 e).wf = true := by
  obtain ⟨xs, n, _, rfl, hl, hlen, hf⟩ := DataW.trod_struct Try.underlying24 h
  have hc8 : Try.prog.cellsOf 24 = 8 := by kernel_rfl
  rw [hc8] at hl
  obtain ⟨v0, v1, v2, v3, v4, v5, v6, v7, rfl⟩ := vlist8 hl
  have ci : Try.prog.cellsOf 3 = 1 := by kernel_rfl
  have cs : Try.prog.cellsOf 9 = 1 := by kernel_rfl
  have cb : Try.prog.cellsOf 4 = 1 := by kernel_rfl
  match xs, hlen with
  | [y0, y1, y2, y3, y4, y5, y6, y7], _ =>
    have h0 : DataW.trod enc Try.prog w 0 (fun _ => true) true n 3 [v0] = some y0 := by simpa [ci] using hf 0 _ rfl
    have h1 : DataW.trod enc Try.prog w 0 (fun _ => true) true n 3 [v1] = some y1 := by simpa [ci] using hf 1 _ rfl
    have h2 : DataW.trod enc Try.prog w 0 (fun _ => true) true n 3 [v2] = some y2 := by simpa [ci] using hf 2 _ rfl
    have h3 : DataW.trod enc Try.prog w 0 (fun _ => true) true n 3 [v3] = some y3 := by simpa [ci] using hf 3 _ rfl
    have h4 : DataW.trod enc Try.prog w 0 (fun _ => true) true n 3 [v4] = some y4 := by simpa [ci] using hf 4 _ rfl
    have h5 : DataW.trod enc Try.prog w 0 (fun _ => true) true n 3 [v5] = some y5 := by simpa [ci] using hf 5 _ rfl
    have h6 : DataW.trod enc Try.prog w 0 (fun _ => true) true n 9 [v6] = some y6 := by simpa [cs] using hf 6 _ rfl
    have h7 : DataW.trod enc Try.prog w 0 (fun _ => true) true n 4 [v7] = some y7 := by simpa [cb] using hf 7 _ rfl
    obtain ⟨k, e0, _, w0⟩ := DataW.trod_int Try.underlying3 h0
    obtain ⟨a, e1, _, w1⟩ := DataW.trod_int Try.underlying3 h1
    obtain ⟨b, e2, _, w2⟩ := DataW.trod_int Try.underlying3 h2
    obtain ⟨c, e3, _, w3⟩ := DataW.trod_int Try.underlying3 h3
    obtain ⟨d, e4, _, w4⟩ := DataW.trod_int Try.underlying3 h4
    obtain ⟨e, e5, _, w5⟩ := DataW.trod_int Try.underlying3 h5
    obtain ⟨tag, e6, _⟩ := DataW.trod_string Try.underlying9 h6
    obtain ⟨flag, e7, _⟩ := DataW.trod_bool Try.underlying4 h7
    simp only [List.cons.injEq, and_true] at e0 e1 e2 e3 e4 e5 e6 e7
    subst e0 e1 e2 e3 e4 e5 e6 e7
    exact ⟨k, a, b, c, d, e, tag, flag, rfl, w1, w2, w3, w4, w5⟩
end Go.Proofs.Ytbkimebmoafbnaa
