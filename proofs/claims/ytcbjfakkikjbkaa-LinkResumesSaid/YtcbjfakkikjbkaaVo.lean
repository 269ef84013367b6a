/-
  Values that came in lie in memory. Plain lemmas over the form's readings. No conditions.
-/
import Derived.Test.YtcbjfakkikjbkaaVm
import Derived.Test.YtcbjfakkikjbkaaRows
import Derived.ProofKit
import Derived.OpenShut
import Derived.ChangeArms
import Derived.Deep.Slices
namespace Go.Proofs.Ytcbjfakkikjbkaa
open Go.RowKit Go.ChangeShapes Go.WideShapes Go.ChangeAt Go.Deep
set_option linter.all false

theorem vlist5v {l : List Value} (h : l.length = 5) : ∃ a b c d e, l = [a, b, c, d, e] := by
  match l, h with
  | [a, b, c, d, e], _ => exact ⟨a, b, c, d, e, rfl⟩
theorem wf_i64V {n : Int} (h : (Lit.int .i64 n).wf = true) : IsI64 n := by
  obtain ⟨h1, h2⟩ := bd_i64 h
  exact ⟨h1, by omega⟩
theorem wf_u64V {n : Int} (h : (Lit.int .u64 n).wf = true) : IsU64 n := by
  obtain ⟨m, rfl, hm⟩ := bd_u64 h
  exact ⟨by omega, by omega⟩
theorem choose_ltV {α : Type} (d : α) {n : Nat} {p : Nat → α → Prop} (h : ∀ i, i < n → ∃ x, p i x) : ∃ F : Nat → α, ∀ i, i < n → p i (F i) := by
  refine ⟨fun i => if hi : i < n then (h i hi).choose else d, fun i hi => ?_⟩
  simp only [dif_pos hi]
  exact (h i hi).choose_spec

section
variable {H : Type} {enc : TypeId × Value → H} {w : World}

/-- the parts of a list that came in -/
theorem parts_openV {fuel : Nat} {v : Value} {x : DataW H × List MemPlace} (h : DataW.trod enc Try.prog w 0 (fun _ => true) true fuel 26 [v] = some x)
    (ih : ∀ n, n < fuel → ∀ cs x, DataW.trod enc Try.prog w 0 (fun _ => true) true n 28 cs = some x → ∃ v s, cs = vcells v s ∧ VIn w v s) :
    ∃ (p : Option Addr) (n c : Nat) (l : List V) (ss : Nat → Value), v = .slice p n c ∧ l.length = n ∧ n ≤ c ∧ c ≤ maxLen ∧ (0 < n → ∃ b o, p = some ⟨b, o, none⟩) ∧ (∀ b o, p = some ⟨b, o, none⟩ → ∀ i (hi : i < l.length), w.rangeAt b (o + i * 5) (vcells l[i] (ss i))) ∧ ∀ i (hi : i < l.length), VIn w l[i] (ss i) := by
  rcases DataW.trod_slice Try.underlying26 h with ⟨e, _⟩ | ⟨a, len, cap, elems, rest, n, rfl, hcs, _, _, hl, hm, hlen, hel, _, _⟩
  · simp only [List.cons.injEq, and_true] at e
    subst e
    exact ⟨none, 0, 0, [], fun _ => undef, rfl, rfl, Nat.le_refl _, Nat.zero_le _, fun q => by omega, (fun b o e => by cases e), fun i hi => by simp at hi⟩
  · simp only [List.cons.injEq, and_true] at hcs
    subst hcs
    have hc5 : Try.prog.cellsOf 28 = 5 := by kernel_rfl
    rw [hc5] at hel
    obtain ⟨F, hF⟩ := choose_ltV (α := V × Value) (default, undef) (n := len) (p := fun i f => w.cells? 0 (a.add (i * 5)) 5 = some (vcells f.1 f.2) ∧ VIn w f.1 f.2) (fun i hi => by
      have hb := hel i hi
      rw [List.getElem?_eq_getElem (by omega)] at hb
      obtain ⟨cs', h1, h2⟩ := Option.bind_eq_some_iff.1 hb
      obtain ⟨v, s, rfl, h3⟩ := ih n (Nat.lt_succ_self n) cs' _ h2
      exact ⟨(v, s), h1, h3⟩)
    have hadd : ∀ (b o' i : Nat), (⟨b, o', none⟩ : Addr).add i = ⟨b, o' + i, none⟩ := fun b o' i => by unfold Addr.add; split <;> simp_all
    refine ⟨some a, len, cap, (List.range len).map fun i => (F i).1, fun i => (F i).2, rfl, by simp, hl, hm, fun hpos => ?_, fun b o e i hi j u hu => ?_, fun i hi => ?_⟩
    · obtain ⟨b, o, spot⟩ := a
      obtain ⟨h1, _⟩ := hF 0 hpos
      obtain ⟨_, _, h0c⟩ := World.cells?_some h1
      have h00 := h0c 0 (by omega)
      have hspot : spot = none := by simpa [Addr.add] using World.cell?_spot (h00.trans rfl)
      subst hspot
      exact ⟨b, o, rfl⟩
    · simp only [Option.some.injEq] at e
      subst e
      have hil : i < len := by simpa using hi
      obtain ⟨h1, _⟩ := hF i hil
      obtain ⟨_, _, h1c⟩ := World.cells?_some h1
      have hj : j < 5 := (List.getElem?_eq_some_iff.1 hu).1
      have := h1c j hj
      rw [hadd, hadd] at this
      rw [this, ← hu]
      simp
    · have hil : i < len := by simpa using hi
      have := (hF i hil).2
      simpa using this

theorem val_open : ∀ (fuel : Nat) (cs : List Value) (x : DataW H × List MemPlace), DataW.trod enc Try.prog w 0 (fun _ => true) true fuel 28 cs = some x → ∃ v s, cs = vcells v s ∧ VIn w v s := by
  intro fuel
  induction fuel using Nat.strongRecOn with
  | ind fuel ih =>
    intro cs x h
    obtain ⟨xs, n, rfl, rfl, hl, hlen, hf⟩ := DataW.trod_struct Try.underlying28 h
    have hc5 : Try.prog.cellsOf 28 = 5 := by kernel_rfl
    rw [hc5] at hl
    obtain ⟨v0, v1, v2, v3, v4, rfl⟩ := vlist5v hl
    have ci : Try.prog.cellsOf 3 = 1 := by kernel_rfl
    have cn : Try.prog.cellsOf 25 = 1 := by kernel_rfl
    have cs' : Try.prog.cellsOf 9 = 1 := by kernel_rfl
    have cl : Try.prog.cellsOf 26 = 1 := by kernel_rfl
    match xs, hlen with
    | [y0, y1, y2, y3, y4], _ =>
      have h0 : DataW.trod enc Try.prog w 0 (fun _ => true) true n 3 [v0] = some y0 := by simpa [ci] using hf 0 _ rfl
      have h1 : DataW.trod enc Try.prog w 0 (fun _ => true) true n 25 [v1] = some y1 := by simpa [cn] using hf 1 _ rfl
      have h2 : DataW.trod enc Try.prog w 0 (fun _ => true) true n 9 [v2] = some y2 := by simpa [cs'] using hf 2 _ rfl
      have h3 : DataW.trod enc Try.prog w 0 (fun _ => true) true n 26 [v3] = some y3 := by simpa [cl] using hf 3 _ rfl
      have h4 : DataW.trod enc Try.prog w 0 (fun _ => true) true n 3 [v4] = some y4 := by simpa [ci] using hf 4 _ rfl
      obtain ⟨k, e0, _, w0⟩ := DataW.trod_int Try.underlying3 h0
      obtain ⟨m, e1, _, w1⟩ := DataW.trod_int Try.underlying25 h1
      obtain ⟨t, e2, _, w2⟩ := DataW.trod_string Try.underlying9 h2
      obtain ⟨p, n3, c3, l, ss, e3, hll, q1, q2, q3, q4, q5⟩ := parts_openV h3 (fun m hm => ih m (by omega))
      obtain ⟨e, e4, _, w4⟩ := DataW.trod_int Try.underlying3 h4
      simp only [List.cons.injEq, and_true] at e0 e1 e2 e4
      subst e0 e1 e2 e3 e4
      subst hll
      exact ⟨.mk k m t l e, _, rfl, .mk (.mk k m t l e) p c3 ss ⟨wf_i64V w0, wf_u64V w1, w2, wf_i64V w4⟩ q1 q2 q3 q4 q5⟩

theorem vals_open {fuel : Nat} {v : Value} {x : DataW H × List MemPlace} (h : DataW.trod enc Try.prog w 0 (fun _ => true) true fuel 26 [v] = some x) : ∃ L, VIn w (V.mk 0 0 ByteArray.empty L 0) v := by
  obtain ⟨p, n, c, l, ss, rfl, hll, q1, q2, q3, q4, q5⟩ := parts_openV h (fun m _ => val_open m)
  subst hll
  exact ⟨l, .mk (V.mk 0 0 ByteArray.empty l 0) p c ss ⟨⟨by show (-9223372036854775808 : Int) ≤ 0; omega, by show (0 : Int) ≤ 9223372036854775807; omega⟩, ⟨by show (0 : Int) ≤ 0; omega, by show (0 : Int) ≤ 18446744073709551615; omega⟩, Nat.zero_le _, ⟨by show (-9223372036854775808 : Int) ≤ 0; omega, by show (0 : Int) ≤ 9223372036854775807; omega⟩⟩ q1 q2 q3 q4 q5⟩
end
end Go.Proofs.Ytcbjfakkikjbkaa
