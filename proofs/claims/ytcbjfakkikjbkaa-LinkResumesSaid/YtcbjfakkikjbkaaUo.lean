/-
  Unsettled deliveries that came in lie in memory. Plain lemmas over the form's readings. No conditions.
-/
import Derived.Test.YtcbjfakkikjbkaaVo
import Derived.Test.YtcbjfakkikjbkaaKa
import Derived.Deep.Strs
namespace Go.Proofs.Ytcbjfakkikjbkaa
open Go.RowKit Go.ChangeShapes Go.WideShapes Go.ChangeAt Go.Deep
set_option linter.all false

/-- an unsettled delivery: its tag, its state -/
structure Un where
  tag : ByteArray
  st : St
instance : Inhabited Un := ⟨⟨⟨#[]⟩, zS⟩⟩
def ucells (u : Un) (t : Sl) : List Value := .string u.tag :: scells u.st t
structure UIn (w : World) (u : Un) (t : Sl) : Prop where
  tag : u.tag.size ≤ maxLen
  st : SIn w u.st t
theorem vlist19 {l : List Value} (h : l.length = 19) : ∃ a b c d e f g i j k m n o p q r s t u, l = [a, b, c, d, e, f, g, i, j, k, m, n, o, p, q, r, s, t, u] := by
  match l, h with
  | [a, b, c, d, e, f, g, i, j, k, m, n, o, p, q, r, s, t, u], _ => exact ⟨a, b, c, d, e, f, g, i, j, k, m, n, o, p, q, r, s, t, u, rfl⟩
theorem vlist7 {l : List Value} (h : l.length = 7) : ∃ a b c d e f g, l = [a, b, c, d, e, f, g] := by
  match l, h with
  | [a, b, c, d, e, f, g], _ => exact ⟨a, b, c, d, e, f, g, rfl⟩
theorem vlist20 {l : List Value} (h : l.length = 20) : ∃ a r, l = a :: r ∧ r.length = 19 := by
  match l, h with
  | a :: r, h => exact ⟨a, r, rfl, by simpa using h⟩

section
variable {H : Type} {enc : TypeId × Value → H} {w : World}
theorem fault_open {fuel : Nat} {cs : List Value} {x : DataW H × List MemPlace} (h : DataW.trod enc Try.prog w 0 (fun _ => true) true fuel 30 cs = some x) : ∃ (c t : ByteArray) (v : V) (s : Value), cs = .string c :: .string t :: vcells v s ∧ VIn w v s ∧ c.size ≤ maxLen ∧ t.size ≤ maxLen := by
  obtain ⟨xs, n, rfl, rfl, hl, hlen, hf⟩ := DataW.trod_struct Try.underlying30 h
  have hc7 : Try.prog.cellsOf 30 = 7 := by kernel_rfl
  rw [hc7] at hl
  obtain ⟨v0, v1, v2, v3, v4, v5, v6, rfl⟩ := vlist7 hl
  have cs' : Try.prog.cellsOf 9 = 1 := by kernel_rfl
  have cv : Try.prog.cellsOf 28 = 5 := by kernel_rfl
  match xs, hlen with
  | [y0, y1, y2], _ =>
    have h0 : DataW.trod enc Try.prog w 0 (fun _ => true) true n 9 [v0] = some y0 := by simpa [cs'] using hf 0 _ rfl
    have h1 : DataW.trod enc Try.prog w 0 (fun _ => true) true n 9 [v1] = some y1 := by simpa [cs'] using hf 1 _ rfl
    have h2 : DataW.trod enc Try.prog w 0 (fun _ => true) true n 28 [v2, v3, v4, v5, v6] = some y2 := by simpa [cv] using hf 2 _ rfl
    obtain ⟨a, e0, _, w0⟩ := DataW.trod_string Try.underlying9 h0
    obtain ⟨b, e1, _, w1⟩ := DataW.trod_string Try.underlying9 h1
    obtain ⟨v, s, e2, hv⟩ := val_open _ _ _ h2
    simp only [List.cons.injEq, and_true] at e0 e1
    subst e0 e1
    exact ⟨a, b, v, s, by rw [e2], hv, w0, w1⟩

/-- the states of a list that came in -/
theorem parts_openS {fuel : Nat} {v : Value} {x : DataW H × List MemPlace} (h : DataW.trod enc Try.prog w 0 (fun _ => true) true fuel 31 [v] = some x)
    (ih : ∀ n, n < fuel → ∀ cs x, DataW.trod enc Try.prog w 0 (fun _ => true) true n 33 cs = some x → ∃ v s, cs = scells v s ∧ SIn w v s) :
    ∃ (p : Option Addr) (n c : Nat) (l : List St) (ss : Nat → Sl), v = .slice p n c ∧ l.length = n ∧ n ≤ c ∧ c ≤ maxLen ∧ (0 < n → ∃ b o, p = some ⟨b, o, none⟩) ∧ (∀ b o, p = some ⟨b, o, none⟩ → ∀ i (hi : i < l.length), w.rangeAt b (o + i * 19) (scells l[i] (ss i))) ∧ ∀ i (hi : i < l.length), SIn w l[i] (ss i) := by
  rcases DataW.trod_slice Try.underlying31 h with ⟨e, _⟩ | ⟨a, len, cap, elems, rest, n, rfl, hcs, _, _, hl, hm, hlen, hel, _, _⟩
  · simp only [List.cons.injEq, and_true] at e
    subst e
    exact ⟨none, 0, 0, [], fun _ => default, rfl, rfl, Nat.le_refl _, Nat.zero_le _, fun q => by omega, (fun b o e => by cases e), fun i hi => by simp at hi⟩
  · simp only [List.cons.injEq, and_true] at hcs
    subst hcs
    have hcN : Try.prog.cellsOf 33 = 19 := by kernel_rfl
    rw [hcN] at hel
    obtain ⟨F, hF⟩ := choose_ltV (α := St × Sl) (default, default) (n := len) (p := fun i f => w.cells? 0 (a.add (i * 19)) 19 = some (scells f.1 f.2) ∧ SIn w f.1 f.2) (fun i hi => by
      have hb := hel i hi
      rw [List.getElem?_eq_getElem (by omega)] at hb
      obtain ⟨cs', h1, h2⟩ := Option.bind_eq_some_iff.1 hb
      obtain ⟨v, s, rfl, h3⟩ := ih n (Nat.lt_succ_self n) cs' _ h2
      exact ⟨(v, s), h1, h3⟩)
    have hadd : ∀ (b o' i : Nat), (⟨b, o', none⟩ : Addr).add i = ⟨b, o' + i, none⟩ := fun b o' i => by unfold Addr.add; split <;> simp_all
    refine ⟨some a, len, cap, (List.range len).map fun i => (F i).1, fun i => (F i).2, rfl, by simp, hl, hm, fun hpos => ?_, fun b o e i hi j u hu => ?_, fun i hi => ?_⟩
    · obtain ⟨b, o, spot⟩ := a
      obtain ⟨h1, _⟩ := hF 0 hpos
      obtain ⟨_, _, h0c⟩ := World.cells?_some h1
      have h00 := h0c 0 (by omega)
      have hspot : spot = none := by simpa [Addr.add] using World.cell?_spot (h00.trans rfl)
      subst hspot
      exact ⟨b, o, rfl⟩
    · simp only [Option.some.injEq] at e
      subst e
      have hil : i < len := by simpa using hi
      obtain ⟨h1, _⟩ := hF i hil
      obtain ⟨_, _, h1c⟩ := World.cells?_some h1
      have hj : j < 19 := (List.getElem?_eq_some_iff.1 hu).1
      have := h1c j hj
      rw [hadd, hadd] at this
      rw [this, ← hu]
      simp
    · have hil : i < len := by simpa using hi
      have := (hF i hil).2
      simpa using this


theorem state_open : ∀ (fuel : Nat) (cs : List Value) (x : DataW H × List MemPlace), DataW.trod enc Try.prog w 0 (fun _ => true) true fuel 33 cs = some x → ∃ v s, cs = scells v s ∧ SIn w v s := by
  intro fuel
  induction fuel using Nat.strongRecOn with
  | ind fuel ih =>
    intro cs x h
    obtain ⟨xs, n, rfl, rfl, hl, hlen, hf⟩ := DataW.trod_struct Try.underlying33 h
    have hcN : Try.prog.cellsOf 33 = 19 := by kernel_rfl
    rw [hcN] at hl
    obtain ⟨v0, v1, v2, v3, v4, v5, v6, v7, v8, v9, v10, v11, v12, v13, v14, v15, v16, v17, v18, rfl⟩ := vlist19 hl
    have ci : Try.prog.cellsOf 3 = 1 := by kernel_rfl
    have cf : Try.prog.cellsOf 30 = 7 := by kernel_rfl
    have cb : Try.prog.cellsOf 4 = 1 := by kernel_rfl
    have cv : Try.prog.cellsOf 28 = 5 := by kernel_rfl
    have cs' : Try.prog.cellsOf 9 = 1 := by kernel_rfl
    have cl : Try.prog.cellsOf 31 = 1 := by kernel_rfl
    match xs, hlen with
    | [y0, y1, y2, y3, y4, y5, y6, y7, y8], _ =>
      have h0 : DataW.trod enc Try.prog w 0 (fun _ => true) true n 3 [v0] = some y0 := by simpa [ci] using hf 0 _ rfl
      have h1 : DataW.trod enc Try.prog w 0 (fun _ => true) true n 3 [v1] = some y1 := by simpa [ci] using hf 1 _ rfl
      have h2 : DataW.trod enc Try.prog w 0 (fun _ => true) true n 3 [v2] = some y2 := by simpa [ci] using hf 2 _ rfl
      have h3 : DataW.trod enc Try.prog w 0 (fun _ => true) true n 30 [v3, v4, v5, v6, v7, v8, v9] = some y3 := by simpa [cf] using hf 3 _ rfl
      have h4 : DataW.trod enc Try.prog w 0 (fun _ => true) true n 4 [v10] = some y4 := by simpa [cb] using hf 4 _ rfl
      have h5 : DataW.trod enc Try.prog w 0 (fun _ => true) true n 4 [v11] = some y5 := by simpa [cb] using hf 5 _ rfl
      have h6 : DataW.trod enc Try.prog w 0 (fun _ => true) true n 28 [v12, v13, v14, v15, v16] = some y6 := by simpa [cv] using hf 6 _ rfl
      have h7 : DataW.trod enc Try.prog w 0 (fun _ => true) true n 9 [v17] = some y7 := by simpa [cs'] using hf 7 _ rfl
      have h8 : DataW.trod enc Try.prog w 0 (fun _ => true) true n 31 [v18] = some y8 := by simpa [cl] using hf 8 _ rfl
      obtain ⟨k, e0, _, w0⟩ := DataW.trod_int Try.underlying3 h0
      obtain ⟨e, e1, _, w1⟩ := DataW.trod_int Try.underlying3 h1
      obtain ⟨o, e2, _, w2⟩ := DataW.trod_int Try.underlying3 h2
      obtain ⟨co, te, vi, si, e3, hvi, wc, wt⟩ := fault_open h3
      obtain ⟨b1, e4, _⟩ := DataW.trod_bool Try.underlying4 h4
      obtain ⟨b2, e5, _⟩ := DataW.trod_bool Try.underlying4 h5
      obtain ⟨va, sa, e6, hva⟩ := val_open _ _ _ h6
      obtain ⟨tx, e7, _, w7⟩ := DataW.trod_string Try.underlying9 h7
      obtain ⟨p, n8, c8, l, ss, e8, hll, q1, q2, q3, q4, q5⟩ := parts_openS h8 (fun m hm => ih m (by omega))
      simp only [List.cons.injEq, and_true] at e0 e1 e2 e4 e5 e7
      simp only [vcells, List.cons.injEq, and_true] at e3 e6
      obtain ⟨rfl, rfl, rfl, rfl, rfl, rfl, rfl⟩ := e3
      obtain ⟨rfl, rfl, rfl, rfl, rfl⟩ := e6
      subst e0 e1 e2 e4 e5 e7 e8
      subst hll
      exact ⟨.mk k e o co te vi b1 b2 va tx l, ⟨v8, v15, _⟩, rfl, .mk (.mk k e o co te vi b1 b2 va tx l) ⟨v8, v15, _⟩ p c8 ss ⟨wf_i64V w0, wf_i64V w1, wf_i64V w2, wc, wt, w7⟩ hvi hva rfl q1 q2 q3 q4 q5⟩

theorem un_open (fuel : Nat) (cs : List Value) (x : DataW H × List MemPlace) (h : DataW.trod enc Try.prog w 0 (fun _ => true) true fuel 52 cs = some x) : ∃ v s, cs = ucells v s ∧ UIn w v s := by
  obtain ⟨xs, n, rfl, rfl, hl, hlen, hf⟩ := DataW.trod_struct Try.underlying52 h
  have hcN : Try.prog.cellsOf 52 = 20 := by kernel_rfl
  rw [hcN] at hl
  obtain ⟨v0, r, rfl, hr⟩ := vlist20 hl
  have cs' : Try.prog.cellsOf 9 = 1 := by kernel_rfl
  have ct : Try.prog.cellsOf 33 = 19 := by kernel_rfl
  match xs, hlen with
  | [y0, y1], _ =>
    have h0 : DataW.trod enc Try.prog w 0 (fun _ => true) true n 9 [v0] = some y0 := by simpa [cs'] using hf 0 _ rfl
    have h1 : DataW.trod enc Try.prog w 0 (fun _ => true) true n 33 r = some y1 := by
      have := hf 1 _ rfl
      simpa [ct, List.take_of_length_le (Nat.le_of_eq hr)] using this
    obtain ⟨a, e0, _, w0⟩ := DataW.trod_string Try.underlying9 h0
    obtain ⟨s, t, rfl, hs⟩ := state_open _ _ _ h1
    simp only [List.cons.injEq, and_true] at e0
    subst e0
    exact ⟨⟨a, s⟩, t, rfl, w0, hs⟩

/-- .. the deliveries -/
theorem parts_openU {fuel : Nat} {v : Value} {x : DataW H × List MemPlace} (h : DataW.trod enc Try.prog w 0 (fun _ => true) true fuel 22 [v] = some x)
    (ih : ∀ n, n < fuel → ∀ cs x, DataW.trod enc Try.prog w 0 (fun _ => true) true n 52 cs = some x → ∃ v s, cs = ucells v s ∧ UIn w v s) :
    ∃ (p : Option Addr) (n c : Nat) (l : List Un) (ss : Nat → Sl), v = .slice p n c ∧ l.length = n ∧ n ≤ c ∧ c ≤ maxLen ∧ (0 < n → ∃ b o, p = some ⟨b, o, none⟩) ∧ (∀ b o, p = some ⟨b, o, none⟩ → ∀ i (hi : i < l.length), w.rangeAt b (o + i * 20) (ucells l[i] (ss i))) ∧ ∀ i (hi : i < l.length), UIn w l[i] (ss i) := by
  rcases DataW.trod_slice Try.underlying22 h with ⟨e, _⟩ | ⟨a, len, cap, elems, rest, n, rfl, hcs, _, _, hl, hm, hlen, hel, _, _⟩
  · simp only [List.cons.injEq, and_true] at e
    subst e
    exact ⟨none, 0, 0, [], fun _ => default, rfl, rfl, Nat.le_refl _, Nat.zero_le _, fun q => by omega, (fun b o e => by cases e), fun i hi => by simp at hi⟩
  · simp only [List.cons.injEq, and_true] at hcs
    subst hcs
    have hcN : Try.prog.cellsOf 52 = 20 := by kernel_rfl
    rw [hcN] at hel
    obtain ⟨F, hF⟩ := choose_ltV (α := Un × Sl) (default, default) (n := len) (p := fun i f => w.cells? 0 (a.add (i * 20)) 20 = some (ucells f.1 f.2) ∧ UIn w f.1 f.2) (fun i hi => by
      have hb := hel i hi
      rw [List.getElem?_eq_getElem (by omega)] at hb
      obtain ⟨cs', h1, h2⟩ := Option.bind_eq_some_iff.1 hb
      obtain ⟨v, s, rfl, h3⟩ := ih n (Nat.lt_succ_self n) cs' _ h2
      exact ⟨(v, s), h1, h3⟩)
    have hadd : ∀ (b o' i : Nat), (⟨b, o', none⟩ : Addr).add i = ⟨b, o' + i, none⟩ := fun b o' i => by unfold Addr.add; split <;> simp_all
    refine ⟨some a, len, cap, (List.range len).map fun i => (F i).1, fun i => (F i).2, rfl, by simp, hl, hm, fun hpos => ?_, fun b o e i hi j u hu => ?_, fun i hi => ?_⟩
    · obtain ⟨b, o, spot⟩ := a
      obtain ⟨h1, _⟩ := hF 0 hpos
      obtain ⟨_, _, h0c⟩ := World.cells?_some h1
      have h00 := h0c 0 (by omega)
      have hspot : spot = none := by simpa [Addr.add] using World.cell?_spot (h00.trans rfl)
      subst hspot
      exact ⟨b, o, rfl⟩
    · simp only [Option.some.injEq] at e
      subst e
      have hil : i < len := by simpa using hi
      obtain ⟨h1, _⟩ := hF i hil
      obtain ⟨_, _, h1c⟩ := World.cells?_some h1
      have hj : j < 20 := (List.getElem?_eq_some_iff.1 hu).1
      have := h1c j hj
      rw [hadd, hadd] at this
      rw [this, ← hu]
      simp
    · have hil : i < len := by simpa using hi
      have := (hF i hil).2
      simpa using this


/-- a list of unsettled deliveries in memory -/
structure UsIn (w : World) (p : Option Addr) (n c : Nat) (L : List Un) : Prop where
  len : L.length = n
  le : n ≤ c
  cap : c ≤ maxLen
  ptr : 0 < n → ∃ b o, p = some ⟨b, o, none⟩
  ex : ∃ ss : Nat → Sl, (∀ b o, p = some ⟨b, o, none⟩ → ∀ i (hi : i < L.length), w.rangeAt b (o + i * 20) (ucells L[i] (ss i))) ∧ ∀ i (hi : i < L.length), UIn w L[i] (ss i)
theorem us_open {fuel : Nat} {p : Option Addr} {n c : Nat} {x : DataW H × List MemPlace} (h : DataW.trod enc Try.prog w 0 (fun _ => true) true fuel 22 [.slice p n c] = some x) : ∃ L, UsIn w p n c L := by
  obtain ⟨p', n', c', l, ss, e, hll, q1, q2, q3, q4, q5⟩ := parts_openU h (fun m _ => un_open m)
  simp only [Value.slice.injEq] at e
  obtain ⟨rfl, rfl, rfl⟩ := e
  exact ⟨l, hll, q1, q2, q3, ss, q4, q5⟩
end
theorem UsIn.far {w w' : World} {p : Option Addr} {n c : Nat} {L : List Un} (h : UsIn w p n c L) (hb : ∀ b, b < w.heap.size → w'.heap[b]? = w.heap[b]?) : UsIn w' p n c L := by
  obtain ⟨h1, h2, h3, h4, ss, h5, h6⟩ := h
  exact ⟨h1, h2, h3, h4, ss, fun b o e i hi j u hu => by
    have hh := h5 b o e i hi j u hu
    exact (World.cell?_of_block (hb _ (World.block_lt_of_cell? w _ hh))).trans hh, fun i hi => ⟨(h6 i hi).tag, (h6 i hi).st.far hb⟩⟩
/-- .. one of them -/
theorem UsIn.at_ {w : World} {p : Option Addr} {n c : Nat} {L : List Un} (h : UsIn w p n c L) {i : Nat} (hi : i < L.length) : ∃ b o t, p = some ⟨b, o, none⟩ ∧ w.rangeAt b (o + i * 20) (ucells L[i] t) ∧ UIn w L[i] t := by
  obtain ⟨h1, h2, h3, h4, ss, h5, h6⟩ := h
  obtain ⟨b, o, rfl⟩ := h4 (by omega)
  exact ⟨b, o, ss i, rfl, h5 b o rfl i hi, h6 i hi⟩
end Go.Proofs.Ytcbjfakkikjbkaa
