/-
  A list of lists of bytes that came in: what lies in memory. Plain lemmas over the form's readings. No conditions.
-/
import Derived.Test.YtabemlpkajhglaaDoorCrc
import Derived.Test.YtabemlpkajhglaaDoorLib3
import Derived.Deep.Slices
import Derived.SizedLaws
namespace Go.Proofs.YtabemlpkajhglaaDoor
open Go.RowKit Go.ChangeShapes Go.WideShapes Go.ChangeAt Go.Deep
set_option linter.unusedVariables false

section
variable {H : Type} {enc : TypeId × Value → H} {P : Program} {w : World} {fuel : Nat} {t e u : TypeId} {x : DataW H × List MemPlace} {a : Option Addr} {n c : Nat}

theorem slice_value {v : Value} {y : DataW H × List MemPlace} (ht : P.underlying e = some (.slice u)) (h : DataW.trod enc P w 0 (fun _ => true) true fuel e [v] = some y) : ∃ a n c, v = .slice a n c := by
  rcases open_slice ht h with ⟨hcs, _⟩ | ⟨ad, len, cap, m, k, D, Pl, hcs, _⟩
  · simp only [List.cons.injEq, and_true] at hcs
    exact ⟨_, _, _, hcs⟩
  · simp only [List.cons.injEq, and_true] at hcs
    exact ⟨_, _, _, hcs⟩

theorem parts_open (ht : P.underlying t = some (.slice e)) (he : P.underlying e = some (.slice u)) (hu : P.underlying u = some (.int .u8)) (hc : P.cellsOf e = 1) (hcu : P.cellsOf u = 1)
    (h : DataW.trod enc P w 0 (fun _ => true) true fuel t [.slice a n c] = some x) :
    ∃ L, PartsIn w a n c L ∧ ((n = 0 ∧ x.1 = .nil) ∨ ∃ es sp : List (DataW H), x.1 = .slice es sp ∧ es.length = n ∧ sp.length = c - n ∧
      ∀ i, i < n → ∃ d, d ∈ es ∧ ((L.getD i []).length = 0 ∨ ∃ es' sp' : List (DataW H), d = .slice es' sp' ∧ es'.length = (L.getD i []).length)) := by
  rcases open_slice1 ht hc h with ⟨hcs, hx⟩ | ⟨ad, len, cap, m, k, V, D, Pl, hcs, _, hl, hm, hmm, hx, hcell⟩
  · simp only [List.cons.injEq, Value.slice.injEq, and_true] at hcs
    obtain ⟨rfl, rfl, rfl⟩ := hcs
    exact ⟨[], ⟨rfl, Nat.le_refl _, Nat.zero_le _, fun h => absurd h (by omega)⟩, .inl ⟨rfl, by rw [hx]⟩⟩
  · simp only [List.cons.injEq, Value.slice.injEq, and_true] at hcs
    obtain ⟨rfl, rfl, rfl⟩ := hcs
    simp only [if_true] at hmm
    subst hmm
    obtain ⟨F, hF⟩ := choose_lt (α := List UInt8) (n := n) (p := fun i l => ∃ ai ci, V i = .slice ai l.length ci ∧ BytesIn w ai l.length ci l ∧ (l.length = 0 ∨ ∃ es' sp' : List (DataW H), D i = .slice es' sp' ∧ es'.length = l.length)) (fun i hi => by
      obtain ⟨h1, h2⟩ := hcell i (by omega)
      obtain ⟨ai, ni, ci, hv⟩ := slice_value he h2
      rw [hv] at h2
      obtain ⟨z, hz, hs⟩ := ints_open he hu hcu h2
      have hb := bytes_of_ints hz
      have hlen := hb.len
      refine ⟨_, ai, ci, by rw [hlen]; exact hv, by rw [hlen]; exact hb, ?_⟩
      rw [hlen]
      rcases hs with ⟨h0, _⟩ | ⟨es, sp, hd, hes, _⟩
      · exact .inl h0
      · exact .inr ⟨es, sp, hd, hes⟩)
    have hget : ∀ i, i < n → ((List.range n).map F).getD i [] = F i := fun i hi => by
      simp [List.getD_eq_getElem?_getD, List.getElem?_map, List.getElem?_range hi]
    refine ⟨(List.range n).map F, ⟨by simp, hl, hm, fun hpos => ?_⟩, .inr ⟨(List.range n).map D, _, by rw [hx], by simp, by simp, fun i hi => ?_⟩⟩
    · obtain ⟨b, o, spot⟩ := ad
      have h0 := (hcell 0 (by omega)).1
      have hspot : spot = none := by simpa [Addr.add] using World.cell?_spot h0
      subst hspot
      have hadd : ∀ i, (⟨b, o, none⟩ : Addr).add i = ⟨b, o + i, none⟩ := fun i => by unfold Addr.add; split <;> simp_all
      refine ⟨b, o, rfl, ?_, fun i hi => ?_⟩
      · have := World.block_lt_of_cell? w _ h0
        rwa [hadd] at this
      · obtain ⟨ai, ci, h1, h2, _⟩ := hF i hi
        refine ⟨ai, ci, ?_, by rw [hget i hi]; exact h2⟩
        rw [← hadd, (hcell i (by omega)).1, h1, hget i hi]
    · obtain ⟨ai, ci, _, _, h3⟩ := hF i hi
      rw [hget i hi]
      exact ⟨D i, List.mem_map.2 ⟨i, List.mem_range.2 hi, rfl⟩, h3⟩

theorem weightsAll_mem {l : List (DataW H)} {d : DataW H} {k : Nat} (hd : d ∈ l) (hk : k ∈ d.weights P e) : k ∈ DataW.weightsAll P e l := by
  induction l with
  | nil => cases hd
  | cons x l ih =>
    simp only [DataW.weightsAll, List.mem_append]
    cases List.mem_cons.1 hd with
    | inl h => subst h; exact .inl hk
    | inr h => exact .inr (ih h)

/-- what the reach gives of each part -/
theorem parts_sized {ts : List TypeId} {ds : List (DataW H)} (hz : (DataW.weightsEach P ts ds).all (· ≤ reachBytes) = true) {j : Nat} {d : DataW H} (htj : ts[j]? = some t) (hdj : ds[j]? = some d)
    (ht : P.underlying t = some (.slice e)) (he : P.underlying e = some (.slice u)) (hbu : P.bytesOf u = 1) (hbe : P.bytesOf e = 24) {L : List (List UInt8)} (hL : L.length = n)
    (hs : (n = 0 ∧ d = .nil) ∨ ∃ es sp : List (DataW H), d = .slice es sp ∧ es.length = n ∧ sp.length = c - n ∧
      ∀ i, i < n → ∃ d', d' ∈ es ∧ ((L.getD i []).length = 0 ∨ ∃ es' sp' : List (DataW H), d' = .slice es' sp' ∧ es'.length = (L.getD i []).length)) :
    n * 24 ≤ 140737488351232 ∧ ∀ i, i < n → (L.getD i []).length ≤ 140737488351232 := by
  rcases hs with ⟨h0, _⟩ | ⟨es, sp, rfl, hes, _, hE⟩
  · exact ⟨by omega, fun i hi => by omega⟩
  · have h1 := sized_slice hz htj hdj ht
    rw [hbe] at h1
    unfold reachBytes at h1
    refine ⟨by omega, fun i hi => ?_⟩
    obtain ⟨d', hd', h2⟩ := hE i hi
    rcases h2 with h2 | ⟨es', sp', rfl, h3⟩
    · omega
    · have hm : (es'.length + sp'.length) * 1 ∈ DataW.weights P t (.slice es sp) := by
        simp only [DataW.weights, ht, List.mem_cons, List.mem_append]
        refine .inr (.inl (weightsAll_mem hd' ?_))
        simp [DataW.weights, he, hbu]
      have := List.all_eq_true.1 hz _ (DataW.weights_mem_each htj hdj _ hm)
      simp only [decide_eq_true_eq] at this
      unfold reachBytes at this
      omega
end
end Go.Proofs.YtabemlpkajhglaaDoor
