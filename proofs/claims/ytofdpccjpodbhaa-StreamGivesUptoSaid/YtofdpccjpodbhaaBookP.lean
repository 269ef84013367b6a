/-
  Rows of bytes of the call's own that are appended to, with what becomes of other rows in the same block; marks. They speak of no program. No conditions.
-/
import Derived.Test.YtofdpccjpodbhaaLib3
namespace Go.Proofs.Ytofdpccjpodbhaa
open Go.RowKit
set_option linter.unusedVariables false

/-- where an append has put the row: in its place, or into a new block, and nothing else has changed -/
def Grew (w w' : World) (v v' : Value) : Prop :=
  (∃ g n cap, v = .slice (some ⟨g, 0, none⟩) n cap ∧ v' = .slice (some ⟨g, 0, none⟩) (n + 1) cap) ∨ (∃ g, v'.ownBlock = some g ∧ w.heap.size ≤ g ∧ ∀ k, k < w.heap.size → w'.heap[k]? = w.heap[k]?)

theorem append_grew {P : Program} {w w' : World} {base t ty e : Nat} {i : TypeInfo} {z v v' : Value} {bytes n : Nat} {xs : List Value} (ht : P.underlying t = some (.slice e)) (hi : P.info? e = some i) (hz : i.zero = some z)
    (hsize : i.size = 1) (hby : i.bytes = bytes) (hown : w.ownsRow base e 1 v n xs)
    (a : Addr) (c : Nat) (y : Value) (hy : w.cell? a = some y) (h1 : y.oneCell' = true) (h63 : n + 1 ≤ maxLen) (hbytes : (n + 1) * bytes ≤ 140737488355328)
    (hr : (Builtin.append_ #[t, t] ty #[v, .slice (some a) 1 c]).run P w = .ok v' w') : Grew w w' v v' := by
  have hnews : ∀ j u, [y][j]? = some u → w.cell? (a.add j) = some u := by
    intro j u hj
    match j, hj with
    | 0, hj => simp at hj; subst hj; simpa [Addr.add] using hy
  have hl : [y].length = 1 * i.size := by rw [hsize]; rfl
  have hm : n + 1 ≤ 9223372036854775807 := by unfold maxLen at h63; omega
  rcases hown.2 with ⟨rfl, rfl⟩ | ⟨g, cap, cur, rfl, hbg, hg, hnc, hcm, hcs, htake⟩
  · have hq := run_append_nil (P := P) w t ty e i z ht hi hz a 1 c [y] hl hnews (by decide) (by decide) (by rw [hby]; omega)
    rw [hr] at hq
    simp only [Result.ok.injEq] at hq
    refine .inr ⟨w.heap.size, by rw [hq.1]; rfl, Nat.le_refl _, fun k hk => ?_⟩
    rw [hq.2]; exact Below.heap_alloc w.drew _ k hk
  · by_cases hroom : n + 1 ≤ cap
    · have hq := run_append_room (P := P) w t ty e i ht hi g n cap cur hg a 1 c [y] hl hnews (by intro u hu; simp at hu; subst hu; exact h1) hroom (by rw [hsize, hcs]; simp; omega)
      rw [hr] at hq
      simp only [Result.ok.injEq] at hq
      exact .inl ⟨g, n, cap, rfl, by rw [hq.1]⟩
    · have holds : ∀ j u, xs[j]? = some u → w.cell? ((⟨g, 0, none⟩ : Addr).add j) = some u := hown.cells (g := g) rfl
      have hq := run_append_grow (P := P) w t ty e i z ht hi hz ⟨g, 0, none⟩ n cap xs (by rw [hsize]; exact hown.1) holds a 1 c [y] hl hnews (by omega) (by omega) (growslice_fits (by omega) (by rw [hby]; exact hbytes))
      rw [hr] at hq
      simp only [Result.ok.injEq] at hq
      refine .inr ⟨w.heap.size, by rw [hq.1]; rfl, Nat.le_refl _, fun k hk => ?_⟩
      rw [hq.2]; exact Below.heap_alloc w.drew _ k hk

/-- 'append(s, y)' for a byte that the statement has just laid, with where the row lies -/
theorem wpList_append_grew {P : Program} {wr : World} {ops : Array Oper} {rest : List Oper} {o : Oper} {a : Act} {Q : Exit → Act → World → Prop} (hgd : o.guard = none)
    (s x : Operand) (t : TypeId) (ho : o.op = .call { callee := .builtin .append, args := #[s, x], argTypes := #[t, t] })
    (B e : Nat) (ht : P.underlying t = some (.slice e)) (hinfo : (P.info? e).map (fun i => (i.zero, i.size, i.bytes)) = some (some (.int .u8 0), 1, 1))
    (v : Value) (l : List UInt8) (y : UInt8)
    (hs : a.eval s = v) (hx : a.eval x = .slice (some ⟨wr.heap.size, 0, none⟩) 1 1) (hown : OwnBytes wr B e v l)
    (hlen : l.length + 1 ≤ 140737488355328) (hbase : B ≤ wr.heap.size)
    (h : ∀ v' w', OwnBytes w' B e v' (l ++ [y]) → wr.grownBy w' v.ownBlock → Grew wr w' v v' → wpList P ops Q rest (a.put o.dst v') w') :
    wpList P ops Q (o :: rest) a (wr.alloc (.cells #[.int .u8 (y.toNat : Int)] e)) := by
  obtain ⟨i, hi, hzz⟩ := Option.map_eq_some_iff.1 hinfo
  simp only [Prod.mk.injEq] at hzz
  obtain ⟨hz, hsz, hb⟩ := hzz
  have hcell : (wr.alloc (.cells #[.int .u8 (y.toNat : Int)] e)).cell? ⟨wr.heap.size, 0, none⟩ = some (.int .u8 (y.toNat : Int)) := by simp only [World.cell?, heap_alloc_new]; rfl
  have hnews : ∀ j u, [Value.int .u8 (y.toNat : Int)][j]? = some u → (wr.alloc (.cells #[.int .u8 (y.toNat : Int)] e)).cell? ((⟨wr.heap.size, 0, none⟩ : Addr).add j) = some u := by
    intro j u hj
    match j, hj with
    | 0, hj => simp at hj; subst hj; simp [Addr.add]
  have hl2 : l.length + 1 ≤ maxLen := by unfold maxLen; omega
  refine wpList_plain hgd fun K hK => ?_
  obtain ⟨v', w', hr, h2, h3, h4⟩ := run_append_own (P := P) (wr.alloc (.cells #[.int .u8 (y.toNat : Int)] e)) B t o.type e i (.int .u8 0) 1 1 ht hi hz hsz hb rfl (by decide) v l.length (l.map byteV) (hown.row.alloc _) ⟨wr.heap.size, 0, none⟩ 1 1 [.int .u8 (y.toNat : Int)] rfl hnews
    (by intro u hu; simp at hu; subst hu; rfl) hl2 (by omega) (by simp; omega)
  have hf := append_grew ht hi hz hsz hb (hown.row.alloc (.cells #[.int .u8 (y.toNat : Int)] e)) ⟨wr.heap.size, 0, none⟩ 1 (.int .u8 (y.toNat : Int)) hcell rfl hl2 (by omega) hr
  have hg : wr.grownBy w' v.ownBlock :=
    ⟨h3.os, h3.tape, h3.output, Nat.le_trans (by simp) h3.size, fun k hk hne => (h3.block k (by simp; omega) hne).trans (Below.heap_alloc wr _ k hk)⟩
  have hf' : Grew wr w' v v' := by
    rcases hf with hf | ⟨g, hf1, hf2, hf3⟩
    · exact .inl hf
    · exact .inr ⟨g, hf1, by simp at hf2; omega, fun k hk => (hf3 k (by simp; omega)).trans (Below.heap_alloc wr _ k hk)⟩
  unfold Oper.wp execOp
  simp only [ho, resolve, invoke, builtin, Sem.run_bind, Sem.run_pure, Result.andThen_ok, List.map_toArray, List.map_cons, List.map_nil, hs, hx, hr]
  exact hK _ _ (h v' w' ⟨by rw [List.length_append, List.length_singleton, List.map_append]; exact h2⟩ hg hf')

/-- .. the byte as the walk writes it -/
theorem wpList_append_grew' {P : Program} {wr : World} {ops : Array Oper} {rest : List Oper} {o : Oper} {a : Act} {Q : Exit → Act → World → Prop} (hgd : o.guard = none)
    (s x : Operand) (t : TypeId) (ho : o.op = .call { callee := .builtin .append, args := #[s, x], argTypes := #[t, t] })
    (B e : Nat) (ht : P.underlying t = some (.slice e)) (hinfo : (P.info? e).map (fun i => (i.zero, i.size, i.bytes)) = some (some (.int .u8 0), 1, 1))
    (v : Value) (l : List UInt8) (y : UInt8) (yv : Value)
    (hs : a.eval s = v) (hx : a.eval x = .slice (some ⟨wr.heap.size, 0, none⟩) 1 1) (hyv : yv = .int .u8 (y.toNat : Int)) (hown : OwnBytes wr B e v l)
    (hlen : l.length + 1 ≤ 140737488355328) (hbase : B ≤ wr.heap.size)
    (h : ∀ v' w', OwnBytes w' B e v' (l ++ [y]) → wr.grownBy w' v.ownBlock → Grew wr w' v v' → wpList P ops Q rest (a.put o.dst v') w') :
    wpList P ops Q (o :: rest) a (wr.alloc (.cells #[yv] e)) := by
  subst hyv
  exact wpList_append_grew hgd s x t ho B e ht hinfo v l y hs hx hown hlen hbase h

/-- another row of bytes is kept by the append: it lies elsewhere, or is a beginning of the one appended to -/
theorem OwnBytes.grew {w w' : World} {B T : Nat} {v v' u : Value} {l lu : List UInt8} {y : UInt8} (ho : OwnBytes w B T v l) (ho' : OwnBytes w' B T v' (l ++ [y])) (hg : w.grownBy w' v.ownBlock) (hf : Grew w w' v v')
    (hu : OwnBytes w B T u lu) (hne : u.ownBlock = none ∨ u.ownBlock ≠ v.ownBlock ∨ lu <+: l) : OwnBytes w' B T u lu := by
  rcases hne with h | h | h
  · exact hu.kept hg (.inl h)
  · exact hu.kept hg (.inr h)
  · by_cases hb : u.ownBlock = v.ownBlock
    · obtain ⟨h1, h2⟩ := hu.row
      refine ⟨h1, ?_⟩
      rcases h2 with h2 | ⟨g, cap, cur, e, hgB, hh, hn, hm, hs, htk⟩
      · exact .inl h2
      · refine .inr ?_
        subst e
        rcases hf with ⟨g', n, cap', e1, e2⟩ | ⟨g', _, _, hk⟩
        · subst e1 e2
          simp only [Value.ownBlock, Option.some.injEq] at hb
          subst hb
          have r := ho.row.2
          rcases r with ⟨r, _⟩ | ⟨g2, cap2, cur2, r1, r2, r3, r4, r5, r6, r7⟩
          · simp at r
          simp only [Value.slice.injEq, Option.some.injEq, Addr.mk.injEq] at r1
          obtain ⟨⟨rfl, _⟩, rfl, rfl⟩ := r1
          have hcc : cur2 = cur := by
            rw [r3] at hh
            simp only [Option.some.injEq, Obj.cells.injEq] at hh
            exact hh.1
          have r' := ho'.row.2
          rcases r' with ⟨q, _⟩ | ⟨g3, cap3, cur3, q1, q2, q3, q4, q5, q6, q7⟩
          · simp at q
          simp only [Value.slice.injEq, Option.some.injEq, Addr.mk.injEq] at q1
          obtain ⟨⟨rfl, _⟩, q8, rfl⟩ := q1
          have hcap : cap = cap' := by rw [hcc] at r6; omega
          refine ⟨g, cap, cur3, rfl, hgB, q3, hn, hm, by omega, ?_⟩
          have hle := h.length_le
          rw [Nat.mul_one] at q7 ⊢
          have : (cur3.toList.take (l ++ [y]).length).take lu.length = ((l ++ [y]).map byteV).take lu.length := by rw [q7]
          rw [List.take_take, Nat.min_eq_left (by simp; omega)] at this
          rw [this, ← List.map_take, List.take_append_of_le_length hle]
          obtain ⟨tl, rfl⟩ := h
          rw [List.take_left' rfl]
        · exact ⟨g, cap, cur, rfl, hgB, by rw [hk g (Array.getElem?_eq_some_iff.1 hh).1]; exact hh, hn, hm, hs, htk⟩
    · exact hu.kept hg (.inr hb)

/-- the marks of the i-th list -/
def markL (i n : Nat) : List UInt8 := (List.range n).map fun j => UInt8.ofNat (i + j / 251)
theorem markL_length (i n : Nat) : (markL i n).length = n := by simp [markL]
theorem markL_snoc (i n : Nat) : markL i (n + 1) = markL i n ++ [UInt8.ofNat (i + n / 251)] := by simp [markL, List.range_succ]
theorem markL_prefix (i : Nat) {m n : Nat} (h : m ≤ n) : markL i m <+: markL i n := by
  refine ⟨(markL i n).drop m, ?_⟩
  have : markL i m = (markL i n).take m := by
    unfold markL
    rw [← List.map_take, List.take_range, Nat.min_eq_left h]
  rw [this, List.take_append_drop]
theorem markL_getD (i n j : Nat) (h : j < n) : (markL i n).getD j 0 = UInt8.ofNat (i + j / 251) := by
  simp [markL, List.getD_eq_getElem?_getD, h]

/-- rows that are kept, each with its number and its length -/
def Kept (w : World) (B T : Nat) (F : List (Value × Nat × Nat)) : Prop := ∀ u ∈ F, OwnBytes w B T u.1 (markL u.2.1 u.2.2)
/-- each of them lies elsewhere than v, or is a beginning of it -/
def AptTo (F : List (Value × Nat × Nat)) (v : Value) (i n : Nat) : Prop := ∀ u ∈ F, u.1.ownBlock = none ∨ u.1.ownBlock ≠ v.ownBlock ∨ (u.2.1 = i ∧ u.2.2 ≤ n)

theorem Kept.lt {w : World} {B T : Nat} {F : List (Value × Nat × Nat)} (h : Kept w B T F) {u : Value × Nat × Nat} (hu : u ∈ F) {g : Nat} (hg : u.1.ownBlock = some g) : g < w.heap.size := ((h u hu).row.lt g hg).2

theorem Kept.step {w w' : World} {B T i n : Nat} {v v' : Value} {y : UInt8} {F : List (Value × Nat × Nat)} (h : Kept w B T F) (ha : AptTo F v i n) (ho : OwnBytes w B T v (markL i n)) (ho' : OwnBytes w' B T v' (markL i n ++ [y]))
    (hg : w.grownBy w' v.ownBlock) (hf : Grew w w' v v') : Kept w' B T F ∧ AptTo F v' i (n + 1) := by
  refine ⟨fun u hu => ho.grew ho' hg hf (h u hu) ?_, fun u hu => ?_⟩
  · rcases ha u hu with h1 | h1 | ⟨h1, h2⟩
    · exact .inl h1
    · exact .inr (.inl h1)
    · exact .inr (.inr (by rw [h1]; exact markL_prefix i h2))
  · rcases hf with ⟨g, m, cap, e1, e2⟩ | ⟨g, e1, e2, _⟩
    · rcases ha u hu with h1 | h1 | ⟨h1, h2⟩
      · exact .inl h1
      · refine .inr (.inl ?_)
        rw [e2]; rw [e1] at h1; exact h1
      · exact .inr (.inr ⟨h1, by omega⟩)
    · refine .inr (.inl (fun he => ?_))
      have := h.lt hu (g := g) (by rw [he, e1])
      omega
/-- a change elsewhere -/
theorem Kept.other {w w' : World} {B T : Nat} {row : Option Nat} {F : List (Value × Nat × Nat)} (h : Kept w B T F) (hg : w.grownBy w' row) (hne : ∀ u ∈ F, u.1.ownBlock = none ∨ u.1.ownBlock ≠ row) : Kept w' B T F :=
  fun u hu => (h u hu).kept hg (hne u hu)

/-- rows of another type lie elsewhere -/
theorem apart_of_type {w : World} {B B' T T' n : Nat} {u v : Value} {l : List UInt8} {xs : List Value} (hu : OwnBytes w B T u l) (hv : w.ownsRow B' T' 1 v n xs) (hT : T ≠ T') : u.ownBlock = none ∨ u.ownBlock ≠ v.ownBlock := by
  rcases hu.row.2 with ⟨rfl, _⟩ | ⟨g, cap, cur, rfl, _, hh, _⟩
  · exact .inl rfl
  · refine .inr (fun he => ?_)
    rcases hv.2 with ⟨rfl, _⟩ | ⟨g', cap', cur', rfl, _, hh', _⟩
    · simp [Value.ownBlock] at he
    · simp only [Value.ownBlock, Option.some.injEq] at he
      subst he
      rw [hh] at hh'
      simp only [Option.some.injEq, Obj.cells.injEq] at hh'
      exact hT hh'.2.1
theorem apart_of_cells {w : World} {B T T' b : Nat} {u : Value} {l : List UInt8} {cs : Array Value} {fr : Nat × Nat} (hu : OwnBytes w B T u l) (hv : w.heap[b]? = some (.cells cs T' fr)) (hT : T ≠ T') : u.ownBlock ≠ some b := by
  rcases hu.row.2 with ⟨rfl, _⟩ | ⟨g, cap, cur, rfl, _, hh, _⟩
  · simp [Value.ownBlock]
  · intro he
    simp only [Value.ownBlock, Option.some.injEq] at he
    subst he
    rw [hh] at hv
    simp only [Option.some.injEq, Obj.cells.injEq] at hv
    exact hT hv.2.1
end Go.Proofs.Ytofdpccjpodbhaa
