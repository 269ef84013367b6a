/-
  A stream beside the document's, the items that came of both: how they lie in memory. It speaks of no code. No conditions.
  A stream beside the document's: an item more. It speaks of no code. No conditions.
-/
import Derived.Test.YtofdpccjpodbhaaMg26
import Derived.Test.YtofdpccjpodbhaaMg28
namespace Go.Proofs.Ytofdpccjpodbhaa
open Go.RowKit
set_option linter.unusedVariables false

/-- a list of items; O: the blocks that it is made of -/
structure RowsP (B : Nat) (v : Value) (L : List (Itm × Value × Value)) (O : Nat → Prop) (W : World) : Prop where
  row : W.ownsRow B 71 6 v L.length (itRow L)
  vo : ∀ j, v.ownBlock = some j → O j
  its : ∀ p ∈ L, OwnBytes W B 5 p.2.1 p.1.ext ∧ OwnBytes W B 5 p.2.2 p.1.body ∧ (∀ j, p.2.1.ownBlock = some j → O j) ∧ ∀ j, p.2.2.ownBlock = some j → O j
  sz : ∀ p ∈ L, p.1.ext.length ≤ 1048577 ∧ p.1.body.length ≤ 1048577

/-- all bytes of a list's items -/
def rowsL (L : List (Itm × Value × Value)) : List Value := L.flatMap fun p => [p.2.1, p.2.2]
def Far (u v : Value) : Prop := u.ownBlock = none ∨ u.ownBlock ≠ v.ownBlock

/-- where all lies: the stream, the document's, the pair; their bases -/
structure PK where
  b : Nat
  r : Nat
  pb : Nat
  Bs : Nat
  Br : Nat
  B : Nat

structure Pair (K : PK) (fr : Nat) (s q : SM) (hv rv vc vd : Value) (L M : List (Itm × Value × Value)) (O : Nat → Prop) (W : World) : Prop where
  st : StS W K.b K.Bs s hv
  re : InR W K.r K.Br fr q rv
  rel : Rel fr q
  okq : Ok q
  cell : W.heap[K.pb]? = some (.cells #[.pointer (some ⟨K.b, 0, none⟩), .pointer (some ⟨K.r, 0, none⟩), vc, vd] 61 (0, 0))
  came : RowsP K.B vc L O W
  want : RowsP K.B vd M O W
  dist : (rowsL L).Pairwise Far
  oo : O K.pb ∧ O K.r ∧ ∀ j, rv.ownBlock = some j → O j
  ow : ∀ j, O j → K.B ≤ j ∧ j < W.heap.size ∧ j ≠ K.b ∧ hv.ownBlock ≠ some j
  ne : Far vc vd
  rvn : ∀ u ∈ rowsL L ++ rowsL M, Far u rv
  bb : K.B ≤ K.b ∧ (∀ j, hv.ownBlock = some j → K.B ≤ j) ∧ K.B ≤ W.heap.size

theorem cells_ne {W : World} {i j : Nat} {cs cs' : Array Value} {t t' : Nat} {f f' : Nat × Nat} (h : W.heap[i]? = some (.cells cs t f)) (h' : W.heap[j]? = some (.cells cs' t' f')) (ht : t ≠ t') : i ≠ j := by
  rintro rfl
  rw [h] at h'
  have := Option.some.inj h'
  simp only [Obj.cells.injEq] at this
  exact ht this.2.1

theorem ownsRow_block {W : World} {B T k n : Nat} {v : Value} {xs : List Value} (h : W.ownsRow B T k v n xs) : ∀ j, v.ownBlock = some j → ∃ cs fr, W.heap[j]? = some (.cells cs T fr) := by
  intro j hj
  rcases h.2 with ⟨rfl, _⟩ | ⟨g, cap, cur, rfl, _, hh, _⟩
  · simp [Value.ownBlock] at hj
  · simp only [Value.ownBlock, Option.some.injEq] at hj
    subst hj
    exact ⟨_, _, hh⟩

theorem ownsRow_far {W : World} {B B' T T' k k' n n' : Nat} {v u : Value} {xs xs' : List Value} (h : W.ownsRow B T k v n xs) (h' : W.ownsRow B' T' k' u n' xs') (ht : T ≠ T') : Far v u := by
  unfold Far
  cases hv : v.ownBlock with
  | none => exact .inl rfl
  | some j =>
    refine .inr fun e => ?_
    obtain ⟨cs, fr, h1⟩ := ownsRow_block h j hv
    obtain ⟨cs', fr', h2⟩ := ownsRow_block h' j e.symm
    exact cells_ne h1 h2 ht rfl

theorem RowsP.keep {B : Nat} {v : Value} {L : List (Itm × Value × Value)} {O O' : Nat → Prop} {W W' : World} (h : RowsP B v L O W) (e : ∀ j, O j → W'.heap[j]? = W.heap[j]?) (hO : ∀ j, O j → O' j) : RowsP B v L O' W' :=
  ⟨ownsRow_same h.row (fun j hj => e j (h.vo j hj)), fun j hj => hO j (h.vo j hj), fun p hp => by
    obtain ⟨p1, p2, p3, p4⟩ := h.its p hp
    exact ⟨p1.same' (fun j hj => e j (p3 j hj)), p2.same' (fun j hj => e j (p4 j hj)), fun j hj => hO j (p3 j hj), fun j hj => hO j (p4 j hj)⟩, h.sz⟩

theorem mem_rowsL {L : List (Itm × Value × Value)} {u : Value} (h : u ∈ rowsL L) : ∃ p ∈ L, u = p.2.1 ∨ u = p.2.2 := by
  unfold rowsL at h
  obtain ⟨p, hp, hu⟩ := List.mem_flatMap.1 h
  simp only [List.mem_cons, List.not_mem_nil, or_false] at hu
  exact ⟨p, hp, hu⟩

theorem RowsP.rows {B : Nat} {v : Value} {L : List (Itm × Value × Value)} {O : Nat → Prop} {W : World} (h : RowsP B v L O W) {u : Value} (hu : u ∈ rowsL L) : (∃ l, OwnBytes W B 5 u l) ∧ ∀ j, u.ownBlock = some j → O j := by
  obtain ⟨p, hp, rfl | rfl⟩ := mem_rowsL hu
  · exact ⟨⟨_, (h.its p hp).1⟩, (h.its p hp).2.2.1⟩
  · exact ⟨⟨_, (h.its p hp).2.1⟩, (h.its p hp).2.2.2⟩

/-- what is not touched is as it was -/
theorem Pair.keep {K : PK} {fr : Nat} {s q : SM} {hv rv vc vd : Value} {L M : List (Itm × Value × Value)} {O : Nat → Prop} {W W' : World} (h : Pair K fr s q hv rv vc vd L M O W) (hz : W.heap.size ≤ W'.heap.size)
    (e : ∀ j, O j ∨ j = K.b ∨ hv.ownBlock = some j → W'.heap[j]? = W.heap[j]?) : Pair K fr s q hv rv vc vd L M O W' :=
  ⟨⟨⟨(e _ (.inr (.inl rfl))).trans h.st.ins.row, h.st.ins.held.same' (fun j hj => e j (.inr (.inr hj))), h.st.ins.lt, Nat.le_trans h.st.ins.le hz⟩, h.st.ok⟩,
   h.re.keep hz (fun j hj => e j (.inl (by rcases hj with rfl | hj; exact h.oo.2.1; exact h.oo.2.2 j hj))), h.rel, h.okq, (e _ (.inl h.oo.1)).trans h.cell, h.came.keep (fun j hj => e j (.inl hj)) (fun _ hj => hj), h.want.keep (fun j hj => e j (.inl hj)) (fun _ hj => hj), h.dist, h.oo,
   fun j hj => ⟨(h.ow j hj).1, Nat.lt_of_lt_of_le (h.ow j hj).2.1 hz, (h.ow j hj).2.2⟩, h.ne, h.rvn, ⟨h.bb.1, h.bb.2.1, Nat.le_trans h.bb.2.2 hz⟩⟩

theorem Pair.blt {K : PK} {fr : Nat} {s q : SM} {hv rv vc vd : Value} {L M : List (Itm × Value × Value)} {O : Nat → Prop} {W : World} (h : Pair K fr s q hv rv vc vd L M O W) : ∀ j, O j ∨ j = K.b ∨ hv.ownBlock = some j → j < W.heap.size := by
  rintro j (hj | rfl | hj)
  · exact (h.ow j hj).2.1
  · exact (Array.getElem?_eq_some_iff.1 h.st.ins.row).1
  · exact h.st.held_lt j hj

theorem Pair.below {K : PK} {fr : Nat} {s q : SM} {hv rv vc vd : Value} {L M : List (Itm × Value × Value)} {O : Nat → Prop} {W W' : World} (h : Pair K fr s q hv rv vc vd L M O W) (hb : Below W.heap.size W W') : Pair K fr s q hv rv vc vd L M O W' :=
  h.keep hb.size (fun j hj => hb.block j (h.blt j hj))

theorem Pair.grown {K : PK} {fr : Nat} {s q : SM} {hv rv vc vd : Value} {L M : List (Itm × Value × Value)} {O : Nat → Prop} {W W' : World} {d : Nat} (h : Pair K fr s q hv rv vc vd L M O W) (hg : W.grownBy W' (some d)) (h1 : ¬ O d) (h2 : d ≠ K.b) (h3 : hv.ownBlock ≠ some d) : Pair K fr s q hv rv vc vd L M O W' :=
  h.keep hg.size (fun j hj => hg.block j (h.blt j hj) (fun e => by
    have := Option.some.inj e
    subst this
    rcases hj with hj | hj | hj
    · exact h1 hj
    · exact h2 hj
    · exact h3 hj))

/-- the stream moves -/
theorem Pair.moveS {K : PK} {fr : Nat} {s s' q : SM} {hv hv' rv vc vd : Value} {L M : List (Itm × Value × Value)} {O : Nat → Prop} {W W' : World} (h : Pair K fr s q hv rv vc vd L M O W) (hm : Mv K.b hv W hv' W') (hs : StS W' K.b K.Bs s' hv') : Pair K fr s' q hv' rv vc vd L M O W' := by
  have e : ∀ j, O j → W'.heap[j]? = W.heap[j]? := fun j hj => hm.block j (h.ow j hj).2.1 (h.ow j hj).2.2.1 (h.ow j hj).2.2.2
  refine ⟨hs, h.re.keep hm.size (fun j hj => e j (by rcases hj with rfl | hj; exact h.oo.2.1; exact h.oo.2.2 j hj)), h.rel, h.okq, (e _ h.oo.1).trans h.cell, h.came.keep e (fun _ hj => hj), h.want.keep e (fun _ hj => hj), h.dist, h.oo, fun j hj => ⟨(h.ow j hj).1, Nat.lt_of_lt_of_le (h.ow j hj).2.1 hm.size, (h.ow j hj).2.2.1, fun hq => ?_⟩, h.ne, h.rvn,
    ⟨h.bb.1, fun j hj => ?_, Nat.le_trans h.bb.2.2 hm.size⟩⟩
  · rcases hm.hv with h1 | h1 | ⟨g, h1, h2⟩
    · rw [h1] at hq; simp at hq
    · exact (h.ow j hj).2.2.2 (h1 ▸ hq)
    · rw [h1] at hq
      have := Option.some.inj hq
      have := (h.ow j hj).2.1
      omega
  · rcases hm.hv with h1 | h1 | ⟨g, h1, h2⟩
    · rw [h1] at hj; simp at hj
    · exact h.bb.2.1 j (h1 ▸ hj)
    · rw [h1] at hj
      have := Option.some.inj hj
      have := h.bb.2.2
      omega

/-- the document's moves -/
theorem Pair.moveR {K : PK} {fr fr' : Nat} {s q q' : SM} {hv rv rv' vc vd : Value} {L M : List (Itm × Value × Value)} {O : Nat → Prop} {W W' : World} (h : Pair K fr s q hv rv vc vd L M O W) (hm : Mv K.r rv W rv' W') (hs : InR W' K.r K.Br fr' q' rv') (hrel : Rel fr' q') (hok : Ok q') :
    Pair K fr' s q' hv rv' vc vd L M (fun j => O j ∨ rv'.ownBlock = some j) W' := by
  have hrow := h.re.row
  have hfar : ∀ u, (u ∈ rowsL L ∨ u ∈ rowsL M) → ∀ j, u.ownBlock = some j → j ≠ K.r ∧ rv.ownBlock ≠ some j := by
    intro u hu j hj
    have hb : (∃ l, OwnBytes W K.B 5 u l) := by
      rcases hu with hu | hu
      · exact (h.came.rows hu).1
      · exact (h.want.rows hu).1
    obtain ⟨l, hl⟩ := hb
    obtain ⟨cs, f, hc⟩ := ownsRow_block hl.row j hj
    refine ⟨cells_ne hc hrow (by decide), fun e => ?_⟩
    rcases h.rvn u (List.mem_append.2 hu) with h1 | h1
    · rw [h1] at hj; simp at hj
    · exact h1 (hj.trans e.symm)
  have hvfar : ∀ v n xs, W.ownsRow K.B 71 6 v n xs → ∀ j, v.ownBlock = some j → j ≠ K.r ∧ rv.ownBlock ≠ some j := by
    intro v n xs hv' j hj
    obtain ⟨cs, f, hc⟩ := ownsRow_block hv' j hj
    refine ⟨cells_ne hc hrow (by decide), fun e => ?_⟩
    obtain ⟨cs', f', hc'⟩ := ownsRow_block h.re.held.row j e
    exact cells_ne hc hc' (by decide) rfl
  have e : ∀ j, j < W.heap.size → j ≠ K.r → rv.ownBlock ≠ some j → W'.heap[j]? = W.heap[j]? := fun j h1 h2 h3 => hm.block j h1 h2 h3
  have hpb : K.pb ≠ K.r := cells_ne h.cell hrow (by decide)
  have hpr : rv.ownBlock ≠ some K.pb := fun e => by
    obtain ⟨cs', f', hc'⟩ := ownsRow_block h.re.held.row _ e
    exact cells_ne h.cell hc' (by decide) rfl
  have hbr : K.b ≠ K.r := fun e => (h.ow K.r h.oo.2.1).2.2.1 e.symm
  have hbrv : rv.ownBlock ≠ some K.b := fun e => (h.ow _ (h.oo.2.2 _ e)).2.2.1 rfl
  have kr : ∀ (v : Value) (X : List (Itm × Value × Value)), RowsP K.B v X O W → (∀ u ∈ rowsL X, ∀ j, u.ownBlock = some j → j ≠ K.r ∧ rv.ownBlock ≠ some j) → RowsP K.B v X (fun j => O j ∨ rv'.ownBlock = some j) W' := by
    intro v X hX hu
    refine ⟨ownsRow_same hX.row (fun j hj => e j (h.ow j (hX.vo j hj)).2.1 (hvfar _ _ _ hX.row j hj).1 (hvfar _ _ _ hX.row j hj).2), fun j hj => .inl (hX.vo j hj), fun p hp => ?_, hX.sz⟩
    obtain ⟨p1, p2, p3, p4⟩ := hX.its p hp
    have m1 : p.2.1 ∈ rowsL X := List.mem_flatMap.2 ⟨p, hp, by simp⟩
    have m2 : p.2.2 ∈ rowsL X := List.mem_flatMap.2 ⟨p, hp, by simp⟩
    exact ⟨p1.same' (fun j hj => e j (h.ow j (p3 j hj)).2.1 (hu _ m1 j hj).1 (hu _ m1 j hj).2), p2.same' (fun j hj => e j (h.ow j (p4 j hj)).2.1 (hu _ m2 j hj).1 (hu _ m2 j hj).2), fun j hj => .inl (p3 j hj), fun j hj => .inl (p4 j hj)⟩
  have hnew : ∀ j, rv'.ownBlock = some j → rv.ownBlock = some j ∨ W.heap.size ≤ j := by
    intro j hj
    rcases hm.hv with h1 | h1 | ⟨g, h1, h2⟩
    · rw [h1] at hj; simp at hj
    · exact .inl (h1 ▸ hj)
    · rw [h1] at hj
      have := Option.some.inj hj
      exact .inr (by omega)
  refine ⟨⟨⟨(e _ (h.blt _ (.inr (.inl rfl))) hbr hbrv).trans h.st.ins.row, h.st.ins.held.same' (fun j hj => e j (h.blt _ (.inr (.inr hj))) (fun e => (h.ow K.r h.oo.2.1).2.2.2 (e ▸ hj)) (fun e => (h.ow j (h.oo.2.2 j e)).2.2.2 hj)), h.st.ins.lt, Nat.le_trans h.st.ins.le hm.size⟩, h.st.ok⟩, hs, hrel, hok,
    (e _ (h.ow _ h.oo.1).2.1 hpb hpr).trans h.cell, kr vc L h.came (fun u hu => hfar u (.inl hu)), kr vd M h.want (fun u hu => hfar u (.inr hu)), h.dist, ⟨.inl h.oo.1, .inl h.oo.2.1, fun j hj => .inr hj⟩, fun j hj => ?_, h.ne, fun u hu => ?_, ⟨h.bb.1, h.bb.2.1, Nat.le_trans h.bb.2.2 hm.size⟩⟩
  · rcases hj with hj | hj
    · exact ⟨(h.ow j hj).1, Nat.lt_of_lt_of_le (h.ow j hj).2.1 hm.size, (h.ow j hj).2.2⟩
    · have hlt := (hs.held_lt j hj).2
      rcases hnew j hj with h1 | h1
      · have := h.ow j (h.oo.2.2 j h1)
        exact ⟨this.1, hlt, this.2.2⟩
      · refine ⟨Nat.le_trans h.bb.2.2 h1, hlt, fun e => ?_, fun e => ?_⟩
        · have := h.blt _ (.inr (.inl e)); omega
        · have := h.blt _ (.inr (.inr e)); omega
  · unfold Far
    cases hu' : u.ownBlock with
    | none => exact .inl rfl
    | some j =>
      refine .inr fun e => ?_
      rcases hnew j e.symm with h1 | h1
      · exact (hfar u (List.mem_append.1 hu) j hu').2 h1
      · have hO : O j := by
          rcases List.mem_append.1 hu with h2 | h2
          · exact (h.came.rows h2).2 j hu'
          · exact (h.want.rows h2).2 j hu'
        have := (h.ow j hO).2.1
        omega
end Go.Proofs.Ytofdpccjpodbhaa

namespace Go.Proofs.Ytofdpccjpodbhaa
open Go.RowKit
set_option linter.unusedVariables false

/-- 'append(s, y)' of a struct of some cells, in a region that draws its order -/
theorem oper_append_struct {P : Program} {wr W : World} {o : Oper} {a : Act} {K : Act → World → Prop} {Q : Exit → Act → World → Prop}
    (s x : Operand) (t : TypeId) (ho : o.op = .call { callee := .builtin .append, args := #[s, x], argTypes := #[t, t] })
    (B e : Nat) (z : Value) (size bytes : Nat) (ht : P.underlying t = some (.slice e)) (hinfo : (P.info? e).map (fun i => (i.zero, i.size, i.bytes)) = some (some z, size, bytes)) (hz1 : z.cells.size = size) (hpos : 0 < size)
    (v : Value) (n : Nat) (xs ys : List Value) (hyl : ys.length = size) (hy : ∀ u ∈ ys, u.oneCell' = true) (hW : W = (wr.alloc (.cells ys.toArray e)).drew)
    (hs : a.eval s = v) (hx : a.eval x = .slice (some ⟨wr.heap.size, 0, none⟩) 1 1) (hown : wr.ownsRow B e size v n xs)
    (h63 : n + 1 ≤ maxLen) (hbytes : (n + 1) * bytes ≤ 140737488355328) (hbase : B ≤ wr.heap.size)
    (h : ∀ v' w', w'.ownsRow B e size v' (n + 1) (xs ++ ys) → wr.grownBy w' v.ownBlock → Grew wr w' v v' → K (a.put o.dst v') w') :
    Oper.wp P o a W K Q := by
  subst hW
  obtain ⟨i, hi, hzz⟩ := Option.map_eq_some_iff.1 hinfo
  simp only [Prod.mk.injEq] at hzz
  obtain ⟨hz, hsz, hb⟩ := hzz
  have hnews : ∀ j u, ys[j]? = some u → (wr.alloc (.cells ys.toArray e)).drew.cell? ((⟨wr.heap.size, 0, none⟩ : Addr).add j) = some u := by
    intro j u hj
    have hadd : (⟨wr.heap.size, 0, none⟩ : Addr).add j = ⟨wr.heap.size, 0 + j, none⟩ := by unfold Addr.add; split <;> simp_all
    rw [hadd, Nat.zero_add]
    have e1 : (wr.alloc (.cells ys.toArray e)).drew.heap[wr.heap.size]? = some (.cells ys.toArray e (0, 0)) := heap_alloc_new wr _
    simp only [World.cell?, e1]
    simpa using hj
  have hown2 : (wr.alloc (.cells ys.toArray e)).drew.ownsRow B e size v n xs := hown.alloc _
  obtain ⟨v', w', hr, h2, h3, h4⟩ := run_append_own (P := P) (wr.alloc (.cells ys.toArray e)).drew B t o.type e i z size bytes ht hi hz hsz hb hz1 hpos v n xs hown2 ⟨wr.heap.size, 0, none⟩ 1 1 ys (by rw [hyl, Nat.one_mul]) hnews hy h63 hbytes (by show B ≤ (wr.alloc _).heap.size; simp; omega)
  have hf := append_grewN ht hi hz hsz hb hown2 ⟨wr.heap.size, 0, none⟩ 1 hyl hnews hy h63 hbytes hr
  have hsz1 : (wr.alloc (.cells ys.toArray e)).drew.heap.size = wr.heap.size + 1 := by show (wr.alloc _).heap.size = _; simp
  have hbk : ∀ k, k < wr.heap.size → (wr.alloc (.cells ys.toArray e)).drew.heap[k]? = wr.heap[k]? := fun k hk => Below.heap_alloc wr _ k hk
  have hg : wr.grownBy w' v.ownBlock :=
    ⟨h3.os, h3.tape, h3.output, Nat.le_trans (by omega) h3.size, fun k hk hne => (h3.block k (by omega) hne).trans (hbk k hk)⟩
  have hf' : Grew wr w' v v' := by
    rcases hf with hf | ⟨g, hf1, hf2, hf3⟩
    · exact .inl hf
    · exact .inr ⟨g, hf1, by omega, fun k hk => (hf3 k (by omega)).trans (hbk k hk)⟩
  unfold Oper.wp execOp
  simp only [ho, resolve, invoke, builtin, Sem.run_bind, Sem.run_pure, Result.andThen_ok, List.map_toArray, List.map_cons, List.map_nil, hs, hx, hr]
  exact h v' w' h2 hg hf'

/-- .. -/
theorem step_append_struct {P : Program} {wr W : World} {ops : Array Oper} {o : Oper} {a : Act} {K : Act → World → Prop} {Q : Exit → Act → World → Prop} {E : Prop} (hgd : o.guard = none)
    (s x : Operand) (t : TypeId) (ho : o.op = .call { callee := .builtin .append, args := #[s, x], argTypes := #[t, t] })
    (B e : Nat) (z : Value) (size bytes : Nat) (ht : P.underlying t = some (.slice e)) (hinfo : (P.info? e).map (fun i => (i.zero, i.size, i.bytes)) = some (some z, size, bytes)) (hz1 : z.cells.size = size) (hpos : 0 < size)
    (v : Value) (n : Nat) (xs ys : List Value) (hyl : ys.length = size) (hy : ∀ u ∈ ys, u.oneCell' = true) (hW : W = (wr.alloc (.cells ys.toArray e)).drew)
    (hs : a.eval s = v) (hx : a.eval x = .slice (some ⟨wr.heap.size, 0, none⟩) 1 1) (hown : wr.ownsRow B e size v n xs)
    (h63 : n + 1 ≤ maxLen) (hbytes : (n + 1) * bytes ≤ 140737488355328) (hbase : B ≤ wr.heap.size)
    (h : ∀ v' w', w'.ownsRow B e size v' (n + 1) (xs ++ ys) → wr.grownBy w' v.ownBlock → Grew wr w' v v' → K (a.put o.dst v') w') :
    if Region.wanted o (yielded ops a.tmps) = true then Oper.wp P o a W K Q else E := by
  have hw : Region.wanted o (yielded ops a.tmps) = true := by simp [Region.wanted, hgd]
  rw [if_pos hw]
  exact oper_append_struct s x t ho B e z size bytes ht hinfo hz1 hpos v n xs ys hyl hy hW hs hx hown h63 hbytes hbase h

/-- a value of the call's own, far from all else -/
structure New (K : PK) (O : Nat → Prop) (hv : Value) (W : World) (u : Value) (l : List UInt8) : Prop where
  own : OwnBytes W K.B 5 u l
  far : ∀ j, u.ownBlock = some j → ¬ O j ∧ j ≠ K.b ∧ hv.ownBlock ≠ some j
  sz : l.length ≤ 1048577

theorem far_symm {u v : Value} (h : Far u v) : Far v u := by
  unfold Far at *
  rcases h with h | h
  · by_cases hv : v.ownBlock = none
    · exact .inl hv
    · exact .inr (fun e => hv (e.trans h))
  · exact .inr (fun e => h e.symm)

theorem itRow_snoc (L : List (Itm × Value × Value)) (p : Itm × Value × Value) : itRow (L ++ [p]) = itRow L ++ itCells p := by simp [itRow]
theorem rowsL_snoc (L : List (Itm × Value × Value)) (p : Itm × Value × Value) : rowsL (L ++ [p]) = rowsL L ++ [p.2.1, p.2.2] := by simp [rowsL]

/-- what an append leaves of all else: v the list, v' the list behind -/
theorem put_rows {K : PK} {O : Nat → Prop} {hv v v' : Value} {L : List (Itm × Value × Value)} {it : Itm} {ve vb : Value} {W W' : World} (h : RowsP K.B v L O W) (h1 : W'.ownsRow K.B 71 6 v' (L.length + 1) (itRow L ++ itCells (it, ve, vb))) (ne : New K O hv W ve it.ext) (nb : New K O hv W vb it.body)
    (e : ∀ {B : Nat} {u : Value} {l : List UInt8}, OwnBytes W B 5 u l → OwnBytes W' B 5 u l) : RowsP K.B v' (L ++ [(it, ve, vb)]) (fun j => O j ∨ v'.ownBlock = some j ∨ ve.ownBlock = some j ∨ vb.ownBlock = some j) W' := by
  refine ⟨by rw [itRow_snoc, List.length_append]; exact h1, fun j hj => .inr (.inl hj), fun p hp => ?_, fun p hp => (List.mem_append.1 hp).elim (h.sz p) (fun hp => by simp only [List.mem_singleton] at hp; subst hp; exact ⟨ne.sz, nb.sz⟩)⟩
  rcases List.mem_append.1 hp with hp | hp
  · obtain ⟨p1, p2, p3, p4⟩ := h.its p hp
    exact ⟨e p1, e p2, fun j hj => .inl (p3 j hj), fun j hj => .inl (p4 j hj)⟩
  · simp only [List.mem_singleton] at hp
    subst hp
    exact ⟨e ne.own, e nb.own, fun j hj => .inr (.inr (.inl hj)), fun j hj => .inr (.inr (.inr hj))⟩

/-- an append onto one of the two lists, and its store into the pair -/
structure Put (K : PK) (i : Nat) (v v' : Value) (n : Nat) (xs ys : List Value) (W W' : World) : Prop where
  ex : ∃ W8, W8.ownsRow K.B 71 6 v' (n + 1) (xs ++ ys) ∧ W.grownBy W8 v.ownBlock ∧ Grew W W8 v v' ∧ W' = W8.setCell ⟨K.pb, i, none⟩ v'

theorem Put.facts {K : PK} {i : Nat} {v v' : Value} {n : Nat} {xs ys : List Value} {W W' : World} {cs : Array Value} (h : Put K i v v' n xs ys W W') (hr : W.ownsRow K.B 71 6 v n xs) (hc : W.heap[K.pb]? = some (.cells cs 61 (0, 0))) :
    W'.heap[K.pb]? = some (.cells (cs.setIfInBounds i v') 61 (0, 0)) ∧ W'.ownsRow K.B 71 6 v' (n + 1) (xs ++ ys) ∧ (∀ j, j < W.heap.size → j ≠ K.pb → v.ownBlock ≠ some j → W'.heap[j]? = W.heap[j]?) ∧
      W.heap.size ≤ W'.heap.size ∧ (W'.os = W.os ∧ W'.tape = W.tape ∧ W'.output = W.output) ∧ (∀ j, v'.ownBlock = some j → (v.ownBlock = some j ∨ W.heap.size ≤ j) ∧ j < W'.heap.size ∧ j ≠ K.pb) := by
  obtain ⟨W8, h1, h2, h3, rfl⟩ := h.ex
  have hvp : v.ownBlock ≠ some K.pb := fun e => by
    obtain ⟨cs', fr, h4⟩ := ownsRow_block hr _ e
    exact cells_ne h4 hc (by decide) rfl
  have hpl := (Array.getElem?_eq_some_iff.1 hc).1
  have hc8 := (h2.block K.pb hpl (fun e => hvp e.symm)).trans hc
  have g := setCell_grown W8 K.pb i v'
  have hv' : ∀ j, v'.ownBlock = some j → (v.ownBlock = some j ∨ W.heap.size ≤ j) ∧ j < (W8.setCell ⟨K.pb, i, none⟩ v').heap.size ∧ j ≠ K.pb := by
    intro j hj
    have hlt := (h1.lt j hj).2
    have hpj : j ≠ K.pb := fun e => by
      subst e
      obtain ⟨cs', fr, h4⟩ := ownsRow_block h1 _ hj
      exact cells_ne h4 hc8 (by decide) rfl
    refine ⟨?_, by simpa using hlt, hpj⟩
    rcases h3 with ⟨g, n', cap', e1, e2⟩ | ⟨g, e1, e2, _⟩
    · rw [e2] at hj
      rw [e1]
      exact .inl hj
    · rw [e1] at hj
      have := Option.some.inj hj
      exact .inr (by omega)
  refine ⟨heap_setCell_same W8 K.pb i _ _ v' hc8, ownsRow_same h1 (fun j hj => g.block j (h1.lt j hj).2 (fun e => (hv' j hj).2.2 (Option.some.inj e))), fun j hj hn ho => (g.block j (Nat.lt_of_lt_of_le hj h2.size) (fun e => hn (Option.some.inj e))).trans (h2.block j hj (fun e => ho e.symm)), Nat.le_trans h2.size g.size, ⟨g.os.trans h2.os, g.tape.trans h2.tape, g.output.trans h2.output⟩, hv'⟩

theorem Pair.putC {K : PK} {fr : Nat} {s q : SM} {hv rv vc vc' vd : Value} {L M : List (Itm × Value × Value)} {O : Nat → Prop} {W W' : World} {it : Itm} {ve vb : Value} (h : Pair K fr s q hv rv vc vd L M O W) (hp : Put K 2 vc vc' L.length (itRow L) (itCells (it, ve, vb)) W W') (ne : New K O hv W ve it.ext) (nb : New K O hv W vb it.body) (ap : Far ve vb) :
    Pair K fr s q hv rv vc' vd (L ++ [(it, ve, vb)]) M (fun j => O j ∨ vc'.ownBlock = some j ∨ ve.ownBlock = some j ∨ vb.ownBlock = some j) W' := by
  obtain ⟨f1, f2, f3, f4, f5, f6⟩ := hp.facts h.came.row h.cell
  have hby : ∀ {B : Nat} {u : Value} {l : List UInt8}, OwnBytes W B 5 u l → OwnBytes W' B 5 u l := by
    intro B u l hu
    refine hu.cells (fun j cs t hj hh => f3 j (Array.getElem?_eq_some_iff.1 hh).1 (cells_ne hh h.cell (by decide)) (fun e => ?_))
    obtain ⟨cs', fr', h4⟩ := ownsRow_block h.came.row _ e
    exact cells_ne h4 hh (by decide) rfl
  have hno : ∀ j, j ≠ K.pb → vc.ownBlock ≠ some j → j < W.heap.size → W'.heap[j]? = W.heap[j]? := fun j h1 h2 h3 => f3 j h3 h1 h2
  have hbo := h.blt
  have hrc : vc.ownBlock ≠ some K.r := fun e => by
    obtain ⟨cs', fr', h4⟩ := ownsRow_block h.came.row _ e
    exact cells_ne h4 h.re.row (by decide) rfl
  have hO' : ∀ j, (O j ∨ vc'.ownBlock = some j ∨ ve.ownBlock = some j ∨ vb.ownBlock = some j) → K.B ≤ j ∧ j < W'.heap.size ∧ j ≠ K.b ∧ hv.ownBlock ≠ some j := by
    rintro j (hj | hj | hj | hj)
    · exact ⟨(h.ow j hj).1, Nat.lt_of_lt_of_le (h.ow j hj).2.1 f4, (h.ow j hj).2.2⟩
    · obtain ⟨q1, q2, q3⟩ := f6 j hj
      rcases q1 with q1 | q1
      · have := h.ow j (h.came.vo j q1)
        exact ⟨this.1, q2, this.2.2⟩
      · refine ⟨Nat.le_trans h.bb.2.2 q1, q2, fun e => ?_, fun e => ?_⟩
        · have := hbo _ (.inr (.inl e)); omega
        · have := hbo _ (.inr (.inr e)); omega
    · exact ⟨(ne.own.row.lt j hj).1, Nat.lt_of_lt_of_le (ne.own.row.lt j hj).2 f4, (ne.far j hj).2⟩
    · exact ⟨(nb.own.row.lt j hj).1, Nat.lt_of_lt_of_le (nb.own.row.lt j hj).2 f4, (nb.far j hj).2⟩
  refine ⟨⟨⟨(hno _ (fun e => (h.ow _ h.oo.1).2.2.1 e.symm) (fun e => (h.ow _ (h.came.vo _ e)).2.2.1 rfl) (hbo _ (.inr (.inl rfl)))).trans h.st.ins.row, hby h.st.ins.held, h.st.ins.lt, Nat.le_trans h.st.ins.le f4⟩, h.st.ok⟩,
    ⟨(hno _ (fun e => cells_ne h.re.row h.cell (by decide) e) hrc (h.ow _ h.oo.2.1).2.1).trans h.re.row, hby h.re.held, h.re.lt, Nat.le_trans h.re.le f4⟩, h.rel, h.okq, ?_, put_rows h.came f2 ne nb hby, ?_, ?_, ⟨.inl h.oo.1, .inl h.oo.2.1, fun j hj => .inl (h.oo.2.2 j hj)⟩, hO', ?_, ?_, ⟨h.bb.1, h.bb.2.1, Nat.le_trans h.bb.2.2 f4⟩⟩
  · simpa using f1
  · refine ⟨ownsRow_same h.want.row (fun j hj => hno j (fun e => ?_) (fun e => ?_) (h.ow j (h.want.vo j hj)).2.1), fun j hj => .inl (h.want.vo j hj), fun p hp => ?_, h.want.sz⟩
    · obtain ⟨cs', fr', h4⟩ := ownsRow_block h.want.row _ hj
      exact cells_ne h4 h.cell (by decide) e
    · rcases h.ne with h5 | h5
      · rw [h5] at e; simp at e
      · exact h5 (e.trans hj.symm)
    · obtain ⟨p1, p2, p3, p4⟩ := h.want.its p hp
      exact ⟨hby p1, hby p2, fun j hj => .inl (p3 j hj), fun j hj => .inl (p4 j hj)⟩
  · rw [rowsL_snoc]
    refine List.pairwise_append.2 ⟨h.dist, by simpa using ap, fun u hu v hv' => ?_⟩
    have hOu := (h.came.rows hu).2
    have key : ∀ {w : Value} {l : List UInt8}, New K O hv W w l → Far u w := by
      intro w l hw
      unfold Far
      cases hu' : u.ownBlock with
      | none => exact .inl rfl
      | some j => exact .inr (fun e => (hw.far j e.symm).1 (hOu j hu'))
    simp only [List.mem_cons, List.not_mem_nil, or_false] at hv'
    rcases hv' with rfl | rfl
    · exact key ne
    · exact key nb
  · unfold Far
    cases hu' : vc'.ownBlock with
    | none => exact .inl rfl
    | some j =>
      refine .inr fun e => ?_
      rcases (f6 j hu').1 with h5 | h5
      · rcases h.ne with h6 | h6
        · rw [h6] at h5; simp at h5
        · exact h6 (h5.trans e)
      · have := (h.ow j (h.want.vo j e.symm)).2.1
        omega
  · intro u hu
    rw [rowsL_snoc, List.mem_append, List.mem_append] at hu
    have key : ∀ {w : Value} {l : List UInt8}, New K O hv W w l → Far w rv := by
      intro w l hw
      unfold Far
      cases hu' : w.ownBlock with
      | none => exact .inl rfl
      | some j => exact .inr (fun e => (hw.far j hu').1 (h.oo.2.2 j e.symm))
    rcases hu with (hu | hu) | hu
    · exact h.rvn u (List.mem_append.2 (.inl hu))
    · simp only [List.mem_cons, List.not_mem_nil, or_false] at hu
      rcases hu with rfl | rfl
      · exact key ne
      · exact key nb
    · exact h.rvn u (List.mem_append.2 (.inr hu))

theorem Pair.putD {K : PK} {fr : Nat} {s q : SM} {hv rv vc vd vd' : Value} {L M : List (Itm × Value × Value)} {O : Nat → Prop} {W W' : World} {it : Itm} {ve vb : Value} (h : Pair K fr s q hv rv vc vd L M O W) (hp : Put K 3 vd vd' M.length (itRow M) (itCells (it, ve, vb)) W W') (ne : New K O hv W ve it.ext) (nb : New K O hv W vb it.body) :
    Pair K fr s q hv rv vc vd' L (M ++ [(it, ve, vb)]) (fun j => O j ∨ vd'.ownBlock = some j ∨ ve.ownBlock = some j ∨ vb.ownBlock = some j) W' := by
  obtain ⟨f1, f2, f3, f4, f5, f6⟩ := hp.facts h.want.row h.cell
  have hby : ∀ {B : Nat} {u : Value} {l : List UInt8}, OwnBytes W B 5 u l → OwnBytes W' B 5 u l := by
    intro B u l hu
    refine hu.cells (fun j cs t hj hh => f3 j (Array.getElem?_eq_some_iff.1 hh).1 (cells_ne hh h.cell (by decide)) (fun e => ?_))
    obtain ⟨cs', fr', h4⟩ := ownsRow_block h.want.row _ e
    exact cells_ne h4 hh (by decide) rfl
  have hno : ∀ j, j ≠ K.pb → vd.ownBlock ≠ some j → j < W.heap.size → W'.heap[j]? = W.heap[j]? := fun j h1 h2 h3 => f3 j h3 h1 h2
  have hbo := h.blt
  have hrc : vd.ownBlock ≠ some K.r := fun e => by
    obtain ⟨cs', fr', h4⟩ := ownsRow_block h.want.row _ e
    exact cells_ne h4 h.re.row (by decide) rfl
  have hO' : ∀ j, (O j ∨ vd'.ownBlock = some j ∨ ve.ownBlock = some j ∨ vb.ownBlock = some j) → K.B ≤ j ∧ j < W'.heap.size ∧ j ≠ K.b ∧ hv.ownBlock ≠ some j := by
    rintro j (hj | hj | hj | hj)
    · exact ⟨(h.ow j hj).1, Nat.lt_of_lt_of_le (h.ow j hj).2.1 f4, (h.ow j hj).2.2⟩
    · obtain ⟨q1, q2, q3⟩ := f6 j hj
      rcases q1 with q1 | q1
      · have := h.ow j (h.want.vo j q1)
        exact ⟨this.1, q2, this.2.2⟩
      · refine ⟨Nat.le_trans h.bb.2.2 q1, q2, fun e => ?_, fun e => ?_⟩
        · have := hbo _ (.inr (.inl e)); omega
        · have := hbo _ (.inr (.inr e)); omega
    · exact ⟨(ne.own.row.lt j hj).1, Nat.lt_of_lt_of_le (ne.own.row.lt j hj).2 f4, (ne.far j hj).2⟩
    · exact ⟨(nb.own.row.lt j hj).1, Nat.lt_of_lt_of_le (nb.own.row.lt j hj).2 f4, (nb.far j hj).2⟩
  refine ⟨⟨⟨(hno _ (fun e => (h.ow _ h.oo.1).2.2.1 e.symm) (fun e => (h.ow _ (h.want.vo _ e)).2.2.1 rfl) (hbo _ (.inr (.inl rfl)))).trans h.st.ins.row, hby h.st.ins.held, h.st.ins.lt, Nat.le_trans h.st.ins.le f4⟩, h.st.ok⟩,
    ⟨(hno _ (fun e => cells_ne h.re.row h.cell (by decide) e) hrc (h.ow _ h.oo.2.1).2.1).trans h.re.row, hby h.re.held, h.re.lt, Nat.le_trans h.re.le f4⟩, h.rel, h.okq, ?_, ?_, put_rows h.want f2 ne nb hby, h.dist, ⟨.inl h.oo.1, .inl h.oo.2.1, fun j hj => .inl (h.oo.2.2 j hj)⟩, hO', ?_, ?_, ⟨h.bb.1, h.bb.2.1, Nat.le_trans h.bb.2.2 f4⟩⟩
  · simpa using f1
  · refine ⟨ownsRow_same h.came.row (fun j hj => hno j (fun e => ?_) (fun e => ?_) (h.ow j (h.came.vo j hj)).2.1), fun j hj => .inl (h.came.vo j hj), fun p hp => ?_, h.came.sz⟩
    · obtain ⟨cs', fr', h4⟩ := ownsRow_block h.came.row _ hj
      exact cells_ne h4 h.cell (by decide) e
    · rcases h.ne with h5 | h5
      · rw [h5] at hj; simp at hj
      · exact h5 (hj.trans e.symm)
    · obtain ⟨p1, p2, p3, p4⟩ := h.came.its p hp
      exact ⟨hby p1, hby p2, fun j hj => .inl (p3 j hj), fun j hj => .inl (p4 j hj)⟩
  · unfold Far
    cases hu' : vc.ownBlock with
    | none => exact .inl rfl
    | some j =>
      refine .inr fun e => ?_
      rcases (f6 j e.symm).1 with h5 | h5
      · rcases h.ne with h6 | h6
        · rw [h6] at hu'; simp at hu'
        · exact h6 (hu'.trans h5.symm)
      · have := (h.ow j (h.came.vo j hu')).2.1
        omega
  · intro u hu
    rw [rowsL_snoc, List.mem_append, List.mem_append] at hu
    have key : ∀ {w : Value} {l : List UInt8}, New K O hv W w l → Far w rv := by
      intro w l hw
      unfold Far
      cases hu' : w.ownBlock with
      | none => exact .inl rfl
      | some j => exact .inr (fun e => (hw.far j hu').1 (h.oo.2.2 j e.symm))
    rcases hu with hu | hu | hu
    · exact h.rvn u (List.mem_append.2 (.inl hu))
    · exact h.rvn u (List.mem_append.2 (.inr hu))
    · simp only [List.mem_cons, List.not_mem_nil, or_false] at hu
      rcases hu with rfl | rfl
      · exact key ne
      · exact key nb
end Go.Proofs.Ytofdpccjpodbhaa
