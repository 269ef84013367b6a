/-
  A list of items in memory, and appending one to it in a loop's body. Conditions: the list is the function's own.
-/
import Derived.Test.YtofdpccjpodbhaaStrC
namespace Go.Proofs.Ytofdpccjpodbhaa
open Go.RowKit
set_option linter.unusedVariables false

attribute [local go_sem] Oper.semAt_some

theorem append_grewN {P : Program} {w w' : World} {base t ty e size : Nat} {i : TypeInfo} {z v v' : Value} {bytes n : Nat} {xs ys : List Value} (ht : P.underlying t = some (.slice e)) (hi : P.info? e = some i) (hz : i.zero = some z)
    (hsize : i.size = size) (hby : i.bytes = bytes) (hown : w.ownsRow base e size v n xs)
    (a : Addr) (c : Nat) (hl : ys.length = size) (hnews : ∀ j u, ys[j]? = some u → w.cell? (a.add j) = some u) (h1 : ∀ u ∈ ys, u.oneCell' = true) (h63 : n + 1 ≤ maxLen) (hbytes : (n + 1) * bytes ≤ 140737488355328)
    (hr : (Builtin.append_ #[t, t] ty #[v, .slice (some a) 1 c]).run P w = .ok v' w') : Grew w w' v v' := by
  have hl1 : ys.length = 1 * i.size := by rw [hsize, hl, Nat.one_mul]
  have hm : n + 1 ≤ 9223372036854775807 := by unfold maxLen at h63; omega
  rcases hown.2 with ⟨rfl, rfl⟩ | ⟨g, cap, cur, rfl, hbg, hg, hnc, hcm, hcs, htake⟩
  · have hq := run_append_nil (P := P) w t ty e i z ht hi hz a 1 c ys hl1 hnews (by decide) (by decide) (by rw [hby]; omega)
    rw [hr] at hq
    simp only [Result.ok.injEq] at hq
    refine .inr ⟨w.heap.size, by rw [hq.1]; rfl, Nat.le_refl _, fun k hk => ?_⟩
    rw [hq.2]; exact Below.heap_alloc w.drew _ k hk
  · by_cases hroom : n + 1 ≤ cap
    · have hq := run_append_room (P := P) w t ty e i ht hi g n cap cur hg a 1 c ys hl1 hnews h1 hroom (by rw [hsize, hcs, hl]; have h9 := Nat.mul_le_mul_right size hroom; rw [Nat.add_mul, Nat.one_mul] at h9; exact h9)
      rw [hr] at hq
      simp only [Result.ok.injEq] at hq
      exact .inl ⟨g, n, cap, rfl, by rw [hq.1]⟩
    · have holds : ∀ j u, xs[j]? = some u → w.cell? ((⟨g, 0, none⟩ : Addr).add j) = some u := hown.cells (g := g) rfl
      have hq := run_append_grow (P := P) w t ty e i z ht hi hz ⟨g, 0, none⟩ n cap xs (by rw [hsize]; exact hown.1) holds a 1 c ys hl1 hnews (by omega) (by omega) (growslice_fits (by omega) (by rw [hby]; exact hbytes))
      rw [hr] at hq
      simp only [Result.ok.injEq] at hq
      refine .inr ⟨w.heap.size, by rw [hq.1]; rfl, Nat.le_refl _, fun k hk => ?_⟩
      rw [hq.2]; exact Below.heap_alloc w.drew _ k hk

/-- 'append(s, y)' of a struct of some cells, in the block that the statement has just laid, within a round -/
theorem wpListIn_append_struct {F : Fence} {nn : Nat} {P : Program} {wr : World} {ops : Array Oper} {rest : List Oper} {o : Oper} {a : Act} {Q : Exit → Act → World → Prop} (hgd : o.guard = none)
    (s x : Operand) (t : TypeId) (ho : o.op = .call { callee := .builtin .append, args := #[s, x], argTypes := #[t, t] })
    (B e : Nat) (z : Value) (size bytes : Nat) (ht : P.underlying t = some (.slice e)) (hinfo : (P.info? e).map (fun i => (i.zero, i.size, i.bytes)) = some (some z, size, bytes)) (hz1 : z.cells.size = size) (hpos : 0 < size)
    (v : Value) (n : Nat) (xs ys : List Value) (hyl : ys.length = size) (hy : ∀ u ∈ ys, u.oneCell' = true)
    (hs : a.eval s = v) (hx : a.eval x = .slice (some ⟨wr.heap.size, 0, none⟩) 1 1) (hown : wr.ownsRow B e size v n xs)
    (h63 : n + 1 ≤ maxLen) (hbytes : (n + 1) * bytes ≤ 140737488355328) (hbase : B ≤ wr.heap.size)
    (h : ∀ v' w', w'.ownsRow B e size v' (n + 1) (xs ++ ys) → wr.grownBy w' v.ownBlock → Grew wr w' v v' → wpListIn F nn P ops Q rest (a.put o.dst v') w') :
    wpListIn F nn P ops Q (o :: rest) a (wr.alloc (.cells ys.toArray e)) := by
  obtain ⟨i, hi, hzz⟩ := Option.map_eq_some_iff.1 hinfo
  simp only [Prod.mk.injEq] at hzz
  obtain ⟨hz, hsz, hb⟩ := hzz
  have hnews : ∀ j u, ys[j]? = some u → (wr.alloc (.cells ys.toArray e)).cell? ((⟨wr.heap.size, 0, none⟩ : Addr).add j) = some u := by
    intro j u hj
    have hadd : (⟨wr.heap.size, 0, none⟩ : Addr).add j = ⟨wr.heap.size, 0 + j, none⟩ := by unfold Addr.add; split <;> simp_all
    rw [hadd, Nat.zero_add]
    simp only [World.cell?, heap_alloc_new]
    simpa using hj
  refine wpListIn_plain hgd fun K hK => ?_
  obtain ⟨v', w', hr, h2, h3, h4⟩ := run_append_own (P := P) (wr.alloc (.cells ys.toArray e)) B t o.type e i z size bytes ht hi hz hsz hb hz1 hpos v n xs (hown.alloc _) ⟨wr.heap.size, 0, none⟩ 1 1 ys (by rw [hyl, Nat.one_mul]) hnews hy h63 hbytes (by simp; omega)
  have hf := append_grewN ht hi hz hsz hb (hown.alloc (.cells ys.toArray e)) ⟨wr.heap.size, 0, none⟩ 1 hyl hnews hy h63 hbytes hr
  have hg : wr.grownBy w' v.ownBlock :=
    ⟨h3.os, h3.tape, h3.output, Nat.le_trans (by simp) h3.size, fun k hk hne => (h3.block k (by simp; omega) hne).trans (Below.heap_alloc wr _ k hk)⟩
  have hf' : Grew wr w' v v' := by
    rcases hf with hf | ⟨g, hf1, hf2, hf3⟩
    · exact .inl hf
    · exact .inr ⟨g, hf1, by simp at hf2; omega, fun k hk => (hf3 k (by simp; omega)).trans (Below.heap_alloc wr _ k hk)⟩
  unfold Oper.wpIn
  refine ⟨?_, ?_⟩
  · simp [Oper.about, ho, resolve, Target.leads, Sem.run_pure]
  · rw [Oper.semAt_plain F _ _ (by rw [ho]; intro c hc'; cases hc')]
    simp only [execOp, ho, resolve, invoke, builtin, Sem.run_bind, Sem.run_pure, Result.andThen_ok, List.map_toArray, List.map_cons, List.map_nil, hs, hx, hr]
    exact hK _ _ (h v' w' h2 hg hf')

/-- an item's cells, with where its bytes lie -/
def itCells (p : Itm × Value × Value) : List Value := [.int .i64 p.1.kind, .int .i64 p.1.proto, .int .i64 p.1.T, .int .i64 p.1.ch, p.2.1, p.2.2]
def itRow (L : List (Itm × Value × Value)) : List Value := L.flatMap itCells

theorem ownsRow_same {w w' : World} {B T k n : Nat} {v : Value} {xs : List Value} (h : w.ownsRow B T k v n xs) (e : ∀ j, v.ownBlock = some j → w'.heap[j]? = w.heap[j]?) : w'.ownsRow B T k v n xs := by
  obtain ⟨h1, h2⟩ := h
  refine ⟨h1, ?_⟩
  rcases h2 with h2 | ⟨g, cap, cur, e1, hg, hh, r⟩
  · exact .inl h2
  · exact .inr ⟨g, cap, cur, e1, hg, (e g (by rw [e1]; rfl)).trans hh, r⟩

/-- a list of items: gO its variable's block; O: the blocks that it is made of -/
structure OutL (B gO : Nat) (L : List (Itm × Value × Value)) (O : Nat → Prop) (W : World) : Prop where
  cell : ∃ vl, W.heap[gO]? = some (.cells #[vl] 47 (0, 0)) ∧ W.ownsRow B 71 6 vl L.length (itRow L) ∧ ∀ j, vl.ownBlock = some j → O j
  its : ∀ p ∈ L, OwnBytes W B 5 p.2.1 p.1.ext ∧ OwnBytes W B 5 p.2.2 p.1.body ∧ (∀ j, p.2.1.ownBlock = some j → O j) ∧ ∀ j, p.2.2.ownBlock = some j → O j
  og : O gO

theorem OwnBytes.cells {w w' : World} {B T : Nat} {v : Value} {l : List UInt8} (h : OwnBytes w B T v l) (e : ∀ j cs fr, v.ownBlock = some j → w.heap[j]? = some (.cells cs T fr) → w'.heap[j]? = w.heap[j]?) : OwnBytes w' B T v l := by
  obtain ⟨h1, h2⟩ := h.row
  refine ⟨⟨h1, ?_⟩⟩
  rcases h2 with h2 | ⟨g, cap, cur, e1, hg, hh, r⟩
  · exact .inl h2
  · exact .inr ⟨g, cap, cur, e1, hg, (e g _ _ (by rw [e1]; rfl) hh).trans hh, r⟩

theorem ownsRow_cells {w w' : World} {B T k n : Nat} {v : Value} {xs : List Value} (h : w.ownsRow B T k v n xs) (e : ∀ j cs fr, v.ownBlock = some j → w.heap[j]? = some (.cells cs T fr) → w'.heap[j]? = w.heap[j]?) : w'.ownsRow B T k v n xs := by
  obtain ⟨h1, h2⟩ := h
  refine ⟨h1, ?_⟩
  rcases h2 with h2 | ⟨g, cap, cur, e1, hg, hh, r⟩
  · exact .inl h2
  · exact .inr ⟨g, cap, cur, e1, hg, (e g _ _ (by rw [e1]; rfl) hh).trans hh, r⟩

theorem OutL.keep {B gO : Nat} {L : List (Itm × Value × Value)} {O : Nat → Prop} {W W' : World} (h : OutL B gO L O W) (e : ∀ j cs t fr, O j → W.heap[j]? = some (.cells cs t fr) → W'.heap[j]? = W.heap[j]?) : OutL B gO L O W' := by
  obtain ⟨vl, h1, h2, h3⟩ := h.cell
  refine ⟨⟨vl, (e gO _ _ _ h.og h1).trans h1, ownsRow_cells h2 (fun j cs fr hj hh => e j _ _ _ (h3 j hj) hh), h3⟩, fun p hp => ?_, h.og⟩
  obtain ⟨q1, q2, q3, q4⟩ := h.its p hp
  exact ⟨q1.cells (fun j cs fr hj hh => e j _ _ _ (q3 j hj) hh), q2.cells (fun j cs fr hj hh => e j _ _ _ (q4 j hj) hh), q3, q4⟩

theorem feed_len (l : List UInt8) (s : SM) : (feed s l).2.length ≤ l.length := by
  induction l generalizing s with
  | nil => simp [feed]
  | cons c t ih =>
    have hc : feed s (c :: t) = feed s ([c] ++ t) := rfl
    rw [hc, feed_append]
    simp only [List.length_append, List.length_cons]
    have h1 : (feed s [c]).2.length ≤ 1 := by
      show (if (stepE s c).2.kind = 0 then ([] : List Itm) else [] ++ [(stepE s c).2]).length ≤ 1
      split <;> simp
    have := ih (feed s [c]).1
    omega
end Go.Proofs.Ytofdpccjpodbhaa
