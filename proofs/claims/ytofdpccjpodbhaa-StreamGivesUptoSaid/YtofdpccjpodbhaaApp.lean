/-
  Appending a row of bytes, or a struct just laid, onto a row of the call's own. They speak of no program. No conditions.
-/
import Derived.Test.YtofdpccjpodbhaaLib3
namespace Go.Proofs.Ytofdpccjpodbhaa
open Go.RowKit
set_option linter.unusedVariables false

theorem run_append_none {P : Program} (w : World) (B t ty e : Nat) (i : TypeInfo) (size : Nat) (ht : P.underlying t = some (.slice e)) (hi : P.info? e = some i) (hsz : i.size = size)
    (v : Value) (n c : Nat) (xs : List Value) (hown : w.ownsRow B e size v n xs) : (Builtin.append_ #[t, t] ty #[v, .slice none 0 c]).run P w = .ok v w := by
  rcases hown.2 with ⟨rfl, rfl⟩ | ⟨g, cap, cur, rfl, hbg, hg, hnc, hcm, hcs, htake⟩
  · simp [Builtin.append_, run_underlying ht, sizeOf, typeInfo, hi, Builtin.lenOf, Builtin.firstCells]
  · simp [Builtin.append_, run_underlying ht, sizeOf, typeInfo, hi, Builtin.lenOf, Builtin.firstCells, loadCells, hnc, storeCells]

theorem run_append_bytes {P : Program} (w : World) (B t ty e : Nat) (ht : P.underlying t = some (.slice e)) (hinfo : (P.info? e).map (fun i => (i.zero, i.size, i.bytes)) = some (some (.int .u8 0), 1, 1))
    (v : Value) (l r : List UInt8) (xa : Option Addr) (n c : Nat) (hown : OwnBytes w B e v l) (hr : BytesIn w xa n c r) (hlen : l.length + n ≤ 140737488355328) (hbase : B ≤ w.heap.size) :
    ∃ v' w', (Builtin.append_ #[t, t] ty #[v, .slice xa n c]).run P w = .ok v' w' ∧ OwnBytes w' B e v' (l ++ r) ∧ w.grownBy w' v.ownBlock := by
  obtain ⟨i, hi, hzz⟩ := Option.map_eq_some_iff.1 hinfo
  simp only [Prod.mk.injEq] at hzz
  obtain ⟨hz, hsz, hb⟩ := hzz
  have hrl := hr.len
  cases xa with
  | none =>
    have hn : n = 0 := by
      have := hr.le
      rcases Nat.eq_zero_or_pos c with h0 | h0
      · omega
      · obtain ⟨_, _, h, _⟩ := hr.at_ h0
        simp at h
    subst hn
    obtain rfl : r = [] := List.eq_nil_of_length_eq_zero hrl
    refine ⟨v, w, run_append_none w B t ty e i 1 ht hi hsz v _ c _ hown.row, by rw [List.append_nil]; exact hown, ⟨rfl, rfl, rfl, Nat.le_refl _, fun _ _ _ => rfl⟩⟩
  | some ad =>
    obtain ⟨v', w', h1, h2, h3, _⟩ := run_append_own (P := P) w B t ty e i (.int .u8 0) 1 1 ht hi hz hsz hb rfl (by decide) v l.length (l.map byteV) hown.row ad n c (r.map byteV) (by rw [List.length_map, hrl, Nat.mul_one]) (by
      intro j u hj
      have hjl : j < n := by
        have := (List.getElem?_eq_some_iff.1 hj).1
        rw [List.length_map, hrl] at this
        exact this
      obtain ⟨b, o, e', _, hc⟩ := hr.at_ (by have := hr.le; omega)
      simp only [Option.some.injEq] at e'
      subst e'
      have hadd : (⟨b, o, none⟩ : Addr).add j = ⟨b, o + j, none⟩ := by unfold Addr.add; split <;> simp_all
      rw [hadd, hc j hjl, ← hj, List.getElem?_map, List.getD_eq_getElem?_getD, List.getElem?_eq_getElem (by omega)]
      simp [byteV]) (by
      intro u hu
      obtain ⟨x, _, rfl⟩ := List.mem_map.1 hu
      rfl) (by unfold maxLen; omega) (by omega) hbase
    refine ⟨v', w', h1, ⟨?_⟩, h3⟩
    rw [List.length_append, hrl, List.map_append]
    exact h2

/-- 'append(s, r...)' -/
theorem wpList_append_bytes {P : Program} {w : World} {ops : Array Oper} {rest : List Oper} {o : Oper} {a : Act} {Q : Exit → Act → World → Prop} (hgd : o.guard = none)
    (s x : Operand) (t : TypeId) (ho : o.op = .call { callee := .builtin .append, args := #[s, x], argTypes := #[t, t] })
    (B e : Nat) (ht : P.underlying t = some (.slice e)) (hinfo : (P.info? e).map (fun i => (i.zero, i.size, i.bytes)) = some (some (.int .u8 0), 1, 1))
    (v : Value) (l r : List UInt8) (xa : Option Addr) (n c : Nat)
    (hs : a.eval s = v) (hx : a.eval x = .slice xa n c) (hown : OwnBytes w B e v l) (hr : BytesIn w xa n c r)
    (hlen : l.length + n ≤ 140737488355328) (hbase : B ≤ w.heap.size)
    (h : ∀ v' w', OwnBytes w' B e v' (l ++ r) → w.grownBy w' v.ownBlock → wpList P ops Q rest (a.put o.dst v') w') :
    wpList P ops Q (o :: rest) a w := by
  refine wpList_plain hgd fun K hK => ?_
  obtain ⟨v', w', h1, h2, h3⟩ := run_append_bytes (P := P) w B t o.type e ht hinfo v l r xa n c hown hr hlen hbase
  unfold Oper.wp execOp
  simp only [ho, resolve, invoke, builtin, Sem.run_bind, Sem.run_pure, Result.andThen_ok, List.map_toArray, List.map_cons, List.map_nil, hs, hx, h1]
  exact hK _ _ (h v' w' h2 h3)

/-- 'append(s, y)' of a struct of some cells, in the block that the statement has just laid -/
theorem wpList_append_struct {P : Program} {wr : World} {ops : Array Oper} {rest : List Oper} {o : Oper} {a : Act} {Q : Exit → Act → World → Prop} (hgd : o.guard = none)
    (s x : Operand) (t : TypeId) (ho : o.op = .call { callee := .builtin .append, args := #[s, x], argTypes := #[t, t] })
    (B e : Nat) (z : Value) (size bytes : Nat) (ht : P.underlying t = some (.slice e)) (hinfo : (P.info? e).map (fun i => (i.zero, i.size, i.bytes)) = some (some z, size, bytes)) (hz1 : z.cells.size = size) (hpos : 0 < size)
    (v : Value) (n : Nat) (xs ys : List Value) (hyl : ys.length = size) (hy : ∀ u ∈ ys, u.oneCell' = true)
    (hs : a.eval s = v) (hx : a.eval x = .slice (some ⟨wr.heap.size, 0, none⟩) 1 1) (hown : wr.ownsRow B e size v n xs)
    (h63 : n + 1 ≤ maxLen) (hbytes : (n + 1) * bytes ≤ 140737488355328) (hbase : B ≤ wr.heap.size)
    (h : ∀ v' w', w'.ownsRow B e size v' (n + 1) (xs ++ ys) → wr.grownBy w' v.ownBlock → wpList P ops Q rest (a.put o.dst v') w') :
    wpList P ops Q (o :: rest) a (wr.alloc (.cells ys.toArray e)) := by
  obtain ⟨i, hi, hzz⟩ := Option.map_eq_some_iff.1 hinfo
  simp only [Prod.mk.injEq] at hzz
  obtain ⟨hz, hsz, hb⟩ := hzz
  refine wpList_plain hgd fun K hK => ?_
  obtain ⟨v', w', hr, h2, h3, h4⟩ := run_append_own (P := P) (wr.alloc (.cells ys.toArray e)) B t o.type e i z size bytes ht hi hz hsz hb hz1 hpos v n xs (hown.alloc _) ⟨wr.heap.size, 0, none⟩ 1 1 ys (by rw [hyl, Nat.one_mul]) (by
      intro j u hj
      have hadd : (⟨wr.heap.size, 0, none⟩ : Addr).add j = ⟨wr.heap.size, 0 + j, none⟩ := by unfold Addr.add; split <;> simp_all
      rw [hadd, Nat.zero_add]
      simp only [World.cell?, heap_alloc_new]
      simpa using hj) hy h63 hbytes (by simp; omega)
  have hg : wr.grownBy w' v.ownBlock :=
    ⟨h3.os, h3.tape, h3.output, Nat.le_trans (by simp) h3.size, fun k hk hne => (h3.block k (by simp; omega) hne).trans (Below.heap_alloc wr _ k hk)⟩
  unfold Oper.wp execOp
  simp only [ho, resolve, invoke, builtin, Sem.run_bind, Sem.run_pure, Result.andThen_ok, List.map_toArray, List.map_cons, List.map_nil, hs, hx, hr]
  exact hK _ _ (h v' w' h2 hg)
end Go.Proofs.Ytofdpccjpodbhaa
