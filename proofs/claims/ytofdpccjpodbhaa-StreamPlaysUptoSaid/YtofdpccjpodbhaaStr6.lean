/-
  The stream's iterator over a chunk: each byte is one step of the machine; each item that is whole is yielded. Conditions: the stream lies in a block of its own; the chunk lies elsewhere.
-/
import Derived.Test.YtofdpccjpodbhaaMg15
import Derived.Deep.QuietTactic
import Derived.BigQuiet
import Derived.Test.YtofdpccjpodbhaaMg02
namespace Go.Proofs.Ytofdpccjpodbhaa
open Go.RowKit
set_option linter.unusedVariables false

/-- one byte more is held -/
def SM.take1 (s : SM) (c : UInt8) : SM := { s with held := s.held ++ [c], taken := wrap64 (s.taken + 1) }
/-- one byte is taken -/
def step (s : SM) (c : UInt8) : SM × Itm := next1 (s.take1 c)

/-- between two bytes -/
structure Ok (s : SM) : Prop where
  most : s.most ≤ 1048576
  size : s.size ≤ 1048576
  ph : s.ph ≤ 4
  bad : s.err ≠ 0 → s.held = []
  len : s.err = 0 → (s.ph = 0 ∧ s.held.length < 8) ∨ (s.ph = 1 ∧ s.held.length < 4) ∨ (s.ph = 2 ∧ s.held.length = 4 ∧ 8 ≤ s.size) ∨ (s.ph = 3 ∧ s.held.length = 5 ∧ 8 ≤ s.size) ∨ (s.ph = 4 ∧ 6 ≤ s.held.length ∧ s.held.length < s.size)

theorem Ok.pre {s : SM} (h : Ok s) (he : s.err = 0) (c : UInt8) : Pre (s.take1 c) := by
  have h1 := h.len he
  refine ⟨h.most, h.size, ?_⟩
  simp only [SM.take1, List.length_append, List.length_singleton]
  omega

theorem readH_full {l : List UInt8} (h : l.length = 8) : (readH l 0).2.2 ≠ 10 := by
  have := readH_in l 0 l (Nat.zero_le _) (by rw [List.drop_zero, List.take_of_length_le (by omega)])
  simp only [Int.natCast_zero] at this
  rw [this]
  split
  · simp
  · rw [if_neg (by omega)]
    simp

theorem Ok.step {s : SM} (h : Ok s) (he : s.err = 0) (c : UInt8) : Ok (step s c).1 := by
  have hp := h.pre he c
  obtain ⟨ph, l, t, a, mo, sz, hr, kd, er⟩ := s
  obtain ⟨hmo, hsz, hlen⟩ := hp
  have hl := h.len he
  simp only at he hl
  subst he
  simp only [SM.take1] at hmo hsz hlen
  unfold Go.Proofs.Ytofdpccjpodbhaa.step SM.take1
  simp only
  generalize hL : l ++ [c] = L at hlen ⊢
  have hLl : L.length = l.length + 1 := by rw [← hL]; simp
  unfold next1
  simp only
  split
  · rename_i h0
    split
    · rename_i h10
      refine ⟨hmo, hsz, by simp only; omega, fun hq => by simp at hq, fun _ => ?_⟩
      simp only
      have : L.length ≠ 8 := fun hq => readH_full hq h10
      omega
    · split
      · exact ⟨hmo, hsz, by simp [SM.tell], fun hq => by simp [SM.tell] at hq, fun _ => by simp [SM.tell]⟩
      · rename_i h1 h2
        exact ⟨hmo, hsz, by simp only [SM.fail]; omega, fun hq => rfl, fun hq => absurd hq h2⟩
  · split
    · split
      · exact ⟨hmo, hsz, by simp only; omega, fun hq => by simp at hq, fun _ => by simp only; omega⟩
      · split
        · exact ⟨hmo, hsz, by simp only [SM.fail]; omega, fun hq => rfl, fun hq => by simp [SM.fail] at hq⟩
        · split
          · exact ⟨hmo, hsz, by simp only [SM.fail]; omega, fun hq => rfl, fun hq => by simp [SM.fail] at hq⟩
          · refine ⟨hmo, by simp only; omega, by simp, fun hq => by simp at hq, fun _ => ?_⟩
            exact .inr (.inr (.inl ⟨rfl, by simp only; omega, by simp only; omega⟩))
    · split
      · split
        · exact ⟨hmo, hsz, by simp only [SM.fail]; omega, fun hq => rfl, fun hq => by simp [SM.fail] at hq⟩
        · refine ⟨hmo, hsz, by simp, fun hq => by simp at hq, fun _ => ?_⟩
          exact .inr (.inr (.inr (.inl ⟨rfl, by simp only; omega, by simp only; omega⟩)))
      · split
        · split
          · exact ⟨hmo, hsz, by simp only [SM.fail]; omega, fun hq => rfl, fun hq => by simp [SM.fail] at hq⟩
          · split
            · exact ⟨hmo, hsz, by simp only [SM.fail]; omega, fun hq => rfl, fun hq => by simp [SM.fail] at hq⟩
            · refine ⟨hmo, hsz, by simp, fun hq => by simp at hq, fun _ => ?_⟩
              exact .inr (.inr (.inr (.inr ⟨rfl, by simp only; omega, by simp only; omega⟩)))
        · split
          · refine ⟨hmo, hsz, by simp only; omega, fun hq => by simp at hq, fun _ => ?_⟩
            simp only
            omega
          · split
            · exact ⟨hmo, hsz, by simp [SM.tell], fun hq => by simp [SM.tell] at hq, fun _ => by simp [SM.tell]⟩
            · rename_i h2
              exact ⟨hmo, hsz, by simp only [SM.fail]; omega, fun hq => rfl, fun hq => absurd hq h2⟩

/-- the stream's own moves: its block, its held bytes, new blocks -/
structure Mv (b : Nat) (hv : Value) (W : World) (hv' : Value) (W' : World) : Prop where
  os : W'.os = W.os
  tape : W'.tape = W.tape
  output : W'.output = W.output
  size : W.heap.size ≤ W'.heap.size
  block : ∀ k, k < W.heap.size → k ≠ b → hv.ownBlock ≠ some k → W'.heap[k]? = W.heap[k]?
  hv : hv'.ownBlock = none ∨ hv'.ownBlock = hv.ownBlock ∨ ∃ g, hv'.ownBlock = some g ∧ W.heap.size ≤ g

theorem mv_of {b : Nat} {hv h8 hv' : Value} {W W8 W' : World} (hg : W.grownBy W8 hv.ownBlock) (hf : Grew W W8 hv h8) (hg' : W8.grownBy W' (some b)) (h : hv' = .slice none 0 0 ∨ hv'.ownBlock = h8.ownBlock) : Mv b hv W hv' W' := by
  refine ⟨hg'.os.trans hg.os, hg'.tape.trans hg.tape, hg'.output.trans hg.output, Nat.le_trans hg.size hg'.size, fun k hk hb hne => ?_, ?_⟩
  · rw [hg'.block k (Nat.lt_of_lt_of_le hk hg.size) (fun h => hb (Option.some.inj h)), hg.block k hk (fun h => hne h.symm)]
  · rcases h with rfl | h
    · exact .inl rfl
    · rcases hf with ⟨g, n, cap, rfl, rfl⟩ | ⟨g, h1, h2, _⟩
      · exact .inr (.inl h)
      · exact .inr (.inr ⟨g, h.trans h1, h2⟩)

/-- 'append(s, y)' of a byte, in a region that draws its order -/
theorem step_append_grew {P : Program} {wr : World} {ops : Array Oper} {o : Oper} {a : Act} {K : Act → World → Prop} {Q : Exit → Act → World → Prop} {E : Prop} (hgd : o.guard = none)
    (s x : Operand) (t : TypeId) (ho : o.op = .call { callee := .builtin .append, args := #[s, x], argTypes := #[t, t] })
    (B e : Nat) (ht : P.underlying t = some (.slice e)) (hinfo : (P.info? e).map (fun i => (i.zero, i.size, i.bytes)) = some (some (.int .u8 0), 1, 1))
    (v : Value) (l : List UInt8) (y : UInt8) (yv : Value)
    (hs : a.eval s = v) (hx : a.eval x = .slice (some ⟨wr.heap.size, 0, none⟩) 1 1) (hyv : yv = .int .u8 (y.toNat : Int)) (hown : OwnBytes wr B e v l)
    (hlen : l.length + 1 ≤ 140737488355328) (hbase : B ≤ wr.heap.size)
    (h : ∀ v' w', OwnBytes w' B e v' (l ++ [y]) → wr.grownBy w' v.ownBlock → Grew wr w' v v' → K (a.put o.dst v') w') :
    if Region.wanted o (yielded ops a.tmps) = true then Oper.wp P o a (wr.alloc (.cells #[yv] e)) K Q else E := by
  subst hyv
  have hw : Region.wanted o (yielded ops a.tmps) = true := by simp [Region.wanted, hgd]
  rw [if_pos hw]
  obtain ⟨i, hi, hzz⟩ := Option.map_eq_some_iff.1 hinfo
  simp only [Prod.mk.injEq] at hzz
  obtain ⟨hz, hsz, hb⟩ := hzz
  have hl2 : l.length + 1 ≤ maxLen := by unfold maxLen; omega
  have hcell : (wr.alloc (.cells #[.int .u8 (y.toNat : Int)] e)).cell? ⟨wr.heap.size, 0, none⟩ = some (.int .u8 (y.toNat : Int)) := by
    simp only [World.cell?, heap_alloc_new]
    rfl
  have hnews : ∀ j u, ([.int .u8 (y.toNat : Int)] : List Value)[j]? = some u → (wr.alloc (.cells #[.int .u8 (y.toNat : Int)] e)).cell? ((⟨wr.heap.size, 0, none⟩ : Addr).add j) = some u := by
    intro j u hj
    have hj0 : j = 0 := by
      have := (List.getElem?_eq_some_iff.1 hj).1
      simpa using this
    subst hj0
    simp only [List.getElem?_cons_zero, Option.some.injEq] at hj
    subst hj
    have hadd : (⟨wr.heap.size, 0, none⟩ : Addr).add 0 = ⟨wr.heap.size, 0, none⟩ := by unfold Addr.add; split <;> simp_all
    rw [hadd]
    exact hcell
  obtain ⟨v', w', hr, h2, h3, h4⟩ := run_append_own (P := P) (wr.alloc (.cells #[.int .u8 (y.toNat : Int)] e)) B t o.type e i (.int .u8 0) 1 1 ht hi hz hsz hb rfl (by decide) v l.length (l.map byteV) (hown.row.alloc _) ⟨wr.heap.size, 0, none⟩ 1 1 [.int .u8 (y.toNat : Int)] rfl hnews
    (by intro u hu; simp at hu; subst hu; rfl) hl2 (by omega) (by simp; omega)
  have hf := append_grew ht hi hz hsz hb (hown.row.alloc (.cells #[.int .u8 (y.toNat : Int)] e)) ⟨wr.heap.size, 0, none⟩ 1 (.int .u8 (y.toNat : Int)) hcell rfl hl2 (by omega) hr
  have hg : wr.grownBy w' v.ownBlock :=
    ⟨h3.os, h3.tape, h3.output, Nat.le_trans (by simp) h3.size, fun k hk hne => (h3.block k (by simp; omega) hne).trans (Below.heap_alloc wr _ k hk)⟩
  have hf' : Grew wr w' v v' := by
    rcases hf with hf | ⟨g, hf1, hf2, hf3⟩
    · exact .inl hf
    · exact .inr ⟨g, hf1, by simp at hf2; omega, fun k hk => (hf3 k (by simp; omega)).trans (Below.heap_alloc wr _ k hk)⟩
  unfold Oper.wp execOp
  simp only [ho, resolve, invoke, builtin, Sem.run_bind, Sem.run_pure, Result.andThen_ok, List.map_toArray, List.map_cons, List.map_nil, hs, hx, hr]
  exact h v' w' ⟨by rw [List.length_append, List.length_singleton, List.map_append]; exact h2⟩ hg hf'

/-- .. the world as the walk writes it -/
theorem step_append_grew2 {P : Program} {wr W : World} {ops : Array Oper} {o : Oper} {a : Act} {K : Act → World → Prop} {Q : Exit → Act → World → Prop} {E : Prop} (hgd : o.guard = none)
    (s x : Operand) (t : TypeId) (ho : o.op = .call { callee := .builtin .append, args := #[s, x], argTypes := #[t, t] })
    (B e : Nat) (ht : P.underlying t = some (.slice e)) (hinfo : (P.info? e).map (fun i => (i.zero, i.size, i.bytes)) = some (some (.int .u8 0), 1, 1))
    (v : Value) (l : List UInt8) (y : UInt8) (hW : W = (wr.alloc (.cells #[.int .u8 (y.toNat : Int)] e)).drew)
    (hs : a.eval s = v) (hx : a.eval x = .slice (some ⟨wr.heap.size, 0, none⟩) 1 1) (hown : OwnBytes wr B e v l)
    (hlen : l.length + 1 ≤ 140737488355328) (hbase : B ≤ wr.heap.size)
    (h : ∀ v' w', OwnBytes w' B e v' (l ++ [y]) → wr.grownBy w' v.ownBlock → Grew wr w' v v' → K (a.put o.dst v') w') :
    if Region.wanted o (yielded ops a.tmps) = true then Oper.wp P o a W K Q else E := by
  subst hW
  have hown' : OwnBytes wr.drew B e v l := ⟨hown.row.1, hown.row.2⟩
  exact step_append_grew (wr := wr.drew) hgd s x t ho B e ht hinfo v l y _ hs hx rfl hown' hlen hbase fun v' w' h1 h2 h3 => h v' w' h1 ⟨h2.os, h2.tape, h2.output, h2.size, h2.block⟩ h3
end Go.Proofs.Ytofdpccjpodbhaa
