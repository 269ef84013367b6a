/-
  What owned of the statements of layer 5 keeps, loop by loop: rows of bytes, some of them whole arrays; one mark a row. No conditions.
-/
import Derived.Test.YtofdpccjpodbhaaBookP
import Derived.Test.YtofdpccjpodbhaaOct
import Derived.Deep.AppendLies
namespace Go.Proofs.Ytofdpccjpodbhaa
open Go.RowKit
set_option linter.unusedVariables false

/-- the marks of the i-th list -/
def mk5 (i n : Nat) : List UInt8 := List.replicate n (UInt8.ofNat (i + 1))
theorem mk5_length (i n : Nat) : (mk5 i n).length = n := by simp [mk5]
theorem mk5_snoc (i n : Nat) : mk5 i (n + 1) = mk5 i n ++ [UInt8.ofNat (i + 1)] := by simp [mk5, List.replicate_succ']
theorem mk5_prefix (i : Nat) {m n : Nat} (h : m ≤ n) : mk5 i m <+: mk5 i n := ⟨List.replicate (n - m) (UInt8.ofNat (i + 1)), by unfold mk5; rw [List.replicate_append_replicate, show m + (n - m) = n by omega]⟩
theorem mk5_getD (i n j : Nat) (h : j < n) : (mk5 i n).getD j 0 = UInt8.ofNat (i + 1) := by simp [mk5, List.getD_eq_getElem?_getD, h]

/-- a row of bytes of the call's own, or an array of bytes, whole -/
def RowB (w : World) (B : Nat) (v : Value) (l : List UInt8) : Prop :=
  OwnBytes w B 5 v l ∨ (OwnBytes w B 85 v l ∧ ∃ g, v = .slice (some ⟨g, 0, none⟩) l.length l.length)

theorem RowB.own {w : World} {B : Nat} {v : Value} {l : List UInt8} (h : RowB w B v l) : ∃ T, OwnBytes w B T v l := by
  rcases h with h | h
  · exact ⟨_, h⟩
  · exact ⟨_, h.1⟩
theorem RowB.kept {w w' : World} {row : Option Nat} {B : Nat} {v : Value} {l : List UInt8} (h : RowB w B v l) (hg : w.grownBy w' row) (hne : v.ownBlock = none ∨ v.ownBlock ≠ row) : RowB w' B v l := by
  rcases h with h | ⟨h, h2⟩
  · exact .inl (h.kept hg hne)
  · exact .inr ⟨h.kept hg hne, h2⟩
theorem RowB.of_below {w w' : World} {B : Nat} {v : Value} {l : List UInt8} (h : RowB w B v l) (hb : Below w.heap.size w w') : RowB w' B v l := by
  rcases h with h | ⟨h, h2⟩
  · exact .inl (h.of_below hb)
  · exact .inr ⟨h.of_below hb, h2⟩
theorem RowB.lt {w : World} {B : Nat} {v : Value} {l : List UInt8} (h : RowB w B v l) : ∀ k, v.ownBlock = some k → B ≤ k ∧ k < w.heap.size := by
  obtain ⟨T, h⟩ := h.own
  exact h.row.lt
theorem RowB.set {w : World} {B g n cap : Nat} {l : List UInt8} (h : RowB w B (.slice (some ⟨g, 0, none⟩) n cap) l) (hn : l.length = n) (j : Nat) (y : UInt8) : RowB (w.setCell ⟨g, j, none⟩ (.int .u8 (y.toNat : Int))) B (.slice (some ⟨g, 0, none⟩) n cap) (l.set j y) := by
  rcases h with h | ⟨h, h2⟩
  · exact .inl (h.set hn j y)
  · exact .inr ⟨h.set hn j y, by rw [List.length_set]; exact h2⟩
theorem RowB.apart {w : World} {B B' n : Nat} {u v : Value} {l : List UInt8} {xs : List Value} (hu : RowB w B u l) (hv : w.ownsRow B' 22 1 v n xs) : u.ownBlock = none ∨ u.ownBlock ≠ v.ownBlock := by
  rcases hu with hu | ⟨hu, _⟩
  · exact apart_of_type hu hv (by decide)
  · exact apart_of_type hu hv (by decide)

/-- another row is kept by the append: it lies elsewhere, or is a beginning of the one appended to -/
theorem RowB.grew {w w' : World} {B : Nat} {v v' u : Value} {l lu : List UInt8} {y : UInt8} (ho : RowB w B v l) (ho' : OwnBytes w' B 5 v' (l ++ [y])) (hg : w.grownBy w' v.ownBlock) (hf : Grew w w' v v')
    (hu : RowB w B u lu) (hne : u.ownBlock = none ∨ u.ownBlock ≠ v.ownBlock ∨ lu <+: l) : RowB w' B u lu := by
  rcases hf with ⟨g, n, cap, e1, e2⟩ | ⟨g, e1, e2, hk⟩
  · rcases ho with ho | ⟨ho, g', h2⟩
    · rcases hu with hu | ⟨hu, hu2⟩
      · exact .inl (ho.grew ho' hg (.inl ⟨g, n, cap, e1, e2⟩) hu hne)
      · exact .inr ⟨hu.kept hg (apart_of_type hu ho.row (by decide)), hu2⟩
    · exfalso
      rw [e1] at h2
      simp only [Value.slice.injEq] at h2
      obtain ⟨a, c, e3, hb⟩ := ho'.bytes
      rw [e2] at e3
      simp only [Value.slice.injEq] at e3
      have := hb.le
      rw [List.length_append, List.length_singleton] at this e3
      omega
  · exact hu.of_below ⟨hg.os, hg.tape, hg.output, hg.size, hk⟩

/-- 'append(s, y)' onto a row, or onto an array that is full -/
theorem wpList_append_rowB {P : Program} {wr : World} {ops : Array Oper} {rest : List Oper} {o : Oper} {a : Act} {Q : Exit → Act → World → Prop} (hgd : o.guard = none)
    (s x : Operand) (t : TypeId) (ho : o.op = .call { callee := .builtin .append, args := #[s, x], argTypes := #[t, t] })
    (B : Nat) (ht : P.underlying t = some (.slice 5)) (hinfo : (P.info? 5).map (fun i => (i.zero, i.size, i.bytes)) = some (some (.int .u8 0), 1, 1))
    (v : Value) (l : List UInt8) (y : UInt8) (yv : Value)
    (hs : a.eval s = v) (hx : a.eval x = .slice (some ⟨wr.heap.size, 0, none⟩) 1 1) (hyv : yv = .int .u8 (y.toNat : Int)) (hown : RowB wr B v l)
    (hlen : l.length + 1 ≤ 140737488355328) (hbase : B ≤ wr.heap.size)
    (h : ∀ v' w', OwnBytes w' B 5 v' (l ++ [y]) → wr.grownBy w' v.ownBlock → Grew wr w' v v' → wpList P ops Q rest (a.put o.dst v') w') :
    wpList P ops Q (o :: rest) a (wr.alloc (.cells #[yv] 5)) := by
  rcases hown with hown | ⟨hown, g, hv⟩
  · exact wpList_append_grew' hgd s x t ho B _ ht hinfo v l y yv hs hx hyv hown hlen hbase h
  · subst hyv hv
    obtain ⟨i, hi, hzz⟩ := Option.map_eq_some_iff.1 hinfo
    simp only [Prod.mk.injEq] at hzz
    obtain ⟨hz, hsz, hb⟩ := hzz
    have hrow := hown.row.alloc (.cells #[.int .u8 (y.toNat : Int)] 5)
    have holds := hrow.cells (g := g) rfl
    have hr := run_append_grow (P := P) (wr.alloc (.cells #[.int .u8 (y.toNat : Int)] 5)) t o.type 5 i (.int .u8 0) ht hi hz ⟨g, 0, none⟩ l.length l.length (l.map byteV) (by rw [List.length_map, hsz]; omega) holds ⟨wr.heap.size, 0, none⟩ 1 1 [.int .u8 (y.toNat : Int)] (by rw [hsz]; rfl) (by
      intro j u hj
      match j, hj with
      | 0, hj =>
        simp at hj; subst hj
        simp [Addr.add]) (by omega) (by omega) (by rw [hb]; exact growslice_fits (by omega) (by omega))
    obtain ⟨cap', hcap'⟩ : ∃ c, grownCap (wr.alloc (.cells #[.int .u8 (y.toNat : Int)] 5)) (l.length + 1) l.length 5 = c := ⟨_, rfl⟩
    have hge := grownCap_ge (wr.alloc (.cells #[.int .u8 (y.toNat : Int)] 5)) (l.length + 1) l.length 5
    have hle := grownCap_le_maxLen (wr.alloc (.cells #[.int .u8 (y.toNat : Int)] 5)) (l.length + 1) l.length 5 (by unfold maxLen; omega)
    rw [hcap'] at hr hge hle
    refine wpList_plain hgd fun K hK => ?_
    unfold Oper.wp execOp
    simp only [ho, resolve, invoke, builtin, Sem.run_bind, Sem.run_pure, Result.andThen_ok, List.map_toArray, List.map_cons, List.map_nil, hs, hx, hr]
    refine hK _ _ (h _ _ ⟨⟨by simp, .inr ⟨_, cap', _, by rw [List.length_append]; rfl, by simp; omega, heap_alloc_new _ _, by rw [List.length_append]; exact hge, hle, ?_, ?_⟩⟩⟩ ⟨rfl, rfl, rfl, by simp; omega, fun k hk _ => ?_⟩ (.inr ⟨_, rfl, by simp, fun k hk => ?_⟩))
    · simp [Builtin.zeroCells, Value.cells]; omega
    · rw [Nat.mul_one]
      have e : ((l.map byteV).toArray ++ [Value.int .u8 (y.toNat : Int)].toArray ++ Builtin.zeroCells (Value.int IntKind.u8 0).cells (cap' - (l.length + 1))).toList = (l ++ [y]).map byteV ++ (Builtin.zeroCells (Value.int IntKind.u8 0).cells (cap' - (l.length + 1))).toList := by
        simp [byteV]
      rw [e]
      exact List.take_left' (by simp)
    · exact (heap_alloc_old _ _ (by simp; omega)).trans (Below.heap_alloc wr _ k hk)
    · exact (heap_alloc_old _ _ (by simp; omega)).trans (Below.heap_alloc wr _ k hk)
end Go.Proofs.Ytofdpccjpodbhaa
