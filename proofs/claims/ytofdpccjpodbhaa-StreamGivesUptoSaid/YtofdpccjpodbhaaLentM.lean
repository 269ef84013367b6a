/-
  A block of bytes lent by its owner: it came out of a string (marked behind its last cell) or of an append; reading, writing, copying it. It speaks of no program but for types. No conditions.
-/
import Derived.Test.YtofdpccjpodbhaaAwake
import Derived.Test.YtofdpccjpodbhaaApp
import Derived.Laws.IdiomCopy
import Derived.Lib.AppendStr
import Derived.Lib.ConvBytes
import Derived.Lib.SmallJoins
namespace Go.Proofs.Ytofdpccjpodbhaa
open Go.RowKit
set_option linter.unusedVariables false

structure Lent (w : World) (b : Nat) (L : List UInt8) : Prop where
  ex : ∃ fz : Nat × Nat, w.heap[b]? = some (.cells (L.map byteV).toArray 5 fz) ∧ (fz.2 = 0 ∨ L.length ≤ fz.1)

theorem Lent.lt {w : World} {b : Nat} {L : List UInt8} (h : Lent w b L) : b < w.heap.size := by
  obtain ⟨fz, h1, _⟩ := h.ex
  exact (Array.getElem?_eq_some_iff.1 h1).1
theorem Lent.of_block {w w' : World} {b : Nat} {L : List UInt8} (h : Lent w b L) (e : w'.heap[b]? = w.heap[b]?) : Lent w' b L := by
  obtain ⟨fz, h1, h2⟩ := h.ex
  exact ⟨fz, e.trans h1, h2⟩
theorem Lent.below {w w' : World} {b : Nat} {L : List UInt8} (h : Lent w b L) (hb : Below w.heap.size w w') : Lent w' b L := h.of_block (hb.block b h.lt)
theorem Lent.of_blk {w : World} {b : Nat} {L : List UInt8} (h : Blk w b 5 L) : Lent w b L := ⟨(0, 0), h.blk, .inl rfl⟩
theorem Lent.cell {w : World} {b : Nat} {L : List UInt8} (h : Lent w b L) (i : Nat) (hi : i < L.length) : w.cell? ⟨b, i, none⟩ = some (.int .u8 (L.getD i 0).toNat) := by
  obtain ⟨fz, h1, _⟩ := h.ex
  simp only [World.cell?, h1, Option.isSome_none, Bool.false_eq_true, if_false]
  simp [byteV, List.getD_eq_getElem?_getD, hi]
theorem Lent.frozen {w : World} {b : Nat} {L : List UInt8} (h : Lent w b L) (i : Nat) (hi : i < L.length) : w.frozen? ⟨b, i, none⟩ = false := by
  obtain ⟨fz, h1, h2⟩ := h.ex
  simp only [World.frozen?, h1]
  rcases h2 with h2 | h2
  · simp [h2]
  · have : ¬ fz.1 ≤ i := by omega
    simp [this]
theorem Lent.set {w : World} {b : Nat} {L : List UInt8} (h : Lent w b L) (i : Nat) (x : UInt8) : Lent (w.setCell ⟨b, i, none⟩ (.int .u8 (x.toNat : Int))) b (L.set i x) := by
  obtain ⟨fz, h1, h2⟩ := h.ex
  refine ⟨fz, ?_, by rw [List.length_set]; exact h2⟩
  rw [Go.Joins.block_setCell h1]
  congr 2
  simp [byteV]
theorem Lent.setCells {b : Nat} : ∀ (cs L : List UInt8) (off : Nat) (w : World), Lent w b L → off + cs.length ≤ L.length → Lent (w.setCells b off (cs.map byteV)) b (L.take off ++ (cs ++ L.drop (off + cs.length)))
  | [], L, off, w, h, hl => by simpa [World.setCells] using h
  | c :: cs, L, off, w, h, hl => by
    have h1 := Lent.setCells cs (L.set off c) (off + 1) (w.setCell ⟨b, off, none⟩ (byteV c)) (h.set off c) (by rw [List.length_set]; simp at hl; omega)
    have e : (L.set off c).take (off + 1) ++ (cs ++ (L.set off c).drop (off + 1 + cs.length)) = L.take off ++ (c :: cs ++ L.drop (off + (c :: cs).length)) := by
      have hlo : off < L.length := by simp at hl; omega
      rw [List.take_set, List.take_succ_eq_append_getElem hlo, List.set_append_right _ _ (by simp; omega)]
      have : off - (L.take off).length = 0 := by simp; omega
      rw [this, List.drop_set_of_lt (by omega)]
      simp [Nat.add_assoc, Nat.add_comm 1]
    rw [e] at h1
    exact h1
theorem Lent.bytes {w : World} {b : Nat} {L : List UInt8} (h : Lent w b L) (off n c : Nat) (hn : off + n ≤ L.length) (hc : n ≤ c) (hm : c ≤ maxLen) : BytesIn w (some ⟨b, off, none⟩) n c ((L.drop off).take n) := by
  refine ⟨by rw [List.length_take, List.length_drop]; omega, hc, hm, fun _ => ⟨b, off, rfl, h.lt, fun i hi => ?_⟩⟩
  rw [h.cell (off + i) (by omega)]
  simp only [List.getD_eq_getElem?_getD, List.getElem?_take, if_pos hi, List.getElem?_drop]

theorem setCells_other (b : Nat) : ∀ (cs : List Value) (off : Nat) (w : World) (k : Nat), k ≠ b → (w.setCells b off cs).heap[k]? = w.heap[k]?
  | [], _, _, _, _ => rfl
  | v :: cs, off, w, k, h => by
    show ((w.setCell ⟨b, off, none⟩ v).setCells b (off + 1) cs).heap[k]? = _
    rw [setCells_other b cs (off + 1) _ k h]
    exact heap_setCell_other w ⟨b, off, none⟩ k v h
theorem setCells_below (B b : Nat) (hB : B ≤ b) : ∀ (cs : List Value) (off : Nat) (w : World), Below B w (w.setCells b off cs)
  | [], _, w => Below.refl _ _
  | v :: cs, off, w => ((Below.refl B w).setCell hB v).trans (setCells_below B b hB cs (off + 1) _)
theorem setCells_size (b : Nat) : ∀ (cs : List Value) (off : Nat) (w : World), (w.setCells b off cs).heap.size = w.heap.size
  | [], _, _ => rfl
  | v :: cs, off, w => by
    show ((w.setCell ⟨b, off, none⟩ v).setCells b (off + 1) cs).heap.size = _
    rw [setCells_size b cs (off + 1)]
    simp

/-- copy(dst, src) of as many bytes, dst lent memory from its beginning -/
theorem wpList_copy_lent {P : Program} {w : World} {ops : Array Oper} {rest : List Oper} {o : Oper} {a : Act} {Q : Exit → Act → World → Prop} (hgd : o.guard = none) (d s : Operand) (dT : TypeId)
    (ho : o.op = .call { callee := .builtin .copy, args := #[d, s], argTypes := #[dT, dT] }) (hu : P.underlying dT = some (.slice 5)) (hinfo : (P.info? 5).map (fun i => (i.zero, i.size, i.bytes)) = some (some (.int .u8 0), 1, 1))
    (sp : Option Addr) (n dCap sCap : Nat) (b : Nat) (hd : a.eval d = .slice (some ⟨b, 0, none⟩) n dCap) (hs : a.eval s = .slice sp n sCap)
    (L src : List UInt8) (hb : Lent w b L) (hsrc : BytesIn w sp n sCap src) (hfit : n ≤ L.length)
    (h : ∀ w', Lent w' b (src ++ L.drop n) → Below b w w' → w'.heap.size = w.heap.size → (∀ k, k ≠ b → w'.heap[k]? = w.heap[k]?) → wpList P ops Q rest (a.put o.dst (goInt (n : Int))) w') :
    wpList P ops Q (o :: rest) a w := by
  obtain ⟨i, hi, hzz⟩ := Option.map_eq_some_iff.1 hinfo
  simp only [Prod.mk.injEq] at hzz
  have hsz : (P.info? 5).map (·.size) = some 1 := by rw [hi]; simp [hzz.2.1]
  have hl := hsrc.len
  refine wpList_plain hgd fun K hK => ?_
  by_cases h0 : n = 0
  · subst h0
    have hrun := run_copy_none (P := P) w dT dT o.type 5 (some ⟨b, 0, none⟩) sp 0 dCap 0 sCap hu hsz rfl
    obtain rfl : src = [] := List.eq_nil_of_length_eq_zero hl
    have := h w (by simpa using hb) (Below.refl _ _) rfl (fun _ _ => rfl)
    unfold Oper.wp
    simp [execOp, ho, resolve, invoke, builtin, hd, hs, hrun, Result.andThen]
    exact hK _ _ this
  · obtain ⟨sb, so, rfl, hsb, hcell⟩ := hsrc.at_ (by have := hsrc.le; omega)
    have hrun := run_copy_cells (P := P) w dT dT o.type 5 b 0 n dCap ⟨sb, so, none⟩ n sCap (src.map byteV) hu hsz (by rw [List.length_map, hl]; exact (Nat.min_self n).symm) (by
      intro j v hj
      have hadd : (⟨sb, so, none⟩ : Addr).add j = ⟨sb, so + j, none⟩ := by unfold Addr.add; split <;> simp_all
      have hjl : j < n := by
        have := (List.getElem?_eq_some_iff.1 hj).1
        rw [List.length_map, hl] at this
        exact this
      rw [hadd, hcell j hjl, ← hj, List.getElem?_map, List.getD_eq_getElem?_getD, List.getElem?_eq_getElem (by omega)]
      simp [byteV]) (by
      intro j hj
      rw [List.length_map, hl] at hj
      rw [Nat.zero_add, hb.cell j (by omega)]
      rfl) (by
      intro j hj
      rw [List.length_map, hl] at hj
      rw [Nat.zero_add]
      exact hb.frozen j (by omega)) (by
      intro v hv
      obtain ⟨x, _, rfl⟩ := List.mem_map.1 hv
      rfl)
    rw [List.length_map, hl] at hrun
    have hnew := Lent.setCells src L 0 w hb (by omega)
    rw [Nat.zero_add, hl, List.take_zero, List.nil_append] at hnew
    unfold Oper.wp
    simp only [execOp, ho, resolve, invoke, builtin, Sem.run_bind, Sem.run_pure, Result.andThen_ok, List.map_toArray, List.map_cons, List.map_nil, hd, hs, hrun]
    exact hK _ _ (h _ hnew (setCells_below b b (Nat.le_refl _) _ _ _) (setCells_size _ _ _ _) (fun k hk => setCells_other _ _ _ _ k hk))
end Go.Proofs.Ytofdpccjpodbhaa
