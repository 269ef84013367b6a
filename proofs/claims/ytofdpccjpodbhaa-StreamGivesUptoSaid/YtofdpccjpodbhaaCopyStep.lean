/-
  copy as one step of a region that draws its order, onto a block of bytes that is known whole. It speaks of no program. No conditions.
-/
import Derived.Test.YtofdpccjpodbhaaLib2
import Derived.Deep.RegionLaw
namespace Go.Proofs.Ytofdpccjpodbhaa
open Go.RowKit
set_option linter.unusedVariables false

theorem wp_copy_bytes {P : Program} {w : World} {o : Oper} {a : Act} {K : Act → World → Prop} {Q : Exit → Act → World → Prop} (d s : Operand) (dT : TypeId)
    (ho : o.op = .call { callee := .builtin .copy, args := #[d, s], argTypes := #[dT, dT] }) (T : TypeId) (hu : P.underlying dT = some (.slice T)) (hinfo : (P.info? T).map (fun i => (i.zero, i.size, i.bytes)) = some (some (.int .u8 0), 1, 1))
    (dp sp : Option Addr) (dLen dCap sLen sCap : Nat) (hd : a.eval d = .slice dp dLen dCap) (hs : a.eval s = .slice sp sLen sCap)
    (b off : Nat) (cur src : List UInt8) (hb : Blk w b T cur) (hsrc : BytesIn w sp sLen sCap src) (hdp : 0 < dLen → dp = some ⟨b, off, none⟩) (hfit : off + dLen ≤ cur.length)
    (h : ∀ w', Blk w' b T (copyL cur src off dLen sLen) → Below b w w' → w'.heap.size = w.heap.size → (∀ k, k ≠ b → w'.heap[k]? = w.heap[k]?) → K (a.put o.dst (goInt ((min sLen dLen : Nat) : Int))) w') :
    o.wp P a w K Q := by
  obtain ⟨i, hi, hzz⟩ := Option.map_eq_some_iff.1 hinfo
  simp only [Prod.mk.injEq] at hzz
  have hsz : (P.info? T).map (·.size) = some 1 := by rw [hi]; simp [hzz.2.1]
  have hln : ((src.take dLen).map byteV).length = Nat.min sLen dLen := by
    rw [List.length_map, List.length_take, hsrc.len, Nat.min_comm]
  by_cases h0 : Nat.min sLen dLen = 0
  · have hrun := run_copy_none (P := P) w dT dT o.type T dp sp dLen dCap sLen sCap hu hsz h0
    have h0' : min sLen dLen = 0 := h0
    have := h w (by
      have e : src.take dLen = [] := List.eq_nil_of_length_eq_zero (by rw [List.length_take, hsrc.len, Nat.min_comm]; exact h0)
      unfold copyL
      rw [h0', e, Nat.add_zero, List.nil_append, List.take_append_drop]; exact hb) (Below.refl _ _) rfl (fun _ _ => rfl)
    rw [h0'] at this
    unfold Oper.wp
    simp [execOp, ho, resolve, invoke, builtin, hd, hs, hrun, Result.andThen]
    exact this
  · have hpos : 0 < sLen ∧ 0 < dLen := by
      have : min sLen dLen ≠ 0 := h0
      omega
    obtain ⟨sb, so, rfl, hsb, hcell⟩ := hsrc.at_ (by have := hsrc.le; omega)
    obtain rfl := hdp hpos.2
    have hrun := run_copy_row (P := P) w dT dT o.type T b off dLen dCap ⟨sb, so, none⟩ sLen sCap (cur.map byteV).toArray T ((src.take dLen).map byteV) hu hsz hb.blk hln (by
      intro j v hj
      have hadd : (⟨sb, so, none⟩ : Addr).add j = ⟨sb, so + j, none⟩ := by unfold Addr.add; split <;> simp_all
      have hjl : j < ((src.take dLen).map byteV).length := (List.getElem?_eq_some_iff.1 hj).1
      rw [hln] at hjl
      have hjs : j < sLen := Nat.lt_of_lt_of_le hjl (Nat.min_le_left _ _)
      have hjd : j < dLen := Nat.lt_of_lt_of_le hjl (Nat.min_le_right _ _)
      rw [hadd, hcell j hjs]
      rw [List.getElem?_map, List.getElem?_take, if_pos hjd] at hj
      rw [List.getD_eq_getElem?_getD]
      have hjs' : j < src.length := by rw [hsrc.len]; exact hjs
      rw [List.getElem?_eq_getElem hjs'] at hj ⊢
      simpa [byteV] using hj) (by
      rw [hln]
      have : Nat.min sLen dLen ≤ dLen := Nat.min_le_right _ _
      simp only [List.size_toArray, List.length_map]; omega) (by
      intro v hv
      obtain ⟨x, _, rfl⟩ := List.mem_map.1 hv
      rfl)
    rw [hln] at hrun
    unfold Oper.wp
    simp only [execOp, ho, resolve, invoke, builtin, Sem.run_bind, Sem.run_pure, Result.andThen_ok, List.map_toArray, List.map_cons, List.map_nil, hd, hs, hrun]
    refine h _ ⟨(setRow_heap w b _ _ T _ hb.blk).trans ?_⟩ (below_setRow (Below.refl _ _) (Nat.le_refl _) _) (by simp [World.setRow]) (fun k hk => setRow_other w b k _ hk)
    congr 2
    unfold copyL
    simp only [List.map_append, List.map_take, List.map_drop, List.append_assoc]

theorem step_copy_bytes {P : Program} {w : World} {ops : Array Oper} {o : Oper} {a : Act} {K : Act → World → Prop} {Q : Exit → Act → World → Prop} {E : Prop} (hgd : o.guard = none) (d s : Operand) (dT : TypeId)
    (ho : o.op = .call { callee := .builtin .copy, args := #[d, s], argTypes := #[dT, dT] }) (T : TypeId) (hu : P.underlying dT = some (.slice T)) (hinfo : (P.info? T).map (fun i => (i.zero, i.size, i.bytes)) = some (some (.int .u8 0), 1, 1))
    (dp sp : Option Addr) (dLen dCap sLen sCap : Nat) (hd : a.eval d = .slice dp dLen dCap) (hs : a.eval s = .slice sp sLen sCap)
    (b off : Nat) (cur src : List UInt8) (hb : Blk w b T cur) (hsrc : BytesIn w sp sLen sCap src) (hdp : 0 < dLen → dp = some ⟨b, off, none⟩) (hfit : off + dLen ≤ cur.length)
    (h : ∀ w', Blk w' b T (copyL cur src off dLen sLen) → Below b w w' → w'.heap.size = w.heap.size → (∀ k, k ≠ b → w'.heap[k]? = w.heap[k]?) → K (a.put o.dst (goInt ((min sLen dLen : Nat) : Int))) w') :
    if Region.wanted o (yielded ops a.tmps) = true then Oper.wp P o a w K Q else E := by
  have hw : Region.wanted o (yielded ops a.tmps) = true := by simp [Region.wanted, hgd]
  rw [if_pos hw]
  exact wp_copy_bytes d s dT ho T hu hinfo dp sp dLen dCap sLen sCap hd hs b off cur src hb hsrc hdp hfit h
end Go.Proofs.Ytofdpccjpodbhaa
