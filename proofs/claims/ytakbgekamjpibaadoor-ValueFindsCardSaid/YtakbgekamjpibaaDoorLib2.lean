/-
  A block of bytes of the call's own, known whole: reading, writing, copying. They speak of no program. No conditions.
-/
import Derived.Test.YtakbgekamjpibaaDoorLib
import Derived.Laws.CopyOwn
import Derived.Deep.Draws
namespace Go.Proofs.YtakbgekamjpibaaDoor
open Go.RowKit
set_option linter.unusedVariables false

/-- block b holds just these bytes -/
structure Blk (w : World) (b T : Nat) (l : List UInt8) : Prop where
  blk : w.heap[b]? = some (.cells (l.map byteV).toArray T (0, 0))

theorem Blk.lt {w : World} {b T : Nat} {l : List UInt8} (h : Blk w b T l) : b < w.heap.size := (Array.getElem?_eq_some_iff.1 h.blk).1
theorem Blk.of_block {w w' : World} {b T : Nat} {l : List UInt8} (h : Blk w b T l) (e : w'.heap[b]? = w.heap[b]?) : Blk w' b T l := ⟨e.trans h.blk⟩
theorem Blk.below {w w' : World} {b T : Nat} {l : List UInt8} (h : Blk w b T l) (hb : Below w.heap.size w w') : Blk w' b T l := h.of_block (hb.block b h.lt)
theorem Blk.drewN {w : World} {b T : Nat} {l : List UInt8} (h : Blk w b T l) (m : Nat) : Blk (w.drewN m) b T l := ⟨h.blk⟩
theorem Blk.cell {w : World} {b T : Nat} {l : List UInt8} (h : Blk w b T l) (i : Nat) (hi : i < l.length) : w.cell? ⟨b, i, none⟩ = some (.int .u8 (l.getD i 0).toNat) := by
  simp only [World.cell?, h.blk, Option.isSome_none, Bool.false_eq_true, if_false]
  simp [byteV, List.getD_eq_getElem?_getD, hi]
theorem Blk.frozen {w : World} {b T : Nat} {l : List UInt8} (h : Blk w b T l) (i : Nat) : w.frozen? ⟨b, i, none⟩ = false := by
  simp [World.frozen?, h.blk]
theorem Blk.set {w : World} {b T : Nat} {l : List UInt8} (h : Blk w b T l) (i : Nat) (x : UInt8) : Blk (w.setCell ⟨b, i, none⟩ (.int .u8 (x.toNat : Int))) b T (l.set i x) := by
  refine ⟨?_⟩
  simp only [World.setCell, Array.getElem?_modify, h.blk, if_true, Option.map_some, Option.isSome_none, Bool.false_eq_true, if_false]
  congr 2
  simp [byteV]
theorem Blk.bytes {w : World} {b T : Nat} {l : List UInt8} (h : Blk w b T l) (off n c : Nat) (hn : off + n ≤ l.length) (hc : n ≤ c) (hm : c ≤ maxLen) :
    BytesIn w (some ⟨b, off, none⟩) n c ((l.drop off).take n) := by
  refine ⟨by rw [List.length_take, List.length_drop]; omega, hc, hm, fun _ => ⟨b, off, rfl, h.lt, fun i hi => ?_⟩⟩
  rw [h.cell (off + i) (by omega)]
  simp only [List.getD_eq_getElem?_getD, List.getElem?_take, if_pos hi, List.getElem?_drop]
theorem Blk.all {w : World} {b T : Nat} {l : List UInt8} (h : Blk w b T l) (n c : Nat) (hn : n = l.length) (hc : n ≤ c) (hm : c ≤ maxLen) : BytesIn w (some ⟨b, 0, none⟩) n c l := by
  have := h.bytes 0 n c (by omega) hc hm
  rwa [List.drop_zero, List.take_of_length_le (by omega)] at this
theorem Blk.made (w : World) (n T : Nat) : Blk (w.alloc (.cells (madeCells #[.int .u8 0] n) T)) w.heap.size T (List.replicate n 0) := by
  obtain ⟨c, h1, h2, h3⟩ := World.rowIs_made w (.int .u8 0) n T
  refine ⟨h1.trans ?_⟩
  congr 2
  apply Array.ext
  · simp [h2]
  · intro i hi1 hi2
    have := h3 i (by omega)
    rw [Array.getElem?_eq_getElem hi1] at this
    simp only [Option.some.injEq] at this
    rw [this]
    simp [byteV]
theorem Blk.of_cells {w : World} {b T : Nat} {l : List UInt8} {c : Array Value} (h : w.heap[b]? = some (.cells c T (0, 0))) (e : c = (l.map byteV).toArray) : Blk w b T l := ⟨by rw [h, e]⟩

/-- what copy leaves in the block -/
def copyL (cur src : List UInt8) (off dLen sLen : Nat) : List UInt8 := cur.take off ++ (src.take dLen ++ cur.drop (off + min sLen dLen))

/-- copy into such a block -/
theorem wpList_copy_bytes {P : Program} {w : World} {ops : Array Oper} {rest : List Oper} {o : Oper} {a : Act} {Q : Exit → Act → World → Prop} (hgd : o.guard = none) (d s : Operand) (dT : TypeId)
    (ho : o.op = .call { callee := .builtin .copy, args := #[d, s], argTypes := #[dT, dT] }) (T : TypeId) (hu : P.underlying dT = some (.slice T)) (hinfo : (P.info? T).map (fun i => (i.zero, i.size, i.bytes)) = some (some (.int .u8 0), 1, 1))
    (dp sp : Option Addr) (dLen dCap sLen sCap : Nat) (hd : a.eval d = .slice dp dLen dCap) (hs : a.eval s = .slice sp sLen sCap)
    (b off : Nat) (cur src : List UInt8) (hb : Blk w b T cur) (hsrc : BytesIn w sp sLen sCap src) (hdp : 0 < dLen → dp = some ⟨b, off, none⟩) (hfit : off + dLen ≤ cur.length)
    (h : ∀ w', Blk w' b T (copyL cur src off dLen sLen) → Below b w w' → w'.heap.size = w.heap.size → (∀ k, k ≠ b → w'.heap[k]? = w.heap[k]?) → wpList P ops Q rest (a.put o.dst (goInt ((min sLen dLen : Nat) : Int))) w') :
    wpList P ops Q (o :: rest) a w := by
  obtain ⟨i, hi, hzz⟩ := Option.map_eq_some_iff.1 hinfo
  simp only [Prod.mk.injEq] at hzz
  have hsz : (P.info? T).map (·.size) = some 1 := by rw [hi]; simp [hzz.2.1]
  have hln : ((src.take dLen).map byteV).length = Nat.min sLen dLen := by
    rw [List.length_map, List.length_take, hsrc.len, Nat.min_comm]
  by_cases h0 : Nat.min sLen dLen = 0
  · refine wpList_copy_nothing hgd d s dT dT ho T hu hsz dp sp dLen dCap sLen sCap hd hs h0 ?_
    have h0' : min sLen dLen = 0 := h0
    have := h w (by
      have e : src.take dLen = [] := List.eq_nil_of_length_eq_zero (by rw [List.length_take, hsrc.len, Nat.min_comm]; exact h0)
      unfold copyL
      rw [h0', e, Nat.add_zero, List.nil_append, List.take_append_drop]; exact hb) (Below.refl _ _) rfl (fun _ _ => rfl)
    rw [h0'] at this
    exact this
  · have hpos : 0 < sLen ∧ 0 < dLen := by
      have : min sLen dLen ≠ 0 := h0
      omega
    obtain ⟨sb, so, rfl, hsb, hcell⟩ := hsrc.at_ (by have := hsrc.le; omega)
    obtain rfl := hdp hpos.2
    refine wpList_copy_own hgd d s dT dT ho T hu hsz b off dLen dCap ⟨sb, so, none⟩ sLen sCap hd hs (cur.map byteV).toArray T hb.blk ((src.take dLen).map byteV) hln ?_ ?_ ?_ ?_
    · intro j v hj
      have hadd : (⟨sb, so, none⟩ : Addr).add j = ⟨sb, so + j, none⟩ := by unfold Addr.add; split <;> simp_all
      have hjl : j < ((src.take dLen).map byteV).length := (List.getElem?_eq_some_iff.1 hj).1
      rw [hln] at hjl
      have hjs : j < sLen := Nat.lt_of_lt_of_le hjl (Nat.min_le_left _ _)
      have hjd : j < dLen := Nat.lt_of_lt_of_le hjl (Nat.min_le_right _ _)
      rw [hadd, hcell j hjs]
      rw [List.getElem?_map, List.getElem?_take, if_pos hjd] at hj
      rw [List.getD_eq_getElem?_getD]
      have hjs' : j < src.length := by rw [hsrc.len]; exact hjs
      rw [List.getElem?_eq_getElem hjs'] at hj ⊢
      simpa [byteV] using hj
    · rw [hln]
      have : Nat.min sLen dLen ≤ dLen := Nat.min_le_right _ _
      simp only [List.size_toArray, List.length_map]; omega
    · intro v hv
      obtain ⟨x, _, rfl⟩ := List.mem_map.1 hv
      rfl
    · rw [hln]
      refine h _ ⟨(setRow_heap w b _ _ T _ hb.blk).trans ?_⟩ (below_setRow (Below.refl _ _) (Nat.le_refl _) _) (by simp [World.setRow]) (fun k hk => setRow_other w b k _ hk)
      congr 2
      unfold copyL
      simp only [List.map_append, List.map_take, List.map_drop]
end Go.Proofs.YtakbgekamjpibaaDoor
