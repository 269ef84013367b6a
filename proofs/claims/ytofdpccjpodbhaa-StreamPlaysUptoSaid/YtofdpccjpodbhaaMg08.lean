/-
  A block of bytes lent by its owner: it came out of a string (marked behind its last cell) or of an append; reading, writing, copying it. It speaks of no program but for types. No conditions.
  The contract of lent of the statements of layer 5. Conditions: the bytes lie in memory and are not past 2^46 bytes.
  The contracts of turned and kept of the statements of layer 5. Conditions: the bytes lie in memory.
  Header's answer as a row; the book that FrameHeads fills. No conditions.
-/
import Derived.Test.YtofdpccjpodbhaaMg07
import Derived.Laws.IdiomCopy
import Derived.Lib.AppendStr
import Derived.Lib.ConvBytes
import Derived.Lib.SmallJoins
import Derived.Deep.QuietTactic
import Derived.BigQuiet
import Derived.Test.YtofdpccjpodbhaaMg03
namespace Go.Proofs.Ytofdpccjpodbhaa
open Go.RowKit
set_option linter.unusedVariables false

structure Lent (w : World) (b : Nat) (L : List UInt8) : Prop where
  ex : ∃ fz : Nat × Nat, w.heap[b]? = some (.cells (L.map byteV).toArray 5 fz) ∧ (fz.2 = 0 ∨ L.length ≤ fz.1)

theorem Lent.lt {w : World} {b : Nat} {L : List UInt8} (h : Lent w b L) : b < w.heap.size := by
  obtain ⟨fz, h1, _⟩ := h.ex
  exact (Array.getElem?_eq_some_iff.1 h1).1
theorem Lent.of_block {w w' : World} {b : Nat} {L : List UInt8} (h : Lent w b L) (e : w'.heap[b]? = w.heap[b]?) : Lent w' b L := by
  obtain ⟨fz, h1, h2⟩ := h.ex
  exact ⟨fz, e.trans h1, h2⟩
theorem Lent.below {w w' : World} {b : Nat} {L : List UInt8} (h : Lent w b L) (hb : Below w.heap.size w w') : Lent w' b L := h.of_block (hb.block b h.lt)
theorem Lent.of_blk {w : World} {b : Nat} {L : List UInt8} (h : Blk w b 5 L) : Lent w b L := ⟨(0, 0), h.blk, .inl rfl⟩
theorem Lent.cell {w : World} {b : Nat} {L : List UInt8} (h : Lent w b L) (i : Nat) (hi : i < L.length) : w.cell? ⟨b, i, none⟩ = some (.int .u8 (L.getD i 0).toNat) := by
  obtain ⟨fz, h1, _⟩ := h.ex
  simp only [World.cell?, h1, Option.isSome_none, Bool.false_eq_true, if_false]
  simp [byteV, List.getD_eq_getElem?_getD, hi]
theorem Lent.frozen {w : World} {b : Nat} {L : List UInt8} (h : Lent w b L) (i : Nat) (hi : i < L.length) : w.frozen? ⟨b, i, none⟩ = false := by
  obtain ⟨fz, h1, h2⟩ := h.ex
  simp only [World.frozen?, h1]
  rcases h2 with h2 | h2
  · simp [h2]
  · have : ¬ fz.1 ≤ i := by omega
    simp [this]
theorem Lent.set {w : World} {b : Nat} {L : List UInt8} (h : Lent w b L) (i : Nat) (x : UInt8) : Lent (w.setCell ⟨b, i, none⟩ (.int .u8 (x.toNat : Int))) b (L.set i x) := by
  obtain ⟨fz, h1, h2⟩ := h.ex
  refine ⟨fz, ?_, by rw [List.length_set]; exact h2⟩
  rw [Go.Joins.block_setCell h1]
  congr 2
  simp [byteV]
theorem Lent.setCells {b : Nat} : ∀ (cs L : List UInt8) (off : Nat) (w : World), Lent w b L → off + cs.length ≤ L.length → Lent (w.setCells b off (cs.map byteV)) b (L.take off ++ (cs ++ L.drop (off + cs.length)))
  | [], L, off, w, h, hl => by simpa [World.setCells] using h
  | c :: cs, L, off, w, h, hl => by
    have h1 := Lent.setCells cs (L.set off c) (off + 1) (w.setCell ⟨b, off, none⟩ (byteV c)) (h.set off c) (by rw [List.length_set]; simp at hl; omega)
    have e : (L.set off c).take (off + 1) ++ (cs ++ (L.set off c).drop (off + 1 + cs.length)) = L.take off ++ (c :: cs ++ L.drop (off + (c :: cs).length)) := by
      have hlo : off < L.length := by simp at hl; omega
      rw [List.take_set, List.take_succ_eq_append_getElem hlo, List.set_append_right _ _ (by simp; omega)]
      have : off - (L.take off).length = 0 := by simp; omega
      rw [this, List.drop_set_of_lt (by omega)]
      simp [Nat.add_assoc, Nat.add_comm 1]
    rw [e] at h1
    exact h1
theorem Lent.bytes {w : World} {b : Nat} {L : List UInt8} (h : Lent w b L) (off n c : Nat) (hn : off + n ≤ L.length) (hc : n ≤ c) (hm : c ≤ maxLen) : BytesIn w (some ⟨b, off, none⟩) n c ((L.drop off).take n) := by
  refine ⟨by rw [List.length_take, List.length_drop]; omega, hc, hm, fun _ => ⟨b, off, rfl, h.lt, fun i hi => ?_⟩⟩
  rw [h.cell (off + i) (by omega)]
  simp only [List.getD_eq_getElem?_getD, List.getElem?_take, if_pos hi, List.getElem?_drop]

theorem setCells_other (b : Nat) : ∀ (cs : List Value) (off : Nat) (w : World) (k : Nat), k ≠ b → (w.setCells b off cs).heap[k]? = w.heap[k]?
  | [], _, _, _, _ => rfl
  | v :: cs, off, w, k, h => by
    show ((w.setCell ⟨b, off, none⟩ v).setCells b (off + 1) cs).heap[k]? = _
    rw [setCells_other b cs (off + 1) _ k h]
    exact heap_setCell_other w ⟨b, off, none⟩ k v h
theorem setCells_below (B b : Nat) (hB : B ≤ b) : ∀ (cs : List Value) (off : Nat) (w : World), Below B w (w.setCells b off cs)
  | [], _, w => Below.refl _ _
  | v :: cs, off, w => ((Below.refl B w).setCell hB v).trans (setCells_below B b hB cs (off + 1) _)
theorem setCells_size (b : Nat) : ∀ (cs : List Value) (off : Nat) (w : World), (w.setCells b off cs).heap.size = w.heap.size
  | [], _, _ => rfl
  | v :: cs, off, w => by
    show ((w.setCell ⟨b, off, none⟩ v).setCells b (off + 1) cs).heap.size = _
    rw [setCells_size b cs (off + 1)]
    simp

/-- copy(dst, src) of as many bytes, dst lent memory from its beginning -/
theorem wpList_copy_lent {P : Program} {w : World} {ops : Array Oper} {rest : List Oper} {o : Oper} {a : Act} {Q : Exit → Act → World → Prop} (hgd : o.guard = none) (d s : Operand) (dT : TypeId)
    (ho : o.op = .call { callee := .builtin .copy, args := #[d, s], argTypes := #[dT, dT] }) (hu : P.underlying dT = some (.slice 5)) (hinfo : (P.info? 5).map (fun i => (i.zero, i.size, i.bytes)) = some (some (.int .u8 0), 1, 1))
    (sp : Option Addr) (n dCap sCap : Nat) (b : Nat) (hd : a.eval d = .slice (some ⟨b, 0, none⟩) n dCap) (hs : a.eval s = .slice sp n sCap)
    (L src : List UInt8) (hb : Lent w b L) (hsrc : BytesIn w sp n sCap src) (hfit : n ≤ L.length)
    (h : ∀ w', Lent w' b (src ++ L.drop n) → Below b w w' → w'.heap.size = w.heap.size → (∀ k, k ≠ b → w'.heap[k]? = w.heap[k]?) → wpList P ops Q rest (a.put o.dst (goInt (n : Int))) w') :
    wpList P ops Q (o :: rest) a w := by
  obtain ⟨i, hi, hzz⟩ := Option.map_eq_some_iff.1 hinfo
  simp only [Prod.mk.injEq] at hzz
  have hsz : (P.info? 5).map (·.size) = some 1 := by rw [hi]; simp [hzz.2.1]
  have hl := hsrc.len
  refine wpList_plain hgd fun K hK => ?_
  by_cases h0 : n = 0
  · subst h0
    have hrun := run_copy_none (P := P) w dT dT o.type 5 (some ⟨b, 0, none⟩) sp 0 dCap 0 sCap hu hsz rfl
    obtain rfl : src = [] := List.eq_nil_of_length_eq_zero hl
    have := h w (by simpa using hb) (Below.refl _ _) rfl (fun _ _ => rfl)
    unfold Oper.wp
    simp [execOp, ho, resolve, invoke, builtin, hd, hs, hrun, Result.andThen]
    exact hK _ _ this
  · obtain ⟨sb, so, rfl, hsb, hcell⟩ := hsrc.at_ (by have := hsrc.le; omega)
    have hrun := run_copy_cells (P := P) w dT dT o.type 5 b 0 n dCap ⟨sb, so, none⟩ n sCap (src.map byteV) hu hsz (by rw [List.length_map, hl]; exact (Nat.min_self n).symm) (by
      intro j v hj
      have hadd : (⟨sb, so, none⟩ : Addr).add j = ⟨sb, so + j, none⟩ := by unfold Addr.add; split <;> simp_all
      have hjl : j < n := by
        have := (List.getElem?_eq_some_iff.1 hj).1
        rw [List.length_map, hl] at this
        exact this
      rw [hadd, hcell j hjl, ← hj, List.getElem?_map, List.getD_eq_getElem?_getD, List.getElem?_eq_getElem (by omega)]
      simp [byteV]) (by
      intro j hj
      rw [List.length_map, hl] at hj
      rw [Nat.zero_add, hb.cell j (by omega)]
      rfl) (by
      intro j hj
      rw [List.length_map, hl] at hj
      rw [Nat.zero_add]
      exact hb.frozen j (by omega)) (by
      intro v hv
      obtain ⟨x, _, rfl⟩ := List.mem_map.1 hv
      rfl)
    rw [List.length_map, hl] at hrun
    have hnew := Lent.setCells src L 0 w hb (by omega)
    rw [Nat.zero_add, hl, List.take_zero, List.nil_append] at hnew
    unfold Oper.wp
    simp only [execOp, ho, resolve, invoke, builtin, Sem.run_bind, Sem.run_pure, Result.andThen_ok, List.map_toArray, List.map_cons, List.map_nil, hd, hs, hrun]
    exact hK _ _ (h _ hnew (setCells_below b b (Nat.le_refl _) _ _ _) (setCells_size _ _ _ _) (fun k hk => setCells_other _ _ _ _ k hk))
end Go.Proofs.Ytofdpccjpodbhaa

namespace Go.Proofs.Ytofdpccjpodbhaa
open Go.RowKit Go.Lib
set_option linter.unusedVariables false

def spareL : List UInt8 := [98, 101, 104, 105, 110, 100, 32, 105, 116]

theorem strCells_mk (l : List UInt8) : strCells ⟨l.toArray⟩ = l.map byteV := by
  unfold strCells byteV
  simp

/-- append(row, "..."), the row in lent memory -/
theorem run_append_lent {P : Program} (w : World) (t u ty : Nat) (ht : P.underlying t = some (.slice 5)) (hu : P.underlying u = some .string) (hinfo : (P.info? 5).map (fun i => (i.zero, i.size, i.bytes)) = some (some (.int .u8 0), 1, 1))
    (g n cap : Nat) (L l r : List UInt8) (hg : Lent w g L) (hL : L.length = cap) (hl : L.take n = l) (hn : n ≤ cap) (hcm : cap ≤ maxLen) (hsz : n + r.length ≤ 70368744177664) :
    ∃ g' cap' L' w', (Builtin.append_ #[t, u] ty #[.slice (some ⟨g, 0, none⟩) n cap, .string ⟨r.toArray⟩]).run P w = .ok (.slice (some ⟨g', 0, none⟩) (n + r.length) cap') w' ∧ Lent w' g' L' ∧ L'.length = cap' ∧ L'.take (n + r.length) = l ++ r ∧ n + r.length ≤ cap' ∧ cap' ≤ maxLen ∧
      w.grownBy w' (some g) ∧ (g' = g ∨ w.heap.size ≤ g') := by
  obtain ⟨i, hi, hzz⟩ := Option.map_eq_some_iff.1 hinfo
  simp only [Prod.mk.injEq] at hzz
  obtain ⟨hz, hs1, hb⟩ := hzz
  have hss : (⟨r.toArray⟩ : ByteArray).size = r.length := by simp [ByteArray.size]
  have hf := run_firstCells_string (P := P) w 1 ⟨r.toArray⟩
  have hsc := strCells_mk r
  by_cases hroom : n + r.length ≤ cap
  · have hst := run_storeCells_cells (P := P) g n (strCells ⟨r.toArray⟩) 0 w (by
      intro j hj
      rw [hsc, List.length_map] at hj
      rw [Nat.add_zero, hg.cell (n + j) (by omega)]; rfl) (by
      intro j hj
      rw [hsc, List.length_map] at hj
      rw [Nat.add_zero]
      exact hg.frozen (n + j) (by omega)) (strCells_oneCell _)
    simp only [Nat.add_zero] at hst
    have hroom' : n + (⟨r.toArray⟩ : ByteArray).size ≤ cap := by rw [hss]; exact hroom
    have hrun : (Builtin.append_ #[t, u] ty #[.slice (some ⟨g, 0, none⟩) n cap, .string ⟨r.toArray⟩]).run P w = .ok (.slice (some ⟨g, 0, none⟩) (n + (⟨r.toArray⟩ : ByteArray).size) cap) (w.setCells g n (strCells ⟨r.toArray⟩)) := by
      simp [Builtin.append_, run_underlying ht, run_underlying hu, sizeOf, typeInfo, hi, hs1, Builtin.lenOf, hroom', hf, Addr.add_lit, hst]
    rw [hss, hsc] at hrun
    have hnew := Lent.setCells r L n w hg (by omega)
    refine ⟨g, cap, _, _, hrun, hnew, ?_, ?_, hroom, hcm, ?_, .inl rfl⟩
    · simp only [List.length_append, List.length_take, List.length_drop]; omega
    · rw [hl, ← List.append_assoc]
      exact List.take_left' (by rw [List.length_append, ← hl, List.length_take]; omega)
    · have h1 := setCells_below 0 g (Nat.zero_le _) (r.map byteV) n w
      exact ⟨h1.os, h1.tape, h1.output, h1.size, fun k hk hne => setCells_other g _ n w k (fun e => hne (by rw [e]))⟩
  · have hr := run_append_grow_string (P := P) w t u ty 5 i (.int .u8 0) ht hu hi hz ⟨g, 0, none⟩ n cap (l.map byteV) (by rw [List.length_map, ← hl, List.length_take, hs1]; omega) (by
      intro j v hj
      have hadd : (⟨g, 0, none⟩ : Addr).add j = ⟨g, 0 + j, none⟩ := by unfold Addr.add; split <;> simp_all
      have hjl : j < n := by
        have := (List.getElem?_eq_some_iff.1 hj).1
        rw [List.length_map, ← hl, List.length_take] at this
        omega
      rw [hadd, Nat.zero_add, hg.cell j (by omega), ← hj, List.getElem?_map, ← hl, List.getElem?_take, if_pos hjl, List.getD_eq_getElem?_getD, List.getElem?_eq_getElem (by omega)]
      simp [byteV]) ⟨r.toArray⟩ (by rw [hss]; omega) (by rw [hss]; omega) (by rw [hss, hb]; exact growslice_fits (by omega) (by omega))
    rw [hss, hsc] at hr
    obtain ⟨cap', hcap'⟩ : ∃ c, grownCap w (n + r.length) cap 5 = c := ⟨_, rfl⟩
    have hge := grownCap_ge w (n + r.length) cap 5
    have hle := grownCap_le_maxLen w (n + r.length) cap 5 (by unfold maxLen; omega)
    rw [hcap'] at hr hge hle
    have hlen : l.length = n := by rw [← hl, List.length_take]; omega
    refine ⟨w.heap.size, cap', l ++ r ++ List.replicate (cap' - (n + r.length)) 0, _, hr, ⟨(0, 0), ?_, .inl rfl⟩, ?_, ?_, hge, hle, ⟨rfl, rfl, rfl, by simp, fun k hk _ => heap_alloc_old w.drew _ hk⟩, .inr (Nat.le_refl _)⟩
    · refine (heap_alloc_new w.drew _).trans ?_
      congr 2
      apply Array.ext'
      simp [Builtin.zeroCells, Value.cells, byteV]
      apply List.ext_getElem
      · simp
      · intro i h1 h2
        simp [Nat.mod_one]
    · simp only [List.length_append, List.length_replicate, hlen]; omega
    · exact List.take_left' (by rw [List.length_append, hlen])

theorem wpList_append_lent {P : Program} {w : World} {ops : Array Oper} {rest : List Oper} {o : Oper} {a : Act} {Q : Exit → Act → World → Prop} (hgd : o.guard = none) (s x : Operand) (t u : TypeId)
    (ho : o.op = .call { callee := .builtin .append, args := #[s, x], argTypes := #[t, u] }) (ht : P.underlying t = some (.slice 5)) (hu : P.underlying u = some .string) (hinfo : (P.info? 5).map (fun i => (i.zero, i.size, i.bytes)) = some (some (.int .u8 0), 1, 1))
    (g n cap : Nat) (L l r : List UInt8) (hs : a.eval s = .slice (some ⟨g, 0, none⟩) n cap) (hx : a.eval x = .string ⟨r.toArray⟩)
    (hg : Lent w g L) (hL : L.length = cap) (hl : L.take n = l) (hn : n ≤ cap) (hcm : cap ≤ maxLen) (hsz : n + r.length ≤ 70368744177664)
    (h : ∀ g' cap' L' w', Lent w' g' L' → L'.length = cap' → L'.take (n + r.length) = l ++ r → n + r.length ≤ cap' → cap' ≤ maxLen → w.grownBy w' (some g) → (g' = g ∨ w.heap.size ≤ g') → wpList P ops Q rest (a.put o.dst (.slice (some ⟨g', 0, none⟩) (n + r.length) cap')) w') :
    wpList P ops Q (o :: rest) a w := by
  refine wpList_plain hgd fun K hK => ?_
  obtain ⟨g', cap', L', w', hr, h1, h2, h3, h4, h5, h6, h7⟩ := run_append_lent (P := P) w t u o.type ht hu hinfo g n cap L l r hg hL hl hn hcm hsz
  unfold Oper.wp execOp
  simp only [ho, resolve, invoke, builtin, Sem.run_bind, Sem.run_pure, Result.andThen_ok, List.map_toArray, List.map_cons, List.map_nil, hs, hx, hr]
  exact hK _ _ (h g' cap' L' w' h1 h2 h3 h4 h5 h6 h7)

/-- what lent hands out: the block, its capacity, its bytes -/
def LentOut (w : World) (l : List UInt8) (e : Ending) (w' : World) : Prop :=
  ∃ g cap L, e = .returned (.slice (some ⟨g, 0, none⟩) l.length cap) ∧ w.heap.size ≤ g ∧ Below w.heap.size w w' ∧ Lent w' g L ∧ L.length = cap ∧ L.take (l.length + 9) = l ++ spareL ∧ l.length + 9 ≤ cap ∧ cap ≤ maxLen

theorem lent_any (w : World) (a : Option Addr) (n c : Nat) (l : List UInt8) (h : BytesIn w a n c l) (hz : n ≤ 1048576) :
    Calls Try.prog 12 #[.slice a n c] w (LentOut w l) := by
  have hl := h.len
  subst hl
  have hc1 := run_string_bytes (P := Try.prog) w 22 9 5 Try.underlying22 Try.underlying5 Try.underlying9 a _ c l h
  have hc2 := Go.Lib.run_convert_string_bytes (P := Try.prog) w 9 22 5 ⟨l.toArray⟩ Try.underlying9 Try.underlying22 Try.underlying5
  have hss : (⟨l.toArray⟩ : ByteArray).size = l.length := by simp [ByteArray.size]
  rw [hss] at hc2
  obtain ⟨cap, hcap⟩ : ∃ k, grownCap w l.length 0 5 = k := ⟨_, rfl⟩
  have hge := grownCap_ge w l.length 0 5
  have hle := grownCap_le_maxLen w l.length 0 5 (by unfold maxLen; omega)
  rw [hcap] at hc2 hge hle
  have hbc : bytesCells w 5 ⟨l.toArray⟩ = ((l ++ List.replicate (cap - l.length) 0).map byteV).toArray := by
    unfold bytesCells
    rw [hss, hcap]
    apply Array.ext'
    simp [byteV]
  have hnew : Lent (bytesWorld w 5 ⟨l.toArray⟩) w.heap.size (l ++ List.replicate (cap - l.length) 0) := by
    refine ⟨_, (bytesWorld_at_new w 5 ⟨l.toArray⟩).trans (by rw [hbc]), .inr ?_⟩
    simp
  have hbel : Below w.heap.size w (bytesWorld w 5 ⟨l.toArray⟩) := by
    refine ⟨rfl, rfl, rfl, ?_, fun k hk => bytesWorld_at_old w _ _ k hk⟩
    simp [bytesWorld, World.freeze, World.alloc, World.drew, -World.alloc_eq, -World.drew_eq]
  have hsl : w.heap.size < (bytesWorld w 5 ⟨l.toArray⟩).heap.size := hnew.lt
  generalize bytesWorld w 5 ⟨l.toArray⟩ = w1 at *
  generalize (⟨l.toArray⟩ : ByteArray) = S at *
  have HN := Lib.hid hnew
  have HB := Lib.hid hbel
  clear hbc hss hcap hnew hbel
  obtain ⟨n, hn⟩ : ∃ n, l.length = n := ⟨_, rfl⟩
  have HL := Lib.hid hn
  unfold LentOut
  rw [hn] at h hz hc1 hc2 hge ⊢
  clear hn
  go_enter Try.func12, Try.ntmps12
  go_upto_region 2 with fail
  go_wp2_with (at_builtin; refine wpList_append_lent rfl (.tmp 9) _ 22 9 rfl Try.underlying22 Try.underlying9 info_u8 w.heap.size n cap _ l spareL rfl rfl HN.out ?hL ?hl hge hle ?hsz ?_)
  case hL => rw [List.length_append, List.length_replicate, HL.out]; omega
  case hl => exact List.take_left' HL.out
  case hsz => show n + 9 ≤ _; omega
  intro g' cap' L' w2 hL2 hLl hLt hLc hLm hgr hgg
  have hg0 : w.heap.size ≤ g' := by
    have := HB.out.size
    rcases hgg with e | e <;> omega
  have hB2 : Below w.heap.size w w2 := HB.out.grown hgr HB.out.size (fun k hk => by simp only [Option.some.injEq] at hk; omega)
  have hn9 : n + spareL.length = n + 9 := rfl
  rw [hn9] at hLt hLc ⊢
  have HL2 := Lib.hid hL2
  have HLT := Lib.hid hLt
  have HLL := Lib.hid hLl
  have hLm' := hLm
  unfold maxLen at hLm'
  clear hc1 hc2 hgr hgg hL2 hLt hLl hn9
  go_wp2_with fail
  go_ret
  exact ⟨g', cap', L', rfl, hg0, hB2, HL2.out, HLL.out, HLT.out, hLc, hLm⟩
end Go.Proofs.Ytofdpccjpodbhaa

namespace Go.Proofs.Ytofdpccjpodbhaa
open Go.RowKit
set_option linter.unusedVariables false

def turnB (l : List UInt8) : List UInt8 := l.map fun x => x ^^^ 85

theorem xor85_all : ∀ i : Fin 256, bits BinOp.xor IntKind.u8 (i.val : Int) 85 = (((UInt8.ofNat i.val ^^^ 85).toNat : Nat) : Int) := by decide +kernel
theorem xor85 (y : UInt8) : bits BinOp.xor IntKind.u8 (y.toNat : Int) 85 = (((y ^^^ 85).toNat : Nat) : Int) := by
  have := xor85_all ⟨y.toNat, y.toNat_lt⟩
  simpa using this

set_option maxHeartbeats 1000000 in
theorem turned_any (w : World) (a : Option Addr) (n c : Nat) (l : List UInt8) (h : BytesIn w a n c l) (hz : n ≤ 1048576) :
    Calls Try.prog 13 #[.slice a n c] w fun e w' => ∃ v, e = .returned v ∧ OwnBytes w' w.heap.size 5 v (turnB l) ∧ Below w.heap.size w w' := by
  have hle := h.le
  have hcap := h.cap
  unfold maxLen at hcap
  have HH := Lib.hid h
  have HL := Lib.hid h.len
  clear h
  go_enter Try.func13, Try.ntmps13
  go_wp2_with fail
  go_loopw [3, 4] (fun s3 s4 wr => ∃ k : Nat, k ≤ n ∧ s4 = .int .i64 k ∧ OwnBytes wr w.heap.size 5 s3 ((turnB l).take k) ∧ Below w.heap.size w wr) (fun _ s4 _ => n - (intOf s4).toNat)
  case atStart => exact ⟨0, by omega, rfl, OwnBytes.nil _ _ _, Below.refl _ _⟩
  case round =>
    obtain ⟨k, hk, rfl, ho, hB⟩ := hrel
    by_cases hlt : k < n
    · have h1 := HH.out.below hB
      obtain ⟨b, o, rfl, _, hc⟩ := h1.at_ (by omega)
      have hck := hc k hlt
      obtain ⟨y, hy⟩ : ∃ y, l.getD k 0 = y := ⟨_, rfl⟩
      rw [hy] at hck
      have hs : (turnB l).take (k + 1) = (turnB l).take k ++ [y ^^^ 85] := by
        rw [take_succ_getD _ _ (by unfold turnB; rw [List.length_map, HL.out]; exact hlt)]
        congr 2
        rw [← hy]
        unfold turnB
        have hkl : k < l.length := by rw [HL.out]; exact hlt
        simp [List.getD_eq_getElem?_getD, hkl]
      have HS := Lib.hid hs
      have hlo : ((turnB l).take k).length = k := by unfold turnB; rw [List.length_take, List.length_map, HL.out]; omega
      have HLO := Lib.hid hlo
      have hbs := hB.size
      clear h1 hc hy hs hlo
      go_wp2_with (at_builtin; refine wpList_append_grew' rfl (.tmp 11) (.tmp 17) 22 rfl w.heap.size 5 Try.underlying22 info_u8 _ ((turnB l).take k) (y ^^^ 85) _ rfl rfl ?hyv ho ?hlen ?hbase ?_)
      case hyv => rw [xor85]
      case hlen => rw [HLO.out]; omega
      case hbase => exact hbs
      intro v' w' ho' hg' hf'
      have ho2 : OwnBytes w' w.heap.size 5 v' ((turnB l).take (k + 1)) := by rw [HS.out]; exact ho'
      have HO2 := Lib.hid ho2
      have hB2 := hB.grown hg' hB.size (fun k hk => (ho.row.lt k hk).1)
      clear ho2 ho' hg' hf' ho
      go_wp2_with fail
      go_roundw
      case rel => exact ⟨k + 1, by omega, by go_num, HO2.out, hB2⟩
      case measure => simp [intOf]; omega
    · obtain rfl : k = n := by omega
      rw [List.take_of_length_le (by unfold turnB; rw [List.length_map, HL.out]; exact Nat.le_refl _)] at ho
      have HO := Lib.hid ho
      clear ho
      go_wp2_with fail
      go_ret
      exact ⟨_, rfl, HO.out, hB⟩

theorem strCat (l r : List UInt8) : ((⟨l.toArray⟩ : ByteArray) ++ ⟨r.toArray⟩) = ⟨(l ++ r).toArray⟩ := by
  apply ByteArray.ext
  simp

set_option maxHeartbeats 2000000 in
/-- .. and its owner writes all over -/
theorem kept_any (w : World) (g n cap : Nat) (L r : List UInt8) (a : Option Addr) (c : Nat) (hg : Lent w g L) (hL : L.length = cap) (hLt : L.take (n + 9) = r ++ spareL) (hnc : n + 9 ≤ cap) (hcm : cap ≤ maxLen) (h : BytesIn w a n c r) (hz : n ≤ 1048576) :
    Calls Try.prog 15 #[.slice (some ⟨g, 0, none⟩) n cap, .slice a n c] w fun e w' => e = .returned (.bool true) ∧ w.grownBy w' (some g) := by
  have hcm' := hcm
  unfold maxLen at hcm'
  have hcc := h.cap
  have hcl := h.le
  unfold maxLen at hcc
  have hrl := h.len
  have hall := hg.bytes 0 (n + 9) cap (by omega) hnc hcm
  rw [List.drop_zero, hLt] at hall
  have v1 : ∀ m, (convert 22 9 (.slice (some ⟨g, 0, none⟩) (n + 9) cap)).run Try.prog (w.drewN m) = .ok (.string ⟨(r ++ spareL).toArray⟩) (w.drewN m) := fun m => run_string_bytes _ _ _ 5 Try.underlying22 Try.underlying5 Try.underlying9 _ _ _ _ (hall.below ⟨rfl, rfl, rfl, Nat.le_refl _, fun _ _ => rfl⟩)
  have v2 : ∀ m, (convert 22 9 (.slice a n c)).run Try.prog (w.drewN m) = .ok (.string ⟨r.toArray⟩) (w.drewN m) := fun m => run_string_bytes _ _ _ 5 Try.underlying22 Try.underlying5 Try.underlying9 _ _ _ _ (h.below ⟨rfl, rfl, rfl, Nat.le_refl _, fun _ _ => rfl⟩)
  have v1' := v1 0
  have v2' := v2 0
  rw [World.drewN_zero] at v1' v2'
  have HG := Lib.hid hg
  have HLL := Lib.hid hL
  have hcat := strCat r spareL
  clear h hall hg hL hLt
  go_enter Try.func15, Try.ntmps15
  go_upto_region 4 with fail
  go_upto_region 5 with fail
  have hb : (r ++ spareL == (({ data := r.toArray } : ByteArray) ++ { data := #[98, 101, 104, 105, 110, 100, 32, 105, 116] }).toList) = true := by
    have e : (({ data := r.toArray } : ByteArray) ++ { data := #[98, 101, 104, 105, 110, 100, 32, 105, 116] }) = ⟨(r ++ spareL).toArray⟩ := hcat
    rw [e, ByteArray.toList_eq]
    simp
  rw [hb]
  clear hb hcat v1 v2 v1' v2'
  go_wp2_with fail
  go_loopw [7] (fun s7 wr => ∃ (k : Nat) (L' : List UInt8), k ≤ n + 9 ∧ s7 = .int .i64 k ∧ Lent wr g L' ∧ L'.length = cap ∧ w.grownBy wr (some g)) (fun s7 _ => n + 9 - (intOf s7).toNat)
  case atStart => exact ⟨0, L, by omega, rfl, HG.out, HLL.out, ⟨rfl, rfl, rfl, Nat.le_refl _, fun _ _ _ => rfl⟩⟩
  case round =>
    obtain ⟨k, L', hk, rfl, hl, hll, hgr⟩ := hrel
    by_cases hlt : k < n + 9
    · have hc := hl.cell k (by omega)
      have hf := hl.frozen k (by omega)
      have hs := hl.set k 238
      have hs' : Lent (wr.setCell ⟨g, k, none⟩ (.int .u8 238)) g (L'.set k 238) := hs
      have hgr2 : w.grownBy (wr.setCell ⟨g, k, none⟩ (.int .u8 238)) (some g) :=
        ⟨hgr.os, hgr.tape, hgr.output, by rw [World.size_setCell]; exact hgr.size, fun j hj hne => (heap_setCell_other wr ⟨g, k, none⟩ j _ (fun e => hne (by rw [e]))).trans (hgr.block j hj hne)⟩
      have HS := Lib.hid hs'
      have HGR := Lib.hid hgr2
      have hklt : (k : Int) < (n : Int) + 9 := by omega
      clear hl hs hs' hgr hgr2
      go_wp2_with fail
      go_roundw
      case rel => exact ⟨k + 1, _, by omega, by go_num, HS.out, by rw [List.length_set]; exact hll, HGR.out⟩
      case measure => simp [intOf]; omega
    · obtain rfl : k = n + 9 := by omega
      have HGR := Lib.hid hgr
      clear hl hgr
      go_wp2_with fail
      go_ret
      exact ⟨rfl, HGR.out⟩
end Go.Proofs.Ytofdpccjpodbhaa

namespace Go.Proofs.Ytofdpccjpodbhaa
open Go.RowKit
set_option linter.unusedVariables false

def hdL (P : Int) : List UInt8 := if P = 0 ∨ P = 3 then headL P.toNat else []
def hdE (P : Int) : Int := if P = 0 ∨ P = 3 then 0 else 50
theorem hdL_le (P : Int) : (hdL P).length ≤ 8 := by
  unfold hdL
  split
  · exact Nat.le_refl _
  · exact Nat.zero_le _

theorem Header_row (w : World) (P : Int) :
    Calls Try.prog 21 #[.int .i64 P] w fun e w' => ∃ p k c, e = .returned (.tuple #[.slice p k c, .int .i64 (hdE P)]) ∧ Below w.heap.size w w' ∧ RowB w' w.heap.size (.slice p k c) (hdL P) := by
  unfold hdL hdE
  by_cases h : P = 0 ∨ P = 3
  · obtain ⟨q, rfl⟩ := Int.eq_ofNat_of_zero_le (show 0 ≤ P by omega)
    rw [if_pos h, if_pos h, Int.toNat_natCast]
    refine (Header_ok w q (by omega)).mono fun e w' hh => ?_
    obtain ⟨g, he, hg, hb, hk⟩ := hh
    exact ⟨_, _, _, he, hb, .inr ⟨hk.own hg rfl (by decide), g, rfl⟩⟩
  · rw [if_neg h, if_neg h]
    refine (Header_bad w P (by omega)).mono fun e w' hh => ?_
    exact ⟨none, 0, 0, hh.1, by rw [← hh.2]; exact Below.refl _ _, .inl (OwnBytes.nil _ _ _)⟩
theorem rHeader_row (w : World) (P : Int) :
    Calls Try.prog 22 #[.int .i64 P] w fun e w' => ∃ p k c, e = .returned (.tuple #[.slice p k c, .int .i64 (hdE P)]) ∧ Below w.heap.size w w' ∧ OwnBytes w' w.heap.size 5 (.slice p k c) (hdL P) := by
  unfold hdL hdE
  by_cases h : P = 0 ∨ P = 3
  · obtain ⟨q, rfl⟩ := Int.eq_ofNat_of_zero_le (show 0 ≤ P by omega)
    rw [if_pos h, if_pos h, Int.toNat_natCast]
    refine (rHeader_ok w q (by omega)).mono fun e w' hh => ?_
    obtain ⟨g, he, hg, hb, hk⟩ := hh
    exact ⟨_, _, _, he, hb, hk.own hg rfl (by decide)⟩
  · rw [if_neg h, if_neg h]
    refine (rHeader_bad w P (by omega)).mono fun e w' hh => ?_
    exact ⟨none, 0, 0, hh.1, by rw [← hh.2]; exact Below.refl _ _, OwnBytes.nil _ _ _⟩

theorem row_not_block5 {w : World} {B T T' k n b : Nat} {v : Value} {xs : List Value} {cs : Array Value} {fr : Nat × Nat} (hv : w.ownsRow B T k v n xs) (hb : w.heap[b]? = some (.cells cs T' fr)) (hT : T ≠ T') : some b ≠ v.ownBlock := by
  rcases hv.2 with ⟨rfl, _⟩ | ⟨g, cap, cur, rfl, _, hh, _⟩
  · simp [Value.ownBlock]
  · intro he
    simp only [Value.ownBlock, Option.some.injEq] at he
    subst he
    rw [hh] at hb
    simp only [Option.some.injEq, Obj.cells.injEq] at hb
    exact hT hb.2.1
theorem row_mono5 {w : World} {B B' T k n : Nat} {v : Value} {xs : List Value} (h : w.ownsRow B T k v n xs) (hb : B' ≤ B) : w.ownsRow B' T k v n xs := by
  obtain ⟨h1, h2⟩ := h
  refine ⟨h1, ?_⟩
  rcases h2 with h2 | ⟨g, cap, cur, e, hg, r⟩
  · exact .inl h2
  · exact .inr ⟨g, cap, cur, e, by omega, r⟩

/-- a book of rows: memory of the call's own from B on, its block, its list, its rows with what they read -/
structure Shelf5 (w0 wr : World) (bp B : Nat) (vl : Value) (vs : List Value) (ls : Nat → List UInt8) : Prop where
  bel : Below w0.heap.size w0 wr
  le1 : w0.heap.size ≤ bp
  le2 : bp < B
  size : B ≤ wr.heap.size
  book : Book5 wr B bp vl vs
  rows : ∀ j, j < vs.length → RowB wr B (vs.getD j default) (ls j)
  dist : Dist5 vs

theorem Book5.below {w w' : World} {B bp : Nat} {vl : Value} {vs : List Value} (h : Book5 w B bp vl vs) (hb : Below w.heap.size w w') : Book5 w' B bp vl vs := by
  have hg : w.grownBy w' none := ⟨hb.os, hb.tape, hb.output, hb.size, fun k hk _ => hb.block k hk⟩
  refine ⟨(hb.block bp h.lt).trans h.at_, h.row.kept hg ?_⟩
  cases h2 : vl.ownBlock with
  | none => exact .inl rfl
  | some g => exact .inr (fun h => by cases h)
theorem Shelf5.below {w0 wr w' : World} {bp B : Nat} {vl : Value} {vs : List Value} {ls : Nat → List UInt8} (h : Shelf5 w0 wr bp B vl vs ls) (hb : Below wr.heap.size wr w') : Shelf5 w0 w' bp B vl vs ls :=
  ⟨h.bel.trans (hb.mono h.bel.size), h.le1, h.le2, Nat.le_trans h.size hb.size, h.book.below hb, fun j hj => (h.rows j hj).of_below hb, h.dist⟩
theorem Shelf5.mono {w0 wr : World} {bp B : Nat} {vl : Value} {vs : List Value} {ls : Nat → List UInt8} (h : Shelf5 w0 wr bp B vl vs ls) (j : Nat) (hj : j < vs.length) : ∀ g, (vs.getD j default).ownBlock = some g → B ≤ g ∧ g < wr.heap.size := (h.rows j hj).lt

/-- a row that has just been made is put onto it -/
theorem Shelf5.put {w0 wr w2 w3 : World} {bp B : Nat} {vl vl' v : Value} {vs : List Value} {ls : Nat → List UInt8} {l : List UInt8} (h : Shelf5 w0 wr bp B vl vs ls) (hb : Below wr.heap.size wr w2) (hv : RowB w2 wr.heap.size v l)
    (hr : w3.ownsRow B 22 1 vl' (vs.length + 1) (vs ++ [v])) (hg : w2.grownBy w3 vl.ownBlock) : Shelf5 w0 (w3.setCell ⟨bp, 0, none⟩ vl') bp B vl' (vs ++ [v]) (fun j => if j < vs.length then ls j else l) := by
  have h2 := h.below hb
  have hbp := h2.book.lt
  have hbv : w3.heap[bp]? = some (.cells #[vl] 31 (0, 0)) := (hg.block bp hbp (row_not_block5 h2.book.row h2.book.at_ (by decide))).trans h2.book.at_
  have hB3 : Below w0.heap.size w0 w3 := h2.bel.grown hg h2.bel.size (fun k hk => Nat.le_trans h2.le1 (Nat.le_of_lt (Nat.lt_of_lt_of_le h2.le2 (h2.book.row.lt k hk).1)))
  have hset := setCell_grown w3 bp 0 vl'
  have hne : ∀ {u : Value} {r : List UInt8} {B' : Nat}, RowB w3 B' u r → u.ownBlock = none ∨ u.ownBlock ≠ some bp := fun hu => .inr (hu.not_block hbv ⟨by decide, by decide⟩)
  have hvB : RowB w2 B v l := by
    have hs := h.size
    rcases hv with hv | ⟨hv, hv2⟩
    · exact .inl ⟨row_mono5 hv.row hs⟩
    · exact .inr ⟨⟨row_mono5 hv.row hs⟩, hv2⟩
  have hv3 : RowB w3 B v l := hvB.kept hg (hvB.apart h2.book.row)
  have hlen : (vs ++ [v]).length = vs.length + 1 := by simp
  refine ⟨hB3.setCell h2.le1 _, h2.le1, h2.le2, by rw [World.size_setCell]; exact Nat.le_trans h2.size hg.size, ⟨?_, ?_⟩, fun j hj => ?_, ?_⟩
  · have := heap_setCell_same w3 bp 0 _ _ vl' hbv
    simpa using this
  · rw [hlen]
    refine hr.kept hset ?_
    cases e : vl'.ownBlock with
    | none => exact .inl rfl
    | some g' =>
      refine .inr (fun he => ?_)
      have := row_not_block5 hr hbv (by decide)
      rw [e] at this
      exact this he.symm
  · rw [hlen] at hj
    by_cases hjl : j < vs.length
    · rw [if_pos hjl, List.getD_eq_getElem?_getD, List.getElem?_append_left hjl, ← List.getD_eq_getElem?_getD]
      have hu := h2.rows j hjl
      have hu3 := hu.kept hg (hu.apart h2.book.row)
      exact hu3.kept hset (hne hu3)
    · obtain rfl : j = vs.length := by omega
      rw [if_neg (Nat.lt_irrefl _)]
      have e : (vs ++ [v]).getD vs.length default = v := by simp
      rw [e]
      exact hv3.kept hset (hne hv3)
  · have hnew : ∀ j, j < vs.length → (vs.getD j default).ownBlock = none ∨ v.ownBlock = none ∨ (vs.getD j default).ownBlock ≠ v.ownBlock := fun j hj => by
      cases e1 : (vs.getD j default).ownBlock with
      | none => exact .inl rfl
      | some g1 =>
        cases e2 : v.ownBlock with
        | none => exact .inr (.inl rfl)
        | some g2 =>
          refine .inr (.inr (fun he => ?_))
          simp only [Option.some.injEq] at he
          have x1 := (h.rows j hj).lt g1 e1
          have x2 := hv.lt g2 e2
          omega
    have hgl : ∀ j, j < vs.length → (vs ++ [v]).getD j default = vs.getD j default := fun j hj => by
      rw [List.getD_eq_getElem?_getD, List.getElem?_append_left hj, ← List.getD_eq_getElem?_getD]
    have hgv : (vs ++ [v]).getD vs.length default = v := by simp
    intro i j hi hj hij
    rw [hlen] at hi hj
    by_cases hi' : i < vs.length
    · by_cases hj' : j < vs.length
      · rw [hgl i hi', hgl j hj']; exact h.dist i j hi' hj' hij
      · obtain rfl : j = vs.length := by omega
        rw [hgl i hi', hgv]
        rcases hnew i hi' with e | e | e
        · exact .inl e
        · cases e1 : (vs.getD i default).ownBlock with
          | none => exact .inl rfl
          | some g => rw [e]; exact .inr (fun h => by cases h)
        · exact .inr e
    · obtain rfl : i = vs.length := by omega
      have hj' : j < vs.length := by omega
      rw [hgl j hj', hgv]
      rcases hnew j hj' with e | e | e
      · cases e1 : v.ownBlock with
        | none => exact .inl rfl
        | some g => rw [e]; exact .inr (fun h => by cases h)
      · exact .inl e
      · exact .inr (fun h => e h.symm)
end Go.Proofs.Ytofdpccjpodbhaa
