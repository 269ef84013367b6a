/-
  The contract of lent of the statements of layer 5. Conditions: the bytes lie in memory and are not past 2^46 bytes.
-/
import Derived.Test.YtofdpccjpodbhaaLentM
namespace Go.Proofs.Ytofdpccjpodbhaa
open Go.RowKit Go.Lib
set_option linter.unusedVariables false

def spareL : List UInt8 := [98, 101, 104, 105, 110, 100, 32, 105, 116]

theorem strCells_mk (l : List UInt8) : strCells ⟨l.toArray⟩ = l.map byteV := by
  unfold strCells byteV
  simp

/-- append(row, "..."), the row in lent memory -/
theorem run_append_lent {P : Program} (w : World) (t u ty : Nat) (ht : P.underlying t = some (.slice 5)) (hu : P.underlying u = some .string) (hinfo : (P.info? 5).map (fun i => (i.zero, i.size, i.bytes)) = some (some (.int .u8 0), 1, 1))
    (g n cap : Nat) (L l r : List UInt8) (hg : Lent w g L) (hL : L.length = cap) (hl : L.take n = l) (hn : n ≤ cap) (hcm : cap ≤ maxLen) (hsz : n + r.length ≤ 70368744177664) :
    ∃ g' cap' L' w', (Builtin.append_ #[t, u] ty #[.slice (some ⟨g, 0, none⟩) n cap, .string ⟨r.toArray⟩]).run P w = .ok (.slice (some ⟨g', 0, none⟩) (n + r.length) cap') w' ∧ Lent w' g' L' ∧ L'.length = cap' ∧ L'.take (n + r.length) = l ++ r ∧ n + r.length ≤ cap' ∧ cap' ≤ maxLen ∧
      w.grownBy w' (some g) ∧ (g' = g ∨ w.heap.size ≤ g') := by
  obtain ⟨i, hi, hzz⟩ := Option.map_eq_some_iff.1 hinfo
  simp only [Prod.mk.injEq] at hzz
  obtain ⟨hz, hs1, hb⟩ := hzz
  have hss : (⟨r.toArray⟩ : ByteArray).size = r.length := by simp [ByteArray.size]
  have hf := run_firstCells_string (P := P) w 1 ⟨r.toArray⟩
  have hsc := strCells_mk r
  by_cases hroom : n + r.length ≤ cap
  · have hst := run_storeCells_cells (P := P) g n (strCells ⟨r.toArray⟩) 0 w (by
      intro j hj
      rw [hsc, List.length_map] at hj
      rw [Nat.add_zero, hg.cell (n + j) (by omega)]; rfl) (by
      intro j hj
      rw [hsc, List.length_map] at hj
      rw [Nat.add_zero]
      exact hg.frozen (n + j) (by omega)) (strCells_oneCell _)
    simp only [Nat.add_zero] at hst
    have hroom' : n + (⟨r.toArray⟩ : ByteArray).size ≤ cap := by rw [hss]; exact hroom
    have hrun : (Builtin.append_ #[t, u] ty #[.slice (some ⟨g, 0, none⟩) n cap, .string ⟨r.toArray⟩]).run P w = .ok (.slice (some ⟨g, 0, none⟩) (n + (⟨r.toArray⟩ : ByteArray).size) cap) (w.setCells g n (strCells ⟨r.toArray⟩)) := by
      simp [Builtin.append_, run_underlying ht, run_underlying hu, sizeOf, typeInfo, hi, hs1, Builtin.lenOf, hroom', hf, Addr.add_lit, hst]
    rw [hss, hsc] at hrun
    have hnew := Lent.setCells r L n w hg (by omega)
    refine ⟨g, cap, _, _, hrun, hnew, ?_, ?_, hroom, hcm, ?_, .inl rfl⟩
    · simp only [List.length_append, List.length_take, List.length_drop]; omega
    · rw [hl, ← List.append_assoc]
      exact List.take_left' (by rw [List.length_append, ← hl, List.length_take]; omega)
    · have h1 := setCells_below 0 g (Nat.zero_le _) (r.map byteV) n w
      exact ⟨h1.os, h1.tape, h1.output, h1.size, fun k hk hne => setCells_other g _ n w k (fun e => hne (by rw [e]))⟩
  · have hr := run_append_grow_string (P := P) w t u ty 5 i (.int .u8 0) ht hu hi hz ⟨g, 0, none⟩ n cap (l.map byteV) (by rw [List.length_map, ← hl, List.length_take, hs1]; omega) (by
      intro j v hj
      have hadd : (⟨g, 0, none⟩ : Addr).add j = ⟨g, 0 + j, none⟩ := by unfold Addr.add; split <;> simp_all
      have hjl : j < n := by
        have := (List.getElem?_eq_some_iff.1 hj).1
        rw [List.length_map, ← hl, List.length_take] at this
        omega
      rw [hadd, Nat.zero_add, hg.cell j (by omega), ← hj, List.getElem?_map, ← hl, List.getElem?_take, if_pos hjl, List.getD_eq_getElem?_getD, List.getElem?_eq_getElem (by omega)]
      simp [byteV]) ⟨r.toArray⟩ (by rw [hss]; omega) (by rw [hss]; omega) (by rw [hss, hb]; exact growslice_fits (by omega) (by omega))
    rw [hss, hsc] at hr
    obtain ⟨cap', hcap'⟩ : ∃ c, grownCap w (n + r.length) cap 5 = c := ⟨_, rfl⟩
    have hge := grownCap_ge w (n + r.length) cap 5
    have hle := grownCap_le_maxLen w (n + r.length) cap 5 (by unfold maxLen; omega)
    rw [hcap'] at hr hge hle
    have hlen : l.length = n := by rw [← hl, List.length_take]; omega
    refine ⟨w.heap.size, cap', l ++ r ++ List.replicate (cap' - (n + r.length)) 0, _, hr, ⟨(0, 0), ?_, .inl rfl⟩, ?_, ?_, hge, hle, ⟨rfl, rfl, rfl, by simp, fun k hk _ => heap_alloc_old w.drew _ hk⟩, .inr (Nat.le_refl _)⟩
    · refine (heap_alloc_new w.drew _).trans ?_
      congr 2
      apply Array.ext'
      simp [Builtin.zeroCells, Value.cells, byteV]
      apply List.ext_getElem
      · simp
      · intro i h1 h2
        simp [Nat.mod_one]
    · simp only [List.length_append, List.length_replicate, hlen]; omega
    · exact List.take_left' (by rw [List.length_append, hlen])

theorem wpList_append_lent {P : Program} {w : World} {ops : Array Oper} {rest : List Oper} {o : Oper} {a : Act} {Q : Exit → Act → World → Prop} (hgd : o.guard = none) (s x : Operand) (t u : TypeId)
    (ho : o.op = .call { callee := .builtin .append, args := #[s, x], argTypes := #[t, u] }) (ht : P.underlying t = some (.slice 5)) (hu : P.underlying u = some .string) (hinfo : (P.info? 5).map (fun i => (i.zero, i.size, i.bytes)) = some (some (.int .u8 0), 1, 1))
    (g n cap : Nat) (L l r : List UInt8) (hs : a.eval s = .slice (some ⟨g, 0, none⟩) n cap) (hx : a.eval x = .string ⟨r.toArray⟩)
    (hg : Lent w g L) (hL : L.length = cap) (hl : L.take n = l) (hn : n ≤ cap) (hcm : cap ≤ maxLen) (hsz : n + r.length ≤ 70368744177664)
    (h : ∀ g' cap' L' w', Lent w' g' L' → L'.length = cap' → L'.take (n + r.length) = l ++ r → n + r.length ≤ cap' → cap' ≤ maxLen → w.grownBy w' (some g) → (g' = g ∨ w.heap.size ≤ g') → wpList P ops Q rest (a.put o.dst (.slice (some ⟨g', 0, none⟩) (n + r.length) cap')) w') :
    wpList P ops Q (o :: rest) a w := by
  refine wpList_plain hgd fun K hK => ?_
  obtain ⟨g', cap', L', w', hr, h1, h2, h3, h4, h5, h6, h7⟩ := run_append_lent (P := P) w t u o.type ht hu hinfo g n cap L l r hg hL hl hn hcm hsz
  unfold Oper.wp execOp
  simp only [ho, resolve, invoke, builtin, Sem.run_bind, Sem.run_pure, Result.andThen_ok, List.map_toArray, List.map_cons, List.map_nil, hs, hx, hr]
  exact hK _ _ (h g' cap' L' w' h1 h2 h3 h4 h5 h6 h7)

/-- what lent hands out: the block, its capacity, its bytes -/
def LentOut (w : World) (l : List UInt8) (e : Ending) (w' : World) : Prop :=
  ∃ g cap L, e = .returned (.slice (some ⟨g, 0, none⟩) l.length cap) ∧ w.heap.size ≤ g ∧ Below w.heap.size w w' ∧ Lent w' g L ∧ L.length = cap ∧ L.take (l.length + 9) = l ++ spareL ∧ l.length + 9 ≤ cap ∧ cap ≤ maxLen

theorem lent_any (w : World) (a : Option Addr) (n c : Nat) (l : List UInt8) (h : BytesIn w a n c l) (hz : n ≤ 1048576) :
    Calls Try.prog 12 #[.slice a n c] w (LentOut w l) := by
  have hl := h.len
  subst hl
  have hc1 := run_string_bytes (P := Try.prog) w 22 9 5 Try.underlying22 Try.underlying5 Try.underlying9 a _ c l h
  have hc2 := Go.Lib.run_convert_string_bytes (P := Try.prog) w 9 22 5 ⟨l.toArray⟩ Try.underlying9 Try.underlying22 Try.underlying5
  have hss : (⟨l.toArray⟩ : ByteArray).size = l.length := by simp [ByteArray.size]
  rw [hss] at hc2
  obtain ⟨cap, hcap⟩ : ∃ k, grownCap w l.length 0 5 = k := ⟨_, rfl⟩
  have hge := grownCap_ge w l.length 0 5
  have hle := grownCap_le_maxLen w l.length 0 5 (by unfold maxLen; omega)
  rw [hcap] at hc2 hge hle
  have hbc : bytesCells w 5 ⟨l.toArray⟩ = ((l ++ List.replicate (cap - l.length) 0).map byteV).toArray := by
    unfold bytesCells
    rw [hss, hcap]
    apply Array.ext'
    simp [byteV]
  have hnew : Lent (bytesWorld w 5 ⟨l.toArray⟩) w.heap.size (l ++ List.replicate (cap - l.length) 0) := by
    refine ⟨_, (bytesWorld_at_new w 5 ⟨l.toArray⟩).trans (by rw [hbc]), .inr ?_⟩
    simp
  have hbel : Below w.heap.size w (bytesWorld w 5 ⟨l.toArray⟩) := by
    refine ⟨rfl, rfl, rfl, ?_, fun k hk => bytesWorld_at_old w _ _ k hk⟩
    simp [bytesWorld, World.freeze, World.alloc, World.drew, -World.alloc_eq, -World.drew_eq]
  have hsl : w.heap.size < (bytesWorld w 5 ⟨l.toArray⟩).heap.size := hnew.lt
  generalize bytesWorld w 5 ⟨l.toArray⟩ = w1 at *
  generalize (⟨l.toArray⟩ : ByteArray) = S at *
  have HN := Lib.hid hnew
  have HB := Lib.hid hbel
  clear hbc hss hcap hnew hbel
  obtain ⟨n, hn⟩ : ∃ n, l.length = n := ⟨_, rfl⟩
  have HL := Lib.hid hn
  unfold LentOut
  rw [hn] at h hz hc1 hc2 hge ⊢
  clear hn
  go_enter Try.func12, Try.ntmps12
  go_upto_region 2 with fail
  go_wp2_with (at_builtin; refine wpList_append_lent rfl (.tmp 9) _ 22 9 rfl Try.underlying22 Try.underlying9 info_u8 w.heap.size n cap _ l spareL rfl rfl HN.out ?hL ?hl hge hle ?hsz ?_)
  case hL => rw [List.length_append, List.length_replicate, HL.out]; omega
  case hl => exact List.take_left' HL.out
  case hsz => show n + 9 ≤ _; omega
  intro g' cap' L' w2 hL2 hLl hLt hLc hLm hgr hgg
  have hg0 : w.heap.size ≤ g' := by
    have := HB.out.size
    rcases hgg with e | e <;> omega
  have hB2 : Below w.heap.size w w2 := HB.out.grown hgr HB.out.size (fun k hk => by simp only [Option.some.injEq] at hk; omega)
  have hn9 : n + spareL.length = n + 9 := rfl
  rw [hn9] at hLt hLc ⊢
  have HL2 := Lib.hid hL2
  have HLT := Lib.hid hLt
  have HLL := Lib.hid hLl
  have hLm' := hLm
  unfold maxLen at hLm'
  clear hc1 hc2 hgr hgg hL2 hLt hLl hn9
  go_wp2_with fail
  go_ret
  exact ⟨g', cap', L', rfl, hg0, hB2, HL2.out, HLL.out, HLT.out, hLc, hLm⟩
end Go.Proofs.Ytofdpccjpodbhaa
