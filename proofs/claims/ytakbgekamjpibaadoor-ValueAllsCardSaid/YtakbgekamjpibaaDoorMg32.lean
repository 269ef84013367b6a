/-
  The reference's All: a list of all that is told. Conditions: the value lies in memory.
  Lists are put into the book; an exact frame. Conditions: the value is one's own, apart from the book's, and is no greater than a million.
-/
import Derived.Test.YtakbgekamjpibaaDoorMg26
import Derived.Test.YtakbgekamjpibaaDoorOd
import Derived.Test.YtakbgekamjpibaaDoorMg30
namespace Go.Proofs.YtakbgekamjpibaaDoor
open Go.RowKit
set_option linter.unusedVariables false

attribute [local go_sem] Oper.semAt_some

theorem info_told : (Tryd.prog.info? 48).map (fun i => (i.zero, i.size, i.bytes)) = some (some (.agg #[.int .i64 0, .int .i64 0, .int .u64 0, .string ⟨#[]⟩, .slice none 0 0, .int .i64 0]), 6, 72) := by kernel_rfl
/-- the cells of what is told -/
def tcell (m : Int × V × Value) : List Value := [.int .i64 m.1, .int .i64 m.2.1.kind, .int .u64 m.2.1.num, .string m.2.1.text, m.2.2, .int .i64 m.2.1.elem]
theorem tflat_get : ∀ (M : List (Int × V × Value)) (i j : Nat) (h : i < M.length), j < 6 → (M.flatMap tcell)[i * 6 + j]? = (tcell M[i])[j]?
  | [], i, j, h, _ => by simp at h
  | a :: r, 0, j, h, hj => by
    rw [List.flatMap_cons, List.getElem?_append_left (by show 0 * 6 + j < 6; omega)]
    simp
  | a :: r, i + 1, j, h, hj => by
    rw [List.flatMap_cons, List.getElem?_append_right (by show 6 ≤ _; omega), show (i + 1) * 6 + j - (tcell a).length = i * 6 + j by show (i + 1) * 6 + j - 6 = _; omega]
    exact tflat_get r i j (by simpa using h) hj
/-- a list of what is told, in an array of one's own behind w0; the values lie in w0 -/
def ToldIn (w0 w : World) (t : Value) (L : List (Int × V)) : Prop :=
  ∃ M : List (Int × V × Value), M.map (fun m => (m.1, m.2.1)) = L ∧ w.ownsRow w0.heap.size 48 6 t L.length (M.flatMap tcell) ∧ ∀ m ∈ M, VIn w0 m.2.1 m.2.2
/-- only the list's own array is written, or a new one -/
structure TMv (w w' : World) (t t' : Value) : Prop where
  g : w.grownBy w' t.ownBlock
  o : ∀ j, t'.ownBlock = some j → t.ownBlock = some j ∨ w.heap.size ≤ j
section
variable {w0 w w' w2 : World} {t t' t2 : Value} {L : List (Int × V)}
theorem TMv.refl (w : World) (t : Value) : TMv w w t t := ⟨⟨rfl, rfl, rfl, Nat.le_refl _, fun _ _ _ => rfl⟩, fun j h => .inl h⟩
theorem TMv.trans (h : TMv w w' t t') (k : TMv w' w2 t' t2) : TMv w w2 t t2 := by
  refine ⟨⟨k.g.os.trans h.g.os, k.g.tape.trans h.g.tape, k.g.output.trans h.g.output, Nat.le_trans h.g.size k.g.size, fun j hj hn => (k.g.block j (Nat.lt_of_lt_of_le hj h.g.size) (fun e => ?_)).trans (h.g.block j hj hn)⟩, fun j hj => ?_⟩
  · rcases h.o j e.symm with q | q
    · exact hn q.symm
    · omega
  · have := h.g.size
    rcases k.o j hj with q | q
    · exact h.o j q
    · exact .inr (by omega)
theorem TMv.pre {w1 : World} (hb : Below w.heap.size w w1) (h : TMv w1 w' t t') (ht : ∀ j, t.ownBlock = some j → j < w.heap.size) : TMv w w' t t' :=
  ⟨⟨h.g.os.trans hb.os, h.g.tape.trans hb.tape, h.g.output.trans hb.output, Nat.le_trans hb.size h.g.size, fun j hj hn => (h.g.block j (Nat.lt_of_lt_of_le hj hb.size) hn).trans (hb.block j hj)⟩, fun j hj => by
    have := hb.size
    rcases h.o j hj with q | q
    · exact .inl q
    · exact .inr (by omega)⟩
theorem ToldIn.lt (h : ToldIn w0 w t L) : ∀ j, t.ownBlock = some j → w0.heap.size ≤ j ∧ j < w.heap.size := by
  obtain ⟨M, _, hr, _⟩ := h
  exact hr.lt
theorem TMv.below (h : TMv w w' t t') (hb : Below w0.heap.size w0 w) (ht : ToldIn w0 w t L) : Below w0.heap.size w0 w' :=
  hb.grown h.g hb.size (fun j hj => (ht.lt j hj).1)
theorem ToldIn.blw (h : ToldIn w0 w t L) (hb : Below w.heap.size w w') : ToldIn w0 w' t L := by
  obtain ⟨M, h1, h2, h3⟩ := h
  exact ⟨M, h1, ownsRow_keep h2 (fun j hj => hb.block j (h2.lt j hj).2), h3⟩
theorem ToldIn.keep (h : ToldIn w0 w t L) (e : ∀ j, t.ownBlock = some j → w'.heap[j]? = w.heap[j]?) : ToldIn w0 w' t L := by
  obtain ⟨M, h1, h2, h3⟩ := h
  exact ⟨M, h1, ownsRow_keep h2 e, h3⟩
theorem ToldIn.slice (h : ToldIn w0 w t L) : ∃ p c, t = .slice p L.length c ∧ L.length ≤ c ∧ c ≤ maxLen ∧ (0 < L.length → ∃ b, p = some ⟨b, 0, none⟩) := by
  obtain ⟨M, h1, h2, h3⟩ := h
  obtain ⟨p, c, q1, q2, q3, q4⟩ := ownsRow_form h2
  refine ⟨p, c, q1, q2, q3, fun hl => ?_⟩
  obtain ⟨b, q, _⟩ := q4 hl
  exact ⟨b, q⟩
theorem ToldIn.row (h : ToldIn w0 w t L) {b n c : Nat} (ht : t = .slice (some ⟨b, 0, none⟩) n c) {i : Nat} {d : Int} {x : V} (hi : L[i]? = some (d, x)) : ∃ s, VIn w0 x s ∧ ∀ j u, (tcell (d, x, s))[j]? = some u → w.cell? ⟨b, i * 6 + j, none⟩ = some u := by
  obtain ⟨M, h1, h2, h3⟩ := h
  subst ht
  have hl : i < L.length := (List.getElem?_eq_some_iff.1 hi).1
  have hm : i < M.length := by rw [← h1, List.length_map] at hl; exact hl
  have e : (M[i].1, M[i].2.1) = (d, x) := by
    have : (M.map (fun m => (m.1, m.2.1)))[i]? = some (d, x) := by rw [h1]; exact hi
    rw [List.getElem?_map, List.getElem?_eq_getElem hm] at this
    simpa using this
  simp only [Prod.mk.injEq] at e
  have hv := h3 _ (List.getElem_mem hm)
  have hg := fun j hj => tflat_get M i j hm hj
  obtain ⟨s, hs⟩ : ∃ s, M[i].2.2 = s := ⟨_, rfl⟩
  rw [hs, e.2] at hv
  obtain ⟨p, c2, q, _⟩ := ownsRow_form h2
  simp only [Value.slice.injEq] at q
  obtain ⟨rfl, rfl, rfl⟩ := q
  refine ⟨s, hv, fun j u hu => ?_⟩
  have hj : j < 6 := (List.getElem?_eq_some_iff.1 hu).1
  refine ownsRow_cell h2 ?_
  rw [hg j hj, ← hu]
  simp only [tcell, e.1, e.2, hs]
theorem ToldIn.push {M : List (Int × V × Value)} {s : Value} {d : Int} {v : V} {w9 : World} (h1 : M.map (fun m => (m.1, m.2.1)) = L) (h3 : ∀ m ∈ M, VIn w0 m.2.1 m.2.2) (hs : VIn w0 v s) (ha : App1 w w9 w0.heap.size 48 6 L.length t t2 (M.flatMap tcell ++ tcell (d, v, s))) (hb : w0.heap.size ≤ w.heap.size) :
    ToldIn w0 w9 t2 (L ++ [(d, v)]) ∧ TMv w w9 t t2 := by
  refine ⟨⟨M ++ [(d, v, s)], by rw [List.map_append, h1]; rfl, ?_, fun m hm => ?_⟩, ha.grown, fun j hj => ?_⟩
  · rw [List.flatMap_append, List.flatMap_singleton, List.length_append]
    exact ha.owns hb
  · rcases List.mem_append.1 hm with q | q
    · exact h3 m q
    · rw [List.mem_singleton] at q
      subst q
      exact hs
  · rcases ha.own hj with q | q
    · exact .inl q
    · exact .inr (by omega)
end

theorem pres_len_of {l : List V} (ih : ∀ v ∈ l, ∀ d : Int, (v.pre d).length = v.sz) (d : Int) : (pres l d).length = szs l := by
  induction l with
  | nil => rfl
  | cons a r hr => rw [pres, szs, List.length_append, ih a (List.mem_cons_self ..), hr (fun v hv => ih v (List.mem_cons_of_mem _ hv))]
theorem pre_len : ∀ (v : V) (d : Int), (v.pre d).length = v.sz := by
  refine V.ind (fun v ih d => ?_)
  rw [v.pre_eq, v.sz_eq, List.length_cons, pres_len_of ih]
  omega
theorem pres_len (l : List V) (d : Int) : (pres l d).length = szs l := pres_len_of (fun v _ => pre_len v) d
theorem szs_take (l : List V) {k : Nat} (h : k < l.length) : szs (l.take (k + 1)) = szs (l.take k) + (l[k]).sz := by
  rw [List.take_add_one, List.getElem?_eq_getElem h, Option.toList_some, szs_append]
  simp [szs]
theorem szs_take_le (l : List V) (k : Nat) : szs (l.take k) ≤ szs l := by
  have := szs_append (l.take k) (l.drop k)
  rw [List.take_append_drop] at this
  omega

set_option maxRecDepth 20000 in
set_option maxHeartbeats 4000000 in
theorem tell_any : ∀ (v : V) (w0 w : World) (s t : Value) (d : Int) (L : List (Int × V)), VIn w0 v s → ToldIn w0 w t L → Below w0.heap.size w0 w → 0 ≤ d → d + v.dep ≤ 2000000 → L.length + v.sz ≤ 2000000 →
    Calls Tryd.prog 51 #[.agg #[.int .i64 v.kind, .int .u64 v.num, .string v.text, s, .int .i64 v.elem], .int .i64 d, t] w fun e w' => ∃ t', e = .returned t' ∧ ToldIn w0 w' t' (L ++ v.pre d) ∧ TMv w w' t t' := by
  refine V.ind (fun v ih w0 w s t d L h hto hbw hd1 hdd hsz => ?_)
  obtain ⟨p, c, hs, h1, h2, h3⟩ := h.slice
  obtain ⟨N, hN⟩ : ∃ N, v.list.length = N := ⟨_, rfl⟩
  have hvd := (dep_bd v).1
  have hvs := v.sz_eq
  rw [hN] at hs h1 h3
  subst hs
  unfold maxLen at h2
  obtain ⟨M, hM⟩ : ∃ M, L.length = M := ⟨_, rfl⟩
  have HI := Lib.hid ih
  have HN := Lib.hid (And.intro hN (And.intro hdd (And.intro hM (And.intro hsz hvs))))
  have HV := Lib.hid h
  have HT := Lib.hid (And.intro hto hbw)
  have hd2 : d ≤ 2000000 := by omega
  have hNM : M ≤ 2000000 := by omega
  have hNs : (N : Int) ≤ 2000000 := by
    have := len_le_szs v.list
    omega
  obtain ⟨i0, hi, hz0, hz1, hz2⟩ := info_partsV info_told
  clear ih h hN hdd hvd hto hbw hM hsz hvs
  go_enter Tryd.func51, Tryd.ntmps51
  go_upto_region 1 with fail
  have hb0 : Below w.heap.size w (w.alloc (.cells #[.int .i64 v.kind, .int .u64 v.num, .string v.text, (.slice p N c), .int .i64 v.elem] 25)) := ((Below.refl _ _).alloc (Nat.le_refl _) _)
  have ox : (w.alloc (.cells #[.int .i64 v.kind, .int .u64 v.num, .string v.text, (.slice p N c), .int .i64 v.elem] 25)).heap[w.heap.size]? = some (.cells #[.int .i64 v.kind, .int .u64 v.num, .string v.text, (.slice p N c), .int .i64 v.elem] 25 (0, 0)) := _root_.Go.heap_alloc_new _ _
  generalize (w.alloc (.cells #[.int .i64 v.kind, .int .u64 v.num, .string v.text, (.slice p N c), .int .i64 v.elem] 25)) = w1 at *
  obtain ⟨x, hx⟩ : ∃ x, w.heap.size = x := ⟨_, rfl⟩
  have htx : t.ownBlock ≠ some x := fun q => by have := (HT.out.1.lt x q).2; omega
  rw [hx] at ox ⊢
  have HB1 := Lib.hid (And.intro hb0 (And.intro ox (And.intro hx htx)))
  have x0 : w1.cell? ⟨x, 0, none⟩ = some (.int .i64 v.kind) := (cell_of_row _ _ 0 _ _ _ ox).trans rfl
  have x1 : w1.cell? ⟨x, 1, none⟩ = some (.int .u64 v.num) := (cell_of_row _ _ 1 _ _ _ ox).trans rfl
  have x2 : w1.cell? ⟨x, 2, none⟩ = some (.string v.text) := (cell_of_row _ _ 2 _ _ _ ox).trans rfl
  have x3 : w1.cell? ⟨x, 3, none⟩ = some (.slice p N c) := (cell_of_row _ _ 3 _ _ _ ox).trans rfl
  have x4 : w1.cell? ⟨x, 4, none⟩ = some (.int .i64 v.elem) := (cell_of_row _ _ 4 _ _ _ ox).trans rfl
  have hto1 := (HT.out.1.blw hb0).blw ((Below.refl _ _).alloc (Nat.le_refl _) (.cells #[.int .i64 d, .int .i64 v.kind, .int .u64 v.num, .string v.text, .slice p N c, .int .i64 v.elem] 48))
  obtain ⟨pt, ct, hst, hj1, hj2, hj3⟩ := hto1.slice
  rw [HN.out.2.2.1] at hst
  clear hj1 hj2 hj3
  obtain ⟨Mt, hMt, hown, hvin⟩ := hto1
  rw [HN.out.2.2.1] at hown
  have HO := Lib.hid (And.intro hMt (And.intro hvin hst))
  have HRW := Lib.hid hown
  have hw1 := hb0.size
  have hwb := HT.out.2.size
  clear hvin hown hb0 ox hx htx hMt
  subst hst
  go_wp2_with (first
    | (at_builtin; refine wpList_append_two _ rfl (.tmp 8) (.tmp 12) 37 rfl w0.heap.size 48 i0 _ 6 72 Tryd.underlying37 hi hz0 hz1 hz2 rfl _ _ _ rfl HRW.out ⟨w1.heap.size, 0, none⟩ 1 [.int .i64 d, .int .i64 v.kind, .int .u64 v.num, .string v.text, .slice p N c, .int .i64 v.elem] rfl rfl (fun j u hj => cell_of_newrow hj) (by simp [Value.oneCell']) (by unfold maxLen; omega) (by omega) ?_; intro v' w9 hA; have HA := Lib.hid hA; clear hA))
  obtain ⟨hto9, hmv9⟩ := ToldIn.push HO.out.1 HO.out.2.1 HV.out (by rw [HN.out.2.2.1]; exact HA.out) (by simp; omega)
  have hmv : TMv w w9 (.slice pt M ct) v' := hmv9.pre (HB1.out.1.alloc hw1 _) (fun j hj => (HT.out.1.lt j hj).2)
  have ox9 : w9.heap[x]? = some (.cells #[.int .i64 v.kind, .int .u64 v.num, .string v.text, (.slice p N c), .int .i64 v.elem] 25 (0, 0)) := (hmv9.g.block x (by simp; have := (Array.getElem?_eq_some_iff.1 HB1.out.2.1).1; omega) (fun e => HB1.out.2.2.2 e.symm)).trans ((_root_.Go.heap_alloc_old w1 _ (Array.getElem?_eq_some_iff.1 HB1.out.2.1).1).trans HB1.out.2.1)
  have hvx : v'.ownBlock ≠ some x := fun q => by
    rcases hmv9.o x q with r | r
    · exact HB1.out.2.2.2 r
    · have := (Array.getElem?_eq_some_iff.1 HB1.out.2.1).1; simp at r; omega
  have HE9 := Lib.hid (And.intro hto9 (And.intro hmv (And.intro (hmv.below HT.out.2 HT.out.1) (And.intro ox9 hvx))))
  clear hto9 hmv9 hmv ox9 hvx x0 x1 x2 x3 x4
  clear HA
  go_wp2_with fail
  go_loopw [2, 7] (fun v2 v7 wr => ∃ (k : Nat) (tk : Value), k ≤ N ∧ v7 = .int .i64 k ∧ tk = v2 ∧ ToldIn w0 wr tk (L ++ ((d, v) :: pres (v.list.take k) (d + 1))) ∧ TMv w9 wr v' tk) (fun _ v7 _ => N - (intOf v7).toNat)
  case atStart => exact ⟨0, _, Nat.zero_le _, rfl, rfl, by rw [List.take_zero, pres]; exact HE9.out.1, TMv.refl _ _⟩
  case round =>
    obtain ⟨k, tk, hk, rfl, rfl, hto, htm⟩ := hrel
    have hbw : Below w0.heap.size w0 wr := htm.below HE9.out.2.2.1 HE9.out.1
    have oxr := (htm.g.block x (Array.getElem?_eq_some_iff.1 HE9.out.2.2.2.1).1 (fun e => HE9.out.2.2.2.2 e.symm)).trans HE9.out.2.2.2.1
    have x3 : wr.cell? ⟨x, 3, none⟩ = some (.slice p N c) := (cell_of_row _ _ 3 _ _ _ oxr).trans rfl
    have HR := Lib.hid (And.intro hto htm)
    clear hto htm oxr
    by_cases hkN : (k : Int) < N
    · have ka : k < v.list.length := by rw [HN.out.1]; omega
      obtain ⟨b1, o1, rfl⟩ := h3 (by omega)
      obtain ⟨ta, hta, hia⟩ := HV.out.part rfl ka
      obtain ⟨pa, ca, hsa, hj0⟩ := hia.slice
      clear hj0
      subst hsa
      obtain ⟨c0, c1, c2, c3, c4⟩ := part_cells (rangeAt_rd hta (rd_below hbw))
      have hlen : (L ++ ((d, v) :: pres (v.list.take k) (d + 1))).length + (v.list[k]).sz ≤ 2000000 := by
        have h1 := pres_len (v.list.take k) (d + 1)
        have h2 := szs_take v.list ka
        have h3 := szs_take_le v.list (k + 1)
        have h4 := HN.out
        simp only [List.length_append, List.length_cons, h1]
        omega
      have hdx : d + 1 + (v.list[k]).dep ≤ 2000000 := by have h1 := dep_part (List.getElem_mem ka); have h2 := HN.out.2.1; omega
      have hcall := HI.out _ (List.getElem_mem ka) w0 wr _ tk (d + 1) _ hia HR.out.1 hbw (by omega) hdx hlen
      have hpt := pres_take v.list (d + 1) ka
      obtain ⟨ya, hya⟩ : ∃ ya, v.list[k] = ya := ⟨_, rfl⟩
      rw [hya] at c0 c1 c2 c3 c4 hcall hpt
      obtain ⟨na, hna⟩ : ∃ na, ya.list.length = na := ⟨_, rfl⟩
      rw [hna] at c3 hcall
      have HC := Lib.hid hcall
      have HP := Lib.hid hpt
      clear hta hia hlen hcall hpt hya hbw hdx
      go_wp2_with fail
      refine HC.out.mono ?_
      clear c0 c1 c2 c3 c4 x3
      rintro e w2 ⟨t2, rfl, hto2, htm2⟩
      have HF := Lib.hid (And.intro (show ToldIn w0 w2 t2 (L ++ ((d, v) :: pres (v.list.take (k + 1)) (d + 1))) by rw [HP.out]; rw [List.append_assoc, List.cons_append] at hto2; exact hto2) (HR.out.2.trans htm2))
      clear hto2 htm2
      go_wp2_with fail
      go_roundw
      case rel => exact ⟨k + 1, _, by omega, by go_num, rfl, HF.out.1, HF.out.2⟩
      case measure => simp [intOf]; omega
    · have hkN2 : k = N := by omega
      have HF := Lib.hid (show ToldIn w0 wr tk (L ++ v.pre d) by have := HR.out.1; rw [hkN2, List.take_of_length_le (by rw [HN.out.1]; exact Nat.le_refl _), ← v.pre_eq] at this; exact this)
      go_wp2_with fail
      go_ret
      exact ⟨_, rfl, HF.out, HE9.out.2.1.trans HR.out.2⟩

set_option maxRecDepth 20000 in
set_option maxHeartbeats 4000000 in
theorem rall_any (v : V) (w : World) (s : Value) (h : VIn w v s) (hwt : v.wt ≤ 1000000) :
    Calls Tryd.prog 27 #[.agg #[.int .i64 v.kind, .int .u64 v.num, .string v.text, s, .int .i64 v.elem]] w fun e w' => ∃ t, e = .returned t ∧ ToldIn w w' t (v.pre 1) ∧ Below w.heap.size w w' := by
  obtain ⟨p, c, hs, _⟩ := h.slice
  obtain ⟨N, hN⟩ : ∃ N, v.list.length = N := ⟨_, rfl⟩
  rw [hN] at hs
  subst hs
  have hvd := (dep_bd v).2
  have hsw := sz_le_wt v
  have HV := Lib.hid h
  have HVD := Lib.hid (And.intro (show (1 : Int) + v.dep ≤ 2000000 by omega) (show v.sz ≤ 2000000 by omega))
  clear h hN hvd hsw
  go_enter Tryd.func27, Tryd.ntmps27
  go_upto_region 1 with fail
  have hb0 : Below w.heap.size w (w.alloc (.cells #[.int .i64 v.kind, .int .u64 v.num, .string v.text, (.slice p N c), .int .i64 v.elem] 25)) := ((Below.refl _ _).alloc (Nat.le_refl _) _)
  have ox : (w.alloc (.cells #[.int .i64 v.kind, .int .u64 v.num, .string v.text, (.slice p N c), .int .i64 v.elem] 25)).heap[w.heap.size]? = some (.cells #[.int .i64 v.kind, .int .u64 v.num, .string v.text, (.slice p N c), .int .i64 v.elem] 25 (0, 0)) := _root_.Go.heap_alloc_new _ _
  generalize (w.alloc (.cells #[.int .i64 v.kind, .int .u64 v.num, .string v.text, (.slice p N c), .int .i64 v.elem] 25)) = w1 at *
  obtain ⟨x, hx⟩ : ∃ x, w.heap.size = x := ⟨_, rfl⟩
  rw [hx] at ox ⊢
  have x0 : w1.cell? ⟨x, 0, none⟩ = some (.int .i64 v.kind) := (cell_of_row _ _ 0 _ _ _ ox).trans rfl
  have x1 : w1.cell? ⟨x, 1, none⟩ = some (.int .u64 v.num) := (cell_of_row _ _ 1 _ _ _ ox).trans rfl
  have x2 : w1.cell? ⟨x, 2, none⟩ = some (.string v.text) := (cell_of_row _ _ 2 _ _ _ ox).trans rfl
  have x3 : w1.cell? ⟨x, 3, none⟩ = some (.slice p N c) := (cell_of_row _ _ 3 _ _ _ ox).trans rfl
  have x4 : w1.cell? ⟨x, 4, none⟩ = some (.int .i64 v.elem) := (cell_of_row _ _ 4 _ _ _ ox).trans rfl
  have hto : ToldIn w w1 (.slice none 0 0) [] := ⟨[], rfl, World.ownsRow_nil _ _ _ _, fun m hm => by cases hm⟩
  have hc := tell_any v w w1 _ _ 1 [] HV.out hto hb0 (by omega) HVD.out.1 (by simp only [List.length_nil]; have := HVD.out.2; omega)
  have HC := Lib.hid hc
  have HB0 := Lib.hid (And.intro hb0 hto)
  clear hb0 ox hx hc hto
  go_wp2_with fail
  refine HC.out.mono ?_
  clear x0 x1 x2 x3 x4
  rintro e w2 ⟨t2, rfl, hto2, htm2⟩
  have HF := Lib.hid (And.intro hto2 (htm2.below HB0.out.1 HB0.out.2))
  clear hto2 htm2
  go_wp2_with fail
  go_ret
  exact ⟨_, rfl, HF.out.1, HF.out.2⟩
end Go.Proofs.YtakbgekamjpibaaDoor

namespace Go.Proofs.YtakbgekamjpibaaDoor
open Go.RowKit
set_option linter.unusedVariables false

attribute [local go_sem] Oper.semAt_some

/-- of what was there only the book, its array are written -/
structure BkFr (bp : Nat) (vl : Value) (w : World) (vl' : Value) (w' : World) : Prop where
  size : w.heap.size ≤ w'.heap.size
  blk : ∀ g, g < w.heap.size → g ≠ bp → vl.ownBlock ≠ some g → w'.heap[g]? = w.heap[g]?
  own : ∀ g, vl'.ownBlock = some g → vl.ownBlock = some g ∨ w.heap.size ≤ g
theorem BkFr.refl (bp : Nat) (vl : Value) (w : World) : BkFr bp vl w vl w := ⟨Nat.le_refl _, fun _ _ _ _ => rfl, fun _ h => .inl h⟩
theorem BkFr.trans {bp : Nat} {vl vl' vl2 : Value} {w w' w2 : World} (h : BkFr bp vl w vl' w') (k : BkFr bp vl' w' vl2 w2) : BkFr bp vl w vl2 w2 := by
  refine ⟨Nat.le_trans h.size k.size, fun g hg h1 h2 => (k.blk g (Nat.lt_of_lt_of_le hg h.size) h1 (fun e => ?_)).trans (h.blk g hg h1 h2), fun g hg => ?_⟩
  · rcases h.own g e with q | q
    · exact h2 q
    · omega
  · have := h.size
    rcases k.own g hg with q | q
    · exact h.own g q
    · exact .inr (by omega)
theorem BkFr.pre {bp : Nat} {vl vl' : Value} {w w1 w' : World} (hb : Below w.heap.size w w1) (h : BkFr bp vl w1 vl' w') : BkFr bp vl w vl' w' :=
  ⟨Nat.le_trans hb.size h.size, fun g hg h1 h2 => (h.blk g (Nat.lt_of_lt_of_le hg hb.size) h1 h2).trans (hb.block g hg), fun g hg => by
    have := hb.size
    rcases h.own g hg with q | q
    · exact .inl q
    · exact .inr (by omega)⟩
theorem BkFr.pushed {bp : Nat} {vl vl' : Value} {wr w' : World} {v : Value} (hg : wr.grownBy w' vl.ownBlock) (hs : SameOrNew wr vl vl') : BkFr bp vl wr vl' (w'.setCell ⟨bp, 0, none⟩ v) := by
  refine ⟨by have := hg.size; simp [World.setCell]; omega, fun g hgl h1 h2 => ?_, fun j hj => ?_⟩
  · rw [set_offV (Ne.symm h1)]
    exact hg.block g hgl (fun e => h2 e.symm)
  · rcases hs with q | ⟨g, q, q2⟩
    · exact .inl (by rw [← q, hj])
    · rw [hj] at q; cases q; exact .inr q2
def BkTo2 (w : World) (B bp : Nat) (vl : Value) (m : Nat) (Q : Nat → Prop) (e : Ending) (w' : World) : Prop :=
  e = .returned (.tuple #[]) ∧ (∃ vl' vs', BkIn w' B bp vl' vs' Q ∧ vs'.length ≤ m ∧ BkFr bp vl w vl' w') ∧ BkMv w w' ∧ Below B w w'
def takeOn2 (v : V) : Prop := ∀ (w : World) (B bp : Nat) (vl : Value) (vs : List Value) (Q : Nat → Prop) (s : Value) (F : Nat → Prop), BkIn w B bp vl vs Q → VO w B v s F → (∀ g, F g → ¬ Q g) → vs.length + v.sz ≤ 40000000 → v.wt ≤ 1000000 →
    Calls Tryd.prog 30 #[.pointer (some ⟨bp, 0, none⟩), .agg #[.int .i64 v.kind, .int .u64 v.num, .string v.text, s, .int .i64 v.elem]] w (BkTo2 w B bp vl (vs.length + v.sz) (fun g => Q g ∨ F g))

set_option maxRecDepth 20000 in
set_option maxHeartbeats 4000000 in
theorem takes2_any (v : V) (ih : ∀ x ∈ v.list, takeOn2 x) (w : World) (B bp : Nat) (vl : Value) (vs : List Value) (Q : Nat → Prop) (s : Value) (F : Nat → Prop) (h : BkIn w B bp vl vs Q) (hv : VO w B v s F) (hdis : ∀ g, F g → ¬ Q g) (hm : vs.length + 1 + szs v.list ≤ 40000000) (hwl : wts v.list ≤ 1000000) :
    Calls Tryd.prog 54 #[.pointer (some ⟨bp, 0, none⟩), s] w (BkTo2 w B bp vl (vs.length + 1 + szs v.list) (fun g => Q g ∨ F g)) := by
  obtain ⟨_, _, _, ss, Fs, wf, hrow, hin, hd, hs, hF⟩ := hv
  obtain ⟨p, c, rfl, h1, h2, h3⟩ := ownsRow_form hrow
  unfold maxLen at h2
  obtain ⟨N, hN⟩ : ∃ N, v.list.length = N := ⟨_, rfl⟩
  have hNw := len_le_wts v.list
  obtain ⟨M, hM⟩ : ∃ M, vs.length = M := ⟨_, rfl⟩
  obtain ⟨U, hU⟩ : ∃ U, szs v.list = U := ⟨_, rfl⟩
  rw [hM, hU] at hm ⊢
  rw [hN] at h1 h3 hNw
  have hNb : N ≤ 1000000 := by omega
  have HI := Lib.hid ih
  have HN := Lib.hid (And.intro hN (And.intro hM (And.intro hU hwl)))
  have HV := Lib.hid (And.intro hrow (And.intro hin (And.intro hd (And.intro hs hF))))
  have HD := Lib.hid (And.intro hdis h)
  rw [hN]
  clear ih hrow hin hd hs hF hdis h hN hM hU hNw wf hwl
  go_enter Tryd.func54, Tryd.ntmps54
  go_wp2_with fail
  go_loopw [4] (fun v4 wr => ∃ (k : Nat) (vl' : Value) (vs' : List Value), k ≤ N ∧ v4 = .int .i64 k ∧ BkIn wr B bp vl' vs' (fun g => Q g ∨ ∃ i, i < k ∧ i < v.list.length ∧ Fs i g) ∧ vs'.length ≤ M + szs (v.list.take k) ∧ BkMv w wr ∧ Below B w wr ∧ BkFr bp vl w vl' wr) (fun v4 _ => N - (intOf v4).toNat)
  case atStart => exact ⟨0, _, _, Nat.zero_le _, rfl, HD.out.2.wide (fun g h => .inl h), by rw [HN.out.2.1]; exact Nat.le_add_right _ _, BkMv.refl _, Below.refl _ _, BkFr.refl _ _ _⟩
  case round =>
    obtain ⟨k, vl', vs', hk', rfl, hbk, hlen, hmv, hbb, hfr⟩ := hrel
    have HR := Lib.hid (And.intro hbk (And.intro hlen (And.intro hmv (And.intro hbb hfr))))
    clear hbk hlen hmv hbb hfr
    by_cases hkN : (k : Int) < N
    · have ka : k < v.list.length := by rw [HN.out.1]; omega
      obtain ⟨b1, rfl, _⟩ := h3 (by omega)
      have hcell : ∀ j u, (vcells v.list[k] (ss k))[j]? = some u → wr.cell? ⟨b1, k * 5 + j, none⟩ = some u := fun j u hu => by
        have hr := HR.out.2.2.1.own HV.out.1
        rw [HN.out.1] at hr
        have hj : j < 5 := (List.getElem?_eq_some_iff.1 hu).1
        exact ownsRow_cell hr (by rw [vrow_get v.list ss k j ka hj]; exact hu)
      have hvk := HR.out.2.2.1.vo (HV.out.2.1 k ka)
      obtain ⟨pk, ck, hsk, hj1, hj2⟩ := hvk.slice
      clear hj1 hj2
      rw [hsk] at hcell hvk
      have hdk : ∀ g, Fs k g → ¬ (Q g ∨ ∃ i, i < k ∧ i < v.list.length ∧ Fs i g) := fun g hg q => by
        rcases q with q | ⟨i, i1, i2, q⟩
        · exact HD.out.1 g ((HV.out.2.2.2.2 g).2 (.inr ⟨k, ka, hg⟩)) q
        · exact HV.out.2.2.1 i k i2 ka (by omega) g q hg
      have htk : szs (v.list.take (k + 1)) = szs (v.list.take k) + (v.list[k]).sz := by
        rw [List.take_add_one, List.getElem?_eq_getElem ka, Option.toList_some]
        rw [szs_append, szs, szs, Nat.add_zero]
      have htl : szs (v.list.take (k + 1)) ≤ U := by rw [← HN.out.2.2.1]; have := szs_append (v.list.take (k + 1)) (v.list.drop (k + 1)); rw [List.take_append_drop] at this; omega
      have hxw : (v.list[k]).wt ≤ 1000000 := by have := wts_mem (List.getElem_mem ka); have := HN.out.2.2.2; omega
      have hcall := HI.out _ (List.getElem_mem ka) wr B bp vl' vs' _ _ (Fs k) HR.out.1 hvk hdk (by have := HR.out.2.1; omega) hxw
      obtain ⟨xa, hxa⟩ : ∃ xa, v.list[k] = xa := ⟨_, rfl⟩
      rw [hxa] at hcell hcall htk
      obtain ⟨m, hm2⟩ : ∃ m, xa.list.length = m := ⟨_, rfl⟩
      rw [hm2] at hcell hcall
      have c0 : wr.cell? ⟨b1, k * 5, none⟩ = some (.int .i64 xa.kind) := hcell 0 _ rfl
      have c1 : wr.cell? ⟨b1, k * 5 + 1, none⟩ = some (.int .u64 xa.num) := hcell 1 _ rfl
      have c2 : wr.cell? ⟨b1, k * 5 + 2, none⟩ = some (.string xa.text) := hcell 2 _ rfl
      have c3 : wr.cell? ⟨b1, k * 5 + 3, none⟩ = some (.slice pk m ck) := hcell 3 _ rfl
      have c4 : wr.cell? ⟨b1, k * 5 + 4, none⟩ = some (.int .i64 xa.elem) := hcell 4 _ rfl
      have HC := Lib.hid hcall
      have HK := Lib.hid (And.intro htk ka)
      clear hcall hcell hvk hsk hdk htk htl hxw hxa hm2 ka
      go_wp2_with fail
      refine HC.out.mono ?_
      clear c0 c1 c2 c3 c4
      rintro e w1 ⟨rfl, ⟨vl2, vs2, hb2, hl2, hf2⟩, hm2, hb3⟩
      have HF := Lib.hid (And.intro (hb2.wide (Q' := fun g => Q g ∨ ∃ i, i < k + 1 ∧ i < v.list.length ∧ Fs i g) (fun g q => by
        rcases q with (q | ⟨i, i1, i2, q⟩) | q
        · exact .inl q
        · exact .inr ⟨i, by omega, i2, q⟩
        · exact .inr ⟨k, by omega, HK.out.2, q⟩)) (And.intro (show vs2.length ≤ M + szs (v.list.take (k + 1)) by rw [HK.out.1]; have := HR.out.2.1; omega) (And.intro (HR.out.2.2.1.trans hm2) (And.intro (HR.out.2.2.2.1.trans hb3) (HR.out.2.2.2.2.trans hf2)))))
      clear hb2 hl2 hm2 hb3 hf2
      go_wp2_with fail
      go_roundw
      case rel => exact ⟨k + 1, _, _, by omega, by go_num, HF.out.1, HF.out.2.1, HF.out.2.2.1, HF.out.2.2.2.1, HF.out.2.2.2.2⟩
      case measure => simp [intOf]; omega
    · have hkN2 : k = N := by omega
      have hlen : vs'.length ≤ M + U := by have := HR.out.2.1; rw [hkN2, List.take_of_length_le (by rw [HN.out.1]; exact Nat.le_refl _), HN.out.2.2.1] at this; exact this
      have hbk := HR.out.1
      have hrw := hbk.row
      have hle := hbk.le
      have hoff := hbk.offl
      obtain ⟨pl, cl, hvl⟩ := row_slice hrw
      subst hvl
      have x0 : wr.cell? ⟨bp, 0, none⟩ = some (.slice pl vs'.length cl) := (cell_of_row _ _ 0 _ _ _ hbk.at_).trans rfl
      have xf : wr.frozen? ⟨bp, 0, none⟩ = false := by simp [World.frozen?, hbk.at_]
      have hbpl := (Array.getElem?_eq_some_iff.1 hbk.at_).1
      clear hbk
      go_wp2_with (at_builtin; refine wpList_append_val rfl (.tmp 21) (.tmp 23) 40 rfl B 23 (.slice none 0 0) 24 Tryd.underlying40 info_listsV rfl _ _ _ (.slice p N c) rfl rfl rfl hrw (by unfold maxLen; omega) (by omega) hle ?_; intro vl2 w2 hr2 hg2 hbb2 hsn2; obtain ⟨pl2, cl2, hvl2⟩ := row_slice hr2; subst hvl2; have y1 : w2.cell? ⟨bp, 0, none⟩ = some (.slice pl vs'.length cl) := (World.cell?_of_block (hg2.block bp hbpl (fun e => hoff e.symm))).trans x0; have y2 : w2.frozen? ⟨bp, 0, none⟩ = false := (World.frozen?_of_block (hg2.block bp hbpl (fun e => hoff e.symm))).trans xf)
      go_end0
      have hown := HR.out.2.2.1.own HV.out.1
      rw [HN.out.1] at hown
      obtain ⟨q1, q2, q3⟩ := HR.out.1.push hown hNb (fun g hg q => by
        rcases q with q | ⟨i, i1, i2, q⟩
        · exact HD.out.1 g ((HV.out.2.2.2.2 g).2 (.inl (by rw [HN.out.1]; exact hg))) q
        · exact HV.out.2.2.2.1 g (by rw [HN.out.1]; exact hg) i i2 q) hr2 hg2 hsn2
      refine ⟨rfl, ⟨_, _, q1.wide (fun g q => ?_), by simp; omega, HR.out.2.2.2.2.trans (BkFr.pushed hg2 hsn2)⟩, HR.out.2.2.1.trans q2, HR.out.2.2.2.1.trans q3⟩
      rcases q with (q | ⟨i, i1, i2, q⟩) | q
      · exact .inl q
      · exact .inr ((HV.out.2.2.2.2 g).2 (.inr ⟨i, i2, q⟩))
      · exact .inr ((HV.out.2.2.2.2 g).2 (.inl (by rw [HN.out.1]; exact q)))

set_option maxRecDepth 20000 in
set_option maxHeartbeats 4000000 in
theorem take2_on : ∀ v : V, takeOn2 v := by
  refine V.ind (fun v ih w B bp vl vs Q s F h hv hdis hm hwt => ?_)
  have hw := v.wt_eq
  have hz := v.sz_eq
  have hts := fun w0 (hb : Below w.heap.size w w0) => takes2_any v ih w0 B bp vl vs Q s F (h.below hb) (hv.blw hb) hdis (by omega) (by omega)
  obtain ⟨p, c, hs, hj1, hj2⟩ := hv.slice
  obtain ⟨N, hN⟩ : ∃ N, v.list.length = N := ⟨_, rfl⟩
  rw [hN] at hs
  subst hs
  have HT := Lib.hid hts
  have HM := Lib.hid (And.intro (show vs.length + 1 + szs v.list ≤ vs.length + v.sz by omega) h.le)
  clear ih h hv hdis hm hwt hw hz hts hj1 hj2 hN
  go_enter Tryd.func30, Tryd.ntmps30
  go_upto_region 1 with fail
  have hb0 : Below w.heap.size w (w.alloc (.cells #[.int .i64 v.kind, .int .u64 v.num, .string v.text, (.slice p N c), .int .i64 v.elem] 25)) := ((Below.refl _ _).alloc (Nat.le_refl _) _)
  have ox : (w.alloc (.cells #[.int .i64 v.kind, .int .u64 v.num, .string v.text, (.slice p N c), .int .i64 v.elem] 25)).heap[w.heap.size]? = some (.cells #[.int .i64 v.kind, .int .u64 v.num, .string v.text, (.slice p N c), .int .i64 v.elem] 25 (0, 0)) := _root_.Go.heap_alloc_new _ _
  generalize (w.alloc (.cells #[.int .i64 v.kind, .int .u64 v.num, .string v.text, (.slice p N c), .int .i64 v.elem] 25)) = w0 at *
  obtain ⟨x, hx⟩ : ∃ x, w.heap.size = x := ⟨_, rfl⟩
  rw [hx] at ox ⊢
  have x3 : w0.cell? ⟨x, 3, none⟩ = some (.slice p N c) := (cell_of_row _ _ 3 _ _ _ ox).trans rfl
  have HC := Lib.hid (HT.out w0 hb0)
  have HB0 := Lib.hid hb0
  clear hb0 ox hx
  go_wp2_with fail
  refine HC.out.mono ?_
  clear x3
  rintro e w1 ⟨rfl, ⟨vl2, vs2, hb2, hl2, hf2⟩, hm2, hb3⟩
  have HF := Lib.hid (And.intro hb2 (And.intro (Nat.le_trans hl2 HM.out.1) (And.intro ((BkMv.of_below HB0.out).trans hm2) (And.intro ((HB0.out.mono HM.out.2).trans hb3) (BkFr.pre HB0.out hf2)))))
  clear hb2 hl2 hm2 hb3 hf2
  go_wp2_with fail
  go_end0
  exact ⟨rfl, ⟨_, _, HF.out.1, HF.out.2.1, HF.out.2.2.2.2⟩, HF.out.2.2.1, HF.out.2.2.2.1⟩

end Go.Proofs.YtakbgekamjpibaaDoor
