/-
  How much states count. Conditions: they lie in memory.
-/
import Derived.Test.YtcbjfakkikjbkaaKt
namespace Go.Proofs.Ytcbjfakkikjbkaa
open Go.RowKit Go.Maps
set_option linter.all false

def propN (v : V) : Int := if 100000 < v.wt then 200000 else 0
set_option maxRecDepth 20000 in
set_option maxHeartbeats 4000000 in
theorem props_any (w : World) (v : V) (u : Value) (h : VIn w v u) : Calls Try.prog 23 #[.agg #[.int .i64 v.kind, .int .u64 v.num, .string v.text, u, .int .i64 v.elem]] w fun e w' => e = .returned (.int .i64 (propN v)) ∧ Below w.heap.size w w' := by
  obtain ⟨p, c, hs, _⟩ := h.slice
  obtain ⟨N, hN⟩ : ∃ N, v.list.length = N := ⟨_, rfl⟩
  rw [hN] at hs
  subst hs
  have hb0 : Below w.heap.size w (w.alloc (.cells #[.int .i64 v.kind, .int .u64 v.num, .string v.text, .slice p N c, .int .i64 v.elem] 28)) := (Below.refl _ _).alloc (Nat.le_refl _) _
  have ox : (w.alloc (.cells #[.int .i64 v.kind, .int .u64 v.num, .string v.text, .slice p N c, .int .i64 v.elem] 28)).heap[w.heap.size]? = some (.cells #[.int .i64 v.kind, .int .u64 v.num, .string v.text, .slice p N c, .int .i64 v.elem] 28 (0, 0)) := _root_.Go.heap_alloc_new _ _
  obtain ⟨z, hz⟩ : ∃ z, decide (100000 < v.wt) = z := ⟨_, rfl⟩
  have HG := great_any v _ _ (h.blw hb0)
  rw [hz] at HG
  have HG := Lib.hid HG
  have HZ := Lib.hid (show propN v = if z = true then 200000 else 0 by unfold propN; rw [← hz]; simp)
  clear h hN hz
  go_enter Try.func23, Try.ntmps23
  go_upto_region 1 with fail
  change Code.wp _ _ _ _ (w.alloc (.cells #[.int .i64 v.kind, .int .u64 v.num, .string v.text, .slice p N c, .int .i64 v.elem] 28))
  generalize (w.alloc (.cells #[.int .i64 v.kind, .int .u64 v.num, .string v.text, .slice p N c, .int .i64 v.elem] 28)) = w0 at *
  generalize hx : w.heap.size = x at ox ⊢
  have x0 : w0.cell? ⟨x, 0, none⟩ = some (.int .i64 v.kind) := (cell_of_row _ _ 0 _ _ _ ox).trans rfl
  have x1 : w0.cell? ⟨x, 1, none⟩ = some (.int .u64 v.num) := (cell_of_row _ _ 1 _ _ _ ox).trans rfl
  have x2 : w0.cell? ⟨x, 2, none⟩ = some (.string v.text) := (cell_of_row _ _ 2 _ _ _ ox).trans rfl
  have x3 : w0.cell? ⟨x, 3, none⟩ = some (.slice p N c) := (cell_of_row _ _ 3 _ _ _ ox).trans rfl
  have x4 : w0.cell? ⟨x, 4, none⟩ = some (.int .i64 v.elem) := (cell_of_row _ _ 4 _ _ _ ox).trans rfl
  have HB := Lib.hid hb0
  clear hb0 ox
  go_wp2_with fail
  refine HG.out.mono ?_
  clear x0 x1 x2 x3 x4
  rintro e w1 ⟨rfl, hb1⟩
  have HB1 := Lib.hid (HB.out.trans (hb1.mono HB.out.size))
  clear hb1
  cases z
  · go_wp2_with fail
    go_ret
    exact ⟨by rw [HZ.out]; simp, HB1.out⟩
  · go_wp2_with fail
    go_ret
    exact ⟨by rw [HZ.out]; simp, HB1.out⟩

theorem five_of_row {w : World} {x o : Nat} {C : Array Value} {t : TypeId} {fr : Nat × Nat} {v : V} {u : Value} (h : w.heap[x]? = some (.cells C t fr)) (h0 : C[o]? = some (.int .i64 v.kind)) (h1 : C[o + 1]? = some (.int .u64 v.num)) (h2 : C[o + 2]? = some (.string v.text)) (h3 : C[o + 3]? = some u) (h4 : C[o + 4]? = some (.int .i64 v.elem)) : w.rangeAt x o (vcells v u) := fun j y hj => by
  rw [cell_of_row _ _ (o + j) _ _ _ h]
  match j, hj with
  | 0, hj => rw [Nat.add_zero, h0]; exact hj
  | 1, hj => rw [h1]; exact hj
  | 2, hj => rw [h2]; exact hj
  | 3, hj => rw [h3]; exact hj
  | 4, hj => rw [h4]; exact hj
  | n + 5, hj => simp [vcells] at hj
theorem wrap_idI {n : Int} (h1 : -9223372036854775808 ≤ n) (h2 : n ≤ 9223372036854775807) : IntKind.i64.wrap n = n := by simp only [IntKind.wrap, IntKind.bits, IntKind.signed]; simp; omega
theorem wrap_id {n : Int} (h1 : -9223372036854775808 ≤ n) (h2 : n ≤ 9223372036854775807) : wrap64 n = n := by unfold wrap64; omega

/-- what a state counts -/
structure WghP (s : St) (n r : Int) : Prop where
  lt : n < r
  le : r ≤ 500002
  ok : r ≤ 100000 → s.Fine ∧ n + (s.w : Nat) ≤ r
def weighOn (s : St) : Prop := ∀ (w : World) (t : Sl) (n : Int), SIn w s t → 0 ≤ n → n ≤ 100001 → Calls Try.prog 22 #[.agg (sarr s t), .int .i64 n] w fun e w' => ∃ r, e = .returned (.int .i64 r) ∧ WghP s n r ∧ Below w.heap.size w w'

set_option maxRecDepth 20000 in
set_option maxHeartbeats 8000000 in
theorem weigh_on : ∀ s : St, weighOn s := by
  refine St.ind (fun s ih w t n h hn1 hn2 => ?_)
  obtain ⟨p, c, hs, h1, h2, h3⟩ := h.slice
  obtain ⟨N, hN⟩ : ∃ N, s.inner.length = N := ⟨_, rfl⟩
  rw [hN] at hs h1 h3
  obtain ⟨ti, ta, tl⟩ := t
  simp only at hs
  subst hs
  unfold maxLen at h2
  have HI := Lib.hid ih
  have HN := Lib.hid hN
  have HV := Lib.hid h
  obtain ⟨C, hC⟩ : ∃ C, sarr s ⟨ti, ta, .slice p N c⟩ = C := ⟨_, rfl⟩
  rw [hC]
  have HC := Lib.hid hC
  clear ih h hN hC
  go_enter Try.func22, Try.ntmps22
  go_upto_region 1 with fail
  have hb0 : Below w.heap.size w (w.alloc (.cells C 33)) := (Below.refl _ _).alloc (Nat.le_refl _) _
  have ox : (w.alloc (.cells C 33)).heap[w.heap.size]? = some (.cells C 33 (0, 0)) := _root_.Go.heap_alloc_new _ _
  change Code.wp _ _ _ _ (w.alloc (.cells C 33))
  generalize (w.alloc (.cells C 33)) = w0 at *
  obtain ⟨x, hx⟩ : ∃ x, w.heap.size = x := ⟨_, rfl⟩
  rw [hx] at ox ⊢
  have HX := Lib.hid (And.intro ox (And.intro hb0 hx))
  have hC12 : C[12]? = some (.int .i64 s.ann.kind) ∧ C[13]? = some (.int .u64 s.ann.num) ∧ C[14]? = some (.string s.ann.text) ∧ C[15]? = some ta ∧ C[16]? = some (.int .i64 s.ann.elem) := by rw [← HC.out]; exact ⟨rfl, rfl, rfl, rfl, rfl⟩
  have hC5 : C[5]? = some (.int .i64 s.info.kind) ∧ C[6]? = some (.int .u64 s.info.num) ∧ C[7]? = some (.string s.info.text) ∧ C[8]? = some ti ∧ C[9]? = some (.int .i64 s.info.elem) := by rw [← HC.out]; exact ⟨rfl, rfl, rfl, rfl, rfl⟩
  have HRA := Lib.hid (show ∀ V : World, V.heap[x]? = some (.cells C 33 (0, 0)) → V.rangeAt x 12 (vcells s.ann ta) from fun V hV => five_of_row hV hC12.1 hC12.2.1 hC12.2.2.1 hC12.2.2.2.1 hC12.2.2.2.2)
  have HRI := Lib.hid (show ∀ V : World, V.heap[x]? = some (.cells C 33 (0, 0)) → V.rangeAt x 5 (vcells s.info ti) from fun V hV => five_of_row hV hC5.1 hC5.2.1 hC5.2.2.1 hC5.2.2.2.1 hC5.2.2.2.2)
  have HC18 := Lib.hid (show C[18]? = some (.slice p N c) by rw [← HC.out]; rfl)
  clear hC12 hC5 ox hb0 hx
  have e1 : IntKind.i64.wrap (n + 1) = n + 1 := wrap_idI (by omega) (by omega)
  obtain ⟨S, hSd⟩ : ∃ S : Array Bool → World → Prop, ∀ L V, S L V ↔ (V.heap[x]? = some (.cells C 33 (0, 0))) := ⟨_, fun _ _ => Iff.rfl⟩
  have HSD := Lib.hid hSd
  clear hSd
  refine wp_region_T S 12 rfl (by kernel_rfl) ?_
  have hS : ∀ L : Array Bool, S L w0.drew := fun L => (HSD.out _ _).2 HX.out.1
  have hpa : propN s.ann = 0 ∨ propN s.ann = 200000 := by unfold propN; split <;> simp
  have hpi : propN s.info = 0 ∨ propN s.info = 200000 := by unfold propN; split <;> simp
  have hfa : propN s.ann = 0 → s.ann.wt ≤ 1000000 := by unfold propN; split <;> intro q <;> omega
  have hfi : propN s.info = 0 → s.info.wt ≤ 1000000 := by unfold propN; split <;> intro q <;> omega
  have HP := Lib.hid (And.intro hpa (And.intro hpi (And.intro hfa hfi)))
  clear hpa hpi hfa hfi
  refine takeT (i := 0) (v := .int .i64 n) (some 6) [] rfl rfl (by kernel_rfl) (by kernel_rfl) (by kernel_rfl) (by kernel_rfl) (by kernel_rfl) (fun _ _ _ h => h) (fun m W _ _ h => (HSD.out _ _).2 ((HSD.out _ _).1 h)) (Or.inl ⟨by rfl, by rintro V ⟨m, hm, h9⟩; have h0 := (HSD.out _ _).1 h9; go_simp⟩) (hS _) ?_
  try simp only [Act.put, List.setIfInBounds_toArray, List.set_cons_zero, List.set_cons_succ]
  refine takeT (i := 1) (v := .int .i64 (n + 1)) (some 7) [] rfl rfl (by kernel_rfl) (by kernel_rfl) (by kernel_rfl) (by kernel_rfl) (by kernel_rfl) (fun _ _ _ h => h) (fun m W _ _ h => (HSD.out _ _).2 ((HSD.out _ _).1 h)) (Or.inl ⟨by rfl, by rintro V ⟨m, hm, h9⟩; have h0 := (HSD.out _ _).1 h9; go_simp⟩) (hS _) ?_
  try simp only [Act.put, List.setIfInBounds_toArray, List.set_cons_zero, List.set_cons_succ]
  refine takeT (i := 2) (v := .pointer (some ⟨x, 12, none⟩)) (some 8) [] rfl rfl (by kernel_rfl) (by kernel_rfl) (by kernel_rfl) (by kernel_rfl) (by kernel_rfl) (fun _ _ _ h => h) (fun m W _ _ h => (HSD.out _ _).2 ((HSD.out _ _).1 h)) (Or.inl ⟨by rfl, by rintro V ⟨m, hm, h9⟩; have h0 := (HSD.out _ _).1 h9; go_simp⟩) (hS _) ?_
  try simp only [Act.put, List.setIfInBounds_toArray, List.set_cons_zero, List.set_cons_succ]
  refine takeT (i := 3) (v := .agg #[.int .i64 s.ann.kind, .int .u64 s.ann.num, .string s.ann.text, ta, .int .i64 s.ann.elem]) (some 9) [] rfl rfl (by kernel_rfl) (by kernel_rfl) (by kernel_rfl) (by kernel_rfl) (by kernel_rfl) (fun _ _ _ h => h) (fun m W _ _ h => (HSD.out _ _).2 ((HSD.out _ _).1 h)) (yieldsIf_load_mid (by rfl) 28 _ rfl x 12 rfl (vcells s.ann ta) _ (fun V h => by obtain ⟨m, _, h9⟩ := h; exact HRA.out V ((HSD.out _ _).1 h9)) Try.underlying28 rfl size_value) (hS _) ?_
  try simp only [Act.put, List.setIfInBounds_toArray, List.set_cons_zero, List.set_cons_succ]
  refine takeT (i := 6) (v := .pointer (some ⟨x, 3, none⟩)) (some 12) [] rfl rfl (by kernel_rfl) (by kernel_rfl) (by kernel_rfl) (by kernel_rfl) (by kernel_rfl) (fun _ _ _ h => h) (fun m W _ _ h => (HSD.out _ _).2 ((HSD.out _ _).1 h)) (Or.inl ⟨by rfl, by rintro V ⟨m, hm, h9⟩; have h0 := (HSD.out _ _).1 h9; go_simp⟩) (hS _) ?_
  try simp only [Act.put, List.setIfInBounds_toArray, List.set_cons_zero, List.set_cons_succ]
  refine takeT (i := 7) (v := .pointer (some ⟨x, 5, none⟩)) (some 13) [] rfl rfl (by kernel_rfl) (by kernel_rfl) (by kernel_rfl) (by kernel_rfl) (by kernel_rfl) (fun _ _ _ h => h) (fun m W _ _ h => (HSD.out _ _).2 ((HSD.out _ _).1 h)) (Or.inl ⟨by rfl, by rintro V ⟨m, hm, h9⟩; have h0 := (HSD.out _ _).1 h9; go_simp⟩) (hS _) ?_
  try simp only [Act.put, List.setIfInBounds_toArray, List.set_cons_zero, List.set_cons_succ]
  refine takeT (i := 8) (v := .agg #[.int .i64 s.info.kind, .int .u64 s.info.num, .string s.info.text, ti, .int .i64 s.info.elem]) (some 14) [] rfl rfl (by kernel_rfl) (by kernel_rfl) (by kernel_rfl) (by kernel_rfl) (by kernel_rfl) (fun _ _ _ h => h) (fun m W _ _ h => (HSD.out _ _).2 ((HSD.out _ _).1 h)) (yieldsIf_load_mid (by rfl) 28 _ rfl x 5 rfl (vcells s.info ti) _ (fun V h => by obtain ⟨m, _, h9⟩ := h; exact HRI.out V ((HSD.out _ _).1 h9)) Try.underlying28 rfl size_value) (hS _) ?_
  try simp only [Act.put, List.setIfInBounds_toArray, List.set_cons_zero, List.set_cons_succ]
  refine wpAnyT_all (rs := [4]) (by kernel_rfl) (by simp) ?_
  intro i5 hi5
  simp only [List.mem_cons, List.not_mem_nil, or_false] at hi5
  subst hi5
  refine stepT (i := 4) rfl (by rfl) (fun K5 h5 => ?_)
  go_simp
  (with_reducible refine (props_any w0.drew s.ann ta ((HV.out.a.blw HX.out.2.1).blw (bdrew (Below.refl w0.heap.size w0)))).mono ?_)
  rintro e w1 ⟨rfl, hb1⟩
  have hb1' : Below w0.heap.size w0 w1 := (bdrew (Below.refl w0.heap.size w0)).trans hb1
  have ox1 := (hb1'.block x (Array.getElem?_eq_some_iff.1 HX.out.1).1).trans HX.out.1
  refine h5.out _ _ ((HSD.out _ _).2 ox1) ?_
  clear h5
  try simp only [Act.put, List.setIfInBounds_toArray, List.set_cons_zero, List.set_cons_succ]
  have hpa := HP.out.1
  have hpi := HP.out.2.1
  have e2 : IntKind.i64.wrap (n + 1 + propN s.ann) = n + 1 + propN s.ann := wrap_idI (by omega) (by omega)
  have e3 : IntKind.i64.wrap (n + 1 + propN s.ann + propN s.info) = n + 1 + propN s.ann + propN s.info := wrap_idI (by omega) (by omega)
  refine takeT (i := 5) (v := .int .i64 (n + 1 + propN s.ann)) (some 11) [] rfl rfl (by kernel_rfl) (by kernel_rfl) (by kernel_rfl) (by kernel_rfl) (by kernel_rfl) (fun _ _ _ h => h) (fun m W _ _ h => (HSD.out _ _).2 ((HSD.out _ _).1 h)) (Or.inl ⟨by rfl, by rintro V ⟨m, hm, h9⟩; have h0 := (HSD.out _ _).1 h9; go_simp⟩) ((HSD.out _ _).2 ox1) ?_
  try simp only [Act.put, List.setIfInBounds_toArray, List.set_cons_zero, List.set_cons_succ]
  refine wpAnyT_all (rs := [9]) (by kernel_rfl) (by simp) ?_
  intro i5 hi5
  simp only [List.mem_cons, List.not_mem_nil, or_false] at hi5
  subst hi5
  refine stepT (i := 9) rfl (by rfl) (fun K5 h5 => ?_)
  go_simp
  (with_reducible refine (props_any w1 s.info ti ((HV.out.i.blw HX.out.2.1).blw hb1')).mono ?_)
  rintro e w2 ⟨rfl, hb2⟩
  have hb2' : Below w0.heap.size w0 w2 := hb1'.trans (hb2.mono hb1'.size)
  have ox2 := (hb2'.block x (Array.getElem?_eq_some_iff.1 HX.out.1).1).trans HX.out.1
  refine h5.out _ _ ((HSD.out _ _).2 ox2) ?_
  clear h5
  try simp only [Act.put, List.setIfInBounds_toArray, List.set_cons_zero, List.set_cons_succ]
  refine takeT (i := 10) (v := .int .i64 (n + 1 + propN s.ann + propN s.info)) (some 16) [] rfl rfl (by kernel_rfl) (by kernel_rfl) (by kernel_rfl) (by kernel_rfl) (by kernel_rfl) (fun _ _ _ h => h) (fun m W _ _ h => (HSD.out _ _).2 ((HSD.out _ _).1 h)) (Or.inl ⟨by rfl, by rintro V ⟨m, hm, h9⟩; have h0 := (HSD.out _ _).1 h9; go_simp⟩) ((HSD.out _ _).2 ox2) ?_
  try simp only [Act.put, List.setIfInBounds_toArray, List.set_cons_zero, List.set_cons_succ]
  refine wpAnyT_all (rs := [11]) (by kernel_rfl) (by simp) ?_
  intro i5 hi5
  simp only [List.mem_cons, List.not_mem_nil, or_false] at hi5
  subst hi5
  refine stepT (i := 11) rfl (by rfl) (fun K5 h5 => ?_)
  go_simp
  refine h5.out _ _ ((HSD.out _ _).2 ox2) ?_
  clear h5
  try simp only [Act.put, List.setIfInBounds_toArray, List.set_cons_zero, List.set_cons_succ]
  refine wpAnyT_done (by kernel_rfl) ?_ _
  obtain ⟨n0, hn0⟩ : ∃ n0, n + 1 + propN s.ann + propN s.info = n0 := ⟨_, rfl⟩
  rw [hn0]
  have HN0 := Lib.hid hn0
  have HB2 := Lib.hid hb2'
  have HO2 := Lib.hid ox2
  clear hb1 hb1' ox1 e1 e2 e3 hb2 hb2' ox2 hS hpa hpi hn0
  go_wp2_with fail
  go_loopw [1, 5] (fun v1 v5 wr => ∃ (k : Nat) (r : Int), k ≤ N ∧ v5 = .int .i64 k ∧ v1 = .int .i64 r ∧ n0 ≤ r ∧ r ≤ 500002 ∧ (r ≤ 100000 → (∀ i (hi : i < s.inner.length), i < k → s.inner[i].Fine) ∧ n0 + (stws (s.inner.take k) : Nat) ≤ r) ∧ Below w0.heap.size w0 wr) (fun _ v5 _ => N - (intOf v5).toNat)
  case atStart => exact ⟨0, n0, Nat.zero_le _, rfl, rfl, Int.le_refl _, by have := HN0.out; have := HP.out.1; have := HP.out.2.1; omega, fun _ => ⟨fun i hi hk => by omega, by simp [stws]⟩, HB2.out⟩
  case round =>
    obtain ⟨k, r, hkN, rfl, rfl, hr1, hr2, hr3, hbw⟩ := hrel
    have HR := Lib.hid (And.intro hr1 (And.intro hr2 (And.intro hr3 hbw)))
    have oxr := (hbw.block x (Array.getElem?_eq_some_iff.1 HX.out.1).1).trans HX.out.1
    have x18 : wr.cell? ⟨x, 18, none⟩ = some (.slice p N c) := (cell_of_row _ _ 18 _ _ _ oxr).trans HC18.out
    by_cases hend : (k : Int) < N ∧ r ≤ 100000
    · obtain ⟨hlt, hle⟩ := hend
      have HLT := Lib.hid (And.intro (show k < N by omega) hle)
      have ka : k < s.inner.length := by rw [HN.out]; omega
      obtain ⟨b1, o1, rfl⟩ := h3 (by omega)
      obtain ⟨tk, htk, hik⟩ := ((HV.out.blw HX.out.2.1).blw hbw).part rfl ka
      have HIK := HI.out _ (List.getElem_mem ka)
      have HKF := Lib.hid (show ∀ r', WghP s.inner[k] r r' → r' ≤ 500002 ∧ n0 ≤ r' ∧ (r' ≤ 100000 → (∀ i (hi : i < s.inner.length), i < k + 1 → s.inner[i].Fine) ∧ n0 + (stws (s.inner.take (k + 1)) : Nat) ≤ r') from fun r' hw => ⟨hw.le, by have := hw.lt; omega, fun q => by
        have h7 := hw.ok q
        have h8 := HR.out.2.2.1 hle
        refine ⟨fun i hi hik => ?_, by rw [stws_take _ _ ka]; have := h8.2; have := h7.2; omega⟩
        by_cases e : i = k
        · subst e; exact h7.1
        · exact h8.1 i hi (by omega)⟩)
      generalize s.inner[k] = yk at htk hik HIK HKF
      unfold weighOn at HIK
      have hwg := HIK wr tk r hik (by have := HN0.out; have := HP.out.1; have := HP.out.2.1; omega) (by omega)
      obtain ⟨E, hE⟩ : ∃ E, sarr yk tk = E := ⟨_, rfl⟩
      have HTK := Lib.hid (show wr.rangeAt b1 (o1 + k * 19) E.toList by rw [← hE]; exact htk)
      have HSZ := Lib.hid (show (Try.prog.info? 33).map (·.size) = some E.toList.length by rw [← hE]; exact size_state)
      rw [hE] at hwg
      have HWG := Lib.hid hwg
      clear htk hik HIK hwg hE ka hr1 hr2 hr3 hbw oxr
      go_wp2_with (refine wpList_load_midTo rfl 33 (.tmp 31) rfl (some 32) rfl b1 (o1 + k * 19) rfl E _ HTK.out Try.underlying33 rfl HSZ.out ?_)
      refine HWG.out.mono ?_
      rintro e w3 ⟨r', rfl, hwp, hb3⟩
      have HW3 := Lib.hid (And.intro (HKF.out r' hwp) (HR.out.2.2.2.trans (hb3.mono HR.out.2.2.2.size)))
      clear hwp hb3 x18
      go_wp2_with fail
      go_roundw
      case rel => exact ⟨k + 1, r', by have := HLT.out.1; omega, by go_num, rfl, HW3.out.1.2.1, HW3.out.1.1, HW3.out.1.2.2, HW3.out.2⟩
      case measure => simp [intOf]; omega
    · have HEND := Lib.hid hend
      have hpost : WghP s n r := by
        have e0 := HN0.out
        have q1 := HP.out.1
        have q2 := HP.out.2.1
        refine ⟨by omega, hr2, fun q => ?_⟩
        have hk : k = N := by
          have : ¬ (k : Int) < N := fun h => hend ⟨h, q⟩
          omega
        have h8 := hr3 q
        rw [hk, ← HN.out, List.take_of_length_le (Nat.le_refl _)] at h8
        have hw := s.w_eq
        refine ⟨.mk s (HP.out.2.2.2 (by omega)) (HP.out.2.2.1 (by omega)) (fun y hy => ?_), by have := h8.2; omega⟩
        obtain ⟨i, hi, rfl⟩ := List.getElem_of_mem hy
        exact h8.1 i hi hi
      have HPO := Lib.hid (And.intro hpost (HX.out.2.1.trans (hbw.mono HX.out.2.1.size)))
      clear hpost hr3 hbw oxr
      by_cases hlt : (k : Int) < N
      · have hle : ¬ r ≤ 100000 := fun q => hend ⟨hlt, q⟩
        clear hend
        go_wp2_with fail
        go_ret
        exact ⟨r, rfl, HPO.out⟩
      · clear hend
        go_wp2_with fail
        go_ret
        exact ⟨r, rfl, HPO.out⟩

end Go.Proofs.Ytcbjfakkikjbkaa
