/-
  What both say of a delivery. Conditions: the link lies in memory.
-/
import Derived.Test.YtcbjfakkikjbkaaKm
namespace Go.Proofs.Ytcbjfakkikjbkaa
open Go.RowKit Go.Maps
set_option linter.all false

theorem results_look (tmps : Array Value) (w : World) (x y : Nat) (A B : Array Value) (hx : tmps.getD 4 undef = .pointer (some ⟨x, 0, none⟩)) (hy : tmps.getD 5 undef = .pointer (some ⟨y, 0, none⟩)) (rx : w.heap[x]? = some (.cells A 33 (0, 0))) (ry : w.heap[y]? = some (.cells B 33 (0, 0))) (hA : A.size = 19) (hB : B.size = 19) :
    (results Try.f8 tmps).run Try.prog w = .ok (.tuple #[.agg A, .agg B, tmps.getD 6 undef]) w := by
  have hx' : tmps[4]?.getD undef = .pointer (some ⟨x, 0, none⟩) := by simpa using hx
  have hy' : tmps[5]?.getD undef = .pointer (some ⟨y, 0, none⟩) := by simpa using hy
  have h1 := run_loadVar_row (P := Try.prog) w x 33 33 A (0, 0) _ rx Try.underlying33 rfl (by rw [hA]; as_aux_lemma => kernel_rfl)
  have h2 := run_loadVar_row (P := Try.prog) w y 33 33 B (0, 0) _ ry Try.underlying33 rfl (by rw [hB]; as_aux_lemma => kernel_rfl)
  simp [results, Try.results8, hx', hy', asAddr, h1, h2]
theorem wp_store_rowTo {P : Program} {op : Oper} {a : Act} {w : World} {K : Act → World → Prop} {Q : Exit → Act → World → Prop} (ty : TypeId) (x y : Operand) (ho : op.op = .store ty x y)
    (hd : op.dst = none) (g : Nat) (cells : Array Value) (hx : a.eval x = .pointer (some ⟨g, 0, none⟩)) (hy : a.eval y = .agg cells)
    (t : TypeId) (old : Array Value) (hg : w.heap[g]? = some (.cells old t (0, 0))) (hi : (P.info? ty).map (·.size) = some cells.size)
    (hold : old.size = cells.size) (h1 : cells.all (·.oneCell') = true)
    (h : K a (w.setRow g cells)) : op.wp P a w K Q :=
  wp_store_row ty x y ho g cells hx hy t old hg hi hold h1 (by rw [hd]; exact h)
/-- what both say, in memory of its own -/
def LookTo (w : World) (e0 : Ent) (th : Bool) (e : Ending) (w' : World) : Prop :=
  ∃ t1 t2, e = .returned (.tuple #[.agg (sarr e0.own t1), .agg (sarr e0.peer t2), .bool th]) ∧ SI w' (fun b => w.heap.size ≤ b ∧ b < w'.heap.size) e0.own t1 ∧ SI w' (fun b => w.heap.size ≤ b ∧ b < w'.heap.size) e0.peer t2 ∧ Below w.heap.size w w'

set_option maxRecDepth 20000 in
set_option maxHeartbeats 4000000 in
theorem look_any (w : World) (q m : Nat) (G : Nat → Prop) (l : Lk) (tag : ByteArray) (h : LkIn w q m G l) (ht : tag.size ≤ maxLen) :
    Calls Try.prog 8 #[.pointer (some ⟨q, 0, none⟩), .string tag] w (LookTo w (entAt l.all tag) (decide (tag ∈ tagsL l.all))) := by
  have HT := Lib.hid ht
  have H := Lib.hid h
  clear ht
  go_enter Try.func8, Try.ntmps8
  go_upto_region 1 with fail
  obtain ⟨w0, x, y, e0, hx, hy, hz, hb0, ox, oy⟩ := box2 w (sarr zS default) (sarr zS default) 33 33
  change Code.wp _ _ _ _ ((w.alloc (.cells (sarr zS default) 33)).alloc (.cells (sarr zS default) 33))
  rw [e0, hx, hy]
  have h0 := h.blw hb0
  have HX0 := Lib.hid (And.intro hx (And.intro hy (And.intro hb0 (And.intro ox oy))))
  have hlook := h0.look HT.out
  unfold Ent.val at hlook
  obtain ⟨s1, s2, s3⟩ := h0.at_ tag
  have ho1 := ent_one s1.sin s2.sin
  have HE3 := Lib.hid (And.intro s1 (And.intro s2 s3))
  obtain ⟨EE, hEE⟩ : ∃ EE, entAt l.all tag = EE := ⟨_, rfl⟩
  rw [hEE] at hlook ho1 HE3
  have HEE := Lib.hid hEE
  obtain ⟨E, hE⟩ : ∃ E, sarr EE.own EE.o ++ sarr EE.peer EE.p = E := ⟨_, rfl⟩
  have HE := Lib.hid hE
  have hsz : E.size = 38 := by rw [← hE]; exact eval_size _
  rw [hE] at hlook ho1
  have HSZ := Lib.hid (show (Try.prog.info? 78).map (·.size) = some E.size by rw [hsz]; exact size_said)
  have HSZ2 := Lib.hid (show (sarr zS default ++ sarr zS default).size = E.size by rw [hsz]; rfl)
  have HO := Lib.hid ho1
  have c11 : w0.cell? ⟨q, 11, none⟩ = some (.map (some m)) := h0.cs 11 _ rfl
  obtain ⟨th, hth⟩ : ∃ th, decide (tag ∈ tagsL l.all) = th := ⟨_, rfl⟩
  rw [hth] at hlook
  have HTH := Lib.hid hth
  clear h h0 hb0 ox oy hx hy s1 s2 s3 ho1 hE hsz hth e0 hEE hz
  go_upto_region 2 with (refine wpList_store_rowTo rfl 78 (.tmp 7) (.tmp 16) rfl rfl w0.heap.size E rfl rfl 78 (sarr zS default ++ sarr zS default) (_root_.Go.heap_alloc_new w0 _) HSZ.out HSZ2.out HO.out ?_)
  have hb_w1 : Below w0.heap.size w0 ((w0.alloc (.cells (sarr zS default ++ sarr zS default) 78)).setRow w0.heap.size E) := below_setRow ((Below.refl _ _).alloc (Nat.le_refl _) _) (Nat.le_refl _) _
  have oz := setRow_heap (w0.alloc (.cells (sarr zS default ++ sarr zS default) 78)) w0.heap.size _ E _ _ (_root_.Go.heap_alloc_new w0 _)
  change Code.wp _ _ _ _ ((w0.alloc (.cells (sarr zS default ++ sarr zS default) 78)).setRow w0.heap.size E)
  generalize ((w0.alloc (.cells (sarr zS default ++ sarr zS default) 78)).setRow w0.heap.size E) = w1 at *
  obtain ⟨z, hz⟩ : ∃ z, w0.heap.size = z := ⟨_, rfl⟩
  rw [hz] at oz ⊢
  rw [← HE.out] at oz
  have HB1 := Lib.hid (And.intro hb_w1 hz)
  have HOZ := Lib.hid oz
  clear oz hb_w1 hz hlook c11
  obtain ⟨S, hSd⟩ : ∃ S : Array Bool → World → Prop, ∀ L V, S L V ↔ (V.heap[z]? = some (.cells (sarr EE.own EE.o ++ sarr EE.peer EE.p) 78 (0, 0))) := ⟨_, fun _ _ => Iff.rfl⟩
  have HSD := Lib.hid hSd
  clear hSd
  refine wp_region_T S 10 rfl (by kernel_rfl) ?_
  have hS : ∀ L : Array Bool, S L w1.drew := fun L => (HSD.out _ _).2 HOZ.out
  refine takeT (i := 0) (v := .pointer (some ⟨z, 0, none⟩)) (some 18) [] rfl rfl (by kernel_rfl) (by kernel_rfl) (by kernel_rfl) (by kernel_rfl) (by kernel_rfl) (fun _ _ _ h => h) (fun m W _ _ h => (HSD.out _ _).2 ((HSD.out _ _).1 h)) (Or.inl ⟨by rfl, by rintro V ⟨m, hm, h9⟩; have h0 := (HSD.out _ _).1 h9; go_simp⟩) (hS _) ?_
  try simp only [Act.put, List.setIfInBounds_toArray, List.set_cons_zero, List.set_cons_succ]
  refine takeT (i := 1) (v := .agg (sarr EE.own EE.o)) (some 19) [] rfl rfl (by kernel_rfl) (by kernel_rfl) (by kernel_rfl) (by kernel_rfl) (by kernel_rfl) (fun _ _ _ h => h) (fun m W _ _ h => (HSD.out _ _).2 ((HSD.out _ _).1 h)) (yieldsIf_load_mid (by rfl) 33 _ rfl z 0 rfl (scells EE.own EE.o) _ (fun V h => by obtain ⟨m, _, h9⟩ := h; exact said_fst ((HSD.out _ _).1 h9)) Try.underlying33 rfl size_state) (hS _) ?_
  try simp only [Act.put, List.setIfInBounds_toArray, List.set_cons_zero, List.set_cons_succ]
  refine takeT (i := 3) (v := .pointer (some ⟨z, 19, none⟩)) (some 21) [] rfl rfl (by kernel_rfl) (by kernel_rfl) (by kernel_rfl) (by kernel_rfl) (by kernel_rfl) (fun _ _ _ h => h) (fun m W _ _ h => (HSD.out _ _).2 ((HSD.out _ _).1 h)) (Or.inl ⟨by rfl, by rintro V ⟨m, hm, h9⟩; have h0 := (HSD.out _ _).1 h9; go_simp⟩) (hS _) ?_
  try simp only [Act.put, List.setIfInBounds_toArray, List.set_cons_zero, List.set_cons_succ]
  refine takeT (i := 4) (v := .agg (sarr EE.peer EE.p)) (some 22) [] rfl rfl (by kernel_rfl) (by kernel_rfl) (by kernel_rfl) (by kernel_rfl) (by kernel_rfl) (fun _ _ _ h => h) (fun m W _ _ h => (HSD.out _ _).2 ((HSD.out _ _).1 h)) (yieldsIf_load_mid (by rfl) 33 _ rfl z 19 rfl (scells EE.peer EE.p) _ (fun V h => by obtain ⟨m, _, h9⟩ := h; exact said_mid ((HSD.out _ _).1 h9)) Try.underlying33 rfl size_state) (hS _) ?_
  try simp only [Act.put, List.setIfInBounds_toArray, List.set_cons_zero, List.set_cons_succ]
  refine takeT (i := 6) (v := .bool th) (some 24) [] rfl rfl (by kernel_rfl) (by kernel_rfl) (by kernel_rfl) (by kernel_rfl) (by kernel_rfl) (fun _ _ _ h => h) (fun m W _ _ h => (HSD.out _ _).2 ((HSD.out _ _).1 h)) (Or.inl ⟨by rfl, by rintro V ⟨m, hm, h9⟩; have h0 := (HSD.out _ _).1 h9; go_simp⟩) (hS _) ?_
  try simp only [Act.put, List.setIfInBounds_toArray, List.set_cons_zero, List.set_cons_succ]
  refine wpAnyT_all (rs := [2]) (by kernel_rfl) (by simp) ?_
  intro i5 hi5
  simp only [List.mem_cons, List.not_mem_nil, or_false] at hi5
  subst hi5
  refine stepT (i := 2) rfl (by rfl) (fun K5 h5 => ?_)
  go_simp
  have hkk := kept_on EE.own
  unfold keptOn at hkk
  have hS1 := (HE3.out.1.sin.blw HB1.out.1).blw (bdrew (Below.refl w1.heap.size w1))
  (with_reducible refine (hkk _ EE.o hS1 HE3.out.2.2.of HE3.out.2.2.ow).mono ?_)
  clear hkk hS1
  rintro e w2 ⟨t1, rfl, hsi2, hb2⟩
  have hb2' : Below w1.heap.size w1 w2 := (bdrew (Below.refl w1.heap.size w1)).trans hb2
  have oz2 := (hb2'.block z (Array.getElem?_eq_some_iff.1 HOZ.out).1).trans HOZ.out
  refine h5.out _ _ ((HSD.out _ _).2 oz2) ?_
  clear h5
  try simp only [Act.put, List.setIfInBounds_toArray, List.set_cons_zero, List.set_cons_succ]
  refine wpAnyT_all (rs := [5]) (by kernel_rfl) (by simp) ?_
  intro i5 hi5
  simp only [List.mem_cons, List.not_mem_nil, or_false] at hi5
  subst hi5
  refine stepT (i := 5) rfl (by rfl) (fun K5 h5 => ?_)
  go_simp
  have hkk := kept_on EE.peer
  unfold keptOn at hkk
  (with_reducible refine (hkk w2 EE.p ((HE3.out.2.1.sin.blw HB1.out.1).blw hb2') HE3.out.2.2.pf HE3.out.2.2.pw).mono ?_)
  clear hkk
  rintro e w3 ⟨t2, rfl, hsi3, hb3⟩
  have oz3 := (hb3.block z (Array.getElem?_eq_some_iff.1 oz2).1).trans oz2
  refine h5.out _ _ ((HSD.out _ _).2 oz3) ?_
  clear h5
  try simp only [Act.put, List.setIfInBounds_toArray, List.set_cons_zero, List.set_cons_succ]
  have hbw : Below w0.heap.size w0 w3 := (HB1.out.1.trans (hb2'.mono HB1.out.1.size)).trans (hb3.mono (by have := HB1.out.1.size; have := hb2'.size; omega))
  have ox3 := (hbw.block x (Array.getElem?_eq_some_iff.1 HX0.out.2.2.2.1).1).trans HX0.out.2.2.2.1
  have oy3 := (hbw.block y (Array.getElem?_eq_some_iff.1 HX0.out.2.2.2.2).1).trans HX0.out.2.2.2.2
  have hsi2' : SI w3 (fun b => w1.heap.size ≤ b ∧ b < w3.heap.size) EE.own t1 := (hsi2.keep (fun b q => hb3.block b q.2)).wide (fun b q => ⟨q.1, by have := hb3.size; omega⟩)
  have hsi3' : SI w3 (fun b => w1.heap.size ≤ b ∧ b < w3.heap.size) EE.peer t2 := hsi3.wide (fun b q => ⟨by have := hb2'.size; omega, q.2⟩)
  have hlt : x < y ∧ y < z := by
    have e1 := HX0.out.2.1
    have e2 := (Array.getElem?_eq_some_iff.1 HX0.out.2.2.2.2).1
    have e3 := HB1.out.2
    omega
  have hw1 : z < w1.heap.size := (Array.getElem?_eq_some_iff.1 HOZ.out).1
  have HONE := Lib.hid (And.intro (sarr_one hsi2'.sin) (sarr_one hsi3'.sin))
  refine wpAnyT_all (rs := [7]) (by kernel_rfl) (by simp) ?_
  intro i5 hi5
  simp only [List.mem_cons, List.not_mem_nil, or_false] at hi5
  subst hi5
  refine stepT (i := 7) rfl (by rfl) (fun K5 h5 => ?_)
  refine wp_store_rowTo 33 (.tmp 4) (.tmp 20) rfl rfl x (sarr EE.own t1) rfl rfl 33 (sarr zS default) ox3 size_state rfl HONE.out.1 ?_
  have hx4 := setRow_heap w3 x _ (sarr EE.own t1) _ _ ox3
  have hf4 : ∀ b, b ≠ x → (w3.setRow x (sarr EE.own t1)).heap[b]? = w3.heap[b]? := fun b hb => setRow_other w3 x b _ hb
  have hbw2 : Below w.heap.size w w3 := HX0.out.2.2.1.trans (hbw.mono HX0.out.2.2.1.size)
  have hb4 := below_setRow hbw2 (show w.heap.size ≤ x from Nat.le_of_eq HX0.out.1) (sarr EE.own t1)
  generalize w3.setRow x (sarr EE.own t1) = w4 at *
  have oy4 := (hf4 y (by omega)).trans oy3
  have oz4 := (hf4 z (by omega)).trans oz3
  refine h5.out _ _ ((HSD.out _ _).2 oz4) ?_
  clear h5
  try simp only [Act.put, List.setIfInBounds_toArray, List.set_cons_zero, List.set_cons_succ]
  refine wpAnyT_all (rs := [8]) (by kernel_rfl) (by simp) ?_
  intro i5 hi5
  simp only [List.mem_cons, List.not_mem_nil, or_false] at hi5
  subst hi5
  refine stepT (i := 8) rfl (by rfl) (fun K5 h5 => ?_)
  refine wp_store_rowTo 33 (.tmp 5) (.tmp 23) rfl rfl y (sarr EE.peer t2) rfl rfl 33 (sarr zS default) oy4 size_state rfl HONE.out.2 ?_
  have hy5 := setRow_heap w4 y _ (sarr EE.peer t2) _ _ oy4
  have hf5 : ∀ b, b ≠ y → (w4.setRow y (sarr EE.peer t2)).heap[b]? = w4.heap[b]? := fun b hb => setRow_other w4 y b _ hb
  have hb5 := below_setRow hb4 (show w.heap.size ≤ y by have := HX0.out.1; omega) (sarr EE.peer t2)
  have hz4 : w3.heap.size ≤ w4.heap.size := by
    have : w4.heap[w3.heap.size - 1]? = w3.heap[w3.heap.size - 1]? := hf4 _ (by have := hb3.size; have := hb2'.size; omega)
    have h6 : w3.heap.size - 1 < w3.heap.size := by have := hb3.size; have := hb2'.size; omega
    rw [Array.getElem?_eq_getElem h6] at this
    have := (Array.getElem?_eq_some_iff.1 this).1
    omega
  have hz5 : w4.heap.size ≤ (w4.setRow y (sarr EE.peer t2)).heap.size := by simp
  generalize w4.setRow y (sarr EE.peer t2) = w5 at *
  refine h5.out _ _ ((HSD.out _ _).2 ((hf5 z (by omega)).trans oz4)) ?_
  clear h5
  try simp only [Act.put, List.setIfInBounds_toArray, List.set_cons_zero, List.set_cons_succ]
  refine wpAnyT_all (rs := [9]) (by kernel_rfl) (by simp) ?_
  intro i5 hi5
  simp only [List.mem_cons, List.not_mem_nil, or_false] at hi5
  subst hi5
  refine stepT (i := 9) rfl (by rfl) (fun K5 h5 => ?_)
  go_simp
  refine h5.out _ _ ((HSD.out _ _).2 ((hf5 z (by omega)).trans oz4)) ?_
  clear h5
  try simp only [Act.put, List.setIfInBounds_toArray, List.set_cons_zero, List.set_cons_succ]
  refine wpAnyT_done (by kernel_rfl) ?_ _
  have hk : ∀ b, w1.heap.size ≤ b → w5.heap[b]? = w3.heap[b]? := fun b hb => (hf5 b (by omega)).trans (hf4 b (by omega))
  have hwl : w.heap.size ≤ w1.heap.size := by have := HX0.out.2.2.1.size; have := HB1.out.1.size; omega
  have HF := Lib.hid (show LookTo w EE th (.returned (.tuple #[.agg (sarr EE.own t1), .agg (sarr EE.peer t2), .bool th])) w5 from
    ⟨t1, t2, rfl, (hsi2'.keep (fun b q => hk b q.1)).wide (fun b q => ⟨by omega, by omega⟩), (hsi3'.keep (fun b q => hk b q.1)).wide (fun b q => ⟨by omega, by omega⟩), hb5⟩)
  have HRX := Lib.hid (And.intro ((hf5 x (by omega)).trans hx4) hy5)
  clear hsi2 hb2 hb2' oz2 hsi3 hb3 oz3 hbw ox3 oy3 hsi2' hsi3' hx4 hf4 hbw2 hb4 oy4 oz4 hy5 hf5 hb5 hz4 hz5 hk hwl hS hw1 hlt
  go_wp2_with fail
  refine bodyPost_ret (results_look _ _ x y _ _ rfl rfl HRX.out.1 HRX.out.2 (sarr_size _ _) (sarr_size _ _)) rfl ?_
  rw [HEE.out, HTH.out]
  exact HF.out

end Go.Proofs.Ytcbjfakkikjbkaa
