/-
  The codec's Decode at any place, Whole, Shortest. Conditions: the bytes lie in memory; the tables stand.
  awake's values, plain. No conditions.
-/
import Derived.Test.YtjipennigjlklaaDoorEt
namespace Go.Proofs.YtjipennigjlklaaDoor
open Go.RowKit
set_option linter.unusedVariables false
set_option maxHeartbeats 4000000

attribute [local go_sem] Oper.semAt_some

theorem decode_any (w : World) (p : Option Addr) (n cp : Nat) (B : List UInt8) (hB : BytesIn w p n cp B) (hT : Tabs w) (hn : n ≤ 140737488355328) (at_ : Int) : Calls Tryd.prog 11 #[.slice p n cp, .int .i64 at_] w fun e w' => DecTo w B at_ e w' := by
  by_cases h0 : at_ < 0
  · exact decode_neg w p n cp B hB at_ h0
  by_cases h1 : (n : Int) < at_
  · exact decode_far w p n cp B hB at_ h0 h1
  · obtain ⟨a, rfl⟩ : ∃ a : Nat, at_ = a := ⟨at_.toNat, by omega⟩
    exact decode_in w p n cp B hB hT hn a (by omega)
theorem results_whole (tmps : Array Value) (w : World) (x : Nat) (cs : Array Value) (hx : tmps.getD 2 undef = .pointer (some ⟨x, 0, none⟩)) (rx : w.heap[x]? = some (.cells cs 25 (0, 0))) (hs : cs.size = 5) :
    (results Tryd.f12 tmps).run Tryd.prog w = .ok (.tuple #[.agg cs, tmps.getD 3 undef, tmps.getD 4 undef]) w := by
  have hx' : tmps[2]?.getD undef = .pointer (some ⟨x, 0, none⟩) := by simpa using hx
  have h1 := run_loadVar_row (P := Tryd.prog) w x 25 25 cs (0, 0) _ rx Tryd.underlying25 rfl (by rw [hs]; as_aux_lemma => kernel_rfl)
  simp [results, Tryd.results12, hx', asAddr, h1]
def WholeTo (w : World) (B : List UInt8) (e : Ending) (w' : World) : Prop :=
  ∃ s F, e = .returned (.tuple #[.agg #[.int .i64 (wholeS B).1.kind, .int .u64 (wholeS B).1.num, .string (wholeS B).1.text, s, .int .i64 (wholeS B).1.elem], .int .i64 (wholeS B).2.1, .int .i64 (wholeS B).2.2]) ∧ VO w' w.heap.size (wholeS B).1 s F ∧ Below w.heap.size w w'
set_option maxRecDepth 20000 in
theorem whole_any (w : World) (p : Option Addr) (n cp : Nat) (B : List UInt8) (hB : BytesIn w p n cp B) (hT : Tabs w) (hn : n ≤ 140737488355328) : Calls Tryd.prog 12 #[.slice p n cp] w fun e w' => WholeTo w B e w' := by
  have hc := fun W (hb : Below w.heap.size w W) => decode_any W p n cp B (hB.below hb) (hT.below hb) hn 0
  have HC := Lib.hid hc
  have HL := Lib.hid hB.len
  clear hc hB hT hn
  go_enter Tryd.func12, Tryd.ntmps12
  go_upto_region 1 with fail
  have hb0 : Below w.heap.size w (w.alloc (.cells zR 25)) := (Below.refl _ _).alloc (Nat.le_refl _) _
  have oy : ((w.alloc (.cells zR 25))).heap[w.heap.size]? = some (.cells zR 25 (0, 0)) := _root_.Go.heap_alloc_new _ _
  generalize (w.alloc (.cells zR 25)) = w0 at *
  obtain ⟨y, hy⟩ : ∃ y, w.heap.size = y := ⟨_, rfl⟩
  rw [hy] at oy ⊢
  have HB0 := Lib.hid (And.intro hb0 (And.intro hy oy))
  clear hb0 hy oy
  go_wp2_with fail
  refine (HC.out w0 HB0.out.1).mono ?_
  rintro e w1 ⟨s, F, rfl, hvo, hb1⟩
  obtain ⟨D, hD⟩ : ∃ D, decS B 0 = D := ⟨_, rfl⟩
  rw [hD] at hvo ⊢
  obtain ⟨v, pl, ec⟩ := D
  simp only at hvo ⊢
  obtain ⟨ps, cs, hss, _, _⟩ := hvo.slice
  subst hss
  have HD := Lib.hid hD
  have H1 := Lib.hid (And.intro hvo (And.intro hb1 ((hb1.block y (gl HB0.out.2.2)).trans HB0.out.2.2)))
  clear hvo hb1 hD
  go_upto_region 2 with (refine wpList_store_rowTo rfl 25 (.tmp 5) (.tmp 11) rfl rfl w1.heap.size #[.int .i64 v.kind, .int .u64 v.num, .string v.text, .slice ps v.list.length cs, .int .i64 v.elem] rfl rfl 25 zR (_root_.Go.heap_alloc_new _ _) (by as_aux_lemma => kernel_rfl) (by as_aux_lemma => kernel_rfl) (by simp [Value.oneCell']) ?_)
  have hb2 : Below w1.heap.size w1 ((w1.alloc (.cells zR 25)).setRow w1.heap.size #[.int .i64 v.kind, .int .u64 v.num, .string v.text, .slice ps v.list.length cs, .int .i64 v.elem]) := below_setRow ((Below.refl _ _).alloc (Nat.le_refl _) _) (Nat.le_refl _) _
  have oz := setRow_heap (w1.alloc (.cells zR 25)) w1.heap.size _ #[.int .i64 v.kind, .int .u64 v.num, .string v.text, .slice ps v.list.length cs, .int .i64 v.elem] _ _ (_root_.Go.heap_alloc_new w1 _)
  change Code.wp _ _ _ _ ((w1.alloc (.cells zR 25)).setRow w1.heap.size #[.int .i64 v.kind, .int .u64 v.num, .string v.text, .slice ps v.list.length cs, .int .i64 v.elem])
  generalize ((w1.alloc (.cells zR 25)).setRow w1.heap.size #[.int .i64 v.kind, .int .u64 v.num, .string v.text, .slice ps v.list.length cs, .int .i64 v.elem]) = w3 at *
  obtain ⟨z, hz⟩ : ∃ z, w1.heap.size = z := ⟨_, rfl⟩
  rw [hz] at oz ⊢
  have hyz := (gl H1.out.2.2)
  have H3 := Lib.hid (show Below w.heap.size w w3 ∧ w3.heap[y]? = some (.cells zR 25 (0, 0)) ∧ w3.heap[z]? = some (.cells #[.int .i64 v.kind, .int .u64 v.num, .string v.text, .slice ps v.list.length cs, .int .i64 v.elem] 25 (0, 0)) ∧ VO w3 w.heap.size v (.slice ps v.list.length cs) F ∧ y < z ∧ (∀ j, F j → j ≠ y) from
    ⟨(HB0.out.1.trans (H1.out.2.1.mono HB0.out.1.size)).trans (hb2.mono (Nat.le_trans HB0.out.1.size H1.out.2.1.size)), (hb2.block y hyz).trans H1.out.2.2, oz, (H1.out.1.mono HB0.out.1.size).blw hb2, by omega, fun j hj e => by have h1 := (H1.out.1.lt j hj).1; have h2 := (gl HB0.out.2.2); omega⟩)
  clear hb2 oz hz hyz
  by_cases he : ec = 0
  · subst he
    by_cases hp : pl < n
    · have hw : wholeS B = (zeroV, pl, 35) := by unfold wholeS; rw [HD.out, if_neg (by simp), if_pos (by show pl < (B.length : Int); rw [HL.out]; exact hp)]
      have HW := Lib.hid hw
      have d1 : decide (pl < (n : Int)) = true := decide_eq_true hp
      clear hw hp
      go_wp2_with (refine wpList_store_rowTo rfl 25 (.tmp 2) (.tmp 25) rfl rfl y zR rfl rfl 25 zR H3.out.2.1 (by as_aux_lemma => kernel_rfl) (by as_aux_lemma => kernel_rfl) (by simp [Value.oneCell']) ?_)
      have hh := setRow_heap w3 y _ zR _ _ H3.out.2.1
      refine bodyPost_ret (results_whole _ _ y zR rfl hh rfl) rfl ?_
      unfold WholeTo
      rw [HW.out]
      exact ⟨_, fun _ => False, rfl, VO.nil _ _ zero_wf rfl, below_setRow H3.out.1 (by have := HB0.out.2.1; omega) _⟩
    · have hw : wholeS B = (v, 0, 0) := by unfold wholeS; rw [HD.out, if_neg (by simp), if_neg (by show ¬ pl < (B.length : Int); rw [HL.out]; exact hp)]
      have HW := Lib.hid hw
      have d1 : decide (pl < (n : Int)) = false := decide_eq_false hp
      have x0 : w3.cell? ⟨z, 0, none⟩ = some (.int .i64 v.kind) := (cell_of_row _ _ 0 _ _ _ H3.out.2.2.1).trans rfl
      have x1 : w3.cell? ⟨z, 1, none⟩ = some (.int .u64 v.num) := (cell_of_row _ _ 1 _ _ _ H3.out.2.2.1).trans rfl
      have x2 : w3.cell? ⟨z, 2, none⟩ = some (.string v.text) := (cell_of_row _ _ 2 _ _ _ H3.out.2.2.1).trans rfl
      have x3 : w3.cell? ⟨z, 3, none⟩ = some (.slice ps v.list.length cs) := (cell_of_row _ _ 3 _ _ _ H3.out.2.2.1).trans rfl
      have x4 : w3.cell? ⟨z, 4, none⟩ = some (.int .i64 v.elem) := (cell_of_row _ _ 4 _ _ _ H3.out.2.2.1).trans rfl
      clear hw hp
      go_wp2_with (refine wpList_store_rowTo rfl 25 (.tmp 2) (.tmp 27) rfl rfl y #[.int .i64 v.kind, .int .u64 v.num, .string v.text, .slice ps v.list.length cs, .int .i64 v.elem] rfl rfl 25 zR H3.out.2.1 (by as_aux_lemma => kernel_rfl) (by as_aux_lemma => kernel_rfl) (by simp [Value.oneCell']) ?_)
      have hh := setRow_heap w3 y _ #[.int .i64 v.kind, .int .u64 v.num, .string v.text, .slice ps v.list.length cs, .int .i64 v.elem] _ _ H3.out.2.1
      refine bodyPost_ret (results_whole _ _ y #[.int .i64 v.kind, .int .u64 v.num, .string v.text, .slice ps v.list.length cs, .int .i64 v.elem] rfl hh rfl) rfl ?_
      unfold WholeTo
      rw [HW.out]
      exact ⟨_, F, rfl, H3.out.2.2.2.1.keep (fun j hj => setRow_other w3 y j _ (H3.out.2.2.2.2.2 j hj)), below_setRow H3.out.1 (by have := HB0.out.2.1; omega) _⟩
  · have hw : wholeS B = (zeroV, pl, ec) := by unfold wholeS; rw [HD.out, if_pos he]
    have HW := Lib.hid hw
    have d1 : (ec != 0) = true := by simp [he]
    clear hw he
    go_wp2_with (refine wpList_store_rowTo rfl 25 (.tmp 2) (.tmp 17) rfl rfl y zR rfl rfl 25 zR H3.out.2.1 (by as_aux_lemma => kernel_rfl) (by as_aux_lemma => kernel_rfl) (by simp [Value.oneCell']) ?_)
    have hh := setRow_heap w3 y _ zR _ _ H3.out.2.1
    refine bodyPost_ret (results_whole _ _ y zR rfl hh rfl) rfl ?_
    unfold WholeTo
    rw [HW.out]
    exact ⟨_, fun _ => False, rfl, VO.nil _ _ zero_wf rfl, below_setRow H3.out.1 (by have := HB0.out.2.1; omega) _⟩
set_option maxRecDepth 20000 in
theorem shortest_any (w : World) (p : Option Addr) (n cp : Nat) (B : List UInt8) (hB : BytesIn w p n cp B) (hT : Tabs w) (hn : n ≤ 140737488355328) : Calls Tryd.prog 15 #[.slice p n cp] w fun e w' => e = .returned (.bool (shortestS B)) ∧ Below w.heap.size w w' := by
  have HC := Lib.hid (whole_any w p n cp B hB hT hn)
  have HB := Lib.hid (And.intro hB (And.intro hT hn))
  clear hB hT hn
  go_enter Tryd.func15, Tryd.ntmps15
  go_wp2_with fail
  refine HC.out.mono ?_
  rintro e w1 ⟨s, F, rfl, hvo, hb1⟩
  obtain ⟨D, hD⟩ : ∃ D, wholeS B = D := ⟨_, rfl⟩
  rw [hD] at hvo ⊢
  obtain ⟨v, pl, ec⟩ := D
  simp only at hvo ⊢
  obtain ⟨ps, cs, hss, _, _⟩ := hvo.slice
  subst hss
  have HD := Lib.hid hD
  have H1 := Lib.hid (And.intro hvo hb1)
  clear hvo hb1 hD
  go_upto_region 2 with (refine wpList_store_rowTo rfl 25 (.tmp 3) (.tmp 10) rfl rfl w1.heap.size #[.int .i64 v.kind, .int .u64 v.num, .string v.text, .slice ps v.list.length cs, .int .i64 v.elem] rfl rfl 25 zR (_root_.Go.heap_alloc_new _ _) (by as_aux_lemma => kernel_rfl) (by as_aux_lemma => kernel_rfl) (by simp [Value.oneCell']) ?_)
  have hb2 : Below w1.heap.size w1 ((w1.alloc (.cells zR 25)).setRow w1.heap.size #[.int .i64 v.kind, .int .u64 v.num, .string v.text, .slice ps v.list.length cs, .int .i64 v.elem]) := below_setRow ((Below.refl _ _).alloc (Nat.le_refl _) _) (Nat.le_refl _) _
  have oz := setRow_heap (w1.alloc (.cells zR 25)) w1.heap.size _ #[.int .i64 v.kind, .int .u64 v.num, .string v.text, .slice ps v.list.length cs, .int .i64 v.elem] _ _ (_root_.Go.heap_alloc_new w1 _)
  change Code.wp _ _ _ _ ((w1.alloc (.cells zR 25)).setRow w1.heap.size #[.int .i64 v.kind, .int .u64 v.num, .string v.text, .slice ps v.list.length cs, .int .i64 v.elem])
  generalize ((w1.alloc (.cells zR 25)).setRow w1.heap.size #[.int .i64 v.kind, .int .u64 v.num, .string v.text, .slice ps v.list.length cs, .int .i64 v.elem]) = w3 at *
  obtain ⟨z, hz⟩ : ∃ z, w1.heap.size = z := ⟨_, rfl⟩
  rw [hz] at oz ⊢
  have H3 := Lib.hid (And.intro (H1.out.2.trans (hb2.mono H1.out.2.size)) (And.intro oz (H1.out.1.blw hb2)))
  clear hb2 oz hz
  by_cases he : ec = 0
  · subst he
    have hwt : v.wt ≤ 2000000 := by
      have hd : (decS B 0).2.2 = 0 ∧ (decS B 0).1 = v := by
        have h1 := HD.out
        unfold wholeS at h1
        by_cases c1 : (decS B 0).2.2 ≠ 0
        · rw [if_pos c1] at h1
          exact absurd (congrArg (fun x => x.2.2) h1) c1
        rw [if_neg c1] at h1
        by_cases c2 : (decS B 0).2.1 < B.length
        · rw [if_pos c2] at h1
          exact absurd (congrArg (fun x => x.2.2) h1) (by show ¬ ((35 : Int) = 0); decide)
        rw [if_neg c2] at h1
        exact ⟨Classical.byContradiction c1, congrArg (fun x => x.1) h1⟩
      obtain ⟨n1, k, _, _, _, hk, _, _, hg⟩ := decS_good (by rw [HB.out.1.len]; have := HB.out.2.2; unfold maxLen; omega) hd.1
      have := hg.wt
      rw [hd.2] at this
      omega
    have hen := encode_any v w3 _ H3.out.2.2.vin (HB.out.2.1.below H3.out.1) hwt
    have HE := Lib.hid hen
    have x0 : w3.cell? ⟨z, 0, none⟩ = some (.int .i64 v.kind) := (cell_of_row _ _ 0 _ _ _ H3.out.2.1).trans rfl
    have x1 : w3.cell? ⟨z, 1, none⟩ = some (.int .u64 v.num) := (cell_of_row _ _ 1 _ _ _ H3.out.2.1).trans rfl
    have x2 : w3.cell? ⟨z, 2, none⟩ = some (.string v.text) := (cell_of_row _ _ 2 _ _ _ H3.out.2.1).trans rfl
    have x3 : w3.cell? ⟨z, 3, none⟩ = some (.slice ps v.list.length cs) := (cell_of_row _ _ 3 _ _ _ H3.out.2.1).trans rfl
    have x4 : w3.cell? ⟨z, 4, none⟩ = some (.int .i64 v.elem) := (cell_of_row _ _ 4 _ _ _ H3.out.2.1).trans rfl
    clear hen hwt
    go_wp2_with fail
    refine HE.out.mono ?_
    rintro e w4 ⟨u, rfl, hou, hb4⟩
    obtain ⟨pu, cu, hu, _⟩ := hou.bytes
    subst hu
    obtain ⟨E, hE⟩ : ∃ E, encS v = E := ⟨_, rfl⟩
    rw [hE] at hou ⊢
    obtain ⟨el, ee⟩ := E
    simp only at hou ⊢
    have hc1 : (convert 28 9 (.slice pu el.length cu)).run Tryd.prog w4 = .ok (.string ⟨el.toArray⟩) w4 := run_string_bytes w4 _ _ 5 Tryd.underlying28 Tryd.underlying5 Tryd.underlying9 _ _ _ _ hou.sl.2
    have hc2 : (convert 28 9 (.slice p n cp)).run Tryd.prog w4 = .ok (.string ⟨B.toArray⟩) w4 := run_string_bytes w4 _ _ 5 Tryd.underlying28 Tryd.underlying5 Tryd.underlying9 _ _ _ _ (HB.out.1.below (H3.out.1.trans (hb4.mono H3.out.1.size)))
    have HB4 := Lib.hid (H3.out.1.trans (hb4.mono H3.out.1.size))
    have hsh : shortestS B = decide (ee = 0 ∧ el = B) := by unfold shortestS; rw [HD.out, if_neg (by simp)]; simp only; rw [hE]
    have HS := Lib.hid hsh
    clear hou hb4 x0 x1 x2 x3 x4 hE hsh
    by_cases h0 : ee = 0
    · subst h0
      by_cases h1 : el = B
      · subst h1
        have hS2 := HS.out
        rw [decide_eq_true (And.intro rfl rfl)] at hS2
        have HS2 := Lib.hid hS2
        clear hS2
        have hq : ((⟨el.toArray⟩ : ByteArray).toList == (⟨el.toArray⟩ : ByteArray).toList) = true := by simp
        go_wp2_with fail
        go_ret
        rw [HS2.out]
        exact ⟨rfl, HB4.out⟩
      · have hS2 := HS.out
        rw [decide_eq_false (fun q => h1 q.2)] at hS2
        have HS2 := Lib.hid hS2
        have hq : ((⟨el.toArray⟩ : ByteArray).toList == (⟨B.toArray⟩ : ByteArray).toList) = false := by
          rw [teq]
          exact decide_eq_false (fun q => h1 (by injection q with q; simpa using congrArg Array.toList q))
        clear hS2 h1
        obtain ⟨TA, hTA⟩ : ∃ TA : ByteArray, ⟨el.toArray⟩ = TA := ⟨_, rfl⟩
        obtain ⟨TB, hTB⟩ : ∃ TB : ByteArray, ⟨B.toArray⟩ = TB := ⟨_, rfl⟩
        rw [hTA, hTB] at hq
        rw [hTA] at hc1
        rw [hTB] at hc2
        clear hTA hTB
        go_wp2_with fail
        go_ret
        rw [HS2.out]
        exact ⟨rfl, HB4.out⟩
    · have hS2 := HS.out
      rw [decide_eq_false (fun q => h0 q.1)] at hS2
      have HS2 := Lib.hid hS2
      have d0 : (ee == 0) = false := by simp [h0]
      clear hS2 h0
      go_wp2_with fail
      go_ret
      rw [HS2.out]
      exact ⟨rfl, HB4.out⟩
  · have hw : shortestS B = false := by unfold shortestS; rw [HD.out, if_pos he]
    have HW := Lib.hid hw
    have d1 : (ec != 0) = true := by simp [he]
    clear hw he
    go_wp2_with fail
    go_ret
    rw [HW.out]
    exact ⟨rfl, H3.out.1⟩
set_option maxHeartbeats 4000000

def awA : V := .mk 1 1 ⟨#[]⟩ [] 0
def awB : V := .mk 4 1 ⟨#[]⟩ [] 0
def aw : V := .mk 21 0 ⟨#[]⟩ [awA, awB] 0
theorem aw_pre : aw.pre 1 = [(1, aw), (2, awA), (2, awB)] := by simp [aw, awA, awB, V.pre, pres]
theorem aw_check : firstBad (aw.pre 1) = 0 := by
  rw [aw_pre]
  simp [firstBad, aloneC, aw, awA, awB, V.kind, V.num, V.text, V.list, V.elem, extraV, hasN, hasT, hasP, numOk, textOk]
theorem aw_put : putV aw = [0xc0, 4, 2, 0x41, 0x52, 1] := by kernel_rfl
theorem aw_enc : encS aw = ([0xc0, 4, 2, 0x41, 0x52, 1], 0) := by
  unfold encS
  rw [aw_check, if_neg (by decide), aw_put, if_neg (by decide)]
theorem aw_dec : decS [0x40, 0x56, 1] 1 = (.mk 1 1 ⟨#[]⟩ [] 0, 3, 0) := by kernel_rfl
theorem aw_dec2 : decS [0x40, 0x40] 0 = (zeroV, 1, 0) := by kernel_rfl
theorem aw_whole : wholeS [0x40, 0x40] = (zeroV, 1, 35) := by
  unfold wholeS
  rw [aw_dec2, if_neg (by decide), if_pos (by decide)]
def awC : V := .mk 4 255 ⟨#[]⟩ [] 0
theorem awC_check : firstBad (awC.pre 1) = 0 := by
  simp [V.pre, pres, firstBad, aloneC, awC, V.kind, V.num, V.text, V.list, V.elem, extraV, hasN, hasT, hasP, numOk, textOk]
theorem awC_put : putV awC = [0x52, 0xff] := by kernel_rfl
theorem awC_enc : encS awC = ([0x52, 0xff], 0) := by
  unfold encS
  rw [awC_check, if_neg (by decide), awC_put, if_neg (by decide)]
theorem aw_dec3 : decS [0x52, 0xff] 0 = (awC, 2, 0) := by kernel_rfl
theorem aw_dec4 : decS [0x70, 0, 0, 0, 0xff] 0 = (awC, 5, 0) := by kernel_rfl
theorem aw_short : shortestS [0x52, 0xff] = true := by
  have hw : wholeS [0x52, 0xff] = (awC, 0, 0) := by unfold wholeS; rw [aw_dec3, if_neg (by decide), if_neg (by decide)]
  unfold shortestS
  rw [hw, if_neg (by decide)]
  simp only
  rw [awC_enc]
  decide
theorem aw_long : shortestS [0x70, 0, 0, 0, 0xff] = false := by
  have hw : wholeS [0x70, 0, 0, 0, 0xff] = (awC, 0, 0) := by unfold wholeS; rw [aw_dec4, if_neg (by decide), if_neg (by decide)]
  unfold shortestS
  rw [hw, if_neg (by decide)]
  simp only
  rw [awC_enc]
  decide
end Go.Proofs.YtjipennigjlklaaDoor
