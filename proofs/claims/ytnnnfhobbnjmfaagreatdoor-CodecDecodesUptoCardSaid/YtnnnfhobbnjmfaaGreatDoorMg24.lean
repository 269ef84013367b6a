/-
  Lemmas on the codec. Conditions: as each says.
-/
import Derived.Test.YtnnnfhobbnjmfaaGreatDoorMg09
import Derived.Test.YtnnnfhobbnjmfaaGreatDoorMg23
namespace Go.Proofs.YtnnnfhobbnjmfaaGreatDoor
open Go.RowKit Go.Proofs.Tryz
set_option linter.all false
set_option maxHeartbeats 40000000
set_option maxRecDepth 20000

attribute [local go_sem] Oper.semAt_some

structure Fr (w wk : World) (x y : Nat) (px : Array Value) : Prop where
 blw : Below w.heap.size w wk
 part : wk.heap[x]? = some (.cells px 94 (0, 0))
 res : wk.heap[y]? = some (.cells zR 25 (0, 0))
 hx : w.heap.size <= x
 hxy : x < y
theorem Fr.start (w : World) (px : Array Value) : Fr w ((w.alloc (.cells px 94)).alloc (.cells zR 25)) w.heap.size (w.heap.size + 1) px :=
 ⟨((Below.refl _ _).alloc (Nat.le_refl _) _).alloc (by simp) _, (_root_.Go.heap_alloc_old _ _ (by simp)).trans (zN _ _), by have := zN (w.alloc (.cells px 94)) (.cells zR 25); simpa using this, Nat.le_refl _, Nat.lt_succ_self _⟩
section
variable {w wk w2 : World} {x y : Nat} {px : Array Value}
theorem Fr.lt (h : Fr w wk x y px) : y < wk.heap.size := (gl h.res)
theorem Fr.next (h : Fr w wk x y px) (hb : Below wk.heap.size wk w2) : Fr w w2 x y px :=
 ⟨h.blw.trans (hb.mono h.blw.size), (hb.block x (Nat.lt_trans h.hxy h.lt)).trans h.part, (hb.block y h.lt).trans h.res, h.hx, h.hxy⟩
theorem Fr.row (h : Fr w wk x y px) (cs : Array Value) : (wk.setRow y cs).heap[y]? = some (.cells cs 25 (0, 0)) := setRow_heap wk y _ cs _ _ h.res
theorem Fr.end (h : Fr w wk x y px) (cs : Array Value) : Below w.heap.size w (wk.setRow y cs) := below_setRow h.blw (by have := h.hx; have := h.hxy; omega) _
end
def RTo (w : World) (A : V × Int × Int) (e : Ending) (w' : World) : Prop :=
 ∃ s F, e = .returned (.tuple #[.agg #[.int .i64 A.1.kind, .int .u64 A.1.num, .string A.1.text, s, .int .i64 A.1.elem], .int .i64 A.2.1, .int .i64 A.2.2]) ∧ VO w' w.heap.size A.1 s F ∧ Below w.heap.size w w'
section
variable {w wk : World} {x y : Nat} {px : Array Value} {A : V × Int × Int}
theorem RTo.zero (h : Fr w wk x y px) (pl ec : Int) (hA : A = (zeroV, pl, ec)) : RTo w A (.returned (.tuple #[.agg zR, .int .i64 pl, .int .i64 ec])) (wk.setRow y zR) := by
 subst hA
 exact ⟨_, fun _ => False, rfl, VO.nil _ _ zero_wf rfl, h.end _⟩
theorem RTo.val (h : Fr w wk x y px) {v : V} {s : Value} {F : Nat -> Prop} {B : Nat} (hv : VO wk B v s F) (hB : w.heap.size <= B) (hy : ∀ b, F b -> b ≠ y) (pl ec : Int) (hA : A = (v, pl, ec)) :
  RTo w A (.returned (.tuple #[.agg #[.int .i64 v.kind, .int .u64 v.num, .string v.text, s, .int .i64 v.elem], .int .i64 pl, .int .i64 ec])) (wk.setRow y #[.int .i64 v.kind, .int .u64 v.num, .string v.text, s, .int .i64 v.elem]) := by
 subst hA
 exact ⟨_, F, rfl, (hv.keep (fun b hb => setRow_other wk y b _ (hy b hb))).mono hB, h.end _⟩
end
def ansR (n : Nat) (sz own : Int) (at_ : Nat) : Res -> V × Int × Int
 | .error y => (zeroV, erP n sz own at_ y, erC sz y)
 | .ok (v, k) => (v, (at_ + k : Nat), 0)
structure PIn (w : World) (p : Option Addr) (n cp at_ en : Nat) (B : List UInt8) : Prop where
 bytes : BytesIn w p n cp B
 tabs : Tabs w
 ha : at_ <= en
 hen : en <= n
 hn : n <= 140737488355328
theorem PIn.blw {w w' : World} {p : Option Addr} {n cp at_ en : Nat} {B : List UInt8} (h : PIn w p n cp at_ en B) (hb : Below w.heap.size w w') : PIn w' p n cp at_ en B := ⟨h.bytes.below hb, h.tabs.below hb, h.ha, h.hen, h.hn⟩
theorem PIn.len {w : World} {p : Option Addr} {n cp at_ en : Nat} {B : List UInt8} (h : PIn w p n cp at_ en B) : B.length = n := h.bytes.len
theorem rshort_any (w : World) (p : Option Addr) (n cp en : Nat) (sz : Int) : Calls prog 85 #[.agg #[.slice p n cp, .int .i64 (en : Nat), .int .i64 sz]] w fun e w' => e = .returned (.tuple #[.int .i64 (shP n sz), .int .i64 (shC sz)]) ∧ Below w.heap.size w w' := by
 have hns : (decide (sz < 0) = true ∧ shP n sz = n ∧ shC sz = 10) ∨ (decide (sz < 0) = false ∧ shP n sz = sz ∧ shC sz = 32) := by
  unfold shP shC
  by_cases h : sz < 0
  ·exact .inl ⟨by simp [h], by rw [if_pos h], by rw [if_pos h]⟩
  ·exact .inr ⟨by simp [h], by rw [if_neg h], by rw [if_neg h]⟩
 rcases hns with ⟨h2, h3, h4⟩ | ⟨h2, h3, h4⟩
 all_goals
  rw [h3, h4]
  clear h3 h4
  go_enter func85, ntmps85
  go_upto_region 1 with fail
  have hb0 : Below w.heap.size w (w.alloc (.cells #[.slice p n cp, .int .i64 (en : Nat), .int .i64 sz] 94)) := (Below.refl _ _).alloc (Nat.le_refl _) _
  have ox := zN w (.cells #[.slice p n cp, .int .i64 (en : Nat), .int .i64 sz] 94)
  generalize (w.alloc (.cells #[.slice p n cp, .int .i64 (en : Nat), .int .i64 sz] 94)) = w0 at *
  obtain ⟨x, hx⟩ : ∃ x, w.heap.size = x := ⟨_, rfl⟩
  rw [hx] at ox ⊢
  have x0 : w0.cell? ⟨x, 0, none⟩ = some (.slice p n cp) := (cell_of_row _ _ 0 _ _ _ ox).trans rfl
  have x2 : w0.cell? ⟨x, 2, none⟩ = some (.int .i64 sz) := (cell_of_row _ _ 2 _ _ _ ox).trans rfl
  have HB0 := zH (And.intro hb0 hx)
  clear hb0 ox hx
  go_wp2_with fail
  go_ret2
  exact ⟨rfl, HB0.out.2 ▸ HB0.out.1⟩
structure Fs (w wk : World) (x y : Nat) (px : Array Value) : Prop where
 blw : Below w.heap.size w wk
 part : wk.heap[x]? = some (.cells px 94 (0, 0))
 res : wk.heap[y]? = some (.cells #[.slice none 0 0, .int .i64 0, .int .i64 0] 94 (0, 0))
 hx : w.heap.size <= x
 hxy : x < y
theorem Fs.start (w : World) (px : Array Value) : Fs w ((w.alloc (.cells px 94)).alloc (.cells #[.slice none 0 0, .int .i64 0, .int .i64 0] 94)) w.heap.size (w.heap.size + 1) px :=
 ⟨((Below.refl _ _).alloc (Nat.le_refl _) _).alloc (by simp) _, (_root_.Go.heap_alloc_old _ _ (by simp)).trans (zN _ _), by have := zN (w.alloc (.cells px 94)) (.cells #[.slice none 0 0, .int .i64 0, .int .i64 0] 94); simpa using this, Nat.le_refl _, Nat.lt_succ_self _⟩
section
variable {w wk w2 : World} {x y : Nat} {px : Array Value}
theorem Fs.lt (h : Fs w wk x y px) : y < wk.heap.size := (gl h.res)
theorem Fs.next (h : Fs w wk x y px) (hb : Below wk.heap.size wk w2) : Fs w w2 x y px :=
 ⟨h.blw.trans (hb.mono h.blw.size), (hb.block x (Nat.lt_trans h.hxy h.lt)).trans h.part, (hb.block y h.lt).trans h.res, h.hx, h.hxy⟩
theorem Fs.row (h : Fs w wk x y px) (cs : Array Value) : (wk.setRow y cs).heap[y]? = some (.cells cs 94 (0, 0)) := setRow_heap wk y _ cs _ _ h.res
theorem Fs.end (h : Fs w wk x y px) (cs : Array Value) : Below w.heap.size w (wk.setRow y cs) := below_setRow h.blw (by have := h.hx; have := h.hxy; omega) _
end
theorem results_rspan (tmps : Array Value) (w : World) (x : Nat) (cs : Array Value) (hx : tmps.getD 8 undef = .pointer (some ⟨x, 0, none⟩)) (rx : w.heap[x]? = some (.cells cs 94 (0, 0))) (hs : cs.size = 3) :
  (results Tryz.f131 tmps).run prog w = .ok (.tuple #[.agg cs, tmps.getD 9 undef, tmps.getD 10 undef]) w := by
 have hx' : tmps[8]?.getD undef = .pointer (some ⟨x, 0, none⟩) := by simpa using hx
 have h1 := run_loadVar_row (P := prog) w x 94 94 cs (0, 0) _ rx underlying94 rfl (by rw [hs]; as_aux_lemma => kernel_rfl)
 simp [results, results131, hx', asAddr, h1]
theorem rspan_short (w : World) (p : Option Addr) (n cp at_ en : Nat) (sz : Int) (B : List UInt8) (h : PIn w p n cp at_ en B) (wd least : Nat) (h1 : 1 <= wd) (h4 : wd <= 4) (hs : en - at_ < wd) :
  Calls prog 131 #[.agg #[.slice p n cp, .int .i64 (en : Nat), .int .i64 sz], .int .i64 (at_ : Nat), .int .i64 (wd : Nat), .int .i64 (least : Nat)] w fun e w' => e = .returned (.tuple #[.agg #[.slice none 0 0, .int .i64 0, .int .i64 0], .int .i64 (shP n sz), .int .i64 (shC sz)]) ∧ Below w.heap.size w w' := by
 have HSH := zH (fun W => rshort_any W p n cp en sz)
 have hha := h.ha
 have hhe := h.hen
 have hhn := h.hn
 have dsub : IntKind.i64.wrap ((en : Int) - (at_ : Nat)) = ((en - at_ : Nat) : Int) := by rw [IntWalk.i64_in _ (by omega)]; omega
 have d1 : ((en - at_ : Nat) : Int) < (wd : Nat) := by omega
 clear hs
 go_enter func131, ntmps131
 go_upto_region 1 with fail
 have hf0 : Fs w ((w.alloc (.cells #[.slice p n cp, .int .i64 (en : Nat), .int .i64 sz] 94)).alloc (.cells #[.slice none 0 0, .int .i64 0, .int .i64 0] 94)) w.heap.size (w.heap.size + 1) #[.slice p n cp, .int .i64 (en : Nat), .int .i64 sz] := Fs.start w _
 generalize ((w.alloc (.cells #[.slice p n cp, .int .i64 (en : Nat), .int .i64 sz] 94)).alloc (.cells #[.slice none 0 0, .int .i64 0, .int .i64 0] 94)) = w0 at *
 obtain ⟨x, hx⟩ : ∃ x, w.heap.size = x := ⟨_, rfl⟩
 rw [hx] at hf0 ⊢
 obtain ⟨y, hy⟩ : ∃ y, x + 1 = y := ⟨_, rfl⟩
 rw [hy] at hf0 ⊢
 have HXY := zH (And.intro hx hy)
 have HF0 := zH hf0
 obtain ⟨x0, x1, x2⟩ := c3 HF0.out.part
 clear hx hy hf0
 go_wp2_with fail
 refine (HSH.out _).mono ?_
 rintro e w2 ⟨rfl, hb2⟩
 have HF2 := zH (HF0.out.next hb2)
 clear hb2
 go_wp2_with (refine wpList_store_rowTo rfl 94 (.tmp 8) (.tmp 27) rfl rfl y #[.slice none 0 0, .int .i64 0, .int .i64 0] rfl rfl 94 #[.slice none 0 0, .int .i64 0, .int .i64 0] (HF2.out.res) (by as_aux_lemma => kernel_rfl) (by as_aux_lemma => kernel_rfl) (by simp [Value.oneCell']) ?_)
 refine bodyPost_ret (results_rspan _ _ y #[.slice none 0 0, .int .i64 0, .int .i64 0] rfl (HF2.out.row _) rfl) rfl ?_
 exact ⟨rfl, HF2.out.end _⟩
theorem mrg_rspan_least (w : World) (p : Option Addr) (n cp at_ en : Nat) (sz : Int) (B : List UInt8) (h : PIn w p n cp at_ en B) (wd least : Nat) (h1 : 1 <= wd) (h4 : wd <= 4) (hs : ¬ en - at_ < wd) : (∀ (hs2 : nAt B at_ wd < least), Calls prog 131 #[.agg #[.slice p n cp, .int .i64 (en : Nat), .int .i64 sz], .int .i64 (at_ : Nat), .int .i64 (wd : Nat), .int .i64 (least : Nat)] w fun e w' => e = .returned (.tuple #[.agg #[.slice none 0 0, .int .i64 0, .int .i64 0], .int .i64 (at_ : Nat), .int .i64 32]) ∧ Below w.heap.size w w') ∧
  (∀ (hs2 : ¬ nAt B at_ wd < least) (hs3 : en - at_ - wd < nAt B at_ wd), Calls prog 131 #[.agg #[.slice p n cp, .int .i64 (en : Nat), .int .i64 sz], .int .i64 (at_ : Nat), .int .i64 (wd : Nat), .int .i64 (least : Nat)] w fun e w' => e = .returned (.tuple #[.agg #[.slice none 0 0, .int .i64 0, .int .i64 0], .int .i64 (shP n sz), .int .i64 (shC sz)]) ∧ Below w.heap.size w w') ∧
  (∀ (hs2 : ¬ nAt B at_ wd < least) (hs3 : ¬ en - at_ - wd < nAt B at_ wd), Calls prog 131 #[.agg #[.slice p n cp, .int .i64 (en : Nat), .int .i64 sz], .int .i64 (at_ : Nat), .int .i64 (wd : Nat), .int .i64 (least : Nat)] w fun e w' => e = .returned (.tuple #[.agg #[.slice p n cp, .int .i64 ((at_ + wd + nAt B at_ wd : Nat)), .int .i64 (at_ : Nat)], .int .i64 (at_ + wd : Nat), .int .i64 0]) ∧ Below w.heap.size w w') := by
 refine ⟨?_, ?_, ?_⟩
 intro hs2
 rotate_left
 intro hs2 hs3
 have HSH := zH (fun W => rshort_any W p n cp en sz)
 rotate_left
 intro hs2 hs3
 rotate_left
 all_goals
  have hha := h.ha
  have hhe := h.hen
  have hhn := h.hn
  have dsub : IntKind.i64.wrap ((en : Int) - (at_ : Nat)) = ((en - at_ : Nat) : Int) := by rw [IntWalk.i64_in _ (by omega)]; omega
  have d1 : ¬ ((en - at_ : Nat) : Int) < (wd : Nat) := by omega
  have hle := h.bytes.le
  have hnb := nAt_lt (B := B) (at_ := at_) (wd := wd)
  have hp4 : 256 ^ wd <= 256 ^ 4 := Nat.pow_le_pow_right (by omega) h4
  have hpp : (256 : Nat) ^ 4 = 4294967296 := rfl
  have ib1 : (0 : Int) <= (at_ : Nat) := by omega
  obtain ⟨a2, ha2⟩ : ∃ a2, at_ + wd = a2 := ⟨_, rfl⟩
  have hadd : IntKind.i64.wrap ((at_ : Int) + (wd : Nat)) = (a2 : Nat) := by rw [IntWalk.i64_in _ (by omega)]; omega
  have ib2 : ((at_ : Nat) : Int) <= (a2 : Nat) := by omega
  have ib3 : ((a2 : Nat) : Int) <= (cp : Nat) := by omega
  have ib4 : ((a2 : Nat) : Int) <= 140737488355328 := by omega
  have ib5 : a2 - at_ = wd := by omega
  have hca : ¬ cp = at_ := by omega
  have hcv : IntKind.i64.wrap ((nAt B at_ wd : Nat) : Int) = (nAt B at_ wd : Nat) := IntWalk.i64_in _ (by omega)
  have HN := zH (show ∀ W, PIn W p n cp at_ en B -> Calls prog 95 #[(.slice (p.map (fun x => x.add at_)) wd (cp - at_))] W fun e w' => e = .returned (.int .u64 (nAt B at_ wd : Nat)) ∧ W = w' from fun W hW => rnumber_any W _ _ _ _ (by have hb := hW.bytes.part at_ wd (by omega); rw [if_neg hca] at hb; exact hb) (by omega))
  have HP := zH h
 focus
  have d2 : ((nAt B at_ wd : Nat) : Int) < (least : Nat) := by omega
  generalize nAt B at_ wd = m at *
  clear hs hs2 h hle hnb hp4 hpp hha hhe hhn h1 h4 ha2
 rotate_left
 focus
  have dsub2 : IntKind.i64.wrap (((en - at_ : Nat) : Int) - (wd : Nat)) = ((en - at_ - wd : Nat) : Int) := by rw [IntWalk.i64_in _ (by omega)]; omega
  have d2 : ¬ ((nAt B at_ wd : Nat) : Int) < (least : Nat) := by omega
  have d3 : ((en - at_ - wd : Nat) : Int) < (nAt B at_ wd : Nat) := by omega
  generalize nAt B at_ wd = m at *
  clear hs hs2 hs3 h hle hnb hp4 hpp hha hhe hhn h1 h4 ha2
 rotate_left
 focus
  have dsub2 : IntKind.i64.wrap (((en - at_ : Nat) : Int) - (wd : Nat)) = ((en - at_ - wd : Nat) : Int) := by rw [IntWalk.i64_in _ (by omega)]; omega
  have d2 : ¬ ((nAt B at_ wd : Nat) : Int) < (least : Nat) := by omega
  have d3 : ¬ ((en - at_ - wd : Nat) : Int) < (nAt B at_ wd : Nat) := by omega
  rw [ha2]
  obtain ⟨a3, ha3⟩ : ∃ a3, a2 + nAt B at_ wd = a3 := ⟨_, rfl⟩
  have hadd2 : IntKind.i64.wrap (((a2 : Nat) : Int) + (nAt B at_ wd : Nat)) = (a3 : Nat) := by rw [IntWalk.i64_in _ (by omega)]; omega
  rw [ha3]
  generalize nAt B at_ wd = m at *
  clear hs hs2 hs3 h hle hnb hp4 hpp hha hhe hhn h1 h4 ha2 ha3
 rotate_left
 all_goals
  go_enter func131, ntmps131
  go_upto_region 1 with fail
  have hf0 : Fs w ((w.alloc (.cells #[.slice p n cp, .int .i64 (en : Nat), .int .i64 sz] 94)).alloc (.cells #[.slice none 0 0, .int .i64 0, .int .i64 0] 94)) w.heap.size (w.heap.size + 1) #[.slice p n cp, .int .i64 (en : Nat), .int .i64 sz] := Fs.start w _
  generalize ((w.alloc (.cells #[.slice p n cp, .int .i64 (en : Nat), .int .i64 sz] 94)).alloc (.cells #[.slice none 0 0, .int .i64 0, .int .i64 0] 94)) = w0 at *
  obtain ⟨x, hx⟩ : ∃ x, w.heap.size = x := ⟨_, rfl⟩
  rw [hx] at hf0 ⊢
  obtain ⟨y, hy⟩ : ∃ y, x + 1 = y := ⟨_, rfl⟩
  rw [hy] at hf0 ⊢
  have HXY := zH (And.intro hx hy)
  have HF0 := zH hf0
  obtain ⟨x0, x1, x2⟩ := c3 HF0.out.part
  clear hx hy hf0
  go_wp2_with fail
  refine (HN.out _ (HP.out.blw HF0.out.blw)).mono ?_
  rintro e w1 ⟨rfl, rfl⟩
 ·go_wp2_with (refine wpList_store_rowTo rfl 94 (.tmp 8) (.tmp 42) rfl rfl y #[.slice none 0 0, .int .i64 0, .int .i64 0] rfl rfl 94 #[.slice none 0 0, .int .i64 0, .int .i64 0] (HF0.out.res) (by as_aux_lemma => kernel_rfl) (by as_aux_lemma => kernel_rfl) (by simp [Value.oneCell']) ?_)
  refine bodyPost_ret (results_rspan _ _ y #[.slice none 0 0, .int .i64 0, .int .i64 0] rfl (HF0.out.row _) rfl) rfl ?_
  exact ⟨rfl, HF0.out.end _⟩
 ·go_wp2_with fail
  refine (HSH.out _).mono ?_
  rintro e w2 ⟨rfl, hb2⟩
  have HF2 := zH (HF0.out.next hb2)
  clear hb2
  go_wp2_with (refine wpList_store_rowTo rfl 94 (.tmp 8) (.tmp 57) rfl rfl y #[.slice none 0 0, .int .i64 0, .int .i64 0] rfl rfl 94 #[.slice none 0 0, .int .i64 0, .int .i64 0] (HF2.out.res) (by as_aux_lemma => kernel_rfl) (by as_aux_lemma => kernel_rfl) (by simp [Value.oneCell']) ?_)
  refine bodyPost_ret (results_rspan _ _ y #[.slice none 0 0, .int .i64 0, .int .i64 0] rfl (HF2.out.row _) rfl) rfl ?_
  exact ⟨rfl, HF2.out.end _⟩
 go_wp2_with (refine wpList_store_rowTo rfl 94 (.tmp 8) (.tmp 68) rfl rfl y #[.slice p n cp, .int .i64 (a3 : Nat), .int .i64 (at_ : Nat)] rfl rfl 94 #[.slice none 0 0, .int .i64 0, .int .i64 0] (HF0.out.res) (by as_aux_lemma => kernel_rfl) (by as_aux_lemma => kernel_rfl) (by simp [Value.oneCell']) ?_)
 refine bodyPost_ret (results_rspan _ _ y #[.slice p n cp, .int .i64 (a3 : Nat), .int .i64 (at_ : Nat)] rfl (HF0.out.row _) rfl) rfl ?_
 exact ⟨rfl, HF0.out.end _⟩
def rspan_least := fun w p n cp at_ en sz B h wd least h1 h4 hs => (mrg_rspan_least w p n cp at_ en sz B h wd least h1 h4 hs).1
def rspan_short2 := fun w p n cp at_ en sz B h wd least h1 h4 hs => (mrg_rspan_least w p n cp at_ en sz B h wd least h1 h4 hs).2.1
def rspan_ok := fun w p n cp at_ en sz B h wd least h1 h4 hs => (mrg_rspan_least w p n cp at_ en sz B h wd least h1 h4 hs).2.2

attribute [local go_sem] Oper.semAt_some

/-! ### two's complements -/
def sgnX (wd n : Nat) : Int := if wd < 8 ∧ 256 ^ wd / 2 <= n then (n : Int) + 18446744073709551616 - (256 ^ wd : Nat) else n
theorem sgnX_eq {k : Int} (wd n : Nat) (h : k = 6 ∨ k = 7 ∨ k = 8 ∨ k = 9 ∨ (k = 16 ∧ wd = 8)) : sgnX wd n = sgnW k wd n := by
 unfold sgnX sgnW
 by_cases q : wd < 8 ∧ 256 ^ wd / 2 <= n
 ·rw [if_pos q, if_pos ⟨by omega, q⟩]
 ·rw [if_neg q, if_neg (fun r => q r.2)]
theorem high_1 (l : List UInt8) (h : l.length = 1) : 128 <= (l.getD 0 0).toNat ↔ 128 <= beVal l := by
 match l, h with
 | [x0], _ =>
  have h0 := UInt8.toNat_lt x0
  simp only [beVal, List.foldl, List.getD_cons_zero]
  omega
theorem high_2 (l : List UInt8) (h : l.length = 2) : 128 <= (l.getD 0 0).toNat ↔ 32768 <= beVal l := by
 match l, h with
 | [x0, x1], _ =>
  have h0 := UInt8.toNat_lt x0
  have h1 := UInt8.toNat_lt x1
  simp only [beVal, List.foldl, List.getD_cons_zero]
  omega
theorem high_4 (l : List UInt8) (h : l.length = 4) : 128 <= (l.getD 0 0).toNat ↔ 2147483648 <= beVal l := by
 match l, h with
 | [x0, x1, x2, x3], _ =>
  have h0 := UInt8.toNat_lt x0
  have h1 := UInt8.toNat_lt x1
  have h2 := UInt8.toNat_lt x2
  have h3 := UInt8.toNat_lt x3
  simp only [beVal, List.foldl, List.getD_cons_zero]
  omega
theorem mrg_rsigned_1_1 (w : World) (a : Option Addr) (c : Nat) (l : List UInt8) : (∀ (h : BytesIn w a 1 c l) (hx : 128 <= (l.getD 0 0).toNat), Calls prog 97 #[.slice a 1 c] w fun e w' => e = .returned (.int .u64 (sgnX 1 (beVal l))) ∧ w = w') ∧
  (∀ (h : BytesIn w a 1 c l) (hx : ¬ 128 <= (l.getD 0 0).toNat), Calls prog 97 #[.slice a 1 c] w fun e w' => e = .returned (.int .u64 (sgnX 1 (beVal l))) ∧ w = w') ∧
  (∀ (h : BytesIn w a 2 c l) (hx : 128 <= (l.getD 0 0).toNat), Calls prog 97 #[.slice a 2 c] w fun e w' => e = .returned (.int .u64 (sgnX 2 (beVal l))) ∧ w = w') ∧
  (∀ (h : BytesIn w a 2 c l) (hx : ¬ 128 <= (l.getD 0 0).toNat), Calls prog 97 #[.slice a 2 c] w fun e w' => e = .returned (.int .u64 (sgnX 2 (beVal l))) ∧ w = w') ∧
  (∀ (h : BytesIn w a 4 c l) (hx : 128 <= (l.getD 0 0).toNat), Calls prog 97 #[.slice a 4 c] w fun e w' => e = .returned (.int .u64 (sgnX 4 (beVal l))) ∧ w = w') ∧
  (∀ (h : BytesIn w a 4 c l) (hx : ¬ 128 <= (l.getD 0 0).toNat), Calls prog 97 #[.slice a 4 c] w fun e w' => e = .returned (.int .u64 (sgnX 4 (beVal l))) ∧ w = w') := by
 refine ⟨?_, ?_, ?_, ?_, ?_, ?_⟩
 all_goals intro h hx
 all_goals
  have hl := h.len
  have hlt := beVal_lt l
  rw [hl] at hlt
 have hm := (high_1 l hl)
 rotate_left
 have hm := (high_1 l hl)
 rotate_left
 have hm := (high_2 l hl)
 rotate_left
 have hm := (high_2 l hl)
 rotate_left
 have hm := (high_4 l hl)
 rotate_left
 have hm := (high_4 l hl)
 rotate_left
 all_goals
  obtain ⟨b, o, rfl, hb, hcell⟩ := h.at_ (Nat.lt_of_lt_of_le (by decide) h.le)
  have hc := hcell 0 (by decide)
  rw [Nat.add_zero] at hc
  have HN := zH (rnumber_any w _ _ _ _ h (by decide))
  obtain ⟨x, hx0⟩ : ∃ x, (l.getD 0 0).toNat = x := ⟨_, rfl⟩
  rw [hx0] at hc hx hm
 focus
  have HE : sgnX 1 (beVal l) = ((beVal l : Nat) : Int) + 18446744073709551360 := by
   unfold sgnX
   rw [show (256 : Nat) ^ 1 = 256 from rfl] at *
   rw [if_pos ⟨by decide, by omega⟩]
   omega
  rw [HE]
  have d1 :  (128 : Int) <= x := by omega
 rotate_left
 focus
  have HE : sgnX 1 (beVal l) = (beVal l : Nat) := by
   unfold sgnX
   rw [show (256 : Nat) ^ 1 = 256 from rfl] at *
   rw [if_neg (by omega)]
  rw [HE]
  have d1 : ¬ (128 : Int) <= x := by omega
 rotate_left
 focus
  have HE : sgnX 2 (beVal l) = ((beVal l : Nat) : Int) + 18446744073709486080 := by
   unfold sgnX
   rw [show (256 : Nat) ^ 2 = 65536 from rfl] at *
   rw [if_pos ⟨by decide, by omega⟩]
   omega
  rw [HE]
  have d1 :  (128 : Int) <= x := by omega
 rotate_left
 focus
  have HE : sgnX 2 (beVal l) = (beVal l : Nat) := by
   unfold sgnX
   rw [show (256 : Nat) ^ 2 = 65536 from rfl] at *
   rw [if_neg (by omega)]
  rw [HE]
  have d1 : ¬ (128 : Int) <= x := by omega
 rotate_left
 focus
  have HE : sgnX 4 (beVal l) = ((beVal l : Nat) : Int) + 18446744069414584320 := by
   unfold sgnX
   rw [show (256 : Nat) ^ 4 = 4294967296 from rfl] at *
   rw [if_pos ⟨by decide, by omega⟩]
   omega
  rw [HE]
  have d1 :  (128 : Int) <= x := by omega
 rotate_left
 focus
  have HE : sgnX 4 (beVal l) = (beVal l : Nat) := by
   unfold sgnX
   rw [show (256 : Nat) ^ 4 = 4294967296 from rfl] at *
   rw [if_neg (by omega)]
  rw [HE]
  have d1 : ¬ (128 : Int) <= x := by omega
 rotate_left
 all_goals
  generalize beVal l = m at *
  have HM := zH hlt
  clear h hl hcell hm hx hx0 HE hlt
  go_enter func97, ntmps97
  go_wp2_with fail
  refine HN.out.mono ?_
  rintro e w1 ⟨rfl, rfl⟩
  go_wp2_with fail
  go_ret
  refine ⟨?_, rfl⟩
  have := HM.out
 ·show Ending.returned (Value.int _ (IntKind.wrap _ _)) = _
  congr 2
  simp only [IntKind.wrap, IntKind.bits, IntKind.signed, Bool.false_and, Bool.false_eq_true, if_false]
  omega
 ·rfl
 ·show Ending.returned (Value.int _ (IntKind.wrap _ _)) = _
  congr 2
  simp only [IntKind.wrap, IntKind.bits, IntKind.signed, Bool.false_and, Bool.false_eq_true, if_false]
  omega
 ·rfl
 ·show Ending.returned (Value.int _ (IntKind.wrap _ _)) = _
  congr 2
  simp only [IntKind.wrap, IntKind.bits, IntKind.signed, Bool.false_and, Bool.false_eq_true, if_false]
  omega
 rfl
def rsigned_1_1 := fun w a c l => (mrg_rsigned_1_1 w a c l).1
def rsigned_1_0 := fun w a c l => (mrg_rsigned_1_1 w a c l).2.1
def rsigned_2_1 := fun w a c l => (mrg_rsigned_1_1 w a c l).2.2.1
def rsigned_2_0 := fun w a c l => (mrg_rsigned_1_1 w a c l).2.2.2.1
def rsigned_4_1 := fun w a c l => (mrg_rsigned_1_1 w a c l).2.2.2.2.1
def rsigned_4_0 := fun w a c l => (mrg_rsigned_1_1 w a c l).2.2.2.2.2
theorem rsigned_8 (w : World) (a : Option Addr) (c : Nat) (l : List UInt8) (h : BytesIn w a 8 c l) :
  Calls prog 97 #[.slice a 8 c] w fun e w' => e = .returned (.int .u64 (sgnX 8 (beVal l))) ∧ w = w' := by
 have hl := h.len
 obtain ⟨b, o, rfl, hb, hcell⟩ := h.at_ (Nat.lt_of_lt_of_le (by decide) h.le)
 have HN := zH (rnumber_any w _ _ _ _ h (by decide))
 have HE : sgnX 8 (beVal l) = (beVal l : Nat) := by
  unfold sgnX
  rw [if_neg (by omega)]
 rw [HE]
 generalize beVal l = m at *
 clear h hl hcell HE
 go_enter func97, ntmps97
 go_wp2_with fail
 refine HN.out.mono ?_
 rintro e w1 ⟨rfl, rfl⟩
 go_wp2_with fail
 go_ret
 exact ⟨rfl, rfl⟩
theorem rsigned_any (w : World) (a : Option Addr) (wd c : Nat) (l : List UInt8) (h : BytesIn w a wd c l) (hw : wd = 1 ∨ wd = 2 ∨ wd = 4 ∨ wd = 8) :
  Calls prog 97 #[.slice a wd c] w fun e w' => e = .returned (.int .u64 (sgnX wd (beVal l))) ∧ w = w' := by
 rcases hw with rfl | rfl | rfl | rfl
 ·by_cases hx : 128 <= (l.getD 0 0).toNat
  ·exact rsigned_1_1 w a c l h hx
  ·exact rsigned_1_0 w a c l h hx
 ·by_cases hx : 128 <= (l.getD 0 0).toNat
  ·exact rsigned_2_1 w a c l h hx
  ·exact rsigned_2_0 w a c l h hx
 ·by_cases hx : 128 <= (l.getD 0 0).toNat
  ·exact rsigned_4_1 w a c l h hx
  ·exact rsigned_4_0 w a c l h hx
 exact rsigned_8 w a c l h
end Go.Proofs.YtnnnfhobbnjmfaaGreatDoor
