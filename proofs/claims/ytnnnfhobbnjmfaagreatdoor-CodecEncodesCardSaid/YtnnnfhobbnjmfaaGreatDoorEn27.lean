/-
  Lemmas on the codec. Conditions: as each says.
-/
import Derived.Test.YtnnnfhobbnjmfaaGreatDoorEn26
import Derived.Defers
import Derived.Recover
namespace Go.Proofs.YtnnnfhobbnjmfaaGreatDoor
open Go.RowKit
set_option linter.all false
set_option maxHeartbeats 4000000

attribute [local go_sem] Oper.semAt_some

theorem wp_hide {P : Program} {Q : Exit → Act → World → Prop} {c : Code} {a : Act} {w : World} (h : ∀ Q' : Exit → Act → World → Prop, Hid (∀ a w, Q .normal a w → Q' .normal a w) → Hid (∀ c (a : Act) w, Q' (.panic c) a w → False) → c.wp P Q' a w) : c.wp P Q a w :=
  wp_mono (h (fun x a w => match x with | .normal => Q .normal a w | _ => False) (Lib.hid (fun _ _ h => h)) (Lib.hid (fun _ _ _ h => h))) (fun e a w hh => by cases e <;> first | exact hh | exact hh.elim)
theorem catch_idle (a b c : Value) (w : World) :
    CallsD Tryz.prog 37 #[a, b, c] .returning w fun e u' w' => e = .returned (.tuple #[]) ∧ u' = .returning ∧ w' = w := by
  refine callsD_of_wpS Tryz.func37 rfl fun c₀ cs hu => ?_
  apply wpS_seq
  apply wpS_region
  simp [wpOpsS, go_sem, recoverD, hu, Tryz.ntmps37, Exit.thenS]
  apply wpS_seq
  apply wpS_region
  simp [wpOpsS, go_sem, Exit.thenS]
  refine wpS_cond (t := false) (by simp [Act.eval, Array.replicate]) ?_
  simp only [Bool.false_eq_true, if_false]
  refine wpS_of_wp (wp_skip ?_)
  cases c₀
  simp_all [bodyPostS, results, Tryz.results37]
structure Took (w w' : World) (x y z : Nat) (a c : Int) : Prop where
  keep : KeepF (fun g => g = x ∨ g = y ∨ g = z) w w'
  rx : w'.heap[x]? = some (.cells zR 25 (0, 0))
  ry : w'.cell? ⟨y, 0, none⟩ = some (.int .i64 a)
  rz : w'.cell? ⟨z, 0, none⟩ = some (.int .i64 c)
set_option maxRecDepth 20000 in
theorem catch_fault (x y z : Nat) (a c : Int) (rw0 : Array Value) (y0 z0 : Int) (hne : x ≠ y ∧ x ≠ z ∧ y ≠ z) (w : World) (hx : w.heap[x]? = some (.cells rw0 25 (0, 0))) (hrs : rw0.size = 5)
    (hy : w.heap[y]? = some (.cells #[.int .i64 y0] 3 (0, 0))) (hz : w.heap[z]? = some (.cells #[.int .i64 z0] 29 (0, 0))) :
    CallsD Tryz.prog 37 #[.pointer (some ⟨x, 0, none⟩), .pointer (some ⟨y, 0, none⟩), .pointer (some ⟨z, 0, none⟩)] (.panicking [{ v := .iface 68 (.agg #[.int .i64 a, .int .i64 c]), recovered := false }]) w fun e u' w' =>
      e = .returned (.tuple #[]) ∧ u' = .panicking [{ v := .iface 68 (.agg #[.int .i64 a, .int .i64 c]), recovered := true }] ∧ Took w w' x y z a c := by
  refine callsD_of_wpS Tryz.func37 rfl fun c₀ cs hu => ?_
  apply wpS_seq
  apply wpS_region
  simp [wpOpsS, go_sem, recoverD, hu, Tryz.ntmps37, Exit.thenS]
  apply wpS_seq
  apply wpS_region
  simp [wpOpsS, go_sem, Exit.thenS]
  refine wpS_cond (t := true) (by simp [Act.eval, Array.replicate]) ?_
  simp only [if_true]
  refine wpS_of_wp ?_
  refine wp_hide (fun Q9 HQ9 HP9 => ?_)
  have hrep : Array.replicate 19 undef = #[undef, undef, undef, undef, undef, undef, undef, undef, undef, undef, undef, undef, undef, undef, undef, undef, undef, undef, undef] := by kernel_rfl
  simp only [hrep, List.setIfInBounds_toArray, List.set_cons_zero, List.set_cons_succ, List.append_toArray, List.cons_append, List.nil_append]
  have HX := Lib.hid (And.intro hx (And.intro hrs (And.intro hy (And.intro hz hne))))
  clear hx hrs hy hz hne hu hrep
  have hta : ∀ w : World, (Instr.typeAssert (.iface 68 (.agg #[.int .i64 a, .int .i64 c])) 20 68 true).run Tryz.prog w = .ok (.tuple #[.agg #[.int .i64 a, .int .i64 c], .bool true]) w := fun w => by kernel_rfl
  go_upto_region 5 with (refine wpList_store_rowTo rfl 68 (.tmp 4) (.tmp 12) rfl rfl w.heap.size #[.int .i64 a, .int .i64 c] rfl rfl 68 #[.int .i64 0, .int .i64 0] (_root_.Go.heap_alloc_new _ _) (by as_aux_lemma => kernel_rfl) (by as_aux_lemma => kernel_rfl) (by simp [Value.oneCell']) ?_)
  have hb1 : Below w.heap.size w ((w.alloc (.cells #[.int .i64 0, .int .i64 0] 68)).setRow w.heap.size #[.int .i64 a, .int .i64 c]) := below_setRow ((Below.refl _ _).alloc (Nat.le_refl _) _) (Nat.le_refl _) _
  have of1 := setRow_heap (w.alloc (.cells #[.int .i64 0, .int .i64 0] 68)) w.heap.size _ #[.int .i64 a, .int .i64 c] _ _ (_root_.Go.heap_alloc_new w _)
  change Code.wp _ _ _ _ ((w.alloc (.cells #[.int .i64 0, .int .i64 0] 68)).setRow w.heap.size #[.int .i64 a, .int .i64 c])
  generalize ((w.alloc (.cells #[.int .i64 0, .int .i64 0] 68)).setRow w.heap.size #[.int .i64 a, .int .i64 c]) = w1 at *
  obtain ⟨f, hf⟩ : ∃ f, w.heap.size = f := ⟨_, rfl⟩
  rw [hf] at of1 ⊢
  have x1 := (hb1.block x (gl HX.out.1)).trans HX.out.1
  have y1 := (hb1.block y (gl HX.out.2.2.1)).trans HX.out.2.2.1
  have z1 := (hb1.block z (gl HX.out.2.2.2.1)).trans HX.out.2.2.2.1
  have lx := (gl HX.out.1)
  have ly := (gl HX.out.2.2.1)
  have lz := (gl HX.out.2.2.2.1)
  have H1 := Lib.hid (And.intro hb1 (And.intro of1 (And.intro x1 (And.intro y1 z1))))
  have HF := Lib.hid (show f ≠ x ∧ f ≠ y ∧ f ≠ z from ⟨by omega, by omega, by omega⟩)
  clear hb1 of1 x1 y1 z1 lx ly lz hf hta
  refine wp_region_heldN (fun V => V.cell? ⟨f, 0, none⟩ = some (.int .i64 a) ∧ V.cell? ⟨f, 1, none⟩ = some (.int .i64 c)) 8 rfl (by kernel_rfl) ?_
  have hS : w1.drew.cell? ⟨f, 0, none⟩ = some (.int .i64 a) ∧ w1.drew.cell? ⟨f, 1, none⟩ = some (.int .i64 c) := ⟨(cell_of_row w1 _ 0 _ _ _ H1.out.2.1).trans rfl, (cell_of_row w1 _ 1 _ _ _ H1.out.2.1).trans rfl⟩
  refine tkD (i := 0) (v := .agg zR) (some 17) rfl rfl (by kernel_rfl) (fun c a w h => (HP9.out _ _ _ h).elim) (Or.inl ⟨by rfl, by rintro V h0; go_simp⟩) hS ?_
  try simp only [Act.put, sA, sB, sC]
  refine tkD (i := 1) (v := .pointer (some ⟨f, 0, none⟩)) (some 18) rfl rfl (by kernel_rfl) (fun c a w h => (HP9.out _ _ _ h).elim) (Or.inl ⟨by rfl, by rintro V h0; go_simp⟩) hS ?_
  try simp only [Act.put, sA, sB, sC]
  refine tkD (i := 2) (v := .int .i64 a) (some 19) rfl rfl (by kernel_rfl) (fun c a w h => (HP9.out _ _ _ h).elim) (Or.inl ⟨by rfl, by rintro V ⟨h0, h1⟩; go_simp⟩) hS ?_
  try simp only [Act.put, sA, sB, sC]
  refine tkD (i := 3) (v := .pointer (some ⟨f, 1, none⟩)) (some 20) rfl rfl (by kernel_rfl) (fun c a w h => (HP9.out _ _ _ h).elim) (Or.inl ⟨by rfl, by rintro V h0; go_simp⟩) hS ?_
  try simp only [Act.put, sA, sB, sC]
  refine tkD (i := 4) (v := .int .i64 c) (some 21) rfl rfl (by kernel_rfl) (fun c a w h => (HP9.out _ _ _ h).elim) (Or.inl ⟨by rfl, by rintro V ⟨h0, h1⟩; go_simp⟩) hS ?_
  try simp only [Act.put, sA, sB, sC]
  have k2 : KeepF (fun g => g = x) w1.drew (w1.drew.setRow x zR) := ⟨rfl, rfl, rfl, by simp, fun j hj hne => setRow_other w1.drew x j _ hne⟩
  have rx2 := setRow_heap w1.drew x _ zR _ _ H1.out.2.2.1
  have hS2 : (w1.drew.setRow x zR).cell? ⟨f, 0, none⟩ = some (.int .i64 a) ∧ (w1.drew.setRow x zR).cell? ⟨f, 1, none⟩ = some (.int .i64 c) := ⟨k2.cell hS.1 HF.out.1, k2.cell hS.2 HF.out.1⟩
  refine oneH (i := 5) (by kernel_rfl) ?_
  refine stepD (i := 5) rfl (by rfl) (fun K5 h5 => ?_)
  refine wp_store_rowN 25 (.tmp 0) (.tmp 17) rfl rfl x zR rfl rfl 25 rw0 H1.out.2.2.1 (by as_aux_lemma => kernel_rfl) (by rw [HX.out.2.1]; rfl) (by simp [Value.oneCell']) ?_
  refine h5.out _ _ hS2 ?_
  clear h5
  try simp only [Act.put, sA, sB, sC]
  generalize (w1.drew.setRow x zR) = w2 at *
  have ry2 := (k2.block y (gl H1.out.2.2.2.1) (fun e => HX.out.2.2.2.2.1 e.symm)).trans H1.out.2.2.2.1
  have rz2 := (k2.block z (gl H1.out.2.2.2.2) (fun e => HX.out.2.2.2.2.2.1 e.symm)).trans H1.out.2.2.2.2
  have cy : w2.cell? ⟨y, 0, none⟩ = some (.int .i64 y0) := (cell_of_row _ _ 0 _ _ _ ry2).trans rfl
  have fy : w2.frozen? ⟨y, 0, none⟩ = false := by simp [World.frozen?, ry2]
  have k3 : KeepF (fun g => g = y) w2 (w2.setCell ⟨y, 0, none⟩ (.int .i64 a)) := ⟨rfl, rfl, rfl, by simp, fun j hj hne => set_farV hne⟩
  have ry3 := heap_setCell_same w2 y 0 _ _ (.int .i64 a) ry2
  have hS3 : (w2.setCell ⟨y, 0, none⟩ (.int .i64 a)).cell? ⟨f, 0, none⟩ = some (.int .i64 a) ∧ (w2.setCell ⟨y, 0, none⟩ (.int .i64 a)).cell? ⟨f, 1, none⟩ = some (.int .i64 c) := ⟨k3.cell hS2.1 HF.out.2.1, k3.cell hS2.2 HF.out.2.1⟩
  refine oneH (i := 6) (by kernel_rfl) ?_
  refine stepD (i := 6) rfl (by rfl) (fun K5 h5 => ?_)
  go_simp
  change K5 _ (w2.setCell ⟨y, 0, none⟩ (.int .i64 a))
  refine h5.out _ _ hS3 ?_
  clear h5
  try simp only [Act.put, sA, sB, sC]
  generalize (w2.setCell ⟨y, 0, none⟩ (.int .i64 a)) = w3 at *
  have rz3 := (k3.block z (gl rz2) (fun e => HX.out.2.2.2.2.2.2 e.symm)).trans rz2
  have cz : w3.cell? ⟨z, 0, none⟩ = some (.int .i64 z0) := (cell_of_row _ _ 0 _ _ _ rz3).trans rfl
  have fz : w3.frozen? ⟨z, 0, none⟩ = false := by simp [World.frozen?, rz3]
  have k4 : KeepF (fun g => g = z) w3 (w3.setCell ⟨z, 0, none⟩ (.int .i64 c)) := ⟨rfl, rfl, rfl, by simp, fun j hj hne => set_farV hne⟩
  have rz4 := heap_setCell_same w3 z 0 _ _ (.int .i64 c) rz3
  have hS4 : (w3.setCell ⟨z, 0, none⟩ (.int .i64 c)).cell? ⟨f, 0, none⟩ = some (.int .i64 a) ∧ (w3.setCell ⟨z, 0, none⟩ (.int .i64 c)).cell? ⟨f, 1, none⟩ = some (.int .i64 c) := ⟨k4.cell hS3.1 HF.out.2.2, k4.cell hS3.2 HF.out.2.2⟩
  refine oneH (i := 7) (by kernel_rfl) ?_
  refine stepD (i := 7) rfl (by rfl) (fun K5 h5 => ?_)
  go_simp
  change K5 _ (w3.setCell ⟨z, 0, none⟩ (.int .i64 c))
  refine h5.out _ _ hS4 ?_
  clear h5
  try simp only [Act.put, sA, sB, sC]
  generalize (w3.setCell ⟨z, 0, none⟩ (.int .i64 c)) = w4 at *
  refine wpAnyH_done (by kernel_rfl) ?_ _
  have HT := Lib.hid (show Took w w4 x y z a c from ⟨(KeepF.of_below H1.out.1).trans ((KeepF.of_below (bdrew (Below.refl _ _))).trans ((k2.wide (fun j h => .inl h)).trans ((k3.wide (fun j h => .inr (.inl h))).trans (k4.wide (fun j h => .inr (.inr h)))))), (k4.block x (by have := (gl rx2); have := k3.size; omega) HX.out.2.2.2.2.2.1).trans ((k3.block x (gl rx2) HX.out.2.2.2.2.1).trans rx2), k4.cell ((cell_of_row _ _ 0 _ _ _ ry3).trans rfl) HX.out.2.2.2.2.2.2, (cell_of_row _ _ 0 _ _ _ rz4).trans rfl⟩)
  clear k2 k3 k4 rx2 ry2 ry3 rz2 rz3 rz4 cy cz fy fz hS hS2 hS3 hS4
  refine HQ9.out _ _ ?_
  cases c₀
  simp_all [bodyPostS, results, Tryz.results37]
  exact HT.out
set_option maxHeartbeats 4000000

attribute [local go_sem] Oper.semAt_some

theorem results_dec (tmps : Array Value) (w : World) (x y z : Nat) (cs : Array Value) (a c : Int) (hx : tmps.getD 4 undef = .pointer (some ⟨x, 0, none⟩)) (hy : tmps.getD 5 undef = .pointer (some ⟨y, 0, none⟩)) (hz : tmps.getD 6 undef = .pointer (some ⟨z, 0, none⟩)) (rx : w.heap[x]? = some (.cells cs 25 (0, 0))) (hs : cs.size = 5)
    (ry : w.cell? ⟨y, 0, none⟩ = some (.int .i64 a)) (rz : w.cell? ⟨z, 0, none⟩ = some (.int .i64 c)) : (results Tryz.f18 tmps).run Tryz.prog w = .ok (.tuple #[.agg cs, .int .i64 a, .int .i64 c]) w := by
  have hx' : tmps[4]?.getD undef = .pointer (some ⟨x, 0, none⟩) := by simpa using hx
  have hy' : tmps[5]?.getD undef = .pointer (some ⟨y, 0, none⟩) := by simpa using hy
  have hz' : tmps[6]?.getD undef = .pointer (some ⟨z, 0, none⟩) := by simpa using hz
  have h1 := run_loadVar_row (P := Tryz.prog) w x 25 25 cs (0, 0) _ rx Tryz.underlying25 rfl (by rw [hs]; as_aux_lemma => kernel_rfl)
  have h2 : (loadVar 3 ⟨y, 0, none⟩).run Tryz.prog w = .ok (.int .i64 a) w := by simp [go_sem, ry]
  have h3 : (loadVar 29 ⟨z, 0, none⟩).run Tryz.prog w = .ok (.int .i64 c) w := by simp [go_sem, rz]
  simp [results, Tryz.results18, hx', hy', hz', asAddr, h1, h2, h3]
def DecTo (w : World) (B : List UInt8) (at_ : Int) (e : Ending) (w' : World) : Prop :=
  ∃ s F, e = .returned (.tuple #[.agg #[.int .i64 (decS B at_).1.kind, .int .u64 (decS B at_).1.num, .string (decS B at_).1.text, s, .int .i64 (decS B at_).1.elem], .int .i64 (decS B at_).2.1, .int .i64 (decS B at_).2.2]) ∧ VO w' w.heap.size (decS B at_).1 s F ∧ Below w.heap.size w w'
theorem ansS_fault {n a : Nat} (y : Er) : ansS n (a : Nat) (.error y) = (zeroV, erP n (-1) (a : Nat) a y, erC (-1) y) := by
  cases y with
  | short => rfl
  | own e => rfl
  | pl r e => show (zeroV, (a : Int) + r, e.1) = (zeroV, ((a + r : Nat) : Int), e.1); rw [Int.natCast_add]
theorem zero_wf : zeroV.Wf := ⟨by constructor <;> decide, by constructor <;> decide, by decide, by constructor <;> decide⟩
set_option maxHeartbeats 4000000

attribute [local go_sem] Oper.semAt_some

theorem results_whole (tmps : Array Value) (w : World) (x : Nat) (cs : Array Value) (hx : tmps.getD 2 undef = .pointer (some ⟨x, 0, none⟩)) (rx : w.heap[x]? = some (.cells cs 25 (0, 0))) (hs : cs.size = 5) :
    (results Tryz.f24 tmps).run Tryz.prog w = .ok (.tuple #[.agg cs, tmps.getD 3 undef, tmps.getD 4 undef]) w := by
  have hx' : tmps[2]?.getD undef = .pointer (some ⟨x, 0, none⟩) := by simpa using hx
  have h1 := run_loadVar_row (P := Tryz.prog) w x 25 25 cs (0, 0) _ rx Tryz.underlying25 rfl (by rw [hs]; as_aux_lemma => kernel_rfl)
  simp [results, Tryz.results24, hx', asAddr, h1]
def WholeTo (w : World) (B : List UInt8) (e : Ending) (w' : World) : Prop :=
  ∃ s F, e = .returned (.tuple #[.agg #[.int .i64 (wholeS B).1.kind, .int .u64 (wholeS B).1.num, .string (wholeS B).1.text, s, .int .i64 (wholeS B).1.elem], .int .i64 (wholeS B).2.1, .int .i64 (wholeS B).2.2]) ∧ VO w' w.heap.size (wholeS B).1 s F ∧ Below w.heap.size w w'
set_option maxHeartbeats 4000000

def awA : V := .mk 1 1 ⟨#[]⟩ [] 0
def awB : V := .mk 4 1 ⟨#[]⟩ [] 0
def aw : V := .mk 21 0 ⟨#[]⟩ [awA, awB] 0
theorem aw_pre : aw.pre 1 = [(1, aw), (2, awA), (2, awB)] := by simp [aw, awA, awB, V.pre, pres]
theorem aw_check : firstBad (aw.pre 1) = 0 := by
  rw [aw_pre]
  simp [firstBad, aloneC, aw, awA, awB, V.kind, V.num, V.text, V.list, V.elem, extraV, hasN, hasT, hasP, numOk, textOk]
theorem aw_put : putV aw = [0xc0, 4, 2, 0x41, 0x52, 1] := by kernel_rfl
theorem aw_enc : encS aw = ([0xc0, 4, 2, 0x41, 0x52, 1], 0) := by
  unfold encS
  rw [aw_check, if_neg (by decide), aw_put, if_neg (by decide)]
theorem aw_dec : decS [0x40, 0x56, 1] 1 = (.mk 1 1 ⟨#[]⟩ [] 0, 3, 0) := by kernel_rfl
theorem aw_dec2 : decS [0x40, 0x40] 0 = (zeroV, 1, 0) := by kernel_rfl
theorem aw_whole : wholeS [0x40, 0x40] = (zeroV, 1, 35) := by
  unfold wholeS
  rw [aw_dec2, if_neg (by decide), if_pos (by decide)]
def awC : V := .mk 4 255 ⟨#[]⟩ [] 0
theorem awC_check : firstBad (awC.pre 1) = 0 := by
  simp [V.pre, pres, firstBad, aloneC, awC, V.kind, V.num, V.text, V.list, V.elem, extraV, hasN, hasT, hasP, numOk, textOk]
theorem awC_put : putV awC = [0x52, 0xff] := by kernel_rfl
theorem awC_enc : encS awC = ([0x52, 0xff], 0) := by
  unfold encS
  rw [awC_check, if_neg (by decide), awC_put, if_neg (by decide)]
theorem aw_dec3 : decS [0x52, 0xff] 0 = (awC, 2, 0) := by kernel_rfl
theorem aw_dec4 : decS [0x70, 0, 0, 0, 0xff] 0 = (awC, 5, 0) := by kernel_rfl
theorem aw_short : shortestS [0x52, 0xff] = true := by
  have hw : wholeS [0x52, 0xff] = (awC, 0, 0) := by unfold wholeS; rw [aw_dec3, if_neg (by decide), if_neg (by decide)]
  unfold shortestS
  rw [hw, if_neg (by decide)]
  simp only
  rw [awC_enc]
  decide
theorem aw_long : shortestS [0x70, 0, 0, 0, 0xff] = false := by
  have hw : wholeS [0x70, 0, 0, 0, 0xff] = (awC, 0, 0) := by unfold wholeS; rw [aw_dec4, if_neg (by decide), if_neg (by decide)]
  unfold shortestS
  rw [hw, if_neg (by decide)]
  simp only
  rw [awC_enc]
  decide
set_option maxHeartbeats 4000000

attribute [local go_sem] Oper.semAt_some

theorem own_litL (w : World) (B : Nat) (l : List UInt8) (hl : l.length ≤ maxLen) (hB : B ≤ w.heap.size) (cs : Array Value) (hc : cs = (l.map byteV).toArray) (n : Nat) (hn : n = l.length) : OwnBytes (w.alloc (.cells cs 5)) B 5 (.slice (some ⟨w.heap.size, 0, none⟩) n n) l := by
  subst hc hn
  exact ⟨⟨by simp, .inr ⟨w.heap.size, l.length, _, rfl, hB, _root_.Go.heap_alloc_new w _, Nat.le_refl _, hl, by simp, by simp; exact List.take_of_length_le (by simp)⟩⟩⟩
theorem wpList_build2 {ops : Array Oper} {rest : List Oper} {o : Oper} {a : Act} {w : World} {Q : Exit → Act → World → Prop} (hg : o.guard = none) (x y : Operand) (ho : o.op = .buildSlice 23 2 #[(0, x), (1, y)]) (a0 a1 a2 a3 a4 b0 b1 b2 b3 b4 : Value)
    (hx : a.eval x = .agg #[a0, a1, a2, a3, a4]) (hy : a.eval y = .agg #[b0, b1, b2, b3, b4])
    (h : wpList Tryz.prog ops Q rest (a.put o.dst (.slice (some ⟨w.heap.size, 0, none⟩) 2 2)) (w.alloc (.cells #[a0, a1, a2, a3, a4, b0, b1, b2, b3, b4] 25))) : wpList Tryz.prog ops Q (o :: rest) a w :=
  wpList_plain hg fun _ hK => wp_build2 o.dst rfl x y ho a0 a1 a2 a3 a4 b0 b1 b2 b3 b4 hx hy (hK _ _ h)
theorem aw_wf : aw.Wf := ⟨by constructor <;> decide, by constructor <;> decide, by decide, by constructor <;> decide⟩
theorem awA_wf : awA.Wf := ⟨by constructor <;> decide, by constructor <;> decide, by decide, by constructor <;> decide⟩
theorem awB_wf : awB.Wf := ⟨by constructor <;> decide, by constructor <;> decide, by decide, by constructor <;> decide⟩
end Go.Proofs.YtnnnfhobbnjmfaaGreatDoor
