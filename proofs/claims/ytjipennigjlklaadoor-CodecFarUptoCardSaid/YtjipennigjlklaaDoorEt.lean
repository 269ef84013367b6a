/-
  The codec's Decode. Conditions: the bytes lie in memory; the tables stand.
-/
import Derived.Test.YtjipennigjlklaaDoorMg43
namespace Go.Proofs.YtjipennigjlklaaDoor
open Go.RowKit
set_option linter.unusedVariables false
set_option maxHeartbeats 4000000

attribute [local go_sem] Oper.semAt_some

theorem results_dec (tmps : Array Value) (w : World) (x y z : Nat) (cs : Array Value) (a c : Int) (hx : tmps.getD 4 undef = .pointer (some ⟨x, 0, none⟩)) (hy : tmps.getD 5 undef = .pointer (some ⟨y, 0, none⟩)) (hz : tmps.getD 6 undef = .pointer (some ⟨z, 0, none⟩)) (rx : w.heap[x]? = some (.cells cs 25 (0, 0))) (hs : cs.size = 5)
    (ry : w.cell? ⟨y, 0, none⟩ = some (.int .i64 a)) (rz : w.cell? ⟨z, 0, none⟩ = some (.int .i64 c)) : (results Tryd.f11 tmps).run Tryd.prog w = .ok (.tuple #[.agg cs, .int .i64 a, .int .i64 c]) w := by
  have hx' : tmps[4]?.getD undef = .pointer (some ⟨x, 0, none⟩) := by simpa using hx
  have hy' : tmps[5]?.getD undef = .pointer (some ⟨y, 0, none⟩) := by simpa using hy
  have hz' : tmps[6]?.getD undef = .pointer (some ⟨z, 0, none⟩) := by simpa using hz
  have h1 := run_loadVar_row (P := Tryd.prog) w x 25 25 cs (0, 0) _ rx Tryd.underlying25 rfl (by rw [hs]; as_aux_lemma => kernel_rfl)
  have h2 : (loadVar 3 ⟨y, 0, none⟩).run Tryd.prog w = .ok (.int .i64 a) w := by simp [go_sem, ry]
  have h3 : (loadVar 29 ⟨z, 0, none⟩).run Tryd.prog w = .ok (.int .i64 c) w := by simp [go_sem, rz]
  simp [results, Tryd.results11, hx', hy', hz', asAddr, h1, h2, h3]
def DecTo (w : World) (B : List UInt8) (at_ : Int) (e : Ending) (w' : World) : Prop :=
  ∃ s F, e = .returned (.tuple #[.agg #[.int .i64 (decS B at_).1.kind, .int .u64 (decS B at_).1.num, .string (decS B at_).1.text, s, .int .i64 (decS B at_).1.elem], .int .i64 (decS B at_).2.1, .int .i64 (decS B at_).2.2]) ∧ VO w' w.heap.size (decS B at_).1 s F ∧ Below w.heap.size w w'
theorem ansS_fault {n a : Nat} (y : Er) : ansS n (a : Nat) (.error y) = (zeroV, erP n (-1) (a : Nat) a y, erC (-1) y) := by
  cases y with
  | short => rfl
  | own e => rfl
  | pl r e => show (zeroV, (a : Int) + r, e.1) = (zeroV, ((a + r : Nat) : Int), e.1); rw [Int.natCast_add]
theorem zero_wf : zeroV.Wf := ⟨by constructor <;> decide, by constructor <;> decide, by decide, by constructor <;> decide⟩
set_option maxRecDepth 20000 in
theorem decode_neg (w : World) (p : Option Addr) (n cp : Nat) (B : List UInt8) (hB : BytesIn w p n cp B) (at_ : Int) (hat : at_ < 0) : Calls Tryd.prog 11 #[.slice p n cp, .int .i64 at_] w fun e w' => DecTo w B at_ e w' := by
  have hdec : decS B at_ = (zeroV, 0, 1) := decS_out (by have := hB.len; omega)
  have HD := Lib.hid hdec
  have t1 : decide (at_ < 0) = true := by simp; omega
  clear hdec hB
  go_enter Tryd.func11, Tryd.ntmps11
  go_upto_region 1 with fail
  obtain ⟨W0, hW0⟩ : ∃ W0, W0 = (((w.alloc (.cells zR 25)).alloc (.cells #[.int .i64 0] 3)).alloc (.cells #[.int .i64 0] 29)) := ⟨_, rfl⟩
  have h5 := three_allocs w _ _ _ W0 hW0
  rw [← hW0]
  clear hW0
  obtain ⟨b, hb⟩ : ∃ b, w.heap.size = b := ⟨_, rfl⟩
  rw [hb] at h5
  simp only [hb, Nat.add_assoc, Nat.reduceAdd]
  obtain ⟨f0, f1, f2, fz, hb0⟩ := h5
  have hb0w : Below w.heap.size w W0 := by rw [hb]; exact hb0
  have H0 := Lib.hid (And.intro hb (And.intro hb0w (And.intro fz (And.intro f0 (And.intro f1 f2)))))
  clear f0 f1 f2 fz hb0 hb0w hb
  have c1 : W0.cell? ⟨b + 1, 0, none⟩ = some (.int .i64 0) := (cell_of_row _ _ 0 _ _ _ H0.out.2.2.2.2.1).trans rfl
  have z1 : W0.frozen? ⟨b + 1, 0, none⟩ = false := by simp [World.frozen?, H0.out.2.2.2.2.1]
  have rx := setRow_heap W0 b _ zR _ _ H0.out.2.2.2.1
  have kx : KeepF (fun g => g = b) W0 (W0.setRow b zR) := ⟨rfl, rfl, rfl, by simp, fun j hj hne => setRow_other W0 b j _ hne⟩
  have r1 := (kx.block (b + 1) (gl H0.out.2.2.2.2.1) (by omega)).trans H0.out.2.2.2.2.1
  have r2 := (kx.block (b + 2) (gl H0.out.2.2.2.2.2) (by omega)).trans H0.out.2.2.2.2.2
  have HK := Lib.hid (And.intro kx (And.intro rx (And.intro r1 r2)))
  have c1' : (W0.setRow b zR).cell? ⟨b + 1, 0, none⟩ = some (.int .i64 0) := (cell_of_row _ _ 0 _ _ _ r1).trans rfl
  have z1' : (W0.setRow b zR).frozen? ⟨b + 1, 0, none⟩ = false := by simp [World.frozen?, r1]
  have c2' : (W0.setRow b zR).cell? ⟨b + 2, 0, none⟩ = some (.int .i64 0) := (cell_of_row _ _ 0 _ _ _ r2).trans rfl
  have z2' : (W0.setRow b zR).frozen? ⟨b + 2, 0, none⟩ = false := by simp [World.frozen?, r2]
  clear c1 z1 rx kx r1 r2
  obtain ⟨w2, hw2⟩ : ∃ w2, W0.setRow b zR = w2 := ⟨_, rfl⟩
  rw [hw2] at c1' z1' c2' z2'
  have HK := Lib.hid (hw2 ▸ HK.out)
  go_wp2_with (refine wpList_store_rowTo rfl 25 (.tmp 4) (.tmp 16) rfl rfl b zR rfl rfl 25 zR H0.out.2.2.2.1 (by as_aux_lemma => kernel_rfl) (by as_aux_lemma => kernel_rfl) (by simp [Value.oneCell']) ?_; rw [hw2])
  have kA : KeepF (fun g => g = b + 1) w2 (w2.setCell ⟨b + 1, 0, none⟩ (.int .i64 0)) := ⟨rfl, rfl, rfl, by simp, fun j hj hne => set_farV hne⟩
  have kB : KeepF (fun g => g = b + 2) (w2.setCell ⟨b + 1, 0, none⟩ (.int .i64 0)) ((w2.setCell ⟨b + 1, 0, none⟩ (.int .i64 0)).setCell ⟨b + 2, 0, none⟩ (.int .i64 1)) := ⟨rfl, rfl, rfl, by simp, fun j hj hne => set_farV hne⟩
  have rA := heap_setCell_same w2 (b + 1) 0 _ _ (.int .i64 0) HK.out.2.2.1
  have rA2 := (kA.block (b + 2) (gl HK.out.2.2.2) (by omega)).trans HK.out.2.2.2
  have rB := heap_setCell_same (w2.setCell ⟨b + 1, 0, none⟩ (.int .i64 0)) (b + 2) 0 _ _ (.int .i64 1) rA2
  have rX := (kB.block b (by have := (gl HK.out.2.1); have := kA.size; omega) (by omega)).trans ((kA.block b (gl HK.out.2.1) (by omega)).trans HK.out.2.1)
  have rY := (kB.block (b + 1) (gl rA) (by omega)).trans rA
  refine bodyPost_ret (results_dec _ _ b (b + 1) (b + 2) zR 0 1 rfl rfl rfl rX rfl ((cell_of_row _ _ 0 _ _ _ rY).trans rfl) ((cell_of_row _ _ 0 _ _ _ rB).trans rfl)) rfl ?_
  have hkk := (HK.out.1.wide (fun j h => Or.inl (b := j = b + 1 ∨ j = b + 2) h)).trans ((kA.wide (fun j h => .inr (.inl h))).trans (kB.wide (fun j h => .inr (.inr h))))
  have hbw := KeepF.below H0.out.2.1 hkk (fun j h => by have := H0.out.1; omega) H0.out.2.1.size
  unfold DecTo
  rw [HD.out]
  exact ⟨_, fun _ => False, rfl, VO.nil _ _ zero_wf rfl, hbw⟩
set_option maxRecDepth 20000 in
theorem decode_far (w : World) (p : Option Addr) (n cp : Nat) (B : List UInt8) (hB : BytesIn w p n cp B) (at_ : Int) (hat0 : ¬ at_ < 0) (hat : (n : Int) < at_) : Calls Tryd.prog 11 #[.slice p n cp, .int .i64 at_] w fun e w' => DecTo w B at_ e w' := by
  have hdec : decS B at_ = (zeroV, 0, 1) := decS_out (by have := hB.len; omega)
  have HD := Lib.hid hdec
  have t1 : decide (at_ < 0) = false := by simp; omega
  have t2 : decide ((n : Int) < at_) = true := by simp; omega
  clear hdec hB
  go_enter Tryd.func11, Tryd.ntmps11
  go_upto_region 1 with fail
  obtain ⟨W0, hW0⟩ : ∃ W0, W0 = (((w.alloc (.cells zR 25)).alloc (.cells #[.int .i64 0] 3)).alloc (.cells #[.int .i64 0] 29)) := ⟨_, rfl⟩
  have h5 := three_allocs w _ _ _ W0 hW0
  rw [← hW0]
  clear hW0
  obtain ⟨b, hb⟩ : ∃ b, w.heap.size = b := ⟨_, rfl⟩
  rw [hb] at h5
  simp only [hb, Nat.add_assoc, Nat.reduceAdd]
  obtain ⟨f0, f1, f2, fz, hb0⟩ := h5
  have hb0w : Below w.heap.size w W0 := by rw [hb]; exact hb0
  have H0 := Lib.hid (And.intro hb (And.intro hb0w (And.intro fz (And.intro f0 (And.intro f1 f2)))))
  clear f0 f1 f2 fz hb0 hb0w hb
  have c1 : W0.cell? ⟨b + 1, 0, none⟩ = some (.int .i64 0) := (cell_of_row _ _ 0 _ _ _ H0.out.2.2.2.2.1).trans rfl
  have z1 : W0.frozen? ⟨b + 1, 0, none⟩ = false := by simp [World.frozen?, H0.out.2.2.2.2.1]
  have rx := setRow_heap W0 b _ zR _ _ H0.out.2.2.2.1
  have kx : KeepF (fun g => g = b) W0 (W0.setRow b zR) := ⟨rfl, rfl, rfl, by simp, fun j hj hne => setRow_other W0 b j _ hne⟩
  have r1 := (kx.block (b + 1) (gl H0.out.2.2.2.2.1) (by omega)).trans H0.out.2.2.2.2.1
  have r2 := (kx.block (b + 2) (gl H0.out.2.2.2.2.2) (by omega)).trans H0.out.2.2.2.2.2
  have HK := Lib.hid (And.intro kx (And.intro rx (And.intro r1 r2)))
  have c1' : (W0.setRow b zR).cell? ⟨b + 1, 0, none⟩ = some (.int .i64 0) := (cell_of_row _ _ 0 _ _ _ r1).trans rfl
  have z1' : (W0.setRow b zR).frozen? ⟨b + 1, 0, none⟩ = false := by simp [World.frozen?, r1]
  have c2' : (W0.setRow b zR).cell? ⟨b + 2, 0, none⟩ = some (.int .i64 0) := (cell_of_row _ _ 0 _ _ _ r2).trans rfl
  have z2' : (W0.setRow b zR).frozen? ⟨b + 2, 0, none⟩ = false := by simp [World.frozen?, r2]
  clear c1 z1 rx kx r1 r2
  obtain ⟨w2, hw2⟩ : ∃ w2, W0.setRow b zR = w2 := ⟨_, rfl⟩
  rw [hw2] at c1' z1' c2' z2'
  have HK := Lib.hid (hw2 ▸ HK.out)
  go_wp2_with (refine wpList_store_rowTo rfl 25 (.tmp 4) (.tmp 16) rfl rfl b zR rfl rfl 25 zR H0.out.2.2.2.1 (by as_aux_lemma => kernel_rfl) (by as_aux_lemma => kernel_rfl) (by simp [Value.oneCell']) ?_; rw [hw2])
  have kA : KeepF (fun g => g = b + 1) w2 (w2.setCell ⟨b + 1, 0, none⟩ (.int .i64 0)) := ⟨rfl, rfl, rfl, by simp, fun j hj hne => set_farV hne⟩
  have kB : KeepF (fun g => g = b + 2) (w2.setCell ⟨b + 1, 0, none⟩ (.int .i64 0)) ((w2.setCell ⟨b + 1, 0, none⟩ (.int .i64 0)).setCell ⟨b + 2, 0, none⟩ (.int .i64 1)) := ⟨rfl, rfl, rfl, by simp, fun j hj hne => set_farV hne⟩
  have rA := heap_setCell_same w2 (b + 1) 0 _ _ (.int .i64 0) HK.out.2.2.1
  have rA2 := (kA.block (b + 2) (gl HK.out.2.2.2) (by omega)).trans HK.out.2.2.2
  have rB := heap_setCell_same (w2.setCell ⟨b + 1, 0, none⟩ (.int .i64 0)) (b + 2) 0 _ _ (.int .i64 1) rA2
  have rX := (kB.block b (by have := (gl HK.out.2.1); have := kA.size; omega) (by omega)).trans ((kA.block b (gl HK.out.2.1) (by omega)).trans HK.out.2.1)
  have rY := (kB.block (b + 1) (gl rA) (by omega)).trans rA
  refine bodyPost_ret (results_dec _ _ b (b + 1) (b + 2) zR 0 1 rfl rfl rfl rX rfl ((cell_of_row _ _ 0 _ _ _ rY).trans rfl) ((cell_of_row _ _ 0 _ _ _ rB).trans rfl)) rfl ?_
  have hkk := (HK.out.1.wide (fun j h => Or.inl (b := j = b + 1 ∨ j = b + 2) h)).trans ((kA.wide (fun j h => .inr (.inl h))).trans (kB.wide (fun j h => .inr (.inr h))))
  have hbw := KeepF.below H0.out.2.1 hkk (fun j h => by have := H0.out.1; omega) H0.out.2.1.size
  unfold DecTo
  rw [HD.out]
  exact ⟨_, fun _ => False, rfl, VO.nil _ _ zero_wf rfl, hbw⟩
set_option maxRecDepth 20000 in
theorem decode_in (w : World) (p : Option Addr) (n cp : Nat) (B : List UInt8) (hB : BytesIn w p n cp B) (hT : Tabs w) (hn : n ≤ 140737488355328) (a : Nat) (hat : a ≤ n) : Calls Tryd.prog 11 #[.slice p n cp, .int .i64 (a : Nat)] w fun e w' => DecTo w B (a : Nat) e w' := by
  have hmf : ∀ (fn : Fn) (first cap : Array Value) (w : World), (Instr.makeFunc fn first cap).run Tryd.prog w = .ok (.func fn first cap) w := fun _ _ _ _ => rfl
  have t1 : decide ((a : Int) < 0) = false := by simp
  have t2 : decide ((n : Int) < (a : Nat)) = false := by simp; omega
  have t3 : decide (n < a) = false := by simp; omega
  have HB := Lib.hid (And.intro hB (And.intro hT (And.intro hn hat)))
  clear hB hT hn hat
  go_enter_defers Tryd.func11, Tryd.ntmps11
  go_upto_region 1 with fail
  obtain ⟨W0, hW0⟩ : ∃ W0, W0 = (((w.alloc (.cells zR 25)).alloc (.cells #[.int .i64 0] 3)).alloc (.cells #[.int .i64 0] 29)) := ⟨_, rfl⟩
  have h5 := three_allocs w _ _ _ W0 hW0
  rw [← hW0]
  clear hW0
  obtain ⟨b, hb⟩ : ∃ b, w.heap.size = b := ⟨_, rfl⟩
  rw [hb] at h5
  simp only [hb, Nat.add_assoc, Nat.reduceAdd]
  obtain ⟨f0, f1, f2, fz, hb0⟩ := h5
  have hb0w : Below w.heap.size w W0 := by rw [hb]; exact hb0
  have H0 := Lib.hid (And.intro hb (And.intro hb0w (And.intro fz (And.intro f0 (And.intro f1 f2)))))
  clear f0 f1 f2 fz hb0 hb0w hb
  go_upto_region 4 with fail
  have hb1 : Below W0.heap.size W0 (W0.alloc (.cells #[.slice p n cp, .int .i64 (a : Nat), .int .i64 (n : Nat), .int .i64 (-1)] 49)) := (Below.refl _ _).alloc (Nat.le_refl _) _
  have or1 := _root_.Go.heap_alloc_new W0 (.cells #[.slice p n cp, .int .i64 (a : Nat), .int .i64 (n : Nat), .int .i64 (-1)] 49)
  generalize W0.alloc (.cells #[.slice p n cp, .int .i64 (a : Nat), .int .i64 (n : Nat), .int .i64 (-1)] 49) = w1 at *
  have hz3 := H0.out.2.2.1
  rw [hz3] at or1 ⊢
  have hbw1 := H0.out.2.1.trans (hb1.mono H0.out.2.1.size)
  have HR1 := Lib.hid (show RdIn w1 (b + 3) p n cp a n (-1) B from ⟨or1, ⟨w, HB.out.1, hbw1, by have := H0.out.1; omega, HB.out.2.1⟩, HB.out.2.2.2, Nat.le_refl _, HB.out.2.2.1⟩)
  have q0 := (hb1.block b (by omega)).trans H0.out.2.2.2.1
  have q1 := (hb1.block (b + 1) (by omega)).trans H0.out.2.2.2.2.1
  have q2 := (hb1.block (b + 2) (by omega)).trans H0.out.2.2.2.2.2
  have H1 := Lib.hid (And.intro hbw1 (And.intro q0 (And.intro q1 q2)))
  clear hb1 or1 hz3 hbw1 q0 q1 q2 t1 t2 t3
  go_wp2_with fail
  have hsf : sOf B a n = B.drop a := by unfold sOf; rw [List.take_of_length_le (by rw [List.length_drop, HB.out.1.len]; exact Nat.le_refl _)]
  have hdec : decS B (a : Nat) = ansS B.length (a : Nat) (rdV 32 (B.drop a)) := decS_in (by rw [HB.out.1.len]; exact HB.out.2.2.2)
  rw [← hsf, HB.out.1.len] at hdec
  have HD := Lib.hid hdec
  clear hsf hdec
  refine (value_any w1 (b + 3) p n cp a n (-1) (a : Nat) B HR1.out).mono ?_
  rintro e w2 hto
  rcases hx : rdV 32 (sOf B a n) with y | ⟨v, k⟩
  · rw [hx] at hto
    obtain ⟨rfl, hk⟩ := hto
    have k1 := (hk.block b (gl H1.out.2.1) (by omega)).trans H1.out.2.1
    have k2 := (hk.block (b + 1) (gl H1.out.2.2.1) (by omega)).trans H1.out.2.2.1
    have k3 := (hk.block (b + 2) (gl H1.out.2.2.2) (by omega)).trans H1.out.2.2.2
    have HKK := Lib.hid hk
    unfold faultE
    dsimp only
    go_wp2_with fail
    refine leaves_cons (f := 20) (args := #[.pointer (some ⟨b, 0, none⟩), .pointer (some ⟨b + 1, 0, none⟩), .pointer (some ⟨b + 2, 0, none⟩)]) (by simp) (by simp [go_sem]) ?_
    refine (catch_fault b (b + 1) (b + 2) _ _ _ 0 0 ⟨by omega, by omega, by omega⟩ w2 k1 rfl k2 k3).mono ?_
    rintro e u' w3 ⟨rfl, rfl, ht⟩
    show Leaves Tryd.prog Tryd.f11 _ _ [] .returning w3
    refine ⟨_, results_dec _ _ b (b + 1) (b + 2) zR _ _ rfl rfl rfl ht.rx rfl ht.ry ht.rz, ?_⟩
    have hkk := (HKK.out.wide (fun j h => Or.inl (b := j = b ∨ j = b + 1 ∨ j = b + 2) h)).trans (ht.keep.wide (fun j h => .inr h))
    have hbw := KeepF.below H1.out.1 hkk (fun j h => by have := H0.out.1; omega) H1.out.1.size
    unfold DecTo
    rw [HD.out, hx, ansS_fault]
    exact ⟨_, fun _ => False, rfl, VO.nil _ _ zero_wf rfl, hbw⟩
  rw [hx] at hto
  obtain ⟨s, F, rfl, hvo, hmv⟩ := hto
  obtain ⟨ps, cs, hss, _, _⟩ := hvo.slice
  subst hss
  have hkl := rdV_le 32 _ _ _ hx
  rw [sOf_len (by rw [HB.out.1.len]; exact Nat.le_refl _)] at hkl
  obtain ⟨a2, ha2⟩ : ∃ a2, a + k = a2 := ⟨_, rfl⟩
  rw [ha2] at hmv
  have hle2 : a2 ≤ n := by have := HB.out.2.2.2; omega
  have k1 := (hmv.keep.block b (gl H1.out.2.1) (by omega)).trans H1.out.2.1
  have k2 := (hmv.keep.block (b + 1) (gl H1.out.2.2.1) (by omega)).trans H1.out.2.2.1
  have k3 := (hmv.keep.block (b + 2) (gl H1.out.2.2.2) (by omega)).trans H1.out.2.2.2
  have H2 := Lib.hid (And.intro k1 (And.intro k2 (And.intro k3 (And.intro hvo hmv))))
  have HXX := Lib.hid (And.intro hx (And.intro ha2 hle2))
  clear hvo hmv hx hkl k1 k2 k3
  go_upto_region 6 with (refine wpList_store_rowTo rfl 25 (.tmp 4) (.tmp 25) rfl rfl b #[.int .i64 v.kind, .int .u64 v.num, .string v.text, .slice ps v.list.length cs, .int .i64 v.elem] rfl rfl 25 zR H2.out.1 (by as_aux_lemma => kernel_rfl) (by as_aux_lemma => kernel_rfl) (by simp [Value.oneCell']) ?_)
  have kx : KeepF (fun g => g = b) w2 (w2.setRow b #[.int .i64 v.kind, .int .u64 v.num, .string v.text, .slice ps v.list.length cs, .int .i64 v.elem]) := ⟨rfl, rfl, rfl, by simp, fun j hj hne => setRow_other w2 b j _ hne⟩
  have rx := setRow_heap w2 b _ #[.int .i64 v.kind, .int .u64 v.num, .string v.text, .slice ps v.list.length cs, .int .i64 v.elem] _ _ H2.out.1
  change Code.wp _ _ _ _ (w2.setRow b #[.int .i64 v.kind, .int .u64 v.num, .string v.text, .slice ps v.list.length cs, .int .i64 v.elem])
  generalize w2.setRow b #[.int .i64 v.kind, .int .u64 v.num, .string v.text, .slice ps v.list.length cs, .int .i64 v.elem] = w3 at *
  have r1 := (kx.block (b + 1) (gl H2.out.2.1) (by omega)).trans H2.out.2.1
  have r2 := (kx.block (b + 2) (gl H2.out.2.2.1) (by omega)).trans H2.out.2.2.1
  have rr := (kx.block (b + 3) (gl H2.out.2.2.2.2.at_) (by omega)).trans H2.out.2.2.2.2.at_
  have H3 := Lib.hid (And.intro kx (And.intro rx (And.intro r1 (And.intro r2 rr))))
  have cr : w3.cell? ⟨b + 3, 1, none⟩ = some (.int .i64 (a2 : Nat)) := (cell_of_row _ _ 1 _ _ _ rr).trans rfl
  have hsub : wrap64 ((a2 : Int) - (a : Nat)) = (k : Nat) := by have h1 := HXX.out.2.1; have h2 := HB.out.2.2.1; have h3 := hle2; unfold wrap64; omega
  have hsub2 : IntKind.i64.wrap ((a2 : Int) - (a : Nat)) = (k : Nat) := by have h1 := HXX.out.2.1; have h2 := HB.out.2.2.1; have h3 := hle2; rw [IntWalk.i64_in _ (by omega)]; omega
  clear kx rx r1 r2 rr hle2 ha2
  by_cases hbig : 1048576 < k
  · have d1 : decide (1048576 < k) = true := decide_eq_true hbig
    have d2 : decide ((1048576 : Int) < (k : Nat)) = true := decide_eq_true (by omega)
    have HBIG := Lib.hid hbig
    clear hbig
    go_wp2_with fail
    refine (wrong_any _ _ _).mono ?_
    rintro e w4 ⟨rfl, rfl⟩
    unfold faultE
    dsimp only
    go_wp2_with fail
    refine leaves_cons (f := 20) (args := #[.pointer (some ⟨b, 0, none⟩), .pointer (some ⟨b + 1, 0, none⟩), .pointer (some ⟨b + 2, 0, none⟩)]) (by simp) (by simp [go_sem]) ?_
    refine (catch_fault b (b + 1) (b + 2) _ _ _ 0 0 ⟨by omega, by omega, by omega⟩ w3 H3.out.2.1 rfl H3.out.2.2.1 H3.out.2.2.2.1).mono ?_
    rintro e u' w5 ⟨rfl, rfl, ht⟩
    show Leaves Tryd.prog Tryd.f11 _ _ [] .returning w5
    refine ⟨_, results_dec _ _ b (b + 1) (b + 2) zR _ _ rfl rfl rfl ht.rx rfl ht.ry ht.rz, ?_⟩
    have hkk := (H2.out.2.2.2.2.keep.wide (fun j h => Or.inl (b := j = b ∨ j = b + 1 ∨ j = b + 2) h)).trans ((H3.out.1.wide (fun j h => .inr (.inl h))).trans (ht.keep.wide (fun j h => .inr h)))
    have hbw := KeepF.below H1.out.1 hkk (fun j h => by have := H0.out.1; omega) H1.out.1.size
    have he : ansS n (a : Nat) (.ok (v, k)) = (zeroV, ((a : Nat) : Int), 2) := if_pos HBIG.out
    unfold DecTo
    rw [HD.out, HXX.out.1, he]
    exact ⟨_, fun _ => False, rfl, VO.nil _ _ zero_wf rfl, hbw⟩
  · have d1 : decide (1048576 < k) = false := decide_eq_false hbig
    have d2 : decide ((1048576 : Int) < (k : Nat)) = false := decide_eq_false (by omega)
    have HBIG := Lib.hid hbig
    clear hbig
    go_upto_region 8 with fail
    clear cr hsub hsub2 d1 d2
    refine wp_hide (fun Q9 HQ9 HP9 => ?_)
    refine wp_region_heldN (fun V => V.heap[b]? = some (.cells #[.int .i64 v.kind, .int .u64 v.num, .string v.text, .slice ps v.list.length cs, .int .i64 v.elem] 25 (0, 0)) ∧ V.heap[b + 3]? = some (.cells #[.slice p n cp, .int .i64 (a2 : Nat), .int .i64 (n : Nat), .int .i64 (-1)] 49 (0, 0))) 8 rfl (by kernel_rfl) ?_
    have hS : w3.drew.heap[b]? = some (.cells #[.int .i64 v.kind, .int .u64 v.num, .string v.text, .slice ps v.list.length cs, .int .i64 v.elem] 25 (0, 0)) ∧ w3.drew.heap[b + 3]? = some (.cells #[.slice p n cp, .int .i64 (a2 : Nat), .int .i64 (n : Nat), .int .i64 (-1)] 49 (0, 0)) := ⟨H3.out.2.1, H3.out.2.2.2.2⟩
    refine tkD (i := 0) (v := .agg #[.int .i64 v.kind, .int .u64 v.num, .string v.text, .slice ps v.list.length cs, .int .i64 v.elem]) (some 35) rfl rfl (by kernel_rfl) (fun c a w h => (HP9.out _ _ _ h).elim) (yieldsIf_load_row 25 (.tmp 4) rfl (by rfl) b rfl 25 _ (0, 0) _ (fun V h => h.1) Tryd.underlying25 rfl (by as_aux_lemma => kernel_rfl)) hS ?_
    try simp only [Act.put, sA, sB, sC]
    refine tkD (i := 1) (v := .pointer (some ⟨b + 3, 0, none⟩)) (some 36) rfl rfl (by kernel_rfl) (fun c a w h => (HP9.out _ _ _ h).elim) (Or.inl ⟨by rfl, by rintro V ⟨h0, h1⟩; go_simp⟩) hS ?_
    try simp only [Act.put, sA, sB, sC]
    refine tkD (i := 2) (v := .pointer (some ⟨b + 3, 0, none⟩)) (some 37) rfl rfl (by kernel_rfl) (fun c a w h => (HP9.out _ _ _ h).elim) (Or.inl ⟨by rfl, by rintro V ⟨h0, h1⟩; go_simp⟩) hS ?_
    try simp only [Act.put, sA, sB, sC]
    refine tkD (i := 3) (v := .pointer (some ⟨b + 3, 1, none⟩)) (some 38) rfl rfl (by kernel_rfl) (fun c a w h => (HP9.out _ _ _ h).elim) (Or.inl ⟨by rfl, by rintro V ⟨h0, h1⟩; go_simp⟩) hS ?_
    try simp only [Act.put, sA, sB, sC]
    refine tkD (i := 4) (v := .int .i64 (a2 : Nat)) (some 39) rfl rfl (by kernel_rfl) (fun c a w h => (HP9.out _ _ _ h).elim) (Or.inl ⟨by rfl, by rintro V ⟨h0, h1⟩; have y1 := (cell_of_row V _ 1 _ _ _ h1).trans rfl; go_simp⟩) hS ?_
    try simp only [Act.put, sA, sB, sC]
    have k4 : KeepF (fun g => g = b) w3.drew (w3.drew.setRow b #[.int .i64 v.kind, .int .u64 v.num, .string v.text, .slice ps v.list.length cs, .int .i64 v.elem]) := ⟨rfl, rfl, rfl, by simp, fun j hj hne => setRow_other w3.drew b j _ hne⟩
    have rb4 := setRow_heap w3.drew b _ #[.int .i64 v.kind, .int .u64 v.num, .string v.text, .slice ps v.list.length cs, .int .i64 v.elem] _ _ hS.1
    have rr4 := (k4.block (b + 3) (gl hS.2) (by omega)).trans hS.2
    have ra4 := (k4.block (b + 1) (gl H3.out.2.2.1) (by omega)).trans H3.out.2.2.1
    have rc4 := (k4.block (b + 2) (gl H3.out.2.2.2.1) (by omega)).trans H3.out.2.2.2.1
    refine oneH (i := 5) (by kernel_rfl) ?_
    refine stepD (i := 5) rfl (by rfl) (fun K5 h5 => ?_)
    refine wp_store_rowN 25 (.tmp 4) (.tmp 35) rfl rfl b #[.int .i64 v.kind, .int .u64 v.num, .string v.text, .slice ps v.list.length cs, .int .i64 v.elem] rfl rfl 25 _ hS.1 (by as_aux_lemma => kernel_rfl) (by as_aux_lemma => kernel_rfl) (by simp [Value.oneCell']) ?_
    refine h5.out _ _ ⟨rb4, rr4⟩ ?_
    clear h5
    try simp only [Act.put, sA, sB, sC]
    generalize (w3.drew.setRow b #[.int .i64 v.kind, .int .u64 v.num, .string v.text, .slice ps v.list.length cs, .int .i64 v.elem]) = w4 at *
    have cw5 : w4.cell? ⟨b + 1, 0, none⟩ = some (.int .i64 0) := (cell_of_row _ _ 0 _ _ _ ra4).trans rfl
    have fw5 : w4.frozen? ⟨b + 1, 0, none⟩ = false := by simp [World.frozen?, ra4]
    have k5 : KeepF (fun g => g = b + 1) w4 (w4.setCell ⟨b + 1, 0, none⟩ (.int .i64 (a2 : Nat))) := ⟨rfl, rfl, rfl, by simp, fun j hj hne => set_farV hne⟩
    have ownw5 := heap_setCell_same w4 (b + 1) 0 _ _ (.int .i64 (a2 : Nat)) ra4
    have rb5 := (k5.block (b) (gl rb4) (by omega)).trans rb4
    have rr5 := (k5.block (b + 3) (gl rr4) (by omega)).trans rr4
    have rc5 := (k5.block (b + 2) (gl rc4) (by omega)).trans rc4
    refine oneH (i := 6) (by kernel_rfl) ?_
    refine stepD (i := 6) rfl (by rfl) (fun K5 h5 => ?_)
    go_simp
    change K5 _ (w4.setCell ⟨b + 1, 0, none⟩ (.int .i64 (a2 : Nat)))
    refine h5.out _ _ ⟨rb5, rr5⟩ ?_
    clear h5
    try simp only [Act.put, sA, sB, sC]
    generalize (w4.setCell ⟨b + 1, 0, none⟩ (.int .i64 (a2 : Nat))) = w5 at *
    have cw6 : w5.cell? ⟨b + 2, 0, none⟩ = some (.int .i64 0) := (cell_of_row _ _ 0 _ _ _ rc5).trans rfl
    have fw6 : w5.frozen? ⟨b + 2, 0, none⟩ = false := by simp [World.frozen?, rc5]
    have k6 : KeepF (fun g => g = b + 2) w5 (w5.setCell ⟨b + 2, 0, none⟩ (.int .i64 0)) := ⟨rfl, rfl, rfl, by simp, fun j hj hne => set_farV hne⟩
    have ownw6 := heap_setCell_same w5 (b + 2) 0 _ _ (.int .i64 0) rc5
    have rb6 := (k6.block (b) (gl rb5) (by omega)).trans rb5
    have rr6 := (k6.block (b + 3) (gl rr5) (by omega)).trans rr5
    have ra6 := (k6.block (b + 1) (gl ownw5) (by omega)).trans ownw5
    refine oneH (i := 7) (by kernel_rfl) ?_
    refine stepD (i := 7) rfl (by rfl) (fun K5 h5 => ?_)
    go_simp
    change K5 _ (w5.setCell ⟨b + 2, 0, none⟩ (.int .i64 0))
    refine h5.out _ _ ⟨rb6, rr6⟩ ?_
    clear h5
    try simp only [Act.put, sA, sB, sC]
    generalize (w5.setCell ⟨b + 2, 0, none⟩ (.int .i64 0)) = w6 at *
    refine wpAnyH_done (by kernel_rfl) ?_ _
    have HZZ := Lib.hid (show w6.heap[b]? = some (.cells #[.int .i64 v.kind, .int .u64 v.num, .string v.text, .slice ps v.list.length cs, .int .i64 v.elem] 25 (0, 0)) ∧ w6.cell? ⟨b + 1, 0, none⟩ = some (.int .i64 (a2 : Nat)) ∧ w6.cell? ⟨b + 2, 0, none⟩ = some (.int .i64 0) ∧ KeepF (fun j => j = b ∨ j = b + 1 ∨ j = b + 2) w3 w6 from ⟨rb6, (cell_of_row _ _ 0 _ _ _ ra6).trans rfl, (cell_of_row _ _ 0 _ _ _ ownw6).trans rfl, (KeepF.of_below (bdrew (Below.refl _ _))).trans ((k4.wide (fun j h => .inl h)).trans ((k5.wide (fun j h => .inr (.inl h))).trans (k6.wide (fun j h => .inr (.inr h)))))⟩)
    clear k4 k5 k6 rb4 rr4 ra4 rc4 rb5 rr5 rc5 rb6 rr6 ra6 cw5 cw6 fw5 fw6 ownw5 ownw6 hS
    refine HQ9.out _ _ ?_
    change Exit.then _ _ _ _ w6
    go_wp2_with fail
    refine leaves_cons (f := 20) (args := #[.pointer (some ⟨b, 0, none⟩), .pointer (some ⟨b + 1, 0, none⟩), .pointer (some ⟨b + 2, 0, none⟩)]) (by simp) (by simp [go_sem]) ?_
    refine (catch_idle _ _ _ w6).mono ?_
    rintro e u' w7 ⟨rfl, rfl, rfl⟩
    show Leaves Tryd.prog Tryd.f11 _ _ [] .returning w7
    refine ⟨_, results_dec _ _ b (b + 1) (b + 2) #[.int .i64 v.kind, .int .u64 v.num, .string v.text, .slice ps v.list.length cs, .int .i64 v.elem] (a2 : Nat) 0 rfl rfl rfl HZZ.out.1 rfl HZZ.out.2.1 HZZ.out.2.2.1, ?_⟩
    have hkk := (H2.out.2.2.2.2.keep.wide (fun j h => Or.inl (b := j = b ∨ j = b + 1 ∨ j = b + 2) h)).trans ((H3.out.1.wide (fun j h => .inr (.inl h))).trans (HZZ.out.2.2.2.wide (fun j h => .inr h)))
    have hbw := KeepF.below H1.out.1 hkk (fun j h => by have := H0.out.1; omega) H1.out.1.size
    have he : ansS n (a : Nat) (.ok (v, k)) = (v, (a : Int) + k, 0) := if_neg HBIG.out
    have hk3 := (H3.out.1.wide (fun j h => Or.inl (b := j = b + 1 ∨ j = b + 2) h)).trans HZZ.out.2.2.2
    unfold DecTo
    rw [HD.out, HXX.out.1, he]
    refine ⟨_, F, ?_, ((H2.out.2.2.2.1.mono H1.out.1.size).keep (fun j hj => hk3.block j (H2.out.2.2.2.1.lt j hj).2 (fun e => by have := (H2.out.2.2.2.1.lt j hj).1; have := (gl H1.out.2.2.2); omega))), hbw⟩
    rw [← HXX.out.2.1]
    rfl
end Go.Proofs.YtjipennigjlklaaDoor
