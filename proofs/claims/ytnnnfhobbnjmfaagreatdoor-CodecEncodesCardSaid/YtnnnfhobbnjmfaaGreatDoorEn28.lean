/-
  Lemmas on the codec. Conditions: as each says.
-/
import Derived.Test.YtnnnfhobbnjmfaaGreatDoorEn27
namespace Go.Proofs.YtnnnfhobbnjmfaaGreatDoor
open Go.RowKit
set_option linter.all false
set_option maxHeartbeats 4000000

attribute [local go_sem] Oper.semAt_some

def Fx (c : Nat) : Prop := c = 64 ∨ (5 ≤ c / 16 ∧ c / 16 ≤ 8 ∧ 0 ≤ kindC c)
instance (c : Nat) : Decidable (Fx c) := by unfold Fx; infer_instance
theorem value_fx (c : Nat) (hc : Fx c) (w : World) (r : Nat) (p : Option Addr) (n cp at_ en : Nat) (sz own : Int) (B : List UInt8) (h : RdIn w r p n cp at_ en sz B) (hat : at_ < en) (hcd : (B.getD at_ 0).toNat = c) :
    Calls Tryz.prog 38 #[.pointer (some ⟨r, 0, none⟩), .int .i64 1] w fun e w' => RdTo w r p n cp at_ en sz own (rdV 32 (sOf B at_ en)) e w' := by
  have hen := h.hen
  have hBl := h.len
  have hd2 : decide ((32 : Int) < 1) = false := by decide
  rw [sOf_cons hat (by omega), show (32 : Nat) = 31 + 1 from rfl, rdV_succ, valR_cons, hcd]
  rcases hc with rfl | ⟨h5, h8, hk⟩
  · rw [if_neg (by decide), if_neg (by decide), if_pos (by decide)]
    refine (value_40 _ rfl 1 w r p n cp at_ en sz own B h hat hcd hd2).mono ?_
    rintro e w' ⟨rfl, hmv⟩
    exact RdTo.of_ok (K := 0) (N := 0) (k := 1) ⟨by decide, by decide⟩ ⟨by decide, by decide⟩ hmv
  · rw [if_neg (by omega), if_neg (by omega), if_neg (by omega)]
    have hx := value_data c _ 1 rfl w r p n cp at_ en sz own B h hat hcd (by simp; omega) hd2 ⟨by omega, by omega⟩ (datR (rdV 31) (rdD 31) c (sOf B (at_ + 1) en)) (fun W hW => by
      unfold datR
      rw [if_neg (by omega), if_neg (by omega), if_neg (by omega), if_neg (by omega)]
      exact data_fixed c (at_ : Nat) 1 _ W r p n cp (at_ + 1) en sz (at_ : Nat) B hW (fun W hW => fixed_any c h5 h8 hk W r p n cp (at_ + 1) en sz (at_ : Nat) B hW) (by omega))
    exact hx
set_option maxRecDepth 20000 in
theorem decode_inG (w : World) (p : Option Addr) (n cp : Nat) (B : List UInt8) (hB : BytesIn w p n cp B) (hT : Tabs w) (hn : n ≤ 140737488355328) (a : Nat) (hat : a ≤ n) (hval : ∀ W r, RdIn W r p n cp a n (-1) B → Calls Tryz.prog 38 #[.pointer (some ⟨r, 0, none⟩), .int .i64 1] W fun e w' => RdTo W r p n cp a n (-1) (a : Nat) (rdV 32 (sOf B a n)) e w') : Calls Tryz.prog 18 #[.slice p n cp, .int .i64 (a : Nat)] w fun e w' => DecTo w B (a : Nat) e w' := by
  have hmf : ∀ (fn : Fn) (first cap : Array Value) (w : World), (Instr.makeFunc fn first cap).run Tryz.prog w = .ok (.func fn first cap) w := fun _ _ _ _ => rfl
  have t1 : decide ((a : Int) < 0) = false := by simp
  have t2 : decide ((n : Int) < (a : Nat)) = false := by simp; omega
  have t3 : decide (n < a) = false := by simp; omega
  have HB := Lib.hid (And.intro hB (And.intro hT (And.intro hn hat)))
  have HVAL := Lib.hid hval
  clear hB hT hn hat hval
  go_enter_defers Tryz.func18, Tryz.ntmps18
  go_upto_region 1 with fail
  obtain ⟨W0, hW0⟩ : ∃ W0, W0 = (((w.alloc (.cells zR 25)).alloc (.cells #[.int .i64 0] 3)).alloc (.cells #[.int .i64 0] 29)) := ⟨_, rfl⟩
  have h5 := three_allocs w _ _ _ W0 hW0
  rw [← hW0]
  clear hW0
  obtain ⟨b, hb⟩ : ∃ b, w.heap.size = b := ⟨_, rfl⟩
  rw [hb] at h5
  simp only [hb, Nat.add_assoc, Nat.reduceAdd]
  obtain ⟨f0, f1, f2, fz, hb0⟩ := h5
  have hb0w : Below w.heap.size w W0 := by rw [hb]; exact hb0
  have H0 := Lib.hid (And.intro hb (And.intro hb0w (And.intro fz (And.intro f0 (And.intro f1 f2)))))
  clear f0 f1 f2 fz hb0 hb0w hb
  go_upto_region 4 with fail
  have hb1 : Below W0.heap.size W0 (W0.alloc (.cells #[.slice p n cp, .int .i64 (a : Nat), .int .i64 (n : Nat), .int .i64 (-1)] 66)) := (Below.refl _ _).alloc (Nat.le_refl _) _
  have or1 := _root_.Go.heap_alloc_new W0 (.cells #[.slice p n cp, .int .i64 (a : Nat), .int .i64 (n : Nat), .int .i64 (-1)] 66)
  generalize W0.alloc (.cells #[.slice p n cp, .int .i64 (a : Nat), .int .i64 (n : Nat), .int .i64 (-1)] 66) = w1 at *
  have hz3 := H0.out.2.2.1
  rw [hz3] at or1 ⊢
  have hbw1 := H0.out.2.1.trans (hb1.mono H0.out.2.1.size)
  have HR1 := Lib.hid (show RdIn w1 (b + 3) p n cp a n (-1) B from ⟨or1, ⟨w, HB.out.1, hbw1, by have := H0.out.1; omega, HB.out.2.1⟩, HB.out.2.2.2, Nat.le_refl _, HB.out.2.2.1⟩)
  have q0 := (hb1.block b (by omega)).trans H0.out.2.2.2.1
  have q1 := (hb1.block (b + 1) (by omega)).trans H0.out.2.2.2.2.1
  have q2 := (hb1.block (b + 2) (by omega)).trans H0.out.2.2.2.2.2
  have H1 := Lib.hid (And.intro hbw1 (And.intro q0 (And.intro q1 q2)))
  clear hb1 or1 hz3 hbw1 q0 q1 q2 t1 t2 t3
  go_wp2_with fail
  have hsf : sOf B a n = B.drop a := by unfold sOf; rw [List.take_of_length_le (by rw [List.length_drop, HB.out.1.len]; exact Nat.le_refl _)]
  have hdec : decS B (a : Nat) = ansS B.length (a : Nat) (rdV 32 (B.drop a)) := decS_in (by rw [HB.out.1.len]; exact HB.out.2.2.2)
  rw [← hsf, HB.out.1.len] at hdec
  have HD := Lib.hid hdec
  clear hsf hdec
  refine (HVAL.out w1 (b + 3) HR1.out).mono ?_
  rintro e w2 hto
  rcases hx : rdV 32 (sOf B a n) with y | ⟨v, k⟩
  · rw [hx] at hto
    obtain ⟨rfl, hk⟩ := hto
    have k1 := (hk.block b (gl H1.out.2.1) (by omega)).trans H1.out.2.1
    have k2 := (hk.block (b + 1) (gl H1.out.2.2.1) (by omega)).trans H1.out.2.2.1
    have k3 := (hk.block (b + 2) (gl H1.out.2.2.2) (by omega)).trans H1.out.2.2.2
    have HKK := Lib.hid hk
    unfold faultE
    dsimp only
    go_wp2_with fail
    refine leaves_cons (f := 37) (args := #[.pointer (some ⟨b, 0, none⟩), .pointer (some ⟨b + 1, 0, none⟩), .pointer (some ⟨b + 2, 0, none⟩)]) (by simp) (by simp [go_sem]) ?_
    refine (catch_fault b (b + 1) (b + 2) _ _ _ 0 0 ⟨by omega, by omega, by omega⟩ w2 k1 rfl k2 k3).mono ?_
    rintro e u' w3 ⟨rfl, rfl, ht⟩
    show Leaves Tryz.prog Tryz.f18 _ _ [] .returning w3
    refine ⟨_, results_dec _ _ b (b + 1) (b + 2) zR _ _ rfl rfl rfl ht.rx rfl ht.ry ht.rz, ?_⟩
    have hkk := (HKK.out.wide (fun j h => Or.inl (b := j = b ∨ j = b + 1 ∨ j = b + 2) h)).trans (ht.keep.wide (fun j h => .inr h))
    have hbw := KeepF.below H1.out.1 hkk (fun j h => by have := H0.out.1; omega) H1.out.1.size
    unfold DecTo
    rw [HD.out, hx, ansS_fault]
    exact ⟨_, fun _ => False, rfl, VO.nil _ _ zero_wf rfl, hbw⟩
  rw [hx] at hto
  obtain ⟨s, F, rfl, hvo, hmv⟩ := hto
  obtain ⟨ps, cs, hss, _, _⟩ := hvo.slice
  subst hss
  have hkl := rdV_le 32 _ _ _ hx
  rw [sOf_len (by rw [HB.out.1.len]; exact Nat.le_refl _)] at hkl
  obtain ⟨a2, ha2⟩ : ∃ a2, a + k = a2 := ⟨_, rfl⟩
  rw [ha2] at hmv
  have hle2 : a2 ≤ n := by have := HB.out.2.2.2; omega
  have k1 := (hmv.keep.block b (gl H1.out.2.1) (by omega)).trans H1.out.2.1
  have k2 := (hmv.keep.block (b + 1) (gl H1.out.2.2.1) (by omega)).trans H1.out.2.2.1
  have k3 := (hmv.keep.block (b + 2) (gl H1.out.2.2.2) (by omega)).trans H1.out.2.2.2
  have H2 := Lib.hid (And.intro k1 (And.intro k2 (And.intro k3 (And.intro hvo hmv))))
  have HXX := Lib.hid (And.intro hx (And.intro ha2 hle2))
  clear hvo hmv hx hkl k1 k2 k3
  go_upto_region 6 with (refine wpList_store_rowTo rfl 25 (.tmp 4) (.tmp 25) rfl rfl b #[.int .i64 v.kind, .int .u64 v.num, .string v.text, .slice ps v.list.length cs, .int .i64 v.elem] rfl rfl 25 zR H2.out.1 (by as_aux_lemma => kernel_rfl) (by as_aux_lemma => kernel_rfl) (by simp [Value.oneCell']) ?_)
  have kx : KeepF (fun g => g = b) w2 (w2.setRow b #[.int .i64 v.kind, .int .u64 v.num, .string v.text, .slice ps v.list.length cs, .int .i64 v.elem]) := ⟨rfl, rfl, rfl, by simp, fun j hj hne => setRow_other w2 b j _ hne⟩
  have rx := setRow_heap w2 b _ #[.int .i64 v.kind, .int .u64 v.num, .string v.text, .slice ps v.list.length cs, .int .i64 v.elem] _ _ H2.out.1
  change Code.wp _ _ _ _ (w2.setRow b #[.int .i64 v.kind, .int .u64 v.num, .string v.text, .slice ps v.list.length cs, .int .i64 v.elem])
  generalize w2.setRow b #[.int .i64 v.kind, .int .u64 v.num, .string v.text, .slice ps v.list.length cs, .int .i64 v.elem] = w3 at *
  have r1 := (kx.block (b + 1) (gl H2.out.2.1) (by omega)).trans H2.out.2.1
  have r2 := (kx.block (b + 2) (gl H2.out.2.2.1) (by omega)).trans H2.out.2.2.1
  have rr := (kx.block (b + 3) (gl H2.out.2.2.2.2.at_) (by omega)).trans H2.out.2.2.2.2.at_
  have H3 := Lib.hid (And.intro kx (And.intro rx (And.intro r1 (And.intro r2 rr))))
  have cr : w3.cell? ⟨b + 3, 1, none⟩ = some (.int .i64 (a2 : Nat)) := (cell_of_row _ _ 1 _ _ _ rr).trans rfl
  have hsub : wrap64 ((a2 : Int) - (a : Nat)) = (k : Nat) := by have h1 := HXX.out.2.1; have h2 := HB.out.2.2.1; have h3 := hle2; unfold wrap64; omega
  have hsub2 : IntKind.i64.wrap ((a2 : Int) - (a : Nat)) = (k : Nat) := by have h1 := HXX.out.2.1; have h2 := HB.out.2.2.1; have h3 := hle2; rw [IntWalk.i64_in _ (by omega)]; omega
  clear kx rx r1 r2 rr hle2 ha2
  by_cases hbig : 1048576 < k
  · have d1 : decide (1048576 < k) = true := decide_eq_true hbig
    have d2 : decide ((1048576 : Int) < (k : Nat)) = true := decide_eq_true (by omega)
    have HBIG := Lib.hid hbig
    clear hbig
    go_wp2_with fail
    refine (wrong_any _ _ _).mono ?_
    rintro e w4 ⟨rfl, rfl⟩
    unfold faultE
    dsimp only
    go_wp2_with fail
    refine leaves_cons (f := 37) (args := #[.pointer (some ⟨b, 0, none⟩), .pointer (some ⟨b + 1, 0, none⟩), .pointer (some ⟨b + 2, 0, none⟩)]) (by simp) (by simp [go_sem]) ?_
    refine (catch_fault b (b + 1) (b + 2) _ _ _ 0 0 ⟨by omega, by omega, by omega⟩ w3 H3.out.2.1 rfl H3.out.2.2.1 H3.out.2.2.2.1).mono ?_
    rintro e u' w5 ⟨rfl, rfl, ht⟩
    show Leaves Tryz.prog Tryz.f18 _ _ [] .returning w5
    refine ⟨_, results_dec _ _ b (b + 1) (b + 2) zR _ _ rfl rfl rfl ht.rx rfl ht.ry ht.rz, ?_⟩
    have hkk := (H2.out.2.2.2.2.keep.wide (fun j h => Or.inl (b := j = b ∨ j = b + 1 ∨ j = b + 2) h)).trans ((H3.out.1.wide (fun j h => .inr (.inl h))).trans (ht.keep.wide (fun j h => .inr h)))
    have hbw := KeepF.below H1.out.1 hkk (fun j h => by have := H0.out.1; omega) H1.out.1.size
    have he : ansS n (a : Nat) (.ok (v, k)) = (zeroV, ((a : Nat) : Int), 2) := if_pos HBIG.out
    unfold DecTo
    rw [HD.out, HXX.out.1, he]
    exact ⟨_, fun _ => False, rfl, VO.nil _ _ zero_wf rfl, hbw⟩
  · have d1 : decide (1048576 < k) = false := decide_eq_false hbig
    have d2 : decide ((1048576 : Int) < (k : Nat)) = false := decide_eq_false (by omega)
    have HBIG := Lib.hid hbig
    clear hbig
    go_upto_region 8 with fail
    clear cr hsub hsub2 d1 d2
    refine wp_hide (fun Q9 HQ9 HP9 => ?_)
    refine wp_region_heldN (fun V => V.heap[b]? = some (.cells #[.int .i64 v.kind, .int .u64 v.num, .string v.text, .slice ps v.list.length cs, .int .i64 v.elem] 25 (0, 0)) ∧ V.heap[b + 3]? = some (.cells #[.slice p n cp, .int .i64 (a2 : Nat), .int .i64 (n : Nat), .int .i64 (-1)] 66 (0, 0))) 8 rfl (by kernel_rfl) ?_
    have hS : w3.drew.heap[b]? = some (.cells #[.int .i64 v.kind, .int .u64 v.num, .string v.text, .slice ps v.list.length cs, .int .i64 v.elem] 25 (0, 0)) ∧ w3.drew.heap[b + 3]? = some (.cells #[.slice p n cp, .int .i64 (a2 : Nat), .int .i64 (n : Nat), .int .i64 (-1)] 66 (0, 0)) := ⟨H3.out.2.1, H3.out.2.2.2.2⟩
    refine tkD (i := 0) (v := .agg #[.int .i64 v.kind, .int .u64 v.num, .string v.text, .slice ps v.list.length cs, .int .i64 v.elem]) (some 35) rfl rfl (by kernel_rfl) (fun c a w h => (HP9.out _ _ _ h).elim) (yieldsIf_load_row 25 (.tmp 4) rfl (by rfl) b rfl 25 _ (0, 0) _ (fun V h => h.1) Tryz.underlying25 rfl (by as_aux_lemma => kernel_rfl)) hS ?_
    try simp only [Act.put, sA, sB, sC]
    refine tkD (i := 1) (v := .pointer (some ⟨b + 3, 0, none⟩)) (some 36) rfl rfl (by kernel_rfl) (fun c a w h => (HP9.out _ _ _ h).elim) (Or.inl ⟨by rfl, by rintro V ⟨h0, h1⟩; go_simp⟩) hS ?_
    try simp only [Act.put, sA, sB, sC]
    refine tkD (i := 2) (v := .pointer (some ⟨b + 3, 0, none⟩)) (some 37) rfl rfl (by kernel_rfl) (fun c a w h => (HP9.out _ _ _ h).elim) (Or.inl ⟨by rfl, by rintro V ⟨h0, h1⟩; go_simp⟩) hS ?_
    try simp only [Act.put, sA, sB, sC]
    refine tkD (i := 3) (v := .pointer (some ⟨b + 3, 1, none⟩)) (some 38) rfl rfl (by kernel_rfl) (fun c a w h => (HP9.out _ _ _ h).elim) (Or.inl ⟨by rfl, by rintro V ⟨h0, h1⟩; go_simp⟩) hS ?_
    try simp only [Act.put, sA, sB, sC]
    refine tkD (i := 4) (v := .int .i64 (a2 : Nat)) (some 39) rfl rfl (by kernel_rfl) (fun c a w h => (HP9.out _ _ _ h).elim) (Or.inl ⟨by rfl, by rintro V ⟨h0, h1⟩; have y1 := (cell_of_row V _ 1 _ _ _ h1).trans rfl; go_simp⟩) hS ?_
    try simp only [Act.put, sA, sB, sC]
    have k4 : KeepF (fun g => g = b) w3.drew (w3.drew.setRow b #[.int .i64 v.kind, .int .u64 v.num, .string v.text, .slice ps v.list.length cs, .int .i64 v.elem]) := ⟨rfl, rfl, rfl, by simp, fun j hj hne => setRow_other w3.drew b j _ hne⟩
    have rb4 := setRow_heap w3.drew b _ #[.int .i64 v.kind, .int .u64 v.num, .string v.text, .slice ps v.list.length cs, .int .i64 v.elem] _ _ hS.1
    have rr4 := (k4.block (b + 3) (gl hS.2) (by omega)).trans hS.2
    have ra4 := (k4.block (b + 1) (gl H3.out.2.2.1) (by omega)).trans H3.out.2.2.1
    have rc4 := (k4.block (b + 2) (gl H3.out.2.2.2.1) (by omega)).trans H3.out.2.2.2.1
    refine oneH (i := 5) (by kernel_rfl) ?_
    refine stepD (i := 5) rfl (by rfl) (fun K5 h5 => ?_)
    refine wp_store_rowN 25 (.tmp 4) (.tmp 35) rfl rfl b #[.int .i64 v.kind, .int .u64 v.num, .string v.text, .slice ps v.list.length cs, .int .i64 v.elem] rfl rfl 25 _ hS.1 (by as_aux_lemma => kernel_rfl) (by as_aux_lemma => kernel_rfl) (by simp [Value.oneCell']) ?_
    refine h5.out _ _ ⟨rb4, rr4⟩ ?_
    clear h5
    try simp only [Act.put, sA, sB, sC]
    generalize (w3.drew.setRow b #[.int .i64 v.kind, .int .u64 v.num, .string v.text, .slice ps v.list.length cs, .int .i64 v.elem]) = w4 at *
    have cw5 : w4.cell? ⟨b + 1, 0, none⟩ = some (.int .i64 0) := (cell_of_row _ _ 0 _ _ _ ra4).trans rfl
    have fw5 : w4.frozen? ⟨b + 1, 0, none⟩ = false := by simp [World.frozen?, ra4]
    have k5 : KeepF (fun g => g = b + 1) w4 (w4.setCell ⟨b + 1, 0, none⟩ (.int .i64 (a2 : Nat))) := ⟨rfl, rfl, rfl, by simp, fun j hj hne => set_farV hne⟩
    have ownw5 := heap_setCell_same w4 (b + 1) 0 _ _ (.int .i64 (a2 : Nat)) ra4
    have rb5 := (k5.block (b) (gl rb4) (by omega)).trans rb4
    have rr5 := (k5.block (b + 3) (gl rr4) (by omega)).trans rr4
    have rc5 := (k5.block (b + 2) (gl rc4) (by omega)).trans rc4
    refine oneH (i := 6) (by kernel_rfl) ?_
    refine stepD (i := 6) rfl (by rfl) (fun K5 h5 => ?_)
    go_simp
    change K5 _ (w4.setCell ⟨b + 1, 0, none⟩ (.int .i64 (a2 : Nat)))
    refine h5.out _ _ ⟨rb5, rr5⟩ ?_
    clear h5
    try simp only [Act.put, sA, sB, sC]
    generalize (w4.setCell ⟨b + 1, 0, none⟩ (.int .i64 (a2 : Nat))) = w5 at *
    have cw6 : w5.cell? ⟨b + 2, 0, none⟩ = some (.int .i64 0) := (cell_of_row _ _ 0 _ _ _ rc5).trans rfl
    have fw6 : w5.frozen? ⟨b + 2, 0, none⟩ = false := by simp [World.frozen?, rc5]
    have k6 : KeepF (fun g => g = b + 2) w5 (w5.setCell ⟨b + 2, 0, none⟩ (.int .i64 0)) := ⟨rfl, rfl, rfl, by simp, fun j hj hne => set_farV hne⟩
    have ownw6 := heap_setCell_same w5 (b + 2) 0 _ _ (.int .i64 0) rc5
    have rb6 := (k6.block (b) (gl rb5) (by omega)).trans rb5
    have rr6 := (k6.block (b + 3) (gl rr5) (by omega)).trans rr5
    have ra6 := (k6.block (b + 1) (gl ownw5) (by omega)).trans ownw5
    refine oneH (i := 7) (by kernel_rfl) ?_
    refine stepD (i := 7) rfl (by rfl) (fun K5 h5 => ?_)
    go_simp
    change K5 _ (w5.setCell ⟨b + 2, 0, none⟩ (.int .i64 0))
    refine h5.out _ _ ⟨rb6, rr6⟩ ?_
    clear h5
    try simp only [Act.put, sA, sB, sC]
    generalize (w5.setCell ⟨b + 2, 0, none⟩ (.int .i64 0)) = w6 at *
    refine wpAnyH_done (by kernel_rfl) ?_ _
    have HZZ := Lib.hid (show w6.heap[b]? = some (.cells #[.int .i64 v.kind, .int .u64 v.num, .string v.text, .slice ps v.list.length cs, .int .i64 v.elem] 25 (0, 0)) ∧ w6.cell? ⟨b + 1, 0, none⟩ = some (.int .i64 (a2 : Nat)) ∧ w6.cell? ⟨b + 2, 0, none⟩ = some (.int .i64 0) ∧ KeepF (fun j => j = b ∨ j = b + 1 ∨ j = b + 2) w3 w6 from ⟨rb6, (cell_of_row _ _ 0 _ _ _ ra6).trans rfl, (cell_of_row _ _ 0 _ _ _ ownw6).trans rfl, (KeepF.of_below (bdrew (Below.refl _ _))).trans ((k4.wide (fun j h => .inl h)).trans ((k5.wide (fun j h => .inr (.inl h))).trans (k6.wide (fun j h => .inr (.inr h)))))⟩)
    clear k4 k5 k6 rb4 rr4 ra4 rc4 rb5 rr5 rc5 rb6 rr6 ra6 cw5 cw6 fw5 fw6 ownw5 ownw6 hS
    refine HQ9.out _ _ ?_
    change Exit.then _ _ _ _ w6
    go_wp2_with fail
    refine leaves_cons (f := 37) (args := #[.pointer (some ⟨b, 0, none⟩), .pointer (some ⟨b + 1, 0, none⟩), .pointer (some ⟨b + 2, 0, none⟩)]) (by simp) (by simp [go_sem]) ?_
    refine (catch_idle _ _ _ w6).mono ?_
    rintro e u' w7 ⟨rfl, rfl, rfl⟩
    show Leaves Tryz.prog Tryz.f18 _ _ [] .returning w7
    refine ⟨_, results_dec _ _ b (b + 1) (b + 2) #[.int .i64 v.kind, .int .u64 v.num, .string v.text, .slice ps v.list.length cs, .int .i64 v.elem] (a2 : Nat) 0 rfl rfl rfl HZZ.out.1 rfl HZZ.out.2.1 HZZ.out.2.2.1, ?_⟩
    have hkk := (H2.out.2.2.2.2.keep.wide (fun j h => Or.inl (b := j = b ∨ j = b + 1 ∨ j = b + 2) h)).trans ((H3.out.1.wide (fun j h => .inr (.inl h))).trans (HZZ.out.2.2.2.wide (fun j h => .inr h)))
    have hbw := KeepF.below H1.out.1 hkk (fun j h => by have := H0.out.1; omega) H1.out.1.size
    have he : ansS n (a : Nat) (.ok (v, k)) = (v, (a : Int) + k, 0) := if_neg HBIG.out
    have hk3 := (H3.out.1.wide (fun j h => Or.inl (b := j = b + 1 ∨ j = b + 2) h)).trans HZZ.out.2.2.2
    unfold DecTo
    rw [HD.out, HXX.out.1, he]
    refine ⟨_, F, ?_, ((H2.out.2.2.2.1.mono H1.out.1.size).keep (fun j hj => hk3.block j (H2.out.2.2.2.1.lt j hj).2 (fun e => by have := (H2.out.2.2.2.1.lt j hj).1; have := (gl H1.out.2.2.2); omega))), hbw⟩
    rw [← HXX.out.2.1]
    rfl
theorem decode_fx (w : World) (p : Option Addr) (n cp : Nat) (B : List UInt8) (hB : BytesIn w p n cp B) (hT : Tabs w) (hn : n ≤ 140737488355328) (i : Int) (a : Nat) (hi : i = (a : Nat)) (hat : a < n) (hc : Fx (B.getD a 0).toNat) : Calls Tryz.prog 18 #[.slice p n cp, .int .i64 i] w fun e w' => DecTo w B i e w' := by
  subst hi
  exact decode_inG w p n cp B hB hT hn a (by omega) (fun W r h => value_fx _ hc W r p n cp a n (-1) (a : Nat) B h hat rfl)
set_option maxRecDepth 20000 in
theorem whole_of (w : World) (p : Option Addr) (n cp : Nat) (B : List UInt8) (hB : BytesIn w p n cp B) (hT : Tabs w) (hn : n ≤ 140737488355328) (hdec : ∀ W, Below w.heap.size w W → Calls Tryz.prog 18 #[.slice p n cp, .int .i64 0] W fun e w' => DecTo W B 0 e w') : Calls Tryz.prog 24 #[.slice p n cp] w fun e w' => WholeTo w B e w' := by
  have hc := fun W (hb : Below w.heap.size w W) => hdec W hb
  have HC := Lib.hid hc
  have HL := Lib.hid hB.len
  clear hc hB hT hn hdec
  go_enter Tryz.func24, Tryz.ntmps24
  go_upto_region 1 with fail
  have hb0 : Below w.heap.size w (w.alloc (.cells zR 25)) := (Below.refl _ _).alloc (Nat.le_refl _) _
  have oy : ((w.alloc (.cells zR 25))).heap[w.heap.size]? = some (.cells zR 25 (0, 0)) := _root_.Go.heap_alloc_new _ _
  generalize (w.alloc (.cells zR 25)) = w0 at *
  obtain ⟨y, hy⟩ : ∃ y, w.heap.size = y := ⟨_, rfl⟩
  rw [hy] at oy ⊢
  have HB0 := Lib.hid (And.intro hb0 (And.intro hy oy))
  clear hb0 hy oy
  go_wp2_with fail
  refine (HC.out w0 HB0.out.1).mono ?_
  rintro e w1 ⟨s, F, rfl, hvo, hb1⟩
  obtain ⟨D, hD⟩ : ∃ D, decS B 0 = D := ⟨_, rfl⟩
  rw [hD] at hvo ⊢
  obtain ⟨v, pl, ec⟩ := D
  simp only at hvo ⊢
  obtain ⟨ps, cs, hss, _, _⟩ := hvo.slice
  subst hss
  have HD := Lib.hid hD
  have H1 := Lib.hid (And.intro hvo (And.intro hb1 ((hb1.block y (gl HB0.out.2.2)).trans HB0.out.2.2)))
  clear hvo hb1 hD
  go_upto_region 2 with (refine wpList_store_rowTo rfl 25 (.tmp 5) (.tmp 11) rfl rfl w1.heap.size #[.int .i64 v.kind, .int .u64 v.num, .string v.text, .slice ps v.list.length cs, .int .i64 v.elem] rfl rfl 25 zR (_root_.Go.heap_alloc_new _ _) (by as_aux_lemma => kernel_rfl) (by as_aux_lemma => kernel_rfl) (by simp [Value.oneCell']) ?_)
  have hb2 : Below w1.heap.size w1 ((w1.alloc (.cells zR 25)).setRow w1.heap.size #[.int .i64 v.kind, .int .u64 v.num, .string v.text, .slice ps v.list.length cs, .int .i64 v.elem]) := below_setRow ((Below.refl _ _).alloc (Nat.le_refl _) _) (Nat.le_refl _) _
  have oz := setRow_heap (w1.alloc (.cells zR 25)) w1.heap.size _ #[.int .i64 v.kind, .int .u64 v.num, .string v.text, .slice ps v.list.length cs, .int .i64 v.elem] _ _ (_root_.Go.heap_alloc_new w1 _)
  change Code.wp _ _ _ _ ((w1.alloc (.cells zR 25)).setRow w1.heap.size #[.int .i64 v.kind, .int .u64 v.num, .string v.text, .slice ps v.list.length cs, .int .i64 v.elem])
  generalize ((w1.alloc (.cells zR 25)).setRow w1.heap.size #[.int .i64 v.kind, .int .u64 v.num, .string v.text, .slice ps v.list.length cs, .int .i64 v.elem]) = w3 at *
  obtain ⟨z, hz⟩ : ∃ z, w1.heap.size = z := ⟨_, rfl⟩
  rw [hz] at oz ⊢
  have hyz := (gl H1.out.2.2)
  have H3 := Lib.hid (show Below w.heap.size w w3 ∧ w3.heap[y]? = some (.cells zR 25 (0, 0)) ∧ w3.heap[z]? = some (.cells #[.int .i64 v.kind, .int .u64 v.num, .string v.text, .slice ps v.list.length cs, .int .i64 v.elem] 25 (0, 0)) ∧ VO w3 w.heap.size v (.slice ps v.list.length cs) F ∧ y < z ∧ (∀ j, F j → j ≠ y) from
    ⟨(HB0.out.1.trans (H1.out.2.1.mono HB0.out.1.size)).trans (hb2.mono (Nat.le_trans HB0.out.1.size H1.out.2.1.size)), (hb2.block y hyz).trans H1.out.2.2, oz, (H1.out.1.mono HB0.out.1.size).blw hb2, by omega, fun j hj e => by have h1 := (H1.out.1.lt j hj).1; have h2 := (gl HB0.out.2.2); omega⟩)
  clear hb2 oz hz hyz
  by_cases he : ec = 0
  · subst he
    by_cases hp : pl < n
    · have hw : wholeS B = (zeroV, pl, 35) := by unfold wholeS; rw [HD.out, if_neg (by simp), if_pos (by show pl < (B.length : Int); rw [HL.out]; exact hp)]
      have HW := Lib.hid hw
      have d1 : decide (pl < (n : Int)) = true := decide_eq_true hp
      clear hw hp
      go_wp2_with (refine wpList_store_rowTo rfl 25 (.tmp 2) (.tmp 25) rfl rfl y zR rfl rfl 25 zR H3.out.2.1 (by as_aux_lemma => kernel_rfl) (by as_aux_lemma => kernel_rfl) (by simp [Value.oneCell']) ?_)
      have hh := setRow_heap w3 y _ zR _ _ H3.out.2.1
      refine bodyPost_ret (results_whole _ _ y zR rfl hh rfl) rfl ?_
      unfold WholeTo
      rw [HW.out]
      exact ⟨_, fun _ => False, rfl, VO.nil _ _ zero_wf rfl, below_setRow H3.out.1 (by have := HB0.out.2.1; omega) _⟩
    · have hw : wholeS B = (v, 0, 0) := by unfold wholeS; rw [HD.out, if_neg (by simp), if_neg (by show ¬ pl < (B.length : Int); rw [HL.out]; exact hp)]
      have HW := Lib.hid hw
      have d1 : decide (pl < (n : Int)) = false := decide_eq_false hp
      have x0 : w3.cell? ⟨z, 0, none⟩ = some (.int .i64 v.kind) := (cell_of_row _ _ 0 _ _ _ H3.out.2.2.1).trans rfl
      have x1 : w3.cell? ⟨z, 1, none⟩ = some (.int .u64 v.num) := (cell_of_row _ _ 1 _ _ _ H3.out.2.2.1).trans rfl
      have x2 : w3.cell? ⟨z, 2, none⟩ = some (.string v.text) := (cell_of_row _ _ 2 _ _ _ H3.out.2.2.1).trans rfl
      have x3 : w3.cell? ⟨z, 3, none⟩ = some (.slice ps v.list.length cs) := (cell_of_row _ _ 3 _ _ _ H3.out.2.2.1).trans rfl
      have x4 : w3.cell? ⟨z, 4, none⟩ = some (.int .i64 v.elem) := (cell_of_row _ _ 4 _ _ _ H3.out.2.2.1).trans rfl
      clear hw hp
      go_wp2_with (refine wpList_store_rowTo rfl 25 (.tmp 2) (.tmp 27) rfl rfl y #[.int .i64 v.kind, .int .u64 v.num, .string v.text, .slice ps v.list.length cs, .int .i64 v.elem] rfl rfl 25 zR H3.out.2.1 (by as_aux_lemma => kernel_rfl) (by as_aux_lemma => kernel_rfl) (by simp [Value.oneCell']) ?_)
      have hh := setRow_heap w3 y _ #[.int .i64 v.kind, .int .u64 v.num, .string v.text, .slice ps v.list.length cs, .int .i64 v.elem] _ _ H3.out.2.1
      refine bodyPost_ret (results_whole _ _ y #[.int .i64 v.kind, .int .u64 v.num, .string v.text, .slice ps v.list.length cs, .int .i64 v.elem] rfl hh rfl) rfl ?_
      unfold WholeTo
      rw [HW.out]
      exact ⟨_, F, rfl, H3.out.2.2.2.1.keep (fun j hj => setRow_other w3 y j _ (H3.out.2.2.2.2.2 j hj)), below_setRow H3.out.1 (by have := HB0.out.2.1; omega) _⟩
  · have hw : wholeS B = (zeroV, pl, ec) := by unfold wholeS; rw [HD.out, if_pos he]
    have HW := Lib.hid hw
    have d1 : (ec != 0) = true := by simp [he]
    clear hw he
    go_wp2_with (refine wpList_store_rowTo rfl 25 (.tmp 2) (.tmp 17) rfl rfl y zR rfl rfl 25 zR H3.out.2.1 (by as_aux_lemma => kernel_rfl) (by as_aux_lemma => kernel_rfl) (by simp [Value.oneCell']) ?_)
    have hh := setRow_heap w3 y _ zR _ _ H3.out.2.1
    refine bodyPost_ret (results_whole _ _ y zR rfl hh rfl) rfl ?_
    unfold WholeTo
    rw [HW.out]
    exact ⟨_, fun _ => False, rfl, VO.nil _ _ zero_wf rfl, below_setRow H3.out.1 (by have := HB0.out.2.1; omega) _⟩
theorem whole_fx (w : World) (p : Option Addr) (n cp : Nat) (B : List UInt8) (hB : BytesIn w p n cp B) (hT : Tabs w) (hn : n ≤ 140737488355328) (hat : 0 < n) (hc : Fx (B.getD 0 0).toNat) : Calls Tryz.prog 24 #[.slice p n cp] w fun e w' => WholeTo w B e w' :=
  whole_of w p n cp B hB hT hn (fun W hb => decode_fx W p n cp B (hB.below hb) (hT.below hb) hn 0 0 rfl hat hc)
set_option maxRecDepth 20000 in
theorem shortest_of (w : World) (p : Option Addr) (n cp : Nat) (B : List UInt8) (hB : BytesIn w p n cp B) (hT : Tabs w) (hn : n ≤ 140737488355328) (hwh : Calls Tryz.prog 24 #[.slice p n cp] w fun e w' => WholeTo w B e w') : Calls Tryz.prog 25 #[.slice p n cp] w fun e w' => e = .returned (.bool (shortestS B)) ∧ Below w.heap.size w w' := by
  have HC := Lib.hid hwh
  have HB := Lib.hid (And.intro hB (And.intro hT hn))
  clear hB hT hn hwh
  go_enter Tryz.func25, Tryz.ntmps25
  go_wp2_with fail
  refine HC.out.mono ?_
  rintro e w1 ⟨s, F, rfl, hvo, hb1⟩
  obtain ⟨D, hD⟩ : ∃ D, wholeS B = D := ⟨_, rfl⟩
  rw [hD] at hvo ⊢
  obtain ⟨v, pl, ec⟩ := D
  simp only at hvo ⊢
  obtain ⟨ps, cs, hss, _, _⟩ := hvo.slice
  subst hss
  have HD := Lib.hid hD
  have H1 := Lib.hid (And.intro hvo hb1)
  clear hvo hb1 hD
  go_upto_region 2 with (refine wpList_store_rowTo rfl 25 (.tmp 3) (.tmp 10) rfl rfl w1.heap.size #[.int .i64 v.kind, .int .u64 v.num, .string v.text, .slice ps v.list.length cs, .int .i64 v.elem] rfl rfl 25 zR (_root_.Go.heap_alloc_new _ _) (by as_aux_lemma => kernel_rfl) (by as_aux_lemma => kernel_rfl) (by simp [Value.oneCell']) ?_)
  have hb2 : Below w1.heap.size w1 ((w1.alloc (.cells zR 25)).setRow w1.heap.size #[.int .i64 v.kind, .int .u64 v.num, .string v.text, .slice ps v.list.length cs, .int .i64 v.elem]) := below_setRow ((Below.refl _ _).alloc (Nat.le_refl _) _) (Nat.le_refl _) _
  have oz := setRow_heap (w1.alloc (.cells zR 25)) w1.heap.size _ #[.int .i64 v.kind, .int .u64 v.num, .string v.text, .slice ps v.list.length cs, .int .i64 v.elem] _ _ (_root_.Go.heap_alloc_new w1 _)
  change Code.wp _ _ _ _ ((w1.alloc (.cells zR 25)).setRow w1.heap.size #[.int .i64 v.kind, .int .u64 v.num, .string v.text, .slice ps v.list.length cs, .int .i64 v.elem])
  generalize ((w1.alloc (.cells zR 25)).setRow w1.heap.size #[.int .i64 v.kind, .int .u64 v.num, .string v.text, .slice ps v.list.length cs, .int .i64 v.elem]) = w3 at *
  obtain ⟨z, hz⟩ : ∃ z, w1.heap.size = z := ⟨_, rfl⟩
  rw [hz] at oz ⊢
  have H3 := Lib.hid (And.intro (H1.out.2.trans (hb2.mono H1.out.2.size)) (And.intro oz (H1.out.1.blw hb2)))
  clear hb2 oz hz
  by_cases he : ec = 0
  · subst he
    have hwt : v.wt ≤ 2000000 := by
      have hd : (decS B 0).2.2 = 0 ∧ (decS B 0).1 = v := by
        have h1 := HD.out
        unfold wholeS at h1
        by_cases c1 : (decS B 0).2.2 ≠ 0
        · rw [if_pos c1] at h1
          exact absurd (congrArg (fun x => x.2.2) h1) c1
        rw [if_neg c1] at h1
        by_cases c2 : (decS B 0).2.1 < B.length
        · rw [if_pos c2] at h1
          exact absurd (congrArg (fun x => x.2.2) h1) (by show ¬ ((35 : Int) = 0); decide)
        rw [if_neg c2] at h1
        exact ⟨Classical.byContradiction c1, congrArg (fun x => x.1) h1⟩
      obtain ⟨n1, k, _, _, _, hk, _, _, hg⟩ := decS_good (by rw [HB.out.1.len]; have := HB.out.2.2; unfold maxLen; omega) hd.1
      have := hg.wt
      rw [hd.2] at this
      omega
    have hen := encode_any v w3 _ H3.out.2.2.vin (HB.out.2.1.below H3.out.1) hwt
    have HE := Lib.hid hen
    have x0 : w3.cell? ⟨z, 0, none⟩ = some (.int .i64 v.kind) := (cell_of_row _ _ 0 _ _ _ H3.out.2.1).trans rfl
    have x1 : w3.cell? ⟨z, 1, none⟩ = some (.int .u64 v.num) := (cell_of_row _ _ 1 _ _ _ H3.out.2.1).trans rfl
    have x2 : w3.cell? ⟨z, 2, none⟩ = some (.string v.text) := (cell_of_row _ _ 2 _ _ _ H3.out.2.1).trans rfl
    have x3 : w3.cell? ⟨z, 3, none⟩ = some (.slice ps v.list.length cs) := (cell_of_row _ _ 3 _ _ _ H3.out.2.1).trans rfl
    have x4 : w3.cell? ⟨z, 4, none⟩ = some (.int .i64 v.elem) := (cell_of_row _ _ 4 _ _ _ H3.out.2.1).trans rfl
    clear hen hwt
    go_wp2_with fail
    refine HE.out.mono ?_
    rintro e w4 ⟨u, rfl, hou, hb4⟩
    obtain ⟨pu, cu, hu, _⟩ := hou.bytes
    subst hu
    obtain ⟨E, hE⟩ : ∃ E, encS v = E := ⟨_, rfl⟩
    rw [hE] at hou ⊢
    obtain ⟨el, ee⟩ := E
    simp only at hou ⊢
    have hc1 : (convert 28 9 (.slice pu el.length cu)).run Tryz.prog w4 = .ok (.string ⟨el.toArray⟩) w4 := run_string_bytes w4 _ _ 5 Tryz.underlying28 Tryz.underlying5 Tryz.underlying9 _ _ _ _ hou.sl.2
    have hc2 : (convert 28 9 (.slice p n cp)).run Tryz.prog w4 = .ok (.string ⟨B.toArray⟩) w4 := run_string_bytes w4 _ _ 5 Tryz.underlying28 Tryz.underlying5 Tryz.underlying9 _ _ _ _ (HB.out.1.below (H3.out.1.trans (hb4.mono H3.out.1.size)))
    have HB4 := Lib.hid (H3.out.1.trans (hb4.mono H3.out.1.size))
    have hsh : shortestS B = decide (ee = 0 ∧ el = B) := by unfold shortestS; rw [HD.out, if_neg (by simp)]; simp only; rw [hE]
    have HS := Lib.hid hsh
    clear hou hb4 x0 x1 x2 x3 x4 hE hsh
    by_cases h0 : ee = 0
    · subst h0
      by_cases h1 : el = B
      · subst h1
        have hS2 := HS.out
        rw [decide_eq_true (And.intro rfl rfl)] at hS2
        have HS2 := Lib.hid hS2
        clear hS2
        have hq : ((⟨el.toArray⟩ : ByteArray).toList == (⟨el.toArray⟩ : ByteArray).toList) = true := by simp
        go_wp2_with fail
        go_ret
        rw [HS2.out]
        exact ⟨rfl, HB4.out⟩
      · have hS2 := HS.out
        rw [decide_eq_false (fun q => h1 q.2)] at hS2
        have HS2 := Lib.hid hS2
        have hq : ((⟨el.toArray⟩ : ByteArray).toList == (⟨B.toArray⟩ : ByteArray).toList) = false := by
          rw [teq]
          exact decide_eq_false (fun q => h1 (by injection q with q; simpa using congrArg Array.toList q))
        clear hS2 h1
        obtain ⟨TA, hTA⟩ : ∃ TA : ByteArray, ⟨el.toArray⟩ = TA := ⟨_, rfl⟩
        obtain ⟨TB, hTB⟩ : ∃ TB : ByteArray, ⟨B.toArray⟩ = TB := ⟨_, rfl⟩
        rw [hTA, hTB] at hq
        rw [hTA] at hc1
        rw [hTB] at hc2
        clear hTA hTB
        go_wp2_with fail
        go_ret
        rw [HS2.out]
        exact ⟨rfl, HB4.out⟩
    · have hS2 := HS.out
      rw [decide_eq_false (fun q => h0 q.1)] at hS2
      have HS2 := Lib.hid hS2
      have d0 : (ee == 0) = false := by simp [h0]
      clear hS2 h0
      go_wp2_with fail
      go_ret
      rw [HS2.out]
      exact ⟨rfl, HB4.out⟩
  · have hw : shortestS B = false := by unfold shortestS; rw [HD.out, if_pos he]
    have HW := Lib.hid hw
    have d1 : (ec != 0) = true := by simp [he]
    clear hw he
    go_wp2_with fail
    go_ret
    rw [HW.out]
    exact ⟨rfl, H3.out.1⟩
theorem shortest_fx (w : World) (p : Option Addr) (n cp : Nat) (B : List UInt8) (hB : BytesIn w p n cp B) (hT : Tabs w) (hn : n ≤ 140737488355328) (hat : 0 < n) (hc : Fx (B.getD 0 0).toNat) : Calls Tryz.prog 25 #[.slice p n cp] w fun e w' => e = .returned (.bool (shortestS B)) ∧ Below w.heap.size w w' :=
  shortest_of w p n cp B hB hT hn (whole_fx w p n cp B hB hT hn hat hc)
set_option maxRecDepth 20000 in
theorem awake_fx (w : World) (hT : Tabs w) : Calls Tryz.prog 6 #[] w fun e w' => e = .returned (.bool true) ∧ Below w.heap.size w w' := by
  have HT := Lib.hid hT
  clear hT
  go_enter Tryz.func6, Tryz.ntmps6
  go_upto_region 2 with (first
    | refine wpList_build2 rfl (.tmp 14) (.tmp 15) rfl _ _ _ _ _ _ _ _ _ _ rfl rfl ?_
    | refine wpList_store_rowTo rfl 25 (.tmp 1) (.tmp 17) rfl rfl (w.heap.size + 1) #[.int .i64 21, .int .u64 0, .string ⟨#[]⟩, .slice (some ⟨w.heap.size, 0, none⟩) 2 2, .int .i64 0] rfl rfl 25 zR (by rw [show w.heap.size + 1 = (w.alloc (.cells #[.int .i64 1, .int .u64 1, .string ⟨#[]⟩, .slice none 0 0, .int .i64 0, .int .i64 4, .int .u64 1, .string ⟨#[]⟩, .slice none 0 0, .int .i64 0] 25)).heap.size by simp]; exact _root_.Go.heap_alloc_new _ _) (by as_aux_lemma => kernel_rfl) (by as_aux_lemma => kernel_rfl) (by simp [Value.oneCell']) ?_)
  have hz1 : (w.alloc (.cells #[.int .i64 1, .int .u64 1, .string ⟨#[]⟩, .slice none 0 0, .int .i64 0, .int .i64 4, .int .u64 1, .string ⟨#[]⟩, .slice none 0 0, .int .i64 0] 25)).heap.size = w.heap.size + 1 := by simp
  have hb1 : Below w.heap.size w (((w.alloc (.cells #[.int .i64 1, .int .u64 1, .string ⟨#[]⟩, .slice none 0 0, .int .i64 0, .int .i64 4, .int .u64 1, .string ⟨#[]⟩, .slice none 0 0, .int .i64 0] 25)).alloc (.cells zR 25)).setRow (w.heap.size + 1) #[.int .i64 21, .int .u64 0, .string ⟨#[]⟩, .slice (some ⟨w.heap.size, 0, none⟩) 2 2, .int .i64 0]) := below_setRow ((((Below.refl w.heap.size w).alloc (Nat.le_refl _) _)).alloc (by rw [hz1]; omega) _) (by omega) _
  have o1 : ((w.alloc (.cells #[.int .i64 1, .int .u64 1, .string ⟨#[]⟩, .slice none 0 0, .int .i64 0, .int .i64 4, .int .u64 1, .string ⟨#[]⟩, .slice none 0 0, .int .i64 0] 25)).alloc (.cells zR 25)).heap[w.heap.size + 1]? = some (.cells zR 25 (0, 0)) := by rw [← hz1]; exact _root_.Go.heap_alloc_new _ _
  have ox := setRow_heap ((w.alloc (.cells #[.int .i64 1, .int .u64 1, .string ⟨#[]⟩, .slice none 0 0, .int .i64 0, .int .i64 4, .int .u64 1, .string ⟨#[]⟩, .slice none 0 0, .int .i64 0] 25)).alloc (.cells zR 25)) (w.heap.size + 1) _ #[.int .i64 21, .int .u64 0, .string ⟨#[]⟩, .slice (some ⟨w.heap.size, 0, none⟩) 2 2, .int .i64 0] _ _ o1
  have og : (((w.alloc (.cells #[.int .i64 1, .int .u64 1, .string ⟨#[]⟩, .slice none 0 0, .int .i64 0, .int .i64 4, .int .u64 1, .string ⟨#[]⟩, .slice none 0 0, .int .i64 0] 25)).alloc (.cells zR 25)).setRow (w.heap.size + 1) #[.int .i64 21, .int .u64 0, .string ⟨#[]⟩, .slice (some ⟨w.heap.size, 0, none⟩) 2 2, .int .i64 0]).heap[w.heap.size]? = some (.cells #[.int .i64 1, .int .u64 1, .string ⟨#[]⟩, .slice none 0 0, .int .i64 0, .int .i64 4, .int .u64 1, .string ⟨#[]⟩, .slice none 0 0, .int .i64 0] 25 (0, 0)) := (setRow_other _ (w.heap.size + 1) w.heap.size _ (by omega)).trans ((Go.heap_alloc_old (w.alloc (.cells #[.int .i64 1, .int .u64 1, .string ⟨#[]⟩, .slice none 0 0, .int .i64 0, .int .i64 4, .int .u64 1, .string ⟨#[]⟩, .slice none 0 0, .int .i64 0] 25)) (.cells zR 25) (by rw [hz1]; omega)).trans (_root_.Go.heap_alloc_new _ _))
  change Code.wp _ _ _ _ (((w.alloc (.cells #[.int .i64 1, .int .u64 1, .string ⟨#[]⟩, .slice none 0 0, .int .i64 0, .int .i64 4, .int .u64 1, .string ⟨#[]⟩, .slice none 0 0, .int .i64 0] 25)).alloc (.cells zR 25)).setRow (w.heap.size + 1) #[.int .i64 21, .int .u64 0, .string ⟨#[]⟩, .slice (some ⟨w.heap.size, 0, none⟩) 2 2, .int .i64 0])
  generalize (((w.alloc (.cells #[.int .i64 1, .int .u64 1, .string ⟨#[]⟩, .slice none 0 0, .int .i64 0, .int .i64 4, .int .u64 1, .string ⟨#[]⟩, .slice none 0 0, .int .i64 0] 25)).alloc (.cells zR 25)).setRow (w.heap.size + 1) #[.int .i64 21, .int .u64 0, .string ⟨#[]⟩, .slice (some ⟨w.heap.size, 0, none⟩) 2 2, .int .i64 0]) = w1 at *
  obtain ⟨g, hg⟩ : ∃ g, w.heap.size = g := ⟨_, rfl⟩
  rw [hg] at ox og ⊢
  have hvo := (VO.pair (w := w1) (B := g) (a := awA) (b := awB) (s := .slice none 0 0) (t := .slice none 0 0) og (VO.nil w1 g awA_wf rfl) (VO.nil w1 g awB_wf rfl) (fun _ h _ => h.elim) (fun h => h.elim) (fun h => h.elim) (Nat.le_refl _)).as (v' := aw) rfl aw_wf
  have HV := Lib.hid hvo.vin
  have H1 := Lib.hid (And.intro hb1 ox)
  have HW := Lib.hid (show aw.wt ≤ 2000000 by
    have : aw.wt = 3 := by kernel_rfl
    omega)
  clear hz1 hb1 o1 ox og hg hvo
  have x0 : w1.cell? ⟨g + 1, 0, none⟩ = some (.int .i64 21) := (cell_of_row _ _ 0 _ _ _ H1.out.2).trans rfl
  have x1 : w1.cell? ⟨g + 1, 1, none⟩ = some (.int .u64 0) := (cell_of_row _ _ 1 _ _ _ H1.out.2).trans rfl
  have x2 : w1.cell? ⟨g + 1, 2, none⟩ = some (.string ⟨#[]⟩) := (cell_of_row _ _ 2 _ _ _ H1.out.2).trans rfl
  have x3 : w1.cell? ⟨g + 1, 3, none⟩ = some (.slice (some ⟨g, 0, none⟩) 2 2) := (cell_of_row _ _ 3 _ _ _ H1.out.2).trans rfl
  have x4 : w1.cell? ⟨g + 1, 4, none⟩ = some (.int .i64 0) := (cell_of_row _ _ 4 _ _ _ H1.out.2).trans rfl
  go_wp2_with fail
  refine (encode_any aw w1 _ HV.out (HT.out.below H1.out.1) HW.out).mono ?_
  rintro e w2 ⟨u, rfl, hou, hb2⟩
  rw [aw_enc] at hou ⊢
  simp only at hou ⊢
  obtain ⟨pu, cu, hu, _⟩ := hou.bytes
  subst hu
  have y0 := bs_cellV hb2 x0
  have y1 := bs_cellV hb2 x1
  have y2 := bs_cellV hb2 x2
  have y3 := bs_cellV hb2 x3
  have y4 := bs_cellV hb2 x4
  have HU := Lib.hid hou
  have H2 := Lib.hid (And.intro (H1.out.1.trans (hb2.mono H1.out.1.size)) hb2)
  clear x0 x1 x2 x3 x4 hou hb2
  go_wp2_with fail
  refine (length_any aw w2 _ (HV.out.blw H2.out.2) (HT.out.below H2.out.1) HW.out).mono ?_
  rintro e w3 ⟨rfl, hb3⟩
  rw [aw_enc]
  have H3 := Lib.hid (And.intro (H2.out.1.trans (hb3.mono H2.out.1.size)) (HU.out.of_below hb3))
  clear y0 y1 y2 y3 y4 hb3
  go_wp2_with fail
  have hla := own_litL w3 w3.heap.size [64, 86, 1] (by decide) (Nat.le_refl _) #[.int .u8 64, .int .u8 86, .int .u8 1] rfl 3 rfl
  have hbla : Below w3.heap.size w3 (w3.alloc (.cells #[.int .u8 64, .int .u8 86, .int .u8 1] 5)) := (Below.refl _ _).alloc (Nat.le_refl _) _
  change Calls _ _ _ (w3.alloc (.cells #[.int .u8 64, .int .u8 86, .int .u8 1] 5)) _
  generalize w3.alloc (.cells #[.int .u8 64, .int .u8 86, .int .u8 1] 5) = wla at *
  have HLa := Lib.hid (And.intro (H3.out.1.trans (hbla.mono H3.out.1.size)) (And.intro hla hbla))
  clear hla hbla
  refine (decode_fx wla _ 3 3 [64, 86, 1] HLa.out.2.1.sl.2 (HT.out.below HLa.out.1) (by omega) 1 1 rfl (by decide) (by decide)).mono ?_
  rintro e w4 ⟨s6, F6, rfl, hvo6, hb4⟩
  have hd4 : decS [64, 86, 1] 1 = (.mk 1 1 ⟨#[]⟩ [] 0, 3, 0) := aw_dec
  rw [hd4] at hvo6 ⊢
  simp only at hvo6 ⊢
  obtain ⟨p6, c6, hs6, _, _⟩ := hvo6.slice
  subst hs6
  have H4 := Lib.hid (And.intro (HLa.out.1.trans (hb4.mono HLa.out.1.size)) ((H3.out.2.of_below HLa.out.2.2).of_below hb4))
  clear hd4 hvo6 hb4
  go_upto_region 5 with (refine wpList_store_rowTo rfl 25 (.tmp 6) (.tmp 31) rfl rfl w4.heap.size #[.int .i64 1, .int .u64 1, .string ⟨#[]⟩, .slice p6 0 c6, .int .i64 0] rfl rfl 25 zR (_root_.Go.heap_alloc_new _ _) (by as_aux_lemma => kernel_rfl) (by as_aux_lemma => kernel_rfl) (by simp [Value.oneCell']) ?_)
  have hb5 : Below w4.heap.size w4 ((w4.alloc (.cells zR 25)).setRow w4.heap.size #[.int .i64 1, .int .u64 1, .string ⟨#[]⟩, .slice p6 0 c6, .int .i64 0]) := below_setRow ((Below.refl _ _).alloc (Nat.le_refl _) _) (Nat.le_refl _) _
  have o6 := setRow_heap (w4.alloc (.cells zR 25)) w4.heap.size _ #[.int .i64 1, .int .u64 1, .string ⟨#[]⟩, .slice p6 0 c6, .int .i64 0] _ _ (_root_.Go.heap_alloc_new w4 _)
  change Code.wp _ _ _ _ ((w4.alloc (.cells zR 25)).setRow w4.heap.size #[.int .i64 1, .int .u64 1, .string ⟨#[]⟩, .slice p6 0 c6, .int .i64 0])
  generalize ((w4.alloc (.cells zR 25)).setRow w4.heap.size #[.int .i64 1, .int .u64 1, .string ⟨#[]⟩, .slice p6 0 c6, .int .i64 0]) = w5 at *
  obtain ⟨x6, hx6⟩ : ∃ x6, w4.heap.size = x6 := ⟨_, rfl⟩
  rw [hx6] at o6 ⊢
  have H5 := Lib.hid (And.intro (H4.out.1.trans (hb5.mono H4.out.1.size)) (And.intro (H4.out.2.of_below hb5) o6))
  clear hb5 o6 hx6
  go_wp2_with fail
  have hlb := own_litL w5 w5.heap.size [64, 64] (by decide) (Nat.le_refl _) #[.int .u8 64, .int .u8 64] rfl 2 rfl
  have hblb : Below w5.heap.size w5 (w5.alloc (.cells #[.int .u8 64, .int .u8 64] 5)) := (Below.refl _ _).alloc (Nat.le_refl _) _
  change Calls _ _ _ (w5.alloc (.cells #[.int .u8 64, .int .u8 64] 5)) _
  generalize w5.alloc (.cells #[.int .u8 64, .int .u8 64] 5) = wlb at *
  have HLb := Lib.hid (And.intro (H5.out.1.trans (hblb.mono H5.out.1.size)) (And.intro hlb hblb))
  clear hlb hblb
  refine (whole_fx wlb _ 2 2 [64, 64] HLb.out.2.1.sl.2 (HT.out.below HLb.out.1) (by omega) (by decide) (by decide)).mono ?_
  rintro e w6 ⟨s9, F9, rfl, hvo9, hb6⟩
  have hd6 : wholeS [64, 64] = (zeroV, 1, 35) := aw_whole
  rw [hd6] at hvo9 ⊢
  simp only at hvo9 ⊢
  obtain ⟨p9, c9, hs9, _, _⟩ := hvo9.slice
  subst hs9
  have hbb6 := HLb.out.2.2.trans (hb6.mono HLb.out.2.2.size)
  have H6 := Lib.hid (And.intro (H5.out.1.trans (hbb6.mono H5.out.1.size)) (And.intro (H5.out.2.1.of_below hbb6) ((hbb6.block x6 (gl H5.out.2.2)).trans H5.out.2.2)))
  clear hd6 hvo9 hb6 hbb6
  go_upto_region 6 with (refine wpList_store_rowTo rfl 25 (.tmp 9) (.tmp 37) rfl rfl w6.heap.size #[.int .i64 zeroV.kind, .int .u64 zeroV.num, .string zeroV.text, .slice p9 zeroV.list.length c9, .int .i64 zeroV.elem] rfl rfl 25 zR (_root_.Go.heap_alloc_new _ _) (by as_aux_lemma => kernel_rfl) (by as_aux_lemma => kernel_rfl) (by simp [Value.oneCell']) ?_)
  have hb7 : Below w6.heap.size w6 ((w6.alloc (.cells zR 25)).setRow w6.heap.size #[.int .i64 zeroV.kind, .int .u64 zeroV.num, .string zeroV.text, .slice p9 zeroV.list.length c9, .int .i64 zeroV.elem]) := below_setRow ((Below.refl _ _).alloc (Nat.le_refl _) _) (Nat.le_refl _) _
  change Code.wp _ _ _ _ ((w6.alloc (.cells zR 25)).setRow w6.heap.size #[.int .i64 zeroV.kind, .int .u64 zeroV.num, .string zeroV.text, .slice p9 zeroV.list.length c9, .int .i64 zeroV.elem])
  generalize ((w6.alloc (.cells zR 25)).setRow w6.heap.size #[.int .i64 zeroV.kind, .int .u64 zeroV.num, .string zeroV.text, .slice p9 zeroV.list.length c9, .int .i64 zeroV.elem]) = w7 at *
  have H7 := Lib.hid (And.intro (H6.out.1.trans (hb7.mono H6.out.1.size)) (And.intro (H6.out.2.1.of_below hb7) ((hb7.block x6 (gl H6.out.2.2)).trans H6.out.2.2)))
  clear hb7
  go_wp2_with fail
  have hlc := own_litL w7 w7.heap.size [82, 255] (by decide) (Nat.le_refl _) #[.int .u8 82, .int .u8 255] rfl 2 rfl
  have hblc : Below w7.heap.size w7 (w7.alloc (.cells #[.int .u8 82, .int .u8 255] 5)) := (Below.refl _ _).alloc (Nat.le_refl _) _
  change Calls _ _ _ (w7.alloc (.cells #[.int .u8 82, .int .u8 255] 5)) _
  generalize w7.alloc (.cells #[.int .u8 82, .int .u8 255] 5) = wlc at *
  have HLc := Lib.hid (And.intro (H7.out.1.trans (hblc.mono H7.out.1.size)) (And.intro hlc hblc))
  clear hlc hblc
  refine (shortest_fx wlc _ 2 2 [82, 255] HLc.out.2.1.sl.2 (HT.out.below HLc.out.1) (by omega) (by decide) (by decide)).mono ?_
  rintro e w8 ⟨rfl, hb8⟩
  have hd8 : shortestS [82, 255] = true := aw_short
  rw [hd8]
  have hbb8 := HLc.out.2.2.trans (hb8.mono HLc.out.2.2.size)
  have H8 := Lib.hid (And.intro (H7.out.1.trans (hbb8.mono H7.out.1.size)) (And.intro (H7.out.2.1.of_below hbb8) ((hbb8.block x6 (gl H7.out.2.2)).trans H7.out.2.2)))
  clear hd8 hb8 hbb8
  go_wp2_with fail
  have hld := own_litL w8 w8.heap.size [112, 0, 0, 0, 255] (by decide) (Nat.le_refl _) #[.int .u8 112, .int .u8 0, .int .u8 0, .int .u8 0, .int .u8 255] rfl 5 rfl
  have hbld : Below w8.heap.size w8 (w8.alloc (.cells #[.int .u8 112, .int .u8 0, .int .u8 0, .int .u8 0, .int .u8 255] 5)) := (Below.refl _ _).alloc (Nat.le_refl _) _
  change Calls _ _ _ (w8.alloc (.cells #[.int .u8 112, .int .u8 0, .int .u8 0, .int .u8 0, .int .u8 255] 5)) _
  generalize w8.alloc (.cells #[.int .u8 112, .int .u8 0, .int .u8 0, .int .u8 0, .int .u8 255] 5) = wld at *
  have HLd := Lib.hid (And.intro (H8.out.1.trans (hbld.mono H8.out.1.size)) (And.intro hld hbld))
  clear hld hbld
  refine (shortest_fx wld _ 5 5 [112, 0, 0, 0, 255] HLd.out.2.1.sl.2 (HT.out.below HLd.out.1) (by omega) (by decide) (by decide)).mono ?_
  rintro e w9 ⟨rfl, hb9⟩
  have hd9 : shortestS [112, 0, 0, 0, 255] = false := aw_long
  rw [hd9]
  have hbb9 := HLd.out.2.2.trans (hb9.mono HLd.out.2.2.size)
  have ou := H8.out.2.1.of_below hbb9
  have o6 := (hbb9.block x6 (gl H8.out.2.2)).trans H8.out.2.2
  have HB9 := Lib.hid (H8.out.1.trans (hbb9.mono H8.out.1.size))
  have hcv : (convert 28 9 (.slice pu 6 cu)).run Tryz.prog w9 = .ok (.string ⟨#[192, 4, 2, 65, 82, 1]⟩) w9 := run_string_bytes w9 _ _ 5 Tryz.underlying28 Tryz.underlying5 Tryz.underlying9 _ _ _ _ ou.sl.2
  have v0 : w9.cell? ⟨x6, 0, none⟩ = some (.int .i64 1) := (cell_of_row _ _ 0 _ _ _ o6).trans rfl
  have v1 : w9.cell? ⟨x6, 1, none⟩ = some (.int .u64 1) := (cell_of_row _ _ 1 _ _ _ o6).trans rfl
  clear hd9 hb9 hbb9 ou o6
  go_wp2_with fail
  go_ret
  exact ⟨rfl, HB9.out⟩
end Go.Proofs.YtnnnfhobbnjmfaaGreatDoor

