/-
  The codec's reader: within. Conditions: the reader and its bytes lie in memory; what reads the span keeps its contract.
-/
import Derived.Test.YtjipennigjlklaaDoorEi
namespace Go.Proofs.YtjipennigjlklaaDoor
open Go.RowKit
set_option linter.unusedVariables false
set_option maxHeartbeats 4000000

attribute [local go_sem] Oper.semAt_some

set_option maxRecDepth 20000 in
theorem within_short1 (wd least : Nat) (fv : Value) (w : World) (r : Nat) (p : Option Addr) (n cp at_ en : Nat) (sz own : Int) (B : List UInt8) (h : RdIn w r p n cp at_ en sz B) (hs : en < at_ + wd) :
    Calls Tryd.prog 61 #[.pointer (some ⟨r, 0, none⟩), .int .i64 (wd : Nat), .int .i64 (least : Nat), fv] w fun e w' => e = faultE (shP n sz) (shC sz) ∧ KeepF (fun g => g = r) w w' := by
  have HN := Lib.hid (show ∀ W, RdIn W r p n cp at_ en sz B → Calls Tryd.prog 60 #[.pointer (some ⟨r, 0, none⟩), .int .i64 (wd : Nat)] W fun e w' => e = faultE (shP n sz) (shC sz) ∧ Below W.heap.size W w' from fun W hW => number_bad W r p n cp at_ en sz hW.row wd hW.ha hs hW.hen hW.hn)
  clear hs
  have r1 : w.cell? ⟨r, 1, none⟩ = some (.int .i64 (at_ : Nat)) := (cell_of_row _ _ 1 _ _ _ h.row).trans rfl
  have HR0 := Lib.hid h
  have hlt := Lib.hid h.lt
  clear h
  go_enter Tryd.func61, Tryd.ntmps61
  go_wp2_with fail
  clear r1
  refine (HN.out _ HR0.out).mono ?_
  rintro e w3 ⟨rfl, hb3⟩
  exact ⟨rfl, rfl, KeepF.of_below hb3⟩
set_option maxRecDepth 20000 in
theorem within_small (wd least : Nat) (fv : Value) (w : World) (r : Nat) (p : Option Addr) (n cp at_ en : Nat) (sz own : Int) (B : List UInt8) (h : RdIn w r p n cp at_ en sz B) (h1 : 1 ≤ wd) (h4 : wd ≤ 4) (N a1 : Nat) (hN : nAt B at_ wd = N) (ha1 : at_ + wd = a1) (hs1 : a1 ≤ en) (hs : N < least) :
    Calls Tryd.prog 61 #[.pointer (some ⟨r, 0, none⟩), .int .i64 (wd : Nat), .int .i64 (least : Nat), fv] w fun e w' => e = faultE (at_ : Nat) 32 ∧ KeepF (fun g => g = r) w w' := by
  have HN := Lib.hid (show ∀ W, RdIn W r p n cp at_ en sz B → Calls Tryd.prog 60 #[.pointer (some ⟨r, 0, none⟩), .int .i64 (wd : Nat)] W fun e w' => e = .returned (.int .u64 N) ∧ RdMv W w' r #[.slice p n cp, .int .i64 (a1 : Nat), .int .i64 (en : Nat), .int .i64 sz] from fun W hW => (number_ok W r p n cp at_ en sz hW.row B hW.src.bytes wd h1 (by omega) hW.ha (by omega) hW.hen hW.hn).mono (fun e w' q => ⟨by rw [← hN]; exact q.1, q.2.eq (by omega)⟩))
  have hwn : wrap64 ((N : Nat) : Int) = (N : Nat) := by
    have := nAt_lt (B := B) (at_ := at_) (wd := wd)
    have h2 : 256 ^ wd ≤ 256 ^ 4 := Nat.pow_le_pow_right (by omega) h4
    have h3 : 256 ^ 4 = 4294967296 := by decide
    unfold wrap64
    omega
  have hd : decide (N < least) = true := by simp; omega
  have hs1' := Lib.hid hs1
  clear hs hs1 hN ha1 h1 h4
  have r1 : w.cell? ⟨r, 1, none⟩ = some (.int .i64 (at_ : Nat)) := (cell_of_row _ _ 1 _ _ _ h.row).trans rfl
  have HR0 := Lib.hid h
  have hlt := Lib.hid h.lt
  clear h
  go_enter Tryd.func61, Tryd.ntmps61
  go_wp2_with fail
  clear r1
  refine (HN.out _ HR0.out).mono ?_
  rintro e w3 ⟨rfl, hmv⟩
  have HMV := Lib.hid hmv
  have HR3 := Lib.hid (HR0.out.mv hmv hs1'.out)
  clear hmv
  go_wp2_with fail
  refine (wrong_any _ _ _).mono ?_
  rintro e w5 ⟨rfl, rfl⟩
  exact ⟨rfl, rfl, HMV.out.keep⟩
set_option maxRecDepth 20000 in
theorem within_short2 (wd least : Nat) (fv : Value) (w : World) (r : Nat) (p : Option Addr) (n cp at_ en : Nat) (sz own : Int) (B : List UInt8) (h : RdIn w r p n cp at_ en sz B) (h1 : 1 ≤ wd) (h4 : wd ≤ 4) (N a1 : Nat) (hN : nAt B at_ wd = N) (ha1 : at_ + wd = a1) (hs1 : a1 ≤ en) (hl : least ≤ N) (hs : en < a1 + N) :
    Calls Tryd.prog 61 #[.pointer (some ⟨r, 0, none⟩), .int .i64 (wd : Nat), .int .i64 (least : Nat), fv] w fun e w' => e = faultE (shP n sz) (shC sz) ∧ KeepF (fun g => g = r) w w' := by
  have HN := Lib.hid (show ∀ W, RdIn W r p n cp at_ en sz B → Calls Tryd.prog 60 #[.pointer (some ⟨r, 0, none⟩), .int .i64 (wd : Nat)] W fun e w' => e = .returned (.int .u64 N) ∧ RdMv W w' r #[.slice p n cp, .int .i64 (a1 : Nat), .int .i64 (en : Nat), .int .i64 sz] from fun W hW => (number_ok W r p n cp at_ en sz hW.row B hW.src.bytes wd h1 (by omega) hW.ha (by omega) hW.hen hW.hn).mono (fun e w' q => ⟨by rw [← hN]; exact q.1, q.2.eq (by omega)⟩))
  have hwn : wrap64 ((N : Nat) : Int) = (N : Nat) := by
    have := nAt_lt (B := B) (at_ := at_) (wd := wd)
    have h2 : 256 ^ wd ≤ 256 ^ 4 := Nat.pow_le_pow_right (by omega) h4
    have h3 : 256 ^ 4 = 4294967296 := by decide
    unfold wrap64
    omega
  have HNE := Lib.hid (show ∀ W, RdIn W r p n cp a1 en sz B → Calls Tryd.prog 32 #[.pointer (some ⟨r, 0, none⟩), .int .i64 (N : Nat)] W fun e w' => e = faultE (shP n sz) (shC sz) ∧ Below W.heap.size W w' from fun W hW => need_bad W r p n cp a1 en sz hW.row N hW.ha hs (by have := hW.hen; have := hW.hn; omega) hW.hn)
  have hd : decide (N < least) = false := by simp; omega
  have hs1' := Lib.hid hs1
  clear hs hs1 hN ha1 h1 h4 hl
  have r1 : w.cell? ⟨r, 1, none⟩ = some (.int .i64 (at_ : Nat)) := (cell_of_row _ _ 1 _ _ _ h.row).trans rfl
  have HR0 := Lib.hid h
  have hlt := Lib.hid h.lt
  clear h
  go_enter Tryd.func61, Tryd.ntmps61
  go_wp2_with fail
  clear r1
  refine (HN.out _ HR0.out).mono ?_
  rintro e w3 ⟨rfl, hmv⟩
  have HMV := Lib.hid hmv
  have HR3 := Lib.hid (HR0.out.mv hmv hs1'.out)
  clear hmv
  go_wp2_with fail
  refine (HNE.out _ HR3.out).mono ?_
  rintro e w4 ⟨rfl, hb4⟩
  exact ⟨rfl, rfl, HMV.out.keep.trans (KeepF.of_below hb4)⟩
set_option maxRecDepth 20000 in
theorem within_s (wd least : Nat) (c1 c2 c3 c4 c5 : Value) (w : World) (r : Nat) (p : Option Addr) (n cp at_ en : Nat) (sz own : Int) (B : List UInt8) (h : RdIn w r p n cp at_ en sz B) (h1 : 1 ≤ wd) (h4 : wd ≤ 4) (N a1 : Nat) (hN : nAt B at_ wd = N) (ha1 : at_ + wd = a1) (a2 : Nat) (ha2 : a1 + N = a2) (hl : least ≤ N) (hs : a2 ≤ en) (R : Ending → World → Prop)
    (hc : ∀ W q, w.heap.size ≤ q → KeepF (fun g => g = r) w W → RdIn W r p n cp a1 en sz B → RdIn W q p n cp a1 a2 (at_ : Nat) B → Calls Tryd.prog 62 #[.pointer (some ⟨q, 0, none⟩), c1, c2, c3, c4, c5] W fun e w' => (∃ ps, e = .panicked ps ∧ R e w') ∨
      (e = .returned (.tuple #[]) ∧ w'.heap[r]? = W.heap[r]? ∧ (∃ a3 : Nat, w'.heap[q]? = some (.cells #[.slice p n cp, .int .i64 (a3 : Nat), .int .i64 (a2 : Nat), .int .i64 (at_ : Nat)] 49 (0, 0))) ∧ ∀ w2, RdMv w' w2 r #[.slice p n cp, .int .i64 (a2 : Nat), .int .i64 (en : Nat), .int .i64 sz] → R (.returned (.tuple #[])) w2)) :
    Calls Tryd.prog 61 #[.pointer (some ⟨r, 0, none⟩), .int .i64 (wd : Nat), .int .i64 (least : Nat), .func (.func 62) #[] #[c1, c2, c3, c4, c5]] w R := by
  have HN := Lib.hid (show ∀ W, RdIn W r p n cp at_ en sz B → Calls Tryd.prog 60 #[.pointer (some ⟨r, 0, none⟩), .int .i64 (wd : Nat)] W fun e w' => e = .returned (.int .u64 N) ∧ RdMv W w' r #[.slice p n cp, .int .i64 (a1 : Nat), .int .i64 (en : Nat), .int .i64 sz] from fun W hW => (number_ok W r p n cp at_ en sz hW.row B hW.src.bytes wd h1 (by omega) hW.ha (by omega) hW.hen hW.hn).mono (fun e w' q => ⟨by rw [← hN]; exact q.1, q.2.eq (by omega)⟩))
  have hwn : wrap64 ((N : Nat) : Int) = (N : Nat) := by
    have := nAt_lt (B := B) (at_ := at_) (wd := wd)
    have h2 : 256 ^ wd ≤ 256 ^ 4 := Nat.pow_le_pow_right (by omega) h4
    have h3 : 256 ^ 4 = 4294967296 := by decide
    unfold wrap64
    omega
  have HNE := Lib.hid (show ∀ W, RdIn W r p n cp a1 en sz B → Calls Tryd.prog 32 #[.pointer (some ⟨r, 0, none⟩), .int .i64 (N : Nat)] W fun e w' => e = .returned (.tuple #[]) ∧ Below W.heap.size W w' from fun W hW => need_ok W r p n cp a1 en sz hW.row N hW.ha (by omega) (by have := hW.hen; have := hW.hn; omega))
  have hd : decide (N < least) = false := by simp; omega
  have hs1' := Lib.hid (show a1 ≤ en by omega)
  have hs2' := Lib.hid (And.intro (show a1 ≤ a2 by omega) hs)
  have hadd : wrap64 ((a1 : Nat) + (N : Nat) : Int) = (a2 : Nat) := by have := h.hen; have := h.hn; unfold wrap64; omega
  have hadd2 : IntKind.i64.wrap ((a1 : Nat) + (N : Nat) : Int) = (a2 : Nat) := by have := h.hen; have := h.hn; rw [IntWalk.i64_in _ (by omega)]; omega
  have HC := Lib.hid hc
  clear hc hs hN ha1 h1 h4 hl ha2
  have r1 : w.cell? ⟨r, 1, none⟩ = some (.int .i64 (at_ : Nat)) := (cell_of_row _ _ 1 _ _ _ h.row).trans rfl
  have HR0 := Lib.hid h
  have hlt := Lib.hid h.lt
  clear h
  go_enter Tryd.func61, Tryd.ntmps61
  go_wp2_with fail
  clear r1
  refine (HN.out _ HR0.out).mono ?_
  rintro e w3 ⟨rfl, hmv⟩
  have HMV := Lib.hid hmv
  have HR3 := Lib.hid (HR0.out.mv hmv hs1'.out)
  clear hmv
  go_wp2_with fail
  refine (HNE.out _ HR3.out).mono ?_
  rintro e w4 ⟨rfl, hb4⟩
  have HR4 := Lib.hid (HR3.out.blw hb4)
  have HB4 := Lib.hid hb4
  clear hb4
  go_upto_region 5 with fail
  refine wp_region_heldN (fun V => RdIn V r p n cp a1 en sz B) 18 rfl (by kernel_rfl) ?_
  have hS : RdIn w4.drew r p n cp a1 en sz B := HR4.out.blw (bdrew (Below.refl _ _))
  refine tkD (i := 0) (v := .pointer (some ⟨r, 0, none⟩)) (some 27) rfl rfl (by kernel_rfl) (fun _ _ _ h => h) (Or.inl ⟨by rfl, by rintro V h0; go_simp⟩) hS ?_
  try simp only [Act.put, sA, sB, sC]
  refine tkD (i := 1) (v := .pointer (some ⟨r, 0, none⟩)) (some 28) rfl rfl (by kernel_rfl) (fun _ _ _ h => h) (Or.inl ⟨by rfl, by rintro V h0; go_simp⟩) hS ?_
  try simp only [Act.put, sA, sB, sC]
  refine tkD (i := 2) (v := .pointer (some ⟨r, 0, none⟩)) (some 29) rfl rfl (by kernel_rfl) (fun _ _ _ h => h) (Or.inl ⟨by rfl, by rintro V h0; go_simp⟩) hS ?_
  try simp only [Act.put, sA, sB, sC]
  refine tkD (i := 3) (v := .slice p n cp) (some 30) rfl rfl (by kernel_rfl) (fun _ _ _ h => h) (Or.inl ⟨by rfl, by rintro V h0; have y0 := (cell_of_row V _ 0 _ _ _ h0.row).trans rfl; have y1 := (cell_of_row V _ 1 _ _ _ h0.row).trans rfl; go_simp⟩) hS ?_
  try simp only [Act.put, sA, sB, sC]
  refine tkD (i := 4) (v := .pointer (some ⟨r, 0, none⟩)) (some 31) rfl rfl (by kernel_rfl) (fun _ _ _ h => h) (Or.inl ⟨by rfl, by rintro V h0; go_simp⟩) hS ?_
  try simp only [Act.put, sA, sB, sC]
  refine tkD (i := 5) (v := .pointer (some ⟨r, 0, none⟩)) (some 32) rfl rfl (by kernel_rfl) (fun _ _ _ h => h) (Or.inl ⟨by rfl, by rintro V h0; go_simp⟩) hS ?_
  try simp only [Act.put, sA, sB, sC]
  refine tkD (i := 6) (v := .pointer (some ⟨r, 1, none⟩)) (some 33) rfl rfl (by kernel_rfl) (fun _ _ _ h => h) (Or.inl ⟨by rfl, by rintro V h0; go_simp⟩) hS ?_
  try simp only [Act.put, sA, sB, sC]
  refine tkD (i := 7) (v := .int .i64 (a1 : Nat)) (some 34) rfl rfl (by kernel_rfl) (fun _ _ _ h => h) (Or.inl ⟨by rfl, by rintro V h0; have y0 := (cell_of_row V _ 0 _ _ _ h0.row).trans rfl; have y1 := (cell_of_row V _ 1 _ _ _ h0.row).trans rfl; go_simp⟩) hS ?_
  try simp only [Act.put, sA, sB, sC]
  refine tkD (i := 8) (v := .pointer (some ⟨r, 0, none⟩)) (some 35) rfl rfl (by kernel_rfl) (fun _ _ _ h => h) (Or.inl ⟨by rfl, by rintro V h0; go_simp⟩) hS ?_
  try simp only [Act.put, sA, sB, sC]
  refine tkD (i := 9) (v := .pointer (some ⟨r, 0, none⟩)) (some 36) rfl rfl (by kernel_rfl) (fun _ _ _ h => h) (Or.inl ⟨by rfl, by rintro V h0; go_simp⟩) hS ?_
  try simp only [Act.put, sA, sB, sC]
  refine tkD (i := 10) (v := .pointer (some ⟨r, 1, none⟩)) (some 37) rfl rfl (by kernel_rfl) (fun _ _ _ h => h) (Or.inl ⟨by rfl, by rintro V h0; go_simp⟩) hS ?_
  try simp only [Act.put, sA, sB, sC]
  refine tkD (i := 11) (v := .int .i64 (a1 : Nat)) (some 38) rfl rfl (by kernel_rfl) (fun _ _ _ h => h) (Or.inl ⟨by rfl, by rintro V h0; have y0 := (cell_of_row V _ 0 _ _ _ h0.row).trans rfl; have y1 := (cell_of_row V _ 1 _ _ _ h0.row).trans rfl; go_simp⟩) hS ?_
  try simp only [Act.put, sA, sB, sC]
  refine tkD (i := 12) (v := .int .i64 (N : Nat)) (some 39) rfl rfl (by kernel_rfl) (fun _ _ _ h => h) (Or.inl ⟨by rfl, by rintro V h0; go_simp⟩) hS ?_
  try simp only [Act.put, sA, sB, sC]
  refine tkD (i := 13) (v := .int .i64 (a2 : Nat)) (some 40) rfl rfl (by kernel_rfl) (fun _ _ _ h => h) (Or.inl ⟨by rfl, by rintro V h0; go_simp⟩) hS ?_
  try simp only [Act.put, sA, sB, sC]
  refine tkD (i := 14) (v := .int .i64 (at_ : Nat)) (some 41) rfl rfl (by kernel_rfl) (fun _ _ _ h => h) (Or.inl ⟨by rfl, by rintro V h0; go_simp⟩) hS ?_
  try simp only [Act.put, sA, sB, sC]
  refine tkD (i := 15) (v := .agg #[.slice p n cp, .int .i64 (a1 : Nat), .int .i64 (a2 : Nat), .int .i64 (at_ : Nat)]) (some 42) rfl rfl (by kernel_rfl) (fun _ _ _ h => h) (Or.inl ⟨by rfl, by rintro V h0; go_simp⟩) hS ?_
  try simp only [Act.put, sA, sB, sC]
  have hS2 : RdIn (w4.alloc (.cells #[.slice p n cp, .int .i64 (a1 : Nat), .int .i64 (a2 : Nat), .int .i64 (at_ : Nat)] 49)).drew r p n cp a1 en sz B := hS.blw ((Below.refl _ _).alloc (Nat.le_refl _) _)
  refine oneH (i := 16) (by kernel_rfl) ?_
  refine stepD (i := 16) rfl (by rfl) (fun K5 h5 => ?_)
  go_simp
  refine h5.out _ _ hS2 ?_
  clear h5
  try simp only [Act.put, sA, sB, sC]
  have hb6 : Below w4.heap.size w4.drew (w4.alloc (.cells #[.slice p n cp, .int .i64 (a1 : Nat), .int .i64 (a2 : Nat), .int .i64 (at_ : Nat)] 49)).drew := (Below.refl w4.heap.size w4.drew).alloc (Nat.le_refl w4.heap.size) _
  have ox : (w4.alloc (.cells #[.slice p n cp, .int .i64 (a1 : Nat), .int .i64 (a2 : Nat), .int .i64 (at_ : Nat)] 49)).drew.heap[w4.heap.size]? = some (.cells #[.slice p n cp, .int .i64 (a1 : Nat), .int .i64 (a2 : Nat), .int .i64 (at_ : Nat)] 49 (0, 0)) := _root_.Go.heap_alloc_new w4.drew _
  generalize (w4.alloc (.cells #[.slice p n cp, .int .i64 (a1 : Nat), .int .i64 (a2 : Nat), .int .i64 (at_ : Nat)] 49)).drew = w5 at *
  obtain ⟨q, hq⟩ : ∃ q, w4.heap.size = q := ⟨_, rfl⟩
  rw [hq] at ox ⊢
  have HQ := Lib.hid (And.intro hq (And.intro hb6 ox))
  clear hq hb6 ox
  refine tkD (i := 17) (v := .pointer (some ⟨q, 0, none⟩)) (some 10) rfl rfl (by kernel_rfl) (fun _ _ _ h => h) (Or.inl ⟨by rfl, by rintro V h0; go_simp⟩) hS2 ?_
  try simp only [Act.put, sA, sB, sC]
  refine wpAnyH_done (by kernel_rfl) ?_ _
  have HR5 := Lib.hid hS2
  have HQ5 := Lib.hid (show RdIn w5 q p n cp a1 a2 (at_ : Nat) B from ⟨HQ.out.2.2, hS2.src.up (by have := HR4.out.lt; have := HQ.out.1; omega), hs2'.out.1, by have := hs2'.out.2; have := hS2.hen; omega, hS2.hn⟩)
  have HM5 := Lib.hid (HMV.out.keep.trans ((KeepF.of_below HB4.out).trans ((KeepF.of_below (bdrew (Below.refl _ _))).trans (KeepF.of_below HQ.out.2.1))))
  clear hS hS2
  go_wp2_with fail
  trace_state
  refine (HC.out _ _ (by have := HQ.out.1; have := HMV.out.keep.size; have := HB4.out.size; omega) HM5.out HR5.out HQ5.out).mono ?_
  rintro e w6 (⟨ps, rfl, hp⟩ | ⟨rfl, hr6, ⟨a3, hq6⟩, hfin⟩)
  · exact ⟨rfl, hp⟩
  have hr6' := hr6.trans HR5.out.row
  have q2 : w6.cell? ⟨q, 2, none⟩ = some (.int .i64 (a2 : Nat)) := (cell_of_row _ _ 2 _ _ _ hq6).trans rfl
  have r1 : w6.cell? ⟨r, 1, none⟩ = some (.int .i64 (a1 : Nat)) := (cell_of_row _ _ 1 _ _ _ hr6').trans rfl
  have fr : w6.frozen? ⟨r, 1, none⟩ = false := by simp [World.frozen?, hr6']
  have hk7 : KeepF (fun g => g = r) w6 (w6.setCell ⟨r, 1, none⟩ (.int .i64 (a2 : Nat))) := ⟨rfl, rfl, rfl, by simp, fun j hj hne => set_farV hne⟩
  have or7 := heap_setCell_same w6 r 1 _ _ (.int .i64 (a2 : Nat)) hr6'
  have HF := Lib.hid (hfin _ ⟨hk7, or7⟩)
  clear hk7 or7 hfin hr6 hr6' hq6
  go_wp2_with fail
  go_end0
  exact HF.out
set_option maxRecDepth 20000 in
theorem within_a (wd least : Nat) (c1 c2 c3 : Value) (w : World) (r : Nat) (p : Option Addr) (n cp at_ en : Nat) (sz own : Int) (B : List UInt8) (h : RdIn w r p n cp at_ en sz B) (h1 : 1 ≤ wd) (h4 : wd ≤ 4) (N a1 : Nat) (hN : nAt B at_ wd = N) (ha1 : at_ + wd = a1) (a2 : Nat) (ha2 : a1 + N = a2) (hl : least ≤ N) (hs : a2 ≤ en) (R : Ending → World → Prop)
    (hc : ∀ W q, w.heap.size ≤ q → KeepF (fun g => g = r) w W → RdIn W r p n cp a1 en sz B → RdIn W q p n cp a1 a2 (at_ : Nat) B → Calls Tryd.prog 65 #[.pointer (some ⟨q, 0, none⟩), c1, c2, c3] W fun e w' => (∃ ps, e = .panicked ps ∧ R e w') ∨
      (e = .returned (.tuple #[]) ∧ w'.heap[r]? = W.heap[r]? ∧ (∃ a3 : Nat, w'.heap[q]? = some (.cells #[.slice p n cp, .int .i64 (a3 : Nat), .int .i64 (a2 : Nat), .int .i64 (at_ : Nat)] 49 (0, 0))) ∧ ∀ w2, RdMv w' w2 r #[.slice p n cp, .int .i64 (a2 : Nat), .int .i64 (en : Nat), .int .i64 sz] → R (.returned (.tuple #[])) w2)) :
    Calls Tryd.prog 61 #[.pointer (some ⟨r, 0, none⟩), .int .i64 (wd : Nat), .int .i64 (least : Nat), .func (.func 65) #[] #[c1, c2, c3]] w R := by
  have HN := Lib.hid (show ∀ W, RdIn W r p n cp at_ en sz B → Calls Tryd.prog 60 #[.pointer (some ⟨r, 0, none⟩), .int .i64 (wd : Nat)] W fun e w' => e = .returned (.int .u64 N) ∧ RdMv W w' r #[.slice p n cp, .int .i64 (a1 : Nat), .int .i64 (en : Nat), .int .i64 sz] from fun W hW => (number_ok W r p n cp at_ en sz hW.row B hW.src.bytes wd h1 (by omega) hW.ha (by omega) hW.hen hW.hn).mono (fun e w' q => ⟨by rw [← hN]; exact q.1, q.2.eq (by omega)⟩))
  have hwn : wrap64 ((N : Nat) : Int) = (N : Nat) := by
    have := nAt_lt (B := B) (at_ := at_) (wd := wd)
    have h2 : 256 ^ wd ≤ 256 ^ 4 := Nat.pow_le_pow_right (by omega) h4
    have h3 : 256 ^ 4 = 4294967296 := by decide
    unfold wrap64
    omega
  have HNE := Lib.hid (show ∀ W, RdIn W r p n cp a1 en sz B → Calls Tryd.prog 32 #[.pointer (some ⟨r, 0, none⟩), .int .i64 (N : Nat)] W fun e w' => e = .returned (.tuple #[]) ∧ Below W.heap.size W w' from fun W hW => need_ok W r p n cp a1 en sz hW.row N hW.ha (by omega) (by have := hW.hen; have := hW.hn; omega))
  have hd : decide (N < least) = false := by simp; omega
  have hs1' := Lib.hid (show a1 ≤ en by omega)
  have hs2' := Lib.hid (And.intro (show a1 ≤ a2 by omega) hs)
  have hadd : wrap64 ((a1 : Nat) + (N : Nat) : Int) = (a2 : Nat) := by have := h.hen; have := h.hn; unfold wrap64; omega
  have hadd2 : IntKind.i64.wrap ((a1 : Nat) + (N : Nat) : Int) = (a2 : Nat) := by have := h.hen; have := h.hn; rw [IntWalk.i64_in _ (by omega)]; omega
  have HC := Lib.hid hc
  clear hc hs hN ha1 h1 h4 hl ha2
  have r1 : w.cell? ⟨r, 1, none⟩ = some (.int .i64 (at_ : Nat)) := (cell_of_row _ _ 1 _ _ _ h.row).trans rfl
  have HR0 := Lib.hid h
  have hlt := Lib.hid h.lt
  clear h
  go_enter Tryd.func61, Tryd.ntmps61
  go_wp2_with fail
  clear r1
  refine (HN.out _ HR0.out).mono ?_
  rintro e w3 ⟨rfl, hmv⟩
  have HMV := Lib.hid hmv
  have HR3 := Lib.hid (HR0.out.mv hmv hs1'.out)
  clear hmv
  go_wp2_with fail
  refine (HNE.out _ HR3.out).mono ?_
  rintro e w4 ⟨rfl, hb4⟩
  have HR4 := Lib.hid (HR3.out.blw hb4)
  have HB4 := Lib.hid hb4
  clear hb4
  go_upto_region 5 with fail
  refine wp_region_heldN (fun V => RdIn V r p n cp a1 en sz B) 18 rfl (by kernel_rfl) ?_
  have hS : RdIn w4.drew r p n cp a1 en sz B := HR4.out.blw (bdrew (Below.refl _ _))
  refine tkD (i := 0) (v := .pointer (some ⟨r, 0, none⟩)) (some 27) rfl rfl (by kernel_rfl) (fun _ _ _ h => h) (Or.inl ⟨by rfl, by rintro V h0; go_simp⟩) hS ?_
  try simp only [Act.put, sA, sB, sC]
  refine tkD (i := 1) (v := .pointer (some ⟨r, 0, none⟩)) (some 28) rfl rfl (by kernel_rfl) (fun _ _ _ h => h) (Or.inl ⟨by rfl, by rintro V h0; go_simp⟩) hS ?_
  try simp only [Act.put, sA, sB, sC]
  refine tkD (i := 2) (v := .pointer (some ⟨r, 0, none⟩)) (some 29) rfl rfl (by kernel_rfl) (fun _ _ _ h => h) (Or.inl ⟨by rfl, by rintro V h0; go_simp⟩) hS ?_
  try simp only [Act.put, sA, sB, sC]
  refine tkD (i := 3) (v := .slice p n cp) (some 30) rfl rfl (by kernel_rfl) (fun _ _ _ h => h) (Or.inl ⟨by rfl, by rintro V h0; have y0 := (cell_of_row V _ 0 _ _ _ h0.row).trans rfl; have y1 := (cell_of_row V _ 1 _ _ _ h0.row).trans rfl; go_simp⟩) hS ?_
  try simp only [Act.put, sA, sB, sC]
  refine tkD (i := 4) (v := .pointer (some ⟨r, 0, none⟩)) (some 31) rfl rfl (by kernel_rfl) (fun _ _ _ h => h) (Or.inl ⟨by rfl, by rintro V h0; go_simp⟩) hS ?_
  try simp only [Act.put, sA, sB, sC]
  refine tkD (i := 5) (v := .pointer (some ⟨r, 0, none⟩)) (some 32) rfl rfl (by kernel_rfl) (fun _ _ _ h => h) (Or.inl ⟨by rfl, by rintro V h0; go_simp⟩) hS ?_
  try simp only [Act.put, sA, sB, sC]
  refine tkD (i := 6) (v := .pointer (some ⟨r, 1, none⟩)) (some 33) rfl rfl (by kernel_rfl) (fun _ _ _ h => h) (Or.inl ⟨by rfl, by rintro V h0; go_simp⟩) hS ?_
  try simp only [Act.put, sA, sB, sC]
  refine tkD (i := 7) (v := .int .i64 (a1 : Nat)) (some 34) rfl rfl (by kernel_rfl) (fun _ _ _ h => h) (Or.inl ⟨by rfl, by rintro V h0; have y0 := (cell_of_row V _ 0 _ _ _ h0.row).trans rfl; have y1 := (cell_of_row V _ 1 _ _ _ h0.row).trans rfl; go_simp⟩) hS ?_
  try simp only [Act.put, sA, sB, sC]
  refine tkD (i := 8) (v := .pointer (some ⟨r, 0, none⟩)) (some 35) rfl rfl (by kernel_rfl) (fun _ _ _ h => h) (Or.inl ⟨by rfl, by rintro V h0; go_simp⟩) hS ?_
  try simp only [Act.put, sA, sB, sC]
  refine tkD (i := 9) (v := .pointer (some ⟨r, 0, none⟩)) (some 36) rfl rfl (by kernel_rfl) (fun _ _ _ h => h) (Or.inl ⟨by rfl, by rintro V h0; go_simp⟩) hS ?_
  try simp only [Act.put, sA, sB, sC]
  refine tkD (i := 10) (v := .pointer (some ⟨r, 1, none⟩)) (some 37) rfl rfl (by kernel_rfl) (fun _ _ _ h => h) (Or.inl ⟨by rfl, by rintro V h0; go_simp⟩) hS ?_
  try simp only [Act.put, sA, sB, sC]
  refine tkD (i := 11) (v := .int .i64 (a1 : Nat)) (some 38) rfl rfl (by kernel_rfl) (fun _ _ _ h => h) (Or.inl ⟨by rfl, by rintro V h0; have y0 := (cell_of_row V _ 0 _ _ _ h0.row).trans rfl; have y1 := (cell_of_row V _ 1 _ _ _ h0.row).trans rfl; go_simp⟩) hS ?_
  try simp only [Act.put, sA, sB, sC]
  refine tkD (i := 12) (v := .int .i64 (N : Nat)) (some 39) rfl rfl (by kernel_rfl) (fun _ _ _ h => h) (Or.inl ⟨by rfl, by rintro V h0; go_simp⟩) hS ?_
  try simp only [Act.put, sA, sB, sC]
  refine tkD (i := 13) (v := .int .i64 (a2 : Nat)) (some 40) rfl rfl (by kernel_rfl) (fun _ _ _ h => h) (Or.inl ⟨by rfl, by rintro V h0; go_simp⟩) hS ?_
  try simp only [Act.put, sA, sB, sC]
  refine tkD (i := 14) (v := .int .i64 (at_ : Nat)) (some 41) rfl rfl (by kernel_rfl) (fun _ _ _ h => h) (Or.inl ⟨by rfl, by rintro V h0; go_simp⟩) hS ?_
  try simp only [Act.put, sA, sB, sC]
  refine tkD (i := 15) (v := .agg #[.slice p n cp, .int .i64 (a1 : Nat), .int .i64 (a2 : Nat), .int .i64 (at_ : Nat)]) (some 42) rfl rfl (by kernel_rfl) (fun _ _ _ h => h) (Or.inl ⟨by rfl, by rintro V h0; go_simp⟩) hS ?_
  try simp only [Act.put, sA, sB, sC]
  have hS2 : RdIn (w4.alloc (.cells #[.slice p n cp, .int .i64 (a1 : Nat), .int .i64 (a2 : Nat), .int .i64 (at_ : Nat)] 49)).drew r p n cp a1 en sz B := hS.blw ((Below.refl _ _).alloc (Nat.le_refl _) _)
  refine oneH (i := 16) (by kernel_rfl) ?_
  refine stepD (i := 16) rfl (by rfl) (fun K5 h5 => ?_)
  go_simp
  refine h5.out _ _ hS2 ?_
  clear h5
  try simp only [Act.put, sA, sB, sC]
  have hb6 : Below w4.heap.size w4.drew (w4.alloc (.cells #[.slice p n cp, .int .i64 (a1 : Nat), .int .i64 (a2 : Nat), .int .i64 (at_ : Nat)] 49)).drew := (Below.refl w4.heap.size w4.drew).alloc (Nat.le_refl w4.heap.size) _
  have ox : (w4.alloc (.cells #[.slice p n cp, .int .i64 (a1 : Nat), .int .i64 (a2 : Nat), .int .i64 (at_ : Nat)] 49)).drew.heap[w4.heap.size]? = some (.cells #[.slice p n cp, .int .i64 (a1 : Nat), .int .i64 (a2 : Nat), .int .i64 (at_ : Nat)] 49 (0, 0)) := _root_.Go.heap_alloc_new w4.drew _
  generalize (w4.alloc (.cells #[.slice p n cp, .int .i64 (a1 : Nat), .int .i64 (a2 : Nat), .int .i64 (at_ : Nat)] 49)).drew = w5 at *
  obtain ⟨q, hq⟩ : ∃ q, w4.heap.size = q := ⟨_, rfl⟩
  rw [hq] at ox ⊢
  have HQ := Lib.hid (And.intro hq (And.intro hb6 ox))
  clear hq hb6 ox
  refine tkD (i := 17) (v := .pointer (some ⟨q, 0, none⟩)) (some 10) rfl rfl (by kernel_rfl) (fun _ _ _ h => h) (Or.inl ⟨by rfl, by rintro V h0; go_simp⟩) hS2 ?_
  try simp only [Act.put, sA, sB, sC]
  refine wpAnyH_done (by kernel_rfl) ?_ _
  have HR5 := Lib.hid hS2
  have HQ5 := Lib.hid (show RdIn w5 q p n cp a1 a2 (at_ : Nat) B from ⟨HQ.out.2.2, hS2.src.up (by have := HR4.out.lt; have := HQ.out.1; omega), hs2'.out.1, by have := hs2'.out.2; have := hS2.hen; omega, hS2.hn⟩)
  have HM5 := Lib.hid (HMV.out.keep.trans ((KeepF.of_below HB4.out).trans ((KeepF.of_below (bdrew (Below.refl _ _))).trans (KeepF.of_below HQ.out.2.1))))
  clear hS hS2
  go_wp2_with fail
  trace_state
  refine (HC.out _ _ (by have := HQ.out.1; have := HMV.out.keep.size; have := HB4.out.size; omega) HM5.out HR5.out HQ5.out).mono ?_
  rintro e w6 (⟨ps, rfl, hp⟩ | ⟨rfl, hr6, ⟨a3, hq6⟩, hfin⟩)
  · exact ⟨rfl, hp⟩
  have hr6' := hr6.trans HR5.out.row
  have q2 : w6.cell? ⟨q, 2, none⟩ = some (.int .i64 (a2 : Nat)) := (cell_of_row _ _ 2 _ _ _ hq6).trans rfl
  have r1 : w6.cell? ⟨r, 1, none⟩ = some (.int .i64 (a1 : Nat)) := (cell_of_row _ _ 1 _ _ _ hr6').trans rfl
  have fr : w6.frozen? ⟨r, 1, none⟩ = false := by simp [World.frozen?, hr6']
  have hk7 : KeepF (fun g => g = r) w6 (w6.setCell ⟨r, 1, none⟩ (.int .i64 (a2 : Nat))) := ⟨rfl, rfl, rfl, by simp, fun j hj hne => set_farV hne⟩
  have or7 := heap_setCell_same w6 r 1 _ _ (.int .i64 (a2 : Nat)) hr6'
  have HF := Lib.hid (hfin _ ⟨hk7, or7⟩)
  clear hk7 or7 hfin hr6 hr6' hq6
  go_wp2_with fail
  go_end0
  exact HF.out
end Go.Proofs.YtjipennigjlklaaDoor
