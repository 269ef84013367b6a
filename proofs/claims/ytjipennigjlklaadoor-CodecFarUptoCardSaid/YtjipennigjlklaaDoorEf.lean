/-
  The codec's reader: data, each of its ways. Conditions: the reader and its bytes lie in memory; what is called keeps its contract.
-/
import Derived.Test.YtjipennigjlklaaDoorEe
namespace Go.Proofs.YtjipennigjlklaaDoor
open Go.RowKit
set_option linter.unusedVariables false
set_option maxHeartbeats 4000000

attribute [local go_sem] Oper.semAt_some

set_option maxRecDepth 20000 in
theorem data_ta0 (o d : Int) (x : Res) (w : World) (r : Nat) (p : Option Addr) (n cp at_ en : Nat) (sz own : Int) (B : List UInt8) (h : RdIn w r p n cp at_ en sz B)
    (hx : ∀ W, RdIn W r p n cp at_ en sz B → Calls Tryd.prog 48 #[.pointer (some ⟨r, 0, none⟩), .int .i64 18, .int .i64 1] W fun e w' => RdTo W r p n cp at_ en sz own x e w') :
    Calls Tryd.prog 34 #[.pointer (some ⟨r, 0, none⟩), .int .u8 (160), .int .i64 o, .int .i64 d] w fun e w' => RdTo w r p n cp at_ en sz own x e w' := by
  have HK := Lib.hid (show ∀ W, Calls Tryd.prog 33 #[.int .u8 (160)] W fun e w' => e = .returned (.int .i64 18) ∧ W = w' from fun W => kind_any 160 W)
  have HX := Lib.hid hx
  clear hx
  go_enter Tryd.func34, Tryd.ntmps34
  go_upto_region 1 with fail
  have hb0 : Below w.heap.size w (w.alloc (.cells zR 25)) := ((Below.refl _ _).alloc (Nat.le_refl _) _)
  have oy := _root_.Go.heap_alloc_new w (.cells zR 25)
  generalize (w.alloc (.cells zR 25)) = w0 at *
  obtain ⟨y, hy⟩ : ∃ y, w.heap.size = y := ⟨_, rfl⟩
  rw [hy] at oy ⊢
  have HR0 := Lib.hid (h.blw hb0)
  have HB0 := Lib.hid (And.intro hb0 (And.intro hy oy))
  have hlt := Lib.hid h.lt
  clear hb0 hy oy h
  go_wp2_with fail
  refine (HK.out _).mono ?_
  rintro e w1 ⟨rfl, rfl⟩
  go_wp2_with fail
  refine (HX.out _ HR0.out).mono ?_
  rintro e w3 hto
  rcases x with y1 | ⟨v, k⟩
  · obtain ⟨rfl, hk⟩ := hto
    exact ⟨rfl, rfl, (KeepF.of_below HB0.out.1).trans hk⟩
  · obtain ⟨s, F, rfl, hvo, hmv⟩ := hto
    obtain ⟨ps, cs, hss, _, _⟩ := hvo.slice
    subst hss
    have oy3 := (hmv.keep.block y (gl HB0.out.2.2) (fun e => by have := hlt.out; have := HB0.out.2.1; omega)).trans HB0.out.2.2
    have HV := Lib.hid (And.intro hvo (And.intro hmv oy3))
    clear hvo hmv
    go_wp2_with (refine wpList_store_rowTo rfl 25 (.tmp 8) (.tmp 36) rfl rfl y #[.int .i64 v.kind, .int .u64 v.num, .string v.text, .slice ps v.list.length cs, .int .i64 v.elem] rfl rfl 25 zR oy3 (by as_aux_lemma => kernel_rfl) (by as_aux_lemma => kernel_rfl) (by simp [Value.oneCell']) ?_)
    have hh := setRow_heap w3 y _ #[.int .i64 v.kind, .int .u64 v.num, .string v.text, .slice ps v.list.length cs, .int .i64 v.elem] _ _ HV.out.2.2
    refine bodyPost_ret (results_cell_row (p := 8) (ty := 25) (by kernel_rfl) _ _ y 25 #[.int .i64 v.kind, .int .u64 v.num, .string v.text, .slice ps v.list.length cs, .int .i64 v.elem] (0, 0) _ rfl hh Tryd.underlying25 rfl (by as_aux_lemma => kernel_rfl)) rfl ?_
    have hy0 := HB0.out.2.1
    have hy1 := (gl HB0.out.2.2)
    have hkk := (KeepF.of_below HB0.out.1).trans HV.out.2.1.keep
    have hyr : r ≠ y := fun e => by have := hlt.out; omega
    exact ⟨_, F, rfl, (HV.out.1.mono HB0.out.1.size).keep (fun b hb => setRow_other w3 y b _ (fun e => by have := (HV.out.1.lt b hb).1; omega)), ⟨⟨hkk.os, hkk.tape, hkk.output, Nat.le_trans hkk.size (by simp), fun j hj hne => (setRow_other w3 y j _ (fun e => by omega)).trans (hkk.block j hj hne)⟩, (setRow_other w3 y r _ hyr).trans HV.out.2.1.at_⟩⟩
set_option maxRecDepth 20000 in
theorem data_ta1 (o d : Int) (x : Res) (w : World) (r : Nat) (p : Option Addr) (n cp at_ en : Nat) (sz own : Int) (B : List UInt8) (h : RdIn w r p n cp at_ en sz B)
    (hx : ∀ W, RdIn W r p n cp at_ en sz B → Calls Tryd.prog 48 #[.pointer (some ⟨r, 0, none⟩), .int .i64 19, .int .i64 1] W fun e w' => RdTo W r p n cp at_ en sz own x e w') :
    Calls Tryd.prog 34 #[.pointer (some ⟨r, 0, none⟩), .int .u8 (161), .int .i64 o, .int .i64 d] w fun e w' => RdTo w r p n cp at_ en sz own x e w' := by
  have HK := Lib.hid (show ∀ W, Calls Tryd.prog 33 #[.int .u8 (161)] W fun e w' => e = .returned (.int .i64 19) ∧ W = w' from fun W => kind_any 161 W)
  have HX := Lib.hid hx
  clear hx
  go_enter Tryd.func34, Tryd.ntmps34
  go_upto_region 1 with fail
  have hb0 : Below w.heap.size w (w.alloc (.cells zR 25)) := ((Below.refl _ _).alloc (Nat.le_refl _) _)
  have oy := _root_.Go.heap_alloc_new w (.cells zR 25)
  generalize (w.alloc (.cells zR 25)) = w0 at *
  obtain ⟨y, hy⟩ : ∃ y, w.heap.size = y := ⟨_, rfl⟩
  rw [hy] at oy ⊢
  have HR0 := Lib.hid (h.blw hb0)
  have HB0 := Lib.hid (And.intro hb0 (And.intro hy oy))
  have hlt := Lib.hid h.lt
  clear hb0 hy oy h
  go_wp2_with fail
  refine (HK.out _).mono ?_
  rintro e w1 ⟨rfl, rfl⟩
  go_wp2_with fail
  refine (HX.out _ HR0.out).mono ?_
  rintro e w3 hto
  rcases x with y1 | ⟨v, k⟩
  · obtain ⟨rfl, hk⟩ := hto
    exact ⟨rfl, rfl, (KeepF.of_below HB0.out.1).trans hk⟩
  · obtain ⟨s, F, rfl, hvo, hmv⟩ := hto
    obtain ⟨ps, cs, hss, _, _⟩ := hvo.slice
    subst hss
    have oy3 := (hmv.keep.block y (gl HB0.out.2.2) (fun e => by have := hlt.out; have := HB0.out.2.1; omega)).trans HB0.out.2.2
    have HV := Lib.hid (And.intro hvo (And.intro hmv oy3))
    clear hvo hmv
    go_wp2_with (refine wpList_store_rowTo rfl 25 (.tmp 8) (.tmp 36) rfl rfl y #[.int .i64 v.kind, .int .u64 v.num, .string v.text, .slice ps v.list.length cs, .int .i64 v.elem] rfl rfl 25 zR oy3 (by as_aux_lemma => kernel_rfl) (by as_aux_lemma => kernel_rfl) (by simp [Value.oneCell']) ?_)
    have hh := setRow_heap w3 y _ #[.int .i64 v.kind, .int .u64 v.num, .string v.text, .slice ps v.list.length cs, .int .i64 v.elem] _ _ HV.out.2.2
    refine bodyPost_ret (results_cell_row (p := 8) (ty := 25) (by kernel_rfl) _ _ y 25 #[.int .i64 v.kind, .int .u64 v.num, .string v.text, .slice ps v.list.length cs, .int .i64 v.elem] (0, 0) _ rfl hh Tryd.underlying25 rfl (by as_aux_lemma => kernel_rfl)) rfl ?_
    have hy0 := HB0.out.2.1
    have hy1 := (gl HB0.out.2.2)
    have hkk := (KeepF.of_below HB0.out.1).trans HV.out.2.1.keep
    have hyr : r ≠ y := fun e => by have := hlt.out; omega
    exact ⟨_, F, rfl, (HV.out.1.mono HB0.out.1.size).keep (fun b hb => setRow_other w3 y b _ (fun e => by have := (HV.out.1.lt b hb).1; omega)), ⟨⟨hkk.os, hkk.tape, hkk.output, Nat.le_trans hkk.size (by simp), fun j hj hne => (setRow_other w3 y j _ (fun e => by omega)).trans (hkk.block j hj hne)⟩, (setRow_other w3 y r _ hyr).trans HV.out.2.1.at_⟩⟩
set_option maxRecDepth 20000 in
theorem data_ta3 (o d : Int) (x : Res) (w : World) (r : Nat) (p : Option Addr) (n cp at_ en : Nat) (sz own : Int) (B : List UInt8) (h : RdIn w r p n cp at_ en sz B)
    (hx : ∀ W, RdIn W r p n cp at_ en sz B → Calls Tryd.prog 48 #[.pointer (some ⟨r, 0, none⟩), .int .i64 20, .int .i64 1] W fun e w' => RdTo W r p n cp at_ en sz own x e w') :
    Calls Tryd.prog 34 #[.pointer (some ⟨r, 0, none⟩), .int .u8 (163), .int .i64 o, .int .i64 d] w fun e w' => RdTo w r p n cp at_ en sz own x e w' := by
  have HK := Lib.hid (show ∀ W, Calls Tryd.prog 33 #[.int .u8 (163)] W fun e w' => e = .returned (.int .i64 20) ∧ W = w' from fun W => kind_any 163 W)
  have HX := Lib.hid hx
  clear hx
  go_enter Tryd.func34, Tryd.ntmps34
  go_upto_region 1 with fail
  have hb0 : Below w.heap.size w (w.alloc (.cells zR 25)) := ((Below.refl _ _).alloc (Nat.le_refl _) _)
  have oy := _root_.Go.heap_alloc_new w (.cells zR 25)
  generalize (w.alloc (.cells zR 25)) = w0 at *
  obtain ⟨y, hy⟩ : ∃ y, w.heap.size = y := ⟨_, rfl⟩
  rw [hy] at oy ⊢
  have HR0 := Lib.hid (h.blw hb0)
  have HB0 := Lib.hid (And.intro hb0 (And.intro hy oy))
  have hlt := Lib.hid h.lt
  clear hb0 hy oy h
  go_wp2_with fail
  refine (HK.out _).mono ?_
  rintro e w1 ⟨rfl, rfl⟩
  go_wp2_with fail
  refine (HX.out _ HR0.out).mono ?_
  rintro e w3 hto
  rcases x with y1 | ⟨v, k⟩
  · obtain ⟨rfl, hk⟩ := hto
    exact ⟨rfl, rfl, (KeepF.of_below HB0.out.1).trans hk⟩
  · obtain ⟨s, F, rfl, hvo, hmv⟩ := hto
    obtain ⟨ps, cs, hss, _, _⟩ := hvo.slice
    subst hss
    have oy3 := (hmv.keep.block y (gl HB0.out.2.2) (fun e => by have := hlt.out; have := HB0.out.2.1; omega)).trans HB0.out.2.2
    have HV := Lib.hid (And.intro hvo (And.intro hmv oy3))
    clear hvo hmv
    go_wp2_with (refine wpList_store_rowTo rfl 25 (.tmp 8) (.tmp 36) rfl rfl y #[.int .i64 v.kind, .int .u64 v.num, .string v.text, .slice ps v.list.length cs, .int .i64 v.elem] rfl rfl 25 zR oy3 (by as_aux_lemma => kernel_rfl) (by as_aux_lemma => kernel_rfl) (by simp [Value.oneCell']) ?_)
    have hh := setRow_heap w3 y _ #[.int .i64 v.kind, .int .u64 v.num, .string v.text, .slice ps v.list.length cs, .int .i64 v.elem] _ _ HV.out.2.2
    refine bodyPost_ret (results_cell_row (p := 8) (ty := 25) (by kernel_rfl) _ _ y 25 #[.int .i64 v.kind, .int .u64 v.num, .string v.text, .slice ps v.list.length cs, .int .i64 v.elem] (0, 0) _ rfl hh Tryd.underlying25 rfl (by as_aux_lemma => kernel_rfl)) rfl ?_
    have hy0 := HB0.out.2.1
    have hy1 := (gl HB0.out.2.2)
    have hkk := (KeepF.of_below HB0.out.1).trans HV.out.2.1.keep
    have hyr : r ≠ y := fun e => by have := hlt.out; omega
    exact ⟨_, F, rfl, (HV.out.1.mono HB0.out.1.size).keep (fun b hb => setRow_other w3 y b _ (fun e => by have := (HV.out.1.lt b hb).1; omega)), ⟨⟨hkk.os, hkk.tape, hkk.output, Nat.le_trans hkk.size (by simp), fun j hj hne => (setRow_other w3 y j _ (fun e => by omega)).trans (hkk.block j hj hne)⟩, (setRow_other w3 y r _ hyr).trans HV.out.2.1.at_⟩⟩
set_option maxRecDepth 20000 in
theorem data_tb0 (o d : Int) (x : Res) (w : World) (r : Nat) (p : Option Addr) (n cp at_ en : Nat) (sz own : Int) (B : List UInt8) (h : RdIn w r p n cp at_ en sz B)
    (hx : ∀ W, RdIn W r p n cp at_ en sz B → Calls Tryd.prog 48 #[.pointer (some ⟨r, 0, none⟩), .int .i64 18, .int .i64 4] W fun e w' => RdTo W r p n cp at_ en sz own x e w') :
    Calls Tryd.prog 34 #[.pointer (some ⟨r, 0, none⟩), .int .u8 (176), .int .i64 o, .int .i64 d] w fun e w' => RdTo w r p n cp at_ en sz own x e w' := by
  have HK := Lib.hid (show ∀ W, Calls Tryd.prog 33 #[.int .u8 (176)] W fun e w' => e = .returned (.int .i64 18) ∧ W = w' from fun W => kind_any 176 W)
  have HX := Lib.hid hx
  clear hx
  go_enter Tryd.func34, Tryd.ntmps34
  go_upto_region 1 with fail
  have hb0 : Below w.heap.size w (w.alloc (.cells zR 25)) := ((Below.refl _ _).alloc (Nat.le_refl _) _)
  have oy := _root_.Go.heap_alloc_new w (.cells zR 25)
  generalize (w.alloc (.cells zR 25)) = w0 at *
  obtain ⟨y, hy⟩ : ∃ y, w.heap.size = y := ⟨_, rfl⟩
  rw [hy] at oy ⊢
  have HR0 := Lib.hid (h.blw hb0)
  have HB0 := Lib.hid (And.intro hb0 (And.intro hy oy))
  have hlt := Lib.hid h.lt
  clear hb0 hy oy h
  go_wp2_with fail
  refine (HK.out _).mono ?_
  rintro e w1 ⟨rfl, rfl⟩
  go_wp2_with fail
  refine (HX.out _ HR0.out).mono ?_
  rintro e w3 hto
  rcases x with y1 | ⟨v, k⟩
  · obtain ⟨rfl, hk⟩ := hto
    exact ⟨rfl, rfl, (KeepF.of_below HB0.out.1).trans hk⟩
  · obtain ⟨s, F, rfl, hvo, hmv⟩ := hto
    obtain ⟨ps, cs, hss, _, _⟩ := hvo.slice
    subst hss
    have oy3 := (hmv.keep.block y (gl HB0.out.2.2) (fun e => by have := hlt.out; have := HB0.out.2.1; omega)).trans HB0.out.2.2
    have HV := Lib.hid (And.intro hvo (And.intro hmv oy3))
    clear hvo hmv
    go_wp2_with (refine wpList_store_rowTo rfl 25 (.tmp 8) (.tmp 36) rfl rfl y #[.int .i64 v.kind, .int .u64 v.num, .string v.text, .slice ps v.list.length cs, .int .i64 v.elem] rfl rfl 25 zR oy3 (by as_aux_lemma => kernel_rfl) (by as_aux_lemma => kernel_rfl) (by simp [Value.oneCell']) ?_)
    have hh := setRow_heap w3 y _ #[.int .i64 v.kind, .int .u64 v.num, .string v.text, .slice ps v.list.length cs, .int .i64 v.elem] _ _ HV.out.2.2
    refine bodyPost_ret (results_cell_row (p := 8) (ty := 25) (by kernel_rfl) _ _ y 25 #[.int .i64 v.kind, .int .u64 v.num, .string v.text, .slice ps v.list.length cs, .int .i64 v.elem] (0, 0) _ rfl hh Tryd.underlying25 rfl (by as_aux_lemma => kernel_rfl)) rfl ?_
    have hy0 := HB0.out.2.1
    have hy1 := (gl HB0.out.2.2)
    have hkk := (KeepF.of_below HB0.out.1).trans HV.out.2.1.keep
    have hyr : r ≠ y := fun e => by have := hlt.out; omega
    exact ⟨_, F, rfl, (HV.out.1.mono HB0.out.1.size).keep (fun b hb => setRow_other w3 y b _ (fun e => by have := (HV.out.1.lt b hb).1; omega)), ⟨⟨hkk.os, hkk.tape, hkk.output, Nat.le_trans hkk.size (by simp), fun j hj hne => (setRow_other w3 y j _ (fun e => by omega)).trans (hkk.block j hj hne)⟩, (setRow_other w3 y r _ hyr).trans HV.out.2.1.at_⟩⟩
set_option maxRecDepth 20000 in
theorem data_tb1 (o d : Int) (x : Res) (w : World) (r : Nat) (p : Option Addr) (n cp at_ en : Nat) (sz own : Int) (B : List UInt8) (h : RdIn w r p n cp at_ en sz B)
    (hx : ∀ W, RdIn W r p n cp at_ en sz B → Calls Tryd.prog 48 #[.pointer (some ⟨r, 0, none⟩), .int .i64 19, .int .i64 4] W fun e w' => RdTo W r p n cp at_ en sz own x e w') :
    Calls Tryd.prog 34 #[.pointer (some ⟨r, 0, none⟩), .int .u8 (177), .int .i64 o, .int .i64 d] w fun e w' => RdTo w r p n cp at_ en sz own x e w' := by
  have HK := Lib.hid (show ∀ W, Calls Tryd.prog 33 #[.int .u8 (177)] W fun e w' => e = .returned (.int .i64 19) ∧ W = w' from fun W => kind_any 177 W)
  have HX := Lib.hid hx
  clear hx
  go_enter Tryd.func34, Tryd.ntmps34
  go_upto_region 1 with fail
  have hb0 : Below w.heap.size w (w.alloc (.cells zR 25)) := ((Below.refl _ _).alloc (Nat.le_refl _) _)
  have oy := _root_.Go.heap_alloc_new w (.cells zR 25)
  generalize (w.alloc (.cells zR 25)) = w0 at *
  obtain ⟨y, hy⟩ : ∃ y, w.heap.size = y := ⟨_, rfl⟩
  rw [hy] at oy ⊢
  have HR0 := Lib.hid (h.blw hb0)
  have HB0 := Lib.hid (And.intro hb0 (And.intro hy oy))
  have hlt := Lib.hid h.lt
  clear hb0 hy oy h
  go_wp2_with fail
  refine (HK.out _).mono ?_
  rintro e w1 ⟨rfl, rfl⟩
  go_wp2_with fail
  refine (HX.out _ HR0.out).mono ?_
  rintro e w3 hto
  rcases x with y1 | ⟨v, k⟩
  · obtain ⟨rfl, hk⟩ := hto
    exact ⟨rfl, rfl, (KeepF.of_below HB0.out.1).trans hk⟩
  · obtain ⟨s, F, rfl, hvo, hmv⟩ := hto
    obtain ⟨ps, cs, hss, _, _⟩ := hvo.slice
    subst hss
    have oy3 := (hmv.keep.block y (gl HB0.out.2.2) (fun e => by have := hlt.out; have := HB0.out.2.1; omega)).trans HB0.out.2.2
    have HV := Lib.hid (And.intro hvo (And.intro hmv oy3))
    clear hvo hmv
    go_wp2_with (refine wpList_store_rowTo rfl 25 (.tmp 8) (.tmp 36) rfl rfl y #[.int .i64 v.kind, .int .u64 v.num, .string v.text, .slice ps v.list.length cs, .int .i64 v.elem] rfl rfl 25 zR oy3 (by as_aux_lemma => kernel_rfl) (by as_aux_lemma => kernel_rfl) (by simp [Value.oneCell']) ?_)
    have hh := setRow_heap w3 y _ #[.int .i64 v.kind, .int .u64 v.num, .string v.text, .slice ps v.list.length cs, .int .i64 v.elem] _ _ HV.out.2.2
    refine bodyPost_ret (results_cell_row (p := 8) (ty := 25) (by kernel_rfl) _ _ y 25 #[.int .i64 v.kind, .int .u64 v.num, .string v.text, .slice ps v.list.length cs, .int .i64 v.elem] (0, 0) _ rfl hh Tryd.underlying25 rfl (by as_aux_lemma => kernel_rfl)) rfl ?_
    have hy0 := HB0.out.2.1
    have hy1 := (gl HB0.out.2.2)
    have hkk := (KeepF.of_below HB0.out.1).trans HV.out.2.1.keep
    have hyr : r ≠ y := fun e => by have := hlt.out; omega
    exact ⟨_, F, rfl, (HV.out.1.mono HB0.out.1.size).keep (fun b hb => setRow_other w3 y b _ (fun e => by have := (HV.out.1.lt b hb).1; omega)), ⟨⟨hkk.os, hkk.tape, hkk.output, Nat.le_trans hkk.size (by simp), fun j hj hne => (setRow_other w3 y j _ (fun e => by omega)).trans (hkk.block j hj hne)⟩, (setRow_other w3 y r _ hyr).trans HV.out.2.1.at_⟩⟩
set_option maxRecDepth 20000 in
theorem data_tb3 (o d : Int) (x : Res) (w : World) (r : Nat) (p : Option Addr) (n cp at_ en : Nat) (sz own : Int) (B : List UInt8) (h : RdIn w r p n cp at_ en sz B)
    (hx : ∀ W, RdIn W r p n cp at_ en sz B → Calls Tryd.prog 48 #[.pointer (some ⟨r, 0, none⟩), .int .i64 20, .int .i64 4] W fun e w' => RdTo W r p n cp at_ en sz own x e w') :
    Calls Tryd.prog 34 #[.pointer (some ⟨r, 0, none⟩), .int .u8 (179), .int .i64 o, .int .i64 d] w fun e w' => RdTo w r p n cp at_ en sz own x e w' := by
  have HK := Lib.hid (show ∀ W, Calls Tryd.prog 33 #[.int .u8 (179)] W fun e w' => e = .returned (.int .i64 20) ∧ W = w' from fun W => kind_any 179 W)
  have HX := Lib.hid hx
  clear hx
  go_enter Tryd.func34, Tryd.ntmps34
  go_upto_region 1 with fail
  have hb0 : Below w.heap.size w (w.alloc (.cells zR 25)) := ((Below.refl _ _).alloc (Nat.le_refl _) _)
  have oy := _root_.Go.heap_alloc_new w (.cells zR 25)
  generalize (w.alloc (.cells zR 25)) = w0 at *
  obtain ⟨y, hy⟩ : ∃ y, w.heap.size = y := ⟨_, rfl⟩
  rw [hy] at oy ⊢
  have HR0 := Lib.hid (h.blw hb0)
  have HB0 := Lib.hid (And.intro hb0 (And.intro hy oy))
  have hlt := Lib.hid h.lt
  clear hb0 hy oy h
  go_wp2_with fail
  refine (HK.out _).mono ?_
  rintro e w1 ⟨rfl, rfl⟩
  go_wp2_with fail
  refine (HX.out _ HR0.out).mono ?_
  rintro e w3 hto
  rcases x with y1 | ⟨v, k⟩
  · obtain ⟨rfl, hk⟩ := hto
    exact ⟨rfl, rfl, (KeepF.of_below HB0.out.1).trans hk⟩
  · obtain ⟨s, F, rfl, hvo, hmv⟩ := hto
    obtain ⟨ps, cs, hss, _, _⟩ := hvo.slice
    subst hss
    have oy3 := (hmv.keep.block y (gl HB0.out.2.2) (fun e => by have := hlt.out; have := HB0.out.2.1; omega)).trans HB0.out.2.2
    have HV := Lib.hid (And.intro hvo (And.intro hmv oy3))
    clear hvo hmv
    go_wp2_with (refine wpList_store_rowTo rfl 25 (.tmp 8) (.tmp 36) rfl rfl y #[.int .i64 v.kind, .int .u64 v.num, .string v.text, .slice ps v.list.length cs, .int .i64 v.elem] rfl rfl 25 zR oy3 (by as_aux_lemma => kernel_rfl) (by as_aux_lemma => kernel_rfl) (by simp [Value.oneCell']) ?_)
    have hh := setRow_heap w3 y _ #[.int .i64 v.kind, .int .u64 v.num, .string v.text, .slice ps v.list.length cs, .int .i64 v.elem] _ _ HV.out.2.2
    refine bodyPost_ret (results_cell_row (p := 8) (ty := 25) (by kernel_rfl) _ _ y 25 #[.int .i64 v.kind, .int .u64 v.num, .string v.text, .slice ps v.list.length cs, .int .i64 v.elem] (0, 0) _ rfl hh Tryd.underlying25 rfl (by as_aux_lemma => kernel_rfl)) rfl ?_
    have hy0 := HB0.out.2.1
    have hy1 := (gl HB0.out.2.2)
    have hkk := (KeepF.of_below HB0.out.1).trans HV.out.2.1.keep
    have hyr : r ≠ y := fun e => by have := hlt.out; omega
    exact ⟨_, F, rfl, (HV.out.1.mono HB0.out.1.size).keep (fun b hb => setRow_other w3 y b _ (fun e => by have := (HV.out.1.lt b hb).1; omega)), ⟨⟨hkk.os, hkk.tape, hkk.output, Nat.le_trans hkk.size (by simp), fun j hj hne => (setRow_other w3 y j _ (fun e => by omega)).trans (hkk.block j hj hne)⟩, (setRow_other w3 y r _ hyr).trans HV.out.2.1.at_⟩⟩
set_option maxRecDepth 20000 in
theorem data_sc0 (o d : Int) (x : Res) (w : World) (r : Nat) (p : Option Addr) (n cp at_ en : Nat) (sz own : Int) (B : List UInt8) (h : RdIn w r p n cp at_ en sz B)
    (hx : ∀ W, RdIn W r p n cp at_ en sz B → Calls Tryd.prog 49 #[.pointer (some ⟨r, 0, none⟩), .int .i64 21, .int .i64 1, .int .i64 o, .int .i64 d] W fun e w' => RdTo W r p n cp at_ en sz own x e w') :
    Calls Tryd.prog 34 #[.pointer (some ⟨r, 0, none⟩), .int .u8 (192), .int .i64 o, .int .i64 d] w fun e w' => RdTo w r p n cp at_ en sz own x e w' := by
  have HK := Lib.hid (show ∀ W, Calls Tryd.prog 33 #[.int .u8 (192)] W fun e w' => e = .returned (.int .i64 21) ∧ W = w' from fun W => kind_any 192 W)
  have HX := Lib.hid hx
  clear hx
  go_enter Tryd.func34, Tryd.ntmps34
  go_upto_region 1 with fail
  have hb0 : Below w.heap.size w (w.alloc (.cells zR 25)) := ((Below.refl _ _).alloc (Nat.le_refl _) _)
  have oy := _root_.Go.heap_alloc_new w (.cells zR 25)
  generalize (w.alloc (.cells zR 25)) = w0 at *
  obtain ⟨y, hy⟩ : ∃ y, w.heap.size = y := ⟨_, rfl⟩
  rw [hy] at oy ⊢
  have HR0 := Lib.hid (h.blw hb0)
  have HB0 := Lib.hid (And.intro hb0 (And.intro hy oy))
  have hlt := Lib.hid h.lt
  clear hb0 hy oy h
  go_wp2_with fail
  refine (HK.out _).mono ?_
  rintro e w1 ⟨rfl, rfl⟩
  go_wp2_with fail
  refine (HX.out _ HR0.out).mono ?_
  rintro e w3 hto
  rcases x with y1 | ⟨v, k⟩
  · obtain ⟨rfl, hk⟩ := hto
    exact ⟨rfl, rfl, (KeepF.of_below HB0.out.1).trans hk⟩
  · obtain ⟨s, F, rfl, hvo, hmv⟩ := hto
    obtain ⟨ps, cs, hss, _, _⟩ := hvo.slice
    subst hss
    have oy3 := (hmv.keep.block y (gl HB0.out.2.2) (fun e => by have := hlt.out; have := HB0.out.2.1; omega)).trans HB0.out.2.2
    have HV := Lib.hid (And.intro hvo (And.intro hmv oy3))
    clear hvo hmv
    go_wp2_with (refine wpList_store_rowTo rfl 25 (.tmp 8) (.tmp 43) rfl rfl y #[.int .i64 v.kind, .int .u64 v.num, .string v.text, .slice ps v.list.length cs, .int .i64 v.elem] rfl rfl 25 zR oy3 (by as_aux_lemma => kernel_rfl) (by as_aux_lemma => kernel_rfl) (by simp [Value.oneCell']) ?_)
    have hh := setRow_heap w3 y _ #[.int .i64 v.kind, .int .u64 v.num, .string v.text, .slice ps v.list.length cs, .int .i64 v.elem] _ _ HV.out.2.2
    refine bodyPost_ret (results_cell_row (p := 8) (ty := 25) (by kernel_rfl) _ _ y 25 #[.int .i64 v.kind, .int .u64 v.num, .string v.text, .slice ps v.list.length cs, .int .i64 v.elem] (0, 0) _ rfl hh Tryd.underlying25 rfl (by as_aux_lemma => kernel_rfl)) rfl ?_
    have hy0 := HB0.out.2.1
    have hy1 := (gl HB0.out.2.2)
    have hkk := (KeepF.of_below HB0.out.1).trans HV.out.2.1.keep
    have hyr : r ≠ y := fun e => by have := hlt.out; omega
    exact ⟨_, F, rfl, (HV.out.1.mono HB0.out.1.size).keep (fun b hb => setRow_other w3 y b _ (fun e => by have := (HV.out.1.lt b hb).1; omega)), ⟨⟨hkk.os, hkk.tape, hkk.output, Nat.le_trans hkk.size (by simp), fun j hj hne => (setRow_other w3 y j _ (fun e => by omega)).trans (hkk.block j hj hne)⟩, (setRow_other w3 y r _ hyr).trans HV.out.2.1.at_⟩⟩
set_option maxRecDepth 20000 in
theorem data_sc1 (o d : Int) (x : Res) (w : World) (r : Nat) (p : Option Addr) (n cp at_ en : Nat) (sz own : Int) (B : List UInt8) (h : RdIn w r p n cp at_ en sz B)
    (hx : ∀ W, RdIn W r p n cp at_ en sz B → Calls Tryd.prog 49 #[.pointer (some ⟨r, 0, none⟩), .int .i64 22, .int .i64 1, .int .i64 o, .int .i64 d] W fun e w' => RdTo W r p n cp at_ en sz own x e w') :
    Calls Tryd.prog 34 #[.pointer (some ⟨r, 0, none⟩), .int .u8 (193), .int .i64 o, .int .i64 d] w fun e w' => RdTo w r p n cp at_ en sz own x e w' := by
  have HK := Lib.hid (show ∀ W, Calls Tryd.prog 33 #[.int .u8 (193)] W fun e w' => e = .returned (.int .i64 22) ∧ W = w' from fun W => kind_any 193 W)
  have HX := Lib.hid hx
  clear hx
  go_enter Tryd.func34, Tryd.ntmps34
  go_upto_region 1 with fail
  have hb0 : Below w.heap.size w (w.alloc (.cells zR 25)) := ((Below.refl _ _).alloc (Nat.le_refl _) _)
  have oy := _root_.Go.heap_alloc_new w (.cells zR 25)
  generalize (w.alloc (.cells zR 25)) = w0 at *
  obtain ⟨y, hy⟩ : ∃ y, w.heap.size = y := ⟨_, rfl⟩
  rw [hy] at oy ⊢
  have HR0 := Lib.hid (h.blw hb0)
  have HB0 := Lib.hid (And.intro hb0 (And.intro hy oy))
  have hlt := Lib.hid h.lt
  clear hb0 hy oy h
  go_wp2_with fail
  refine (HK.out _).mono ?_
  rintro e w1 ⟨rfl, rfl⟩
  go_wp2_with fail
  refine (HX.out _ HR0.out).mono ?_
  rintro e w3 hto
  rcases x with y1 | ⟨v, k⟩
  · obtain ⟨rfl, hk⟩ := hto
    exact ⟨rfl, rfl, (KeepF.of_below HB0.out.1).trans hk⟩
  · obtain ⟨s, F, rfl, hvo, hmv⟩ := hto
    obtain ⟨ps, cs, hss, _, _⟩ := hvo.slice
    subst hss
    have oy3 := (hmv.keep.block y (gl HB0.out.2.2) (fun e => by have := hlt.out; have := HB0.out.2.1; omega)).trans HB0.out.2.2
    have HV := Lib.hid (And.intro hvo (And.intro hmv oy3))
    clear hvo hmv
    go_wp2_with (refine wpList_store_rowTo rfl 25 (.tmp 8) (.tmp 43) rfl rfl y #[.int .i64 v.kind, .int .u64 v.num, .string v.text, .slice ps v.list.length cs, .int .i64 v.elem] rfl rfl 25 zR oy3 (by as_aux_lemma => kernel_rfl) (by as_aux_lemma => kernel_rfl) (by simp [Value.oneCell']) ?_)
    have hh := setRow_heap w3 y _ #[.int .i64 v.kind, .int .u64 v.num, .string v.text, .slice ps v.list.length cs, .int .i64 v.elem] _ _ HV.out.2.2
    refine bodyPost_ret (results_cell_row (p := 8) (ty := 25) (by kernel_rfl) _ _ y 25 #[.int .i64 v.kind, .int .u64 v.num, .string v.text, .slice ps v.list.length cs, .int .i64 v.elem] (0, 0) _ rfl hh Tryd.underlying25 rfl (by as_aux_lemma => kernel_rfl)) rfl ?_
    have hy0 := HB0.out.2.1
    have hy1 := (gl HB0.out.2.2)
    have hkk := (KeepF.of_below HB0.out.1).trans HV.out.2.1.keep
    have hyr : r ≠ y := fun e => by have := hlt.out; omega
    exact ⟨_, F, rfl, (HV.out.1.mono HB0.out.1.size).keep (fun b hb => setRow_other w3 y b _ (fun e => by have := (HV.out.1.lt b hb).1; omega)), ⟨⟨hkk.os, hkk.tape, hkk.output, Nat.le_trans hkk.size (by simp), fun j hj hne => (setRow_other w3 y j _ (fun e => by omega)).trans (hkk.block j hj hne)⟩, (setRow_other w3 y r _ hyr).trans HV.out.2.1.at_⟩⟩
set_option maxRecDepth 20000 in
theorem data_sd0 (o d : Int) (x : Res) (w : World) (r : Nat) (p : Option Addr) (n cp at_ en : Nat) (sz own : Int) (B : List UInt8) (h : RdIn w r p n cp at_ en sz B)
    (hx : ∀ W, RdIn W r p n cp at_ en sz B → Calls Tryd.prog 49 #[.pointer (some ⟨r, 0, none⟩), .int .i64 21, .int .i64 4, .int .i64 o, .int .i64 d] W fun e w' => RdTo W r p n cp at_ en sz own x e w') :
    Calls Tryd.prog 34 #[.pointer (some ⟨r, 0, none⟩), .int .u8 (208), .int .i64 o, .int .i64 d] w fun e w' => RdTo w r p n cp at_ en sz own x e w' := by
  have HK := Lib.hid (show ∀ W, Calls Tryd.prog 33 #[.int .u8 (208)] W fun e w' => e = .returned (.int .i64 21) ∧ W = w' from fun W => kind_any 208 W)
  have HX := Lib.hid hx
  clear hx
  go_enter Tryd.func34, Tryd.ntmps34
  go_upto_region 1 with fail
  have hb0 : Below w.heap.size w (w.alloc (.cells zR 25)) := ((Below.refl _ _).alloc (Nat.le_refl _) _)
  have oy := _root_.Go.heap_alloc_new w (.cells zR 25)
  generalize (w.alloc (.cells zR 25)) = w0 at *
  obtain ⟨y, hy⟩ : ∃ y, w.heap.size = y := ⟨_, rfl⟩
  rw [hy] at oy ⊢
  have HR0 := Lib.hid (h.blw hb0)
  have HB0 := Lib.hid (And.intro hb0 (And.intro hy oy))
  have hlt := Lib.hid h.lt
  clear hb0 hy oy h
  go_wp2_with fail
  refine (HK.out _).mono ?_
  rintro e w1 ⟨rfl, rfl⟩
  go_wp2_with fail
  refine (HX.out _ HR0.out).mono ?_
  rintro e w3 hto
  rcases x with y1 | ⟨v, k⟩
  · obtain ⟨rfl, hk⟩ := hto
    exact ⟨rfl, rfl, (KeepF.of_below HB0.out.1).trans hk⟩
  · obtain ⟨s, F, rfl, hvo, hmv⟩ := hto
    obtain ⟨ps, cs, hss, _, _⟩ := hvo.slice
    subst hss
    have oy3 := (hmv.keep.block y (gl HB0.out.2.2) (fun e => by have := hlt.out; have := HB0.out.2.1; omega)).trans HB0.out.2.2
    have HV := Lib.hid (And.intro hvo (And.intro hmv oy3))
    clear hvo hmv
    go_wp2_with (refine wpList_store_rowTo rfl 25 (.tmp 8) (.tmp 43) rfl rfl y #[.int .i64 v.kind, .int .u64 v.num, .string v.text, .slice ps v.list.length cs, .int .i64 v.elem] rfl rfl 25 zR oy3 (by as_aux_lemma => kernel_rfl) (by as_aux_lemma => kernel_rfl) (by simp [Value.oneCell']) ?_)
    have hh := setRow_heap w3 y _ #[.int .i64 v.kind, .int .u64 v.num, .string v.text, .slice ps v.list.length cs, .int .i64 v.elem] _ _ HV.out.2.2
    refine bodyPost_ret (results_cell_row (p := 8) (ty := 25) (by kernel_rfl) _ _ y 25 #[.int .i64 v.kind, .int .u64 v.num, .string v.text, .slice ps v.list.length cs, .int .i64 v.elem] (0, 0) _ rfl hh Tryd.underlying25 rfl (by as_aux_lemma => kernel_rfl)) rfl ?_
    have hy0 := HB0.out.2.1
    have hy1 := (gl HB0.out.2.2)
    have hkk := (KeepF.of_below HB0.out.1).trans HV.out.2.1.keep
    have hyr : r ≠ y := fun e => by have := hlt.out; omega
    exact ⟨_, F, rfl, (HV.out.1.mono HB0.out.1.size).keep (fun b hb => setRow_other w3 y b _ (fun e => by have := (HV.out.1.lt b hb).1; omega)), ⟨⟨hkk.os, hkk.tape, hkk.output, Nat.le_trans hkk.size (by simp), fun j hj hne => (setRow_other w3 y j _ (fun e => by omega)).trans (hkk.block j hj hne)⟩, (setRow_other w3 y r _ hyr).trans HV.out.2.1.at_⟩⟩
set_option maxRecDepth 20000 in
theorem data_sd1 (o d : Int) (x : Res) (w : World) (r : Nat) (p : Option Addr) (n cp at_ en : Nat) (sz own : Int) (B : List UInt8) (h : RdIn w r p n cp at_ en sz B)
    (hx : ∀ W, RdIn W r p n cp at_ en sz B → Calls Tryd.prog 49 #[.pointer (some ⟨r, 0, none⟩), .int .i64 22, .int .i64 4, .int .i64 o, .int .i64 d] W fun e w' => RdTo W r p n cp at_ en sz own x e w') :
    Calls Tryd.prog 34 #[.pointer (some ⟨r, 0, none⟩), .int .u8 (209), .int .i64 o, .int .i64 d] w fun e w' => RdTo w r p n cp at_ en sz own x e w' := by
  have HK := Lib.hid (show ∀ W, Calls Tryd.prog 33 #[.int .u8 (209)] W fun e w' => e = .returned (.int .i64 22) ∧ W = w' from fun W => kind_any 209 W)
  have HX := Lib.hid hx
  clear hx
  go_enter Tryd.func34, Tryd.ntmps34
  go_upto_region 1 with fail
  have hb0 : Below w.heap.size w (w.alloc (.cells zR 25)) := ((Below.refl _ _).alloc (Nat.le_refl _) _)
  have oy := _root_.Go.heap_alloc_new w (.cells zR 25)
  generalize (w.alloc (.cells zR 25)) = w0 at *
  obtain ⟨y, hy⟩ : ∃ y, w.heap.size = y := ⟨_, rfl⟩
  rw [hy] at oy ⊢
  have HR0 := Lib.hid (h.blw hb0)
  have HB0 := Lib.hid (And.intro hb0 (And.intro hy oy))
  have hlt := Lib.hid h.lt
  clear hb0 hy oy h
  go_wp2_with fail
  refine (HK.out _).mono ?_
  rintro e w1 ⟨rfl, rfl⟩
  go_wp2_with fail
  refine (HX.out _ HR0.out).mono ?_
  rintro e w3 hto
  rcases x with y1 | ⟨v, k⟩
  · obtain ⟨rfl, hk⟩ := hto
    exact ⟨rfl, rfl, (KeepF.of_below HB0.out.1).trans hk⟩
  · obtain ⟨s, F, rfl, hvo, hmv⟩ := hto
    obtain ⟨ps, cs, hss, _, _⟩ := hvo.slice
    subst hss
    have oy3 := (hmv.keep.block y (gl HB0.out.2.2) (fun e => by have := hlt.out; have := HB0.out.2.1; omega)).trans HB0.out.2.2
    have HV := Lib.hid (And.intro hvo (And.intro hmv oy3))
    clear hvo hmv
    go_wp2_with (refine wpList_store_rowTo rfl 25 (.tmp 8) (.tmp 43) rfl rfl y #[.int .i64 v.kind, .int .u64 v.num, .string v.text, .slice ps v.list.length cs, .int .i64 v.elem] rfl rfl 25 zR oy3 (by as_aux_lemma => kernel_rfl) (by as_aux_lemma => kernel_rfl) (by simp [Value.oneCell']) ?_)
    have hh := setRow_heap w3 y _ #[.int .i64 v.kind, .int .u64 v.num, .string v.text, .slice ps v.list.length cs, .int .i64 v.elem] _ _ HV.out.2.2
    refine bodyPost_ret (results_cell_row (p := 8) (ty := 25) (by kernel_rfl) _ _ y 25 #[.int .i64 v.kind, .int .u64 v.num, .string v.text, .slice ps v.list.length cs, .int .i64 v.elem] (0, 0) _ rfl hh Tryd.underlying25 rfl (by as_aux_lemma => kernel_rfl)) rfl ?_
    have hy0 := HB0.out.2.1
    have hy1 := (gl HB0.out.2.2)
    have hkk := (KeepF.of_below HB0.out.1).trans HV.out.2.1.keep
    have hyr : r ≠ y := fun e => by have := hlt.out; omega
    exact ⟨_, F, rfl, (HV.out.1.mono HB0.out.1.size).keep (fun b hb => setRow_other w3 y b _ (fun e => by have := (HV.out.1.lt b hb).1; omega)), ⟨⟨hkk.os, hkk.tape, hkk.output, Nat.le_trans hkk.size (by simp), fun j hj hne => (setRow_other w3 y j _ (fun e => by omega)).trans (hkk.block j hj hne)⟩, (setRow_other w3 y r _ hyr).trans HV.out.2.1.at_⟩⟩
set_option maxRecDepth 20000 in
theorem data_ae0 (o d : Int) (x : Res) (w : World) (r : Nat) (p : Option Addr) (n cp at_ en : Nat) (sz own : Int) (B : List UInt8) (h : RdIn w r p n cp at_ en sz B)
    (hx : ∀ W, RdIn W r p n cp at_ en sz B → Calls Tryd.prog 50 #[.pointer (some ⟨r, 0, none⟩), .int .i64 1, .int .i64 d] W fun e w' => RdTo W r p n cp at_ en sz own x e w') :
    Calls Tryd.prog 34 #[.pointer (some ⟨r, 0, none⟩), .int .u8 (224), .int .i64 o, .int .i64 d] w fun e w' => RdTo w r p n cp at_ en sz own x e w' := by
  have HX := Lib.hid hx
  clear hx
  go_enter Tryd.func34, Tryd.ntmps34
  go_upto_region 1 with fail
  have hb0 : Below w.heap.size w (w.alloc (.cells zR 25)) := ((Below.refl _ _).alloc (Nat.le_refl _) _)
  have oy := _root_.Go.heap_alloc_new w (.cells zR 25)
  generalize (w.alloc (.cells zR 25)) = w0 at *
  obtain ⟨y, hy⟩ : ∃ y, w.heap.size = y := ⟨_, rfl⟩
  rw [hy] at oy ⊢
  have HR0 := Lib.hid (h.blw hb0)
  have HB0 := Lib.hid (And.intro hb0 (And.intro hy oy))
  have hlt := Lib.hid h.lt
  clear hb0 hy oy h
  go_wp2_with fail
  refine (HX.out _ HR0.out).mono ?_
  rintro e w3 hto
  rcases x with y1 | ⟨v, k⟩
  · obtain ⟨rfl, hk⟩ := hto
    exact ⟨rfl, rfl, (KeepF.of_below HB0.out.1).trans hk⟩
  · obtain ⟨s, F, rfl, hvo, hmv⟩ := hto
    obtain ⟨ps, cs, hss, _, _⟩ := hvo.slice
    subst hss
    have oy3 := (hmv.keep.block y (gl HB0.out.2.2) (fun e => by have := hlt.out; have := HB0.out.2.1; omega)).trans HB0.out.2.2
    have HV := Lib.hid (And.intro hvo (And.intro hmv oy3))
    clear hvo hmv
    go_wp2_with (refine wpList_store_rowTo rfl 25 (.tmp 8) (.tmp 47) rfl rfl y #[.int .i64 v.kind, .int .u64 v.num, .string v.text, .slice ps v.list.length cs, .int .i64 v.elem] rfl rfl 25 zR oy3 (by as_aux_lemma => kernel_rfl) (by as_aux_lemma => kernel_rfl) (by simp [Value.oneCell']) ?_)
    have hh := setRow_heap w3 y _ #[.int .i64 v.kind, .int .u64 v.num, .string v.text, .slice ps v.list.length cs, .int .i64 v.elem] _ _ HV.out.2.2
    refine bodyPost_ret (results_cell_row (p := 8) (ty := 25) (by kernel_rfl) _ _ y 25 #[.int .i64 v.kind, .int .u64 v.num, .string v.text, .slice ps v.list.length cs, .int .i64 v.elem] (0, 0) _ rfl hh Tryd.underlying25 rfl (by as_aux_lemma => kernel_rfl)) rfl ?_
    have hy0 := HB0.out.2.1
    have hy1 := (gl HB0.out.2.2)
    have hkk := (KeepF.of_below HB0.out.1).trans HV.out.2.1.keep
    have hyr : r ≠ y := fun e => by have := hlt.out; omega
    exact ⟨_, F, rfl, (HV.out.1.mono HB0.out.1.size).keep (fun b hb => setRow_other w3 y b _ (fun e => by have := (HV.out.1.lt b hb).1; omega)), ⟨⟨hkk.os, hkk.tape, hkk.output, Nat.le_trans hkk.size (by simp), fun j hj hne => (setRow_other w3 y j _ (fun e => by omega)).trans (hkk.block j hj hne)⟩, (setRow_other w3 y r _ hyr).trans HV.out.2.1.at_⟩⟩
set_option maxRecDepth 20000 in
theorem data_af0 (o d : Int) (x : Res) (w : World) (r : Nat) (p : Option Addr) (n cp at_ en : Nat) (sz own : Int) (B : List UInt8) (h : RdIn w r p n cp at_ en sz B)
    (hx : ∀ W, RdIn W r p n cp at_ en sz B → Calls Tryd.prog 50 #[.pointer (some ⟨r, 0, none⟩), .int .i64 4, .int .i64 d] W fun e w' => RdTo W r p n cp at_ en sz own x e w') :
    Calls Tryd.prog 34 #[.pointer (some ⟨r, 0, none⟩), .int .u8 (240), .int .i64 o, .int .i64 d] w fun e w' => RdTo w r p n cp at_ en sz own x e w' := by
  have HX := Lib.hid hx
  clear hx
  go_enter Tryd.func34, Tryd.ntmps34
  go_upto_region 1 with fail
  have hb0 : Below w.heap.size w (w.alloc (.cells zR 25)) := ((Below.refl _ _).alloc (Nat.le_refl _) _)
  have oy := _root_.Go.heap_alloc_new w (.cells zR 25)
  generalize (w.alloc (.cells zR 25)) = w0 at *
  obtain ⟨y, hy⟩ : ∃ y, w.heap.size = y := ⟨_, rfl⟩
  rw [hy] at oy ⊢
  have HR0 := Lib.hid (h.blw hb0)
  have HB0 := Lib.hid (And.intro hb0 (And.intro hy oy))
  have hlt := Lib.hid h.lt
  clear hb0 hy oy h
  go_wp2_with fail
  refine (HX.out _ HR0.out).mono ?_
  rintro e w3 hto
  rcases x with y1 | ⟨v, k⟩
  · obtain ⟨rfl, hk⟩ := hto
    exact ⟨rfl, rfl, (KeepF.of_below HB0.out.1).trans hk⟩
  · obtain ⟨s, F, rfl, hvo, hmv⟩ := hto
    obtain ⟨ps, cs, hss, _, _⟩ := hvo.slice
    subst hss
    have oy3 := (hmv.keep.block y (gl HB0.out.2.2) (fun e => by have := hlt.out; have := HB0.out.2.1; omega)).trans HB0.out.2.2
    have HV := Lib.hid (And.intro hvo (And.intro hmv oy3))
    clear hvo hmv
    go_wp2_with (refine wpList_store_rowTo rfl 25 (.tmp 8) (.tmp 47) rfl rfl y #[.int .i64 v.kind, .int .u64 v.num, .string v.text, .slice ps v.list.length cs, .int .i64 v.elem] rfl rfl 25 zR oy3 (by as_aux_lemma => kernel_rfl) (by as_aux_lemma => kernel_rfl) (by simp [Value.oneCell']) ?_)
    have hh := setRow_heap w3 y _ #[.int .i64 v.kind, .int .u64 v.num, .string v.text, .slice ps v.list.length cs, .int .i64 v.elem] _ _ HV.out.2.2
    refine bodyPost_ret (results_cell_row (p := 8) (ty := 25) (by kernel_rfl) _ _ y 25 #[.int .i64 v.kind, .int .u64 v.num, .string v.text, .slice ps v.list.length cs, .int .i64 v.elem] (0, 0) _ rfl hh Tryd.underlying25 rfl (by as_aux_lemma => kernel_rfl)) rfl ?_
    have hy0 := HB0.out.2.1
    have hy1 := (gl HB0.out.2.2)
    have hkk := (KeepF.of_below HB0.out.1).trans HV.out.2.1.keep
    have hyr : r ≠ y := fun e => by have := hlt.out; omega
    exact ⟨_, F, rfl, (HV.out.1.mono HB0.out.1.size).keep (fun b hb => setRow_other w3 y b _ (fun e => by have := (HV.out.1.lt b hb).1; omega)), ⟨⟨hkk.os, hkk.tape, hkk.output, Nat.le_trans hkk.size (by simp), fun j hj hne => (setRow_other w3 y j _ (fun e => by omega)).trans (hkk.block j hj hne)⟩, (setRow_other w3 y r _ hyr).trans HV.out.2.1.at_⟩⟩
set_option maxRecDepth 20000 in
theorem data_fixed (c : Nat) (o d : Int) (x : Res) (w : World) (r : Nat) (p : Option Addr) (n cp at_ en : Nat) (sz own : Int) (B : List UInt8) (h : RdIn w r p n cp at_ en sz B)
    (hx : ∀ W, RdIn W r p n cp at_ en sz B → Calls Tryd.prog 51 #[.pointer (some ⟨r, 0, none⟩), .int .u8 (c : Nat)] W fun e w' => RdTo W r p n cp at_ en sz own x e w') (hc : c < 144) :
    Calls Tryd.prog 34 #[.pointer (some ⟨r, 0, none⟩), .int .u8 ((c : Nat)), .int .i64 o, .int .i64 d] w fun e w' => RdTo w r p n cp at_ en sz own x e w' := by
  have HX := Lib.hid hx
  clear hx
  have n176 : (((c : Nat) : Int) == 176) = false := by simp; omega
  have n177 : (((c : Nat) : Int) == 177) = false := by simp; omega
  have n179 : (((c : Nat) : Int) == 179) = false := by simp; omega
  have n160 : (((c : Nat) : Int) == 160) = false := by simp; omega
  have n161 : (((c : Nat) : Int) == 161) = false := by simp; omega
  have n163 : (((c : Nat) : Int) == 163) = false := by simp; omega
  have n208 : (((c : Nat) : Int) == 208) = false := by simp; omega
  have n209 : (((c : Nat) : Int) == 209) = false := by simp; omega
  have n192 : (((c : Nat) : Int) == 192) = false := by simp; omega
  have n193 : (((c : Nat) : Int) == 193) = false := by simp; omega
  have n240 : (((c : Nat) : Int) == 240) = false := by simp; omega
  have n224 : (((c : Nat) : Int) == 224) = false := by simp; omega
  have n148 : (((c : Nat) : Int) == 148) = false := by simp; omega
  have n152 : (((c : Nat) : Int) == 152) = false := by simp; omega
  clear hc
  go_enter Tryd.func34, Tryd.ntmps34
  go_upto_region 1 with fail
  have hb0 : Below w.heap.size w (w.alloc (.cells zR 25)) := ((Below.refl _ _).alloc (Nat.le_refl _) _)
  have oy := _root_.Go.heap_alloc_new w (.cells zR 25)
  generalize (w.alloc (.cells zR 25)) = w0 at *
  obtain ⟨y, hy⟩ : ∃ y, w.heap.size = y := ⟨_, rfl⟩
  rw [hy] at oy ⊢
  have HR0 := Lib.hid (h.blw hb0)
  have HB0 := Lib.hid (And.intro hb0 (And.intro hy oy))
  have hlt := Lib.hid h.lt
  clear hb0 hy oy h
  go_wp2_with fail
  refine (HX.out _ HR0.out).mono ?_
  rintro e w3 hto
  rcases x with y1 | ⟨v, k⟩
  · obtain ⟨rfl, hk⟩ := hto
    exact ⟨rfl, rfl, (KeepF.of_below HB0.out.1).trans hk⟩
  · obtain ⟨s, F, rfl, hvo, hmv⟩ := hto
    obtain ⟨ps, cs, hss, _, _⟩ := hvo.slice
    subst hss
    have oy3 := (hmv.keep.block y (gl HB0.out.2.2) (fun e => by have := hlt.out; have := HB0.out.2.1; omega)).trans HB0.out.2.2
    have HV := Lib.hid (And.intro hvo (And.intro hmv oy3))
    clear hvo hmv
    go_wp2_with (refine wpList_store_rowTo rfl 25 (.tmp 8) (.tmp 77) rfl rfl y #[.int .i64 v.kind, .int .u64 v.num, .string v.text, .slice ps v.list.length cs, .int .i64 v.elem] rfl rfl 25 zR oy3 (by as_aux_lemma => kernel_rfl) (by as_aux_lemma => kernel_rfl) (by simp [Value.oneCell']) ?_)
    have hh := setRow_heap w3 y _ #[.int .i64 v.kind, .int .u64 v.num, .string v.text, .slice ps v.list.length cs, .int .i64 v.elem] _ _ HV.out.2.2
    refine bodyPost_ret (results_cell_row (p := 8) (ty := 25) (by kernel_rfl) _ _ y 25 #[.int .i64 v.kind, .int .u64 v.num, .string v.text, .slice ps v.list.length cs, .int .i64 v.elem] (0, 0) _ rfl hh Tryd.underlying25 rfl (by as_aux_lemma => kernel_rfl)) rfl ?_
    have hy0 := HB0.out.2.1
    have hy1 := (gl HB0.out.2.2)
    have hkk := (KeepF.of_below HB0.out.1).trans HV.out.2.1.keep
    have hyr : r ≠ y := fun e => by have := hlt.out; omega
    exact ⟨_, F, rfl, (HV.out.1.mono HB0.out.1.size).keep (fun b hb => setRow_other w3 y b _ (fun e => by have := (HV.out.1.lt b hb).1; omega)), ⟨⟨hkk.os, hkk.tape, hkk.output, Nat.le_trans hkk.size (by simp), fun j hj hne => (setRow_other w3 y j _ (fun e => by omega)).trans (hkk.block j hj hne)⟩, (setRow_other w3 y r _ hyr).trans HV.out.2.1.at_⟩⟩
end Go.Proofs.YtjipennigjlklaaDoor
