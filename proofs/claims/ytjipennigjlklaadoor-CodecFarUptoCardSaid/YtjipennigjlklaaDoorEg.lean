/-
  The codec's reader: data of sixteen bytes. Conditions: the reader and its bytes lie in memory.
-/
import Derived.Test.YtjipennigjlklaaDoorEf
namespace Go.Proofs.YtjipennigjlklaaDoor
open Go.RowKit
set_option linter.unusedVariables false
set_option maxHeartbeats 4000000

attribute [local go_sem] Oper.semAt_some

set_option maxRecDepth 20000 in
theorem raw_94_short (o d : Int) (w : World) (r : Nat) (p : Option Addr) (n cp at_ en : Nat) (sz own : Int) (B : List UInt8) (h : RdIn w r p n cp at_ en sz B) (hs : en < at_ + 16) :
    Calls Tryd.prog 34 #[.pointer (some ⟨r, 0, none⟩), .int .u8 148, .int .i64 o, .int .i64 d] w fun e w' => e = faultE (shP n sz) (shC sz) ∧ KeepF (fun g => g = r) w w' := by
  have HNE := Lib.hid (show ∀ W, RdIn W r p n cp at_ en sz B → Calls Tryd.prog 32 #[.pointer (some ⟨r, 0, none⟩), .int .i64 16] W fun e w' => e = faultE (shP n sz) (shC sz) ∧ Below W.heap.size W w' from fun W hW => need_bad W r p n cp at_ en sz hW.row 16 hW.ha hs (by have := hW.hen; have := hW.hn; omega) hW.hn)
  clear hs
  go_enter Tryd.func34, Tryd.ntmps34
  go_upto_region 1 with fail
  have hb0 : Below w.heap.size w (w.alloc (.cells zR 25)) := ((Below.refl _ _).alloc (Nat.le_refl _) _)
  have oy := _root_.Go.heap_alloc_new w (.cells zR 25)
  generalize (w.alloc (.cells zR 25)) = w0 at *
  obtain ⟨y, hy⟩ : ∃ y, w.heap.size = y := ⟨_, rfl⟩
  rw [hy] at oy ⊢
  have HR0 := Lib.hid (h.blw hb0)
  have HB0 := Lib.hid (And.intro hb0 (And.intro hy oy))
  have hlt := Lib.hid h.lt
  clear hb0 hy oy h
  go_wp2_with fail
  refine (HNE.out _ HR0.out).mono ?_
  rintro e w4 ⟨rfl, hb4⟩
  exact ⟨rfl, rfl, (KeepF.of_below HB0.out.1).trans (KeepF.of_below hb4)⟩
set_option maxRecDepth 20000 in
theorem raw_94 (o d : Int) (w : World) (r : Nat) (p : Option Addr) (n cp at_ en : Nat) (sz own : Int) (B : List UInt8) (h : RdIn w r p n cp at_ en sz B) (hs : at_ + 16 ≤ en) :
    Calls Tryd.prog 34 #[.pointer (some ⟨r, 0, none⟩), .int .u8 148, .int .i64 o, .int .i64 d] w fun e w' => e = .returned (.agg #[.int .i64 14, .int .u64 0, .string ⟨((B.drop at_).take 16).toArray⟩, .slice none 0 0, .int .i64 0]) ∧ RdMv w w' r #[.slice p n cp, .int .i64 (at_ + 16 : Nat), .int .i64 (en : Nat), .int .i64 sz] := by
  have HK := Lib.hid (show ∀ W, Calls Tryd.prog 33 #[.int .u8 148] W fun e w' => e = .returned (.int .i64 14) ∧ W = w' from fun W => kind_any 148 W)
  have HNE := Lib.hid (show ∀ W, RdIn W r p n cp at_ en sz B → Calls Tryd.prog 32 #[.pointer (some ⟨r, 0, none⟩), .int .i64 16] W fun e w' => e = .returned (.tuple #[]) ∧ Below W.heap.size W w' from fun W hW => need_ok W r p n cp at_ en sz hW.row 16 hW.ha hs (by have := hW.hen; have := hW.hn; omega))
  obtain ⟨a2, ha2⟩ : ∃ a2, at_ + 16 = a2 := ⟨_, rfl⟩
  have HV := Lib.hid (show ∀ W, RdIn W r p n cp a2 en sz B → (convert 28 9 (.slice (if cp = at_ then p else p.map (fun x => x.add at_)) 16 (cp - at_))).run Tryd.prog W = .ok (.string ⟨((B.drop at_).take 16).toArray⟩) W from fun W hW => run_string_bytes W _ _ 5 Tryd.underlying28 Tryd.underlying5 Tryd.underlying9 _ _ _ _ (hW.src.bytes.part at_ 16 (by have := hW.hen; omega)))
  rw [ha2] at hs ⊢
  have ha2' := Lib.hid (And.intro ha2 hs)
  have hle := h.src.bytes.le
  have hen := h.hen
  have hn := h.hn
  have ib1 : (0 : Int) ≤ (at_ : Nat) := by omega
  have ib2 : ((at_ : Nat) : Int) ≤ (a2 : Nat) := by omega
  have ib3 : ((a2 : Nat) : Int) ≤ (cp : Nat) := by omega
  have ib5 : a2 - at_ = 16 := by omega
  have ib4 : ((a2 : Nat) : Int) ≤ 140737488355328 := by omega
  have hadd : IntKind.i64.wrap ((at_ : Int) + 16) = (a2 : Nat) := by rw [IntWalk.i64_in _ (by omega)]; omega
  have hsub : IntKind.i64.wrap ((a2 : Int) - 16) = (at_ : Nat) := by rw [IntWalk.i64_in _ (by omega)]; omega
  clear hs hle hen hn
  go_enter Tryd.func34, Tryd.ntmps34
  go_upto_region 1 with fail
  have hb0 : Below w.heap.size w (w.alloc (.cells zR 25)) := ((Below.refl _ _).alloc (Nat.le_refl _) _)
  have oy := _root_.Go.heap_alloc_new w (.cells zR 25)
  generalize (w.alloc (.cells zR 25)) = w0 at *
  obtain ⟨y, hy⟩ : ∃ y, w.heap.size = y := ⟨_, rfl⟩
  rw [hy] at oy ⊢
  have HR0 := Lib.hid (h.blw hb0)
  have HB0 := Lib.hid (And.intro hb0 (And.intro hy oy))
  have hlt := Lib.hid h.lt
  clear hb0 hy oy h ha2
  go_wp2_with fail
  refine (HNE.out _ HR0.out).mono ?_
  rintro e w4 ⟨rfl, hb4⟩
  have HR4 := Lib.hid (HR0.out.blw hb4)
  have oy4 := (hb4.block y (gl HB0.out.2.2)).trans HB0.out.2.2
  have r1 : w4.cell? ⟨r, 1, none⟩ = some (.int .i64 (at_ : Nat)) := (cell_of_row _ _ 1 _ _ _ HR4.out.row).trans rfl
  have fr : w4.frozen? ⟨r, 1, none⟩ = false := by simp [World.frozen?, HR4.out.row]
  have HB4 := Lib.hid (And.intro hb4 oy4)
  clear hb4 oy4
  go_upto_region 25 with fail
  have hyr0 : y ≠ r := fun e => by have := hlt.out; have := HB0.out.2.1; omega
  have or5 := heap_setCell_same w4 r 1 _ _ (.int .i64 (a2 : Nat)) HR4.out.row
  have oy5 : (w4.setCell ⟨r, 1, none⟩ (.int .i64 (a2 : Nat))).heap[y]? = some (.cells zR 25 (0, 0)) := (set_farV hyr0).trans HB4.out.2
  have hk5 : KeepF (fun g => g = r) w4 (w4.setCell ⟨r, 1, none⟩ (.int .i64 (a2 : Nat))) := ⟨rfl, rfl, rfl, by simp, fun j hj hne => set_farV hne⟩
  change Code.wp _ _ _ _ (w4.setCell ⟨r, 1, none⟩ (.int .i64 (a2 : Nat)))
  generalize w4.setCell ⟨r, 1, none⟩ (.int .i64 (a2 : Nat)) = w5 at *
  have HR5 := Lib.hid (HR4.out.mv ⟨hk5, or5⟩ ha2'.out.2)
  have HM5 := Lib.hid (((KeepF.of_below HB0.out.1).trans (KeepF.of_below HB4.out.1)).trans hk5)
  have HO5 := Lib.hid (show w5.drew.heap[y]? = some (.cells zR 25 (0, 0)) from oy5)
  clear or5 oy5 hk5 hyr0 r1 fr hadd
  refine wp_region_heldN (fun V => RdIn V r p n cp a2 en sz B) 19 rfl (by kernel_rfl) ?_
  have hS : RdIn w5.drew r p n cp a2 en sz B := HR5.out.blw (bdrew (Below.refl _ _))
  refine tkD (i := 0) (v := .int .u8 148) (some 57) rfl rfl (by kernel_rfl) (fun _ _ _ h => h) (Or.inl ⟨by rfl, by rintro V h0; go_simp⟩) hS ?_
  try simp only [Act.put, sA, sB, sC]
  refine tkD (i := 2) (v := .pointer (some ⟨r, 0, none⟩)) (some 59) rfl rfl (by kernel_rfl) (fun _ _ _ h => h) (Or.inl ⟨by rfl, by rintro V h0; go_simp⟩) hS ?_
  try simp only [Act.put, sA, sB, sC]
  refine tkD (i := 3) (v := .pointer (some ⟨r, 0, none⟩)) (some 60) rfl rfl (by kernel_rfl) (fun _ _ _ h => h) (Or.inl ⟨by rfl, by rintro V h0; go_simp⟩) hS ?_
  try simp only [Act.put, sA, sB, sC]
  refine tkD (i := 4) (v := .pointer (some ⟨r, 0, none⟩)) (some 61) rfl rfl (by kernel_rfl) (fun _ _ _ h => h) (Or.inl ⟨by rfl, by rintro V h0; go_simp⟩) hS ?_
  try simp only [Act.put, sA, sB, sC]
  refine tkD (i := 5) (v := .slice p n cp) (some 62) rfl rfl (by kernel_rfl) (fun _ _ _ h => h) (Or.inl ⟨by rfl, by rintro V h0; have y0 := (cell_of_row V _ 0 _ _ _ h0.row).trans rfl; have y1 := (cell_of_row V _ 1 _ _ _ h0.row).trans rfl; go_simp⟩) hS ?_
  try simp only [Act.put, sA, sB, sC]
  refine tkD (i := 6) (v := .pointer (some ⟨r, 0, none⟩)) (some 63) rfl rfl (by kernel_rfl) (fun _ _ _ h => h) (Or.inl ⟨by rfl, by rintro V h0; go_simp⟩) hS ?_
  try simp only [Act.put, sA, sB, sC]
  refine tkD (i := 7) (v := .pointer (some ⟨r, 0, none⟩)) (some 64) rfl rfl (by kernel_rfl) (fun _ _ _ h => h) (Or.inl ⟨by rfl, by rintro V h0; go_simp⟩) hS ?_
  try simp only [Act.put, sA, sB, sC]
  refine tkD (i := 8) (v := .pointer (some ⟨r, 1, none⟩)) (some 65) rfl rfl (by kernel_rfl) (fun _ _ _ h => h) (Or.inl ⟨by rfl, by rintro V h0; go_simp⟩) hS ?_
  try simp only [Act.put, sA, sB, sC]
  refine tkD (i := 9) (v := .int .i64 (a2 : Nat)) (some 66) rfl rfl (by kernel_rfl) (fun _ _ _ h => h) (Or.inl ⟨by rfl, by rintro V h0; have y0 := (cell_of_row V _ 0 _ _ _ h0.row).trans rfl; have y1 := (cell_of_row V _ 1 _ _ _ h0.row).trans rfl; go_simp⟩) hS ?_
  try simp only [Act.put, sA, sB, sC]
  refine tkD (i := 10) (v := .int .i64 (at_ : Nat)) (some 67) rfl rfl (by kernel_rfl) (fun _ _ _ h => h) (Or.inl ⟨by rfl, by rintro V h0; go_simp⟩) hS ?_
  try simp only [Act.put, sA, sB, sC]
  refine tkD (i := 11) (v := .pointer (some ⟨r, 0, none⟩)) (some 68) rfl rfl (by kernel_rfl) (fun _ _ _ h => h) (Or.inl ⟨by rfl, by rintro V h0; go_simp⟩) hS ?_
  try simp only [Act.put, sA, sB, sC]
  refine tkD (i := 12) (v := .pointer (some ⟨r, 0, none⟩)) (some 69) rfl rfl (by kernel_rfl) (fun _ _ _ h => h) (Or.inl ⟨by rfl, by rintro V h0; go_simp⟩) hS ?_
  try simp only [Act.put, sA, sB, sC]
  refine tkD (i := 13) (v := .pointer (some ⟨r, 1, none⟩)) (some 70) rfl rfl (by kernel_rfl) (fun _ _ _ h => h) (Or.inl ⟨by rfl, by rintro V h0; go_simp⟩) hS ?_
  try simp only [Act.put, sA, sB, sC]
  refine tkD (i := 14) (v := .int .i64 (a2 : Nat)) (some 71) rfl rfl (by kernel_rfl) (fun _ _ _ h => h) (Or.inl ⟨by rfl, by rintro V h0; have y0 := (cell_of_row V _ 0 _ _ _ h0.row).trans rfl; have y1 := (cell_of_row V _ 1 _ _ _ h0.row).trans rfl; go_simp⟩) hS ?_
  try simp only [Act.put, sA, sB, sC]
  refine tkD (i := 15) (v := (.slice (if cp = at_ then p else p.map (fun x => x.add at_)) 16 (cp - at_))) (some 72) rfl rfl (by kernel_rfl) (fun _ _ _ h => h) (Or.inl ⟨by rfl, by rintro V h0; go_simp <;> omega⟩) hS ?_
  try simp only [Act.put, sA, sB, sC]
  refine tkD (i := 16) (v := .string ⟨((B.drop at_).take 16).toArray⟩) (some 73) rfl rfl (by kernel_rfl) (fun _ _ _ h => h) (Or.inl ⟨by rfl, by rintro V h0; have z5 := HV.out V h0; go_simp⟩) hS ?_
  try simp only [Act.put, sA, sB, sC]
  refine oneH (i := 1) (by kernel_rfl) ?_
  refine stepD (i := 1) rfl (by rfl) (fun K5 h5 => ?_)
  go_simp
  (with_reducible refine (HK.out w5.drew).mono ?_)
  rintro e w6 ⟨rfl, rfl⟩
  refine h5.out _ _ hS ?_
  clear h5
  try simp only [Act.put, sA, sB, sC]
  refine tkD (i := 17) (v := .agg #[.int .i64 14, .int .u64 0, .string ⟨((B.drop at_).take 16).toArray⟩, .slice none 0 0, .int .i64 0]) (some 74) rfl rfl (by kernel_rfl) (fun _ _ _ h => h) (Or.inl ⟨by rfl, by rintro V h0; go_simp⟩) hS ?_
  try simp only [Act.put, sA, sB, sC]
  have hh := setRow_heap w5.drew y _ #[.int .i64 14, .int .u64 0, .string ⟨((B.drop at_).take 16).toArray⟩, .slice none 0 0, .int .i64 0] _ _ HO5.out
  have hyr : r ≠ y := fun e => by have := hlt.out; have := HB0.out.2.1; omega
  have hS3 : RdIn (w5.drew.setRow y #[.int .i64 14, .int .u64 0, .string ⟨((B.drop at_).take 16).toArray⟩, .slice none 0 0, .int .i64 0]) r p n cp a2 en sz B := ⟨(setRow_other w5.drew y r _ hyr).trans hS.row, hS.src.keep ⟨rfl, rfl, rfl, by simp, fun j hj hne => setRow_other w5.drew y j _ (fun e => by have := hlt.out; have := HB0.out.2.1; omega)⟩, hS.ha, hS.hen, hS.hn⟩
  refine oneH (i := 18) (by kernel_rfl) ?_
  refine stepD (i := 18) rfl (by rfl) (fun K5 h5 => ?_)
  refine wp_store_rowN 25 (.tmp 8) (.tmp 74) rfl rfl y #[.int .i64 14, .int .u64 0, .string ⟨((B.drop at_).take 16).toArray⟩, .slice none 0 0, .int .i64 0] rfl rfl 25 zR HO5.out (by as_aux_lemma => kernel_rfl) (by as_aux_lemma => kernel_rfl) (by simp [Value.oneCell']) ?_
  refine h5.out _ _ hS3 ?_
  clear h5
  try simp only [Act.put, sA, sB, sC]
  refine wpAnyH_done (by kernel_rfl) ?_ _
  change Exit.then _ _ _ _ (w5.drew.setRow y #[.int .i64 14, .int .u64 0, .string ⟨((B.drop at_).take 16).toArray⟩, .slice none 0 0, .int .i64 0])
  clear ib5
  generalize (if cp = at_ then p else p.map (fun x => x.add at_)) = ps at *
  go_wp2_with fail
  refine bodyPost_ret (results_cell_row (p := 8) (ty := 25) (by kernel_rfl) _ _ y 25 #[.int .i64 14, .int .u64 0, .string ⟨((B.drop at_).take 16).toArray⟩, .slice none 0 0, .int .i64 0] (0, 0) _ rfl hh Tryd.underlying25 rfl (by as_aux_lemma => kernel_rfl)) rfl ?_
  have hy0 := HB0.out.2.1
  exact ⟨rfl, ⟨HM5.out.os, HM5.out.tape, HM5.out.output, Nat.le_trans HM5.out.size (by simp), fun j hj hne => (setRow_other w5.drew y j _ (fun e => by omega)).trans (HM5.out.block j hj hne)⟩, hS3.row⟩
set_option maxRecDepth 20000 in
theorem raw_98_short (o d : Int) (w : World) (r : Nat) (p : Option Addr) (n cp at_ en : Nat) (sz own : Int) (B : List UInt8) (h : RdIn w r p n cp at_ en sz B) (hs : en < at_ + 16) :
    Calls Tryd.prog 34 #[.pointer (some ⟨r, 0, none⟩), .int .u8 152, .int .i64 o, .int .i64 d] w fun e w' => e = faultE (shP n sz) (shC sz) ∧ KeepF (fun g => g = r) w w' := by
  have HNE := Lib.hid (show ∀ W, RdIn W r p n cp at_ en sz B → Calls Tryd.prog 32 #[.pointer (some ⟨r, 0, none⟩), .int .i64 16] W fun e w' => e = faultE (shP n sz) (shC sz) ∧ Below W.heap.size W w' from fun W hW => need_bad W r p n cp at_ en sz hW.row 16 hW.ha hs (by have := hW.hen; have := hW.hn; omega) hW.hn)
  clear hs
  go_enter Tryd.func34, Tryd.ntmps34
  go_upto_region 1 with fail
  have hb0 : Below w.heap.size w (w.alloc (.cells zR 25)) := ((Below.refl _ _).alloc (Nat.le_refl _) _)
  have oy := _root_.Go.heap_alloc_new w (.cells zR 25)
  generalize (w.alloc (.cells zR 25)) = w0 at *
  obtain ⟨y, hy⟩ : ∃ y, w.heap.size = y := ⟨_, rfl⟩
  rw [hy] at oy ⊢
  have HR0 := Lib.hid (h.blw hb0)
  have HB0 := Lib.hid (And.intro hb0 (And.intro hy oy))
  have hlt := Lib.hid h.lt
  clear hb0 hy oy h
  go_wp2_with fail
  refine (HNE.out _ HR0.out).mono ?_
  rintro e w4 ⟨rfl, hb4⟩
  exact ⟨rfl, rfl, (KeepF.of_below HB0.out.1).trans (KeepF.of_below hb4)⟩
set_option maxRecDepth 20000 in
theorem raw_98 (o d : Int) (w : World) (r : Nat) (p : Option Addr) (n cp at_ en : Nat) (sz own : Int) (B : List UInt8) (h : RdIn w r p n cp at_ en sz B) (hs : at_ + 16 ≤ en) :
    Calls Tryd.prog 34 #[.pointer (some ⟨r, 0, none⟩), .int .u8 152, .int .i64 o, .int .i64 d] w fun e w' => e = .returned (.agg #[.int .i64 17, .int .u64 0, .string ⟨((B.drop at_).take 16).toArray⟩, .slice none 0 0, .int .i64 0]) ∧ RdMv w w' r #[.slice p n cp, .int .i64 (at_ + 16 : Nat), .int .i64 (en : Nat), .int .i64 sz] := by
  have HK := Lib.hid (show ∀ W, Calls Tryd.prog 33 #[.int .u8 152] W fun e w' => e = .returned (.int .i64 17) ∧ W = w' from fun W => kind_any 152 W)
  have HNE := Lib.hid (show ∀ W, RdIn W r p n cp at_ en sz B → Calls Tryd.prog 32 #[.pointer (some ⟨r, 0, none⟩), .int .i64 16] W fun e w' => e = .returned (.tuple #[]) ∧ Below W.heap.size W w' from fun W hW => need_ok W r p n cp at_ en sz hW.row 16 hW.ha hs (by have := hW.hen; have := hW.hn; omega))
  obtain ⟨a2, ha2⟩ : ∃ a2, at_ + 16 = a2 := ⟨_, rfl⟩
  have HV := Lib.hid (show ∀ W, RdIn W r p n cp a2 en sz B → (convert 28 9 (.slice (if cp = at_ then p else p.map (fun x => x.add at_)) 16 (cp - at_))).run Tryd.prog W = .ok (.string ⟨((B.drop at_).take 16).toArray⟩) W from fun W hW => run_string_bytes W _ _ 5 Tryd.underlying28 Tryd.underlying5 Tryd.underlying9 _ _ _ _ (hW.src.bytes.part at_ 16 (by have := hW.hen; omega)))
  rw [ha2] at hs ⊢
  have ha2' := Lib.hid (And.intro ha2 hs)
  have hle := h.src.bytes.le
  have hen := h.hen
  have hn := h.hn
  have ib1 : (0 : Int) ≤ (at_ : Nat) := by omega
  have ib2 : ((at_ : Nat) : Int) ≤ (a2 : Nat) := by omega
  have ib3 : ((a2 : Nat) : Int) ≤ (cp : Nat) := by omega
  have ib5 : a2 - at_ = 16 := by omega
  have ib4 : ((a2 : Nat) : Int) ≤ 140737488355328 := by omega
  have hadd : IntKind.i64.wrap ((at_ : Int) + 16) = (a2 : Nat) := by rw [IntWalk.i64_in _ (by omega)]; omega
  have hsub : IntKind.i64.wrap ((a2 : Int) - 16) = (at_ : Nat) := by rw [IntWalk.i64_in _ (by omega)]; omega
  clear hs hle hen hn
  go_enter Tryd.func34, Tryd.ntmps34
  go_upto_region 1 with fail
  have hb0 : Below w.heap.size w (w.alloc (.cells zR 25)) := ((Below.refl _ _).alloc (Nat.le_refl _) _)
  have oy := _root_.Go.heap_alloc_new w (.cells zR 25)
  generalize (w.alloc (.cells zR 25)) = w0 at *
  obtain ⟨y, hy⟩ : ∃ y, w.heap.size = y := ⟨_, rfl⟩
  rw [hy] at oy ⊢
  have HR0 := Lib.hid (h.blw hb0)
  have HB0 := Lib.hid (And.intro hb0 (And.intro hy oy))
  have hlt := Lib.hid h.lt
  clear hb0 hy oy h ha2
  go_wp2_with fail
  refine (HNE.out _ HR0.out).mono ?_
  rintro e w4 ⟨rfl, hb4⟩
  have HR4 := Lib.hid (HR0.out.blw hb4)
  have oy4 := (hb4.block y (gl HB0.out.2.2)).trans HB0.out.2.2
  have r1 : w4.cell? ⟨r, 1, none⟩ = some (.int .i64 (at_ : Nat)) := (cell_of_row _ _ 1 _ _ _ HR4.out.row).trans rfl
  have fr : w4.frozen? ⟨r, 1, none⟩ = false := by simp [World.frozen?, HR4.out.row]
  have HB4 := Lib.hid (And.intro hb4 oy4)
  clear hb4 oy4
  go_upto_region 25 with fail
  have hyr0 : y ≠ r := fun e => by have := hlt.out; have := HB0.out.2.1; omega
  have or5 := heap_setCell_same w4 r 1 _ _ (.int .i64 (a2 : Nat)) HR4.out.row
  have oy5 : (w4.setCell ⟨r, 1, none⟩ (.int .i64 (a2 : Nat))).heap[y]? = some (.cells zR 25 (0, 0)) := (set_farV hyr0).trans HB4.out.2
  have hk5 : KeepF (fun g => g = r) w4 (w4.setCell ⟨r, 1, none⟩ (.int .i64 (a2 : Nat))) := ⟨rfl, rfl, rfl, by simp, fun j hj hne => set_farV hne⟩
  change Code.wp _ _ _ _ (w4.setCell ⟨r, 1, none⟩ (.int .i64 (a2 : Nat)))
  generalize w4.setCell ⟨r, 1, none⟩ (.int .i64 (a2 : Nat)) = w5 at *
  have HR5 := Lib.hid (HR4.out.mv ⟨hk5, or5⟩ ha2'.out.2)
  have HM5 := Lib.hid (((KeepF.of_below HB0.out.1).trans (KeepF.of_below HB4.out.1)).trans hk5)
  have HO5 := Lib.hid (show w5.drew.heap[y]? = some (.cells zR 25 (0, 0)) from oy5)
  clear or5 oy5 hk5 hyr0 r1 fr hadd
  refine wp_region_heldN (fun V => RdIn V r p n cp a2 en sz B) 19 rfl (by kernel_rfl) ?_
  have hS : RdIn w5.drew r p n cp a2 en sz B := HR5.out.blw (bdrew (Below.refl _ _))
  refine tkD (i := 0) (v := .int .u8 152) (some 57) rfl rfl (by kernel_rfl) (fun _ _ _ h => h) (Or.inl ⟨by rfl, by rintro V h0; go_simp⟩) hS ?_
  try simp only [Act.put, sA, sB, sC]
  refine tkD (i := 2) (v := .pointer (some ⟨r, 0, none⟩)) (some 59) rfl rfl (by kernel_rfl) (fun _ _ _ h => h) (Or.inl ⟨by rfl, by rintro V h0; go_simp⟩) hS ?_
  try simp only [Act.put, sA, sB, sC]
  refine tkD (i := 3) (v := .pointer (some ⟨r, 0, none⟩)) (some 60) rfl rfl (by kernel_rfl) (fun _ _ _ h => h) (Or.inl ⟨by rfl, by rintro V h0; go_simp⟩) hS ?_
  try simp only [Act.put, sA, sB, sC]
  refine tkD (i := 4) (v := .pointer (some ⟨r, 0, none⟩)) (some 61) rfl rfl (by kernel_rfl) (fun _ _ _ h => h) (Or.inl ⟨by rfl, by rintro V h0; go_simp⟩) hS ?_
  try simp only [Act.put, sA, sB, sC]
  refine tkD (i := 5) (v := .slice p n cp) (some 62) rfl rfl (by kernel_rfl) (fun _ _ _ h => h) (Or.inl ⟨by rfl, by rintro V h0; have y0 := (cell_of_row V _ 0 _ _ _ h0.row).trans rfl; have y1 := (cell_of_row V _ 1 _ _ _ h0.row).trans rfl; go_simp⟩) hS ?_
  try simp only [Act.put, sA, sB, sC]
  refine tkD (i := 6) (v := .pointer (some ⟨r, 0, none⟩)) (some 63) rfl rfl (by kernel_rfl) (fun _ _ _ h => h) (Or.inl ⟨by rfl, by rintro V h0; go_simp⟩) hS ?_
  try simp only [Act.put, sA, sB, sC]
  refine tkD (i := 7) (v := .pointer (some ⟨r, 0, none⟩)) (some 64) rfl rfl (by kernel_rfl) (fun _ _ _ h => h) (Or.inl ⟨by rfl, by rintro V h0; go_simp⟩) hS ?_
  try simp only [Act.put, sA, sB, sC]
  refine tkD (i := 8) (v := .pointer (some ⟨r, 1, none⟩)) (some 65) rfl rfl (by kernel_rfl) (fun _ _ _ h => h) (Or.inl ⟨by rfl, by rintro V h0; go_simp⟩) hS ?_
  try simp only [Act.put, sA, sB, sC]
  refine tkD (i := 9) (v := .int .i64 (a2 : Nat)) (some 66) rfl rfl (by kernel_rfl) (fun _ _ _ h => h) (Or.inl ⟨by rfl, by rintro V h0; have y0 := (cell_of_row V _ 0 _ _ _ h0.row).trans rfl; have y1 := (cell_of_row V _ 1 _ _ _ h0.row).trans rfl; go_simp⟩) hS ?_
  try simp only [Act.put, sA, sB, sC]
  refine tkD (i := 10) (v := .int .i64 (at_ : Nat)) (some 67) rfl rfl (by kernel_rfl) (fun _ _ _ h => h) (Or.inl ⟨by rfl, by rintro V h0; go_simp⟩) hS ?_
  try simp only [Act.put, sA, sB, sC]
  refine tkD (i := 11) (v := .pointer (some ⟨r, 0, none⟩)) (some 68) rfl rfl (by kernel_rfl) (fun _ _ _ h => h) (Or.inl ⟨by rfl, by rintro V h0; go_simp⟩) hS ?_
  try simp only [Act.put, sA, sB, sC]
  refine tkD (i := 12) (v := .pointer (some ⟨r, 0, none⟩)) (some 69) rfl rfl (by kernel_rfl) (fun _ _ _ h => h) (Or.inl ⟨by rfl, by rintro V h0; go_simp⟩) hS ?_
  try simp only [Act.put, sA, sB, sC]
  refine tkD (i := 13) (v := .pointer (some ⟨r, 1, none⟩)) (some 70) rfl rfl (by kernel_rfl) (fun _ _ _ h => h) (Or.inl ⟨by rfl, by rintro V h0; go_simp⟩) hS ?_
  try simp only [Act.put, sA, sB, sC]
  refine tkD (i := 14) (v := .int .i64 (a2 : Nat)) (some 71) rfl rfl (by kernel_rfl) (fun _ _ _ h => h) (Or.inl ⟨by rfl, by rintro V h0; have y0 := (cell_of_row V _ 0 _ _ _ h0.row).trans rfl; have y1 := (cell_of_row V _ 1 _ _ _ h0.row).trans rfl; go_simp⟩) hS ?_
  try simp only [Act.put, sA, sB, sC]
  refine tkD (i := 15) (v := (.slice (if cp = at_ then p else p.map (fun x => x.add at_)) 16 (cp - at_))) (some 72) rfl rfl (by kernel_rfl) (fun _ _ _ h => h) (Or.inl ⟨by rfl, by rintro V h0; go_simp <;> omega⟩) hS ?_
  try simp only [Act.put, sA, sB, sC]
  refine tkD (i := 16) (v := .string ⟨((B.drop at_).take 16).toArray⟩) (some 73) rfl rfl (by kernel_rfl) (fun _ _ _ h => h) (Or.inl ⟨by rfl, by rintro V h0; have z5 := HV.out V h0; go_simp⟩) hS ?_
  try simp only [Act.put, sA, sB, sC]
  refine oneH (i := 1) (by kernel_rfl) ?_
  refine stepD (i := 1) rfl (by rfl) (fun K5 h5 => ?_)
  go_simp
  (with_reducible refine (HK.out w5.drew).mono ?_)
  rintro e w6 ⟨rfl, rfl⟩
  refine h5.out _ _ hS ?_
  clear h5
  try simp only [Act.put, sA, sB, sC]
  refine tkD (i := 17) (v := .agg #[.int .i64 17, .int .u64 0, .string ⟨((B.drop at_).take 16).toArray⟩, .slice none 0 0, .int .i64 0]) (some 74) rfl rfl (by kernel_rfl) (fun _ _ _ h => h) (Or.inl ⟨by rfl, by rintro V h0; go_simp⟩) hS ?_
  try simp only [Act.put, sA, sB, sC]
  have hh := setRow_heap w5.drew y _ #[.int .i64 17, .int .u64 0, .string ⟨((B.drop at_).take 16).toArray⟩, .slice none 0 0, .int .i64 0] _ _ HO5.out
  have hyr : r ≠ y := fun e => by have := hlt.out; have := HB0.out.2.1; omega
  have hS3 : RdIn (w5.drew.setRow y #[.int .i64 17, .int .u64 0, .string ⟨((B.drop at_).take 16).toArray⟩, .slice none 0 0, .int .i64 0]) r p n cp a2 en sz B := ⟨(setRow_other w5.drew y r _ hyr).trans hS.row, hS.src.keep ⟨rfl, rfl, rfl, by simp, fun j hj hne => setRow_other w5.drew y j _ (fun e => by have := hlt.out; have := HB0.out.2.1; omega)⟩, hS.ha, hS.hen, hS.hn⟩
  refine oneH (i := 18) (by kernel_rfl) ?_
  refine stepD (i := 18) rfl (by rfl) (fun K5 h5 => ?_)
  refine wp_store_rowN 25 (.tmp 8) (.tmp 74) rfl rfl y #[.int .i64 17, .int .u64 0, .string ⟨((B.drop at_).take 16).toArray⟩, .slice none 0 0, .int .i64 0] rfl rfl 25 zR HO5.out (by as_aux_lemma => kernel_rfl) (by as_aux_lemma => kernel_rfl) (by simp [Value.oneCell']) ?_
  refine h5.out _ _ hS3 ?_
  clear h5
  try simp only [Act.put, sA, sB, sC]
  refine wpAnyH_done (by kernel_rfl) ?_ _
  change Exit.then _ _ _ _ (w5.drew.setRow y #[.int .i64 17, .int .u64 0, .string ⟨((B.drop at_).take 16).toArray⟩, .slice none 0 0, .int .i64 0])
  clear ib5
  generalize (if cp = at_ then p else p.map (fun x => x.add at_)) = ps at *
  go_wp2_with fail
  refine bodyPost_ret (results_cell_row (p := 8) (ty := 25) (by kernel_rfl) _ _ y 25 #[.int .i64 17, .int .u64 0, .string ⟨((B.drop at_).take 16).toArray⟩, .slice none 0 0, .int .i64 0] (0, 0) _ rfl hh Tryd.underlying25 rfl (by as_aux_lemma => kernel_rfl)) rfl ?_
  have hy0 := HB0.out.2.1
  exact ⟨rfl, ⟨HM5.out.os, HM5.out.tape, HM5.out.output, Nat.le_trans HM5.out.size (by simp), fun j hj hne => (setRow_other w5.drew y j _ (fun e => by omega)).trans (HM5.out.block j hj hne)⟩, hS3.row⟩
end Go.Proofs.YtjipennigjlklaaDoor
