/-
  The codec's reader: value, all its ways but a described one. Conditions: the reader and its bytes lie in memory; data keeps its contract.
-/
import Derived.Test.YtjipennigjlklaaDoorEg
namespace Go.Proofs.YtjipennigjlklaaDoor
open Go.RowKit
set_option linter.unusedVariables false
set_option maxHeartbeats 4000000

attribute [local go_sem] Oper.semAt_some

def headR (x : Res) : Res := match x with
  | .error e => .error (headE e)
  | .ok (v, k) => .ok (v, 1 + k)
theorem RdTo.head_err {w w' : World} {r : Nat} {p : Option Addr} {n cp at_ en a1 : Nat} {sz own : Int} (ha1 : at_ + 1 = a1) (y : Er) (h : KeepF (fun g => g = r) w w') :
    RdTo w r p n cp at_ en sz own (headR (.error y)) (faultE (erP n sz (at_ : Nat) a1 y) (erC sz y)) w' := by
  refine ⟨?_, h⟩
  cases y with
  | short => rfl
  | own e => rfl
  | pl k e => subst ha1; show faultE _ _ = faultE _ _; congr 1; show ((at_ + 1 + k : Nat) : Int) = ((at_ + (k + 1) : Nat) : Int); omega
set_option maxRecDepth 20000 in
theorem value_short (d : Int) (w : World) (r : Nat) (p : Option Addr) (n cp at_ en : Nat) (sz own : Int) (B : List UInt8) (h : RdIn w r p n cp at_ en sz B) (hat : ¬ at_ < en) :
    Calls Tryd.prog 21 #[.pointer (some ⟨r, 0, none⟩), .int .i64 d] w fun e w' => RdTo w r p n cp at_ en sz own (.error .short) e w' := by
  have HNE := Lib.hid (show ∀ W, RdIn W r p n cp at_ en sz B → Calls Tryd.prog 32 #[.pointer (some ⟨r, 0, none⟩), .int .i64 1] W fun e w' => e = faultE (shP n sz) (shC sz) ∧ Below W.heap.size W w' from fun W hW => need_bad W r p n cp at_ en sz hW.row 1 hW.ha (by omega) (by have := hW.hen; have := hW.hn; omega) hW.hn)
  clear hat
  go_enter Tryd.func21, Tryd.ntmps21
  go_upto_region 1 with fail
  have hb0 : Below w.heap.size w (w.alloc (.cells zR 25)) := ((Below.refl _ _).alloc (Nat.le_refl _) _)
  have oy := _root_.Go.heap_alloc_new w (.cells zR 25)
  generalize (w.alloc (.cells zR 25)) = w0 at *
  obtain ⟨y, hy⟩ : ∃ y, w.heap.size = y := ⟨_, rfl⟩
  rw [hy] at oy ⊢
  have HR0 := Lib.hid (h.blw hb0)
  have HB0 := Lib.hid (And.intro hb0 (And.intro hy oy))
  have hlt := Lib.hid h.lt
  clear hb0 hy oy h
  go_wp2_with fail
  refine (HNE.out _ HR0.out).mono ?_
  rintro e w1 ⟨rfl, hb1⟩
  exact ⟨rfl, rfl, (KeepF.of_below HB0.out.1).trans (KeepF.of_below hb1)⟩
set_option maxRecDepth 20000 in
theorem value_code (c : Nat) (K d : Int) (hkd : kindC c = K) (w : World) (r : Nat) (p : Option Addr) (n cp at_ en : Nat) (sz own : Int) (B : List UInt8) (h : RdIn w r p n cp at_ en sz B) (hat : at_ < en) (hcd : (B.getD at_ 0).toNat = c) (hd1 : decide (K < 0) = true) :
    Calls Tryd.prog 21 #[.pointer (some ⟨r, 0, none⟩), .int .i64 d] w fun e w' => RdTo w r p n cp at_ en sz own (.error (.pl 0 (ec 30))) e w' := by
  have HNE := Lib.hid (show ∀ W, RdIn W r p n cp at_ en sz B → Calls Tryd.prog 32 #[.pointer (some ⟨r, 0, none⟩), .int .i64 1] W fun e w' => e = .returned (.tuple #[]) ∧ Below W.heap.size W w' from fun W hW => need_ok W r p n cp at_ en sz hW.row 1 hW.ha (by omega) (by have := hW.hen; have := hW.hn; omega))
  have HK := Lib.hid (show ∀ W, Calls Tryd.prog 33 #[.int .u8 (c : Nat)] W fun e w' => e = .returned (.int .i64 K) ∧ W = w' from fun W => by have := kind_any (c) W; rw [hkd] at this; exact this)
  obtain ⟨b, o, hp, _, _⟩ := h.src.bytes.at_ (by have := h.src.bytes.le; have := h.hen; omega)
  subst hp
  have HC := Lib.hid (show ∀ W, RdIn W r (some ⟨b, o, none⟩) n cp at_ en sz B → W.cell? ⟨b, o + at_, none⟩ = some (.int .u8 (c : Nat)) from fun W hW => by have := hW.src.bytes.cell rfl at_ (by have := hW.hen; omega); rw [this, hcd])
  have ib1 : (0 : Int) ≤ (at_ : Nat) := by omega
  have ib2 : ((at_ : Nat) : Int) < (n : Nat) := by have := h.hen; omega
  have ib3 : ((at_ : Nat) : Int) ≤ 140737488355328 := by have := h.hn; omega
  obtain ⟨a1, ha1⟩ : ∃ a1, at_ + 1 = a1 := ⟨_, rfl⟩
  have hadd : IntKind.i64.wrap ((at_ : Int) + 1) = (a1 : Nat) := by rw [IntWalk.i64_in _ (by omega)]; omega
  have HA1 := Lib.hid (And.intro ha1 (show a1 ≤ en by omega))
  clear hat hcd hkd ha1
  go_enter Tryd.func21, Tryd.ntmps21
  go_upto_region 1 with fail
  have hb0 : Below w.heap.size w (w.alloc (.cells zR 25)) := ((Below.refl _ _).alloc (Nat.le_refl _) _)
  have oy := _root_.Go.heap_alloc_new w (.cells zR 25)
  generalize (w.alloc (.cells zR 25)) = w0 at *
  obtain ⟨y, hy⟩ : ∃ y, w.heap.size = y := ⟨_, rfl⟩
  rw [hy] at oy ⊢
  have HR0 := Lib.hid (h.blw hb0)
  have HB0 := Lib.hid (And.intro hb0 (And.intro hy oy))
  have hlt := Lib.hid h.lt
  clear hb0 hy oy h
  go_wp2_with fail
  refine (HNE.out _ HR0.out).mono ?_
  rintro e w1 ⟨rfl, hb1⟩
  have HR1 := Lib.hid (HR0.out.blw hb1)
  have oy1 := (hb1.block y (gl HB0.out.2.2)).trans HB0.out.2.2
  have HB1 := Lib.hid (And.intro hb1 oy1)
  have r0 : w1.cell? ⟨r, 0, none⟩ = some (.slice (some ⟨b, o, none⟩) n cp) := (cell_of_row _ _ 0 _ _ _ HR1.out.row).trans rfl
  have r1 : w1.cell? ⟨r, 1, none⟩ = some (.int .i64 (at_ : Nat)) := (cell_of_row _ _ 1 _ _ _ HR1.out.row).trans rfl
  have fr : w1.frozen? ⟨r, 1, none⟩ = false := by simp [World.frozen?, HR1.out.row]
  have hcell := HC.out w1 HR1.out
  clear hb1 oy1
  go_wp2_with fail
  refine (HK.out _).mono ?_
  rintro e w2 ⟨rfl, rfl⟩
  go_wp2_with fail
  refine (wrong_any _ _ _).mono ?_
  rintro e w5 ⟨rfl, rfl⟩
  exact ⟨rfl, rfl, (KeepF.of_below HB0.out.1).trans (KeepF.of_below HB1.out.1)⟩
set_option maxRecDepth 20000 in
theorem value_deep (c : Nat) (K d : Int) (hkd : kindC c = K) (w : World) (r : Nat) (p : Option Addr) (n cp at_ en : Nat) (sz own : Int) (B : List UInt8) (h : RdIn w r p n cp at_ en sz B) (hat : at_ < en) (hcd : (B.getD at_ 0).toNat = c) (hd1 : decide (K < 0) = false) (hd2 : decide (32 < d) = true) :
    Calls Tryd.prog 21 #[.pointer (some ⟨r, 0, none⟩), .int .i64 d] w fun e w' => RdTo w r p n cp at_ en sz own (.error (.pl 0 (ec 26))) e w' := by
  have HNE := Lib.hid (show ∀ W, RdIn W r p n cp at_ en sz B → Calls Tryd.prog 32 #[.pointer (some ⟨r, 0, none⟩), .int .i64 1] W fun e w' => e = .returned (.tuple #[]) ∧ Below W.heap.size W w' from fun W hW => need_ok W r p n cp at_ en sz hW.row 1 hW.ha (by omega) (by have := hW.hen; have := hW.hn; omega))
  have HK := Lib.hid (show ∀ W, Calls Tryd.prog 33 #[.int .u8 (c : Nat)] W fun e w' => e = .returned (.int .i64 K) ∧ W = w' from fun W => by have := kind_any (c) W; rw [hkd] at this; exact this)
  obtain ⟨b, o, hp, _, _⟩ := h.src.bytes.at_ (by have := h.src.bytes.le; have := h.hen; omega)
  subst hp
  have HC := Lib.hid (show ∀ W, RdIn W r (some ⟨b, o, none⟩) n cp at_ en sz B → W.cell? ⟨b, o + at_, none⟩ = some (.int .u8 (c : Nat)) from fun W hW => by have := hW.src.bytes.cell rfl at_ (by have := hW.hen; omega); rw [this, hcd])
  have ib1 : (0 : Int) ≤ (at_ : Nat) := by omega
  have ib2 : ((at_ : Nat) : Int) < (n : Nat) := by have := h.hen; omega
  have ib3 : ((at_ : Nat) : Int) ≤ 140737488355328 := by have := h.hn; omega
  obtain ⟨a1, ha1⟩ : ∃ a1, at_ + 1 = a1 := ⟨_, rfl⟩
  have hadd : IntKind.i64.wrap ((at_ : Int) + 1) = (a1 : Nat) := by rw [IntWalk.i64_in _ (by omega)]; omega
  have HA1 := Lib.hid (And.intro ha1 (show a1 ≤ en by omega))
  clear hat hcd hkd ha1
  go_enter Tryd.func21, Tryd.ntmps21
  go_upto_region 1 with fail
  have hb0 : Below w.heap.size w (w.alloc (.cells zR 25)) := ((Below.refl _ _).alloc (Nat.le_refl _) _)
  have oy := _root_.Go.heap_alloc_new w (.cells zR 25)
  generalize (w.alloc (.cells zR 25)) = w0 at *
  obtain ⟨y, hy⟩ : ∃ y, w.heap.size = y := ⟨_, rfl⟩
  rw [hy] at oy ⊢
  have HR0 := Lib.hid (h.blw hb0)
  have HB0 := Lib.hid (And.intro hb0 (And.intro hy oy))
  have hlt := Lib.hid h.lt
  clear hb0 hy oy h
  go_wp2_with fail
  refine (HNE.out _ HR0.out).mono ?_
  rintro e w1 ⟨rfl, hb1⟩
  have HR1 := Lib.hid (HR0.out.blw hb1)
  have oy1 := (hb1.block y (gl HB0.out.2.2)).trans HB0.out.2.2
  have HB1 := Lib.hid (And.intro hb1 oy1)
  have r0 : w1.cell? ⟨r, 0, none⟩ = some (.slice (some ⟨b, o, none⟩) n cp) := (cell_of_row _ _ 0 _ _ _ HR1.out.row).trans rfl
  have r1 : w1.cell? ⟨r, 1, none⟩ = some (.int .i64 (at_ : Nat)) := (cell_of_row _ _ 1 _ _ _ HR1.out.row).trans rfl
  have fr : w1.frozen? ⟨r, 1, none⟩ = false := by simp [World.frozen?, HR1.out.row]
  have hcell := HC.out w1 HR1.out
  clear hb1 oy1
  go_wp2_with fail
  refine (HK.out _).mono ?_
  rintro e w2 ⟨rfl, rfl⟩
  go_wp2_with fail
  refine (wrong_any _ _ _).mono ?_
  rintro e w5 ⟨rfl, rfl⟩
  exact ⟨rfl, rfl, (KeepF.of_below HB0.out.1).trans (KeepF.of_below HB1.out.1)⟩
set_option maxRecDepth 20000 in
theorem value_data (c : Nat) (K d : Int) (hkd : kindC c = K) (w : World) (r : Nat) (p : Option Addr) (n cp at_ en : Nat) (sz own : Int) (B : List UInt8) (h : RdIn w r p n cp at_ en sz B) (hat : at_ < en) (hcd : (B.getD at_ 0).toNat = c) (hd1 : decide (K < 0) = false) (hd2 : decide (32 < d) = false) (hne : c ≠ 0 ∧ c / 16 ≠ 4) (x : Res)
    (hx : ∀ W, RdIn W r p n cp (at_ + 1) en sz B → Calls Tryd.prog 34 #[.pointer (some ⟨r, 0, none⟩), .int .u8 (c : Nat), .int .i64 (at_ : Nat), .int .i64 d] W fun e w' => RdTo W r p n cp (at_ + 1) en sz (at_ : Nat) x e w') :
    Calls Tryd.prog 21 #[.pointer (some ⟨r, 0, none⟩), .int .i64 d] w fun e w' => RdTo w r p n cp at_ en sz own (headR x) e w' := by
  have HX := Lib.hid hx
  clear hx
  have HNE := Lib.hid (show ∀ W, RdIn W r p n cp at_ en sz B → Calls Tryd.prog 32 #[.pointer (some ⟨r, 0, none⟩), .int .i64 1] W fun e w' => e = .returned (.tuple #[]) ∧ Below W.heap.size W w' from fun W hW => need_ok W r p n cp at_ en sz hW.row 1 hW.ha (by omega) (by have := hW.hen; have := hW.hn; omega))
  have HK := Lib.hid (show ∀ W, Calls Tryd.prog 33 #[.int .u8 (c : Nat)] W fun e w' => e = .returned (.int .i64 K) ∧ W = w' from fun W => by have := kind_any (c) W; rw [hkd] at this; exact this)
  obtain ⟨b, o, hp, _, _⟩ := h.src.bytes.at_ (by have := h.src.bytes.le; have := h.hen; omega)
  subst hp
  have HC := Lib.hid (show ∀ W, RdIn W r (some ⟨b, o, none⟩) n cp at_ en sz B → W.cell? ⟨b, o + at_, none⟩ = some (.int .u8 (c : Nat)) from fun W hW => by have := hW.src.bytes.cell rfl at_ (by have := hW.hen; omega); rw [this, hcd])
  have ib1 : (0 : Int) ≤ (at_ : Nat) := by omega
  have ib2 : ((at_ : Nat) : Int) < (n : Nat) := by have := h.hen; omega
  have ib3 : ((at_ : Nat) : Int) ≤ 140737488355328 := by have := h.hn; omega
  obtain ⟨a1, ha1⟩ : ∃ a1, at_ + 1 = a1 := ⟨_, rfl⟩
  have hadd : IntKind.i64.wrap ((at_ : Int) + 1) = (a1 : Nat) := by rw [IntWalk.i64_in _ (by omega)]; omega
  have HA1 := Lib.hid (And.intro ha1 (show a1 ≤ en by omega))
  have n0 : (((c : Nat) : Int) == 0) = false := by simp; omega
  have n65 : (((c : Nat) : Int) == 65) = false := by simp; omega
  have n64 : (((c : Nat) : Int) == 64) = false := by simp; omega
  have n66 : (((c : Nat) : Int) == 66) = false := by simp; omega
  have n67 : (((c : Nat) : Int) == 67) = false := by simp; omega
  have n68 : (((c : Nat) : Int) == 68) = false := by simp; omega
  have n69 : (((c : Nat) : Int) == 69) = false := by simp; omega
  rw [ha1] at HX
  clear hne
  clear hat hcd hkd ha1
  go_enter Tryd.func21, Tryd.ntmps21
  go_upto_region 1 with fail
  have hb0 : Below w.heap.size w (w.alloc (.cells zR 25)) := ((Below.refl _ _).alloc (Nat.le_refl _) _)
  have oy := _root_.Go.heap_alloc_new w (.cells zR 25)
  generalize (w.alloc (.cells zR 25)) = w0 at *
  obtain ⟨y, hy⟩ : ∃ y, w.heap.size = y := ⟨_, rfl⟩
  rw [hy] at oy ⊢
  have HR0 := Lib.hid (h.blw hb0)
  have HB0 := Lib.hid (And.intro hb0 (And.intro hy oy))
  have hlt := Lib.hid h.lt
  clear hb0 hy oy h
  go_wp2_with fail
  refine (HNE.out _ HR0.out).mono ?_
  rintro e w1 ⟨rfl, hb1⟩
  have HR1 := Lib.hid (HR0.out.blw hb1)
  have oy1 := (hb1.block y (gl HB0.out.2.2)).trans HB0.out.2.2
  have HB1 := Lib.hid (And.intro hb1 oy1)
  have r0 : w1.cell? ⟨r, 0, none⟩ = some (.slice (some ⟨b, o, none⟩) n cp) := (cell_of_row _ _ 0 _ _ _ HR1.out.row).trans rfl
  have r1 : w1.cell? ⟨r, 1, none⟩ = some (.int .i64 (at_ : Nat)) := (cell_of_row _ _ 1 _ _ _ HR1.out.row).trans rfl
  have fr : w1.frozen? ⟨r, 1, none⟩ = false := by simp [World.frozen?, HR1.out.row]
  have hcell := HC.out w1 HR1.out
  clear hb1 oy1
  go_wp2_with fail
  refine (HK.out _).mono ?_
  rintro e w2 ⟨rfl, rfl⟩
  go_upto_region 10 with fail
  have hyr0 : y ≠ r := fun e => by have := hlt.out; have := HB0.out.2.1; omega
  have or5 := heap_setCell_same w1 r 1 _ _ (.int .i64 (a1 : Nat)) HR1.out.row
  have oy5 : (w1.setCell ⟨r, 1, none⟩ (.int .i64 (a1 : Nat))).heap[y]? = some (.cells zR 25 (0, 0)) := (set_farV hyr0).trans HB1.out.2
  have hk5 : KeepF (fun g => g = r) w1 (w1.setCell ⟨r, 1, none⟩ (.int .i64 (a1 : Nat))) := ⟨rfl, rfl, rfl, by simp, fun j hj hne => set_farV hne⟩
  change Code.wp _ _ _ _ (w1.setCell ⟨r, 1, none⟩ (.int .i64 (a1 : Nat)))
  generalize w1.setCell ⟨r, 1, none⟩ (.int .i64 (a1 : Nat)) = w2 at *
  have HR2 := Lib.hid (HR1.out.mv ⟨hk5, or5⟩ HA1.out.2)
  have HM2 := Lib.hid (((KeepF.of_below HB0.out.1).trans (KeepF.of_below HB1.out.1)).trans hk5)
  have HO2 := Lib.hid oy5
  clear or5 oy5 hk5 hyr0 r0 r1 fr hadd hcell
  go_wp2_with fail
  refine (HX.out _ HR2.out).mono ?_
  rintro e w3 hto
  rcases x with y1 | ⟨v, k⟩
  · obtain ⟨rfl, hk⟩ := hto
    exact ⟨rfl, RdTo.head_err HA1.out.1 y1 (HM2.out.trans hk)⟩
  · obtain ⟨s, F, rfl, hvo, hmv⟩ := hto
    obtain ⟨ps, cs, hss, _, _⟩ := hvo.slice
    subst hss
    have oy3 := (hmv.keep.block y (gl HO2.out) (fun e => by have := hlt.out; have := HB0.out.2.1; omega)).trans HO2.out
    have HV := Lib.hid (And.intro hvo (And.intro hmv oy3))
    clear hvo hmv
    go_wp2_with (refine wpList_store_rowTo rfl 25 (.tmp 4) (.tmp 72) rfl rfl y #[.int .i64 v.kind, .int .u64 v.num, .string v.text, .slice ps v.list.length cs, .int .i64 v.elem] rfl rfl 25 zR oy3 (by as_aux_lemma => kernel_rfl) (by as_aux_lemma => kernel_rfl) (by simp [Value.oneCell']) ?_)
    have hh := setRow_heap w3 y _ #[.int .i64 v.kind, .int .u64 v.num, .string v.text, .slice ps v.list.length cs, .int .i64 v.elem] _ _ HV.out.2.2
    refine bodyPost_ret (results_cell_row (p := 4) (ty := 25) (by kernel_rfl) _ _ y 25 #[.int .i64 v.kind, .int .u64 v.num, .string v.text, .slice ps v.list.length cs, .int .i64 v.elem] (0, 0) _ rfl hh Tryd.underlying25 rfl (by as_aux_lemma => kernel_rfl)) rfl ?_
    have hy0 := HB0.out.2.1
    have hy1 := (gl HO2.out)
    have hsz := HM2.out.size
    have hkk := HM2.out.trans HV.out.2.1.keep
    have hyr : r ≠ y := fun e => by have := hlt.out; omega
    have hat : (w3.setRow y #[.int .i64 v.kind, .int .u64 v.num, .string v.text, .slice ps v.list.length cs, .int .i64 v.elem]).heap[r]? = some (.cells #[.slice (some ⟨b, o, none⟩) n cp, .int .i64 (at_ + (1 + k) : Nat), .int .i64 (en : Nat), .int .i64 sz] 49 (0, 0)) := by
      have := (setRow_other w3 y r #[.int .i64 v.kind, .int .u64 v.num, .string v.text, .slice ps v.list.length cs, .int .i64 v.elem] hyr).trans HV.out.2.1.at_
      rw [show at_ + (1 + k) = a1 + k by have := HA1.out.1; omega]
      exact this
    exact ⟨_, F, rfl, (HV.out.1.mono hsz).keep (fun b hb => setRow_other w3 y b _ (fun e => by have := (HV.out.1.lt b hb).1; omega)), ⟨⟨hkk.os, hkk.tape, hkk.output, Nat.le_trans hkk.size (by simp), fun j hj hne => (setRow_other w3 y j _ (fun e => by omega)).trans (hkk.block j hj hne)⟩, hat⟩⟩
set_option maxRecDepth 20000 in
theorem value_41 (c : Nat) (hc0 : c = 65) (d : Int) (w : World) (r : Nat) (p : Option Addr) (n cp at_ en : Nat) (sz own : Int) (B : List UInt8) (h : RdIn w r p n cp at_ en sz B) (hat : at_ < en) (hcd : (B.getD at_ 0).toNat = c) (hd2 : decide (32 < d) = false) :
    Calls Tryd.prog 21 #[.pointer (some ⟨r, 0, none⟩), .int .i64 d] w fun e w' => e = .returned (.agg #[.int .i64 1, .int .u64 1, .string ⟨#[]⟩, .slice none 0 0, .int .i64 0]) ∧ RdMv w w' r #[.slice p n cp, .int .i64 (at_ + 1 : Nat), .int .i64 (en : Nat), .int .i64 sz] := by
  subst hc0
  have hkd : kindC 65 = 1 := rfl
  have HNE := Lib.hid (show ∀ W, RdIn W r p n cp at_ en sz B → Calls Tryd.prog 32 #[.pointer (some ⟨r, 0, none⟩), .int .i64 1] W fun e w' => e = .returned (.tuple #[]) ∧ Below W.heap.size W w' from fun W hW => need_ok W r p n cp at_ en sz hW.row 1 hW.ha (by omega) (by have := hW.hen; have := hW.hn; omega))
  have HK := Lib.hid (show ∀ W, Calls Tryd.prog 33 #[.int .u8 (65 : Nat)] W fun e w' => e = .returned (.int .i64 1) ∧ W = w' from fun W => by have := kind_any (65) W; rw [hkd] at this; exact this)
  obtain ⟨b, o, hp, _, _⟩ := h.src.bytes.at_ (by have := h.src.bytes.le; have := h.hen; omega)
  subst hp
  have HC := Lib.hid (show ∀ W, RdIn W r (some ⟨b, o, none⟩) n cp at_ en sz B → W.cell? ⟨b, o + at_, none⟩ = some (.int .u8 (65 : Nat)) from fun W hW => by have := hW.src.bytes.cell rfl at_ (by have := hW.hen; omega); rw [this, hcd])
  have ib1 : (0 : Int) ≤ (at_ : Nat) := by omega
  have ib2 : ((at_ : Nat) : Int) < (n : Nat) := by have := h.hen; omega
  have ib3 : ((at_ : Nat) : Int) ≤ 140737488355328 := by have := h.hn; omega
  obtain ⟨a1, ha1⟩ : ∃ a1, at_ + 1 = a1 := ⟨_, rfl⟩
  have hadd : IntKind.i64.wrap ((at_ : Int) + 1) = (a1 : Nat) := by rw [IntWalk.i64_in _ (by omega)]; omega
  have HA1 := Lib.hid (And.intro ha1 (show a1 ≤ en by omega))
  clear hat hcd hkd ha1
  go_enter Tryd.func21, Tryd.ntmps21
  go_upto_region 1 with fail
  have hb0 : Below w.heap.size w (w.alloc (.cells zR 25)) := ((Below.refl _ _).alloc (Nat.le_refl _) _)
  have oy := _root_.Go.heap_alloc_new w (.cells zR 25)
  generalize (w.alloc (.cells zR 25)) = w0 at *
  obtain ⟨y, hy⟩ : ∃ y, w.heap.size = y := ⟨_, rfl⟩
  rw [hy] at oy ⊢
  have HR0 := Lib.hid (h.blw hb0)
  have HB0 := Lib.hid (And.intro hb0 (And.intro hy oy))
  have hlt := Lib.hid h.lt
  clear hb0 hy oy h
  go_wp2_with fail
  refine (HNE.out _ HR0.out).mono ?_
  rintro e w1 ⟨rfl, hb1⟩
  have HR1 := Lib.hid (HR0.out.blw hb1)
  have oy1 := (hb1.block y (gl HB0.out.2.2)).trans HB0.out.2.2
  have HB1 := Lib.hid (And.intro hb1 oy1)
  have r0 : w1.cell? ⟨r, 0, none⟩ = some (.slice (some ⟨b, o, none⟩) n cp) := (cell_of_row _ _ 0 _ _ _ HR1.out.row).trans rfl
  have r1 : w1.cell? ⟨r, 1, none⟩ = some (.int .i64 (at_ : Nat)) := (cell_of_row _ _ 1 _ _ _ HR1.out.row).trans rfl
  have fr : w1.frozen? ⟨r, 1, none⟩ = false := by simp [World.frozen?, HR1.out.row]
  have hcell := HC.out w1 HR1.out
  clear hb1 oy1
  go_wp2_with fail
  refine (HK.out _).mono ?_
  rintro e w2 ⟨rfl, rfl⟩
  go_upto_region 10 with fail
  have hyr0 : y ≠ r := fun e => by have := hlt.out; have := HB0.out.2.1; omega
  have or5 := heap_setCell_same w1 r 1 _ _ (.int .i64 (a1 : Nat)) HR1.out.row
  have oy5 : (w1.setCell ⟨r, 1, none⟩ (.int .i64 (a1 : Nat))).heap[y]? = some (.cells zR 25 (0, 0)) := (set_farV hyr0).trans HB1.out.2
  have hk5 : KeepF (fun g => g = r) w1 (w1.setCell ⟨r, 1, none⟩ (.int .i64 (a1 : Nat))) := ⟨rfl, rfl, rfl, by simp, fun j hj hne => set_farV hne⟩
  change Code.wp _ _ _ _ (w1.setCell ⟨r, 1, none⟩ (.int .i64 (a1 : Nat)))
  generalize w1.setCell ⟨r, 1, none⟩ (.int .i64 (a1 : Nat)) = w2 at *
  have HR2 := Lib.hid (HR1.out.mv ⟨hk5, or5⟩ HA1.out.2)
  have HM2 := Lib.hid (((KeepF.of_below HB0.out.1).trans (KeepF.of_below HB1.out.1)).trans hk5)
  have HO2 := Lib.hid oy5
  clear or5 oy5 hk5 hyr0 r0 r1 fr hadd hcell
  go_wp2_with (refine wpList_store_rowTo rfl 25 (.tmp 4) (.tmp 59) rfl rfl y #[.int .i64 1, .int .u64 1, .string ⟨#[]⟩, .slice none 0 0, .int .i64 0] rfl rfl 25 zR HO2.out (by as_aux_lemma => kernel_rfl) (by as_aux_lemma => kernel_rfl) (by simp [Value.oneCell']) ?_)
  have hh := setRow_heap w2 y _ #[.int .i64 1, .int .u64 1, .string ⟨#[]⟩, .slice none 0 0, .int .i64 0] _ _ HO2.out
  refine bodyPost_ret (results_cell_row (p := 4) (ty := 25) (by kernel_rfl) _ _ y 25 #[.int .i64 1, .int .u64 1, .string ⟨#[]⟩, .slice none 0 0, .int .i64 0] (0, 0) _ rfl hh Tryd.underlying25 rfl (by as_aux_lemma => kernel_rfl)) rfl ?_
  have hy0 := HB0.out.2.1
  have hkk := HM2.out
  have hyr : r ≠ y := fun e => by have := hlt.out; omega
  refine ⟨rfl, ⟨hkk.os, hkk.tape, hkk.output, Nat.le_trans hkk.size (by simp), fun j hj hne => (setRow_other w2 y j _ (fun e => by omega)).trans (hkk.block j hj hne)⟩, ?_⟩
  rw [HA1.out.1]
  exact (setRow_other w2 y r _ hyr).trans HR2.out.row
set_option maxRecDepth 20000 in
theorem value_40 (c : Nat) (hc0 : c = 64) (d : Int) (w : World) (r : Nat) (p : Option Addr) (n cp at_ en : Nat) (sz own : Int) (B : List UInt8) (h : RdIn w r p n cp at_ en sz B) (hat : at_ < en) (hcd : (B.getD at_ 0).toNat = c) (hd2 : decide (32 < d) = false) :
    Calls Tryd.prog 21 #[.pointer (some ⟨r, 0, none⟩), .int .i64 d] w fun e w' => e = .returned (.agg zR) ∧ RdMv w w' r #[.slice p n cp, .int .i64 (at_ + 1 : Nat), .int .i64 (en : Nat), .int .i64 sz] := by
  subst hc0
  have hkd : kindC 64 = 0 := rfl
  have HNE := Lib.hid (show ∀ W, RdIn W r p n cp at_ en sz B → Calls Tryd.prog 32 #[.pointer (some ⟨r, 0, none⟩), .int .i64 1] W fun e w' => e = .returned (.tuple #[]) ∧ Below W.heap.size W w' from fun W hW => need_ok W r p n cp at_ en sz hW.row 1 hW.ha (by omega) (by have := hW.hen; have := hW.hn; omega))
  have HK := Lib.hid (show ∀ W, Calls Tryd.prog 33 #[.int .u8 (64 : Nat)] W fun e w' => e = .returned (.int .i64 0) ∧ W = w' from fun W => by have := kind_any (64) W; rw [hkd] at this; exact this)
  obtain ⟨b, o, hp, _, _⟩ := h.src.bytes.at_ (by have := h.src.bytes.le; have := h.hen; omega)
  subst hp
  have HC := Lib.hid (show ∀ W, RdIn W r (some ⟨b, o, none⟩) n cp at_ en sz B → W.cell? ⟨b, o + at_, none⟩ = some (.int .u8 (64 : Nat)) from fun W hW => by have := hW.src.bytes.cell rfl at_ (by have := hW.hen; omega); rw [this, hcd])
  have ib1 : (0 : Int) ≤ (at_ : Nat) := by omega
  have ib2 : ((at_ : Nat) : Int) < (n : Nat) := by have := h.hen; omega
  have ib3 : ((at_ : Nat) : Int) ≤ 140737488355328 := by have := h.hn; omega
  obtain ⟨a1, ha1⟩ : ∃ a1, at_ + 1 = a1 := ⟨_, rfl⟩
  have hadd : IntKind.i64.wrap ((at_ : Int) + 1) = (a1 : Nat) := by rw [IntWalk.i64_in _ (by omega)]; omega
  have HA1 := Lib.hid (And.intro ha1 (show a1 ≤ en by omega))
  clear hat hcd hkd ha1
  go_enter Tryd.func21, Tryd.ntmps21
  go_upto_region 1 with fail
  have hb0 : Below w.heap.size w (w.alloc (.cells zR 25)) := ((Below.refl _ _).alloc (Nat.le_refl _) _)
  have oy := _root_.Go.heap_alloc_new w (.cells zR 25)
  generalize (w.alloc (.cells zR 25)) = w0 at *
  obtain ⟨y, hy⟩ : ∃ y, w.heap.size = y := ⟨_, rfl⟩
  rw [hy] at oy ⊢
  have HR0 := Lib.hid (h.blw hb0)
  have HB0 := Lib.hid (And.intro hb0 (And.intro hy oy))
  have hlt := Lib.hid h.lt
  clear hb0 hy oy h
  go_wp2_with fail
  refine (HNE.out _ HR0.out).mono ?_
  rintro e w1 ⟨rfl, hb1⟩
  have HR1 := Lib.hid (HR0.out.blw hb1)
  have oy1 := (hb1.block y (gl HB0.out.2.2)).trans HB0.out.2.2
  have HB1 := Lib.hid (And.intro hb1 oy1)
  have r0 : w1.cell? ⟨r, 0, none⟩ = some (.slice (some ⟨b, o, none⟩) n cp) := (cell_of_row _ _ 0 _ _ _ HR1.out.row).trans rfl
  have r1 : w1.cell? ⟨r, 1, none⟩ = some (.int .i64 (at_ : Nat)) := (cell_of_row _ _ 1 _ _ _ HR1.out.row).trans rfl
  have fr : w1.frozen? ⟨r, 1, none⟩ = false := by simp [World.frozen?, HR1.out.row]
  have hcell := HC.out w1 HR1.out
  clear hb1 oy1
  go_wp2_with fail
  refine (HK.out _).mono ?_
  rintro e w2 ⟨rfl, rfl⟩
  go_upto_region 10 with fail
  have hyr0 : y ≠ r := fun e => by have := hlt.out; have := HB0.out.2.1; omega
  have or5 := heap_setCell_same w1 r 1 _ _ (.int .i64 (a1 : Nat)) HR1.out.row
  have oy5 : (w1.setCell ⟨r, 1, none⟩ (.int .i64 (a1 : Nat))).heap[y]? = some (.cells zR 25 (0, 0)) := (set_farV hyr0).trans HB1.out.2
  have hk5 : KeepF (fun g => g = r) w1 (w1.setCell ⟨r, 1, none⟩ (.int .i64 (a1 : Nat))) := ⟨rfl, rfl, rfl, by simp, fun j hj hne => set_farV hne⟩
  change Code.wp _ _ _ _ (w1.setCell ⟨r, 1, none⟩ (.int .i64 (a1 : Nat)))
  generalize w1.setCell ⟨r, 1, none⟩ (.int .i64 (a1 : Nat)) = w2 at *
  have HR2 := Lib.hid (HR1.out.mv ⟨hk5, or5⟩ HA1.out.2)
  have HM2 := Lib.hid (((KeepF.of_below HB0.out.1).trans (KeepF.of_below HB1.out.1)).trans hk5)
  have HO2 := Lib.hid oy5
  clear or5 oy5 hk5 hyr0 r0 r1 fr hadd hcell
  go_wp2_with (refine wpList_store_rowTo rfl 25 (.tmp 4) (.tmp 67) rfl rfl y zR rfl rfl 25 zR HO2.out (by as_aux_lemma => kernel_rfl) (by as_aux_lemma => kernel_rfl) (by simp [Value.oneCell']) ?_)
  have hh := setRow_heap w2 y _ zR _ _ HO2.out
  refine bodyPost_ret (results_cell_row (p := 4) (ty := 25) (by kernel_rfl) _ _ y 25 zR (0, 0) _ rfl hh Tryd.underlying25 rfl (by as_aux_lemma => kernel_rfl)) rfl ?_
  have hy0 := HB0.out.2.1
  have hkk := HM2.out
  have hyr : r ≠ y := fun e => by have := hlt.out; omega
  refine ⟨rfl, ⟨hkk.os, hkk.tape, hkk.output, Nat.le_trans hkk.size (by simp), fun j hj hne => (setRow_other w2 y j _ (fun e => by omega)).trans (hkk.block j hj hne)⟩, ?_⟩
  rw [HA1.out.1]
  exact (setRow_other w2 y r _ hyr).trans HR2.out.row
set_option maxRecDepth 20000 in
theorem value_42 (c : Nat) (hc0 : c = 66) (d : Int) (w : World) (r : Nat) (p : Option Addr) (n cp at_ en : Nat) (sz own : Int) (B : List UInt8) (h : RdIn w r p n cp at_ en sz B) (hat : at_ < en) (hcd : (B.getD at_ 0).toNat = c) (hd2 : decide (32 < d) = false) :
    Calls Tryd.prog 21 #[.pointer (some ⟨r, 0, none⟩), .int .i64 d] w fun e w' => e = .returned (.agg #[.int .i64 1, .int .u64 0, .string ⟨#[]⟩, .slice none 0 0, .int .i64 0]) ∧ RdMv w w' r #[.slice p n cp, .int .i64 (at_ + 1 : Nat), .int .i64 (en : Nat), .int .i64 sz] := by
  subst hc0
  have hkd : kindC 66 = 1 := rfl
  have HNE := Lib.hid (show ∀ W, RdIn W r p n cp at_ en sz B → Calls Tryd.prog 32 #[.pointer (some ⟨r, 0, none⟩), .int .i64 1] W fun e w' => e = .returned (.tuple #[]) ∧ Below W.heap.size W w' from fun W hW => need_ok W r p n cp at_ en sz hW.row 1 hW.ha (by omega) (by have := hW.hen; have := hW.hn; omega))
  have HK := Lib.hid (show ∀ W, Calls Tryd.prog 33 #[.int .u8 (66 : Nat)] W fun e w' => e = .returned (.int .i64 1) ∧ W = w' from fun W => by have := kind_any (66) W; rw [hkd] at this; exact this)
  obtain ⟨b, o, hp, _, _⟩ := h.src.bytes.at_ (by have := h.src.bytes.le; have := h.hen; omega)
  subst hp
  have HC := Lib.hid (show ∀ W, RdIn W r (some ⟨b, o, none⟩) n cp at_ en sz B → W.cell? ⟨b, o + at_, none⟩ = some (.int .u8 (66 : Nat)) from fun W hW => by have := hW.src.bytes.cell rfl at_ (by have := hW.hen; omega); rw [this, hcd])
  have ib1 : (0 : Int) ≤ (at_ : Nat) := by omega
  have ib2 : ((at_ : Nat) : Int) < (n : Nat) := by have := h.hen; omega
  have ib3 : ((at_ : Nat) : Int) ≤ 140737488355328 := by have := h.hn; omega
  obtain ⟨a1, ha1⟩ : ∃ a1, at_ + 1 = a1 := ⟨_, rfl⟩
  have hadd : IntKind.i64.wrap ((at_ : Int) + 1) = (a1 : Nat) := by rw [IntWalk.i64_in _ (by omega)]; omega
  have HA1 := Lib.hid (And.intro ha1 (show a1 ≤ en by omega))
  clear hat hcd hkd ha1
  go_enter Tryd.func21, Tryd.ntmps21
  go_upto_region 1 with fail
  have hb0 : Below w.heap.size w (w.alloc (.cells zR 25)) := ((Below.refl _ _).alloc (Nat.le_refl _) _)
  have oy := _root_.Go.heap_alloc_new w (.cells zR 25)
  generalize (w.alloc (.cells zR 25)) = w0 at *
  obtain ⟨y, hy⟩ : ∃ y, w.heap.size = y := ⟨_, rfl⟩
  rw [hy] at oy ⊢
  have HR0 := Lib.hid (h.blw hb0)
  have HB0 := Lib.hid (And.intro hb0 (And.intro hy oy))
  have hlt := Lib.hid h.lt
  clear hb0 hy oy h
  go_wp2_with fail
  refine (HNE.out _ HR0.out).mono ?_
  rintro e w1 ⟨rfl, hb1⟩
  have HR1 := Lib.hid (HR0.out.blw hb1)
  have oy1 := (hb1.block y (gl HB0.out.2.2)).trans HB0.out.2.2
  have HB1 := Lib.hid (And.intro hb1 oy1)
  have r0 : w1.cell? ⟨r, 0, none⟩ = some (.slice (some ⟨b, o, none⟩) n cp) := (cell_of_row _ _ 0 _ _ _ HR1.out.row).trans rfl
  have r1 : w1.cell? ⟨r, 1, none⟩ = some (.int .i64 (at_ : Nat)) := (cell_of_row _ _ 1 _ _ _ HR1.out.row).trans rfl
  have fr : w1.frozen? ⟨r, 1, none⟩ = false := by simp [World.frozen?, HR1.out.row]
  have hcell := HC.out w1 HR1.out
  clear hb1 oy1
  go_wp2_with fail
  refine (HK.out _).mono ?_
  rintro e w2 ⟨rfl, rfl⟩
  go_upto_region 10 with fail
  have hyr0 : y ≠ r := fun e => by have := hlt.out; have := HB0.out.2.1; omega
  have or5 := heap_setCell_same w1 r 1 _ _ (.int .i64 (a1 : Nat)) HR1.out.row
  have oy5 : (w1.setCell ⟨r, 1, none⟩ (.int .i64 (a1 : Nat))).heap[y]? = some (.cells zR 25 (0, 0)) := (set_farV hyr0).trans HB1.out.2
  have hk5 : KeepF (fun g => g = r) w1 (w1.setCell ⟨r, 1, none⟩ (.int .i64 (a1 : Nat))) := ⟨rfl, rfl, rfl, by simp, fun j hj hne => set_farV hne⟩
  change Code.wp _ _ _ _ (w1.setCell ⟨r, 1, none⟩ (.int .i64 (a1 : Nat)))
  generalize w1.setCell ⟨r, 1, none⟩ (.int .i64 (a1 : Nat)) = w2 at *
  have HR2 := Lib.hid (HR1.out.mv ⟨hk5, or5⟩ HA1.out.2)
  have HM2 := Lib.hid (((KeepF.of_below HB0.out.1).trans (KeepF.of_below HB1.out.1)).trans hk5)
  have HO2 := Lib.hid oy5
  clear or5 oy5 hk5 hyr0 r0 r1 fr hadd hcell
  go_wp2_with (refine wpList_store_rowTo rfl 25 (.tmp 4) (.tmp 67) rfl rfl y #[.int .i64 1, .int .u64 0, .string ⟨#[]⟩, .slice none 0 0, .int .i64 0] rfl rfl 25 zR HO2.out (by as_aux_lemma => kernel_rfl) (by as_aux_lemma => kernel_rfl) (by simp [Value.oneCell']) ?_)
  have hh := setRow_heap w2 y _ #[.int .i64 1, .int .u64 0, .string ⟨#[]⟩, .slice none 0 0, .int .i64 0] _ _ HO2.out
  refine bodyPost_ret (results_cell_row (p := 4) (ty := 25) (by kernel_rfl) _ _ y 25 #[.int .i64 1, .int .u64 0, .string ⟨#[]⟩, .slice none 0 0, .int .i64 0] (0, 0) _ rfl hh Tryd.underlying25 rfl (by as_aux_lemma => kernel_rfl)) rfl ?_
  have hy0 := HB0.out.2.1
  have hkk := HM2.out
  have hyr : r ≠ y := fun e => by have := hlt.out; omega
  refine ⟨rfl, ⟨hkk.os, hkk.tape, hkk.output, Nat.le_trans hkk.size (by simp), fun j hj hne => (setRow_other w2 y j _ (fun e => by omega)).trans (hkk.block j hj hne)⟩, ?_⟩
  rw [HA1.out.1]
  exact (setRow_other w2 y r _ hyr).trans HR2.out.row
set_option maxRecDepth 20000 in
theorem value_43 (c : Nat) (hc0 : c = 67) (d : Int) (w : World) (r : Nat) (p : Option Addr) (n cp at_ en : Nat) (sz own : Int) (B : List UInt8) (h : RdIn w r p n cp at_ en sz B) (hat : at_ < en) (hcd : (B.getD at_ 0).toNat = c) (hd2 : decide (32 < d) = false) :
    Calls Tryd.prog 21 #[.pointer (some ⟨r, 0, none⟩), .int .i64 d] w fun e w' => e = .returned (.agg #[.int .i64 4, .int .u64 0, .string ⟨#[]⟩, .slice none 0 0, .int .i64 0]) ∧ RdMv w w' r #[.slice p n cp, .int .i64 (at_ + 1 : Nat), .int .i64 (en : Nat), .int .i64 sz] := by
  subst hc0
  have hkd : kindC 67 = 4 := rfl
  have HNE := Lib.hid (show ∀ W, RdIn W r p n cp at_ en sz B → Calls Tryd.prog 32 #[.pointer (some ⟨r, 0, none⟩), .int .i64 1] W fun e w' => e = .returned (.tuple #[]) ∧ Below W.heap.size W w' from fun W hW => need_ok W r p n cp at_ en sz hW.row 1 hW.ha (by omega) (by have := hW.hen; have := hW.hn; omega))
  have HK := Lib.hid (show ∀ W, Calls Tryd.prog 33 #[.int .u8 (67 : Nat)] W fun e w' => e = .returned (.int .i64 4) ∧ W = w' from fun W => by have := kind_any (67) W; rw [hkd] at this; exact this)
  obtain ⟨b, o, hp, _, _⟩ := h.src.bytes.at_ (by have := h.src.bytes.le; have := h.hen; omega)
  subst hp
  have HC := Lib.hid (show ∀ W, RdIn W r (some ⟨b, o, none⟩) n cp at_ en sz B → W.cell? ⟨b, o + at_, none⟩ = some (.int .u8 (67 : Nat)) from fun W hW => by have := hW.src.bytes.cell rfl at_ (by have := hW.hen; omega); rw [this, hcd])
  have ib1 : (0 : Int) ≤ (at_ : Nat) := by omega
  have ib2 : ((at_ : Nat) : Int) < (n : Nat) := by have := h.hen; omega
  have ib3 : ((at_ : Nat) : Int) ≤ 140737488355328 := by have := h.hn; omega
  obtain ⟨a1, ha1⟩ : ∃ a1, at_ + 1 = a1 := ⟨_, rfl⟩
  have hadd : IntKind.i64.wrap ((at_ : Int) + 1) = (a1 : Nat) := by rw [IntWalk.i64_in _ (by omega)]; omega
  have HA1 := Lib.hid (And.intro ha1 (show a1 ≤ en by omega))
  clear hat hcd hkd ha1
  go_enter Tryd.func21, Tryd.ntmps21
  go_upto_region 1 with fail
  have hb0 : Below w.heap.size w (w.alloc (.cells zR 25)) := ((Below.refl _ _).alloc (Nat.le_refl _) _)
  have oy := _root_.Go.heap_alloc_new w (.cells zR 25)
  generalize (w.alloc (.cells zR 25)) = w0 at *
  obtain ⟨y, hy⟩ : ∃ y, w.heap.size = y := ⟨_, rfl⟩
  rw [hy] at oy ⊢
  have HR0 := Lib.hid (h.blw hb0)
  have HB0 := Lib.hid (And.intro hb0 (And.intro hy oy))
  have hlt := Lib.hid h.lt
  clear hb0 hy oy h
  go_wp2_with fail
  refine (HNE.out _ HR0.out).mono ?_
  rintro e w1 ⟨rfl, hb1⟩
  have HR1 := Lib.hid (HR0.out.blw hb1)
  have oy1 := (hb1.block y (gl HB0.out.2.2)).trans HB0.out.2.2
  have HB1 := Lib.hid (And.intro hb1 oy1)
  have r0 : w1.cell? ⟨r, 0, none⟩ = some (.slice (some ⟨b, o, none⟩) n cp) := (cell_of_row _ _ 0 _ _ _ HR1.out.row).trans rfl
  have r1 : w1.cell? ⟨r, 1, none⟩ = some (.int .i64 (at_ : Nat)) := (cell_of_row _ _ 1 _ _ _ HR1.out.row).trans rfl
  have fr : w1.frozen? ⟨r, 1, none⟩ = false := by simp [World.frozen?, HR1.out.row]
  have hcell := HC.out w1 HR1.out
  clear hb1 oy1
  go_wp2_with fail
  refine (HK.out _).mono ?_
  rintro e w2 ⟨rfl, rfl⟩
  go_upto_region 10 with fail
  have hyr0 : y ≠ r := fun e => by have := hlt.out; have := HB0.out.2.1; omega
  have or5 := heap_setCell_same w1 r 1 _ _ (.int .i64 (a1 : Nat)) HR1.out.row
  have oy5 : (w1.setCell ⟨r, 1, none⟩ (.int .i64 (a1 : Nat))).heap[y]? = some (.cells zR 25 (0, 0)) := (set_farV hyr0).trans HB1.out.2
  have hk5 : KeepF (fun g => g = r) w1 (w1.setCell ⟨r, 1, none⟩ (.int .i64 (a1 : Nat))) := ⟨rfl, rfl, rfl, by simp, fun j hj hne => set_farV hne⟩
  change Code.wp _ _ _ _ (w1.setCell ⟨r, 1, none⟩ (.int .i64 (a1 : Nat)))
  generalize w1.setCell ⟨r, 1, none⟩ (.int .i64 (a1 : Nat)) = w2 at *
  have HR2 := Lib.hid (HR1.out.mv ⟨hk5, or5⟩ HA1.out.2)
  have HM2 := Lib.hid (((KeepF.of_below HB0.out.1).trans (KeepF.of_below HB1.out.1)).trans hk5)
  have HO2 := Lib.hid oy5
  clear or5 oy5 hk5 hyr0 r0 r1 fr hadd hcell
  go_wp2_with (refine wpList_store_rowTo rfl 25 (.tmp 4) (.tmp 67) rfl rfl y #[.int .i64 4, .int .u64 0, .string ⟨#[]⟩, .slice none 0 0, .int .i64 0] rfl rfl 25 zR HO2.out (by as_aux_lemma => kernel_rfl) (by as_aux_lemma => kernel_rfl) (by simp [Value.oneCell']) ?_)
  have hh := setRow_heap w2 y _ #[.int .i64 4, .int .u64 0, .string ⟨#[]⟩, .slice none 0 0, .int .i64 0] _ _ HO2.out
  refine bodyPost_ret (results_cell_row (p := 4) (ty := 25) (by kernel_rfl) _ _ y 25 #[.int .i64 4, .int .u64 0, .string ⟨#[]⟩, .slice none 0 0, .int .i64 0] (0, 0) _ rfl hh Tryd.underlying25 rfl (by as_aux_lemma => kernel_rfl)) rfl ?_
  have hy0 := HB0.out.2.1
  have hkk := HM2.out
  have hyr : r ≠ y := fun e => by have := hlt.out; omega
  refine ⟨rfl, ⟨hkk.os, hkk.tape, hkk.output, Nat.le_trans hkk.size (by simp), fun j hj hne => (setRow_other w2 y j _ (fun e => by omega)).trans (hkk.block j hj hne)⟩, ?_⟩
  rw [HA1.out.1]
  exact (setRow_other w2 y r _ hyr).trans HR2.out.row
set_option maxRecDepth 20000 in
theorem value_44 (c : Nat) (hc0 : c = 68) (d : Int) (w : World) (r : Nat) (p : Option Addr) (n cp at_ en : Nat) (sz own : Int) (B : List UInt8) (h : RdIn w r p n cp at_ en sz B) (hat : at_ < en) (hcd : (B.getD at_ 0).toNat = c) (hd2 : decide (32 < d) = false) :
    Calls Tryd.prog 21 #[.pointer (some ⟨r, 0, none⟩), .int .i64 d] w fun e w' => e = .returned (.agg #[.int .i64 5, .int .u64 0, .string ⟨#[]⟩, .slice none 0 0, .int .i64 0]) ∧ RdMv w w' r #[.slice p n cp, .int .i64 (at_ + 1 : Nat), .int .i64 (en : Nat), .int .i64 sz] := by
  subst hc0
  have hkd : kindC 68 = 5 := rfl
  have HNE := Lib.hid (show ∀ W, RdIn W r p n cp at_ en sz B → Calls Tryd.prog 32 #[.pointer (some ⟨r, 0, none⟩), .int .i64 1] W fun e w' => e = .returned (.tuple #[]) ∧ Below W.heap.size W w' from fun W hW => need_ok W r p n cp at_ en sz hW.row 1 hW.ha (by omega) (by have := hW.hen; have := hW.hn; omega))
  have HK := Lib.hid (show ∀ W, Calls Tryd.prog 33 #[.int .u8 (68 : Nat)] W fun e w' => e = .returned (.int .i64 5) ∧ W = w' from fun W => by have := kind_any (68) W; rw [hkd] at this; exact this)
  obtain ⟨b, o, hp, _, _⟩ := h.src.bytes.at_ (by have := h.src.bytes.le; have := h.hen; omega)
  subst hp
  have HC := Lib.hid (show ∀ W, RdIn W r (some ⟨b, o, none⟩) n cp at_ en sz B → W.cell? ⟨b, o + at_, none⟩ = some (.int .u8 (68 : Nat)) from fun W hW => by have := hW.src.bytes.cell rfl at_ (by have := hW.hen; omega); rw [this, hcd])
  have ib1 : (0 : Int) ≤ (at_ : Nat) := by omega
  have ib2 : ((at_ : Nat) : Int) < (n : Nat) := by have := h.hen; omega
  have ib3 : ((at_ : Nat) : Int) ≤ 140737488355328 := by have := h.hn; omega
  obtain ⟨a1, ha1⟩ : ∃ a1, at_ + 1 = a1 := ⟨_, rfl⟩
  have hadd : IntKind.i64.wrap ((at_ : Int) + 1) = (a1 : Nat) := by rw [IntWalk.i64_in _ (by omega)]; omega
  have HA1 := Lib.hid (And.intro ha1 (show a1 ≤ en by omega))
  clear hat hcd hkd ha1
  go_enter Tryd.func21, Tryd.ntmps21
  go_upto_region 1 with fail
  have hb0 : Below w.heap.size w (w.alloc (.cells zR 25)) := ((Below.refl _ _).alloc (Nat.le_refl _) _)
  have oy := _root_.Go.heap_alloc_new w (.cells zR 25)
  generalize (w.alloc (.cells zR 25)) = w0 at *
  obtain ⟨y, hy⟩ : ∃ y, w.heap.size = y := ⟨_, rfl⟩
  rw [hy] at oy ⊢
  have HR0 := Lib.hid (h.blw hb0)
  have HB0 := Lib.hid (And.intro hb0 (And.intro hy oy))
  have hlt := Lib.hid h.lt
  clear hb0 hy oy h
  go_wp2_with fail
  refine (HNE.out _ HR0.out).mono ?_
  rintro e w1 ⟨rfl, hb1⟩
  have HR1 := Lib.hid (HR0.out.blw hb1)
  have oy1 := (hb1.block y (gl HB0.out.2.2)).trans HB0.out.2.2
  have HB1 := Lib.hid (And.intro hb1 oy1)
  have r0 : w1.cell? ⟨r, 0, none⟩ = some (.slice (some ⟨b, o, none⟩) n cp) := (cell_of_row _ _ 0 _ _ _ HR1.out.row).trans rfl
  have r1 : w1.cell? ⟨r, 1, none⟩ = some (.int .i64 (at_ : Nat)) := (cell_of_row _ _ 1 _ _ _ HR1.out.row).trans rfl
  have fr : w1.frozen? ⟨r, 1, none⟩ = false := by simp [World.frozen?, HR1.out.row]
  have hcell := HC.out w1 HR1.out
  clear hb1 oy1
  go_wp2_with fail
  refine (HK.out _).mono ?_
  rintro e w2 ⟨rfl, rfl⟩
  go_upto_region 10 with fail
  have hyr0 : y ≠ r := fun e => by have := hlt.out; have := HB0.out.2.1; omega
  have or5 := heap_setCell_same w1 r 1 _ _ (.int .i64 (a1 : Nat)) HR1.out.row
  have oy5 : (w1.setCell ⟨r, 1, none⟩ (.int .i64 (a1 : Nat))).heap[y]? = some (.cells zR 25 (0, 0)) := (set_farV hyr0).trans HB1.out.2
  have hk5 : KeepF (fun g => g = r) w1 (w1.setCell ⟨r, 1, none⟩ (.int .i64 (a1 : Nat))) := ⟨rfl, rfl, rfl, by simp, fun j hj hne => set_farV hne⟩
  change Code.wp _ _ _ _ (w1.setCell ⟨r, 1, none⟩ (.int .i64 (a1 : Nat)))
  generalize w1.setCell ⟨r, 1, none⟩ (.int .i64 (a1 : Nat)) = w2 at *
  have HR2 := Lib.hid (HR1.out.mv ⟨hk5, or5⟩ HA1.out.2)
  have HM2 := Lib.hid (((KeepF.of_below HB0.out.1).trans (KeepF.of_below HB1.out.1)).trans hk5)
  have HO2 := Lib.hid oy5
  clear or5 oy5 hk5 hyr0 r0 r1 fr hadd hcell
  go_wp2_with (refine wpList_store_rowTo rfl 25 (.tmp 4) (.tmp 67) rfl rfl y #[.int .i64 5, .int .u64 0, .string ⟨#[]⟩, .slice none 0 0, .int .i64 0] rfl rfl 25 zR HO2.out (by as_aux_lemma => kernel_rfl) (by as_aux_lemma => kernel_rfl) (by simp [Value.oneCell']) ?_)
  have hh := setRow_heap w2 y _ #[.int .i64 5, .int .u64 0, .string ⟨#[]⟩, .slice none 0 0, .int .i64 0] _ _ HO2.out
  refine bodyPost_ret (results_cell_row (p := 4) (ty := 25) (by kernel_rfl) _ _ y 25 #[.int .i64 5, .int .u64 0, .string ⟨#[]⟩, .slice none 0 0, .int .i64 0] (0, 0) _ rfl hh Tryd.underlying25 rfl (by as_aux_lemma => kernel_rfl)) rfl ?_
  have hy0 := HB0.out.2.1
  have hkk := HM2.out
  have hyr : r ≠ y := fun e => by have := hlt.out; omega
  refine ⟨rfl, ⟨hkk.os, hkk.tape, hkk.output, Nat.le_trans hkk.size (by simp), fun j hj hne => (setRow_other w2 y j _ (fun e => by omega)).trans (hkk.block j hj hne)⟩, ?_⟩
  rw [HA1.out.1]
  exact (setRow_other w2 y r _ hyr).trans HR2.out.row
set_option maxRecDepth 20000 in
theorem value_45 (c : Nat) (hc0 : c = 69) (d : Int) (w : World) (r : Nat) (p : Option Addr) (n cp at_ en : Nat) (sz own : Int) (B : List UInt8) (h : RdIn w r p n cp at_ en sz B) (hat : at_ < en) (hcd : (B.getD at_ 0).toNat = c) (hd2 : decide (32 < d) = false) :
    Calls Tryd.prog 21 #[.pointer (some ⟨r, 0, none⟩), .int .i64 d] w fun e w' => e = .returned (.agg #[.int .i64 21, .int .u64 0, .string ⟨#[]⟩, .slice none 0 0, .int .i64 0]) ∧ RdMv w w' r #[.slice p n cp, .int .i64 (at_ + 1 : Nat), .int .i64 (en : Nat), .int .i64 sz] := by
  subst hc0
  have hkd : kindC 69 = 21 := rfl
  have HNE := Lib.hid (show ∀ W, RdIn W r p n cp at_ en sz B → Calls Tryd.prog 32 #[.pointer (some ⟨r, 0, none⟩), .int .i64 1] W fun e w' => e = .returned (.tuple #[]) ∧ Below W.heap.size W w' from fun W hW => need_ok W r p n cp at_ en sz hW.row 1 hW.ha (by omega) (by have := hW.hen; have := hW.hn; omega))
  have HK := Lib.hid (show ∀ W, Calls Tryd.prog 33 #[.int .u8 (69 : Nat)] W fun e w' => e = .returned (.int .i64 21) ∧ W = w' from fun W => by have := kind_any (69) W; rw [hkd] at this; exact this)
  obtain ⟨b, o, hp, _, _⟩ := h.src.bytes.at_ (by have := h.src.bytes.le; have := h.hen; omega)
  subst hp
  have HC := Lib.hid (show ∀ W, RdIn W r (some ⟨b, o, none⟩) n cp at_ en sz B → W.cell? ⟨b, o + at_, none⟩ = some (.int .u8 (69 : Nat)) from fun W hW => by have := hW.src.bytes.cell rfl at_ (by have := hW.hen; omega); rw [this, hcd])
  have ib1 : (0 : Int) ≤ (at_ : Nat) := by omega
  have ib2 : ((at_ : Nat) : Int) < (n : Nat) := by have := h.hen; omega
  have ib3 : ((at_ : Nat) : Int) ≤ 140737488355328 := by have := h.hn; omega
  obtain ⟨a1, ha1⟩ : ∃ a1, at_ + 1 = a1 := ⟨_, rfl⟩
  have hadd : IntKind.i64.wrap ((at_ : Int) + 1) = (a1 : Nat) := by rw [IntWalk.i64_in _ (by omega)]; omega
  have HA1 := Lib.hid (And.intro ha1 (show a1 ≤ en by omega))
  clear hat hcd hkd ha1
  go_enter Tryd.func21, Tryd.ntmps21
  go_upto_region 1 with fail
  have hb0 : Below w.heap.size w (w.alloc (.cells zR 25)) := ((Below.refl _ _).alloc (Nat.le_refl _) _)
  have oy := _root_.Go.heap_alloc_new w (.cells zR 25)
  generalize (w.alloc (.cells zR 25)) = w0 at *
  obtain ⟨y, hy⟩ : ∃ y, w.heap.size = y := ⟨_, rfl⟩
  rw [hy] at oy ⊢
  have HR0 := Lib.hid (h.blw hb0)
  have HB0 := Lib.hid (And.intro hb0 (And.intro hy oy))
  have hlt := Lib.hid h.lt
  clear hb0 hy oy h
  go_wp2_with fail
  refine (HNE.out _ HR0.out).mono ?_
  rintro e w1 ⟨rfl, hb1⟩
  have HR1 := Lib.hid (HR0.out.blw hb1)
  have oy1 := (hb1.block y (gl HB0.out.2.2)).trans HB0.out.2.2
  have HB1 := Lib.hid (And.intro hb1 oy1)
  have r0 : w1.cell? ⟨r, 0, none⟩ = some (.slice (some ⟨b, o, none⟩) n cp) := (cell_of_row _ _ 0 _ _ _ HR1.out.row).trans rfl
  have r1 : w1.cell? ⟨r, 1, none⟩ = some (.int .i64 (at_ : Nat)) := (cell_of_row _ _ 1 _ _ _ HR1.out.row).trans rfl
  have fr : w1.frozen? ⟨r, 1, none⟩ = false := by simp [World.frozen?, HR1.out.row]
  have hcell := HC.out w1 HR1.out
  clear hb1 oy1
  go_wp2_with fail
  refine (HK.out _).mono ?_
  rintro e w2 ⟨rfl, rfl⟩
  go_upto_region 10 with fail
  have hyr0 : y ≠ r := fun e => by have := hlt.out; have := HB0.out.2.1; omega
  have or5 := heap_setCell_same w1 r 1 _ _ (.int .i64 (a1 : Nat)) HR1.out.row
  have oy5 : (w1.setCell ⟨r, 1, none⟩ (.int .i64 (a1 : Nat))).heap[y]? = some (.cells zR 25 (0, 0)) := (set_farV hyr0).trans HB1.out.2
  have hk5 : KeepF (fun g => g = r) w1 (w1.setCell ⟨r, 1, none⟩ (.int .i64 (a1 : Nat))) := ⟨rfl, rfl, rfl, by simp, fun j hj hne => set_farV hne⟩
  change Code.wp _ _ _ _ (w1.setCell ⟨r, 1, none⟩ (.int .i64 (a1 : Nat)))
  generalize w1.setCell ⟨r, 1, none⟩ (.int .i64 (a1 : Nat)) = w2 at *
  have HR2 := Lib.hid (HR1.out.mv ⟨hk5, or5⟩ HA1.out.2)
  have HM2 := Lib.hid (((KeepF.of_below HB0.out.1).trans (KeepF.of_below HB1.out.1)).trans hk5)
  have HO2 := Lib.hid oy5
  clear or5 oy5 hk5 hyr0 r0 r1 fr hadd hcell
  go_wp2_with (refine wpList_store_rowTo rfl 25 (.tmp 4) (.tmp 67) rfl rfl y #[.int .i64 21, .int .u64 0, .string ⟨#[]⟩, .slice none 0 0, .int .i64 0] rfl rfl 25 zR HO2.out (by as_aux_lemma => kernel_rfl) (by as_aux_lemma => kernel_rfl) (by simp [Value.oneCell']) ?_)
  have hh := setRow_heap w2 y _ #[.int .i64 21, .int .u64 0, .string ⟨#[]⟩, .slice none 0 0, .int .i64 0] _ _ HO2.out
  refine bodyPost_ret (results_cell_row (p := 4) (ty := 25) (by kernel_rfl) _ _ y 25 #[.int .i64 21, .int .u64 0, .string ⟨#[]⟩, .slice none 0 0, .int .i64 0] (0, 0) _ rfl hh Tryd.underlying25 rfl (by as_aux_lemma => kernel_rfl)) rfl ?_
  have hy0 := HB0.out.2.1
  have hkk := HM2.out
  have hyr : r ≠ y := fun e => by have := hlt.out; omega
  refine ⟨rfl, ⟨hkk.os, hkk.tape, hkk.output, Nat.le_trans hkk.size (by simp), fun j hj hne => (setRow_other w2 y j _ (fun e => by omega)).trans (hkk.block j hj hne)⟩, ?_⟩
  rw [HA1.out.1]
  exact (setRow_other w2 y r _ hyr).trans HR2.out.row
end Go.Proofs.YtjipennigjlklaaDoor
