/-
  The codec's reader: text. Conditions: the reader and its bytes lie in memory.
-/
import Derived.Test.YtjipennigjlklaaDoorMg28
import Derived.Test.YtjipennigjlklaaDoorMg07
namespace Go.Proofs.YtjipennigjlklaaDoor
open Go.RowKit
set_option linter.unusedVariables false
set_option maxHeartbeats 4000000

attribute [local go_sem] Oper.semAt_some

theorem wp_store_rowN {P : Program} {o : Oper} {a : Act} {w : World} {K : Act → World → Prop} {Q : Exit → Act → World → Prop} (ty : TypeId) (x y : Operand) (ho : o.op = .store ty x y) (hd : o.dst = none)
    (g : Nat) (cells : Array Value) (hx : a.eval x = .pointer (some ⟨g, 0, none⟩)) (hy : a.eval y = .agg cells)
    (t : TypeId) (old : Array Value) (hg : w.heap[g]? = some (.cells old t (0, 0))) (hi : (P.info? ty).map (·.size) = some cells.size)
    (hold : old.size = cells.size) (h1 : cells.all (·.oneCell') = true)
    (h : K a (w.setRow g cells)) : o.wp P a w K Q := wp_store_row ty x y ho g cells hx hy t old hg hi hold h1 (by rw [hd]; exact h)
theorem asciiF_bd (s : ByteArray) : ∀ f k, -1 ≤ asciiF s f k ∧ asciiF s f k ≤ s.size
  | 0, _ => ⟨by rw [asciiF]; omega, by rw [asciiF]; omega⟩
  | f + 1, k => by
    rw [asciiF]
    split
    · rename_i h
      have : k < s.size := by
        unfold byteS at h
        split at h
        · assumption
        · omega
      exact ⟨by omega, by omega⟩
    · exact asciiF_bd s f (k + 1)
theorem utf8F_bd (s : ByteArray) : ∀ f k, -1 ≤ utf8F s f k ∧ utf8F s f k ≤ s.size
  | 0, _ => ⟨by rw [utf8F]; omega, by rw [utf8F]; omega⟩
  | f + 1, k => by
    rw [utf8F]
    split
    · split
      · exact ⟨by omega, by omega⟩
      · exact utf8F_bd s f _
    · exact ⟨by omega, by omega⟩
theorem BytesIn.part {w : World} {p : Option Addr} {n c : Nat} {l : List UInt8} (h : BytesIn w p n c l) (A k : Nat) (hk : A + k ≤ n) : BytesIn w (if c = A then p else p.map (fun x => x.add A)) k (c - A) ((l.drop A).take k) := by
  have h2 := h.le
  by_cases e : c = A
  · rw [if_pos e]
    obtain rfl : k = 0 := by omega
    rw [List.take_zero, e, Nat.sub_self]
    exact BytesIn.empty p
  · rw [if_neg e]
    obtain ⟨b, o, rfl, _, _⟩ := h.at_ (by omega)
    have := h.sub A k hk
    have e2 : (⟨b, o, none⟩ : Addr).add A = ⟨b, o + A, none⟩ := by unfold Addr.add; split <;> simp_all
    rw [Option.map_some, e2]
    exact this
set_option maxRecDepth 20000 in
theorem text_short1 (K : Int) (wd : Nat) (w : World) (r : Nat) (p : Option Addr) (n cp at_ en : Nat) (sz own : Int) (B : List UInt8) (h : RdIn w r p n cp at_ en sz B) (hs : en < at_ + wd) :
    Calls Tryd.prog 48 #[.pointer (some ⟨r, 0, none⟩), .int .i64 K, .int .i64 (wd : Nat)] w fun e w' => e = faultE (shP n sz) (shC sz) ∧ KeepF (fun g => g = r) w w' := by
  have HN := Lib.hid (show ∀ W, RdIn W r p n cp at_ en sz B → Calls Tryd.prog 60 #[.pointer (some ⟨r, 0, none⟩), .int .i64 (wd : Nat)] W fun e w' => e = faultE (shP n sz) (shC sz) ∧ Below W.heap.size W w' from fun W hW => number_bad W r p n cp at_ en sz hW.row wd hW.ha hs hW.hen hW.hn)
  clear hs
  go_enter Tryd.func48, Tryd.ntmps48
  go_upto_region 1 with fail
  have hb0 : Below w.heap.size w (w.alloc (.cells zR 25)) := ((Below.refl _ _).alloc (Nat.le_refl _) _)
  have oy := _root_.Go.heap_alloc_new w (.cells zR 25)
  generalize (w.alloc (.cells zR 25)) = w0 at *
  obtain ⟨y, hy⟩ : ∃ y, w.heap.size = y := ⟨_, rfl⟩
  rw [hy] at oy ⊢
  have HR0 := Lib.hid (h.blw hb0)
  have HB0 := Lib.hid (And.intro hb0 (And.intro hy oy))
  have hlt := Lib.hid h.lt
  clear hb0 hy oy h
  go_wp2_with fail
  refine (HN.out _ HR0.out).mono ?_
  rintro e w3 ⟨rfl, hb3⟩
  exact ⟨rfl, rfl, (KeepF.of_below HB0.out.1).trans (KeepF.of_below hb3)⟩
set_option maxRecDepth 20000 in
theorem text_short2 (K : Int) (wd : Nat) (w : World) (r : Nat) (p : Option Addr) (n cp at_ en : Nat) (sz own : Int) (B : List UInt8) (h : RdIn w r p n cp at_ en sz B) (h1 : 1 ≤ wd) (h4 : wd ≤ 4) (N a1 : Nat) (hN : nAt B at_ wd = N) (ha1 : at_ + wd = a1) (hs1 : a1 ≤ en) (hs : en < a1 + N) :
    Calls Tryd.prog 48 #[.pointer (some ⟨r, 0, none⟩), .int .i64 K, .int .i64 (wd : Nat)] w fun e w' => e = faultE (shP n sz) (shC sz) ∧ KeepF (fun g => g = r) w w' := by
  have HN := Lib.hid (show ∀ W, RdIn W r p n cp at_ en sz B → Calls Tryd.prog 60 #[.pointer (some ⟨r, 0, none⟩), .int .i64 (wd : Nat)] W fun e w' => e = .returned (.int .u64 N) ∧ RdMv W w' r #[.slice p n cp, .int .i64 (a1 : Nat), .int .i64 (en : Nat), .int .i64 sz] from fun W hW => (number_ok W r p n cp at_ en sz hW.row B hW.src.bytes wd h1 (by omega) hW.ha (by omega) hW.hen hW.hn).mono (fun e w' q => ⟨by rw [← hN]; exact q.1, q.2.eq (by omega)⟩))
  have hwn : wrap64 ((N : Nat) : Int) = (N : Nat) := by
    have := nAt_lt (B := B) (at_ := at_) (wd := wd)
    have h2 : 256 ^ wd ≤ 256 ^ 4 := Nat.pow_le_pow_right (by omega) h4
    have h3 : 256 ^ 4 = 4294967296 := by decide
    unfold wrap64
    omega
  have HNE := Lib.hid (show ∀ W, RdIn W r p n cp a1 en sz B → Calls Tryd.prog 32 #[.pointer (some ⟨r, 0, none⟩), .int .i64 (N : Nat)] W fun e w' => e = faultE (shP n sz) (shC sz) ∧ Below W.heap.size W w' from fun W hW => need_bad W r p n cp a1 en sz hW.row N hW.ha hs (by have := hW.hen; have := hW.hn; omega) hW.hn)
  have hs1' := Lib.hid hs1
  clear hs hs1 hN ha1 h1 h4
  go_enter Tryd.func48, Tryd.ntmps48
  go_upto_region 1 with fail
  have hb0 : Below w.heap.size w (w.alloc (.cells zR 25)) := ((Below.refl _ _).alloc (Nat.le_refl _) _)
  have oy := _root_.Go.heap_alloc_new w (.cells zR 25)
  generalize (w.alloc (.cells zR 25)) = w0 at *
  obtain ⟨y, hy⟩ : ∃ y, w.heap.size = y := ⟨_, rfl⟩
  rw [hy] at oy ⊢
  have HR0 := Lib.hid (h.blw hb0)
  have HB0 := Lib.hid (And.intro hb0 (And.intro hy oy))
  have hlt := Lib.hid h.lt
  clear hb0 hy oy h
  go_wp2_with fail
  refine (HN.out _ HR0.out).mono ?_
  rintro e w3 ⟨rfl, hmv⟩
  have HMV := Lib.hid hmv
  have HR3 := Lib.hid (HR0.out.mv hmv hs1'.out)
  clear hmv
  go_wp2_with fail
  refine (HNE.out _ HR3.out).mono ?_
  rintro e w4 ⟨rfl, hb4⟩
  exact ⟨rfl, rfl, ((KeepF.of_below HB0.out.1).trans HMV.out.keep).trans (KeepF.of_below hb4)⟩
set_option maxRecDepth 20000 in
theorem text_18 (wd : Nat) (w : World) (r : Nat) (p : Option Addr) (n cp at_ en : Nat) (sz own : Int) (B : List UInt8) (h : RdIn w r p n cp at_ en sz B) (h1 : 1 ≤ wd) (h4 : wd ≤ 4) (N a1 : Nat) (hN : nAt B at_ wd = N) (ha1 : at_ + wd = a1) (hs : a1 + N ≤ en)  :
    Calls Tryd.prog 48 #[.pointer (some ⟨r, 0, none⟩), .int .i64 18, .int .i64 (wd : Nat)] w fun e w' => e = .returned (.agg #[.int .i64 18, .int .u64 0, .string ⟨((B.drop a1).take N).toArray⟩, .slice none 0 0, .int .i64 0]) ∧ RdMv w w' r #[.slice p n cp, .int .i64 ((a1 : Int) + (N : Nat)), .int .i64 (en : Nat), .int .i64 sz] := by
  have HN := Lib.hid (show ∀ W, RdIn W r p n cp at_ en sz B → Calls Tryd.prog 60 #[.pointer (some ⟨r, 0, none⟩), .int .i64 (wd : Nat)] W fun e w' => e = .returned (.int .u64 N) ∧ RdMv W w' r #[.slice p n cp, .int .i64 (a1 : Nat), .int .i64 (en : Nat), .int .i64 sz] from fun W hW => (number_ok W r p n cp at_ en sz hW.row B hW.src.bytes wd h1 (by omega) hW.ha (by omega) hW.hen hW.hn).mono (fun e w' q => ⟨by rw [← hN]; exact q.1, q.2.eq (by omega)⟩))
  have hwn : wrap64 ((N : Nat) : Int) = (N : Nat) := by
    have := nAt_lt (B := B) (at_ := at_) (wd := wd)
    have h2 : 256 ^ wd ≤ 256 ^ 4 := Nat.pow_le_pow_right (by omega) h4
    have h3 : 256 ^ 4 = 4294967296 := by decide
    unfold wrap64
    omega
  have HNE := Lib.hid (show ∀ W, RdIn W r p n cp a1 en sz B → Calls Tryd.prog 32 #[.pointer (some ⟨r, 0, none⟩), .int .i64 (N : Nat)] W fun e w' => e = .returned (.tuple #[]) ∧ Below W.heap.size W w' from fun W hW => need_ok W r p n cp a1 en sz hW.row N hW.ha hs (by have := hW.hen; have := hW.hn; omega))
  have HV := Lib.hid (show ∀ W, RdIn W r p n cp a1 en sz B → (convert 28 9 (.slice (if cp = a1 then p else p.map (fun x => x.add a1)) N (cp - a1))).run Tryd.prog W = .ok (.string ⟨((B.drop a1).take N).toArray⟩) W from fun W hW => run_string_bytes W _ _ 5 Tryd.underlying28 Tryd.underlying5 Tryd.underlying9 _ _ _ _ (hW.src.bytes.part a1 N (by have := hW.hen; omega)))
  have hs1' := Lib.hid (show a1 ≤ en by omega)
  have HSZ := Lib.hid (show (⟨((B.drop a1).take N).toArray⟩ : ByteArray).size = N by show ((B.drop a1).take N).toArray.size = N; have := h.len; have := h.hen; simp; omega)
  have hle := h.src.bytes.le
  have hen := h.hen
  have hn := h.hn
  have ib1 : (0 : Int) ≤ (a1 : Nat) := by omega
  have ib2 : ((a1 : Nat) : Int) ≤ (a1 : Int) + (N : Nat) := by omega
  have ib3 : (a1 : Int) + (N : Nat) ≤ (cp : Nat) := by omega
  have ib4 : (a1 : Int) + (N : Nat) ≤ 140737488355328 := by omega
  have hadd : IntKind.i64.wrap ((a1 : Int) + (N : Nat)) = (a1 : Int) + (N : Nat) := IntWalk.i64_in _ (by omega)
  clear hs hN ha1 h1 h4 hle hen hn
  go_enter Tryd.func48, Tryd.ntmps48
  go_upto_region 1 with fail
  have hb0 : Below w.heap.size w (w.alloc (.cells zR 25)) := ((Below.refl _ _).alloc (Nat.le_refl _) _)
  have oy := _root_.Go.heap_alloc_new w (.cells zR 25)
  generalize (w.alloc (.cells zR 25)) = w0 at *
  obtain ⟨y, hy⟩ : ∃ y, w.heap.size = y := ⟨_, rfl⟩
  rw [hy] at oy ⊢
  have HR0 := Lib.hid (h.blw hb0)
  have HB0 := Lib.hid (And.intro hb0 (And.intro hy oy))
  have hlt := Lib.hid h.lt
  clear hb0 hy oy h
  go_wp2_with fail
  refine (HN.out _ HR0.out).mono ?_
  rintro e w3 ⟨rfl, hmv⟩
  have HMV := Lib.hid hmv
  have HR3 := Lib.hid (HR0.out.mv hmv hs1'.out)
  clear hmv
  go_wp2_with fail
  refine (HNE.out _ HR3.out).mono ?_
  rintro e w4 ⟨rfl, hb4⟩
  have HR4 := Lib.hid (HR3.out.blw hb4)
  have HB4 := Lib.hid hb4
  clear hb4
  go_upto_region 3 with fail
  refine wp_region_heldN (fun V => RdIn V r p n cp a1 en sz B) 20 rfl (by kernel_rfl) ?_
  have hS : RdIn w4.drew r p n cp a1 en sz B := HR4.out.blw (bdrew (Below.refl _ _))
  refine tkD (i := 0) (v := .int .i64 18) (some 17) rfl rfl (by kernel_rfl) (fun _ _ _ h => h) (Or.inl ⟨by rfl, by rintro V h0; go_simp⟩) hS ?_
  try simp only [Act.put, sA, sB, sC]
  refine tkD (i := 1) (v := .pointer (some ⟨r, 0, none⟩)) (some 18) rfl rfl (by kernel_rfl) (fun _ _ _ h => h) (Or.inl ⟨by rfl, by rintro V h0; go_simp⟩) hS ?_
  try simp only [Act.put, sA, sB, sC]
  refine tkD (i := 2) (v := .pointer (some ⟨r, 0, none⟩)) (some 19) rfl rfl (by kernel_rfl) (fun _ _ _ h => h) (Or.inl ⟨by rfl, by rintro V h0; go_simp⟩) hS ?_
  try simp only [Act.put, sA, sB, sC]
  refine tkD (i := 3) (v := .pointer (some ⟨r, 0, none⟩)) (some 20) rfl rfl (by kernel_rfl) (fun _ _ _ h => h) (Or.inl ⟨by rfl, by rintro V h0; go_simp⟩) hS ?_
  try simp only [Act.put, sA, sB, sC]
  refine tkD (i := 4) (v := .slice p n cp) (some 21) rfl rfl (by kernel_rfl) (fun _ _ _ h => h) (Or.inl ⟨by rfl, by rintro V h0; have y0 := (cell_of_row V _ 0 _ _ _ h0.row).trans rfl; have y1 := (cell_of_row V _ 1 _ _ _ h0.row).trans rfl; go_simp⟩) hS ?_
  try simp only [Act.put, sA, sB, sC]
  refine tkD (i := 5) (v := .pointer (some ⟨r, 0, none⟩)) (some 22) rfl rfl (by kernel_rfl) (fun _ _ _ h => h) (Or.inl ⟨by rfl, by rintro V h0; go_simp⟩) hS ?_
  try simp only [Act.put, sA, sB, sC]
  refine tkD (i := 6) (v := .pointer (some ⟨r, 0, none⟩)) (some 23) rfl rfl (by kernel_rfl) (fun _ _ _ h => h) (Or.inl ⟨by rfl, by rintro V h0; go_simp⟩) hS ?_
  try simp only [Act.put, sA, sB, sC]
  refine tkD (i := 7) (v := .pointer (some ⟨r, 1, none⟩)) (some 24) rfl rfl (by kernel_rfl) (fun _ _ _ h => h) (Or.inl ⟨by rfl, by rintro V h0; go_simp⟩) hS ?_
  try simp only [Act.put, sA, sB, sC]
  refine tkD (i := 8) (v := .int .i64 (a1 : Nat)) (some 25) rfl rfl (by kernel_rfl) (fun _ _ _ h => h) (Or.inl ⟨by rfl, by rintro V h0; have y0 := (cell_of_row V _ 0 _ _ _ h0.row).trans rfl; have y1 := (cell_of_row V _ 1 _ _ _ h0.row).trans rfl; go_simp⟩) hS ?_
  try simp only [Act.put, sA, sB, sC]
  refine tkD (i := 9) (v := .pointer (some ⟨r, 0, none⟩)) (some 26) rfl rfl (by kernel_rfl) (fun _ _ _ h => h) (Or.inl ⟨by rfl, by rintro V h0; go_simp⟩) hS ?_
  try simp only [Act.put, sA, sB, sC]
  refine tkD (i := 10) (v := .pointer (some ⟨r, 0, none⟩)) (some 27) rfl rfl (by kernel_rfl) (fun _ _ _ h => h) (Or.inl ⟨by rfl, by rintro V h0; go_simp⟩) hS ?_
  try simp only [Act.put, sA, sB, sC]
  refine tkD (i := 11) (v := .pointer (some ⟨r, 1, none⟩)) (some 28) rfl rfl (by kernel_rfl) (fun _ _ _ h => h) (Or.inl ⟨by rfl, by rintro V h0; go_simp⟩) hS ?_
  try simp only [Act.put, sA, sB, sC]
  refine tkD (i := 12) (v := .int .i64 (a1 : Nat)) (some 29) rfl rfl (by kernel_rfl) (fun _ _ _ h => h) (Or.inl ⟨by rfl, by rintro V h0; have y0 := (cell_of_row V _ 0 _ _ _ h0.row).trans rfl; have y1 := (cell_of_row V _ 1 _ _ _ h0.row).trans rfl; go_simp⟩) hS ?_
  try simp only [Act.put, sA, sB, sC]
  refine tkD (i := 13) (v := .int .i64 (N : Nat)) (some 30) rfl rfl (by kernel_rfl) (fun _ _ _ h => h) (Or.inl ⟨by rfl, by rintro V h0; go_simp⟩) hS ?_
  try simp only [Act.put, sA, sB, sC]
  refine tkD (i := 14) (v := .int .i64 ((a1 : Int) + (N : Nat))) (some 31) rfl rfl (by kernel_rfl) (fun _ _ _ h => h) (Or.inl ⟨by rfl, by rintro V h0; go_simp⟩) hS ?_
  try simp only [Act.put, sA, sB, sC]
  refine tkD (i := 15) (v := (.slice (if cp = a1 then p else p.map (fun x => x.add a1)) N (cp - a1))) (some 32) rfl rfl (by kernel_rfl) (fun _ _ _ h => h) (Or.inl ⟨by rfl, by rintro V h0; go_simp; omega⟩) hS ?_
  try simp only [Act.put, sA, sB, sC]
  refine tkD (i := 16) (v := .string ⟨((B.drop a1).take N).toArray⟩) (some 33) rfl rfl (by kernel_rfl) (fun _ _ _ h => h) (Or.inl ⟨by rfl, by rintro V h0; have z5 := HV.out V h0; go_simp⟩) hS ?_
  try simp only [Act.put, sA, sB, sC]
  refine tkD (i := 17) (v := .agg #[.int .i64 18, .int .u64 0, .string ⟨((B.drop a1).take N).toArray⟩, .slice none 0 0, .int .i64 0]) (some 34) rfl rfl (by kernel_rfl) (fun _ _ _ h => h) (Or.inl ⟨by rfl, by rintro V h0; go_simp⟩) hS ?_
  try simp only [Act.put, sA, sB, sC]
  have hS2 : RdIn (w4.drew.alloc (.cells zR 25)) r p n cp a1 en sz B := hS.blw ((Below.refl _ _).alloc (Nat.le_refl _) _)
  refine oneH (i := 18) (by kernel_rfl) ?_
  refine stepD (i := 18) rfl (by rfl) (fun K5 h5 => ?_)
  go_simp
  refine h5.out _ _ hS2 ?_
  clear h5
  try simp only [Act.put, sA, sB, sC]
  have hb6 : Below w4.heap.size w4.drew ((w4.drew.alloc (.cells zR 25)).setRow w4.heap.size #[.int .i64 18, .int .u64 0, .string ⟨((B.drop a1).take N).toArray⟩, .slice none 0 0, .int .i64 0]) := below_setRow ((Below.refl w4.heap.size w4.drew).alloc (Nat.le_refl w4.heap.size) _) (Nat.le_refl w4.heap.size) _
  have ox := setRow_heap (w4.drew.alloc (.cells zR 25)) w4.heap.size _ #[.int .i64 18, .int .u64 0, .string ⟨((B.drop a1).take N).toArray⟩, .slice none 0 0, .int .i64 0] _ _ (_root_.Go.heap_alloc_new w4.drew _)
  have hS3 : RdIn ((w4.drew.alloc (.cells zR 25)).setRow w4.heap.size #[.int .i64 18, .int .u64 0, .string ⟨((B.drop a1).take N).toArray⟩, .slice none 0 0, .int .i64 0]) r p n cp a1 en sz B := hS.blw hb6
  refine oneH (i := 19) (by kernel_rfl) ?_
  refine stepD (i := 19) rfl (by rfl) (fun K5 h5 => ?_)
  refine wp_store_rowN 25 (.tmp 8) (.tmp 34) rfl rfl w4.heap.size #[.int .i64 18, .int .u64 0, .string ⟨((B.drop a1).take N).toArray⟩, .slice none 0 0, .int .i64 0] rfl rfl 25 zR (_root_.Go.heap_alloc_new w4.drew _) (by as_aux_lemma => kernel_rfl) (by as_aux_lemma => kernel_rfl) (by simp [Value.oneCell']) ?_
  refine h5.out _ _ hS3 ?_
  clear h5
  try simp only [Act.put, sA, sB, sC]
  refine wpAnyH_done (by kernel_rfl) ?_ _
  change Exit.then _ _ _ _ ((w4.drew.alloc (.cells zR 25)).setRow w4.heap.size #[.int .i64 18, .int .u64 0, .string ⟨((B.drop a1).take N).toArray⟩, .slice none 0 0, .int .i64 0])
  generalize ((w4.drew.alloc (.cells zR 25)).setRow w4.heap.size #[.int .i64 18, .int .u64 0, .string ⟨((B.drop a1).take N).toArray⟩, .slice none 0 0, .int .i64 0]) = w6 at *
  have oy5 : w4.drew.heap[y]? = some (.cells zR 25 (0, 0)) := (HB4.out.block y (by have := HMV.out.keep.size; have := (gl HB0.out.2.2); omega)).trans ((HMV.out.keep.block y (gl HB0.out.2.2) (fun e => by have := hlt.out; have := HB0.out.2.1; omega)).trans HB0.out.2.2)
  have oy6 := (hb6.block y (gl oy5)).trans oy5
  have hyx : y ≠ w4.heap.size := fun e => by have h2 : y < w4.heap.size := (gl oy5); omega
  have HM6 := Lib.hid (((KeepF.of_below HB0.out.1).trans HMV.out.keep).trans ((KeepF.of_below (bdrew HB4.out)).trans (KeepF.of_below hb6)))
  obtain ⟨x, hx⟩ : ∃ x, w4.heap.size = x := ⟨_, rfl⟩
  have HXL := Lib.hid (show w4.heap.size = x ∧ w.heap.size ≤ w4.heap.size from ⟨hx, by have := HB0.out.1.size; have := HMV.out.keep.size; have := HB4.out.size; omega⟩)
  rw [hx] at ox hyx ⊢
  have HX := Lib.hid (And.intro (And.intro hyx hS3) (And.intro oy6 ox))
  clear hb6 hS hS2 hS3 oy5 hyx hx
  generalize (if cp = a1 then p else p.map (fun x => x.add a1)) = ps at *
  obtain ⟨S, hS⟩ : ∃ S, (⟨((B.drop a1).take N).toArray⟩ : ByteArray) = S := ⟨_, rfl⟩
  simp only [hS] at ox HX ⊢
  have x0 : w6.cell? ⟨x, 0, none⟩ = some (.int .i64 18) := (cell_of_row _ _ 0 _ _ _ ox).trans rfl
  have x1 : w6.cell? ⟨x, 1, none⟩ = some (.int .u64 0) := (cell_of_row _ _ 1 _ _ _ ox).trans rfl
  have x2 : w6.cell? ⟨x, 2, none⟩ = some (.string S) := (cell_of_row _ _ 2 _ _ _ ox).trans rfl
  have x3 : w6.cell? ⟨x, 3, none⟩ = some (.slice none 0 0) := (cell_of_row _ _ 3 _ _ _ ox).trans rfl
  have x4 : w6.cell? ⟨x, 4, none⟩ = some (.int .i64 0) := (cell_of_row _ _ 4 _ _ _ ox).trans rfl
  have HS := Lib.hid hS
  obtain ⟨w7, hw7⟩ : ∃ w7, w6 = w7 := ⟨_, rfl⟩
  have hb7 : Below w6.heap.size w6 w7 := by rw [← hw7]; exact Below.refl _ _
  rw [hw7] at x0 x1 x2 x3 x4 ⊢
  clear hw7
  clear x0 x1 x2 x3 x4 oy6 hS
  have hS7 := HX.out.1.2.blw hb7
  have ox7 := (hb7.block x (gl HX.out.2.2)).trans HX.out.2.2
  have oy7 := (hb7.block y (gl HX.out.2.1)).trans HX.out.2.1
  have HX7 := Lib.hid (And.intro hS7 (And.intro ox7 oy7))
  have HM7 := Lib.hid (HM6.out.trans (KeepF.of_below hb7))
  have r1 : w7.cell? ⟨r, 1, none⟩ = some (.int .i64 (a1 : Nat)) := (cell_of_row _ _ 1 _ _ _ hS7.row).trans rfl
  have fr : w7.frozen? ⟨r, 1, none⟩ = false := by simp [World.frozen?, hS7.row]
  clear hb7 hS7 ox7 oy7
  go_upto_region 13 with fail
  have hxr : x ≠ r := fun e => by have := hlt.out; have := HXL.out; omega
  have hyr : y ≠ r := fun e => by have := hlt.out; have := HB0.out.2.1; omega
  have ox8 : (w7.setCell ⟨r, 1, none⟩ (.int .i64 ((a1 : Int) + (N : Nat)))).heap[x]? = some (.cells #[.int .i64 18, .int .u64 0, .string S, .slice none 0 0, .int .i64 0] 25 (0, 0)) := (set_farV hxr).trans HX7.out.2.1
  have oy8 : (w7.setCell ⟨r, 1, none⟩ (.int .i64 ((a1 : Int) + (N : Nat)))).heap[y]? = some (.cells zR 25 (0, 0)) := (set_farV hyr).trans HX7.out.2.2
  have or8 := heap_setCell_same w7 r 1 _ _ (.int .i64 ((a1 : Int) + (N : Nat))) HX7.out.1.row
  have hk8 : KeepF (fun g => g = r) w7 (w7.setCell ⟨r, 1, none⟩ (.int .i64 ((a1 : Int) + (N : Nat)))) := ⟨rfl, rfl, rfl, by simp, fun j hj hne => set_farV hne⟩
  change Code.wp _ _ _ _ (w7.setCell ⟨r, 1, none⟩ (.int .i64 ((a1 : Int) + (N : Nat))))
  generalize w7.setCell ⟨r, 1, none⟩ (.int .i64 ((a1 : Int) + (N : Nat))) = w8 at *
  have HX8 := Lib.hid (And.intro (And.intro or8 hk8) (And.intro ox8 oy8))
  have hyr' := Lib.hid (Ne.symm hyr)
  have x0 : w8.cell? ⟨x, 0, none⟩ = some (.int .i64 18) := (cell_of_row _ _ 0 _ _ _ ox8).trans rfl
  have x1 : w8.cell? ⟨x, 1, none⟩ = some (.int .u64 0) := (cell_of_row _ _ 1 _ _ _ ox8).trans rfl
  have x2 : w8.cell? ⟨x, 2, none⟩ = some (.string S) := (cell_of_row _ _ 2 _ _ _ ox8).trans rfl
  have x3 : w8.cell? ⟨x, 3, none⟩ = some (.slice none 0 0) := (cell_of_row _ _ 3 _ _ _ ox8).trans rfl
  have x4 : w8.cell? ⟨x, 4, none⟩ = some (.int .i64 0) := (cell_of_row _ _ 4 _ _ _ ox8).trans rfl
  clear r1 fr or8 hk8 ox8 hxr hyr
  go_wp2_with (refine wpList_store_rowTo rfl 25 (.tmp 6) (.tmp 63) rfl rfl y #[.int .i64 18, .int .u64 0, .string S, .slice none 0 0, .int .i64 0] rfl rfl 25 zR oy8 (by as_aux_lemma => kernel_rfl) (by as_aux_lemma => kernel_rfl) (by simp [Value.oneCell']) ?_)
  have hh := setRow_heap w8 y _ #[.int .i64 18, .int .u64 0, .string S, .slice none 0 0, .int .i64 0] _ _ HX8.out.2.2
  have hB := below_setRow (Below.refl y w8) (Nat.le_refl y) #[.int .i64 18, .int .u64 0, .string S, .slice none 0 0, .int .i64 0]
  refine bodyPost_ret (results_cell_row (p := 6) (ty := 25) (by kernel_rfl) _ _ y 25 #[.int .i64 18, .int .u64 0, .string S, .slice none 0 0, .int .i64 0] (0, 0) _ rfl hh Tryd.underlying25 rfl (by as_aux_lemma => kernel_rfl)) rfl ?_
  rw [HS.out]
  have hk9 := HM7.out.trans HX8.out.1.2
  have hy0 := HB0.out.2.1
  exact ⟨rfl, ⟨hk9.os, hk9.tape, hk9.output, Nat.le_trans hk9.size (by simp), fun j hj hne => (setRow_other w8 y j _ (fun e => by omega)).trans (hk9.block j hj hne)⟩, (setRow_other w8 y r _ hyr'.out).trans HX8.out.1.1⟩
set_option maxRecDepth 20000 in
theorem text_19 (wd : Nat) (w : World) (r : Nat) (p : Option Addr) (n cp at_ en : Nat) (sz own : Int) (B : List UInt8) (h : RdIn w r p n cp at_ en sz B) (h1 : 1 ≤ wd) (h4 : wd ≤ 4) (N a1 : Nat) (hN : nAt B at_ wd = N) (ha1 : at_ + wd = a1) (hs : a1 + N ≤ en) (bad : Int) (hbad : utf8S ⟨((B.drop a1).take N).toArray⟩ = bad) (hbb : decide ((0 : Int) ≤ bad) = false) :
    Calls Tryd.prog 48 #[.pointer (some ⟨r, 0, none⟩), .int .i64 19, .int .i64 (wd : Nat)] w fun e w' => e = .returned (.agg #[.int .i64 19, .int .u64 0, .string ⟨((B.drop a1).take N).toArray⟩, .slice none 0 0, .int .i64 0]) ∧ RdMv w w' r #[.slice p n cp, .int .i64 ((a1 : Int) + (N : Nat)), .int .i64 (en : Nat), .int .i64 sz] := by
  have HN := Lib.hid (show ∀ W, RdIn W r p n cp at_ en sz B → Calls Tryd.prog 60 #[.pointer (some ⟨r, 0, none⟩), .int .i64 (wd : Nat)] W fun e w' => e = .returned (.int .u64 N) ∧ RdMv W w' r #[.slice p n cp, .int .i64 (a1 : Nat), .int .i64 (en : Nat), .int .i64 sz] from fun W hW => (number_ok W r p n cp at_ en sz hW.row B hW.src.bytes wd h1 (by omega) hW.ha (by omega) hW.hen hW.hn).mono (fun e w' q => ⟨by rw [← hN]; exact q.1, q.2.eq (by omega)⟩))
  have hwn : wrap64 ((N : Nat) : Int) = (N : Nat) := by
    have := nAt_lt (B := B) (at_ := at_) (wd := wd)
    have h2 : 256 ^ wd ≤ 256 ^ 4 := Nat.pow_le_pow_right (by omega) h4
    have h3 : 256 ^ 4 = 4294967296 := by decide
    unfold wrap64
    omega
  have HNE := Lib.hid (show ∀ W, RdIn W r p n cp a1 en sz B → Calls Tryd.prog 32 #[.pointer (some ⟨r, 0, none⟩), .int .i64 (N : Nat)] W fun e w' => e = .returned (.tuple #[]) ∧ Below W.heap.size W w' from fun W hW => need_ok W r p n cp a1 en sz hW.row N hW.ha hs (by have := hW.hen; have := hW.hn; omega))
  have HV := Lib.hid (show ∀ W, RdIn W r p n cp a1 en sz B → (convert 28 9 (.slice (if cp = a1 then p else p.map (fun x => x.add a1)) N (cp - a1))).run Tryd.prog W = .ok (.string ⟨((B.drop a1).take N).toArray⟩) W from fun W hW => run_string_bytes W _ _ 5 Tryd.underlying28 Tryd.underlying5 Tryd.underlying9 _ _ _ _ (hW.src.bytes.part a1 N (by have := hW.hen; omega)))
  have hs1' := Lib.hid (show a1 ≤ en by omega)
  have HSZ := Lib.hid (show (⟨((B.drop a1).take N).toArray⟩ : ByteArray).size = N by show ((B.drop a1).take N).toArray.size = N; have := h.len; have := h.hen; simp; omega)
  have hle := h.src.bytes.le
  have hen := h.hen
  have hn := h.hn
  have ib1 : (0 : Int) ≤ (a1 : Nat) := by omega
  have ib2 : ((a1 : Nat) : Int) ≤ (a1 : Int) + (N : Nat) := by omega
  have ib3 : (a1 : Int) + (N : Nat) ≤ (cp : Nat) := by omega
  have ib4 : (a1 : Int) + (N : Nat) ≤ 140737488355328 := by omega
  have hadd : IntKind.i64.wrap ((a1 : Int) + (N : Nat)) = (a1 : Int) + (N : Nat) := IntWalk.i64_in _ (by omega)
  clear hs hN ha1 h1 h4 hle hen hn
  go_enter Tryd.func48, Tryd.ntmps48
  go_upto_region 1 with fail
  have hb0 : Below w.heap.size w (w.alloc (.cells zR 25)) := ((Below.refl _ _).alloc (Nat.le_refl _) _)
  have oy := _root_.Go.heap_alloc_new w (.cells zR 25)
  generalize (w.alloc (.cells zR 25)) = w0 at *
  obtain ⟨y, hy⟩ : ∃ y, w.heap.size = y := ⟨_, rfl⟩
  rw [hy] at oy ⊢
  have HR0 := Lib.hid (h.blw hb0)
  have HB0 := Lib.hid (And.intro hb0 (And.intro hy oy))
  have hlt := Lib.hid h.lt
  clear hb0 hy oy h
  go_wp2_with fail
  refine (HN.out _ HR0.out).mono ?_
  rintro e w3 ⟨rfl, hmv⟩
  have HMV := Lib.hid hmv
  have HR3 := Lib.hid (HR0.out.mv hmv hs1'.out)
  clear hmv
  go_wp2_with fail
  refine (HNE.out _ HR3.out).mono ?_
  rintro e w4 ⟨rfl, hb4⟩
  have HR4 := Lib.hid (HR3.out.blw hb4)
  have HB4 := Lib.hid hb4
  clear hb4
  go_upto_region 3 with fail
  refine wp_region_heldN (fun V => RdIn V r p n cp a1 en sz B) 20 rfl (by kernel_rfl) ?_
  have hS : RdIn w4.drew r p n cp a1 en sz B := HR4.out.blw (bdrew (Below.refl _ _))
  refine tkD (i := 0) (v := .int .i64 19) (some 17) rfl rfl (by kernel_rfl) (fun _ _ _ h => h) (Or.inl ⟨by rfl, by rintro V h0; go_simp⟩) hS ?_
  try simp only [Act.put, sA, sB, sC]
  refine tkD (i := 1) (v := .pointer (some ⟨r, 0, none⟩)) (some 18) rfl rfl (by kernel_rfl) (fun _ _ _ h => h) (Or.inl ⟨by rfl, by rintro V h0; go_simp⟩) hS ?_
  try simp only [Act.put, sA, sB, sC]
  refine tkD (i := 2) (v := .pointer (some ⟨r, 0, none⟩)) (some 19) rfl rfl (by kernel_rfl) (fun _ _ _ h => h) (Or.inl ⟨by rfl, by rintro V h0; go_simp⟩) hS ?_
  try simp only [Act.put, sA, sB, sC]
  refine tkD (i := 3) (v := .pointer (some ⟨r, 0, none⟩)) (some 20) rfl rfl (by kernel_rfl) (fun _ _ _ h => h) (Or.inl ⟨by rfl, by rintro V h0; go_simp⟩) hS ?_
  try simp only [Act.put, sA, sB, sC]
  refine tkD (i := 4) (v := .slice p n cp) (some 21) rfl rfl (by kernel_rfl) (fun _ _ _ h => h) (Or.inl ⟨by rfl, by rintro V h0; have y0 := (cell_of_row V _ 0 _ _ _ h0.row).trans rfl; have y1 := (cell_of_row V _ 1 _ _ _ h0.row).trans rfl; go_simp⟩) hS ?_
  try simp only [Act.put, sA, sB, sC]
  refine tkD (i := 5) (v := .pointer (some ⟨r, 0, none⟩)) (some 22) rfl rfl (by kernel_rfl) (fun _ _ _ h => h) (Or.inl ⟨by rfl, by rintro V h0; go_simp⟩) hS ?_
  try simp only [Act.put, sA, sB, sC]
  refine tkD (i := 6) (v := .pointer (some ⟨r, 0, none⟩)) (some 23) rfl rfl (by kernel_rfl) (fun _ _ _ h => h) (Or.inl ⟨by rfl, by rintro V h0; go_simp⟩) hS ?_
  try simp only [Act.put, sA, sB, sC]
  refine tkD (i := 7) (v := .pointer (some ⟨r, 1, none⟩)) (some 24) rfl rfl (by kernel_rfl) (fun _ _ _ h => h) (Or.inl ⟨by rfl, by rintro V h0; go_simp⟩) hS ?_
  try simp only [Act.put, sA, sB, sC]
  refine tkD (i := 8) (v := .int .i64 (a1 : Nat)) (some 25) rfl rfl (by kernel_rfl) (fun _ _ _ h => h) (Or.inl ⟨by rfl, by rintro V h0; have y0 := (cell_of_row V _ 0 _ _ _ h0.row).trans rfl; have y1 := (cell_of_row V _ 1 _ _ _ h0.row).trans rfl; go_simp⟩) hS ?_
  try simp only [Act.put, sA, sB, sC]
  refine tkD (i := 9) (v := .pointer (some ⟨r, 0, none⟩)) (some 26) rfl rfl (by kernel_rfl) (fun _ _ _ h => h) (Or.inl ⟨by rfl, by rintro V h0; go_simp⟩) hS ?_
  try simp only [Act.put, sA, sB, sC]
  refine tkD (i := 10) (v := .pointer (some ⟨r, 0, none⟩)) (some 27) rfl rfl (by kernel_rfl) (fun _ _ _ h => h) (Or.inl ⟨by rfl, by rintro V h0; go_simp⟩) hS ?_
  try simp only [Act.put, sA, sB, sC]
  refine tkD (i := 11) (v := .pointer (some ⟨r, 1, none⟩)) (some 28) rfl rfl (by kernel_rfl) (fun _ _ _ h => h) (Or.inl ⟨by rfl, by rintro V h0; go_simp⟩) hS ?_
  try simp only [Act.put, sA, sB, sC]
  refine tkD (i := 12) (v := .int .i64 (a1 : Nat)) (some 29) rfl rfl (by kernel_rfl) (fun _ _ _ h => h) (Or.inl ⟨by rfl, by rintro V h0; have y0 := (cell_of_row V _ 0 _ _ _ h0.row).trans rfl; have y1 := (cell_of_row V _ 1 _ _ _ h0.row).trans rfl; go_simp⟩) hS ?_
  try simp only [Act.put, sA, sB, sC]
  refine tkD (i := 13) (v := .int .i64 (N : Nat)) (some 30) rfl rfl (by kernel_rfl) (fun _ _ _ h => h) (Or.inl ⟨by rfl, by rintro V h0; go_simp⟩) hS ?_
  try simp only [Act.put, sA, sB, sC]
  refine tkD (i := 14) (v := .int .i64 ((a1 : Int) + (N : Nat))) (some 31) rfl rfl (by kernel_rfl) (fun _ _ _ h => h) (Or.inl ⟨by rfl, by rintro V h0; go_simp⟩) hS ?_
  try simp only [Act.put, sA, sB, sC]
  refine tkD (i := 15) (v := (.slice (if cp = a1 then p else p.map (fun x => x.add a1)) N (cp - a1))) (some 32) rfl rfl (by kernel_rfl) (fun _ _ _ h => h) (Or.inl ⟨by rfl, by rintro V h0; go_simp; omega⟩) hS ?_
  try simp only [Act.put, sA, sB, sC]
  refine tkD (i := 16) (v := .string ⟨((B.drop a1).take N).toArray⟩) (some 33) rfl rfl (by kernel_rfl) (fun _ _ _ h => h) (Or.inl ⟨by rfl, by rintro V h0; have z5 := HV.out V h0; go_simp⟩) hS ?_
  try simp only [Act.put, sA, sB, sC]
  refine tkD (i := 17) (v := .agg #[.int .i64 19, .int .u64 0, .string ⟨((B.drop a1).take N).toArray⟩, .slice none 0 0, .int .i64 0]) (some 34) rfl rfl (by kernel_rfl) (fun _ _ _ h => h) (Or.inl ⟨by rfl, by rintro V h0; go_simp⟩) hS ?_
  try simp only [Act.put, sA, sB, sC]
  have hS2 : RdIn (w4.drew.alloc (.cells zR 25)) r p n cp a1 en sz B := hS.blw ((Below.refl _ _).alloc (Nat.le_refl _) _)
  refine oneH (i := 18) (by kernel_rfl) ?_
  refine stepD (i := 18) rfl (by rfl) (fun K5 h5 => ?_)
  go_simp
  refine h5.out _ _ hS2 ?_
  clear h5
  try simp only [Act.put, sA, sB, sC]
  have hb6 : Below w4.heap.size w4.drew ((w4.drew.alloc (.cells zR 25)).setRow w4.heap.size #[.int .i64 19, .int .u64 0, .string ⟨((B.drop a1).take N).toArray⟩, .slice none 0 0, .int .i64 0]) := below_setRow ((Below.refl w4.heap.size w4.drew).alloc (Nat.le_refl w4.heap.size) _) (Nat.le_refl w4.heap.size) _
  have ox := setRow_heap (w4.drew.alloc (.cells zR 25)) w4.heap.size _ #[.int .i64 19, .int .u64 0, .string ⟨((B.drop a1).take N).toArray⟩, .slice none 0 0, .int .i64 0] _ _ (_root_.Go.heap_alloc_new w4.drew _)
  have hS3 : RdIn ((w4.drew.alloc (.cells zR 25)).setRow w4.heap.size #[.int .i64 19, .int .u64 0, .string ⟨((B.drop a1).take N).toArray⟩, .slice none 0 0, .int .i64 0]) r p n cp a1 en sz B := hS.blw hb6
  refine oneH (i := 19) (by kernel_rfl) ?_
  refine stepD (i := 19) rfl (by rfl) (fun K5 h5 => ?_)
  refine wp_store_rowN 25 (.tmp 8) (.tmp 34) rfl rfl w4.heap.size #[.int .i64 19, .int .u64 0, .string ⟨((B.drop a1).take N).toArray⟩, .slice none 0 0, .int .i64 0] rfl rfl 25 zR (_root_.Go.heap_alloc_new w4.drew _) (by as_aux_lemma => kernel_rfl) (by as_aux_lemma => kernel_rfl) (by simp [Value.oneCell']) ?_
  refine h5.out _ _ hS3 ?_
  clear h5
  try simp only [Act.put, sA, sB, sC]
  refine wpAnyH_done (by kernel_rfl) ?_ _
  change Exit.then _ _ _ _ ((w4.drew.alloc (.cells zR 25)).setRow w4.heap.size #[.int .i64 19, .int .u64 0, .string ⟨((B.drop a1).take N).toArray⟩, .slice none 0 0, .int .i64 0])
  generalize ((w4.drew.alloc (.cells zR 25)).setRow w4.heap.size #[.int .i64 19, .int .u64 0, .string ⟨((B.drop a1).take N).toArray⟩, .slice none 0 0, .int .i64 0]) = w6 at *
  have oy5 : w4.drew.heap[y]? = some (.cells zR 25 (0, 0)) := (HB4.out.block y (by have := HMV.out.keep.size; have := (gl HB0.out.2.2); omega)).trans ((HMV.out.keep.block y (gl HB0.out.2.2) (fun e => by have := hlt.out; have := HB0.out.2.1; omega)).trans HB0.out.2.2)
  have oy6 := (hb6.block y (gl oy5)).trans oy5
  have hyx : y ≠ w4.heap.size := fun e => by have h2 : y < w4.heap.size := (gl oy5); omega
  have HM6 := Lib.hid (((KeepF.of_below HB0.out.1).trans HMV.out.keep).trans ((KeepF.of_below (bdrew HB4.out)).trans (KeepF.of_below hb6)))
  obtain ⟨x, hx⟩ : ∃ x, w4.heap.size = x := ⟨_, rfl⟩
  have HXL := Lib.hid (show w4.heap.size = x ∧ w.heap.size ≤ w4.heap.size from ⟨hx, by have := HB0.out.1.size; have := HMV.out.keep.size; have := HB4.out.size; omega⟩)
  rw [hx] at ox hyx ⊢
  have HX := Lib.hid (And.intro (And.intro hyx hS3) (And.intro oy6 ox))
  clear hb6 hS hS2 hS3 oy5 hyx hx
  generalize (if cp = a1 then p else p.map (fun x => x.add a1)) = ps at *
  obtain ⟨S, hS⟩ : ∃ S, (⟨((B.drop a1).take N).toArray⟩ : ByteArray) = S := ⟨_, rfl⟩
  simp only [hS] at ox HX ⊢
  have x0 : w6.cell? ⟨x, 0, none⟩ = some (.int .i64 19) := (cell_of_row _ _ 0 _ _ _ ox).trans rfl
  have x1 : w6.cell? ⟨x, 1, none⟩ = some (.int .u64 0) := (cell_of_row _ _ 1 _ _ _ ox).trans rfl
  have x2 : w6.cell? ⟨x, 2, none⟩ = some (.string S) := (cell_of_row _ _ 2 _ _ _ ox).trans rfl
  have x3 : w6.cell? ⟨x, 3, none⟩ = some (.slice none 0 0) := (cell_of_row _ _ 3 _ _ _ ox).trans rfl
  have x4 : w6.cell? ⟨x, 4, none⟩ = some (.int .i64 0) := (cell_of_row _ _ 4 _ _ _ ox).trans rfl
  have HS := Lib.hid hS
  have hSs : S.size = N := by rw [← hS]; exact HSZ.out
  have HU := Lib.hid (show ∀ W, Tabs W → Calls Tryd.prog 54 #[.string S] W fun e w' => e = .returned (.int .i64 bad) ∧ Below W.heap.size W w' from fun W hT => by rw [← hbad, hS]; exact utf8_any S W (by omega) hT)
  clear ox oy6 hS
  go_wp2_with fail
  refine (HU.out _ HX.out.1.2.src.tabs).mono ?_
  rintro e w7 ⟨rfl, hb7⟩
  clear x0 x1 x2 x3 x4
  have hS7 := HX.out.1.2.blw hb7
  have ox7 := (hb7.block x (gl HX.out.2.2)).trans HX.out.2.2
  have oy7 := (hb7.block y (gl HX.out.2.1)).trans HX.out.2.1
  have HX7 := Lib.hid (And.intro hS7 (And.intro ox7 oy7))
  have HM7 := Lib.hid (HM6.out.trans (KeepF.of_below hb7))
  have r1 : w7.cell? ⟨r, 1, none⟩ = some (.int .i64 (a1 : Nat)) := (cell_of_row _ _ 1 _ _ _ hS7.row).trans rfl
  have fr : w7.frozen? ⟨r, 1, none⟩ = false := by simp [World.frozen?, hS7.row]
  clear hb7 hS7 ox7 oy7
  go_upto_region 13 with fail
  have hxr : x ≠ r := fun e => by have := hlt.out; have := HXL.out; omega
  have hyr : y ≠ r := fun e => by have := hlt.out; have := HB0.out.2.1; omega
  have ox8 : (w7.setCell ⟨r, 1, none⟩ (.int .i64 ((a1 : Int) + (N : Nat)))).heap[x]? = some (.cells #[.int .i64 19, .int .u64 0, .string S, .slice none 0 0, .int .i64 0] 25 (0, 0)) := (set_farV hxr).trans HX7.out.2.1
  have oy8 : (w7.setCell ⟨r, 1, none⟩ (.int .i64 ((a1 : Int) + (N : Nat)))).heap[y]? = some (.cells zR 25 (0, 0)) := (set_farV hyr).trans HX7.out.2.2
  have or8 := heap_setCell_same w7 r 1 _ _ (.int .i64 ((a1 : Int) + (N : Nat))) HX7.out.1.row
  have hk8 : KeepF (fun g => g = r) w7 (w7.setCell ⟨r, 1, none⟩ (.int .i64 ((a1 : Int) + (N : Nat)))) := ⟨rfl, rfl, rfl, by simp, fun j hj hne => set_farV hne⟩
  change Code.wp _ _ _ _ (w7.setCell ⟨r, 1, none⟩ (.int .i64 ((a1 : Int) + (N : Nat))))
  generalize w7.setCell ⟨r, 1, none⟩ (.int .i64 ((a1 : Int) + (N : Nat))) = w8 at *
  have HX8 := Lib.hid (And.intro (And.intro or8 hk8) (And.intro ox8 oy8))
  have hyr' := Lib.hid (Ne.symm hyr)
  have x0 : w8.cell? ⟨x, 0, none⟩ = some (.int .i64 19) := (cell_of_row _ _ 0 _ _ _ ox8).trans rfl
  have x1 : w8.cell? ⟨x, 1, none⟩ = some (.int .u64 0) := (cell_of_row _ _ 1 _ _ _ ox8).trans rfl
  have x2 : w8.cell? ⟨x, 2, none⟩ = some (.string S) := (cell_of_row _ _ 2 _ _ _ ox8).trans rfl
  have x3 : w8.cell? ⟨x, 3, none⟩ = some (.slice none 0 0) := (cell_of_row _ _ 3 _ _ _ ox8).trans rfl
  have x4 : w8.cell? ⟨x, 4, none⟩ = some (.int .i64 0) := (cell_of_row _ _ 4 _ _ _ ox8).trans rfl
  clear r1 fr or8 hk8 ox8 hxr hyr
  go_wp2_with (refine wpList_store_rowTo rfl 25 (.tmp 6) (.tmp 63) rfl rfl y #[.int .i64 19, .int .u64 0, .string S, .slice none 0 0, .int .i64 0] rfl rfl 25 zR oy8 (by as_aux_lemma => kernel_rfl) (by as_aux_lemma => kernel_rfl) (by simp [Value.oneCell']) ?_)
  have hh := setRow_heap w8 y _ #[.int .i64 19, .int .u64 0, .string S, .slice none 0 0, .int .i64 0] _ _ HX8.out.2.2
  have hB := below_setRow (Below.refl y w8) (Nat.le_refl y) #[.int .i64 19, .int .u64 0, .string S, .slice none 0 0, .int .i64 0]
  refine bodyPost_ret (results_cell_row (p := 6) (ty := 25) (by kernel_rfl) _ _ y 25 #[.int .i64 19, .int .u64 0, .string S, .slice none 0 0, .int .i64 0] (0, 0) _ rfl hh Tryd.underlying25 rfl (by as_aux_lemma => kernel_rfl)) rfl ?_
  rw [HS.out]
  have hk9 := HM7.out.trans HX8.out.1.2
  have hy0 := HB0.out.2.1
  exact ⟨rfl, ⟨hk9.os, hk9.tape, hk9.output, Nat.le_trans hk9.size (by simp), fun j hj hne => (setRow_other w8 y j _ (fun e => by omega)).trans (hk9.block j hj hne)⟩, (setRow_other w8 y r _ hyr'.out).trans HX8.out.1.1⟩
set_option maxRecDepth 20000 in
theorem text_19x (wd : Nat) (w : World) (r : Nat) (p : Option Addr) (n cp at_ en : Nat) (sz own : Int) (B : List UInt8) (h : RdIn w r p n cp at_ en sz B) (h1 : 1 ≤ wd) (h4 : wd ≤ 4) (N a1 : Nat) (hN : nAt B at_ wd = N) (ha1 : at_ + wd = a1) (hs : a1 + N ≤ en) (bad : Int) (hbad : utf8S ⟨((B.drop a1).take N).toArray⟩ = bad) (hbb : decide ((0 : Int) ≤ bad) = true) (hbn : bad ≤ N) :
    Calls Tryd.prog 48 #[.pointer (some ⟨r, 0, none⟩), .int .i64 19, .int .i64 (wd : Nat)] w fun e w' => e = faultE ((a1 : Int) + bad) 33 ∧ KeepF (fun g => g = r) w w' := by
  have HN := Lib.hid (show ∀ W, RdIn W r p n cp at_ en sz B → Calls Tryd.prog 60 #[.pointer (some ⟨r, 0, none⟩), .int .i64 (wd : Nat)] W fun e w' => e = .returned (.int .u64 N) ∧ RdMv W w' r #[.slice p n cp, .int .i64 (a1 : Nat), .int .i64 (en : Nat), .int .i64 sz] from fun W hW => (number_ok W r p n cp at_ en sz hW.row B hW.src.bytes wd h1 (by omega) hW.ha (by omega) hW.hen hW.hn).mono (fun e w' q => ⟨by rw [← hN]; exact q.1, q.2.eq (by omega)⟩))
  have hwn : wrap64 ((N : Nat) : Int) = (N : Nat) := by
    have := nAt_lt (B := B) (at_ := at_) (wd := wd)
    have h2 : 256 ^ wd ≤ 256 ^ 4 := Nat.pow_le_pow_right (by omega) h4
    have h3 : 256 ^ 4 = 4294967296 := by decide
    unfold wrap64
    omega
  have HNE := Lib.hid (show ∀ W, RdIn W r p n cp a1 en sz B → Calls Tryd.prog 32 #[.pointer (some ⟨r, 0, none⟩), .int .i64 (N : Nat)] W fun e w' => e = .returned (.tuple #[]) ∧ Below W.heap.size W w' from fun W hW => need_ok W r p n cp a1 en sz hW.row N hW.ha hs (by have := hW.hen; have := hW.hn; omega))
  have HV := Lib.hid (show ∀ W, RdIn W r p n cp a1 en sz B → (convert 28 9 (.slice (if cp = a1 then p else p.map (fun x => x.add a1)) N (cp - a1))).run Tryd.prog W = .ok (.string ⟨((B.drop a1).take N).toArray⟩) W from fun W hW => run_string_bytes W _ _ 5 Tryd.underlying28 Tryd.underlying5 Tryd.underlying9 _ _ _ _ (hW.src.bytes.part a1 N (by have := hW.hen; omega)))
  have hs1' := Lib.hid (show a1 ≤ en by omega)
  have HSZ := Lib.hid (show (⟨((B.drop a1).take N).toArray⟩ : ByteArray).size = N by show ((B.drop a1).take N).toArray.size = N; have := h.len; have := h.hen; simp; omega)
  have hle := h.src.bytes.le
  have hen := h.hen
  have hn := h.hn
  have ib1 : (0 : Int) ≤ (a1 : Nat) := by omega
  have ib2 : ((a1 : Nat) : Int) ≤ (a1 : Int) + (N : Nat) := by omega
  have ib3 : (a1 : Int) + (N : Nat) ≤ (cp : Nat) := by omega
  have ib4 : (a1 : Int) + (N : Nat) ≤ 140737488355328 := by omega
  have hadd : IntKind.i64.wrap ((a1 : Int) + (N : Nat)) = (a1 : Int) + (N : Nat) := IntWalk.i64_in _ (by omega)
  have hbp : (0 : Int) ≤ bad := by simpa using hbb
  have hadb : IntKind.i64.wrap ((a1 : Int) + bad) = (a1 : Int) + bad := IntWalk.i64_in _ (by omega)
  clear hs hN ha1 h1 h4 hle hen hn
  go_enter Tryd.func48, Tryd.ntmps48
  go_upto_region 1 with fail
  have hb0 : Below w.heap.size w (w.alloc (.cells zR 25)) := ((Below.refl _ _).alloc (Nat.le_refl _) _)
  have oy := _root_.Go.heap_alloc_new w (.cells zR 25)
  generalize (w.alloc (.cells zR 25)) = w0 at *
  obtain ⟨y, hy⟩ : ∃ y, w.heap.size = y := ⟨_, rfl⟩
  rw [hy] at oy ⊢
  have HR0 := Lib.hid (h.blw hb0)
  have HB0 := Lib.hid (And.intro hb0 (And.intro hy oy))
  have hlt := Lib.hid h.lt
  clear hb0 hy oy h
  go_wp2_with fail
  refine (HN.out _ HR0.out).mono ?_
  rintro e w3 ⟨rfl, hmv⟩
  have HMV := Lib.hid hmv
  have HR3 := Lib.hid (HR0.out.mv hmv hs1'.out)
  clear hmv
  go_wp2_with fail
  refine (HNE.out _ HR3.out).mono ?_
  rintro e w4 ⟨rfl, hb4⟩
  have HR4 := Lib.hid (HR3.out.blw hb4)
  have HB4 := Lib.hid hb4
  clear hb4
  go_upto_region 3 with fail
  refine wp_region_heldN (fun V => RdIn V r p n cp a1 en sz B) 20 rfl (by kernel_rfl) ?_
  have hS : RdIn w4.drew r p n cp a1 en sz B := HR4.out.blw (bdrew (Below.refl _ _))
  refine tkD (i := 0) (v := .int .i64 19) (some 17) rfl rfl (by kernel_rfl) (fun _ _ _ h => h) (Or.inl ⟨by rfl, by rintro V h0; go_simp⟩) hS ?_
  try simp only [Act.put, sA, sB, sC]
  refine tkD (i := 1) (v := .pointer (some ⟨r, 0, none⟩)) (some 18) rfl rfl (by kernel_rfl) (fun _ _ _ h => h) (Or.inl ⟨by rfl, by rintro V h0; go_simp⟩) hS ?_
  try simp only [Act.put, sA, sB, sC]
  refine tkD (i := 2) (v := .pointer (some ⟨r, 0, none⟩)) (some 19) rfl rfl (by kernel_rfl) (fun _ _ _ h => h) (Or.inl ⟨by rfl, by rintro V h0; go_simp⟩) hS ?_
  try simp only [Act.put, sA, sB, sC]
  refine tkD (i := 3) (v := .pointer (some ⟨r, 0, none⟩)) (some 20) rfl rfl (by kernel_rfl) (fun _ _ _ h => h) (Or.inl ⟨by rfl, by rintro V h0; go_simp⟩) hS ?_
  try simp only [Act.put, sA, sB, sC]
  refine tkD (i := 4) (v := .slice p n cp) (some 21) rfl rfl (by kernel_rfl) (fun _ _ _ h => h) (Or.inl ⟨by rfl, by rintro V h0; have y0 := (cell_of_row V _ 0 _ _ _ h0.row).trans rfl; have y1 := (cell_of_row V _ 1 _ _ _ h0.row).trans rfl; go_simp⟩) hS ?_
  try simp only [Act.put, sA, sB, sC]
  refine tkD (i := 5) (v := .pointer (some ⟨r, 0, none⟩)) (some 22) rfl rfl (by kernel_rfl) (fun _ _ _ h => h) (Or.inl ⟨by rfl, by rintro V h0; go_simp⟩) hS ?_
  try simp only [Act.put, sA, sB, sC]
  refine tkD (i := 6) (v := .pointer (some ⟨r, 0, none⟩)) (some 23) rfl rfl (by kernel_rfl) (fun _ _ _ h => h) (Or.inl ⟨by rfl, by rintro V h0; go_simp⟩) hS ?_
  try simp only [Act.put, sA, sB, sC]
  refine tkD (i := 7) (v := .pointer (some ⟨r, 1, none⟩)) (some 24) rfl rfl (by kernel_rfl) (fun _ _ _ h => h) (Or.inl ⟨by rfl, by rintro V h0; go_simp⟩) hS ?_
  try simp only [Act.put, sA, sB, sC]
  refine tkD (i := 8) (v := .int .i64 (a1 : Nat)) (some 25) rfl rfl (by kernel_rfl) (fun _ _ _ h => h) (Or.inl ⟨by rfl, by rintro V h0; have y0 := (cell_of_row V _ 0 _ _ _ h0.row).trans rfl; have y1 := (cell_of_row V _ 1 _ _ _ h0.row).trans rfl; go_simp⟩) hS ?_
  try simp only [Act.put, sA, sB, sC]
  refine tkD (i := 9) (v := .pointer (some ⟨r, 0, none⟩)) (some 26) rfl rfl (by kernel_rfl) (fun _ _ _ h => h) (Or.inl ⟨by rfl, by rintro V h0; go_simp⟩) hS ?_
  try simp only [Act.put, sA, sB, sC]
  refine tkD (i := 10) (v := .pointer (some ⟨r, 0, none⟩)) (some 27) rfl rfl (by kernel_rfl) (fun _ _ _ h => h) (Or.inl ⟨by rfl, by rintro V h0; go_simp⟩) hS ?_
  try simp only [Act.put, sA, sB, sC]
  refine tkD (i := 11) (v := .pointer (some ⟨r, 1, none⟩)) (some 28) rfl rfl (by kernel_rfl) (fun _ _ _ h => h) (Or.inl ⟨by rfl, by rintro V h0; go_simp⟩) hS ?_
  try simp only [Act.put, sA, sB, sC]
  refine tkD (i := 12) (v := .int .i64 (a1 : Nat)) (some 29) rfl rfl (by kernel_rfl) (fun _ _ _ h => h) (Or.inl ⟨by rfl, by rintro V h0; have y0 := (cell_of_row V _ 0 _ _ _ h0.row).trans rfl; have y1 := (cell_of_row V _ 1 _ _ _ h0.row).trans rfl; go_simp⟩) hS ?_
  try simp only [Act.put, sA, sB, sC]
  refine tkD (i := 13) (v := .int .i64 (N : Nat)) (some 30) rfl rfl (by kernel_rfl) (fun _ _ _ h => h) (Or.inl ⟨by rfl, by rintro V h0; go_simp⟩) hS ?_
  try simp only [Act.put, sA, sB, sC]
  refine tkD (i := 14) (v := .int .i64 ((a1 : Int) + (N : Nat))) (some 31) rfl rfl (by kernel_rfl) (fun _ _ _ h => h) (Or.inl ⟨by rfl, by rintro V h0; go_simp⟩) hS ?_
  try simp only [Act.put, sA, sB, sC]
  refine tkD (i := 15) (v := (.slice (if cp = a1 then p else p.map (fun x => x.add a1)) N (cp - a1))) (some 32) rfl rfl (by kernel_rfl) (fun _ _ _ h => h) (Or.inl ⟨by rfl, by rintro V h0; go_simp; omega⟩) hS ?_
  try simp only [Act.put, sA, sB, sC]
  refine tkD (i := 16) (v := .string ⟨((B.drop a1).take N).toArray⟩) (some 33) rfl rfl (by kernel_rfl) (fun _ _ _ h => h) (Or.inl ⟨by rfl, by rintro V h0; have z5 := HV.out V h0; go_simp⟩) hS ?_
  try simp only [Act.put, sA, sB, sC]
  refine tkD (i := 17) (v := .agg #[.int .i64 19, .int .u64 0, .string ⟨((B.drop a1).take N).toArray⟩, .slice none 0 0, .int .i64 0]) (some 34) rfl rfl (by kernel_rfl) (fun _ _ _ h => h) (Or.inl ⟨by rfl, by rintro V h0; go_simp⟩) hS ?_
  try simp only [Act.put, sA, sB, sC]
  have hS2 : RdIn (w4.drew.alloc (.cells zR 25)) r p n cp a1 en sz B := hS.blw ((Below.refl _ _).alloc (Nat.le_refl _) _)
  refine oneH (i := 18) (by kernel_rfl) ?_
  refine stepD (i := 18) rfl (by rfl) (fun K5 h5 => ?_)
  go_simp
  refine h5.out _ _ hS2 ?_
  clear h5
  try simp only [Act.put, sA, sB, sC]
  have hb6 : Below w4.heap.size w4.drew ((w4.drew.alloc (.cells zR 25)).setRow w4.heap.size #[.int .i64 19, .int .u64 0, .string ⟨((B.drop a1).take N).toArray⟩, .slice none 0 0, .int .i64 0]) := below_setRow ((Below.refl w4.heap.size w4.drew).alloc (Nat.le_refl w4.heap.size) _) (Nat.le_refl w4.heap.size) _
  have ox := setRow_heap (w4.drew.alloc (.cells zR 25)) w4.heap.size _ #[.int .i64 19, .int .u64 0, .string ⟨((B.drop a1).take N).toArray⟩, .slice none 0 0, .int .i64 0] _ _ (_root_.Go.heap_alloc_new w4.drew _)
  have hS3 : RdIn ((w4.drew.alloc (.cells zR 25)).setRow w4.heap.size #[.int .i64 19, .int .u64 0, .string ⟨((B.drop a1).take N).toArray⟩, .slice none 0 0, .int .i64 0]) r p n cp a1 en sz B := hS.blw hb6
  refine oneH (i := 19) (by kernel_rfl) ?_
  refine stepD (i := 19) rfl (by rfl) (fun K5 h5 => ?_)
  refine wp_store_rowN 25 (.tmp 8) (.tmp 34) rfl rfl w4.heap.size #[.int .i64 19, .int .u64 0, .string ⟨((B.drop a1).take N).toArray⟩, .slice none 0 0, .int .i64 0] rfl rfl 25 zR (_root_.Go.heap_alloc_new w4.drew _) (by as_aux_lemma => kernel_rfl) (by as_aux_lemma => kernel_rfl) (by simp [Value.oneCell']) ?_
  refine h5.out _ _ hS3 ?_
  clear h5
  try simp only [Act.put, sA, sB, sC]
  refine wpAnyH_done (by kernel_rfl) ?_ _
  change Exit.then _ _ _ _ ((w4.drew.alloc (.cells zR 25)).setRow w4.heap.size #[.int .i64 19, .int .u64 0, .string ⟨((B.drop a1).take N).toArray⟩, .slice none 0 0, .int .i64 0])
  generalize ((w4.drew.alloc (.cells zR 25)).setRow w4.heap.size #[.int .i64 19, .int .u64 0, .string ⟨((B.drop a1).take N).toArray⟩, .slice none 0 0, .int .i64 0]) = w6 at *
  have oy5 : w4.drew.heap[y]? = some (.cells zR 25 (0, 0)) := (HB4.out.block y (by have := HMV.out.keep.size; have := (gl HB0.out.2.2); omega)).trans ((HMV.out.keep.block y (gl HB0.out.2.2) (fun e => by have := hlt.out; have := HB0.out.2.1; omega)).trans HB0.out.2.2)
  have oy6 := (hb6.block y (gl oy5)).trans oy5
  have hyx : y ≠ w4.heap.size := fun e => by have h2 : y < w4.heap.size := (gl oy5); omega
  have HM6 := Lib.hid (((KeepF.of_below HB0.out.1).trans HMV.out.keep).trans ((KeepF.of_below (bdrew HB4.out)).trans (KeepF.of_below hb6)))
  obtain ⟨x, hx⟩ : ∃ x, w4.heap.size = x := ⟨_, rfl⟩
  have HXL := Lib.hid (show w4.heap.size = x ∧ w.heap.size ≤ w4.heap.size from ⟨hx, by have := HB0.out.1.size; have := HMV.out.keep.size; have := HB4.out.size; omega⟩)
  rw [hx] at ox hyx ⊢
  have HX := Lib.hid (And.intro (And.intro hyx hS3) (And.intro oy6 ox))
  clear hb6 hS hS2 hS3 oy5 hyx hx
  generalize (if cp = a1 then p else p.map (fun x => x.add a1)) = ps at *
  obtain ⟨S, hS⟩ : ∃ S, (⟨((B.drop a1).take N).toArray⟩ : ByteArray) = S := ⟨_, rfl⟩
  simp only [hS] at ox HX ⊢
  have x0 : w6.cell? ⟨x, 0, none⟩ = some (.int .i64 19) := (cell_of_row _ _ 0 _ _ _ ox).trans rfl
  have x1 : w6.cell? ⟨x, 1, none⟩ = some (.int .u64 0) := (cell_of_row _ _ 1 _ _ _ ox).trans rfl
  have x2 : w6.cell? ⟨x, 2, none⟩ = some (.string S) := (cell_of_row _ _ 2 _ _ _ ox).trans rfl
  have x3 : w6.cell? ⟨x, 3, none⟩ = some (.slice none 0 0) := (cell_of_row _ _ 3 _ _ _ ox).trans rfl
  have x4 : w6.cell? ⟨x, 4, none⟩ = some (.int .i64 0) := (cell_of_row _ _ 4 _ _ _ ox).trans rfl
  have HS := Lib.hid hS
  have hSs : S.size = N := by rw [← hS]; exact HSZ.out
  have HU := Lib.hid (show ∀ W, Tabs W → Calls Tryd.prog 54 #[.string S] W fun e w' => e = .returned (.int .i64 bad) ∧ Below W.heap.size W w' from fun W hT => by rw [← hbad, hS]; exact utf8_any S W (by omega) hT)
  clear ox oy6 hS
  go_wp2_with fail
  refine (HU.out _ HX.out.1.2.src.tabs).mono ?_
  rintro e w7 ⟨rfl, hb7⟩
  clear x0 x1 x2 x3 x4
  have hS7 := HX.out.1.2.blw hb7
  have ox7 := (hb7.block x (gl HX.out.2.2)).trans HX.out.2.2
  have oy7 := (hb7.block y (gl HX.out.2.1)).trans HX.out.2.1
  have HX7 := Lib.hid (And.intro hS7 (And.intro ox7 oy7))
  have HM7 := Lib.hid (HM6.out.trans (KeepF.of_below hb7))
  have r1 : w7.cell? ⟨r, 1, none⟩ = some (.int .i64 (a1 : Nat)) := (cell_of_row _ _ 1 _ _ _ hS7.row).trans rfl
  have fr : w7.frozen? ⟨r, 1, none⟩ = false := by simp [World.frozen?, hS7.row]
  clear hb7 hS7 ox7 oy7
  go_wp2_with fail
  refine (wrong_any _ _ _).mono ?_
  rintro e w8 ⟨rfl, rfl⟩
  exact ⟨rfl, rfl, HM7.out⟩
set_option maxRecDepth 20000 in
theorem text_20 (wd : Nat) (w : World) (r : Nat) (p : Option Addr) (n cp at_ en : Nat) (sz own : Int) (B : List UInt8) (h : RdIn w r p n cp at_ en sz B) (h1 : 1 ≤ wd) (h4 : wd ≤ 4) (N a1 : Nat) (hN : nAt B at_ wd = N) (ha1 : at_ + wd = a1) (hs : a1 + N ≤ en) (bad : Int) (hbad : asciiS ⟨((B.drop a1).take N).toArray⟩ = bad) (hbb : decide ((0 : Int) ≤ bad) = false) :
    Calls Tryd.prog 48 #[.pointer (some ⟨r, 0, none⟩), .int .i64 20, .int .i64 (wd : Nat)] w fun e w' => e = .returned (.agg #[.int .i64 20, .int .u64 0, .string ⟨((B.drop a1).take N).toArray⟩, .slice none 0 0, .int .i64 0]) ∧ RdMv w w' r #[.slice p n cp, .int .i64 ((a1 : Int) + (N : Nat)), .int .i64 (en : Nat), .int .i64 sz] := by
  have HN := Lib.hid (show ∀ W, RdIn W r p n cp at_ en sz B → Calls Tryd.prog 60 #[.pointer (some ⟨r, 0, none⟩), .int .i64 (wd : Nat)] W fun e w' => e = .returned (.int .u64 N) ∧ RdMv W w' r #[.slice p n cp, .int .i64 (a1 : Nat), .int .i64 (en : Nat), .int .i64 sz] from fun W hW => (number_ok W r p n cp at_ en sz hW.row B hW.src.bytes wd h1 (by omega) hW.ha (by omega) hW.hen hW.hn).mono (fun e w' q => ⟨by rw [← hN]; exact q.1, q.2.eq (by omega)⟩))
  have hwn : wrap64 ((N : Nat) : Int) = (N : Nat) := by
    have := nAt_lt (B := B) (at_ := at_) (wd := wd)
    have h2 : 256 ^ wd ≤ 256 ^ 4 := Nat.pow_le_pow_right (by omega) h4
    have h3 : 256 ^ 4 = 4294967296 := by decide
    unfold wrap64
    omega
  have HNE := Lib.hid (show ∀ W, RdIn W r p n cp a1 en sz B → Calls Tryd.prog 32 #[.pointer (some ⟨r, 0, none⟩), .int .i64 (N : Nat)] W fun e w' => e = .returned (.tuple #[]) ∧ Below W.heap.size W w' from fun W hW => need_ok W r p n cp a1 en sz hW.row N hW.ha hs (by have := hW.hen; have := hW.hn; omega))
  have HV := Lib.hid (show ∀ W, RdIn W r p n cp a1 en sz B → (convert 28 9 (.slice (if cp = a1 then p else p.map (fun x => x.add a1)) N (cp - a1))).run Tryd.prog W = .ok (.string ⟨((B.drop a1).take N).toArray⟩) W from fun W hW => run_string_bytes W _ _ 5 Tryd.underlying28 Tryd.underlying5 Tryd.underlying9 _ _ _ _ (hW.src.bytes.part a1 N (by have := hW.hen; omega)))
  have hs1' := Lib.hid (show a1 ≤ en by omega)
  have HSZ := Lib.hid (show (⟨((B.drop a1).take N).toArray⟩ : ByteArray).size = N by show ((B.drop a1).take N).toArray.size = N; have := h.len; have := h.hen; simp; omega)
  have hle := h.src.bytes.le
  have hen := h.hen
  have hn := h.hn
  have ib1 : (0 : Int) ≤ (a1 : Nat) := by omega
  have ib2 : ((a1 : Nat) : Int) ≤ (a1 : Int) + (N : Nat) := by omega
  have ib3 : (a1 : Int) + (N : Nat) ≤ (cp : Nat) := by omega
  have ib4 : (a1 : Int) + (N : Nat) ≤ 140737488355328 := by omega
  have hadd : IntKind.i64.wrap ((a1 : Int) + (N : Nat)) = (a1 : Int) + (N : Nat) := IntWalk.i64_in _ (by omega)
  clear hs hN ha1 h1 h4 hle hen hn
  go_enter Tryd.func48, Tryd.ntmps48
  go_upto_region 1 with fail
  have hb0 : Below w.heap.size w (w.alloc (.cells zR 25)) := ((Below.refl _ _).alloc (Nat.le_refl _) _)
  have oy := _root_.Go.heap_alloc_new w (.cells zR 25)
  generalize (w.alloc (.cells zR 25)) = w0 at *
  obtain ⟨y, hy⟩ : ∃ y, w.heap.size = y := ⟨_, rfl⟩
  rw [hy] at oy ⊢
  have HR0 := Lib.hid (h.blw hb0)
  have HB0 := Lib.hid (And.intro hb0 (And.intro hy oy))
  have hlt := Lib.hid h.lt
  clear hb0 hy oy h
  go_wp2_with fail
  refine (HN.out _ HR0.out).mono ?_
  rintro e w3 ⟨rfl, hmv⟩
  have HMV := Lib.hid hmv
  have HR3 := Lib.hid (HR0.out.mv hmv hs1'.out)
  clear hmv
  go_wp2_with fail
  refine (HNE.out _ HR3.out).mono ?_
  rintro e w4 ⟨rfl, hb4⟩
  have HR4 := Lib.hid (HR3.out.blw hb4)
  have HB4 := Lib.hid hb4
  clear hb4
  go_upto_region 3 with fail
  refine wp_region_heldN (fun V => RdIn V r p n cp a1 en sz B) 20 rfl (by kernel_rfl) ?_
  have hS : RdIn w4.drew r p n cp a1 en sz B := HR4.out.blw (bdrew (Below.refl _ _))
  refine tkD (i := 0) (v := .int .i64 20) (some 17) rfl rfl (by kernel_rfl) (fun _ _ _ h => h) (Or.inl ⟨by rfl, by rintro V h0; go_simp⟩) hS ?_
  try simp only [Act.put, sA, sB, sC]
  refine tkD (i := 1) (v := .pointer (some ⟨r, 0, none⟩)) (some 18) rfl rfl (by kernel_rfl) (fun _ _ _ h => h) (Or.inl ⟨by rfl, by rintro V h0; go_simp⟩) hS ?_
  try simp only [Act.put, sA, sB, sC]
  refine tkD (i := 2) (v := .pointer (some ⟨r, 0, none⟩)) (some 19) rfl rfl (by kernel_rfl) (fun _ _ _ h => h) (Or.inl ⟨by rfl, by rintro V h0; go_simp⟩) hS ?_
  try simp only [Act.put, sA, sB, sC]
  refine tkD (i := 3) (v := .pointer (some ⟨r, 0, none⟩)) (some 20) rfl rfl (by kernel_rfl) (fun _ _ _ h => h) (Or.inl ⟨by rfl, by rintro V h0; go_simp⟩) hS ?_
  try simp only [Act.put, sA, sB, sC]
  refine tkD (i := 4) (v := .slice p n cp) (some 21) rfl rfl (by kernel_rfl) (fun _ _ _ h => h) (Or.inl ⟨by rfl, by rintro V h0; have y0 := (cell_of_row V _ 0 _ _ _ h0.row).trans rfl; have y1 := (cell_of_row V _ 1 _ _ _ h0.row).trans rfl; go_simp⟩) hS ?_
  try simp only [Act.put, sA, sB, sC]
  refine tkD (i := 5) (v := .pointer (some ⟨r, 0, none⟩)) (some 22) rfl rfl (by kernel_rfl) (fun _ _ _ h => h) (Or.inl ⟨by rfl, by rintro V h0; go_simp⟩) hS ?_
  try simp only [Act.put, sA, sB, sC]
  refine tkD (i := 6) (v := .pointer (some ⟨r, 0, none⟩)) (some 23) rfl rfl (by kernel_rfl) (fun _ _ _ h => h) (Or.inl ⟨by rfl, by rintro V h0; go_simp⟩) hS ?_
  try simp only [Act.put, sA, sB, sC]
  refine tkD (i := 7) (v := .pointer (some ⟨r, 1, none⟩)) (some 24) rfl rfl (by kernel_rfl) (fun _ _ _ h => h) (Or.inl ⟨by rfl, by rintro V h0; go_simp⟩) hS ?_
  try simp only [Act.put, sA, sB, sC]
  refine tkD (i := 8) (v := .int .i64 (a1 : Nat)) (some 25) rfl rfl (by kernel_rfl) (fun _ _ _ h => h) (Or.inl ⟨by rfl, by rintro V h0; have y0 := (cell_of_row V _ 0 _ _ _ h0.row).trans rfl; have y1 := (cell_of_row V _ 1 _ _ _ h0.row).trans rfl; go_simp⟩) hS ?_
  try simp only [Act.put, sA, sB, sC]
  refine tkD (i := 9) (v := .pointer (some ⟨r, 0, none⟩)) (some 26) rfl rfl (by kernel_rfl) (fun _ _ _ h => h) (Or.inl ⟨by rfl, by rintro V h0; go_simp⟩) hS ?_
  try simp only [Act.put, sA, sB, sC]
  refine tkD (i := 10) (v := .pointer (some ⟨r, 0, none⟩)) (some 27) rfl rfl (by kernel_rfl) (fun _ _ _ h => h) (Or.inl ⟨by rfl, by rintro V h0; go_simp⟩) hS ?_
  try simp only [Act.put, sA, sB, sC]
  refine tkD (i := 11) (v := .pointer (some ⟨r, 1, none⟩)) (some 28) rfl rfl (by kernel_rfl) (fun _ _ _ h => h) (Or.inl ⟨by rfl, by rintro V h0; go_simp⟩) hS ?_
  try simp only [Act.put, sA, sB, sC]
  refine tkD (i := 12) (v := .int .i64 (a1 : Nat)) (some 29) rfl rfl (by kernel_rfl) (fun _ _ _ h => h) (Or.inl ⟨by rfl, by rintro V h0; have y0 := (cell_of_row V _ 0 _ _ _ h0.row).trans rfl; have y1 := (cell_of_row V _ 1 _ _ _ h0.row).trans rfl; go_simp⟩) hS ?_
  try simp only [Act.put, sA, sB, sC]
  refine tkD (i := 13) (v := .int .i64 (N : Nat)) (some 30) rfl rfl (by kernel_rfl) (fun _ _ _ h => h) (Or.inl ⟨by rfl, by rintro V h0; go_simp⟩) hS ?_
  try simp only [Act.put, sA, sB, sC]
  refine tkD (i := 14) (v := .int .i64 ((a1 : Int) + (N : Nat))) (some 31) rfl rfl (by kernel_rfl) (fun _ _ _ h => h) (Or.inl ⟨by rfl, by rintro V h0; go_simp⟩) hS ?_
  try simp only [Act.put, sA, sB, sC]
  refine tkD (i := 15) (v := (.slice (if cp = a1 then p else p.map (fun x => x.add a1)) N (cp - a1))) (some 32) rfl rfl (by kernel_rfl) (fun _ _ _ h => h) (Or.inl ⟨by rfl, by rintro V h0; go_simp; omega⟩) hS ?_
  try simp only [Act.put, sA, sB, sC]
  refine tkD (i := 16) (v := .string ⟨((B.drop a1).take N).toArray⟩) (some 33) rfl rfl (by kernel_rfl) (fun _ _ _ h => h) (Or.inl ⟨by rfl, by rintro V h0; have z5 := HV.out V h0; go_simp⟩) hS ?_
  try simp only [Act.put, sA, sB, sC]
  refine tkD (i := 17) (v := .agg #[.int .i64 20, .int .u64 0, .string ⟨((B.drop a1).take N).toArray⟩, .slice none 0 0, .int .i64 0]) (some 34) rfl rfl (by kernel_rfl) (fun _ _ _ h => h) (Or.inl ⟨by rfl, by rintro V h0; go_simp⟩) hS ?_
  try simp only [Act.put, sA, sB, sC]
  have hS2 : RdIn (w4.drew.alloc (.cells zR 25)) r p n cp a1 en sz B := hS.blw ((Below.refl _ _).alloc (Nat.le_refl _) _)
  refine oneH (i := 18) (by kernel_rfl) ?_
  refine stepD (i := 18) rfl (by rfl) (fun K5 h5 => ?_)
  go_simp
  refine h5.out _ _ hS2 ?_
  clear h5
  try simp only [Act.put, sA, sB, sC]
  have hb6 : Below w4.heap.size w4.drew ((w4.drew.alloc (.cells zR 25)).setRow w4.heap.size #[.int .i64 20, .int .u64 0, .string ⟨((B.drop a1).take N).toArray⟩, .slice none 0 0, .int .i64 0]) := below_setRow ((Below.refl w4.heap.size w4.drew).alloc (Nat.le_refl w4.heap.size) _) (Nat.le_refl w4.heap.size) _
  have ox := setRow_heap (w4.drew.alloc (.cells zR 25)) w4.heap.size _ #[.int .i64 20, .int .u64 0, .string ⟨((B.drop a1).take N).toArray⟩, .slice none 0 0, .int .i64 0] _ _ (_root_.Go.heap_alloc_new w4.drew _)
  have hS3 : RdIn ((w4.drew.alloc (.cells zR 25)).setRow w4.heap.size #[.int .i64 20, .int .u64 0, .string ⟨((B.drop a1).take N).toArray⟩, .slice none 0 0, .int .i64 0]) r p n cp a1 en sz B := hS.blw hb6
  refine oneH (i := 19) (by kernel_rfl) ?_
  refine stepD (i := 19) rfl (by rfl) (fun K5 h5 => ?_)
  refine wp_store_rowN 25 (.tmp 8) (.tmp 34) rfl rfl w4.heap.size #[.int .i64 20, .int .u64 0, .string ⟨((B.drop a1).take N).toArray⟩, .slice none 0 0, .int .i64 0] rfl rfl 25 zR (_root_.Go.heap_alloc_new w4.drew _) (by as_aux_lemma => kernel_rfl) (by as_aux_lemma => kernel_rfl) (by simp [Value.oneCell']) ?_
  refine h5.out _ _ hS3 ?_
  clear h5
  try simp only [Act.put, sA, sB, sC]
  refine wpAnyH_done (by kernel_rfl) ?_ _
  change Exit.then _ _ _ _ ((w4.drew.alloc (.cells zR 25)).setRow w4.heap.size #[.int .i64 20, .int .u64 0, .string ⟨((B.drop a1).take N).toArray⟩, .slice none 0 0, .int .i64 0])
  generalize ((w4.drew.alloc (.cells zR 25)).setRow w4.heap.size #[.int .i64 20, .int .u64 0, .string ⟨((B.drop a1).take N).toArray⟩, .slice none 0 0, .int .i64 0]) = w6 at *
  have oy5 : w4.drew.heap[y]? = some (.cells zR 25 (0, 0)) := (HB4.out.block y (by have := HMV.out.keep.size; have := (gl HB0.out.2.2); omega)).trans ((HMV.out.keep.block y (gl HB0.out.2.2) (fun e => by have := hlt.out; have := HB0.out.2.1; omega)).trans HB0.out.2.2)
  have oy6 := (hb6.block y (gl oy5)).trans oy5
  have hyx : y ≠ w4.heap.size := fun e => by have h2 : y < w4.heap.size := (gl oy5); omega
  have HM6 := Lib.hid (((KeepF.of_below HB0.out.1).trans HMV.out.keep).trans ((KeepF.of_below (bdrew HB4.out)).trans (KeepF.of_below hb6)))
  obtain ⟨x, hx⟩ : ∃ x, w4.heap.size = x := ⟨_, rfl⟩
  have HXL := Lib.hid (show w4.heap.size = x ∧ w.heap.size ≤ w4.heap.size from ⟨hx, by have := HB0.out.1.size; have := HMV.out.keep.size; have := HB4.out.size; omega⟩)
  rw [hx] at ox hyx ⊢
  have HX := Lib.hid (And.intro (And.intro hyx hS3) (And.intro oy6 ox))
  clear hb6 hS hS2 hS3 oy5 hyx hx
  generalize (if cp = a1 then p else p.map (fun x => x.add a1)) = ps at *
  obtain ⟨S, hS⟩ : ∃ S, (⟨((B.drop a1).take N).toArray⟩ : ByteArray) = S := ⟨_, rfl⟩
  simp only [hS] at ox HX ⊢
  have x0 : w6.cell? ⟨x, 0, none⟩ = some (.int .i64 20) := (cell_of_row _ _ 0 _ _ _ ox).trans rfl
  have x1 : w6.cell? ⟨x, 1, none⟩ = some (.int .u64 0) := (cell_of_row _ _ 1 _ _ _ ox).trans rfl
  have x2 : w6.cell? ⟨x, 2, none⟩ = some (.string S) := (cell_of_row _ _ 2 _ _ _ ox).trans rfl
  have x3 : w6.cell? ⟨x, 3, none⟩ = some (.slice none 0 0) := (cell_of_row _ _ 3 _ _ _ ox).trans rfl
  have x4 : w6.cell? ⟨x, 4, none⟩ = some (.int .i64 0) := (cell_of_row _ _ 4 _ _ _ ox).trans rfl
  have HS := Lib.hid hS
  have hSs : S.size = N := by rw [← hS]; exact HSZ.out
  have HU := Lib.hid (show ∀ W, Tabs W → Calls Tryd.prog 55 #[.string S] W fun e w' => e = .returned (.int .i64 bad) ∧ Below W.heap.size W w' from fun W hT => by rw [← hbad, hS]; exact (ascii_any S W (by omega)).mono (fun e w' q => by obtain ⟨q1, rfl⟩ := q; exact ⟨q1, Below.refl _ _⟩))
  clear ox oy6 hS
  go_wp2_with fail
  refine (HU.out _ HX.out.1.2.src.tabs).mono ?_
  rintro e w7 ⟨rfl, hb7⟩
  clear x0 x1 x2 x3 x4
  have hS7 := HX.out.1.2.blw hb7
  have ox7 := (hb7.block x (gl HX.out.2.2)).trans HX.out.2.2
  have oy7 := (hb7.block y (gl HX.out.2.1)).trans HX.out.2.1
  have HX7 := Lib.hid (And.intro hS7 (And.intro ox7 oy7))
  have HM7 := Lib.hid (HM6.out.trans (KeepF.of_below hb7))
  have r1 : w7.cell? ⟨r, 1, none⟩ = some (.int .i64 (a1 : Nat)) := (cell_of_row _ _ 1 _ _ _ hS7.row).trans rfl
  have fr : w7.frozen? ⟨r, 1, none⟩ = false := by simp [World.frozen?, hS7.row]
  clear hb7 hS7 ox7 oy7
  go_upto_region 13 with fail
  have hxr : x ≠ r := fun e => by have := hlt.out; have := HXL.out; omega
  have hyr : y ≠ r := fun e => by have := hlt.out; have := HB0.out.2.1; omega
  have ox8 : (w7.setCell ⟨r, 1, none⟩ (.int .i64 ((a1 : Int) + (N : Nat)))).heap[x]? = some (.cells #[.int .i64 20, .int .u64 0, .string S, .slice none 0 0, .int .i64 0] 25 (0, 0)) := (set_farV hxr).trans HX7.out.2.1
  have oy8 : (w7.setCell ⟨r, 1, none⟩ (.int .i64 ((a1 : Int) + (N : Nat)))).heap[y]? = some (.cells zR 25 (0, 0)) := (set_farV hyr).trans HX7.out.2.2
  have or8 := heap_setCell_same w7 r 1 _ _ (.int .i64 ((a1 : Int) + (N : Nat))) HX7.out.1.row
  have hk8 : KeepF (fun g => g = r) w7 (w7.setCell ⟨r, 1, none⟩ (.int .i64 ((a1 : Int) + (N : Nat)))) := ⟨rfl, rfl, rfl, by simp, fun j hj hne => set_farV hne⟩
  change Code.wp _ _ _ _ (w7.setCell ⟨r, 1, none⟩ (.int .i64 ((a1 : Int) + (N : Nat))))
  generalize w7.setCell ⟨r, 1, none⟩ (.int .i64 ((a1 : Int) + (N : Nat))) = w8 at *
  have HX8 := Lib.hid (And.intro (And.intro or8 hk8) (And.intro ox8 oy8))
  have hyr' := Lib.hid (Ne.symm hyr)
  have x0 : w8.cell? ⟨x, 0, none⟩ = some (.int .i64 20) := (cell_of_row _ _ 0 _ _ _ ox8).trans rfl
  have x1 : w8.cell? ⟨x, 1, none⟩ = some (.int .u64 0) := (cell_of_row _ _ 1 _ _ _ ox8).trans rfl
  have x2 : w8.cell? ⟨x, 2, none⟩ = some (.string S) := (cell_of_row _ _ 2 _ _ _ ox8).trans rfl
  have x3 : w8.cell? ⟨x, 3, none⟩ = some (.slice none 0 0) := (cell_of_row _ _ 3 _ _ _ ox8).trans rfl
  have x4 : w8.cell? ⟨x, 4, none⟩ = some (.int .i64 0) := (cell_of_row _ _ 4 _ _ _ ox8).trans rfl
  clear r1 fr or8 hk8 ox8 hxr hyr
  go_wp2_with (refine wpList_store_rowTo rfl 25 (.tmp 6) (.tmp 63) rfl rfl y #[.int .i64 20, .int .u64 0, .string S, .slice none 0 0, .int .i64 0] rfl rfl 25 zR oy8 (by as_aux_lemma => kernel_rfl) (by as_aux_lemma => kernel_rfl) (by simp [Value.oneCell']) ?_)
  have hh := setRow_heap w8 y _ #[.int .i64 20, .int .u64 0, .string S, .slice none 0 0, .int .i64 0] _ _ HX8.out.2.2
  have hB := below_setRow (Below.refl y w8) (Nat.le_refl y) #[.int .i64 20, .int .u64 0, .string S, .slice none 0 0, .int .i64 0]
  refine bodyPost_ret (results_cell_row (p := 6) (ty := 25) (by kernel_rfl) _ _ y 25 #[.int .i64 20, .int .u64 0, .string S, .slice none 0 0, .int .i64 0] (0, 0) _ rfl hh Tryd.underlying25 rfl (by as_aux_lemma => kernel_rfl)) rfl ?_
  rw [HS.out]
  have hk9 := HM7.out.trans HX8.out.1.2
  have hy0 := HB0.out.2.1
  exact ⟨rfl, ⟨hk9.os, hk9.tape, hk9.output, Nat.le_trans hk9.size (by simp), fun j hj hne => (setRow_other w8 y j _ (fun e => by omega)).trans (hk9.block j hj hne)⟩, (setRow_other w8 y r _ hyr'.out).trans HX8.out.1.1⟩
set_option maxRecDepth 20000 in
theorem text_20x (wd : Nat) (w : World) (r : Nat) (p : Option Addr) (n cp at_ en : Nat) (sz own : Int) (B : List UInt8) (h : RdIn w r p n cp at_ en sz B) (h1 : 1 ≤ wd) (h4 : wd ≤ 4) (N a1 : Nat) (hN : nAt B at_ wd = N) (ha1 : at_ + wd = a1) (hs : a1 + N ≤ en) (bad : Int) (hbad : asciiS ⟨((B.drop a1).take N).toArray⟩ = bad) (hbb : decide ((0 : Int) ≤ bad) = true) (hbn : bad ≤ N) :
    Calls Tryd.prog 48 #[.pointer (some ⟨r, 0, none⟩), .int .i64 20, .int .i64 (wd : Nat)] w fun e w' => e = faultE ((a1 : Int) + bad) 33 ∧ KeepF (fun g => g = r) w w' := by
  have HN := Lib.hid (show ∀ W, RdIn W r p n cp at_ en sz B → Calls Tryd.prog 60 #[.pointer (some ⟨r, 0, none⟩), .int .i64 (wd : Nat)] W fun e w' => e = .returned (.int .u64 N) ∧ RdMv W w' r #[.slice p n cp, .int .i64 (a1 : Nat), .int .i64 (en : Nat), .int .i64 sz] from fun W hW => (number_ok W r p n cp at_ en sz hW.row B hW.src.bytes wd h1 (by omega) hW.ha (by omega) hW.hen hW.hn).mono (fun e w' q => ⟨by rw [← hN]; exact q.1, q.2.eq (by omega)⟩))
  have hwn : wrap64 ((N : Nat) : Int) = (N : Nat) := by
    have := nAt_lt (B := B) (at_ := at_) (wd := wd)
    have h2 : 256 ^ wd ≤ 256 ^ 4 := Nat.pow_le_pow_right (by omega) h4
    have h3 : 256 ^ 4 = 4294967296 := by decide
    unfold wrap64
    omega
  have HNE := Lib.hid (show ∀ W, RdIn W r p n cp a1 en sz B → Calls Tryd.prog 32 #[.pointer (some ⟨r, 0, none⟩), .int .i64 (N : Nat)] W fun e w' => e = .returned (.tuple #[]) ∧ Below W.heap.size W w' from fun W hW => need_ok W r p n cp a1 en sz hW.row N hW.ha hs (by have := hW.hen; have := hW.hn; omega))
  have HV := Lib.hid (show ∀ W, RdIn W r p n cp a1 en sz B → (convert 28 9 (.slice (if cp = a1 then p else p.map (fun x => x.add a1)) N (cp - a1))).run Tryd.prog W = .ok (.string ⟨((B.drop a1).take N).toArray⟩) W from fun W hW => run_string_bytes W _ _ 5 Tryd.underlying28 Tryd.underlying5 Tryd.underlying9 _ _ _ _ (hW.src.bytes.part a1 N (by have := hW.hen; omega)))
  have hs1' := Lib.hid (show a1 ≤ en by omega)
  have HSZ := Lib.hid (show (⟨((B.drop a1).take N).toArray⟩ : ByteArray).size = N by show ((B.drop a1).take N).toArray.size = N; have := h.len; have := h.hen; simp; omega)
  have hle := h.src.bytes.le
  have hen := h.hen
  have hn := h.hn
  have ib1 : (0 : Int) ≤ (a1 : Nat) := by omega
  have ib2 : ((a1 : Nat) : Int) ≤ (a1 : Int) + (N : Nat) := by omega
  have ib3 : (a1 : Int) + (N : Nat) ≤ (cp : Nat) := by omega
  have ib4 : (a1 : Int) + (N : Nat) ≤ 140737488355328 := by omega
  have hadd : IntKind.i64.wrap ((a1 : Int) + (N : Nat)) = (a1 : Int) + (N : Nat) := IntWalk.i64_in _ (by omega)
  have hbp : (0 : Int) ≤ bad := by simpa using hbb
  have hadb : IntKind.i64.wrap ((a1 : Int) + bad) = (a1 : Int) + bad := IntWalk.i64_in _ (by omega)
  clear hs hN ha1 h1 h4 hle hen hn
  go_enter Tryd.func48, Tryd.ntmps48
  go_upto_region 1 with fail
  have hb0 : Below w.heap.size w (w.alloc (.cells zR 25)) := ((Below.refl _ _).alloc (Nat.le_refl _) _)
  have oy := _root_.Go.heap_alloc_new w (.cells zR 25)
  generalize (w.alloc (.cells zR 25)) = w0 at *
  obtain ⟨y, hy⟩ : ∃ y, w.heap.size = y := ⟨_, rfl⟩
  rw [hy] at oy ⊢
  have HR0 := Lib.hid (h.blw hb0)
  have HB0 := Lib.hid (And.intro hb0 (And.intro hy oy))
  have hlt := Lib.hid h.lt
  clear hb0 hy oy h
  go_wp2_with fail
  refine (HN.out _ HR0.out).mono ?_
  rintro e w3 ⟨rfl, hmv⟩
  have HMV := Lib.hid hmv
  have HR3 := Lib.hid (HR0.out.mv hmv hs1'.out)
  clear hmv
  go_wp2_with fail
  refine (HNE.out _ HR3.out).mono ?_
  rintro e w4 ⟨rfl, hb4⟩
  have HR4 := Lib.hid (HR3.out.blw hb4)
  have HB4 := Lib.hid hb4
  clear hb4
  go_upto_region 3 with fail
  refine wp_region_heldN (fun V => RdIn V r p n cp a1 en sz B) 20 rfl (by kernel_rfl) ?_
  have hS : RdIn w4.drew r p n cp a1 en sz B := HR4.out.blw (bdrew (Below.refl _ _))
  refine tkD (i := 0) (v := .int .i64 20) (some 17) rfl rfl (by kernel_rfl) (fun _ _ _ h => h) (Or.inl ⟨by rfl, by rintro V h0; go_simp⟩) hS ?_
  try simp only [Act.put, sA, sB, sC]
  refine tkD (i := 1) (v := .pointer (some ⟨r, 0, none⟩)) (some 18) rfl rfl (by kernel_rfl) (fun _ _ _ h => h) (Or.inl ⟨by rfl, by rintro V h0; go_simp⟩) hS ?_
  try simp only [Act.put, sA, sB, sC]
  refine tkD (i := 2) (v := .pointer (some ⟨r, 0, none⟩)) (some 19) rfl rfl (by kernel_rfl) (fun _ _ _ h => h) (Or.inl ⟨by rfl, by rintro V h0; go_simp⟩) hS ?_
  try simp only [Act.put, sA, sB, sC]
  refine tkD (i := 3) (v := .pointer (some ⟨r, 0, none⟩)) (some 20) rfl rfl (by kernel_rfl) (fun _ _ _ h => h) (Or.inl ⟨by rfl, by rintro V h0; go_simp⟩) hS ?_
  try simp only [Act.put, sA, sB, sC]
  refine tkD (i := 4) (v := .slice p n cp) (some 21) rfl rfl (by kernel_rfl) (fun _ _ _ h => h) (Or.inl ⟨by rfl, by rintro V h0; have y0 := (cell_of_row V _ 0 _ _ _ h0.row).trans rfl; have y1 := (cell_of_row V _ 1 _ _ _ h0.row).trans rfl; go_simp⟩) hS ?_
  try simp only [Act.put, sA, sB, sC]
  refine tkD (i := 5) (v := .pointer (some ⟨r, 0, none⟩)) (some 22) rfl rfl (by kernel_rfl) (fun _ _ _ h => h) (Or.inl ⟨by rfl, by rintro V h0; go_simp⟩) hS ?_
  try simp only [Act.put, sA, sB, sC]
  refine tkD (i := 6) (v := .pointer (some ⟨r, 0, none⟩)) (some 23) rfl rfl (by kernel_rfl) (fun _ _ _ h => h) (Or.inl ⟨by rfl, by rintro V h0; go_simp⟩) hS ?_
  try simp only [Act.put, sA, sB, sC]
  refine tkD (i := 7) (v := .pointer (some ⟨r, 1, none⟩)) (some 24) rfl rfl (by kernel_rfl) (fun _ _ _ h => h) (Or.inl ⟨by rfl, by rintro V h0; go_simp⟩) hS ?_
  try simp only [Act.put, sA, sB, sC]
  refine tkD (i := 8) (v := .int .i64 (a1 : Nat)) (some 25) rfl rfl (by kernel_rfl) (fun _ _ _ h => h) (Or.inl ⟨by rfl, by rintro V h0; have y0 := (cell_of_row V _ 0 _ _ _ h0.row).trans rfl; have y1 := (cell_of_row V _ 1 _ _ _ h0.row).trans rfl; go_simp⟩) hS ?_
  try simp only [Act.put, sA, sB, sC]
  refine tkD (i := 9) (v := .pointer (some ⟨r, 0, none⟩)) (some 26) rfl rfl (by kernel_rfl) (fun _ _ _ h => h) (Or.inl ⟨by rfl, by rintro V h0; go_simp⟩) hS ?_
  try simp only [Act.put, sA, sB, sC]
  refine tkD (i := 10) (v := .pointer (some ⟨r, 0, none⟩)) (some 27) rfl rfl (by kernel_rfl) (fun _ _ _ h => h) (Or.inl ⟨by rfl, by rintro V h0; go_simp⟩) hS ?_
  try simp only [Act.put, sA, sB, sC]
  refine tkD (i := 11) (v := .pointer (some ⟨r, 1, none⟩)) (some 28) rfl rfl (by kernel_rfl) (fun _ _ _ h => h) (Or.inl ⟨by rfl, by rintro V h0; go_simp⟩) hS ?_
  try simp only [Act.put, sA, sB, sC]
  refine tkD (i := 12) (v := .int .i64 (a1 : Nat)) (some 29) rfl rfl (by kernel_rfl) (fun _ _ _ h => h) (Or.inl ⟨by rfl, by rintro V h0; have y0 := (cell_of_row V _ 0 _ _ _ h0.row).trans rfl; have y1 := (cell_of_row V _ 1 _ _ _ h0.row).trans rfl; go_simp⟩) hS ?_
  try simp only [Act.put, sA, sB, sC]
  refine tkD (i := 13) (v := .int .i64 (N : Nat)) (some 30) rfl rfl (by kernel_rfl) (fun _ _ _ h => h) (Or.inl ⟨by rfl, by rintro V h0; go_simp⟩) hS ?_
  try simp only [Act.put, sA, sB, sC]
  refine tkD (i := 14) (v := .int .i64 ((a1 : Int) + (N : Nat))) (some 31) rfl rfl (by kernel_rfl) (fun _ _ _ h => h) (Or.inl ⟨by rfl, by rintro V h0; go_simp⟩) hS ?_
  try simp only [Act.put, sA, sB, sC]
  refine tkD (i := 15) (v := (.slice (if cp = a1 then p else p.map (fun x => x.add a1)) N (cp - a1))) (some 32) rfl rfl (by kernel_rfl) (fun _ _ _ h => h) (Or.inl ⟨by rfl, by rintro V h0; go_simp; omega⟩) hS ?_
  try simp only [Act.put, sA, sB, sC]
  refine tkD (i := 16) (v := .string ⟨((B.drop a1).take N).toArray⟩) (some 33) rfl rfl (by kernel_rfl) (fun _ _ _ h => h) (Or.inl ⟨by rfl, by rintro V h0; have z5 := HV.out V h0; go_simp⟩) hS ?_
  try simp only [Act.put, sA, sB, sC]
  refine tkD (i := 17) (v := .agg #[.int .i64 20, .int .u64 0, .string ⟨((B.drop a1).take N).toArray⟩, .slice none 0 0, .int .i64 0]) (some 34) rfl rfl (by kernel_rfl) (fun _ _ _ h => h) (Or.inl ⟨by rfl, by rintro V h0; go_simp⟩) hS ?_
  try simp only [Act.put, sA, sB, sC]
  have hS2 : RdIn (w4.drew.alloc (.cells zR 25)) r p n cp a1 en sz B := hS.blw ((Below.refl _ _).alloc (Nat.le_refl _) _)
  refine oneH (i := 18) (by kernel_rfl) ?_
  refine stepD (i := 18) rfl (by rfl) (fun K5 h5 => ?_)
  go_simp
  refine h5.out _ _ hS2 ?_
  clear h5
  try simp only [Act.put, sA, sB, sC]
  have hb6 : Below w4.heap.size w4.drew ((w4.drew.alloc (.cells zR 25)).setRow w4.heap.size #[.int .i64 20, .int .u64 0, .string ⟨((B.drop a1).take N).toArray⟩, .slice none 0 0, .int .i64 0]) := below_setRow ((Below.refl w4.heap.size w4.drew).alloc (Nat.le_refl w4.heap.size) _) (Nat.le_refl w4.heap.size) _
  have ox := setRow_heap (w4.drew.alloc (.cells zR 25)) w4.heap.size _ #[.int .i64 20, .int .u64 0, .string ⟨((B.drop a1).take N).toArray⟩, .slice none 0 0, .int .i64 0] _ _ (_root_.Go.heap_alloc_new w4.drew _)
  have hS3 : RdIn ((w4.drew.alloc (.cells zR 25)).setRow w4.heap.size #[.int .i64 20, .int .u64 0, .string ⟨((B.drop a1).take N).toArray⟩, .slice none 0 0, .int .i64 0]) r p n cp a1 en sz B := hS.blw hb6
  refine oneH (i := 19) (by kernel_rfl) ?_
  refine stepD (i := 19) rfl (by rfl) (fun K5 h5 => ?_)
  refine wp_store_rowN 25 (.tmp 8) (.tmp 34) rfl rfl w4.heap.size #[.int .i64 20, .int .u64 0, .string ⟨((B.drop a1).take N).toArray⟩, .slice none 0 0, .int .i64 0] rfl rfl 25 zR (_root_.Go.heap_alloc_new w4.drew _) (by as_aux_lemma => kernel_rfl) (by as_aux_lemma => kernel_rfl) (by simp [Value.oneCell']) ?_
  refine h5.out _ _ hS3 ?_
  clear h5
  try simp only [Act.put, sA, sB, sC]
  refine wpAnyH_done (by kernel_rfl) ?_ _
  change Exit.then _ _ _ _ ((w4.drew.alloc (.cells zR 25)).setRow w4.heap.size #[.int .i64 20, .int .u64 0, .string ⟨((B.drop a1).take N).toArray⟩, .slice none 0 0, .int .i64 0])
  generalize ((w4.drew.alloc (.cells zR 25)).setRow w4.heap.size #[.int .i64 20, .int .u64 0, .string ⟨((B.drop a1).take N).toArray⟩, .slice none 0 0, .int .i64 0]) = w6 at *
  have oy5 : w4.drew.heap[y]? = some (.cells zR 25 (0, 0)) := (HB4.out.block y (by have := HMV.out.keep.size; have := (gl HB0.out.2.2); omega)).trans ((HMV.out.keep.block y (gl HB0.out.2.2) (fun e => by have := hlt.out; have := HB0.out.2.1; omega)).trans HB0.out.2.2)
  have oy6 := (hb6.block y (gl oy5)).trans oy5
  have hyx : y ≠ w4.heap.size := fun e => by have h2 : y < w4.heap.size := (gl oy5); omega
  have HM6 := Lib.hid (((KeepF.of_below HB0.out.1).trans HMV.out.keep).trans ((KeepF.of_below (bdrew HB4.out)).trans (KeepF.of_below hb6)))
  obtain ⟨x, hx⟩ : ∃ x, w4.heap.size = x := ⟨_, rfl⟩
  have HXL := Lib.hid (show w4.heap.size = x ∧ w.heap.size ≤ w4.heap.size from ⟨hx, by have := HB0.out.1.size; have := HMV.out.keep.size; have := HB4.out.size; omega⟩)
  rw [hx] at ox hyx ⊢
  have HX := Lib.hid (And.intro (And.intro hyx hS3) (And.intro oy6 ox))
  clear hb6 hS hS2 hS3 oy5 hyx hx
  generalize (if cp = a1 then p else p.map (fun x => x.add a1)) = ps at *
  obtain ⟨S, hS⟩ : ∃ S, (⟨((B.drop a1).take N).toArray⟩ : ByteArray) = S := ⟨_, rfl⟩
  simp only [hS] at ox HX ⊢
  have x0 : w6.cell? ⟨x, 0, none⟩ = some (.int .i64 20) := (cell_of_row _ _ 0 _ _ _ ox).trans rfl
  have x1 : w6.cell? ⟨x, 1, none⟩ = some (.int .u64 0) := (cell_of_row _ _ 1 _ _ _ ox).trans rfl
  have x2 : w6.cell? ⟨x, 2, none⟩ = some (.string S) := (cell_of_row _ _ 2 _ _ _ ox).trans rfl
  have x3 : w6.cell? ⟨x, 3, none⟩ = some (.slice none 0 0) := (cell_of_row _ _ 3 _ _ _ ox).trans rfl
  have x4 : w6.cell? ⟨x, 4, none⟩ = some (.int .i64 0) := (cell_of_row _ _ 4 _ _ _ ox).trans rfl
  have HS := Lib.hid hS
  have hSs : S.size = N := by rw [← hS]; exact HSZ.out
  have HU := Lib.hid (show ∀ W, Tabs W → Calls Tryd.prog 55 #[.string S] W fun e w' => e = .returned (.int .i64 bad) ∧ Below W.heap.size W w' from fun W hT => by rw [← hbad, hS]; exact (ascii_any S W (by omega)).mono (fun e w' q => by obtain ⟨q1, rfl⟩ := q; exact ⟨q1, Below.refl _ _⟩))
  clear ox oy6 hS
  go_wp2_with fail
  refine (HU.out _ HX.out.1.2.src.tabs).mono ?_
  rintro e w7 ⟨rfl, hb7⟩
  clear x0 x1 x2 x3 x4
  have hS7 := HX.out.1.2.blw hb7
  have ox7 := (hb7.block x (gl HX.out.2.2)).trans HX.out.2.2
  have oy7 := (hb7.block y (gl HX.out.2.1)).trans HX.out.2.1
  have HX7 := Lib.hid (And.intro hS7 (And.intro ox7 oy7))
  have HM7 := Lib.hid (HM6.out.trans (KeepF.of_below hb7))
  have r1 : w7.cell? ⟨r, 1, none⟩ = some (.int .i64 (a1 : Nat)) := (cell_of_row _ _ 1 _ _ _ hS7.row).trans rfl
  have fr : w7.frozen? ⟨r, 1, none⟩ = false := by simp [World.frozen?, hS7.row]
  clear hb7 hS7 ox7 oy7
  go_wp2_with fail
  refine (wrong_any _ _ _).mono ?_
  rintro e w8 ⟨rfl, rfl⟩
  exact ⟨rfl, rfl, HM7.out⟩
end Go.Proofs.YtjipennigjlklaaDoor
