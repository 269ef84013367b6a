/-
  The stream's rest. Conditions: the stream lies in a block of its own, what it holds in memory.
  The stream's length. Conditions: the stream lies in a block of its own, what it holds in memory.
-/
import Derived.Test.YtofdpccjpodbhaaMg13
import Derived.Test.YtofdpccjpodbhaaOpensM
import Derived.Deep.QuietTactic
import Derived.BigQuiet
import Derived.Test.YtofdpccjpodbhaaMg04
namespace Go.Proofs.Ytofdpccjpodbhaa
open Go.RowKit
set_option linter.unusedVariables false

theorem drewN_below (w : World) (m : Nat) : Below w.heap.size w (w.drewN m) := ⟨rfl, rfl, rfl, Nat.le_refl _, fun _ _ => rfl⟩

theorem rest_wait (w : World) (b : Nat) (mo hr kd i0 i1 i2 i3 i4 i5 : Value) (nf : Fn) (nx1 nx2 : Array Value) (p : Option Addr) (n c s : Nat) (t a e0 : Int) (l : List UInt8) (hs : w.heap[b]? = some (.cells #[.func nf nx1 nx2, .slice p n c, .int .i64 t, .int .i64 a, mo, .int .i64 s, hr, kd, .int .i64 e0, i0, i1, i2, i3, i4, i5] 91 (0, 0))) (hb : BytesIn w p n c l) (hz : n ≤ 140737488355328) (h : n < s) :
    Calls Try.prog 78 #[.pointer (some ⟨b, 0, none⟩)] w fun e w' => e = .returned (.tuple #[]) ∧ w'.heap[b]? = some (.cells #[.func nf nx1 nx2, .slice p n c, .int .i64 t, .int .i64 a, mo, .int .i64 s, hr, kd, .int .i64 e0, i0, i1, i2, i3, i4, i5] 91 (0, 0)) ∧ w.grownBy w' (some b) := by
  have c1 : w.cell? ⟨b, 1, none⟩ = some (.slice p n c) := (cell_of_row _ _ 1 _ _ _ hs).trans rfl
  have c5 : w.cell? ⟨b, 5, none⟩ = some (.int .i64 s) := (cell_of_row _ _ 5 _ _ _ hs).trans rfl
  have HS := Lib.hid hs
  have hbd : Below w.heap.size w w.drew := ⟨rfl, rfl, rfl, Nat.le_refl _, fun _ _ => rfl⟩
  clear hs
  have h' : (n : Int) < (s : Int) := by omega
  have hfin : ∀ m, (w.drewN m).heap[b]? = some (.cells #[.func nf nx1 nx2, .slice p n c, .int .i64 t, .int .i64 a, mo, .int .i64 s, hr, kd, .int .i64 e0, i0, i1, i2, i3, i4, i5] 91 (0, 0)) ∧ w.grownBy (w.drewN m) (some b) := fun m => ⟨HS.out, grown_below (drewN_below w m)⟩
  have HF := Lib.hid hfin
  clear hfin
  go_enter Try.func78, Try.ntmps78
  go_upto_region 0 with fail
  go_quiet (fail)
  go_wp2_with fail
  refine bodyPost_ret (v := .tuple #[]) (results_none (by kernel_rfl) _ _ _) rfl ?_
  exact ⟨rfl, (HF.out _).1, (HF.out _).2⟩

theorem rest_bad (w : World) (b : Nat) (mo hr kd i0 i1 i2 i3 i4 i5 : Value) (nf : Fn) (nx1 nx2 : Array Value) (p : Option Addr) (n c s : Nat) (t a e0 : Int) (l : List UInt8) (hs : w.heap[b]? = some (.cells #[.func nf nx1 nx2, .slice p n c, .int .i64 t, .int .i64 a, mo, .int .i64 s, hr, kd, .int .i64 e0, i0, i1, i2, i3, i4, i5] 91 (0, 0))) (hb : BytesIn w p n c l) (hz : n ≤ 140737488355328) (h : ¬ n < s) (T ch : Nat) (el bl : List UInt8) (pl er : Int) (hq : openR l 0 1048576 = (T, ch, el, bl, pl, er)) (he : er ≠ 0) :
    Calls Try.prog 78 #[.pointer (some ⟨b, 0, none⟩)] w fun e w' => e = .returned (.tuple #[]) ∧ w'.heap[b]? = some (.cells #[.func nf nx1 nx2, .slice none 0 0, .int .i64 t, .int .i64 a, mo, .int .i64 s, hr, kd, .int .i64 er, i0, i1, i2, i3, i4, i5] 91 (0, 0)) ∧ w.grownBy w' (some b) := by
  have he' : (er != 0) = true := by simpa using he
  clear he
  have c1 : w.cell? ⟨b, 1, none⟩ = some (.slice p n c) := (cell_of_row _ _ 1 _ _ _ hs).trans rfl
  have c5 : w.cell? ⟨b, 5, none⟩ = some (.int .i64 s) := (cell_of_row _ _ 5 _ _ _ hs).trans rfl
  have HS := Lib.hid hs
  have HBY := Lib.hid hb
  have hle := hb.le
  have h' : ¬ (n : Int) < (s : Int) := by omega
  clear hs hb h
  go_enter Try.func78, Try.ntmps78
  go_upto_region 0 with fail
  go_quiet (fail)
  go_upto_region 1 with fail
  have hdn := drewN_below w nq
  have s1 : (w.drewN nq).heap[b]? = some (.cells #[.func nf nx1 nx2, .slice p n c, .int .i64 t, .int .i64 a, mo, .int .i64 s, hr, kd, .int .i64 e0, i0, i1, i2, i3, i4, i5] 91 (0, 0)) := HS.out
  have y1 := HBY.out.below hdn
  generalize w.drewN nq = w1 at *
  clear c1 c5
  have c1 : w1.cell? ⟨b, 1, none⟩ = some (.slice p n c) := (cell_of_row _ _ 1 _ _ _ s1).trans rfl
  have ho := open_row w1 p n c l 0 1048576 y1 hz T ch el bl pl er hq
  have S1 := Lib.hid s1
  have HD := Lib.hid hdn
  clear s1 y1 hdn hq
  go_wp2_with fail
  refine ho.mono ?_
  rintro e w2 ⟨ea, ne, ce, ba, nb, cb, rfl, hb2, o1, o2, hap⟩
  clear ho c1
  go_upto_region 2 with fail
  have hal : Below w2.heap.size w2 (w2.alloc (.cells #[.int .i64 T, .int .i64 ch, .slice ea ne ce, .slice ba nb cb] 24)) := (Below.refl _ _).alloc (Nat.le_refl _) _
  have f3 : (w2.alloc (.cells #[.int .i64 T, .int .i64 ch, .slice ea ne ce, .slice ba nb cb] 24)).heap[w2.heap.size]? = some (.cells #[.int .i64 T, .int .i64 ch, .slice ea ne ce, .slice ba nb cb] 24 (0, 0)) := heap_alloc_new _ _
  have hb3 := hb2.trans (hal.mono hb2.size)
  have o13 := o1.of_below hal
  have o23 := o2.of_below hal
  generalize (w2.alloc (.cells #[.int .i64 T, .int .i64 ch, .slice ea ne ce, .slice ba nb cb] 24)) = w3 at *
  obtain ⟨x, hx⟩ : ∃ x, w2.heap.size = x := ⟨_, rfl⟩
  rw [hx] at f3 ⊢
  have s3 : w3.heap[b]? = some (.cells #[.func nf nx1 nx2, .slice p n c, .int .i64 t, .int .i64 a, mo, .int .i64 s, hr, kd, .int .i64 e0, i0, i1, i2, i3, i4, i5] 91 (0, 0)) := (hb3.block b (Array.getElem?_eq_some_iff.1 S1.out).1).trans S1.out
  have g3 : w.grownBy w3 (some b) := grown_trans (grown_below HD.out) (grown_below hb3)
  have hws : w.heap.size ≤ w1.heap.size := HD.out.size
  have hbx : b < w1.heap.size := (Array.getElem?_eq_some_iff.1 S1.out).1
  clear hx hal hb2 o1 o2
  have hfl := fail_any w3 b _ _ _ _ _ _ _ _ _ _ _ _ _ _ _ er s3 ⟨_, _, _, rfl⟩ ⟨_, rfl⟩
  have G3 := Lib.hid g3
  clear s3 g3 hb3 o13 o23 f3 hap
  go_wp2_with fail
  refine hfl.mono ?_
  rintro e w4 ⟨rfl, hh, hg⟩
  have HH := Lib.hid hh
  have HG := Lib.hid (grown_trans G3.out hg)
  clear hfl hh hg
  go_wp2_with fail
  refine bodyPost_ret (v := .tuple #[]) (results_none (by kernel_rfl) _ _ _) rfl ?_
  exact ⟨rfl, HH.out, HG.out⟩

set_option maxHeartbeats 1000000 in
theorem rest_ok (w : World) (b : Nat) (mo hr kd i0 i1 i2 i3 i4 i5 : Value) (nf : Fn) (nx1 nx2 : Array Value) (p : Option Addr) (n c s : Nat) (t a e0 : Int) (l : List UInt8) (hs : w.heap[b]? = some (.cells #[.func nf nx1 nx2, .slice p n c, .int .i64 t, .int .i64 a, mo, .int .i64 s, hr, kd, .int .i64 e0, i0, i1, i2, i3, i4, i5] 91 (0, 0))) (hb : BytesIn w p n c l) (hz : n ≤ 140737488355328) (h9 : ∃ x0 x1 x2 x3 p4 n4 c4 p5 n5 c5, i0 = .int .i64 x0 ∧ i1 = .int .i64 x1 ∧ i2 = .int .i64 x2 ∧ i3 = .int .i64 x3 ∧ i4 = .slice p4 n4 c4 ∧ i5 = .slice p5 n5 c5) (h : ¬ n < s) (T ch : Nat) (el bl : List UInt8) (pl er : Int) (hq : openR l 0 1048576 = (T, ch, el, bl, pl, er)) (he : er = 0) :
    Calls Try.prog 78 #[.pointer (some ⟨b, 0, none⟩)] w fun e w' => e = .returned (.tuple #[]) ∧ ∃ ea ne ce ba nb cb, w'.heap[b]? = some (.cells #[nextF b 71, .slice p 0 c, .int .i64 t, .int .i64 t, mo, .int .i64 s, hr, kd, .int .i64 e0, .int .i64 2, .int .i64 0, .int .i64 T, .int .i64 ch, .slice ea ne ce, .slice ba nb cb] 91 (0, 0)) ∧ w.grownBy w' (some b) ∧
      OwnBytes w' w.heap.size 5 (.slice ea ne ce) el ∧ OwnBytes w' w.heap.size 5 (.slice ba nb cb) bl ∧ Apart (.slice ea ne ce) (.slice ba nb cb) := by
  have he' : (er != 0) = false := by simp [he]
  clear he
  have c1 : w.cell? ⟨b, 1, none⟩ = some (.slice p n c) := (cell_of_row _ _ 1 _ _ _ hs).trans rfl
  have c5 : w.cell? ⟨b, 5, none⟩ = some (.int .i64 s) := (cell_of_row _ _ 5 _ _ _ hs).trans rfl
  have HS := Lib.hid hs
  have HBY := Lib.hid hb
  have hle := hb.le
  have h' : ¬ (n : Int) < (s : Int) := by omega
  clear hs hb h
  go_enter Try.func78, Try.ntmps78
  go_upto_region 0 with fail
  go_quiet (fail)
  go_upto_region 1 with fail
  have hdn := drewN_below w nq
  have s1 : (w.drewN nq).heap[b]? = some (.cells #[.func nf nx1 nx2, .slice p n c, .int .i64 t, .int .i64 a, mo, .int .i64 s, hr, kd, .int .i64 e0, i0, i1, i2, i3, i4, i5] 91 (0, 0)) := HS.out
  have y1 := HBY.out.below hdn
  generalize w.drewN nq = w1 at *
  clear c1 c5
  have c1 : w1.cell? ⟨b, 1, none⟩ = some (.slice p n c) := (cell_of_row _ _ 1 _ _ _ s1).trans rfl
  have ho := open_row w1 p n c l 0 1048576 y1 hz T ch el bl pl er hq
  have S1 := Lib.hid s1
  have HD := Lib.hid hdn
  clear s1 y1 hdn hq
  go_wp2_with fail
  refine ho.mono ?_
  rintro e w2 ⟨ea, ne, ce, ba, nb, cb, rfl, hb2, o1, o2, hap⟩
  clear ho c1
  go_upto_region 2 with fail
  have hal : Below w2.heap.size w2 (w2.alloc (.cells #[.int .i64 T, .int .i64 ch, .slice ea ne ce, .slice ba nb cb] 24)) := (Below.refl _ _).alloc (Nat.le_refl _) _
  have f3 : (w2.alloc (.cells #[.int .i64 T, .int .i64 ch, .slice ea ne ce, .slice ba nb cb] 24)).heap[w2.heap.size]? = some (.cells #[.int .i64 T, .int .i64 ch, .slice ea ne ce, .slice ba nb cb] 24 (0, 0)) := heap_alloc_new _ _
  have hb3 := hb2.trans (hal.mono hb2.size)
  have o13 := o1.of_below hal
  have o23 := o2.of_below hal
  generalize (w2.alloc (.cells #[.int .i64 T, .int .i64 ch, .slice ea ne ce, .slice ba nb cb] 24)) = w3 at *
  obtain ⟨x, hx⟩ : ∃ x, w2.heap.size = x := ⟨_, rfl⟩
  rw [hx] at f3 ⊢
  have s3 : w3.heap[b]? = some (.cells #[.func nf nx1 nx2, .slice p n c, .int .i64 t, .int .i64 a, mo, .int .i64 s, hr, kd, .int .i64 e0, i0, i1, i2, i3, i4, i5] 91 (0, 0)) := (hb3.block b (Array.getElem?_eq_some_iff.1 S1.out).1).trans S1.out
  have g3 : w.grownBy w3 (some b) := grown_trans (grown_below HD.out) (grown_below hb3)
  have hws : w.heap.size ≤ w1.heap.size := HD.out.size
  have hbx : b < w1.heap.size := (Array.getElem?_eq_some_iff.1 S1.out).1
  clear hx hal hb2 o1 o2
  have d0 : w3.cell? ⟨x, 0, none⟩ = some (.int .i64 T) := (cell_of_row _ _ 0 _ _ _ f3).trans rfl
  have d1 : w3.cell? ⟨x, 1, none⟩ = some (.int .i64 ch) := (cell_of_row _ _ 1 _ _ _ f3).trans rfl
  have d2 : w3.cell? ⟨x, 2, none⟩ = some (.slice ea ne ce) := (cell_of_row _ _ 2 _ _ _ f3).trans rfl
  have d3 : w3.cell? ⟨x, 3, none⟩ = some (.slice ba nb cb) := (cell_of_row _ _ 3 _ _ _ f3).trans rfl
  have htl := tell_any w3 b _ _ _ _ _ _ _ _ _ _ _ _ (.slice ea ne ce) (.slice ba nb cb) p n c t a 2 0 T ch s3 ⟨_, _, _, rfl⟩ h9 ⟨_, _, _, _, _, _, rfl, rfl⟩ hle
  have G3 := Lib.hid g3
  have OO := Lib.hid (And.intro o13 (And.intro o23 hap))
  clear s3 g3 hb3 o13 o23 f3 hap h9
  go_wp2_with fail
  refine htl.mono ?_
  rintro e w4 ⟨rfl, hh, hg⟩
  have hoff : ∀ k, some b = some k → k < w1.heap.size := fun k hk => by simp only [Option.some.injEq] at hk; omega
  have r1 := OO.out.1.kept hg (off_row OO.out.1.row hoff)
  have r2 := OO.out.2.1.kept hg (off_row OO.out.2.1.row hoff)
  have HH := Lib.hid (And.intro hh (And.intro (grown_trans G3.out hg) (And.intro (OwnBytes.mk (row_mono5 r1.row hws)) (OwnBytes.mk (row_mono5 r2.row hws)))))
  clear htl hh hg r1 r2
  go_wp2_with fail
  go_end0
  exact ⟨rfl, _, _, _, _, _, _, HH.out.1, HH.out.2.1, HH.out.2.2.1, HH.out.2.2.2, OO.out.2.2⟩
end Go.Proofs.Ytofdpccjpodbhaa

namespace Go.Proofs.Ytofdpccjpodbhaa
open Go.RowKit
set_option linter.unusedVariables false

theorem length_wait (w : World) (b : Nat) (tk at_ hr kd i0 i1 i2 i3 i4 i5 : Value) (nf : Fn) (nx1 nx2 : Array Value) (p : Option Addr) (n c M : Nat) (s0 e0 : Int) (l : List UInt8) (hs : w.heap[b]? = some (.cells #[.func nf nx1 nx2, .slice p n c, tk, at_, .int .i64 M, .int .i64 s0, hr, kd, .int .i64 e0, i0, i1, i2, i3, i4, i5] 91 (0, 0))) (hb : BytesIn w p n c l) (h : n < 4) :
    Calls Try.prog 71 #[.pointer (some ⟨b, 0, none⟩)] w fun e w' => e = .returned (.tuple #[]) ∧ w = w' := by
  have c1 : w.cell? ⟨b, 1, none⟩ = some (.slice p n c) := (cell_of_row _ _ 1 _ _ _ hs).trans rfl
  have h' : (n : Int) < 4 := by omega
  clear hs hb
  go_enter Try.func71, Try.ntmps71
  go_wp2_with fail
  refine bodyPost_ret (v := .tuple #[]) (results_none (by kernel_rfl) _ _ _) rfl ?_
  exact ⟨rfl, rfl⟩

set_option maxHeartbeats 1000000 in
theorem length_order (w : World) (b : Nat) (tk at_ hr kd i0 i1 i2 i3 i4 i5 : Value) (nf : Fn) (nx1 nx2 : Array Value) (p : Option Addr) (c M : Nat) (s0 e0 : Int) (l : List UInt8) (hs : w.heap[b]? = some (.cells #[.func nf nx1 nx2, .slice p 4 c, tk, at_, .int .i64 M, .int .i64 s0, hr, kd, .int .i64 e0, i0, i1, i2, i3, i4, i5] 91 (0, 0))) (hb : BytesIn w p 4 c l) (hM : M ≤ 1048576) (S : Nat) (hSS : beVal (l.take 4) = S) (ho : l = [76, 83, 72, 82]) :
    Calls Try.prog 71 #[.pointer (some ⟨b, 0, none⟩)] w fun e w' => e = .returned (.tuple #[]) ∧ w'.heap[b]? = some (.cells #[.func nf nx1 nx2, .slice none 0 0, tk, at_, .int .i64 M, .int .i64 s0, hr, kd, .int .i64 60, i0, i1, i2, i3, i4, i5] 91 (0, 0)) ∧ w.grownBy w' (some b) := by
  have c1 : w.cell? ⟨b, 1, none⟩ = some (.slice p 4 c) := (cell_of_row _ _ 1 _ _ _ hs).trans rfl
  have hS := get_ok w p 4 c l hb 0 4 (by decide) (by decide) (by omega)
  rw [List.drop_zero, show ((4 : Nat) : Int) = 4 from rfl, show ((0 : Nat) : Int) = 0 from rfl] at hS
  have hll := hb.len
  have hSl : beVal (l.take 4) < 4294967296 := by
    have h0 := beVal_lt (l.take 4)
    have h2 : 256 ^ (l.take 4).length ≤ 256 ^ 4 := Nat.pow_le_pow_right (by omega) (by rw [List.length_take]; omega)
    omega
  rw [hSS] at hS hSl
  clear hSS
  have HS := Lib.hid hs
  have HBY := Lib.hid hb
  have hcap := hb.cap
  unfold maxLen at hcap
  have hmf : ∀ (fn : Fn) (first cap : Array Value) (w : World), (Instr.makeFunc fn first cap).run Try.prog w = .ok (.func fn first cap) w := fun _ _ _ _ => rfl
  have hHd := Header_ok w 0 (by decide)
  rw [show ((0 : Nat) : Int) = 0 from rfl] at hHd
  clear hs hb
  go_enter Try.func71, Try.ntmps71
  go_upto_region 1 with fail
  go_wp2_with fail
  refine hS.mono ?_
  rintro e w0 ⟨rfl, rfl⟩
  clear hS
  go_upto_region 2 with fail
  go_wp2_with fail
  refine hHd.mono ?_
  clear hHd
  rintro e w1 ⟨g, rfl, hg, hb1, hk⟩
  go_upto_region 5 with fail
  have s1 : w1.heap[b]? = some (.cells #[.func nf nx1 nx2, .slice p 4 c, tk, at_, .int .i64 M, .int .i64 s0, hr, kd, .int .i64 e0, i0, i1, i2, i3, i4, i5] 91 (0, 0)) := (hb1.block b (Array.getElem?_eq_some_iff.1 HS.out).1).trans HS.out
  have y1 := HBY.out.below hb1
  have c1' : w1.cell? ⟨b, 1, none⟩ = some (.slice p 4 c) := (cell_of_row _ _ 1 _ _ _ s1).trans rfl
  have hcv1 : ∀ m, (convert 22 9 (.slice p 4 c)).run Try.prog (w1.drewN m) = .ok (.string ⟨l.toArray⟩) (w1.drewN m) := fun m => run_string_bytes _ _ _ 5 Try.underlying22 Try.underlying5 Try.underlying9 _ _ _ _ (y1.below ⟨rfl, rfl, rfl, Nat.le_refl _, fun _ _ => rfl⟩)
  have hcv2 : ∀ m, (convert 22 9 (.slice (some ⟨g, 0, none⟩) 4 8)).run Try.prog (w1.drewN m) = .ok (.string ⟨((headL 0).take 4).toArray⟩) (w1.drewN m) := fun m => run_string_bytes _ _ _ 5 Try.underlying22 Try.underlying5 Try.underlying9 _ _ _ _ (by
    have := (hk.drewN m).bytes 0 4 8 (by simp [headL]) (by decide) (by decide)
    simpa using this)
  have s1m : ∀ m, (w1.drewN m).heap[b]? = some (.cells #[.func nf nx1 nx2, .slice p 4 c, tk, at_, .int .i64 M, .int .i64 s0, hr, kd, .int .i64 e0, i0, i1, i2, i3, i4, i5] 91 (0, 0)) := fun _ => s1
  have g1m : ∀ m, w.grownBy (w1.drewN m) (some b) := fun m => grown_trans (grown_below hb1) (grown_below (drewN_below w1 m))
  have S1 := Lib.hid s1m
  have G1 := Lib.hid g1m
  clear c1 s1 s1m g1m hb1 hk hg y1
  have ht : ((⟨l.toArray⟩ : ByteArray).toList == (⟨((headL 0).take 4).toArray⟩ : ByteArray).toList) = true := by
    rw [ByteArray.toList_eq, ByteArray.toList_eq]
    rw [ho]; rfl
  generalize (⟨l.toArray⟩ : ByteArray) = s1 at *
  generalize (⟨((headL 0).take 4).toArray⟩ : ByteArray) = s2 at *
  go_quiet (fail)
  have s2 := S1.out nq
  have g2 := G1.out nq
  have hfl := fail_any (w1.drewN nq) b _ _ _ _ _ _ _ _ _ _ _ _ _ _ _ 60 s2 ⟨_, _, _, rfl⟩ ⟨_, rfl⟩
  clear hcv1 hcv2 c1'
  have c4' : (w1.drewN nq).cell? ⟨b, 4, none⟩ = some (.int .i64 M) := (cell_of_row _ _ 4 _ _ _ s2).trans rfl
  generalize w1.drewN nq = w2 at *
  have G2 := Lib.hid g2
  clear s2 g2
  go_wp2_with fail
  refine hfl.mono ?_
  rintro e w3 ⟨rfl, hh, hg⟩
  have HH := Lib.hid hh
  have HG := Lib.hid (grown_trans G2.out hg)
  clear hfl hh hg
  go_wp2_with fail
  go_end0
  exact ⟨rfl, HH.out, HG.out⟩

set_option maxHeartbeats 1000000 in
theorem length_bad (w : World) (b : Nat) (tk at_ hr kd i0 i1 i2 i3 i4 i5 : Value) (nf : Fn) (nx1 nx2 : Array Value) (p : Option Addr) (c M : Nat) (s0 e0 : Int) (l : List UInt8) (hs : w.heap[b]? = some (.cells #[.func nf nx1 nx2, .slice p 4 c, tk, at_, .int .i64 M, .int .i64 s0, hr, kd, .int .i64 e0, i0, i1, i2, i3, i4, i5] 91 (0, 0))) (hb : BytesIn w p 4 c l) (hM : M ≤ 1048576) (S : Nat) (hSS : beVal (l.take 4) = S) (ho : l ≠ [76, 83, 72, 82]) (hx : S < 8 ∨ M < S) :
    Calls Try.prog 71 #[.pointer (some ⟨b, 0, none⟩)] w fun e w' => e = .returned (.tuple #[]) ∧ w'.heap[b]? = some (.cells #[.func nf nx1 nx2, .slice none 0 0, tk, at_, .int .i64 M, .int .i64 s0, hr, kd, .int .i64 51, i0, i1, i2, i3, i4, i5] 91 (0, 0)) ∧ w.grownBy w' (some b) := by
  have c1 : w.cell? ⟨b, 1, none⟩ = some (.slice p 4 c) := (cell_of_row _ _ 1 _ _ _ hs).trans rfl
  have hS := get_ok w p 4 c l hb 0 4 (by decide) (by decide) (by omega)
  rw [List.drop_zero, show ((4 : Nat) : Int) = 4 from rfl, show ((0 : Nat) : Int) = 0 from rfl] at hS
  have hll := hb.len
  have hSl : beVal (l.take 4) < 4294967296 := by
    have h0 := beVal_lt (l.take 4)
    have h2 : 256 ^ (l.take 4).length ≤ 256 ^ 4 := Nat.pow_le_pow_right (by omega) (by rw [List.length_take]; omega)
    omega
  rw [hSS] at hS hSl
  clear hSS
  have HS := Lib.hid hs
  have HBY := Lib.hid hb
  have hcap := hb.cap
  unfold maxLen at hcap
  have hmf : ∀ (fn : Fn) (first cap : Array Value) (w : World), (Instr.makeFunc fn first cap).run Try.prog w = .ok (.func fn first cap) w := fun _ _ _ _ => rfl
  have hHd := Header_ok w 0 (by decide)
  rw [show ((0 : Nat) : Int) = 0 from rfl] at hHd
  clear hs hb
  go_enter Try.func71, Try.ntmps71
  go_upto_region 1 with fail
  go_wp2_with fail
  refine hS.mono ?_
  rintro e w0 ⟨rfl, rfl⟩
  clear hS
  go_upto_region 2 with fail
  go_wp2_with fail
  refine hHd.mono ?_
  clear hHd
  rintro e w1 ⟨g, rfl, hg, hb1, hk⟩
  go_upto_region 5 with fail
  have s1 : w1.heap[b]? = some (.cells #[.func nf nx1 nx2, .slice p 4 c, tk, at_, .int .i64 M, .int .i64 s0, hr, kd, .int .i64 e0, i0, i1, i2, i3, i4, i5] 91 (0, 0)) := (hb1.block b (Array.getElem?_eq_some_iff.1 HS.out).1).trans HS.out
  have y1 := HBY.out.below hb1
  have c1' : w1.cell? ⟨b, 1, none⟩ = some (.slice p 4 c) := (cell_of_row _ _ 1 _ _ _ s1).trans rfl
  have hcv1 : ∀ m, (convert 22 9 (.slice p 4 c)).run Try.prog (w1.drewN m) = .ok (.string ⟨l.toArray⟩) (w1.drewN m) := fun m => run_string_bytes _ _ _ 5 Try.underlying22 Try.underlying5 Try.underlying9 _ _ _ _ (y1.below ⟨rfl, rfl, rfl, Nat.le_refl _, fun _ _ => rfl⟩)
  have hcv2 : ∀ m, (convert 22 9 (.slice (some ⟨g, 0, none⟩) 4 8)).run Try.prog (w1.drewN m) = .ok (.string ⟨((headL 0).take 4).toArray⟩) (w1.drewN m) := fun m => run_string_bytes _ _ _ 5 Try.underlying22 Try.underlying5 Try.underlying9 _ _ _ _ (by
    have := (hk.drewN m).bytes 0 4 8 (by simp [headL]) (by decide) (by decide)
    simpa using this)
  have s1m : ∀ m, (w1.drewN m).heap[b]? = some (.cells #[.func nf nx1 nx2, .slice p 4 c, tk, at_, .int .i64 M, .int .i64 s0, hr, kd, .int .i64 e0, i0, i1, i2, i3, i4, i5] 91 (0, 0)) := fun _ => s1
  have g1m : ∀ m, w.grownBy (w1.drewN m) (some b) := fun m => grown_trans (grown_below hb1) (grown_below (drewN_below w1 m))
  have S1 := Lib.hid s1m
  have G1 := Lib.hid g1m
  clear c1 s1 s1m g1m hb1 hk hg y1
  have hx' : (S : Int) < 8 ∨ (¬ (S : Int) < 8 ∧ (M : Int) < (S : Int)) := by omega
  clear hx
  have ht : ((⟨l.toArray⟩ : ByteArray).toList == (⟨((headL 0).take 4).toArray⟩ : ByteArray).toList) = false := by
    rw [ByteArray.toList_eq, ByteArray.toList_eq]
    simpa [headL] using ho
  generalize (⟨l.toArray⟩ : ByteArray) = s1 at *
  generalize (⟨((headL 0).take 4).toArray⟩ : ByteArray) = s2 at *
  go_quiet (fail)
  rcases hx' with hx1 | ⟨hx1, hx2⟩
  · skip
    have s2 := S1.out nq
    have g2 := G1.out nq
    have hfl := fail_any (w1.drewN nq) b _ _ _ _ _ _ _ _ _ _ _ _ _ _ _ 51 s2 ⟨_, _, _, rfl⟩ ⟨_, rfl⟩
    clear hcv1 hcv2 c1'
    have c4' : (w1.drewN nq).cell? ⟨b, 4, none⟩ = some (.int .i64 M) := (cell_of_row _ _ 4 _ _ _ s2).trans rfl
    generalize w1.drewN nq = w2 at *
    have G2 := Lib.hid g2
    clear s2 g2
    go_wp2_with fail
    refine hfl.mono ?_
    rintro e w3 ⟨rfl, hh, hg⟩
    have HH := Lib.hid hh
    have HG := Lib.hid (grown_trans G2.out hg)
    clear hfl hh hg
    go_wp2_with fail
    go_end0
    exact ⟨rfl, HH.out, HG.out⟩
  · skip
    have s2 := S1.out nq
    have g2 := G1.out nq
    have hfl := fail_any (w1.drewN nq) b _ _ _ _ _ _ _ _ _ _ _ _ _ _ _ 51 s2 ⟨_, _, _, rfl⟩ ⟨_, rfl⟩
    clear hcv1 hcv2 c1'
    have c4' : (w1.drewN nq).cell? ⟨b, 4, none⟩ = some (.int .i64 M) := (cell_of_row _ _ 4 _ _ _ s2).trans rfl
    generalize w1.drewN nq = w2 at *
    have G2 := Lib.hid g2
    clear s2 g2
    go_wp2_with fail
    refine hfl.mono ?_
    rintro e w3 ⟨rfl, hh, hg⟩
    have HH := Lib.hid hh
    have HG := Lib.hid (grown_trans G2.out hg)
    clear hfl hh hg
    go_wp2_with fail
    go_end0
    exact ⟨rfl, HH.out, HG.out⟩

set_option maxHeartbeats 1000000 in
theorem length_ok (w : World) (b : Nat) (tk at_ hr kd i0 i1 i2 i3 i4 i5 : Value) (nf : Fn) (nx1 nx2 : Array Value) (p : Option Addr) (c M : Nat) (s0 e0 : Int) (l : List UInt8) (hs : w.heap[b]? = some (.cells #[.func nf nx1 nx2, .slice p 4 c, tk, at_, .int .i64 M, .int .i64 s0, hr, kd, .int .i64 e0, i0, i1, i2, i3, i4, i5] 91 (0, 0))) (hb : BytesIn w p 4 c l) (hM : M ≤ 1048576) (S : Nat) (hSS : beVal (l.take 4) = S) (ho : l ≠ [76, 83, 72, 82]) (hx : 8 ≤ S ∧ S ≤ M) :
    Calls Try.prog 71 #[.pointer (some ⟨b, 0, none⟩)] w fun e w' => e = .returned (.tuple #[]) ∧ w'.heap[b]? = some (.cells #[nextF b 73, .slice p 4 c, tk, at_, .int .i64 M, .int .i64 S, hr, kd, .int .i64 e0, i0, i1, i2, i3, i4, i5] 91 (0, 0)) ∧ w.grownBy w' (some b) := by
  have c1 : w.cell? ⟨b, 1, none⟩ = some (.slice p 4 c) := (cell_of_row _ _ 1 _ _ _ hs).trans rfl
  have hS := get_ok w p 4 c l hb 0 4 (by decide) (by decide) (by omega)
  rw [List.drop_zero, show ((4 : Nat) : Int) = 4 from rfl, show ((0 : Nat) : Int) = 0 from rfl] at hS
  have hll := hb.len
  have hSl : beVal (l.take 4) < 4294967296 := by
    have h0 := beVal_lt (l.take 4)
    have h2 : 256 ^ (l.take 4).length ≤ 256 ^ 4 := Nat.pow_le_pow_right (by omega) (by rw [List.length_take]; omega)
    omega
  rw [hSS] at hS hSl
  clear hSS
  have HS := Lib.hid hs
  have HBY := Lib.hid hb
  have hcap := hb.cap
  unfold maxLen at hcap
  have hmf : ∀ (fn : Fn) (first cap : Array Value) (w : World), (Instr.makeFunc fn first cap).run Try.prog w = .ok (.func fn first cap) w := fun _ _ _ _ => rfl
  have hHd := Header_ok w 0 (by decide)
  rw [show ((0 : Nat) : Int) = 0 from rfl] at hHd
  clear hs hb
  go_enter Try.func71, Try.ntmps71
  go_upto_region 1 with fail
  go_wp2_with fail
  refine hS.mono ?_
  rintro e w0 ⟨rfl, rfl⟩
  clear hS
  go_upto_region 2 with fail
  go_wp2_with fail
  refine hHd.mono ?_
  clear hHd
  rintro e w1 ⟨g, rfl, hg, hb1, hk⟩
  go_upto_region 5 with fail
  have s1 : w1.heap[b]? = some (.cells #[.func nf nx1 nx2, .slice p 4 c, tk, at_, .int .i64 M, .int .i64 s0, hr, kd, .int .i64 e0, i0, i1, i2, i3, i4, i5] 91 (0, 0)) := (hb1.block b (Array.getElem?_eq_some_iff.1 HS.out).1).trans HS.out
  have y1 := HBY.out.below hb1
  have c1' : w1.cell? ⟨b, 1, none⟩ = some (.slice p 4 c) := (cell_of_row _ _ 1 _ _ _ s1).trans rfl
  have hcv1 : ∀ m, (convert 22 9 (.slice p 4 c)).run Try.prog (w1.drewN m) = .ok (.string ⟨l.toArray⟩) (w1.drewN m) := fun m => run_string_bytes _ _ _ 5 Try.underlying22 Try.underlying5 Try.underlying9 _ _ _ _ (y1.below ⟨rfl, rfl, rfl, Nat.le_refl _, fun _ _ => rfl⟩)
  have hcv2 : ∀ m, (convert 22 9 (.slice (some ⟨g, 0, none⟩) 4 8)).run Try.prog (w1.drewN m) = .ok (.string ⟨((headL 0).take 4).toArray⟩) (w1.drewN m) := fun m => run_string_bytes _ _ _ 5 Try.underlying22 Try.underlying5 Try.underlying9 _ _ _ _ (by
    have := (hk.drewN m).bytes 0 4 8 (by simp [headL]) (by decide) (by decide)
    simpa using this)
  have s1m : ∀ m, (w1.drewN m).heap[b]? = some (.cells #[.func nf nx1 nx2, .slice p 4 c, tk, at_, .int .i64 M, .int .i64 s0, hr, kd, .int .i64 e0, i0, i1, i2, i3, i4, i5] 91 (0, 0)) := fun _ => s1
  have g1m : ∀ m, w.grownBy (w1.drewN m) (some b) := fun m => grown_trans (grown_below hb1) (grown_below (drewN_below w1 m))
  have S1 := Lib.hid s1m
  have G1 := Lib.hid g1m
  clear c1 s1 s1m g1m hb1 hk hg y1
  have hx1 : ¬ (S : Int) < 8 := by omega
  have hx2 : ¬ (M : Int) < (S : Int) := by omega
  clear hx
  have ht : ((⟨l.toArray⟩ : ByteArray).toList == (⟨((headL 0).take 4).toArray⟩ : ByteArray).toList) = false := by
    rw [ByteArray.toList_eq, ByteArray.toList_eq]
    simpa [headL] using ho
  generalize (⟨l.toArray⟩ : ByteArray) = s1 at *
  generalize (⟨((headL 0).take 4).toArray⟩ : ByteArray) = s2 at *
  go_quiet (fail)
  have s2 := S1.out nq
  have g2 := G1.out nq
  clear hcv1 hcv2 c1'
  have c4' : (w1.drewN nq).cell? ⟨b, 4, none⟩ = some (.int .i64 M) := (cell_of_row _ _ 4 _ _ _ s2).trans rfl
  generalize w1.drewN nq = w2 at *
  have c5 : w2.cell? ⟨b, 5, none⟩ = some (.int .i64 s0) := (cell_of_row _ _ 5 _ _ _ s2).trans rfl
  have fz : ∀ k, w2.frozen? ⟨b, k, none⟩ = false := fun k => by simp [World.frozen?, s2]
  have S2 := Lib.hid s2
  have G2 := Lib.hid g2
  clear s2 g2
  go_upto_region 4 with fail
  have s3 := heap_setCell_same _ b 5 _ _ (.int .i64 S) S2.out
  have g3 := grown_trans G2.out (setCell_grown w2 b 5 (.int .i64 S))
  simp only [List.setIfInBounds_toArray, List.set] at s3
  generalize (w2.setCell ⟨b, 5, none⟩ (.int .i64 S)) = w3 at *
  clear c4' c5 fz S2 G2
  have m0 : w3.cell? ⟨b, 0, none⟩ = some (.func nf nx1 nx2) := (cell_of_row _ _ 0 _ _ _ s3).trans rfl
  have fz : ∀ k, w3.frozen? ⟨b, k, none⟩ = false := fun k => by simp [World.frozen?, s3]
  have s5 := heap_setCell_same _ b 0 _ _ (nextF b 73) s3
  have HF := Lib.hid (And.intro s5 (grown_trans g3 (setCell_grown w3 b 0 (nextF b 73))))
  clear s3 s5 g3
  go_wp2_with fail
  go_end0
  exact ⟨rfl, HF.out.1, HF.out.2⟩
end Go.Proofs.Ytofdpccjpodbhaa
