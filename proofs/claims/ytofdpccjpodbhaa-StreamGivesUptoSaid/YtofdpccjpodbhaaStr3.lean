/-
  The stream's offset and sort. Conditions: the stream lies in a block of its own, what it holds in memory.
-/
import Derived.Test.YtofdpccjpodbhaaStr2
namespace Go.Proofs.Ytofdpccjpodbhaa
open Go.RowKit
set_option linter.unusedVariables false

theorem offset_bad (w : World) (b : Nat) (tk at_ mo hr i0 i1 i2 i3 i4 i5 : Value) (nf : Fn) (nx1 nx2 : Array Value) (p : Option Addr) (n c s : Nat) (k0 e0 : Int) (l : List UInt8) (hs : w.heap[b]? = some (.cells #[.func nf nx1 nx2, .slice p n c, tk, at_, mo, .int .i64 s, hr, .int .i64 k0, .int .i64 e0, i0, i1, i2, i3, i4, i5] 91 (0, 0))) (hb : BytesIn w p n c l) (hn : 4 < n) (h : (l.getD 4 0).toNat < 2 ∨ s < 4 * (l.getD 4 0).toNat) :
    Calls Try.prog 73 #[.pointer (some ⟨b, 0, none⟩)] w fun e w' => e = .returned (.tuple #[]) ∧ w'.heap[b]? = some (.cells #[.func nf nx1 nx2, .slice none 0 0, tk, at_, mo, .int .i64 s, hr, .int .i64 k0, .int .i64 52, i0, i1, i2, i3, i4, i5] 91 (0, 0)) ∧ w.grownBy w' (some b) := by
  have hcap := hb.cap
  have hle := hb.le
  unfold maxLen at hcap
  obtain ⟨g, o, rfl, hgl, hcell⟩ := hb.at_ (by omega)
  have hc4 := hcell 4 (by omega)
  have hy8 := (l.getD 4 0).toNat_lt
  obtain ⟨y, hy⟩ : ∃ y, (l.getD 4 0).toNat = y := ⟨_, rfl⟩
  rw [hy] at hc4 hy8 h
  clear hy hcell hb
  have c1 : w.cell? ⟨b, 1, none⟩ = some (.slice (some ⟨g, o, none⟩) n c) := (cell_of_row _ _ 1 _ _ _ hs).trans rfl
  have c5 : w.cell? ⟨b, 5, none⟩ = some (.int .i64 s) := (cell_of_row _ _ 5 _ _ _ hs).trans rfl
  have c7 : w.cell? ⟨b, 7, none⟩ = some (.int .i64 k0) := (cell_of_row _ _ 7 _ _ _ hs).trans rfl
  have HS := Lib.hid hs
  have hmf : ∀ (fn : Fn) (first cap : Array Value) (w : World), (Instr.makeFunc fn first cap).run Try.prog w = .ok (.func fn first cap) w := fun _ _ _ _ => rfl
  clear hs
  go_enter Try.func73, Try.ntmps73
  have hcase : (y : Int) < 2 ∨ (¬ (y : Int) < 2 ∧ (s : Int) < 4 * (y : Int)) := by omega
  clear h
  rcases hcase with h1 | ⟨h1, h2⟩
  · skip
    have hfl := fail_any w b _ _ _ _ _ _ _ _ _ _ _ _ _ _ _ 52 HS.out ⟨_, _, _, rfl⟩ ⟨_, rfl⟩
    go_wp2_with fail
    refine hfl.mono ?_
    rintro e w2 ⟨rfl, hh, hg⟩
    have HH := Lib.hid hh
    have HG := Lib.hid hg
    clear hfl hh hg
    go_wp2_with fail
    refine bodyPost_ret (v := .tuple #[]) (results_none (by kernel_rfl) _ _ _) rfl ?_
    exact ⟨rfl, HH.out, HG.out⟩
  · skip
    have hfl := fail_any w b _ _ _ _ _ _ _ _ _ _ _ _ _ _ _ 52 HS.out ⟨_, _, _, rfl⟩ ⟨_, rfl⟩
    go_wp2_with fail
    refine hfl.mono ?_
    rintro e w2 ⟨rfl, hh, hg⟩
    have HH := Lib.hid hh
    have HG := Lib.hid hg
    clear hfl hh hg
    go_wp2_with fail
    refine bodyPost_ret (v := .tuple #[]) (results_none (by kernel_rfl) _ _ _) rfl ?_
    exact ⟨rfl, HH.out, HG.out⟩

theorem offset_ok (w : World) (b : Nat) (tk at_ mo hr i0 i1 i2 i3 i4 i5 : Value) (nf : Fn) (nx1 nx2 : Array Value) (p : Option Addr) (n c s : Nat) (k0 e0 : Int) (l : List UInt8) (hs : w.heap[b]? = some (.cells #[.func nf nx1 nx2, .slice p n c, tk, at_, mo, .int .i64 s, hr, .int .i64 k0, .int .i64 e0, i0, i1, i2, i3, i4, i5] 91 (0, 0))) (hb : BytesIn w p n c l) (hn : 4 < n) (h : ¬ ((l.getD 4 0).toNat < 2 ∨ s < 4 * (l.getD 4 0).toNat)) :
    Calls Try.prog 73 #[.pointer (some ⟨b, 0, none⟩)] w fun e w' => e = .returned (.tuple #[]) ∧ w'.heap[b]? = some (.cells #[nextF b 76, .slice p n c, tk, at_, mo, .int .i64 s, hr, .int .i64 k0, .int .i64 e0, i0, i1, i2, i3, i4, i5] 91 (0, 0)) ∧ w.grownBy w' (some b) := by
  have hcap := hb.cap
  have hle := hb.le
  unfold maxLen at hcap
  obtain ⟨g, o, rfl, hgl, hcell⟩ := hb.at_ (by omega)
  have hc4 := hcell 4 (by omega)
  have hy8 := (l.getD 4 0).toNat_lt
  obtain ⟨y, hy⟩ : ∃ y, (l.getD 4 0).toNat = y := ⟨_, rfl⟩
  rw [hy] at hc4 hy8 h
  clear hy hcell hb
  have c1 : w.cell? ⟨b, 1, none⟩ = some (.slice (some ⟨g, o, none⟩) n c) := (cell_of_row _ _ 1 _ _ _ hs).trans rfl
  have c5 : w.cell? ⟨b, 5, none⟩ = some (.int .i64 s) := (cell_of_row _ _ 5 _ _ _ hs).trans rfl
  have c7 : w.cell? ⟨b, 7, none⟩ = some (.int .i64 k0) := (cell_of_row _ _ 7 _ _ _ hs).trans rfl
  have HS := Lib.hid hs
  have hmf : ∀ (fn : Fn) (first cap : Array Value) (w : World), (Instr.makeFunc fn first cap).run Try.prog w = .ok (.func fn first cap) w := fun _ _ _ _ => rfl
  clear hs
  go_enter Try.func73, Try.ntmps73
  have h1 : ¬ (y : Int) < 2 := by omega
  have h2 : ¬ (s : Int) < 4 * (y : Int) := by omega
  clear h
  have m0 : w.cell? ⟨b, 0, none⟩ = some (.func nf nx1 nx2) := (cell_of_row _ _ 0 _ _ _ HS.out).trans rfl
  have fz : ∀ k, w.frozen? ⟨b, k, none⟩ = false := fun k => by simp [World.frozen?, HS.out]
  have s5 := heap_setCell_same _ b 0 _ _ (nextF b 76) HS.out
  have HF := Lib.hid (And.intro s5 (setCell_grown w b 0 (nextF b 76)))
  clear s5
  go_wp2_with fail
  go_end0
  exact ⟨rfl, HF.out.1, HF.out.2⟩

theorem sort_type (w : World) (b : Nat) (tk at_ mo hr i0 i1 i2 i3 i4 i5 : Value) (nf : Fn) (nx1 nx2 : Array Value) (p : Option Addr) (n c s : Nat) (k0 e0 : Int) (l : List UInt8) (hs : w.heap[b]? = some (.cells #[.func nf nx1 nx2, .slice p n c, tk, at_, mo, .int .i64 s, hr, .int .i64 k0, .int .i64 e0, i0, i1, i2, i3, i4, i5] 91 (0, 0))) (hb : BytesIn w p n c l) (hn : 5 < n) (h : 1 < (l.getD 5 0).toNat) :
    Calls Try.prog 76 #[.pointer (some ⟨b, 0, none⟩)] w fun e w' => e = .returned (.tuple #[]) ∧ w'.heap[b]? = some (.cells #[.func nf nx1 nx2, .slice none 0 0, tk, at_, mo, .int .i64 s, hr, .int .i64 k0, .int .i64 53, i0, i1, i2, i3, i4, i5] 91 (0, 0)) ∧ w.grownBy w' (some b) := by
  have hcap := hb.cap
  have hle := hb.le
  unfold maxLen at hcap
  obtain ⟨g, o, rfl, hgl, hcell⟩ := hb.at_ (by omega)
  have hc4 := hcell 5 (by omega)
  have hy8 := (l.getD 5 0).toNat_lt
  obtain ⟨y, hy⟩ : ∃ y, (l.getD 5 0).toNat = y := ⟨_, rfl⟩
  rw [hy] at hc4 hy8 h
  clear hy hcell hb
  have c1 : w.cell? ⟨b, 1, none⟩ = some (.slice (some ⟨g, o, none⟩) n c) := (cell_of_row _ _ 1 _ _ _ hs).trans rfl
  have c5 : w.cell? ⟨b, 5, none⟩ = some (.int .i64 s) := (cell_of_row _ _ 5 _ _ _ hs).trans rfl
  have c7 : w.cell? ⟨b, 7, none⟩ = some (.int .i64 k0) := (cell_of_row _ _ 7 _ _ _ hs).trans rfl
  have HS := Lib.hid hs
  have hmf : ∀ (fn : Fn) (first cap : Array Value) (w : World), (Instr.makeFunc fn first cap).run Try.prog w = .ok (.func fn first cap) w := fun _ _ _ _ => rfl
  clear hs
  go_enter Try.func76, Try.ntmps76
  have h1 : ((y : Int) != 0) = true := by simp; omega
  have h2 : ((y : Int) != 1) = true := by simp; omega
  clear h
  have hfl := fail_any w b _ _ _ _ _ _ _ _ _ _ _ _ _ _ _ 53 HS.out ⟨_, _, _, rfl⟩ ⟨_, rfl⟩
  go_wp2_with fail
  refine hfl.mono ?_
  rintro e w2 ⟨rfl, hh, hg⟩
  have HH := Lib.hid hh
  have HG := Lib.hid hg
  clear hfl hh hg
  go_wp2_with fail
  go_end0
  exact ⟨rfl, HH.out, HG.out⟩

theorem sort_order (w : World) (b : Nat) (tk at_ mo hr i0 i1 i2 i3 i4 i5 : Value) (nf : Fn) (nx1 nx2 : Array Value) (p : Option Addr) (n c s : Nat) (k0 e0 : Int) (l : List UInt8) (hs : w.heap[b]? = some (.cells #[.func nf nx1 nx2, .slice p n c, tk, at_, mo, .int .i64 s, hr, .int .i64 k0, .int .i64 e0, i0, i1, i2, i3, i4, i5] 91 (0, 0))) (hb : BytesIn w p n c l) (hn : 5 < n) (h : ¬ 1 < (l.getD 5 0).toNat ∧ ((l.getD 5 0).toNat : Int) ≠ k0) :
    Calls Try.prog 76 #[.pointer (some ⟨b, 0, none⟩)] w fun e w' => e = .returned (.tuple #[]) ∧ w'.heap[b]? = some (.cells #[.func nf nx1 nx2, .slice none 0 0, tk, at_, mo, .int .i64 s, hr, .int .i64 k0, .int .i64 60, i0, i1, i2, i3, i4, i5] 91 (0, 0)) ∧ w.grownBy w' (some b) := by
  have hcap := hb.cap
  have hle := hb.le
  unfold maxLen at hcap
  obtain ⟨g, o, rfl, hgl, hcell⟩ := hb.at_ (by omega)
  have hc4 := hcell 5 (by omega)
  have hy8 := (l.getD 5 0).toNat_lt
  obtain ⟨y, hy⟩ : ∃ y, (l.getD 5 0).toNat = y := ⟨_, rfl⟩
  rw [hy] at hc4 hy8 h
  clear hy hcell hb
  have c1 : w.cell? ⟨b, 1, none⟩ = some (.slice (some ⟨g, o, none⟩) n c) := (cell_of_row _ _ 1 _ _ _ hs).trans rfl
  have c5 : w.cell? ⟨b, 5, none⟩ = some (.int .i64 s) := (cell_of_row _ _ 5 _ _ _ hs).trans rfl
  have c7 : w.cell? ⟨b, 7, none⟩ = some (.int .i64 k0) := (cell_of_row _ _ 7 _ _ _ hs).trans rfl
  have HS := Lib.hid hs
  have hmf : ∀ (fn : Fn) (first cap : Array Value) (w : World), (Instr.makeFunc fn first cap).run Try.prog w = .ok (.func fn first cap) w := fun _ _ _ _ => rfl
  clear hs
  go_enter Try.func76, Try.ntmps76
  have h3 : ((y : Int) != k0) = true := by simpa using h.2
  have hcase : ((y : Int) != 0) = false ∨ (((y : Int) != 0) = true ∧ ((y : Int) != 1) = false) := by
    by_cases h0 : y = 0
    · exact .inl (by simp [h0])
    · exact .inr ⟨by simp; omega, by simp; omega⟩
  clear h
  rcases hcase with h1 | ⟨h1, h2⟩
  · skip
    have hfl := fail_any w b _ _ _ _ _ _ _ _ _ _ _ _ _ _ _ 60 HS.out ⟨_, _, _, rfl⟩ ⟨_, rfl⟩
    go_wp2_with fail
    refine hfl.mono ?_
    rintro e w2 ⟨rfl, hh, hg⟩
    have HH := Lib.hid hh
    have HG := Lib.hid hg
    clear hfl hh hg
    go_wp2_with fail
    go_end0
    exact ⟨rfl, HH.out, HG.out⟩
  · skip
    have hfl := fail_any w b _ _ _ _ _ _ _ _ _ _ _ _ _ _ _ 60 HS.out ⟨_, _, _, rfl⟩ ⟨_, rfl⟩
    go_wp2_with fail
    refine hfl.mono ?_
    rintro e w2 ⟨rfl, hh, hg⟩
    have HH := Lib.hid hh
    have HG := Lib.hid hg
    clear hfl hh hg
    go_wp2_with fail
    go_end0
    exact ⟨rfl, HH.out, HG.out⟩

theorem sort_ok (w : World) (b : Nat) (tk at_ mo hr i0 i1 i2 i3 i4 i5 : Value) (nf : Fn) (nx1 nx2 : Array Value) (p : Option Addr) (n c s : Nat) (k0 e0 : Int) (l : List UInt8) (hs : w.heap[b]? = some (.cells #[.func nf nx1 nx2, .slice p n c, tk, at_, mo, .int .i64 s, hr, .int .i64 k0, .int .i64 e0, i0, i1, i2, i3, i4, i5] 91 (0, 0))) (hb : BytesIn w p n c l) (hn : 5 < n) (h : ¬ 1 < (l.getD 5 0).toNat ∧ ((l.getD 5 0).toNat : Int) = k0) :
    Calls Try.prog 76 #[.pointer (some ⟨b, 0, none⟩)] w fun e w' => e = .returned (.tuple #[]) ∧ w'.heap[b]? = some (.cells #[nextF b 78, .slice p n c, tk, at_, mo, .int .i64 s, hr, .int .i64 k0, .int .i64 e0, i0, i1, i2, i3, i4, i5] 91 (0, 0)) ∧ w.grownBy w' (some b) := by
  have hcap := hb.cap
  have hle := hb.le
  unfold maxLen at hcap
  obtain ⟨g, o, rfl, hgl, hcell⟩ := hb.at_ (by omega)
  have hc4 := hcell 5 (by omega)
  have hy8 := (l.getD 5 0).toNat_lt
  obtain ⟨y, hy⟩ : ∃ y, (l.getD 5 0).toNat = y := ⟨_, rfl⟩
  rw [hy] at hc4 hy8 h
  clear hy hcell hb
  have c1 : w.cell? ⟨b, 1, none⟩ = some (.slice (some ⟨g, o, none⟩) n c) := (cell_of_row _ _ 1 _ _ _ hs).trans rfl
  have c5 : w.cell? ⟨b, 5, none⟩ = some (.int .i64 s) := (cell_of_row _ _ 5 _ _ _ hs).trans rfl
  have c7 : w.cell? ⟨b, 7, none⟩ = some (.int .i64 k0) := (cell_of_row _ _ 7 _ _ _ hs).trans rfl
  have HS := Lib.hid hs
  have hmf : ∀ (fn : Fn) (first cap : Array Value) (w : World), (Instr.makeFunc fn first cap).run Try.prog w = .ok (.func fn first cap) w := fun _ _ _ _ => rfl
  clear hs
  go_enter Try.func76, Try.ntmps76
  have h3 : ((y : Int) != k0) = false := by simpa using h.2
  have hcase : ((y : Int) != 0) = false ∨ (((y : Int) != 0) = true ∧ ((y : Int) != 1) = false) := by
    by_cases h0 : y = 0
    · exact .inl (by simp [h0])
    · exact .inr ⟨by simp; omega, by simp; omega⟩
  clear h
  rcases hcase with h1 | ⟨h1, h2⟩
  · skip
    have m0 : w.cell? ⟨b, 0, none⟩ = some (.func nf nx1 nx2) := (cell_of_row _ _ 0 _ _ _ HS.out).trans rfl
    have fz : ∀ k, w.frozen? ⟨b, k, none⟩ = false := fun k => by simp [World.frozen?, HS.out]
    have s5 := heap_setCell_same _ b 0 _ _ (nextF b 78) HS.out
    have HF := Lib.hid (And.intro s5 (setCell_grown w b 0 (nextF b 78)))
    clear s5
    go_wp2_with fail
    go_end0
    exact ⟨rfl, HF.out.1, HF.out.2⟩
  · skip
    have m0 : w.cell? ⟨b, 0, none⟩ = some (.func nf nx1 nx2) := (cell_of_row _ _ 0 _ _ _ HS.out).trans rfl
    have fz : ∀ k, w.frozen? ⟨b, k, none⟩ = false := fun k => by simp [World.frozen?, HS.out]
    have s5 := heap_setCell_same _ b 0 _ _ (nextF b 78) HS.out
    have HF := Lib.hid (And.intro s5 (setCell_grown w b 0 (nextF b 78)))
    clear s5
    go_wp2_with fail
    go_end0
    exact ⟨rfl, HF.out.1, HF.out.2⟩
end Go.Proofs.Ytofdpccjpodbhaa
