/-
  A link's calls: credit and counts. Conditions: the link lies in memory.
-/
import Derived.Test.YtcbjfakkikjbkaaKf
import Derived.Test.YtcbjfakkikjbkaaKg
import Derived.Laws.Tables
import Derived.BigQuiet
namespace Go.Proofs.Ytcbjfakkikjbkaa
open Go.RowKit Go.Maps
set_option linter.all false

theorem before_any (a b : Int) (w : World) (ha : IsI64 a) (hb : IsI64 b) :
    Calls Try.prog 34 #[.int .i64 a, .int .i64 b] w fun e w' => e = .returned (.bool (decide (0 < gapS a b))) ∧ w = w' := by
  have hg := gap_any a b w ha hb
  go_enter Try.func34, Try.ntmps34
  go_wp2_with fail
  refine hg.mono ?_
  rintro e w1 ⟨rfl, rfl⟩
  go_wp2_with fail
  go_ret
  exact ⟨rfl, rfl⟩

theorem Lk.goes_ok {l : Lk} (h : l.Ok) {n : Int} (hn : 0 ≤ n) : (l.goes n).Ok :=
  ⟨h.name, h.snd, h.rcv, h.ini, h.mx, addS_word _ _, ⟨by show 0 ≤ max 0 (l.credit - n); omega, by show max 0 (l.credit - n) ≤ _; have := h.credit; omega⟩, h.bound, h.wait, h.ent⟩

/-- one of the link's own cells turns -/
theorem LkIn.set1 {w : World} {q m : Nat} {G : Nat → Prop} {l l' : Lk} (h : LkIn w q m G l) (i : Nat) (v : Value) (e : (l.cells m).setIfInBounds i v = l'.cells m) (ha : l'.all = l.all) (hok : l'.Ok) : LkIn (w.setCell ⟨q, i, none⟩ v) q m G l' :=
  h.turn (by rw [heap_setCell_same w q i _ _ v h.row, e]) ha hok (LMv.set i v) (set_farV (fun e => h.ne e.symm))

set_option maxRecDepth 20000 in
set_option maxHeartbeats 4000000 in
theorem goes_any (w : World) (q m : Nat) (G : Nat → Prop) (l : Lk) (n : Int) (h : LkIn w q m G l) (hn : 0 ≤ n ∧ n ≤ 4294967296) :
    Calls Try.prog 36 #[.pointer (some ⟨q, 0, none⟩), .int .i64 n] w fun e w' => e = .returned (.tuple #[]) ∧ LkIn w' q m G (l.goes n) ∧ LMv q m w w' := by
  have c6 : w.cell? ⟨q, 6, none⟩ = some (.int .i64 l.count) := h.cs 6 _ rfl
  have ha := add_any l.count n w h.ok.count.i64 ⟨by omega, by omega⟩
  have hc := h.ok.credit
  have z6 := h.fz 6
  have z7 := h.fz 7
  have z10 := h.fz 10
  have H := Lib.hid h
  have HN := Lib.hid hn
  clear h
  obtain ⟨hn1, hn2⟩ := hn
  obtain ⟨hc1, hc2⟩ := hc
  go_enter Try.func36, Try.ntmps36
  go_wp2_with fail
  refine ha.mono ?_
  clear ha
  rintro e w1 ⟨rfl, rfl⟩
  have c1 : w.cell? ⟨q, 1, none⟩ = some (.bool l.rc) := H.out.cs 1 _ rfl
  have c7 : w.cell? ⟨q, 7, none⟩ = some (.int .i64 l.credit) := H.out.cs 7 _ rfl
  have c10 : w.cell? ⟨q, 10, none⟩ = some (.bool l.drain) := H.out.cs 10 _ rfl
  have h1 := H.out.set1 (l' := { l with count := addS l.count n }) 6 (.int .i64 (addS l.count n)) rfl rfl (by have o := H.out.ok; exact ⟨o.name, o.snd, o.rcv, o.ini, o.mx, addS_word _ _, o.credit, o.bound, o.wait, o.ent⟩)
  have hok := Lk.goes_ok H.out.ok hn1
  have H1 := Lib.hid h1
  have HOK := Lib.hid hok
  clear h1 hok
  by_cases hlt : n < l.credit
  · have hz : (l.credit - n == 0) = false := by simpa using (show l.credit - n ≠ 0 by omega)
    have hz2 : ((if n < l.credit then l.credit - n else 0) == 0) = false := by rw [if_pos hlt]; exact hz
    have hm : max 0 (l.credit - n) = l.credit - n := by omega
    have HM := Lib.hid hm
    have hd : (l.goes n) = { l with count := addS l.count n, credit := l.credit - n } := by
      unfold Lk.goes; rw [hm, if_neg (by omega)]
    have h2 := H1.out.set1 (l' := { l with count := addS l.count n, credit := l.credit - n }) 7 (.int .i64 (l.credit - n)) rfl rfl (by have o := HOK.out; rw [hd] at o; exact o)
    have HD := Lib.hid hd
    have H2 := Lib.hid h2
    clear h2 hd hm
    cases hrc : l.rc
    all_goals
      rw [hrc] at c1
      go_wp2_with fail
      go_end0
      rw [HD.out]
      exact ⟨rfl, H2.out, (LMv.set 6 _).cell⟩
  · have hm : max 0 (l.credit - n) = 0 := by omega
    cases hrc : l.rc
    · rw [hrc] at c1
      have hd : (l.goes n) = { l with count := addS l.count n, credit := 0 } := by
        unfold Lk.goes; rw [hm, if_neg (by rw [hrc]; simp)]
      have h2 := H1.out.set1 (l' := { l with count := addS l.count n, credit := 0 }) 7 (.int .i64 0) rfl rfl (by have o := HOK.out; rw [hd] at o; exact o)
      have HD := Lib.hid hd
      have H2 := Lib.hid h2
      clear h2 hd hm
      go_wp2_with fail
      go_end0
      rw [HD.out]
      exact ⟨rfl, H2.out, (LMv.set 6 _).cell⟩
    · rw [hrc] at c1
      have hd : (l.goes n) = { l with count := addS l.count n, credit := 0, drain := false } := by
        unfold Lk.goes; rw [hm, if_pos ⟨hrc, rfl⟩]
      have h2 := H1.out.set1 (l' := { l with count := addS l.count n, credit := 0 }) 7 (.int .i64 0) rfl rfl (by have o := HOK.out; rw [hd] at o; exact ⟨o.name, o.snd, o.rcv, o.ini, o.mx, o.count, o.credit, o.bound, o.wait, o.ent⟩)
      have h3 := h2.set1 (l' := { l with count := addS l.count n, credit := 0, drain := false }) 10 (.bool false) rfl rfl (by have o := HOK.out; rw [hd] at o; exact o)
      have HD := Lib.hid hd
      have H3 := Lib.hid h3
      clear h2 h3 hd hm
      go_wp2_with fail
      go_end0
      rw [HD.out]
      exact ⟨rfl, H3.out, ((LMv.set 6 _).cell).cell⟩
end Go.Proofs.Ytcbjfakkikjbkaa
