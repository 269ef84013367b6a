/-
  A session in memory. Plain lemmas; the contracts of word, begins, four, newTable. No conditions.
-/
import Derived.Test.YtbkimebmoafbnaaSsM
import Derived.Test.YtbkimebmoafbnaaSsP
namespace Go.Proofs.Ytbkimebmoafbnaa
open Go.RowKit Go.Maps
set_option linter.unusedVariables false

/-- a delivery that is not settled -/
structure Pnd where
  id : Int
  h : Int
  tag : ByteArray

def Pnd.val (p : Pnd) : Value := .agg #[.int .i64 p.id, .int .i64 p.h, .string p.tag]
def pend (l : List Pnd) : List (Int × Value) := l.map fun p => (p.id, p.val)
def rems (l : List (Int × Int)) : List (Int × Value) := l.map fun p => (p.1, .int .i64 p.2)

/-- how a session stands -/
structure SS where
  first : Int
  peer : Bool
  no : Int
  ow : Int
  ni : Int
  iw : Int
  ri : Int
  ro : Int
  nd : Int
  hm : Int
  rh : Int
  rem : List (Int × Int)
  snd : List Pnd
  arr : List Pnd

def Word (n : Int) : Prop := 0 ≤ n ∧ n ≤ 4294967295
instance (n : Int) : Decidable (Word n) := inferInstanceAs (Decidable (0 ≤ n ∧ n ≤ 4294967295))

theorem word0 : Word 0 := by decide

structure SS.ok (s : SS) : Prop where
  first : Word s.first
  no : Word s.no
  ow : Word s.ow
  ni : Word s.ni
  iw : Word s.iw
  ri : 0 ≤ s.ri ∧ s.ri ≤ 2147483647
  ro : Word s.ro
  nd : Word s.nd
  hm : Word s.hm
  rh : Word s.rh

def SS.new (no iw ow hm : Int) : SS := ⟨no, false, no, ow, 0, iw, 0, 0, 0, hm, 0, [], [], []⟩
theorem SS.new_ok {no iw ow hm : Int} (h1 : Word no) (h2 : Word iw) (h3 : Word ow) (h4 : Word hm) : (SS.new no iw ow hm).ok := ⟨h1, h1, h3, word0, h2, ⟨Int.le_refl 0, by show (0 : Int) ≤ 2147483647; decide⟩, word0, word0, h4, word0⟩

/-- where a session lies -/
structure SK where
  b : Nat
  tS : Nat
  tA : Nat
  mR : Nat
  mS : Nat
  mA : Nat
  B : Nat

def SK.has (K : SK) (j : Nat) : Prop := j = K.b ∨ j = K.tS ∨ j = K.tA ∨ j = K.mR ∨ j = K.mS ∨ j = K.mA

def SS.cells (s : SS) (K : SK) : Array Value := #[.int .i64 s.first, .bool s.peer, .int .i64 s.no, .int .i64 s.ow, .int .i64 s.ni, .int .i64 s.iw, .int .i64 s.ri, .int .i64 s.ro, .int .i64 s.nd, .int .i64 0, .int .i64 0, .int .i64 s.hm, .int .i64 s.rh, .map (some K.mR), .pointer (some ⟨K.tS, 0, none⟩), .pointer (some ⟨K.tA, 0, none⟩)]

structure SesIn (w : World) (K : SK) (s : SS) : Prop where
  row : w.heap[K.b]? = some (.cells (s.cells K) 85 (0, 0))
  rowS : w.heap[K.tS]? = some (.cells #[.map (some K.mS)] 92 (0, 0))
  rowA : w.heap[K.tA]? = some (.cells #[.map (some K.mA)] 92 (0, 0))
  rem : MapOf w K.mR (rems s.rem)
  snd : MapOf w K.mS (pend s.snd)
  arr : MapOf w K.mA (pend s.arr)
  lo : ∀ j, K.has j → K.B ≤ j
  ne : K.tS ≠ K.tA ∧ K.mR ≠ K.mS ∧ K.mR ≠ K.mA ∧ K.mS ≠ K.mA
  ok : s.ok

theorem SesIn.lt {w : World} {K : SK} {s : SS} (h : SesIn w K s) : ∀ j, K.has j → j < w.heap.size := by
  rintro j (rfl | rfl | rfl | rfl | rfl | rfl)
  · exact (Array.getElem?_eq_some_iff.1 h.row).1
  · exact (Array.getElem?_eq_some_iff.1 h.rowS).1
  · exact (Array.getElem?_eq_some_iff.1 h.rowA).1
  · exact h.rem.lt
  · exact h.snd.lt
  · exact h.arr.lt

theorem SesIn.keep {w w' : World} {K : SK} {s : SS} (h : SesIn w K s) (e : ∀ j, K.has j → w'.heap[j]? = w.heap[j]?) : SesIn w' K s :=
  ⟨(e _ (.inl rfl)).trans h.row, (e _ (.inr (.inl rfl))).trans h.rowS, (e _ (.inr (.inr (.inl rfl)))).trans h.rowA, h.rem.same (e _ (.inr (.inr (.inr (.inl rfl))))), h.snd.same (e _ (.inr (.inr (.inr (.inr (.inl rfl)))))), h.arr.same (e _ (.inr (.inr (.inr (.inr (.inr rfl)))))), h.lo, h.ne, h.ok⟩

theorem SesIn.below {w w' : World} {K : SK} {s : SS} (h : SesIn w K s) (hb : Below w.heap.size w w') : SesIn w' K s := h.keep (fun j hj => hb.block j (h.lt j hj))

/-- a move of a session -/
structure SMv (K : SK) (w w' : World) : Prop where
  os : w'.os = w.os
  tape : w'.tape = w.tape
  output : w'.output = w.output
  size : w.heap.size ≤ w'.heap.size
  block : ∀ j, j < w.heap.size → ¬ K.has j → w'.heap[j]? = w.heap[j]?

theorem SMv.refl (K : SK) (w : World) : SMv K w w := ⟨rfl, rfl, rfl, Nat.le_refl _, fun _ _ _ => rfl⟩
theorem SMv.trans {K : SK} {w w1 w2 : World} (h : SMv K w w1) (k : SMv K w1 w2) : SMv K w w2 :=
  ⟨k.os.trans h.os, k.tape.trans h.tape, k.output.trans h.output, Nat.le_trans h.size k.size, fun j hj hn => (k.block j (Nat.lt_of_lt_of_le hj h.size) hn).trans (h.block j hj hn)⟩
theorem SMv.of_below {K : SK} {w w' : World} (h : Below w.heap.size w w') : SMv K w w' := ⟨h.os, h.tape, h.output, h.size, fun j hj _ => h.block j hj⟩
theorem SMv.of_grown {K : SK} {w w' : World} {d : Nat} (h : w.grownBy w' (some d)) (hd : K.has d) : SMv K w w' := ⟨h.os, h.tape, h.output, h.size, fun j hj hn => h.block j hj (fun e => hn (by cases e; exact hd))⟩
theorem SMv.below {K : SK} {w w' : World} {n : Nat} (h : SMv K w w') (hB : ∀ j, K.has j → n ≤ j) (hn : n ≤ w.heap.size) : Below n w w' := ⟨h.os, h.tape, h.output, h.size, fun j hj => h.block j (Nat.lt_of_lt_of_le hj hn) (fun hk => by have := hB j hk; omega)⟩

theorem word_any (n : Int) (w : World) : Calls Try.prog 37 #[.int .i64 n] w fun e w' => e = .returned (.bool (decide (Word n))) ∧ w' = w := by
  by_cases h1 : 0 ≤ n
  · by_cases h2 : n ≤ 4294967295
    · rw [decide_eq_true (show Word n from ⟨h1, h2⟩)]
      go_enter Try.func37, Try.ntmps37
      go_wp2_with fail
      go_ret
      exact ⟨by simp <;> omega, rfl⟩
    · rw [decide_eq_false (show ¬ Word n from fun h => h2 h.2)]
      go_enter Try.func37, Try.ntmps37
      go_wp2_with fail
      go_ret
      exact ⟨by simp <;> omega, rfl⟩
  · rw [decide_eq_false (show ¬ Word n from fun h => h1 h.1)]
    go_enter Try.func37, Try.ntmps37
    go_wp2_with fail
    go_ret
    exact ⟨by simp <;> omega, rfl⟩

/-- a Begin that may be -/
def BeginOk (k no iw ow hm : Int) : Prop := k = 17 ∧ Word no ∧ Word iw ∧ Word ow ∧ Word hm
instance (k no iw ow hm : Int) : Decidable (BeginOk k no iw ow hm) := inferInstanceAs (Decidable (k = 17 ∧ Word no ∧ Word iw ∧ Word ow ∧ Word hm))

/-- the cells of a perform that are looked at -/
theorem perf_cells {w : World} {x : Nat} {k re ni iw no ow hm hd ct cr av : Int} {dr : Bool} (h : w.heap[x]? = some (.cells (perfC k re ni iw no ow hm hd ct cr av dr) 39 (0, 0))) :
    w.cell? ⟨x, 0, none⟩ = some (.int .i64 k) ∧ w.cell? ⟨x, 12, none⟩ = some (.int .i64 ni) ∧ w.cell? ⟨x, 13, none⟩ = some (.int .i64 iw) ∧ w.cell? ⟨x, 14, none⟩ = some (.int .i64 no) ∧ w.cell? ⟨x, 15, none⟩ = some (.int .i64 ow) ∧ w.cell? ⟨x, 16, none⟩ = some (.int .i64 hm) :=
  ⟨(cell_of_row _ _ 0 _ _ _ h).trans rfl, (cell_of_row _ _ 12 _ _ _ h).trans rfl, (cell_of_row _ _ 13 _ _ _ h).trans rfl, (cell_of_row _ _ 14 _ _ _ h).trans rfl, (cell_of_row _ _ 15 _ _ _ h).trans rfl, (cell_of_row _ _ 16 _ _ _ h).trans rfl⟩

set_option maxHeartbeats 4000000 in
theorem begins_any (w : World) (k re ni iw no ow hm hd ct cr av : Int) (dr : Bool) :
    Calls Try.prog 32 #[.agg (perfC k re ni iw no ow hm hd ct cr av dr)] w fun e w' => e = .returned (.bool (decide (BeginOk k no iw ow hm))) ∧ Below w.heap.size w w' := by
  obtain ⟨P, hP⟩ : ∃ P, perfC k re ni iw no ow hm hd ct cr av dr = P := ⟨_, rfl⟩
  rw [hP]
  go_enter Try.func32, Try.ntmps32
  go_upto_region 1 with fail
  have hb : Below w.heap.size w (w.alloc (.cells P 39)) := (Below.refl _ _).alloc (Nat.le_refl _) _
  have h0 : (w.alloc (.cells P 39)).heap[w.heap.size]? = some (.cells P 39 (0, 0)) := heap_alloc_new _ _
  generalize (w.alloc (.cells P 39)) = w0 at *
  obtain ⟨x, hx⟩ : ∃ x, w.heap.size = x := ⟨_, rfl⟩
  rw [hx] at h0 ⊢
  rw [← hP] at h0
  obtain ⟨c0, _, c13, c14, c15, c16⟩ := perf_cells h0
  have HB := Lib.hid hb
  clear hb h0 hP hx
  have i1 := word_any no w0
  have i2 := word_any iw w0
  have i3 := word_any ow w0
  have i4 := word_any hm w0
  by_cases hk : k = 17
  · by_cases h1 : Word no
    · rw [decide_eq_true h1] at i1
      by_cases h2 : Word iw
      · rw [decide_eq_true h2] at i2
        by_cases h3 : Word ow
        · rw [decide_eq_true h3] at i3
          by_cases h4 : Word hm
          · rw [decide_eq_true h4] at i4
            have H := Lib.hid (And.intro h1 (And.intro h2 (And.intro h3 h4)))
            clear h1 h2 h3 h4
            go_wp2_with fail
            refine i1.mono ?_
            rintro e w' ⟨rfl, rfl⟩
            go_wp2_with fail
            refine i2.mono ?_
            rintro e w' ⟨rfl, rfl⟩
            go_wp2_with fail
            refine i3.mono ?_
            rintro e w' ⟨rfl, rfl⟩
            go_wp2_with fail
            refine i4.mono ?_
            rintro e w' ⟨rfl, rfl⟩
            go_wp2_with fail
            go_ret
            have hB : BeginOk k no iw ow hm := ⟨hk, H.out⟩
            exact ⟨by simp [hB], HB.out⟩
          · rw [decide_eq_false h4] at i4
            have H := Lib.hid h4
            clear h1 h2 h3 h4
            go_wp2_with fail
            refine i1.mono ?_
            rintro e w' ⟨rfl, rfl⟩
            go_wp2_with fail
            refine i2.mono ?_
            rintro e w' ⟨rfl, rfl⟩
            go_wp2_with fail
            refine i3.mono ?_
            rintro e w' ⟨rfl, rfl⟩
            go_wp2_with fail
            refine i4.mono ?_
            rintro e w' ⟨rfl, rfl⟩
            go_wp2_with fail
            go_ret
            have hB : ¬ BeginOk k no iw ow hm := fun h => H.out h.2.2.2.2
            exact ⟨by simp [hB], HB.out⟩
        · rw [decide_eq_false h3] at i3
          have H := Lib.hid h3
          clear h1 h2 h3
          go_wp2_with fail
          refine i1.mono ?_
          rintro e w' ⟨rfl, rfl⟩
          go_wp2_with fail
          refine i2.mono ?_
          rintro e w' ⟨rfl, rfl⟩
          go_wp2_with fail
          refine i3.mono ?_
          rintro e w' ⟨rfl, rfl⟩
          go_wp2_with fail
          go_ret
          have hB : ¬ BeginOk k no iw ow hm := fun h => H.out h.2.2.2.1
          exact ⟨by simp [hB], HB.out⟩
      · rw [decide_eq_false h2] at i2
        have H := Lib.hid h2
        clear h1 h2
        go_wp2_with fail
        refine i1.mono ?_
        rintro e w' ⟨rfl, rfl⟩
        go_wp2_with fail
        refine i2.mono ?_
        rintro e w' ⟨rfl, rfl⟩
        go_wp2_with fail
        go_ret
        have hB : ¬ BeginOk k no iw ow hm := fun h => H.out h.2.2.1
        exact ⟨by simp [hB], HB.out⟩
    · rw [decide_eq_false h1] at i1
      have H := Lib.hid h1
      clear h1
      go_wp2_with fail
      refine i1.mono ?_
      rintro e w' ⟨rfl, rfl⟩
      go_wp2_with fail
      go_ret
      have hB : ¬ BeginOk k no iw ow hm := fun h => H.out h.2.1
      exact ⟨by simp [hB], HB.out⟩
  · have hk' : (k == 17) = false := by simpa using hk
    go_wp2_with fail
    go_ret
    have hB : ¬ BeginOk k no iw ow hm := fun h => hk h.1
    exact ⟨by simp [hB], HB.out⟩

theorem newTable_any (w : World) :
    Calls Try.prog 33 #[] w fun e w' => e = .returned (.pointer (some ⟨w.heap.size + 1, 0, none⟩)) ∧ w' = (w.alloc (.map #[] 0)).alloc (.cells #[.map (some w.heap.size)] 92) := by
  have hmm := @run_makeMap Try.prog
  go_enter Try.func33, Try.ntmps33
  go_wp2_with fail
  go_ret
  exact ⟨rfl, rfl⟩
end Go.Proofs.Ytbkimebmoafbnaa
