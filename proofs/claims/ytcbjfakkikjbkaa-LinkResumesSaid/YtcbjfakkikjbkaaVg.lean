/-
  Listed, Mapped; what a kind has, extra, within, isNum. Conditions: the values lie in memory.
-/
import Derived.Test.YtcbjfakkikjbkaaVf
namespace Go.Proofs.Ytcbjfakkikjbkaa
open Go.RowKit
set_option linter.all false

def V.listed (l : List V) : V := .mk 21 0 ⟨#[]⟩ l 0
theorem listed_wf (l : List V) : (V.listed l).Wf := ⟨⟨by show (-9223372036854775808 : Int) ≤ 21; omega, by show (21 : Int) ≤ 9223372036854775807; omega⟩, ⟨by show (0 : Int) ≤ 0; omega, by show (0 : Int) ≤ 18446744073709551615; omega⟩, Nat.zero_le _, ⟨by show (-9223372036854775808 : Int) ≤ 0; omega, by show (0 : Int) ≤ 9223372036854775807; omega⟩⟩

set_option maxRecDepth 20000 in
set_option maxHeartbeats 4000000 in
theorem listed_any (a : V) (w : World) (s : Value) (h : VIn w a s) (hwt : wts a.list ≤ 2000000) :
    Calls Try.prog 44 #[s] w (OutV w (V.listed a.list)) := by
  have hc := fun W hW => copieds_any a (fun x _ => copied_on x) W s hW hwt
  have HC := Lib.hid hc
  have HV := Lib.hid h
  obtain ⟨p, c, hs, _⟩ := h.slice
  subst hs
  obtain ⟨N, hN⟩ : ∃ N, a.list.length = N := ⟨_, rfl⟩
  rw [hN] at HC HV
  rw [hN]
  have HN := Lib.hid hN
  clear hc h hwt hN
  go_enter Try.func44, Try.ntmps44
  go_upto_region 1 with fail
  have hb0 : Below w.heap.size w (w.alloc (.cells #[.int .i64 0, .int .u64 0, .string ⟨#[]⟩, .slice none 0 0, .int .i64 0] 28)) := (Below.refl _ _).alloc (Nat.le_refl _) _
  have oy : (w.alloc (.cells #[.int .i64 0, .int .u64 0, .string ⟨#[]⟩, .slice none 0 0, .int .i64 0] 28)).heap[w.heap.size]? = some (.cells #[.int .i64 0, .int .u64 0, .string ⟨#[]⟩, .slice none 0 0, .int .i64 0] 28 (0, 0)) := _root_.Go.heap_alloc_new _ _
  generalize (w.alloc (.cells #[.int .i64 0, .int .u64 0, .string ⟨#[]⟩, .slice none 0 0, .int .i64 0] 28)) = w0 at *
  obtain ⟨y, hy⟩ : ∃ x, w.heap.size = x := ⟨_, rfl⟩
  rw [hy] at oy ⊢
  have HB0 := Lib.hid hb0
  have HY := Lib.hid (And.intro hy (And.intro (show w.heap.size ≤ y by omega) oy))
  have hc := HC.out w0 (HV.out.blw hb0)
  clear hb0 hy oy
  go_wp2_with fail
  refine hc.mono ?_
  clear hc
  rintro e w1 ⟨t, F, rfl, hvo, hb1⟩
  obtain ⟨pt, ct, hst, _, _⟩ := hvo.slice
  rw [HN.out] at hst
  subst hst
  have oy1 := (hb1.block y (Array.getElem?_eq_some_iff.1 HY.out.2.2).1).trans HY.out.2.2
  have hF : ∀ b, F b → b ≠ y := fun b hb e => by have h1 := (hvo.lt b hb).1; have h2 := (Array.getElem?_eq_some_iff.1 HY.out.2.2).1; omega
  have HVO := Lib.hid (And.intro (hvo.mono HB0.out.size) (And.intro (HB0.out.trans (hb1.mono HB0.out.size)) (And.intro hF oy1)))
  clear hvo hb1 hF
  go_wp2_with (refine wpList_store_rowTo rfl 28 (.tmp 2) (.tmp 5) rfl rfl y #[.int .i64 21, .int .u64 0, .string ⟨#[]⟩, .slice pt N ct, .int .i64 0] rfl rfl 28 #[.int .i64 0, .int .u64 0, .string ⟨#[]⟩, .slice none 0 0, .int .i64 0] oy1 (by as_aux_lemma => kernel_rfl) (by as_aux_lemma => kernel_rfl) (by simp [Value.oneCell']) ?_)
  have hh := setRow_heap w1 y _ #[.int .i64 21, .int .u64 0, .string ⟨#[]⟩, .slice pt N ct, .int .i64 0] _ _ HVO.out.2.2.2
  have hB := below_setRow HVO.out.2.1 HY.out.2.1 #[.int .i64 21, .int .u64 0, .string ⟨#[]⟩, .slice pt N ct, .int .i64 0]
  have hvo3 := (HVO.out.1.keep (w' := w1.setRow y #[.int .i64 21, .int .u64 0, .string ⟨#[]⟩, .slice pt N ct, .int .i64 0]) (fun b hb => setRow_other w1 y b _ (HVO.out.2.2.1 b hb))).as (v' := V.listed a.list) rfl (listed_wf _)
  refine bodyPost_ret (results_cell_row (p := 2) (ty := 28) (by kernel_rfl) _ _ y 28 #[.int .i64 21, .int .u64 0, .string ⟨#[]⟩, .slice pt N ct, .int .i64 0] (0, 0) _ rfl hh Try.underlying28 rfl (by as_aux_lemma => kernel_rfl)) rfl ?_
  exact ⟨_, F, rfl, hvo3, hB⟩


def V.mapped (l : List V) : V := .mk 22 0 ⟨#[]⟩ l 0
theorem mapped_wf (l : List V) : (V.mapped l).Wf := ⟨⟨by show (-9223372036854775808 : Int) ≤ 22; omega, by show (22 : Int) ≤ 9223372036854775807; omega⟩, ⟨by show (0 : Int) ≤ 0; omega, by show (0 : Int) ≤ 18446744073709551615; omega⟩, Nat.zero_le _, ⟨by show (-9223372036854775808 : Int) ≤ 0; omega, by show (0 : Int) ≤ 9223372036854775807; omega⟩⟩

def hasT (k : Int) : Bool := decide (k = 14 ∨ k = 17 ∨ k = 18 ∨ k = 19 ∨ k = 20)
def hasP (k : Int) : Bool := decide (k = 21 ∨ k = 22 ∨ k = 23 ∨ k = 24)
def hasN (k : Int) : Bool := decide (¬ (k = 0 ∨ k = 14 ∨ k = 17 ∨ k = 18 ∨ k = 19 ∨ k = 20 ∨ k = 21 ∨ k = 22 ∨ k = 23 ∨ k = 24))
/-- a number of two's complement -/
def twoC (n : Int) : Int := if n < 9223372036854775808 then n else n - 18446744073709551616
theorem wrap_twoC {n : Int} (h : IsU64 n) : wrap64 n = twoC n := by
  obtain ⟨h1, h2⟩ := h
  unfold wrap64 twoC
  split <;> omega
theorem ret_boolV {a b : Bool} (h : a = b) : Ending.returned (.bool a) = .returned (.bool b) := by rw [h]
end Go.Proofs.Ytcbjfakkikjbkaa
