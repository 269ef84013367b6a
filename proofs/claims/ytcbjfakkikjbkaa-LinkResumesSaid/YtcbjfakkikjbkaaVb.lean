/-
  The reference's Equal, Order. Conditions: the values lie in memory.
-/
import Derived.Test.YtcbjfakkikjbkaaVa
import Derived.Test.YtcbjfakkikjbkaaTk
namespace Go.Proofs.Ytcbjfakkikjbkaa
open Go.RowKit
set_option linter.all false

theorem teq (a b : ByteArray) : (a.toList == b.toList) = decide (a = b) := by
  rw [ByteArray.toList_eq, ByteArray.toList_eq, Bool.eq_iff_iff]
  simp only [beq_iff_eq, decide_eq_true_eq]
  exact ⟨fun h => by cases a; cases b; congr 1; exact Array.toList_inj.1 h, fun h => by rw [h]⟩
theorem list_ext_k {a b : List V} (hl : a.length = b.length) (h : ∀ j (h1 : j < a.length) (h2 : j < b.length), a[j] = b[j]) : a = b := List.ext_getElem hl h
end Go.Proofs.Ytcbjfakkikjbkaa
