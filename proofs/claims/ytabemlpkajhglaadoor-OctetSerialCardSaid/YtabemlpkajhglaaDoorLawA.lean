/-
  The walks of OctetNumbers, OctetSerial: each returns true. Condition: the decoder's tables stand, an int is one.
-/
import Derived.Test.YtabemlpkajhglaaDoorLive
import Derived.Test.YtabemlpkajhglaaDoorSerRef
namespace Go.Proofs.YtabemlpkajhglaaDoor
open Go.RowKit
set_option linter.unusedVariables false

theorem numbers_walk (w : World) (hT : Tabs w) :
    Calls Tryd.prog 3 #[] w fun e w' => e = .returned (.bool true) ∧ Below w.heap.size w w' := by
  go_enter Tryd.func3, Tryd.ntmps3
  go_wp2_with fail
  refine (live_any w hT).mono ?_
  rintro e w1 ⟨rfl, hb⟩
  go_wp2_with fail
  go_ret
  exact ⟨rfl, hb⟩

theorem serial_walk (w : World) (hT : Tabs w) (a b : Int) (ha : IsI64 a) (hb : IsI64 b) :
    Calls Tryd.prog 11 #[.int .i64 a, .int .i64 b] w fun e w' => e = .returned (.bool true) ∧ Below w.heap.size w w' := by
  go_enter Tryd.func11, Tryd.ntmps11
  go_wp2_with fail
  refine (live_any w hT).mono ?_
  rintro e w1 ⟨rfl, hbl⟩
  go_wp2_with fail
  refine (add_any a b _ ha hb).mono ?_
  rintro e w2 ⟨rfl, rfl⟩
  go_wp2_with fail
  refine (gap_any a b _ ha hb).mono ?_
  rintro e w2 ⟨rfl, rfl⟩
  go_wp2_with fail
  refine (before_any a b _ ha hb).mono ?_
  rintro e w2 ⟨rfl, rfl⟩
  go_wp2_with fail
  refine (refAdd_any a b _ ha hb).mono ?_
  rintro e w2 ⟨rfl, rfl⟩
  go_wp2_with fail
  refine (refGap_any a b _ ha hb).mono ?_
  rintro e w2 ⟨rfl, rfl⟩
  go_wp2_with fail
  refine (refBefore_any a b _ ha hb).mono ?_
  rintro e w2 ⟨rfl, rfl⟩
  go_wp2_with fail
  go_ret
  exact ⟨rfl, hbl⟩
end Go.Proofs.YtabemlpkajhglaaDoor
