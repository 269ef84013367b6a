/-
  DERIVED. GIVEN WITH THE SEED: THE CARDS: each row of YtakbgekamjpibaaDoorRows.lean that lists a variable, with what it lists TIED to the program's text (the seventh form; the later family's looks); each row that meets fmt, with fmt's text TOLD by the authors' own Lean function (tested against real Go, not proved from fmt's source: count such statements apart). THE CARD IS WHAT COUNTS. Prove the row's statement (the work); the ties are given (YtakbgekamjpibaaDoorTie.lean); close each card by the builder's one call (the guide's Derived/Test/ToyasCard.lean, 'card_holds'). Laid BY PROGRAM, IN A SANDBOX (cutbox-door.mjs). By AI agents, Wed Nov 11 2026. No macro, syntax, notation, axiom, sorry.
-/
import Derived.Test.YtakbgekamjpibaaDoorRows
import GoSem.ClaimSeven
namespace Go.Proofs.YtakbgekamjpibaaDoor
namespace Rows

/-- THE TIED CARD OF 'longshorelaw02.ValueChecks'. -/
def valueChecksCard : Claim7 := { stood := { row := valueChecksRow, standIns := [], harness := (true, "a103c110a45eeee7d407b1ba4ae69476c3e18579e76ddb6512d6f262efbbf5b3"), looks := false }, kinds := [], alts := [], laidByText := true, laidKinds := [.data, .pinned], laidTests := true, laidLooks := .later }
def ValueChecksCardSaid : Prop := Claim7.holds Tryd.pinned (.plain (OpenSpec.ofChange valueChecksSpec)) valueChecksCard

/-- THE TIED CARD OF 'longshorelaw02.ValueStands'. -/
def valueStandsCard : Claim7 := { stood := { row := valueStandsRow, standIns := [], harness := (true, "a103c110a45eeee7d407b1ba4ae69476c3e18579e76ddb6512d6f262efbbf5b3"), looks := false }, kinds := [], alts := [], laidByText := true, laidKinds := [.data, .pinned], laidTests := true, laidLooks := .later }
def ValueStandsCardSaid : Prop := Claim7.holds Tryd.pinned (.plain (OpenSpec.ofChange valueStandsSpec)) valueStandsCard

/-- THE TIED CARD OF 'longshorelaw02.ValueDepths'. -/
def valueDepthsCard : Claim7 := { stood := { row := valueDepthsRow, standIns := [], harness := (true, "a103c110a45eeee7d407b1ba4ae69476c3e18579e76ddb6512d6f262efbbf5b3"), looks := false }, kinds := [], alts := [], laidByText := true, laidKinds := [.data, .pinned], laidTests := true, laidLooks := .later }
def ValueDepthsCardSaid : Prop := Claim7.holds Tryd.pinned (.plain (OpenSpec.ofChange valueDepthsSpec)) valueDepthsCard

/-- THE TIED CARD OF 'longshorelaw02.ValueAlls'. -/
def valueAllsCard : Claim7 := { stood := { row := valueAllsRow, standIns := [], harness := (true, "a103c110a45eeee7d407b1ba4ae69476c3e18579e76ddb6512d6f262efbbf5b3"), looks := false }, kinds := [], alts := [], laidByText := true, laidKinds := [.data, .pinned], laidTests := true, laidLooks := .later }
def ValueAllsCardSaid : Prop := Claim7.holds Tryd.pinned (.plain (OpenSpec.ofChange valueAllsSpec)) valueAllsCard

/-- THE TIED CARD OF 'longshorelaw02.ValueMakes'. -/
def valueMakesCard : Claim7 := { stood := { row := valueMakesRow, standIns := [], harness := (true, "a103c110a45eeee7d407b1ba4ae69476c3e18579e76ddb6512d6f262efbbf5b3"), looks := false }, kinds := [], alts := [], laidByText := true, laidKinds := [.data, .pinned], laidTests := true, laidLooks := .later }
def ValueMakesCardSaid : Prop := Claim7.holds Tryd.pinned (.plain (OpenSpec.ofChange valueMakesSpec)) valueMakesCard

/-- THE TIED CARD OF 'longshorelaw02.ValueEquals'. -/
def valueEqualsCard : Claim7 := { stood := { row := valueEqualsRow, standIns := [], harness := (true, "a103c110a45eeee7d407b1ba4ae69476c3e18579e76ddb6512d6f262efbbf5b3"), looks := false }, kinds := [], alts := [], laidByText := true, laidKinds := [.data, .pinned], laidTests := true, laidLooks := .later }
def ValueEqualsCardSaid : Prop := Claim7.holds Tryd.pinned (.plain (OpenSpec.ofChange valueEqualsSpec)) valueEqualsCard

/-- THE TIED CARD OF 'longshorelaw02.ValueOrders'. -/
def valueOrdersCard : Claim7 := { stood := { row := valueOrdersRow, standIns := [], harness := (true, "a103c110a45eeee7d407b1ba4ae69476c3e18579e76ddb6512d6f262efbbf5b3"), looks := false }, kinds := [], alts := [], laidByText := true, laidKinds := [.data, .pinned], laidTests := true, laidLooks := .later }
def ValueOrdersCardSaid : Prop := Claim7.holds Tryd.pinned (.plain (OpenSpec.ofChange valueOrdersSpec)) valueOrdersCard

/-- THE TIED CARD OF 'longshorelaw02.ValueFinds'. -/
def valueFindsCard : Claim7 := { stood := { row := valueFindsRow, standIns := [], harness := (true, "a103c110a45eeee7d407b1ba4ae69476c3e18579e76ddb6512d6f262efbbf5b3"), looks := false }, kinds := [], alts := [], laidByText := true, laidKinds := [.data, .pinned], laidTests := true, laidLooks := .later }
def ValueFindsCardSaid : Prop := Claim7.holds Tryd.pinned (.plain (OpenSpec.ofChange valueFindsSpec)) valueFindsCard

/-- THE TIED CARD OF 'longshorelaw02.ValueSound'. -/
def valueSoundCard : Claim7 := { stood := { row := valueSoundRow, standIns := [], harness := (true, "a103c110a45eeee7d407b1ba4ae69476c3e18579e76ddb6512d6f262efbbf5b3"), looks := false }, kinds := [], alts := [], laidByText := true, laidKinds := [.data, .pinned], laidTests := true, laidLooks := .later }
def ValueSoundCardSaid : Prop := Claim7.holds Tryd.pinned (.plain (OpenSpec.ofChange valueSoundSpec)) valueSoundCard

/-- THE SECOND FORM's CARD OF 'longshorelaw02.ValueChecks'. -/
def valueChecksUptoCard : Claim7 := { stood := { row := valueChecksUptoRow, standIns := [], harness := (true, "a103c110a45eeee7d407b1ba4ae69476c3e18579e76ddb6512d6f262efbbf5b3"), looks := false }, kinds := [], alts := [], laidByText := true, laidKinds := [.data, .pinned], laidTests := true, laidLooks := .later }
def ValueChecksUptoCardSaid : Prop := Claim7.holds Tryd.pinned (.plain (OpenSpec.upto valueChecksSpec)) valueChecksUptoCard

/-- THE SECOND FORM's CARD OF 'longshorelaw02.ValueStands'. -/
def valueStandsUptoCard : Claim7 := { stood := { row := valueStandsUptoRow, standIns := [], harness := (true, "a103c110a45eeee7d407b1ba4ae69476c3e18579e76ddb6512d6f262efbbf5b3"), looks := false }, kinds := [], alts := [], laidByText := true, laidKinds := [.data, .pinned], laidTests := true, laidLooks := .later }
def ValueStandsUptoCardSaid : Prop := Claim7.holds Tryd.pinned (.plain (OpenSpec.upto valueStandsSpec)) valueStandsUptoCard

/-- THE SECOND FORM's CARD OF 'longshorelaw02.ValueDepths'. -/
def valueDepthsUptoCard : Claim7 := { stood := { row := valueDepthsUptoRow, standIns := [], harness := (true, "a103c110a45eeee7d407b1ba4ae69476c3e18579e76ddb6512d6f262efbbf5b3"), looks := false }, kinds := [], alts := [], laidByText := true, laidKinds := [.data, .pinned], laidTests := true, laidLooks := .later }
def ValueDepthsUptoCardSaid : Prop := Claim7.holds Tryd.pinned (.plain (OpenSpec.upto valueDepthsSpec)) valueDepthsUptoCard

/-- THE SECOND FORM's CARD OF 'longshorelaw02.ValueAlls'. -/
def valueAllsUptoCard : Claim7 := { stood := { row := valueAllsUptoRow, standIns := [], harness := (true, "a103c110a45eeee7d407b1ba4ae69476c3e18579e76ddb6512d6f262efbbf5b3"), looks := false }, kinds := [], alts := [], laidByText := true, laidKinds := [.data, .pinned], laidTests := true, laidLooks := .later }
def ValueAllsUptoCardSaid : Prop := Claim7.holds Tryd.pinned (.plain (OpenSpec.upto valueAllsSpec)) valueAllsUptoCard

/-- THE SECOND FORM's CARD OF 'longshorelaw02.ValueMakes'. -/
def valueMakesUptoCard : Claim7 := { stood := { row := valueMakesUptoRow, standIns := [], harness := (true, "a103c110a45eeee7d407b1ba4ae69476c3e18579e76ddb6512d6f262efbbf5b3"), looks := false }, kinds := [], alts := [], laidByText := true, laidKinds := [.data, .pinned], laidTests := true, laidLooks := .later }
def ValueMakesUptoCardSaid : Prop := Claim7.holds Tryd.pinned (.plain (OpenSpec.upto valueMakesSpec)) valueMakesUptoCard

/-- THE SECOND FORM's CARD OF 'longshorelaw02.ValueEquals'. -/
def valueEqualsUptoCard : Claim7 := { stood := { row := valueEqualsUptoRow, standIns := [], harness := (true, "a103c110a45eeee7d407b1ba4ae69476c3e18579e76ddb6512d6f262efbbf5b3"), looks := false }, kinds := [], alts := [], laidByText := true, laidKinds := [.data, .pinned], laidTests := true, laidLooks := .later }
def ValueEqualsUptoCardSaid : Prop := Claim7.holds Tryd.pinned (.plain (OpenSpec.upto valueEqualsSpec)) valueEqualsUptoCard

/-- THE SECOND FORM's CARD OF 'longshorelaw02.ValueOrders'. -/
def valueOrdersUptoCard : Claim7 := { stood := { row := valueOrdersUptoRow, standIns := [], harness := (true, "a103c110a45eeee7d407b1ba4ae69476c3e18579e76ddb6512d6f262efbbf5b3"), looks := false }, kinds := [], alts := [], laidByText := true, laidKinds := [.data, .pinned], laidTests := true, laidLooks := .later }
def ValueOrdersUptoCardSaid : Prop := Claim7.holds Tryd.pinned (.plain (OpenSpec.upto valueOrdersSpec)) valueOrdersUptoCard

/-- THE SECOND FORM's CARD OF 'longshorelaw02.ValueFinds'. -/
def valueFindsUptoCard : Claim7 := { stood := { row := valueFindsUptoRow, standIns := [], harness := (true, "a103c110a45eeee7d407b1ba4ae69476c3e18579e76ddb6512d6f262efbbf5b3"), looks := false }, kinds := [], alts := [], laidByText := true, laidKinds := [.data, .pinned], laidTests := true, laidLooks := .later }
def ValueFindsUptoCardSaid : Prop := Claim7.holds Tryd.pinned (.plain (OpenSpec.upto valueFindsSpec)) valueFindsUptoCard

/-- THE SECOND FORM's CARD OF 'longshorelaw02.ValueSound'. -/
def valueSoundUptoCard : Claim7 := { stood := { row := valueSoundUptoRow, standIns := [], harness := (true, "a103c110a45eeee7d407b1ba4ae69476c3e18579e76ddb6512d6f262efbbf5b3"), looks := false }, kinds := [], alts := [], laidByText := true, laidKinds := [.data, .pinned], laidTests := true, laidLooks := .later }
def ValueSoundUptoCardSaid : Prop := Claim7.holds Tryd.pinned (.plain (OpenSpec.upto valueSoundSpec)) valueSoundUptoCard
end Rows
end Go.Proofs.YtakbgekamjpibaaDoor
