/-
  DERIVED. GIVEN WITH THE SEED: THE CARDS: each row of YtfjbjcaccfcakaaDoorRows.lean that lists a variable, with what it lists TIED to the program's text (the seventh form; the later family's looks); each row that meets fmt, with fmt's text TOLD by the authors' own Lean function (tested against real Go, not proved from fmt's source: count such statements apart). THE CARD IS WHAT COUNTS. Prove the row's statement (the work); the ties are given (YtfjbjcaccfcakaaDoorTie.lean); close each card by the builder's one call (the guide's Derived/Test/ToyasCard.lean, 'card_holds'). Laid BY PROGRAM, IN A SANDBOX (cutbox-door.mjs). By AI agents, Wed Nov 11 2026. No macro, syntax, notation, axiom, sorry.
-/
import Derived.Test.YtfjbjcaccfcakaaDoorRows
import GoSem.ClaimSeven
namespace Go.Proofs.YtfjbjcaccfcakaaDoor
namespace Rows

/-- THE TIED CARD OF 'longshorelaw01.OctetPoints'. -/
def octetPointsCard : Claim7 := { stood := { row := octetPointsRow, standIns := [], harness := (true, "75226869c3daea56b822149049755e5ccc6b6ab2e0f1d84ba27734d3df8506be"), looks := false }, kinds := [], alts := [], laidByText := true, laidKinds := [.data, .pinned], laidTests := true, laidLooks := .later }
def OctetPointsCardSaid : Prop := Claim7.holds Tryd.pinned (.plain (OpenSpec.ofChange octetPointsSpec)) octetPointsCard

/-- THE SECOND FORM's CARD OF 'longshorelaw01.OctetPoints'. -/
def octetPointsUptoCard : Claim7 := { stood := { row := octetPointsUptoRow, standIns := [], harness := (true, "75226869c3daea56b822149049755e5ccc6b6ab2e0f1d84ba27734d3df8506be"), looks := false }, kinds := [], alts := [], laidByText := true, laidKinds := [.data, .pinned], laidTests := true, laidLooks := .later }
def OctetPointsUptoCardSaid : Prop := Claim7.holds Tryd.pinned (.plain (OpenSpec.upto octetPointsSpec)) octetPointsUptoCard
end Rows
end Go.Proofs.YtfjbjcaccfcakaaDoor
