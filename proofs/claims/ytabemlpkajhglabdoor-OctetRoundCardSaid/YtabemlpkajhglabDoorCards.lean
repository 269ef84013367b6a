/-
  DERIVED. GIVEN WITH THE SEED: THE CARDS: each row of YtabemlpkajhglabDoorRows.lean that lists a variable, with what it lists TIED to the program's text (the seventh form; the later family's looks); each row that meets fmt, with fmt's text TOLD by the authors' own Lean function (tested against real Go, not proved from fmt's source: count such statements apart). THE CARD IS WHAT COUNTS. Prove the row's statement (the work); the ties are given (YtabemlpkajhglabDoorTie.lean); close each card by the builder's one call (the guide's Derived/Test/ToyasCard.lean, 'card_holds'). Laid BY PROGRAM, IN A SANDBOX (cutbox-door.mjs). By AI agents, Wed Nov 11 2026. No macro, syntax, notation, axiom, sorry.
-/
import Derived.Test.YtabemlpkajhglabDoorRows
import GoSem.ClaimSeven
namespace Go.Proofs.YtabemlpkajhglabDoor
namespace Rows

/-- THE TIED CARD OF 'longshorelaw01.OctetRound'. -/
def octetRoundCard : Claim7 := { stood := { row := octetRoundRow, standIns := [], harness := (true, "b2ac742563514c8df37d7ce6279bee2e76cc77795b0a0bdd60a1ebbae430333c"), looks := false }, kinds := [], alts := [], laidByText := true, laidKinds := [.data, .pinned], laidTests := true, laidLooks := .later }
def OctetRoundCardSaid : Prop := Claim7.holds Tryd.pinned (.plain (OpenSpec.ofChange octetRoundSpec)) octetRoundCard

/-- THE SECOND FORM's CARD OF 'longshorelaw01.OctetRound'. -/
def octetRoundUptoCard : Claim7 := { stood := { row := octetRoundUptoRow, standIns := [], harness := (true, "b2ac742563514c8df37d7ce6279bee2e76cc77795b0a0bdd60a1ebbae430333c"), looks := false }, kinds := [], alts := [], laidByText := true, laidKinds := [.data, .pinned], laidTests := true, laidLooks := .later }
def OctetRoundUptoCardSaid : Prop := Claim7.holds Tryd.pinned (.plain (OpenSpec.upto octetRoundSpec)) octetRoundUptoCard
end Rows
end Go.Proofs.YtabemlpkajhglabDoor
