/-
  DERIVED. GIVEN WITH THE SEED: THE CARDS: each row of YtnnnfhobbnjmfaaGreatDoorRows.lean that lists a variable, with what it lists TIED to the program's text (the seventh form; the later family's looks); each row that meets fmt, with fmt's text TOLD by the authors' own Lean function (tested against real Go, not proved from fmt's source: count such statements apart). THE CARD IS WHAT COUNTS. Prove the row's statement (the work); the ties are given (YtnnnfhobbnjmfaaGreatDoorTie.lean); close each card by the builder's one call (the guide's Derived/Test/ToyasCard.lean, 'card_holds'). Laid BY PROGRAM, IN A SANDBOX (cutbox-door.mjs). By AI agents, Wed Nov 11 2026. No macro, syntax, notation, axiom, sorry.
-/
import Derived.Test.YtnnnfhobbnjmfaaGreatDoorRows
import GoSem.ClaimSeven
namespace Go.Proofs.YtnnnfhobbnjmfaaGreatDoor
namespace Rows

/-- THE TIED CARD OF 'longshorelaw03.CodecEncodes'. -/
def codecEncodesCard : Claim7 := { stood := { row := codecEncodesRow, standIns := [], harness := (true, "288de3f535b53da5c374eb86b2977bb8a64892b8a2edf580318739a43ea213da"), looks := true }, kinds := [], alts := [], laidByText := true, laidKinds := [.data, .pinned], laidTests := true, laidLooks := .later }
def CodecEncodesCardSaid : Prop := Claim7.holds Tryz.pinned (.plain (OpenSpec.ofChange codecEncodesSpec)) codecEncodesCard

/-- THE TIED CARD OF 'longshorelaw03.CodecDecodes'. -/
def codecDecodesCard : Claim7 := { stood := { row := codecDecodesRow, standIns := [], harness := (true, "288de3f535b53da5c374eb86b2977bb8a64892b8a2edf580318739a43ea213da"), looks := true }, kinds := [], alts := [], laidByText := true, laidKinds := [.data, .pinned], laidTests := true, laidLooks := .later }
def CodecDecodesCardSaid : Prop := Claim7.holds Tryz.pinned (.plain (OpenSpec.ofChange codecDecodesSpec)) codecDecodesCard

/-- THE TIED CARD OF 'longshorelaw03.CodecWholes'. -/
def codecWholesCard : Claim7 := { stood := { row := codecWholesRow, standIns := [], harness := (true, "288de3f535b53da5c374eb86b2977bb8a64892b8a2edf580318739a43ea213da"), looks := true }, kinds := [], alts := [], laidByText := true, laidKinds := [.data, .pinned], laidTests := true, laidLooks := .later }
def CodecWholesCardSaid : Prop := Claim7.holds Tryz.pinned (.plain (OpenSpec.ofChange codecWholesSpec)) codecWholesCard

/-- THE SECOND FORM's CARD OF 'longshorelaw03.CodecEncodes'. -/
def codecEncodesUptoCard : Claim7 := { stood := { row := codecEncodesUptoRow, standIns := [], harness := (true, "288de3f535b53da5c374eb86b2977bb8a64892b8a2edf580318739a43ea213da"), looks := true }, kinds := [], alts := [], laidByText := true, laidKinds := [.data, .pinned], laidTests := true, laidLooks := .later }
def CodecEncodesUptoCardSaid : Prop := Claim7.holds Tryz.pinned (.plain (OpenSpec.upto codecEncodesSpec)) codecEncodesUptoCard

/-- THE SECOND FORM's CARD OF 'longshorelaw03.CodecDecodes'. -/
def codecDecodesUptoCard : Claim7 := { stood := { row := codecDecodesUptoRow, standIns := [], harness := (true, "288de3f535b53da5c374eb86b2977bb8a64892b8a2edf580318739a43ea213da"), looks := true }, kinds := [], alts := [], laidByText := true, laidKinds := [.data, .pinned], laidTests := true, laidLooks := .later }
def CodecDecodesUptoCardSaid : Prop := Claim7.holds Tryz.pinned (.plain (OpenSpec.upto codecDecodesSpec)) codecDecodesUptoCard

/-- THE SECOND FORM's CARD OF 'longshorelaw03.CodecWholes'. -/
def codecWholesUptoCard : Claim7 := { stood := { row := codecWholesUptoRow, standIns := [], harness := (true, "288de3f535b53da5c374eb86b2977bb8a64892b8a2edf580318739a43ea213da"), looks := true }, kinds := [], alts := [], laidByText := true, laidKinds := [.data, .pinned], laidTests := true, laidLooks := .later }
def CodecWholesUptoCardSaid : Prop := Claim7.holds Tryz.pinned (.plain (OpenSpec.upto codecWholesSpec)) codecWholesUptoCard
end Rows
end Go.Proofs.YtnnnfhobbnjmfaaGreatDoor
