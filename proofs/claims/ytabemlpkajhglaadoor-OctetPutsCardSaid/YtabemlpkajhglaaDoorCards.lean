/-
  DERIVED. GIVEN WITH THE SEED: THE CARDS: each row of YtabemlpkajhglaaDoorRows.lean that lists a variable, with what it lists TIED to the program's text (the seventh form; the later family's looks); each row that meets fmt, with fmt's text TOLD by the authors' own Lean function (tested against real Go, not proved from fmt's source: count such statements apart). THE CARD IS WHAT COUNTS. Prove the row's statement (the work); the ties are given (YtabemlpkajhglaaDoorTie.lean); close each card by the builder's one call (the guide's Derived/Test/ToyasCard.lean, 'card_holds'). Laid BY PROGRAM, IN A SANDBOX (cutbox-door.mjs). By AI agents, Wed Nov 11 2026. No macro, syntax, notation, axiom, sorry.
-/
import Derived.Test.YtabemlpkajhglaaDoorRows
import GoSem.ClaimSeven
namespace Go.Proofs.YtabemlpkajhglaaDoor
namespace Rows

/-- THE TIED CARD OF 'longshorelaw01.OctetNumbers'. -/
def octetNumbersCard : Claim7 := { stood := { row := octetNumbersRow, standIns := [], harness := (true, "331953b77e3881b2dbd8cb3b2897be43f1ee1555922efe27a16e90774eb3cae2"), looks := false }, kinds := [], alts := [], laidByText := true, laidKinds := [.data, .pinned], laidTests := true, laidLooks := .later }
def OctetNumbersCardSaid : Prop := Claim7.holds Tryd.pinned (.plain (OpenSpec.ofChange octetNumbersSpec)) octetNumbersCard

/-- THE TIED CARD OF 'longshorelaw01.OctetPuts'. -/
def octetPutsCard : Claim7 := { stood := { row := octetPutsRow, standIns := [], harness := (true, "331953b77e3881b2dbd8cb3b2897be43f1ee1555922efe27a16e90774eb3cae2"), looks := false }, kinds := [], alts := [], laidByText := true, laidKinds := [.data, .pinned], laidTests := true, laidLooks := .later }
def OctetPutsCardSaid : Prop := Claim7.holds Tryd.pinned (.plain (OpenSpec.ofChange octetPutsSpec)) octetPutsCard

/-- THE TIED CARD OF 'longshorelaw01.OctetGets'. -/
def octetGetsCard : Claim7 := { stood := { row := octetGetsRow, standIns := [], harness := (true, "331953b77e3881b2dbd8cb3b2897be43f1ee1555922efe27a16e90774eb3cae2"), looks := false }, kinds := [], alts := [], laidByText := true, laidKinds := [.data, .pinned], laidTests := true, laidLooks := .later }
def OctetGetsCardSaid : Prop := Claim7.holds Tryd.pinned (.plain (OpenSpec.ofChange octetGetsSpec)) octetGetsCard

/-- THE TIED CARD OF 'longshorelaw01.OctetTexts'. -/
def octetTextsCard : Claim7 := { stood := { row := octetTextsRow, standIns := [], harness := (true, "331953b77e3881b2dbd8cb3b2897be43f1ee1555922efe27a16e90774eb3cae2"), looks := false }, kinds := [], alts := [], laidByText := true, laidKinds := [.data, .pinned], laidTests := true, laidLooks := .later }
def OctetTextsCardSaid : Prop := Claim7.holds Tryd.pinned (.plain (OpenSpec.ofChange octetTextsSpec)) octetTextsCard

/-- THE TIED CARD OF 'longshorelaw01.OctetPoints'. -/
def octetPointsCard : Claim7 := { stood := { row := octetPointsRow, standIns := [], harness := (true, "331953b77e3881b2dbd8cb3b2897be43f1ee1555922efe27a16e90774eb3cae2"), looks := false }, kinds := [], alts := [], laidByText := true, laidKinds := [.data, .pinned], laidTests := true, laidLooks := .later }
def OctetPointsCardSaid : Prop := Claim7.holds Tryd.pinned (.plain (OpenSpec.ofChange octetPointsSpec)) octetPointsCard

/-- THE TIED CARD OF 'longshorelaw01.OctetSums'. -/
def octetSumsCard : Claim7 := { stood := { row := octetSumsRow, standIns := [], harness := (true, "331953b77e3881b2dbd8cb3b2897be43f1ee1555922efe27a16e90774eb3cae2"), looks := false }, kinds := [], alts := [], laidByText := true, laidKinds := [.data, .pinned], laidTests := true, laidLooks := .later }
def OctetSumsCardSaid : Prop := Claim7.holds Tryd.pinned (.plain (OpenSpec.ofChange octetSumsSpec)) octetSumsCard

/-- THE TIED CARD OF 'longshorelaw01.OctetJoined'. -/
def octetJoinedCard : Claim7 := { stood := { row := octetJoinedRow, standIns := [], harness := (true, "331953b77e3881b2dbd8cb3b2897be43f1ee1555922efe27a16e90774eb3cae2"), looks := false }, kinds := [], alts := [], laidByText := true, laidKinds := [.data, .pinned], laidTests := true, laidLooks := .later }
def OctetJoinedCardSaid : Prop := Claim7.holds Tryd.pinned (.plain (OpenSpec.ofChange octetJoinedSpec)) octetJoinedCard

/-- THE TIED CARD OF 'longshorelaw01.OctetTurned'. -/
def octetTurnedCard : Claim7 := { stood := { row := octetTurnedRow, standIns := [], harness := (true, "331953b77e3881b2dbd8cb3b2897be43f1ee1555922efe27a16e90774eb3cae2"), looks := false }, kinds := [], alts := [], laidByText := true, laidKinds := [.data, .pinned], laidTests := true, laidLooks := .later }
def OctetTurnedCardSaid : Prop := Claim7.holds Tryd.pinned (.plain (OpenSpec.ofChange octetTurnedSpec)) octetTurnedCard

/-- THE TIED CARD OF 'longshorelaw01.OctetSerial'. -/
def octetSerialCard : Claim7 := { stood := { row := octetSerialRow, standIns := [], harness := (true, "331953b77e3881b2dbd8cb3b2897be43f1ee1555922efe27a16e90774eb3cae2"), looks := false }, kinds := [], alts := [], laidByText := true, laidKinds := [.data, .pinned], laidTests := true, laidLooks := .later }
def OctetSerialCardSaid : Prop := Claim7.holds Tryd.pinned (.plain (OpenSpec.ofChange octetSerialSpec)) octetSerialCard

/-- THE SECOND FORM's CARD OF 'longshorelaw01.OctetNumbers'. -/
def octetNumbersUptoCard : Claim7 := { stood := { row := octetNumbersUptoRow, standIns := [], harness := (true, "331953b77e3881b2dbd8cb3b2897be43f1ee1555922efe27a16e90774eb3cae2"), looks := false }, kinds := [], alts := [], laidByText := true, laidKinds := [.data, .pinned], laidTests := true, laidLooks := .later }
def OctetNumbersUptoCardSaid : Prop := Claim7.holds Tryd.pinned (.plain (OpenSpec.upto octetNumbersSpec)) octetNumbersUptoCard

/-- THE SECOND FORM's CARD OF 'longshorelaw01.OctetPuts'. -/
def octetPutsUptoCard : Claim7 := { stood := { row := octetPutsUptoRow, standIns := [], harness := (true, "331953b77e3881b2dbd8cb3b2897be43f1ee1555922efe27a16e90774eb3cae2"), looks := false }, kinds := [], alts := [], laidByText := true, laidKinds := [.data, .pinned], laidTests := true, laidLooks := .later }
def OctetPutsUptoCardSaid : Prop := Claim7.holds Tryd.pinned (.plain (OpenSpec.upto octetPutsSpec)) octetPutsUptoCard

/-- THE SECOND FORM's CARD OF 'longshorelaw01.OctetGets'. -/
def octetGetsUptoCard : Claim7 := { stood := { row := octetGetsUptoRow, standIns := [], harness := (true, "331953b77e3881b2dbd8cb3b2897be43f1ee1555922efe27a16e90774eb3cae2"), looks := false }, kinds := [], alts := [], laidByText := true, laidKinds := [.data, .pinned], laidTests := true, laidLooks := .later }
def OctetGetsUptoCardSaid : Prop := Claim7.holds Tryd.pinned (.plain (OpenSpec.upto octetGetsSpec)) octetGetsUptoCard

/-- THE SECOND FORM's CARD OF 'longshorelaw01.OctetTexts'. -/
def octetTextsUptoCard : Claim7 := { stood := { row := octetTextsUptoRow, standIns := [], harness := (true, "331953b77e3881b2dbd8cb3b2897be43f1ee1555922efe27a16e90774eb3cae2"), looks := false }, kinds := [], alts := [], laidByText := true, laidKinds := [.data, .pinned], laidTests := true, laidLooks := .later }
def OctetTextsUptoCardSaid : Prop := Claim7.holds Tryd.pinned (.plain (OpenSpec.upto octetTextsSpec)) octetTextsUptoCard

/-- THE SECOND FORM's CARD OF 'longshorelaw01.OctetPoints'. -/
def octetPointsUptoCard : Claim7 := { stood := { row := octetPointsUptoRow, standIns := [], harness := (true, "331953b77e3881b2dbd8cb3b2897be43f1ee1555922efe27a16e90774eb3cae2"), looks := false }, kinds := [], alts := [], laidByText := true, laidKinds := [.data, .pinned], laidTests := true, laidLooks := .later }
def OctetPointsUptoCardSaid : Prop := Claim7.holds Tryd.pinned (.plain (OpenSpec.upto octetPointsSpec)) octetPointsUptoCard

/-- THE SECOND FORM's CARD OF 'longshorelaw01.OctetSums'. -/
def octetSumsUptoCard : Claim7 := { stood := { row := octetSumsUptoRow, standIns := [], harness := (true, "331953b77e3881b2dbd8cb3b2897be43f1ee1555922efe27a16e90774eb3cae2"), looks := false }, kinds := [], alts := [], laidByText := true, laidKinds := [.data, .pinned], laidTests := true, laidLooks := .later }
def OctetSumsUptoCardSaid : Prop := Claim7.holds Tryd.pinned (.plain (OpenSpec.upto octetSumsSpec)) octetSumsUptoCard

/-- THE SECOND FORM's CARD OF 'longshorelaw01.OctetJoined'. -/
def octetJoinedUptoCard : Claim7 := { stood := { row := octetJoinedUptoRow, standIns := [], harness := (true, "331953b77e3881b2dbd8cb3b2897be43f1ee1555922efe27a16e90774eb3cae2"), looks := false }, kinds := [], alts := [], laidByText := true, laidKinds := [.data, .pinned], laidTests := true, laidLooks := .later }
def OctetJoinedUptoCardSaid : Prop := Claim7.holds Tryd.pinned (.plain (OpenSpec.upto octetJoinedSpec)) octetJoinedUptoCard

/-- THE SECOND FORM's CARD OF 'longshorelaw01.OctetTurned'. -/
def octetTurnedUptoCard : Claim7 := { stood := { row := octetTurnedUptoRow, standIns := [], harness := (true, "331953b77e3881b2dbd8cb3b2897be43f1ee1555922efe27a16e90774eb3cae2"), looks := false }, kinds := [], alts := [], laidByText := true, laidKinds := [.data, .pinned], laidTests := true, laidLooks := .later }
def OctetTurnedUptoCardSaid : Prop := Claim7.holds Tryd.pinned (.plain (OpenSpec.upto octetTurnedSpec)) octetTurnedUptoCard

/-- THE SECOND FORM's CARD OF 'longshorelaw01.OctetSerial'. -/
def octetSerialUptoCard : Claim7 := { stood := { row := octetSerialUptoRow, standIns := [], harness := (true, "331953b77e3881b2dbd8cb3b2897be43f1ee1555922efe27a16e90774eb3cae2"), looks := false }, kinds := [], alts := [], laidByText := true, laidKinds := [.data, .pinned], laidTests := true, laidLooks := .later }
def OctetSerialUptoCardSaid : Prop := Claim7.holds Tryd.pinned (.plain (OpenSpec.upto octetSerialSpec)) octetSerialUptoCard
end Rows
end Go.Proofs.YtabemlpkajhglaaDoor
