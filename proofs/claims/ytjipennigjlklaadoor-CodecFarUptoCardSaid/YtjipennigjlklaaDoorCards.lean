/-
  DERIVED. GIVEN WITH THE SEED: THE CARDS: each row of YtjipennigjlklaaDoorRows.lean that lists a variable, with what it lists TIED to the program's text (the seventh form; the later family's looks); each row that meets fmt, with fmt's text TOLD by the authors' own Lean function (tested against real Go, not proved from fmt's source: count such statements apart). THE CARD IS WHAT COUNTS. Prove the row's statement (the work); the ties are given (YtjipennigjlklaaDoorTie.lean); close each card by the builder's one call (the guide's Derived/Test/ToyasCard.lean, 'card_holds'). Laid BY PROGRAM, IN A SANDBOX (cutbox-door.mjs). By AI agents, Wed Nov 11 2026. No macro, syntax, notation, axiom, sorry.
-/
import Derived.Test.YtjipennigjlklaaDoorRows
import GoSem.ClaimSeven
namespace Go.Proofs.YtjipennigjlklaaDoor
namespace Rows

/-- THE TIED CARD OF 'longshorelaw03.CodecCuts'. -/
def codecCutsCard : Claim7 := { stood := { row := codecCutsRow, standIns := [], harness := (true, "1143f4a646f6820704c387fe9eae9fbf98940d000948431e6a0be64c6c2b2950"), looks := true }, kinds := [], alts := [], laidByText := true, laidKinds := [.data, .pinned], laidTests := true, laidLooks := .later }
def CodecCutsCardSaid : Prop := Claim7.holds Tryd.pinned (.plain (OpenSpec.ofChange codecCutsSpec)) codecCutsCard

/-- THE TIED CARD OF 'longshorelaw03.CodecBack'. -/
def codecBackCard : Claim7 := { stood := { row := codecBackRow, standIns := [], harness := (true, "1143f4a646f6820704c387fe9eae9fbf98940d000948431e6a0be64c6c2b2950"), looks := true }, kinds := [], alts := [], laidByText := true, laidKinds := [.data, .pinned], laidTests := true, laidLooks := .later }
def CodecBackCardSaid : Prop := Claim7.holds Tryd.pinned (.plain (OpenSpec.ofChange codecBackSpec)) codecBackCard

/-- THE TIED CARD OF 'longshorelaw03.CodecAgain'. -/
def codecAgainCard : Claim7 := { stood := { row := codecAgainRow, standIns := [], harness := (true, "1143f4a646f6820704c387fe9eae9fbf98940d000948431e6a0be64c6c2b2950"), looks := true }, kinds := [], alts := [], laidByText := true, laidKinds := [.data, .pinned], laidTests := true, laidLooks := .later }
def CodecAgainCardSaid : Prop := Claim7.holds Tryd.pinned (.plain (OpenSpec.ofChange codecAgainSpec)) codecAgainCard

/-- THE TIED CARD OF 'longshorelaw03.CodecApart'. -/
def codecApartCard : Claim7 := { stood := { row := codecApartRow, standIns := [], harness := (true, "1143f4a646f6820704c387fe9eae9fbf98940d000948431e6a0be64c6c2b2950"), looks := true }, kinds := [], alts := [], laidByText := true, laidKinds := [.data, .pinned], laidTests := true, laidLooks := .later }
def CodecApartCardSaid : Prop := Claim7.holds Tryd.pinned (.plain (OpenSpec.ofChange codecApartSpec)) codecApartCard

/-- THE TIED CARD OF 'longshorelaw03.CodecFar'. -/
def codecFarCard : Claim7 := { stood := { row := codecFarRow, standIns := [], harness := (true, "1143f4a646f6820704c387fe9eae9fbf98940d000948431e6a0be64c6c2b2950"), looks := true }, kinds := [], alts := [], laidByText := true, laidKinds := [.data, .pinned], laidTests := true, laidLooks := .later }
def CodecFarCardSaid : Prop := Claim7.holds Tryd.pinned (.plain (OpenSpec.ofChange codecFarSpec)) codecFarCard

/-- THE SECOND FORM's CARD OF 'longshorelaw03.CodecCuts'. -/
def codecCutsUptoCard : Claim7 := { stood := { row := codecCutsUptoRow, standIns := [], harness := (true, "1143f4a646f6820704c387fe9eae9fbf98940d000948431e6a0be64c6c2b2950"), looks := true }, kinds := [], alts := [], laidByText := true, laidKinds := [.data, .pinned], laidTests := true, laidLooks := .later }
def CodecCutsUptoCardSaid : Prop := Claim7.holds Tryd.pinned (.plain (OpenSpec.upto codecCutsSpec)) codecCutsUptoCard

/-- THE SECOND FORM's CARD OF 'longshorelaw03.CodecBack'. -/
def codecBackUptoCard : Claim7 := { stood := { row := codecBackUptoRow, standIns := [], harness := (true, "1143f4a646f6820704c387fe9eae9fbf98940d000948431e6a0be64c6c2b2950"), looks := true }, kinds := [], alts := [], laidByText := true, laidKinds := [.data, .pinned], laidTests := true, laidLooks := .later }
def CodecBackUptoCardSaid : Prop := Claim7.holds Tryd.pinned (.plain (OpenSpec.upto codecBackSpec)) codecBackUptoCard

/-- THE SECOND FORM's CARD OF 'longshorelaw03.CodecAgain'. -/
def codecAgainUptoCard : Claim7 := { stood := { row := codecAgainUptoRow, standIns := [], harness := (true, "1143f4a646f6820704c387fe9eae9fbf98940d000948431e6a0be64c6c2b2950"), looks := true }, kinds := [], alts := [], laidByText := true, laidKinds := [.data, .pinned], laidTests := true, laidLooks := .later }
def CodecAgainUptoCardSaid : Prop := Claim7.holds Tryd.pinned (.plain (OpenSpec.upto codecAgainSpec)) codecAgainUptoCard

/-- THE SECOND FORM's CARD OF 'longshorelaw03.CodecApart'. -/
def codecApartUptoCard : Claim7 := { stood := { row := codecApartUptoRow, standIns := [], harness := (true, "1143f4a646f6820704c387fe9eae9fbf98940d000948431e6a0be64c6c2b2950"), looks := true }, kinds := [], alts := [], laidByText := true, laidKinds := [.data, .pinned], laidTests := true, laidLooks := .later }
def CodecApartUptoCardSaid : Prop := Claim7.holds Tryd.pinned (.plain (OpenSpec.upto codecApartSpec)) codecApartUptoCard

/-- THE SECOND FORM's CARD OF 'longshorelaw03.CodecFar'. -/
def codecFarUptoCard : Claim7 := { stood := { row := codecFarUptoRow, standIns := [], harness := (true, "1143f4a646f6820704c387fe9eae9fbf98940d000948431e6a0be64c6c2b2950"), looks := true }, kinds := [], alts := [], laidByText := true, laidKinds := [.data, .pinned], laidTests := true, laidLooks := .later }
def CodecFarUptoCardSaid : Prop := Claim7.holds Tryd.pinned (.plain (OpenSpec.upto codecFarSpec)) codecFarUptoCard
end Rows
end Go.Proofs.YtjipennigjlklaaDoor
