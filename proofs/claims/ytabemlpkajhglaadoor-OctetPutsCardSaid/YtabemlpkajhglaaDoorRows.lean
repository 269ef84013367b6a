/-
  NARROWER THAN 'FOR EVERY INPUT', by the rows' own cells (each row's printed sentence says how): OctetNumbers: laid · OctetPuts: laid · OctetGets: laid · OctetTexts: laid · OctetPoints: laid · OctetSums: laid · OctetJoined: laid · OctetTurned: laid · OctetSerial: laid.
  DERIVED. THE GIVEN ROWS OF THIS SEAT. 9 by the template 'for every input the law returns true; each argument reads behind the call as it read before'; 0 by the template 'total and deterministic' (their statements: YtabemlpkajhglaaDoorTotals.lean).
  GIVEN WITH THE SEED: the statements are not yours to turn. If you find one false, say at which input.
  Laid BY PROGRAM, IN A SANDBOX (cutbox-rows.mjs): the forced cells as the released guide's own fill.sh prints them over the translation 88a9a78b57b27173… (all of the seat's roots in one cut). By AI agents, Wed Nov 11 2026. No macro, syntax, notation, axiom, sorry.
-/
import Derived.Test.YtabemlpkajhglaaDoorChecked
import GoSem.PinnedTables
import GoSem.Claim
import GoSem.ClaimJoined
import GoSem.ClaimMapViews
import Derived.JoinedTies
import Derived.KernelRfl
namespace Go.Proofs.YtabemlpkajhglaaDoor
/- THE CELL 'sum', in the pinned program and in every row, IS THE sha256 OF THE DUMP (.gsa) THAT YtabemlpkajhglaaDoorProg.lean LOADS. Nothing in Lean hashes anything: it is a label: what it is worth is what the hold of that sum in a sandbox is worth. -/
noncomputable def Tryd.pinned : Pinned := { name := "ytabemlpkajhglaadoor", sum := "88a9a78b57b2717374672510fcf454b82e0855266c75d6a07f0786d3da2dbcde", checked := Tryd.checked }
namespace Rows
def none {H : Type} : Left H := { results := [], args := [] }

/- WHAT THE LISTED PACKAGE-LEVEL VARIABLES READ AS WHEN THE CALL BEGINS. Each datum BY PROGRAM (the guide's laid-datum.mjs) off the statement by which the dump's own 'gosem.cut.vars' lays the variable. In a bare row this is a premise. The card (YtabemlpkajhglaaDoorCards.lean) ties it to the program's text. -/
def laid_unicode_utf8_acceptRanges {H : Type} : DataW H := .agg [.agg [.lit (.int .u8 128), .lit (.int .u8 191)], .agg [.lit (.int .u8 160), .lit (.int .u8 191)], .agg [.lit (.int .u8 128), .lit (.int .u8 159)], .agg [.lit (.int .u8 144), .lit (.int .u8 191)], .agg [.lit (.int .u8 128), .lit (.int .u8 143)], .agg [.lit (.int .u8 0), .lit (.int .u8 0)], .agg [.lit (.int .u8 0), .lit (.int .u8 0)], .agg [.lit (.int .u8 0), .lit (.int .u8 0)], .agg [.lit (.int .u8 0), .lit (.int .u8 0)], .agg [.lit (.int .u8 0), .lit (.int .u8 0)], .agg [.lit (.int .u8 0), .lit (.int .u8 0)], .agg [.lit (.int .u8 0), .lit (.int .u8 0)], .agg [.lit (.int .u8 0), .lit (.int .u8 0)], .agg [.lit (.int .u8 0), .lit (.int .u8 0)], .agg [.lit (.int .u8 0), .lit (.int .u8 0)], .agg [.lit (.int .u8 0), .lit (.int .u8 0)]]
/-- One of Go's own tables, pinned by name: the form's constant. -/
def laid_unicode_utf8_first : DataW Unit := Go.Pinned.utf8First

/-- 'longshorelaw01.OctetNumbers': WHATEVER THE INPUT: true; the input reads as it did. -/
def octetNumbersSpec : ChangeSpec := { name := "octetNumbers", fn := fun _ => fun
  | [] => { results := [.lit (.bool true)], args := [] }
  | _ => none }
def octetNumbersRow : OpenClaim := { program := "ytabemlpkajhglaadoor", sum := "88a9a78b57b2717374672510fcf454b82e0855266c75d6a07f0786d3da2dbcde", func := "longshore/longshorelaw01.OctetNumbers", spec := "octetNumbers", named := ["unicode/utf8.first", "unicode/utf8.acceptRanges"], apart := false, laid := [("unicode/utf8.acceptRanges", laid_unicode_utf8_acceptRanges), ("unicode/utf8.first", laid_unicode_utf8_first)] }
def OctetNumbersSaid : Prop := octetNumbersRow.holds Tryd.pinned (OpenSpec.ofChange octetNumbersSpec)

/-- ITS FALSE NEIGHBOUR: 'it returns false'. Refute it at one input. -/
def octetNumbersWrong : ChangeSpec := { name := "octetNumbers", fn := fun _ => fun
  | [] => { results := [.lit (.bool false)], args := [] }
  | _ => none }
def OctetNumbersWrongFalsely : Prop := octetNumbersRow.holds Tryd.pinned (OpenSpec.ofChange octetNumbersWrong)

/-- 'longshorelaw01.OctetPuts': WHATEVER THE INPUT: true; the input reads as it did. -/
def octetPutsSpec : ChangeSpec := { name := "octetPuts", fn := fun _ => fun
  | [d1, d2, d3] => { results := [.lit (.bool true)], args := [d1, d2, d3] }
  | _ => none }
def octetPutsRow : OpenClaim := { program := "ytabemlpkajhglaadoor", sum := "88a9a78b57b2717374672510fcf454b82e0855266c75d6a07f0786d3da2dbcde", func := "longshore/longshorelaw01.OctetPuts", spec := "octetPuts", named := ["unicode/utf8.first", "unicode/utf8.acceptRanges"], apart := false, laid := [("unicode/utf8.acceptRanges", laid_unicode_utf8_acceptRanges), ("unicode/utf8.first", laid_unicode_utf8_first)] }
def OctetPutsSaid : Prop := octetPutsRow.holds Tryd.pinned (OpenSpec.ofChange octetPutsSpec)

/-- ITS FALSE NEIGHBOUR: 'it returns false'. Refute it at one input. -/
def octetPutsWrong : ChangeSpec := { name := "octetPuts", fn := fun _ => fun
  | [d1, d2, d3] => { results := [.lit (.bool false)], args := [d1, d2, d3] }
  | _ => none }
def OctetPutsWrongFalsely : Prop := octetPutsRow.holds Tryd.pinned (OpenSpec.ofChange octetPutsWrong)

/-- 'longshorelaw01.OctetGets': WHATEVER THE INPUT: true; the input reads as it did. -/
def octetGetsSpec : ChangeSpec := { name := "octetGets", fn := fun _ => fun
  | [d1, d2, d3] => { results := [.lit (.bool true)], args := [d1, d2, d3] }
  | _ => none }
def octetGetsRow : OpenClaim := { program := "ytabemlpkajhglaadoor", sum := "88a9a78b57b2717374672510fcf454b82e0855266c75d6a07f0786d3da2dbcde", func := "longshore/longshorelaw01.OctetGets", spec := "octetGets", named := ["unicode/utf8.first", "unicode/utf8.acceptRanges"], apart := false, laid := [("unicode/utf8.acceptRanges", laid_unicode_utf8_acceptRanges), ("unicode/utf8.first", laid_unicode_utf8_first)] }
def OctetGetsSaid : Prop := octetGetsRow.holds Tryd.pinned (OpenSpec.ofChange octetGetsSpec)

/-- ITS FALSE NEIGHBOUR: 'it returns false'. Refute it at one input. -/
def octetGetsWrong : ChangeSpec := { name := "octetGets", fn := fun _ => fun
  | [d1, d2, d3] => { results := [.lit (.bool false)], args := [d1, d2, d3] }
  | _ => none }
def OctetGetsWrongFalsely : Prop := octetGetsRow.holds Tryd.pinned (OpenSpec.ofChange octetGetsWrong)

/-- 'longshorelaw01.OctetTexts': WHATEVER THE INPUT: true; the input reads as it did. -/
def octetTextsSpec : ChangeSpec := { name := "octetTexts", fn := fun _ => fun
  | [d] => { results := [.lit (.bool true)], args := [d] }
  | _ => none }
def octetTextsRow : OpenClaim := { program := "ytabemlpkajhglaadoor", sum := "88a9a78b57b2717374672510fcf454b82e0855266c75d6a07f0786d3da2dbcde", func := "longshore/longshorelaw01.OctetTexts", spec := "octetTexts", named := ["unicode/utf8.first", "unicode/utf8.acceptRanges"], apart := false, laid := [("unicode/utf8.acceptRanges", laid_unicode_utf8_acceptRanges), ("unicode/utf8.first", laid_unicode_utf8_first)] }
def OctetTextsSaid : Prop := octetTextsRow.holds Tryd.pinned (OpenSpec.ofChange octetTextsSpec)

/-- ITS FALSE NEIGHBOUR: 'it returns false'. Refute it at one input. -/
def octetTextsWrong : ChangeSpec := { name := "octetTexts", fn := fun _ => fun
  | [d] => { results := [.lit (.bool false)], args := [d] }
  | _ => none }
def OctetTextsWrongFalsely : Prop := octetTextsRow.holds Tryd.pinned (OpenSpec.ofChange octetTextsWrong)

/-- 'longshorelaw01.OctetPoints': WHATEVER THE INPUT: true; the input reads as it did. -/
def octetPointsSpec : ChangeSpec := { name := "octetPoints", fn := fun _ => fun
  | [d1, d2, d3] => { results := [.lit (.bool true)], args := [d1, d2, d3] }
  | _ => none }
def octetPointsRow : OpenClaim := { program := "ytabemlpkajhglaadoor", sum := "88a9a78b57b2717374672510fcf454b82e0855266c75d6a07f0786d3da2dbcde", func := "longshore/longshorelaw01.OctetPoints", spec := "octetPoints", named := ["unicode/utf8.first", "unicode/utf8.acceptRanges"], apart := false, laid := [("unicode/utf8.acceptRanges", laid_unicode_utf8_acceptRanges), ("unicode/utf8.first", laid_unicode_utf8_first)] }
def OctetPointsSaid : Prop := octetPointsRow.holds Tryd.pinned (OpenSpec.ofChange octetPointsSpec)

/-- ITS FALSE NEIGHBOUR: 'it returns false'. Refute it at one input. -/
def octetPointsWrong : ChangeSpec := { name := "octetPoints", fn := fun _ => fun
  | [d1, d2, d3] => { results := [.lit (.bool false)], args := [d1, d2, d3] }
  | _ => none }
def OctetPointsWrongFalsely : Prop := octetPointsRow.holds Tryd.pinned (OpenSpec.ofChange octetPointsWrong)

/-- 'longshorelaw01.OctetSums': WHATEVER THE INPUT: true; the input reads as it did. -/
def octetSumsSpec : ChangeSpec := { name := "octetSums", fn := fun _ => fun
  | [d] => { results := [.lit (.bool true)], args := [d] }
  | _ => none }
def octetSumsRow : OpenClaim := { program := "ytabemlpkajhglaadoor", sum := "88a9a78b57b2717374672510fcf454b82e0855266c75d6a07f0786d3da2dbcde", func := "longshore/longshorelaw01.OctetSums", spec := "octetSums", named := ["unicode/utf8.first", "unicode/utf8.acceptRanges"], apart := false, laid := [("unicode/utf8.acceptRanges", laid_unicode_utf8_acceptRanges), ("unicode/utf8.first", laid_unicode_utf8_first)] }
def OctetSumsSaid : Prop := octetSumsRow.holds Tryd.pinned (OpenSpec.ofChange octetSumsSpec)

/-- ITS FALSE NEIGHBOUR: 'it returns false'. Refute it at one input. -/
def octetSumsWrong : ChangeSpec := { name := "octetSums", fn := fun _ => fun
  | [d] => { results := [.lit (.bool false)], args := [d] }
  | _ => none }
def OctetSumsWrongFalsely : Prop := octetSumsRow.holds Tryd.pinned (OpenSpec.ofChange octetSumsWrong)

/-- 'longshorelaw01.OctetJoined': WHATEVER THE INPUT: true; the input reads as it did. -/
def octetJoinedSpec : ChangeSpec := { name := "octetJoined", fn := fun _ => fun
  | [d1, d2] => { results := [.lit (.bool true)], args := [d1, d2] }
  | _ => none }
def octetJoinedRow : OpenClaim := { program := "ytabemlpkajhglaadoor", sum := "88a9a78b57b2717374672510fcf454b82e0855266c75d6a07f0786d3da2dbcde", func := "longshore/longshorelaw01.OctetJoined", spec := "octetJoined", named := ["unicode/utf8.first", "unicode/utf8.acceptRanges"], apart := false, laid := [("unicode/utf8.acceptRanges", laid_unicode_utf8_acceptRanges), ("unicode/utf8.first", laid_unicode_utf8_first)] }
def OctetJoinedSaid : Prop := octetJoinedRow.holds Tryd.pinned (OpenSpec.ofChange octetJoinedSpec)

/-- ITS FALSE NEIGHBOUR: 'it returns false'. Refute it at one input. -/
def octetJoinedWrong : ChangeSpec := { name := "octetJoined", fn := fun _ => fun
  | [d1, d2] => { results := [.lit (.bool false)], args := [d1, d2] }
  | _ => none }
def OctetJoinedWrongFalsely : Prop := octetJoinedRow.holds Tryd.pinned (OpenSpec.ofChange octetJoinedWrong)

/-- 'longshorelaw01.OctetTurned': WHATEVER THE INPUT: true; the input reads as it did. -/
def octetTurnedSpec : ChangeSpec := { name := "octetTurned", fn := fun _ => fun
  | [d1, d2, d3] => { results := [.lit (.bool true)], args := [d1, d2, d3] }
  | _ => none }
def octetTurnedRow : OpenClaim := { program := "ytabemlpkajhglaadoor", sum := "88a9a78b57b2717374672510fcf454b82e0855266c75d6a07f0786d3da2dbcde", func := "longshore/longshorelaw01.OctetTurned", spec := "octetTurned", named := ["unicode/utf8.first", "unicode/utf8.acceptRanges"], apart := false, laid := [("unicode/utf8.acceptRanges", laid_unicode_utf8_acceptRanges), ("unicode/utf8.first", laid_unicode_utf8_first)] }
def OctetTurnedSaid : Prop := octetTurnedRow.holds Tryd.pinned (OpenSpec.ofChange octetTurnedSpec)

/-- ITS FALSE NEIGHBOUR: 'it returns false'. Refute it at one input. -/
def octetTurnedWrong : ChangeSpec := { name := "octetTurned", fn := fun _ => fun
  | [d1, d2, d3] => { results := [.lit (.bool false)], args := [d1, d2, d3] }
  | _ => none }
def OctetTurnedWrongFalsely : Prop := octetTurnedRow.holds Tryd.pinned (OpenSpec.ofChange octetTurnedWrong)

/-- 'longshorelaw01.OctetSerial': WHATEVER THE INPUT: true; the input reads as it did. -/
def octetSerialSpec : ChangeSpec := { name := "octetSerial", fn := fun _ => fun
  | [d1, d2] => { results := [.lit (.bool true)], args := [d1, d2] }
  | _ => none }
def octetSerialRow : OpenClaim := { program := "ytabemlpkajhglaadoor", sum := "88a9a78b57b2717374672510fcf454b82e0855266c75d6a07f0786d3da2dbcde", func := "longshore/longshorelaw01.OctetSerial", spec := "octetSerial", named := ["unicode/utf8.first", "unicode/utf8.acceptRanges"], apart := false, laid := [("unicode/utf8.acceptRanges", laid_unicode_utf8_acceptRanges), ("unicode/utf8.first", laid_unicode_utf8_first)] }
def OctetSerialSaid : Prop := octetSerialRow.holds Tryd.pinned (OpenSpec.ofChange octetSerialSpec)

/-- ITS FALSE NEIGHBOUR: 'it returns false'. Refute it at one input. -/
def octetSerialWrong : ChangeSpec := { name := "octetSerial", fn := fun _ => fun
  | [d1, d2] => { results := [.lit (.bool false)], args := [d1, d2] }
  | _ => none }
def OctetSerialWrongFalsely : Prop := octetSerialRow.holds Tryd.pinned (OpenSpec.ofChange octetSerialWrong)

/- THE SECOND FORM. 'bulk': how many values and letters a reading holds, each counted each time it is reached (what is shared counts as often as it is met; a slice's spare places count too). A statement '..UptoSaid' is the law's where the arguments, and the package variables that the reading takes, are together of bulk at most 1048576: NARROWER than '..Said'. Prove '..Said' where nothing that the law and all that it calls make is longer than what came in: it says more and counts as full. Else prove '..UptoSaid'. A law counts once. -/
mutual
def uptoBulk {H : Type} : DataW H → Nat
  | .lit (.string bytes) => bytes.length + 1
  | .lit _ => 1
  | .nil => 1
  | .ptr d => uptoBulk d + 1
  | .slice elems spare => uptoBulkAll elems + uptoBulkAll spare + 1
  | .agg parts => uptoBulkAll parts + 1
  | .iface _ d => uptoBulk d + 1
  | .map entries => uptoBulkEntries entries + 1
  | .held _ => 1
def uptoBulkAll {H : Type} : List (DataW H) → Nat
  | [] => 0
  | d :: r => uptoBulk d + uptoBulkAll r
def uptoBulkEntries {H : Type} : List (Lit × DataW H) → Nat
  | [] => 0
  | x :: r => uptoBulkEntry x + uptoBulkEntries r
def uptoBulkEntry {H : Type} : Lit × DataW H → Nat
  | (.string bytes, d) => bytes.length + uptoBulk d + 1
  | (_, d) => uptoBulk d + 1
 end
def uptoSmall : (H : Type) → List (DataW H) → Bool := fun _ ds => decide (uptoBulkAll ds ≤ 1048576)
def OpenSpec.upto (s : _root_.Go.ChangeSpec) : _root_.Go.OpenSpec := { _root_.Go.OpenSpec.ofChange s with cond := some uptoSmall }

/-- 'longshorelaw01.OctetNumbers', WHERE WHAT IT READS IS OF BULK AT MOST 1048576: true; the input reads as it did. -/
def octetNumbersUptoRow : OpenClaim := { program := "ytabemlpkajhglaadoor", sum := "88a9a78b57b2717374672510fcf454b82e0855266c75d6a07f0786d3da2dbcde", func := "longshore/longshorelaw01.OctetNumbers", spec := "octetNumbers", named := ["unicode/utf8.first", "unicode/utf8.acceptRanges"], apart := false, laid := [("unicode/utf8.acceptRanges", laid_unicode_utf8_acceptRanges), ("unicode/utf8.first", laid_unicode_utf8_first)], narrowed := true }
def OctetNumbersUptoSaid : Prop := octetNumbersUptoRow.holds Tryd.pinned (OpenSpec.upto octetNumbersSpec)

/-- 'longshorelaw01.OctetPuts', WHERE WHAT IT READS IS OF BULK AT MOST 1048576: true; the input reads as it did. -/
def octetPutsUptoRow : OpenClaim := { program := "ytabemlpkajhglaadoor", sum := "88a9a78b57b2717374672510fcf454b82e0855266c75d6a07f0786d3da2dbcde", func := "longshore/longshorelaw01.OctetPuts", spec := "octetPuts", named := ["unicode/utf8.first", "unicode/utf8.acceptRanges"], apart := false, laid := [("unicode/utf8.acceptRanges", laid_unicode_utf8_acceptRanges), ("unicode/utf8.first", laid_unicode_utf8_first)], narrowed := true }
def OctetPutsUptoSaid : Prop := octetPutsUptoRow.holds Tryd.pinned (OpenSpec.upto octetPutsSpec)

/-- 'longshorelaw01.OctetGets', WHERE WHAT IT READS IS OF BULK AT MOST 1048576: true; the input reads as it did. -/
def octetGetsUptoRow : OpenClaim := { program := "ytabemlpkajhglaadoor", sum := "88a9a78b57b2717374672510fcf454b82e0855266c75d6a07f0786d3da2dbcde", func := "longshore/longshorelaw01.OctetGets", spec := "octetGets", named := ["unicode/utf8.first", "unicode/utf8.acceptRanges"], apart := false, laid := [("unicode/utf8.acceptRanges", laid_unicode_utf8_acceptRanges), ("unicode/utf8.first", laid_unicode_utf8_first)], narrowed := true }
def OctetGetsUptoSaid : Prop := octetGetsUptoRow.holds Tryd.pinned (OpenSpec.upto octetGetsSpec)

/-- 'longshorelaw01.OctetTexts', WHERE WHAT IT READS IS OF BULK AT MOST 1048576: true; the input reads as it did. -/
def octetTextsUptoRow : OpenClaim := { program := "ytabemlpkajhglaadoor", sum := "88a9a78b57b2717374672510fcf454b82e0855266c75d6a07f0786d3da2dbcde", func := "longshore/longshorelaw01.OctetTexts", spec := "octetTexts", named := ["unicode/utf8.first", "unicode/utf8.acceptRanges"], apart := false, laid := [("unicode/utf8.acceptRanges", laid_unicode_utf8_acceptRanges), ("unicode/utf8.first", laid_unicode_utf8_first)], narrowed := true }
def OctetTextsUptoSaid : Prop := octetTextsUptoRow.holds Tryd.pinned (OpenSpec.upto octetTextsSpec)

/-- 'longshorelaw01.OctetPoints', WHERE WHAT IT READS IS OF BULK AT MOST 1048576: true; the input reads as it did. -/
def octetPointsUptoRow : OpenClaim := { program := "ytabemlpkajhglaadoor", sum := "88a9a78b57b2717374672510fcf454b82e0855266c75d6a07f0786d3da2dbcde", func := "longshore/longshorelaw01.OctetPoints", spec := "octetPoints", named := ["unicode/utf8.first", "unicode/utf8.acceptRanges"], apart := false, laid := [("unicode/utf8.acceptRanges", laid_unicode_utf8_acceptRanges), ("unicode/utf8.first", laid_unicode_utf8_first)], narrowed := true }
def OctetPointsUptoSaid : Prop := octetPointsUptoRow.holds Tryd.pinned (OpenSpec.upto octetPointsSpec)

/-- 'longshorelaw01.OctetSums', WHERE WHAT IT READS IS OF BULK AT MOST 1048576: true; the input reads as it did. -/
def octetSumsUptoRow : OpenClaim := { program := "ytabemlpkajhglaadoor", sum := "88a9a78b57b2717374672510fcf454b82e0855266c75d6a07f0786d3da2dbcde", func := "longshore/longshorelaw01.OctetSums", spec := "octetSums", named := ["unicode/utf8.first", "unicode/utf8.acceptRanges"], apart := false, laid := [("unicode/utf8.acceptRanges", laid_unicode_utf8_acceptRanges), ("unicode/utf8.first", laid_unicode_utf8_first)], narrowed := true }
def OctetSumsUptoSaid : Prop := octetSumsUptoRow.holds Tryd.pinned (OpenSpec.upto octetSumsSpec)

/-- 'longshorelaw01.OctetJoined', WHERE WHAT IT READS IS OF BULK AT MOST 1048576: true; the input reads as it did. -/
def octetJoinedUptoRow : OpenClaim := { program := "ytabemlpkajhglaadoor", sum := "88a9a78b57b2717374672510fcf454b82e0855266c75d6a07f0786d3da2dbcde", func := "longshore/longshorelaw01.OctetJoined", spec := "octetJoined", named := ["unicode/utf8.first", "unicode/utf8.acceptRanges"], apart := false, laid := [("unicode/utf8.acceptRanges", laid_unicode_utf8_acceptRanges), ("unicode/utf8.first", laid_unicode_utf8_first)], narrowed := true }
def OctetJoinedUptoSaid : Prop := octetJoinedUptoRow.holds Tryd.pinned (OpenSpec.upto octetJoinedSpec)

/-- 'longshorelaw01.OctetTurned', WHERE WHAT IT READS IS OF BULK AT MOST 1048576: true; the input reads as it did. -/
def octetTurnedUptoRow : OpenClaim := { program := "ytabemlpkajhglaadoor", sum := "88a9a78b57b2717374672510fcf454b82e0855266c75d6a07f0786d3da2dbcde", func := "longshore/longshorelaw01.OctetTurned", spec := "octetTurned", named := ["unicode/utf8.first", "unicode/utf8.acceptRanges"], apart := false, laid := [("unicode/utf8.acceptRanges", laid_unicode_utf8_acceptRanges), ("unicode/utf8.first", laid_unicode_utf8_first)], narrowed := true }
def OctetTurnedUptoSaid : Prop := octetTurnedUptoRow.holds Tryd.pinned (OpenSpec.upto octetTurnedSpec)

/-- 'longshorelaw01.OctetSerial', WHERE WHAT IT READS IS OF BULK AT MOST 1048576: true; the input reads as it did. -/
def octetSerialUptoRow : OpenClaim := { program := "ytabemlpkajhglaadoor", sum := "88a9a78b57b2717374672510fcf454b82e0855266c75d6a07f0786d3da2dbcde", func := "longshore/longshorelaw01.OctetSerial", spec := "octetSerial", named := ["unicode/utf8.first", "unicode/utf8.acceptRanges"], apart := false, laid := [("unicode/utf8.acceptRanges", laid_unicode_utf8_acceptRanges), ("unicode/utf8.first", laid_unicode_utf8_first)], narrowed := true }
def OctetSerialUptoSaid : Prop := octetSerialUptoRow.holds Tryd.pinned (OpenSpec.upto octetSerialSpec)

end Rows
end Go.Proofs.YtabemlpkajhglaaDoor
