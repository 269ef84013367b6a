/-
  No cell of these rows narrows 'for every input' (looked for: loops, veiled, ifaces, maps, wideKeys, modest, calm, conditions, laid).
  DERIVED. THE GIVEN ROWS OF THIS SEAT. 5 by the template 'for every input the law returns true; each argument reads behind the call as it read before'; 0 by the template 'total and deterministic' (their statements: YtbkimebmoafbnaaTotals.lean).
  GIVEN WITH THE SEED: the statements are not yours to turn. If you find one false, say at which input.
  Laid BY PROGRAM, IN A SANDBOX (cutbox-rows.mjs): the forced cells as the released guide's own fill.sh prints them over the translation e7f6c06bf2a83fb5… (all of the seat's roots in one cut). By AI agents, Wed Nov 11 2026. No macro, syntax, notation, axiom, sorry.
-/
import Derived.Test.YtbkimebmoafbnaaChecked
import GoSem.Claim
import GoSem.ClaimJoined
import GoSem.ClaimMapViews
import Derived.JoinedTies
import Derived.KernelRfl
namespace Go.Proofs.Ytbkimebmoafbnaa
/- THE CELL 'sum', in the pinned program and in every row, IS THE sha256 OF THE DUMP (.gsa) THAT YtbkimebmoafbnaaProg.lean LOADS. Nothing in Lean hashes anything: it is a label: what it is worth is what the hold of that sum in a sandbox is worth. -/
noncomputable def Try.pinned : Pinned := { name := "ytbkimebmoafbnaa", sum := "e7f6c06bf2a83fb5ca98b2c59e2de717d0d78b305afe13a4cd020889e06bce6c", checked := Try.checked }
namespace Rows
def none {H : Type} : Left H := { results := [], args := [] }

/-- 'longshorelaw13.SessionNumbers': WHATEVER THE INPUT: true; the input reads as it did. -/
def sessionNumbersSpec : ChangeSpec := { name := "sessionNumbers", fn := fun _ => fun
  | [] => { results := [.lit (.bool true)], args := [] }
  | _ => none }
def sessionNumbersRow : OpenClaim := { program := "ytbkimebmoafbnaa", sum := "e7f6c06bf2a83fb5ca98b2c59e2de717d0d78b305afe13a4cd020889e06bce6c", func := "longshore/longshorelaw13.SessionNumbers", spec := "sessionNumbers", unfollowed := true, recurses := true, apart := false }
def SessionNumbersSaid : Prop := sessionNumbersRow.holds Try.pinned (OpenSpec.ofChange sessionNumbersSpec)

/-- ITS FALSE NEIGHBOUR: 'it returns false'. Refute it at one input. -/
def sessionNumbersWrong : ChangeSpec := { name := "sessionNumbers", fn := fun _ => fun
  | [] => { results := [.lit (.bool false)], args := [] }
  | _ => none }
def SessionNumbersWrongFalsely : Prop := sessionNumbersRow.holds Try.pinned (OpenSpec.ofChange sessionNumbersWrong)

/-- 'longshorelaw13.SessionMakes': WHATEVER THE INPUT: true; the input reads as it did. -/
def sessionMakesSpec : ChangeSpec := { name := "sessionMakes", fn := fun _ => fun
  | [d] => { results := [.lit (.bool true)], args := [d] }
  | _ => none }
def sessionMakesRow : OpenClaim := { program := "ytbkimebmoafbnaa", sum := "e7f6c06bf2a83fb5ca98b2c59e2de717d0d78b305afe13a4cd020889e06bce6c", func := "longshore/longshorelaw13.SessionMakes", spec := "sessionMakes", unfollowed := true, recurses := true, apart := false }
def SessionMakesSaid : Prop := sessionMakesRow.holds Try.pinned (OpenSpec.ofChange sessionMakesSpec)

/-- ITS FALSE NEIGHBOUR: 'it returns false'. Refute it at one input. -/
def sessionMakesWrong : ChangeSpec := { name := "sessionMakes", fn := fun _ => fun
  | [d] => { results := [.lit (.bool false)], args := [d] }
  | _ => none }
def SessionMakesWrongFalsely : Prop := sessionMakesRow.holds Try.pinned (OpenSpec.ofChange sessionMakesWrong)

/-- 'longshorelaw13.SessionRanges': WHATEVER THE INPUT: true; the input reads as it did. -/
def sessionRangesSpec : ChangeSpec := { name := "sessionRanges", fn := fun _ => fun
  | [d1, d2, d3, d4] => { results := [.lit (.bool true)], args := [d1, d2, d3, d4] }
  | _ => none }
def sessionRangesRow : OpenClaim := { program := "ytbkimebmoafbnaa", sum := "e7f6c06bf2a83fb5ca98b2c59e2de717d0d78b305afe13a4cd020889e06bce6c", func := "longshore/longshorelaw13.SessionRanges", spec := "sessionRanges", unfollowed := true, recurses := true, apart := false }
def SessionRangesSaid : Prop := sessionRangesRow.holds Try.pinned (OpenSpec.ofChange sessionRangesSpec)

/-- ITS FALSE NEIGHBOUR: 'it returns false'. Refute it at one input. -/
def sessionRangesWrong : ChangeSpec := { name := "sessionRanges", fn := fun _ => fun
  | [d1, d2, d3, d4] => { results := [.lit (.bool false)], args := [d1, d2, d3, d4] }
  | _ => none }
def SessionRangesWrongFalsely : Prop := sessionRangesRow.holds Try.pinned (OpenSpec.ofChange sessionRangesWrong)

/-- 'longshorelaw13.SessionHandles': WHATEVER THE INPUT: true; the input reads as it did. -/
def sessionHandlesSpec : ChangeSpec := { name := "sessionHandles", fn := fun _ => fun
  | [d1, d2] => { results := [.lit (.bool true)], args := [d1, d2] }
  | _ => none }
def sessionHandlesRow : OpenClaim := { program := "ytbkimebmoafbnaa", sum := "e7f6c06bf2a83fb5ca98b2c59e2de717d0d78b305afe13a4cd020889e06bce6c", func := "longshore/longshorelaw13.SessionHandles", spec := "sessionHandles", unfollowed := true, recurses := true, apart := false }
def SessionHandlesSaid : Prop := sessionHandlesRow.holds Try.pinned (OpenSpec.ofChange sessionHandlesSpec)

/-- ITS FALSE NEIGHBOUR: 'it returns false'. Refute it at one input. -/
def sessionHandlesWrong : ChangeSpec := { name := "sessionHandles", fn := fun _ => fun
  | [d1, d2] => { results := [.lit (.bool false)], args := [d1, d2] }
  | _ => none }
def SessionHandlesWrongFalsely : Prop := sessionHandlesRow.holds Try.pinned (OpenSpec.ofChange sessionHandlesWrong)

/-- 'longshorelaw13.SessionPlays': WHATEVER THE INPUT: true; the input reads as it did. -/
def sessionPlaysSpec : ChangeSpec := { name := "sessionPlays", fn := fun _ => fun
  | [d1, d2, d3] => { results := [.lit (.bool true)], args := [d1, d2, d3] }
  | _ => none }
def sessionPlaysRow : OpenClaim := { program := "ytbkimebmoafbnaa", sum := "e7f6c06bf2a83fb5ca98b2c59e2de717d0d78b305afe13a4cd020889e06bce6c", func := "longshore/longshorelaw13.SessionPlays", spec := "sessionPlays", unfollowed := true, recurses := true, apart := false }
def SessionPlaysSaid : Prop := sessionPlaysRow.holds Try.pinned (OpenSpec.ofChange sessionPlaysSpec)

/-- ITS FALSE NEIGHBOUR: 'it returns false'. Refute it at one input. -/
def sessionPlaysWrong : ChangeSpec := { name := "sessionPlays", fn := fun _ => fun
  | [d1, d2, d3] => { results := [.lit (.bool false)], args := [d1, d2, d3] }
  | _ => none }
def SessionPlaysWrongFalsely : Prop := sessionPlaysRow.holds Try.pinned (OpenSpec.ofChange sessionPlaysWrong)

/- THE SECOND FORM. 'bulk': how many values and letters a reading holds, each counted each time it is reached (what is shared counts as often as it is met; a slice's spare places count too). A statement '..UptoSaid' is the law's where the arguments, and the package variables that the reading takes, are together of bulk at most 1048576: NARROWER than '..Said'. Prove '..Said' where nothing that the law and all that it calls make is longer than what came in: it says more and counts as full. Else prove '..UptoSaid'. A law counts once. -/
mutual
def uptoBulk {H : Type} : DataW H → Nat
  | .lit (.string bytes) => bytes.length + 1
  | .lit _ => 1
  | .nil => 1
  | .ptr d => uptoBulk d + 1
  | .slice elems spare => uptoBulkAll elems + uptoBulkAll spare + 1
  | .agg parts => uptoBulkAll parts + 1
  | .iface _ d => uptoBulk d + 1
  | .map entries => uptoBulkEntries entries + 1
  | .held _ => 1
def uptoBulkAll {H : Type} : List (DataW H) → Nat
  | [] => 0
  | d :: r => uptoBulk d + uptoBulkAll r
def uptoBulkEntries {H : Type} : List (Lit × DataW H) → Nat
  | [] => 0
  | x :: r => uptoBulkEntry x + uptoBulkEntries r
def uptoBulkEntry {H : Type} : Lit × DataW H → Nat
  | (.string bytes, d) => bytes.length + uptoBulk d + 1
  | (_, d) => uptoBulk d + 1
 end
def uptoSmall : (H : Type) → List (DataW H) → Bool := fun _ ds => decide (uptoBulkAll ds ≤ 1048576)
def OpenSpec.upto (s : _root_.Go.ChangeSpec) : _root_.Go.OpenSpec := { _root_.Go.OpenSpec.ofChange s with cond := some uptoSmall }

/-- 'longshorelaw13.SessionNumbers', WHERE WHAT IT READS IS OF BULK AT MOST 1048576: true; the input reads as it did. -/
def sessionNumbersUptoRow : OpenClaim := { program := "ytbkimebmoafbnaa", sum := "e7f6c06bf2a83fb5ca98b2c59e2de717d0d78b305afe13a4cd020889e06bce6c", func := "longshore/longshorelaw13.SessionNumbers", spec := "sessionNumbers", unfollowed := true, recurses := true, apart := false, narrowed := true }
def SessionNumbersUptoSaid : Prop := sessionNumbersUptoRow.holds Try.pinned (OpenSpec.upto sessionNumbersSpec)

/-- 'longshorelaw13.SessionMakes', WHERE WHAT IT READS IS OF BULK AT MOST 1048576: true; the input reads as it did. -/
def sessionMakesUptoRow : OpenClaim := { program := "ytbkimebmoafbnaa", sum := "e7f6c06bf2a83fb5ca98b2c59e2de717d0d78b305afe13a4cd020889e06bce6c", func := "longshore/longshorelaw13.SessionMakes", spec := "sessionMakes", unfollowed := true, recurses := true, apart := false, narrowed := true }
def SessionMakesUptoSaid : Prop := sessionMakesUptoRow.holds Try.pinned (OpenSpec.upto sessionMakesSpec)

/-- 'longshorelaw13.SessionRanges', WHERE WHAT IT READS IS OF BULK AT MOST 1048576: true; the input reads as it did. -/
def sessionRangesUptoRow : OpenClaim := { program := "ytbkimebmoafbnaa", sum := "e7f6c06bf2a83fb5ca98b2c59e2de717d0d78b305afe13a4cd020889e06bce6c", func := "longshore/longshorelaw13.SessionRanges", spec := "sessionRanges", unfollowed := true, recurses := true, apart := false, narrowed := true }
def SessionRangesUptoSaid : Prop := sessionRangesUptoRow.holds Try.pinned (OpenSpec.upto sessionRangesSpec)

/-- 'longshorelaw13.SessionHandles', WHERE WHAT IT READS IS OF BULK AT MOST 1048576: true; the input reads as it did. -/
def sessionHandlesUptoRow : OpenClaim := { program := "ytbkimebmoafbnaa", sum := "e7f6c06bf2a83fb5ca98b2c59e2de717d0d78b305afe13a4cd020889e06bce6c", func := "longshore/longshorelaw13.SessionHandles", spec := "sessionHandles", unfollowed := true, recurses := true, apart := false, narrowed := true }
def SessionHandlesUptoSaid : Prop := sessionHandlesUptoRow.holds Try.pinned (OpenSpec.upto sessionHandlesSpec)

/-- 'longshorelaw13.SessionPlays', WHERE WHAT IT READS IS OF BULK AT MOST 1048576: true; the input reads as it did. -/
def sessionPlaysUptoRow : OpenClaim := { program := "ytbkimebmoafbnaa", sum := "e7f6c06bf2a83fb5ca98b2c59e2de717d0d78b305afe13a4cd020889e06bce6c", func := "longshore/longshorelaw13.SessionPlays", spec := "sessionPlays", unfollowed := true, recurses := true, apart := false, narrowed := true }
def SessionPlaysUptoSaid : Prop := sessionPlaysUptoRow.holds Try.pinned (OpenSpec.upto sessionPlaysSpec)

end Rows
end Go.Proofs.Ytbkimebmoafbnaa
