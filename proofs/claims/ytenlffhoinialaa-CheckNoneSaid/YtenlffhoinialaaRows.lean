/-
  No cell of these rows narrows 'for every input' (looked for: loops, veiled, ifaces, maps, wideKeys, modest, calm, conditions, laid).
  DERIVED. THE GIVEN ROWS OF THIS SEAT. 11 by the template 'for every input the law returns true; each argument reads behind the call as it read before'; 0 by the template 'total and deterministic' (their statements: YtenlffhoinialaaTotals.lean).
  GIVEN WITH THE SEED: the statements are not yours to turn. If you find one false, say at which input.
  Laid BY PROGRAM, IN A SANDBOX (cutbox-rows.mjs): the forced cells as the released guide's own fill.sh prints them over the translation dcbc2c50d27dc5c8… (all of the seat's roots in one cut). By AI agents, Wed Nov 11 2026. No macro, syntax, notation, axiom, sorry.
-/
import Derived.Test.YtenlffhoinialaaChecked
import GoSem.Claim
import GoSem.ClaimJoined
import GoSem.ClaimMapViews
import Derived.JoinedTies
import Derived.KernelRfl
namespace Go.Proofs.Ytenlffhoinialaa
/- THE CELL 'sum', in the pinned program and in every row, IS THE sha256 OF THE DUMP (.gsa) THAT YtenlffhoinialaaProg.lean LOADS. Nothing in Lean hashes anything: it is a label: what it is worth is what the hold of that sum in a sandbox is worth. -/
noncomputable def Try.pinned : Pinned := { name := "ytenlffhoinialaa", sum := "dcbc2c50d27dc5c8b50bea398e8929b2b3611331437a77ff97c9cf914141a994", checked := Try.checked }
namespace Rows
def none {H : Type} : Left H := { results := [], args := [] }

/-- 'concourselaw20.CheckStates': WHATEVER THE INPUT: true; the input reads as it did. -/
def checkStatesSpec : ChangeSpec := { name := "checkStates", fn := fun _ => fun
  | [d1, d2, d3] => { results := [.lit (.bool true)], args := [d1, d2, d3] }
  | _ => none }
def checkStatesRow : OpenClaim := { program := "ytenlffhoinialaa", sum := "dcbc2c50d27dc5c8b50bea398e8929b2b3611331437a77ff97c9cf914141a994", func := "concourse/concourselaw20.CheckStates", spec := "checkStates", unfollowed := true, recurses := true, apart := false }
def CheckStatesSaid : Prop := checkStatesRow.holds Try.pinned (OpenSpec.ofChange checkStatesSpec)

/-- ITS FALSE NEIGHBOUR: 'it returns false'. Refute it at one input. -/
def checkStatesWrong : ChangeSpec := { name := "checkStates", fn := fun _ => fun
  | [d1, d2, d3] => { results := [.lit (.bool false)], args := [d1, d2, d3] }
  | _ => none }
def CheckStatesWrongFalsely : Prop := checkStatesRow.holds Try.pinned (OpenSpec.ofChange checkStatesWrong)

/-- 'concourselaw20.CheckNone': WHATEVER THE INPUT: true; the input reads as it did. -/
def checkNoneSpec : ChangeSpec := { name := "checkNone", fn := fun _ => fun
  | [d1, d2] => { results := [.lit (.bool true)], args := [d1, d2] }
  | _ => none }
def checkNoneRow : OpenClaim := { program := "ytenlffhoinialaa", sum := "dcbc2c50d27dc5c8b50bea398e8929b2b3611331437a77ff97c9cf914141a994", func := "concourse/concourselaw20.CheckNone", spec := "checkNone", unfollowed := true, recurses := true, apart := false }
def CheckNoneSaid : Prop := checkNoneRow.holds Try.pinned (OpenSpec.ofChange checkNoneSpec)

/-- ITS FALSE NEIGHBOUR: 'it returns false'. Refute it at one input. -/
def checkNoneWrong : ChangeSpec := { name := "checkNone", fn := fun _ => fun
  | [d1, d2] => { results := [.lit (.bool false)], args := [d1, d2] }
  | _ => none }
def CheckNoneWrongFalsely : Prop := checkNoneRow.holds Try.pinned (OpenSpec.ofChange checkNoneWrong)

/-- 'concourselaw20.CheckRows': WHATEVER THE INPUT: true; the input reads as it did. -/
def checkRowsSpec : ChangeSpec := { name := "checkRows", fn := fun _ => fun
  | [d] => { results := [.lit (.bool true)], args := [d] }
  | _ => none }
def checkRowsRow : OpenClaim := { program := "ytenlffhoinialaa", sum := "dcbc2c50d27dc5c8b50bea398e8929b2b3611331437a77ff97c9cf914141a994", func := "concourse/concourselaw20.CheckRows", spec := "checkRows", unfollowed := true, recurses := true, apart := false }
def CheckRowsSaid : Prop := checkRowsRow.holds Try.pinned (OpenSpec.ofChange checkRowsSpec)

/-- ITS FALSE NEIGHBOUR: 'it returns false'. Refute it at one input. -/
def checkRowsWrong : ChangeSpec := { name := "checkRows", fn := fun _ => fun
  | [d] => { results := [.lit (.bool false)], args := [d] }
  | _ => none }
def CheckRowsWrongFalsely : Prop := checkRowsRow.holds Try.pinned (OpenSpec.ofChange checkRowsWrong)

/-- 'concourselaw20.CheckMissing': WHATEVER THE INPUT: true; the input reads as it did. -/
def checkMissingSpec : ChangeSpec := { name := "checkMissing", fn := fun _ => fun
  | [d] => { results := [.lit (.bool true)], args := [d] }
  | _ => none }
def checkMissingRow : OpenClaim := { program := "ytenlffhoinialaa", sum := "dcbc2c50d27dc5c8b50bea398e8929b2b3611331437a77ff97c9cf914141a994", func := "concourse/concourselaw20.CheckMissing", spec := "checkMissing", unfollowed := true, recurses := true, apart := false }
def CheckMissingSaid : Prop := checkMissingRow.holds Try.pinned (OpenSpec.ofChange checkMissingSpec)

/-- ITS FALSE NEIGHBOUR: 'it returns false'. Refute it at one input. -/
def checkMissingWrong : ChangeSpec := { name := "checkMissing", fn := fun _ => fun
  | [d] => { results := [.lit (.bool false)], args := [d] }
  | _ => none }
def CheckMissingWrongFalsely : Prop := checkMissingRow.holds Try.pinned (OpenSpec.ofChange checkMissingWrong)

/-- 'concourselaw20.CheckTwice': WHATEVER THE INPUT: true; the input reads as it did. -/
def checkTwiceSpec : ChangeSpec := { name := "checkTwice", fn := fun _ => fun
  | [d] => { results := [.lit (.bool true)], args := [d] }
  | _ => none }
def checkTwiceRow : OpenClaim := { program := "ytenlffhoinialaa", sum := "dcbc2c50d27dc5c8b50bea398e8929b2b3611331437a77ff97c9cf914141a994", func := "concourse/concourselaw20.CheckTwice", spec := "checkTwice", unfollowed := true, recurses := true, apart := false }
def CheckTwiceSaid : Prop := checkTwiceRow.holds Try.pinned (OpenSpec.ofChange checkTwiceSpec)

/-- ITS FALSE NEIGHBOUR: 'it returns false'. Refute it at one input. -/
def checkTwiceWrong : ChangeSpec := { name := "checkTwice", fn := fun _ => fun
  | [d] => { results := [.lit (.bool false)], args := [d] }
  | _ => none }
def CheckTwiceWrongFalsely : Prop := checkTwiceRow.holds Try.pinned (OpenSpec.ofChange checkTwiceWrong)

/-- 'concourselaw20.CheckLost': WHATEVER THE INPUT: true; the input reads as it did. -/
def checkLostSpec : ChangeSpec := { name := "checkLost", fn := fun _ => fun
  | [d] => { results := [.lit (.bool true)], args := [d] }
  | _ => none }
def checkLostRow : OpenClaim := { program := "ytenlffhoinialaa", sum := "dcbc2c50d27dc5c8b50bea398e8929b2b3611331437a77ff97c9cf914141a994", func := "concourse/concourselaw20.CheckLost", spec := "checkLost", unfollowed := true, recurses := true, apart := false }
def CheckLostSaid : Prop := checkLostRow.holds Try.pinned (OpenSpec.ofChange checkLostSpec)

/-- ITS FALSE NEIGHBOUR: 'it returns false'. Refute it at one input. -/
def checkLostWrong : ChangeSpec := { name := "checkLost", fn := fun _ => fun
  | [d] => { results := [.lit (.bool false)], args := [d] }
  | _ => none }
def CheckLostWrongFalsely : Prop := checkLostRow.holds Try.pinned (OpenSpec.ofChange checkLostWrong)

/-- 'concourselaw20.CheckNamed': WHATEVER THE INPUT: true; the input reads as it did. -/
def checkNamedSpec : ChangeSpec := { name := "checkNamed", fn := fun _ => fun
  | [d] => { results := [.lit (.bool true)], args := [d] }
  | _ => none }
def checkNamedRow : OpenClaim := { program := "ytenlffhoinialaa", sum := "dcbc2c50d27dc5c8b50bea398e8929b2b3611331437a77ff97c9cf914141a994", func := "concourse/concourselaw20.CheckNamed", spec := "checkNamed", unfollowed := true, recurses := true, apart := false }
def CheckNamedSaid : Prop := checkNamedRow.holds Try.pinned (OpenSpec.ofChange checkNamedSpec)

/-- ITS FALSE NEIGHBOUR: 'it returns false'. Refute it at one input. -/
def checkNamedWrong : ChangeSpec := { name := "checkNamed", fn := fun _ => fun
  | [d] => { results := [.lit (.bool false)], args := [d] }
  | _ => none }
def CheckNamedWrongFalsely : Prop := checkNamedRow.holds Try.pinned (OpenSpec.ofChange checkNamedWrong)

/-- 'concourselaw20.CheckKinds': WHATEVER THE INPUT: true; the input reads as it did. -/
def checkKindsSpec : ChangeSpec := { name := "checkKinds", fn := fun _ => fun
  | [d] => { results := [.lit (.bool true)], args := [d] }
  | _ => none }
def checkKindsRow : OpenClaim := { program := "ytenlffhoinialaa", sum := "dcbc2c50d27dc5c8b50bea398e8929b2b3611331437a77ff97c9cf914141a994", func := "concourse/concourselaw20.CheckKinds", spec := "checkKinds", unfollowed := true, recurses := true, apart := false }
def CheckKindsSaid : Prop := checkKindsRow.holds Try.pinned (OpenSpec.ofChange checkKindsSpec)

/-- ITS FALSE NEIGHBOUR: 'it returns false'. Refute it at one input. -/
def checkKindsWrong : ChangeSpec := { name := "checkKinds", fn := fun _ => fun
  | [d] => { results := [.lit (.bool false)], args := [d] }
  | _ => none }
def CheckKindsWrongFalsely : Prop := checkKindsRow.holds Try.pinned (OpenSpec.ofChange checkKindsWrong)

/-- 'concourselaw20.CheckNumbers': WHATEVER THE INPUT: true; the input reads as it did. -/
def checkNumbersSpec : ChangeSpec := { name := "checkNumbers", fn := fun _ => fun
  | [d] => { results := [.lit (.bool true)], args := [d] }
  | _ => none }
def checkNumbersRow : OpenClaim := { program := "ytenlffhoinialaa", sum := "dcbc2c50d27dc5c8b50bea398e8929b2b3611331437a77ff97c9cf914141a994", func := "concourse/concourselaw20.CheckNumbers", spec := "checkNumbers", unfollowed := true, recurses := true, apart := false }
def CheckNumbersSaid : Prop := checkNumbersRow.holds Try.pinned (OpenSpec.ofChange checkNumbersSpec)

/-- ITS FALSE NEIGHBOUR: 'it returns false'. Refute it at one input. -/
def checkNumbersWrong : ChangeSpec := { name := "checkNumbers", fn := fun _ => fun
  | [d] => { results := [.lit (.bool false)], args := [d] }
  | _ => none }
def CheckNumbersWrongFalsely : Prop := checkNumbersRow.holds Try.pinned (OpenSpec.ofChange checkNumbersWrong)

/-- 'concourselaw20.CheckOpens': WHATEVER THE INPUT: true; the input reads as it did. -/
def checkOpensSpec : ChangeSpec := { name := "checkOpens", fn := fun _ => fun
  | [d] => { results := [.lit (.bool true)], args := [d] }
  | _ => none }
def checkOpensRow : OpenClaim := { program := "ytenlffhoinialaa", sum := "dcbc2c50d27dc5c8b50bea398e8929b2b3611331437a77ff97c9cf914141a994", func := "concourse/concourselaw20.CheckOpens", spec := "checkOpens", unfollowed := true, recurses := true, apart := false }
def CheckOpensSaid : Prop := checkOpensRow.holds Try.pinned (OpenSpec.ofChange checkOpensSpec)

/-- ITS FALSE NEIGHBOUR: 'it returns false'. Refute it at one input. -/
def checkOpensWrong : ChangeSpec := { name := "checkOpens", fn := fun _ => fun
  | [d] => { results := [.lit (.bool false)], args := [d] }
  | _ => none }
def CheckOpensWrongFalsely : Prop := checkOpensRow.holds Try.pinned (OpenSpec.ofChange checkOpensWrong)

/-- 'concourselaw20.CheckWhole': WHATEVER THE INPUT: true; the input reads as it did. -/
def checkWholeSpec : ChangeSpec := { name := "checkWhole", fn := fun _ => fun
  | [d1, d2] => { results := [.lit (.bool true)], args := [d1, d2] }
  | _ => none }
def checkWholeRow : OpenClaim := { program := "ytenlffhoinialaa", sum := "dcbc2c50d27dc5c8b50bea398e8929b2b3611331437a77ff97c9cf914141a994", func := "concourse/concourselaw20.CheckWhole", spec := "checkWhole", unfollowed := true, recurses := true, apart := false }
def CheckWholeSaid : Prop := checkWholeRow.holds Try.pinned (OpenSpec.ofChange checkWholeSpec)

/-- ITS FALSE NEIGHBOUR: 'it returns false'. Refute it at one input. -/
def checkWholeWrong : ChangeSpec := { name := "checkWhole", fn := fun _ => fun
  | [d1, d2] => { results := [.lit (.bool false)], args := [d1, d2] }
  | _ => none }
def CheckWholeWrongFalsely : Prop := checkWholeRow.holds Try.pinned (OpenSpec.ofChange checkWholeWrong)

/- THE SECOND FORM. 'bulk': how many values and letters a reading holds, each counted each time it is reached (what is shared counts as often as it is met; a slice's spare places count too). A statement '..UptoSaid' is the law's where the arguments, and the package variables that the reading takes, are together of bulk at most 1048576: NARROWER than '..Said'. Prove '..Said' where nothing that the law and all that it calls make is longer than what came in: it says more and counts as full. Else prove '..UptoSaid'. A law counts once. -/
mutual
def uptoBulk {H : Type} : DataW H → Nat
  | .lit (.string bytes) => bytes.length + 1
  | .lit _ => 1
  | .nil => 1
  | .ptr d => uptoBulk d + 1
  | .slice elems spare => uptoBulkAll elems + uptoBulkAll spare + 1
  | .agg parts => uptoBulkAll parts + 1
  | .iface _ d => uptoBulk d + 1
  | .map entries => uptoBulkEntries entries + 1
  | .held _ => 1
def uptoBulkAll {H : Type} : List (DataW H) → Nat
  | [] => 0
  | d :: r => uptoBulk d + uptoBulkAll r
def uptoBulkEntries {H : Type} : List (Lit × DataW H) → Nat
  | [] => 0
  | x :: r => uptoBulkEntry x + uptoBulkEntries r
def uptoBulkEntry {H : Type} : Lit × DataW H → Nat
  | (.string bytes, d) => bytes.length + uptoBulk d + 1
  | (_, d) => uptoBulk d + 1
 end
def uptoSmall : (H : Type) → List (DataW H) → Bool := fun _ ds => decide (uptoBulkAll ds ≤ 1048576)
def OpenSpec.upto (s : _root_.Go.ChangeSpec) : _root_.Go.OpenSpec := { _root_.Go.OpenSpec.ofChange s with cond := some uptoSmall }

/-- 'concourselaw20.CheckStates', WHERE WHAT IT READS IS OF BULK AT MOST 1048576: true; the input reads as it did. -/
def checkStatesUptoRow : OpenClaim := { program := "ytenlffhoinialaa", sum := "dcbc2c50d27dc5c8b50bea398e8929b2b3611331437a77ff97c9cf914141a994", func := "concourse/concourselaw20.CheckStates", spec := "checkStates", unfollowed := true, recurses := true, apart := false, narrowed := true }
def CheckStatesUptoSaid : Prop := checkStatesUptoRow.holds Try.pinned (OpenSpec.upto checkStatesSpec)

/-- 'concourselaw20.CheckNone', WHERE WHAT IT READS IS OF BULK AT MOST 1048576: true; the input reads as it did. -/
def checkNoneUptoRow : OpenClaim := { program := "ytenlffhoinialaa", sum := "dcbc2c50d27dc5c8b50bea398e8929b2b3611331437a77ff97c9cf914141a994", func := "concourse/concourselaw20.CheckNone", spec := "checkNone", unfollowed := true, recurses := true, apart := false, narrowed := true }
def CheckNoneUptoSaid : Prop := checkNoneUptoRow.holds Try.pinned (OpenSpec.upto checkNoneSpec)

/-- 'concourselaw20.CheckRows', WHERE WHAT IT READS IS OF BULK AT MOST 1048576: true; the input reads as it did. -/
def checkRowsUptoRow : OpenClaim := { program := "ytenlffhoinialaa", sum := "dcbc2c50d27dc5c8b50bea398e8929b2b3611331437a77ff97c9cf914141a994", func := "concourse/concourselaw20.CheckRows", spec := "checkRows", unfollowed := true, recurses := true, apart := false, narrowed := true }
def CheckRowsUptoSaid : Prop := checkRowsUptoRow.holds Try.pinned (OpenSpec.upto checkRowsSpec)

/-- 'concourselaw20.CheckMissing', WHERE WHAT IT READS IS OF BULK AT MOST 1048576: true; the input reads as it did. -/
def checkMissingUptoRow : OpenClaim := { program := "ytenlffhoinialaa", sum := "dcbc2c50d27dc5c8b50bea398e8929b2b3611331437a77ff97c9cf914141a994", func := "concourse/concourselaw20.CheckMissing", spec := "checkMissing", unfollowed := true, recurses := true, apart := false, narrowed := true }
def CheckMissingUptoSaid : Prop := checkMissingUptoRow.holds Try.pinned (OpenSpec.upto checkMissingSpec)

/-- 'concourselaw20.CheckTwice', WHERE WHAT IT READS IS OF BULK AT MOST 1048576: true; the input reads as it did. -/
def checkTwiceUptoRow : OpenClaim := { program := "ytenlffhoinialaa", sum := "dcbc2c50d27dc5c8b50bea398e8929b2b3611331437a77ff97c9cf914141a994", func := "concourse/concourselaw20.CheckTwice", spec := "checkTwice", unfollowed := true, recurses := true, apart := false, narrowed := true }
def CheckTwiceUptoSaid : Prop := checkTwiceUptoRow.holds Try.pinned (OpenSpec.upto checkTwiceSpec)

/-- 'concourselaw20.CheckLost', WHERE WHAT IT READS IS OF BULK AT MOST 1048576: true; the input reads as it did. -/
def checkLostUptoRow : OpenClaim := { program := "ytenlffhoinialaa", sum := "dcbc2c50d27dc5c8b50bea398e8929b2b3611331437a77ff97c9cf914141a994", func := "concourse/concourselaw20.CheckLost", spec := "checkLost", unfollowed := true, recurses := true, apart := false, narrowed := true }
def CheckLostUptoSaid : Prop := checkLostUptoRow.holds Try.pinned (OpenSpec.upto checkLostSpec)

/-- 'concourselaw20.CheckNamed', WHERE WHAT IT READS IS OF BULK AT MOST 1048576: true; the input reads as it did. -/
def checkNamedUptoRow : OpenClaim := { program := "ytenlffhoinialaa", sum := "dcbc2c50d27dc5c8b50bea398e8929b2b3611331437a77ff97c9cf914141a994", func := "concourse/concourselaw20.CheckNamed", spec := "checkNamed", unfollowed := true, recurses := true, apart := false, narrowed := true }
def CheckNamedUptoSaid : Prop := checkNamedUptoRow.holds Try.pinned (OpenSpec.upto checkNamedSpec)

/-- 'concourselaw20.CheckKinds', WHERE WHAT IT READS IS OF BULK AT MOST 1048576: true; the input reads as it did. -/
def checkKindsUptoRow : OpenClaim := { program := "ytenlffhoinialaa", sum := "dcbc2c50d27dc5c8b50bea398e8929b2b3611331437a77ff97c9cf914141a994", func := "concourse/concourselaw20.CheckKinds", spec := "checkKinds", unfollowed := true, recurses := true, apart := false, narrowed := true }
def CheckKindsUptoSaid : Prop := checkKindsUptoRow.holds Try.pinned (OpenSpec.upto checkKindsSpec)

/-- 'concourselaw20.CheckNumbers', WHERE WHAT IT READS IS OF BULK AT MOST 1048576: true; the input reads as it did. -/
def checkNumbersUptoRow : OpenClaim := { program := "ytenlffhoinialaa", sum := "dcbc2c50d27dc5c8b50bea398e8929b2b3611331437a77ff97c9cf914141a994", func := "concourse/concourselaw20.CheckNumbers", spec := "checkNumbers", unfollowed := true, recurses := true, apart := false, narrowed := true }
def CheckNumbersUptoSaid : Prop := checkNumbersUptoRow.holds Try.pinned (OpenSpec.upto checkNumbersSpec)

/-- 'concourselaw20.CheckOpens', WHERE WHAT IT READS IS OF BULK AT MOST 1048576: true; the input reads as it did. -/
def checkOpensUptoRow : OpenClaim := { program := "ytenlffhoinialaa", sum := "dcbc2c50d27dc5c8b50bea398e8929b2b3611331437a77ff97c9cf914141a994", func := "concourse/concourselaw20.CheckOpens", spec := "checkOpens", unfollowed := true, recurses := true, apart := false, narrowed := true }
def CheckOpensUptoSaid : Prop := checkOpensUptoRow.holds Try.pinned (OpenSpec.upto checkOpensSpec)

/-- 'concourselaw20.CheckWhole', WHERE WHAT IT READS IS OF BULK AT MOST 1048576: true; the input reads as it did. -/
def checkWholeUptoRow : OpenClaim := { program := "ytenlffhoinialaa", sum := "dcbc2c50d27dc5c8b50bea398e8929b2b3611331437a77ff97c9cf914141a994", func := "concourse/concourselaw20.CheckWhole", spec := "checkWhole", unfollowed := true, recurses := true, apart := false, narrowed := true }
def CheckWholeUptoSaid : Prop := checkWholeUptoRow.holds Try.pinned (OpenSpec.upto checkWholeSpec)

end Rows
end Go.Proofs.Ytenlffhoinialaa
