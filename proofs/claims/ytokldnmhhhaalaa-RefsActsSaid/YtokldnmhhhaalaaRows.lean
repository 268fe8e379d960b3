/-
  No cell of these rows narrows 'for every input' (looked for: loops, veiled, ifaces, maps, wideKeys, modest, calm, conditions, laid).
  DERIVED. THE GIVEN ROWS OF THIS SEAT. 8 by the template 'for every input the law returns true; each argument reads behind the call as it read before'; 0 by the template 'total and deterministic' (their statements: YtokldnmhhhaalaaTotals.lean).
  GIVEN WITH THE SEED: the statements are not yours to turn. If you find one false, say at which input.
  Laid BY PROGRAM, IN A SANDBOX (cutbox-rows.mjs): the forced cells as the released guide's own fill.sh prints them over the translation d1ceee743263e109… (all of the seat's roots in one cut). By AI agents, Wed Nov 11 2026. No macro, syntax, notation, axiom, sorry.
-/
import Derived.Test.YtokldnmhhhaalaaChecked
import GoSem.Claim
import GoSem.ClaimJoined
import GoSem.ClaimMapViews
import Derived.JoinedTies
import Derived.KernelRfl
namespace Go.Proofs.Ytokldnmhhhaalaa
/- THE CELL 'sum', in the pinned program and in every row, IS THE sha256 OF THE DUMP (.gsa) THAT YtokldnmhhhaalaaProg.lean LOADS. Nothing in Lean hashes anything: it is a label: what it is worth is what the hold of that sum in a sandbox is worth. -/
noncomputable def Try.pinned : Pinned := { name := "ytokldnmhhhaalaa", sum := "d1ceee743263e109dc647e22473d0db19a81b55b972f509f3bfd390eea3655ba", checked := Try.checked }
namespace Rows
def none {H : Type} : Left H := { results := [], args := [] }

/-- 'concourselaw6.RefsFlushed': WHATEVER THE INPUT: true; the input reads as it did. -/
def refsFlushedSpec : ChangeSpec := { name := "refsFlushed", fn := fun _ => fun
  | [d1, d2] => { results := [.lit (.bool true)], args := [d1, d2] }
  | _ => none }
def refsFlushedRow : OpenClaim := { program := "ytokldnmhhhaalaa", sum := "d1ceee743263e109dc647e22473d0db19a81b55b972f509f3bfd390eea3655ba", func := "concourse/concourselaw6.RefsFlushed", spec := "refsFlushed", apart := false }
def RefsFlushedSaid : Prop := refsFlushedRow.holds Try.pinned (OpenSpec.ofChange refsFlushedSpec)

/-- ITS FALSE NEIGHBOUR: 'it returns false'. Refute it at one input. -/
def refsFlushedWrong : ChangeSpec := { name := "refsFlushed", fn := fun _ => fun
  | [d1, d2] => { results := [.lit (.bool false)], args := [d1, d2] }
  | _ => none }
def RefsFlushedWrongFalsely : Prop := refsFlushedRow.holds Try.pinned (OpenSpec.ofChange refsFlushedWrong)

/-- 'concourselaw6.RefsActs': WHATEVER THE INPUT: true; the input reads as it did. -/
def refsActsSpec : ChangeSpec := { name := "refsActs", fn := fun _ => fun
  | [d1, d2, d3] => { results := [.lit (.bool true)], args := [d1, d2, d3] }
  | _ => none }
def refsActsRow : OpenClaim := { program := "ytokldnmhhhaalaa", sum := "d1ceee743263e109dc647e22473d0db19a81b55b972f509f3bfd390eea3655ba", func := "concourse/concourselaw6.RefsActs", spec := "refsActs", apart := false }
def RefsActsSaid : Prop := refsActsRow.holds Try.pinned (OpenSpec.ofChange refsActsSpec)

/-- ITS FALSE NEIGHBOUR: 'it returns false'. Refute it at one input. -/
def refsActsWrong : ChangeSpec := { name := "refsActs", fn := fun _ => fun
  | [d1, d2, d3] => { results := [.lit (.bool false)], args := [d1, d2, d3] }
  | _ => none }
def RefsActsWrongFalsely : Prop := refsActsRow.holds Try.pinned (OpenSpec.ofChange refsActsWrong)

/-- 'concourselaw6.RefsDies': WHATEVER THE INPUT: true; the input reads as it did. -/
def refsDiesSpec : ChangeSpec := { name := "refsDies", fn := fun _ => fun
  | [d1, d2] => { results := [.lit (.bool true)], args := [d1, d2] }
  | _ => none }
def refsDiesRow : OpenClaim := { program := "ytokldnmhhhaalaa", sum := "d1ceee743263e109dc647e22473d0db19a81b55b972f509f3bfd390eea3655ba", func := "concourse/concourselaw6.RefsDies", spec := "refsDies", apart := false }
def RefsDiesSaid : Prop := refsDiesRow.holds Try.pinned (OpenSpec.ofChange refsDiesSpec)

/-- ITS FALSE NEIGHBOUR: 'it returns false'. Refute it at one input. -/
def refsDiesWrong : ChangeSpec := { name := "refsDies", fn := fun _ => fun
  | [d1, d2] => { results := [.lit (.bool false)], args := [d1, d2] }
  | _ => none }
def RefsDiesWrongFalsely : Prop := refsDiesRow.holds Try.pinned (OpenSpec.ofChange refsDiesWrong)

/-- 'concourselaw6.RefsEpochs': WHATEVER THE INPUT: true; the input reads as it did. -/
def refsEpochsSpec : ChangeSpec := { name := "refsEpochs", fn := fun _ => fun
  | [d1, d2] => { results := [.lit (.bool true)], args := [d1, d2] }
  | _ => none }
def refsEpochsRow : OpenClaim := { program := "ytokldnmhhhaalaa", sum := "d1ceee743263e109dc647e22473d0db19a81b55b972f509f3bfd390eea3655ba", func := "concourse/concourselaw6.RefsEpochs", spec := "refsEpochs", apart := false }
def RefsEpochsSaid : Prop := refsEpochsRow.holds Try.pinned (OpenSpec.ofChange refsEpochsSpec)

/-- ITS FALSE NEIGHBOUR: 'it returns false'. Refute it at one input. -/
def refsEpochsWrong : ChangeSpec := { name := "refsEpochs", fn := fun _ => fun
  | [d1, d2] => { results := [.lit (.bool false)], args := [d1, d2] }
  | _ => none }
def RefsEpochsWrongFalsely : Prop := refsEpochsRow.holds Try.pinned (OpenSpec.ofChange refsEpochsWrong)

/-- 'concourselaw6.RefsApart': WHATEVER THE INPUT: true; the input reads as it did. -/
def refsApartSpec : ChangeSpec := { name := "refsApart", fn := fun _ => fun
  | [d1, d2] => { results := [.lit (.bool true)], args := [d1, d2] }
  | _ => none }
def refsApartRow : OpenClaim := { program := "ytokldnmhhhaalaa", sum := "d1ceee743263e109dc647e22473d0db19a81b55b972f509f3bfd390eea3655ba", func := "concourse/concourselaw6.RefsApart", spec := "refsApart", apart := false }
def RefsApartSaid : Prop := refsApartRow.holds Try.pinned (OpenSpec.ofChange refsApartSpec)

/-- ITS FALSE NEIGHBOUR: 'it returns false'. Refute it at one input. -/
def refsApartWrong : ChangeSpec := { name := "refsApart", fn := fun _ => fun
  | [d1, d2] => { results := [.lit (.bool false)], args := [d1, d2] }
  | _ => none }
def RefsApartWrongFalsely : Prop := refsApartRow.holds Try.pinned (OpenSpec.ofChange refsApartWrong)

/-- 'concourselaw23.Traces': WHATEVER THE INPUT: true; the input reads as it did. -/
def tracesSpec : ChangeSpec := { name := "traces", fn := fun _ => fun
  | [d1, d2] => { results := [.lit (.bool true)], args := [d1, d2] }
  | _ => none }
def tracesRow : OpenClaim := { program := "ytokldnmhhhaalaa", sum := "d1ceee743263e109dc647e22473d0db19a81b55b972f509f3bfd390eea3655ba", func := "concourse/concourselaw23.Traces", spec := "traces", recurses := true, apart := false }
def TracesSaid : Prop := tracesRow.holds Try.pinned (OpenSpec.ofChange tracesSpec)

/-- ITS FALSE NEIGHBOUR: 'it returns false'. Refute it at one input. -/
def tracesWrong : ChangeSpec := { name := "traces", fn := fun _ => fun
  | [d1, d2] => { results := [.lit (.bool false)], args := [d1, d2] }
  | _ => none }
def TracesWrongFalsely : Prop := tracesRow.holds Try.pinned (OpenSpec.ofChange tracesWrong)

/-- 'concourselaw23.TraceEither': WHATEVER THE INPUT: true; the input reads as it did. -/
def traceEitherSpec : ChangeSpec := { name := "traceEither", fn := fun _ => fun
  | [d1, d2] => { results := [.lit (.bool true)], args := [d1, d2] }
  | _ => none }
def traceEitherRow : OpenClaim := { program := "ytokldnmhhhaalaa", sum := "d1ceee743263e109dc647e22473d0db19a81b55b972f509f3bfd390eea3655ba", func := "concourse/concourselaw23.TraceEither", spec := "traceEither", recurses := true, apart := false }
def TraceEitherSaid : Prop := traceEitherRow.holds Try.pinned (OpenSpec.ofChange traceEitherSpec)

/-- ITS FALSE NEIGHBOUR: 'it returns false'. Refute it at one input. -/
def traceEitherWrong : ChangeSpec := { name := "traceEither", fn := fun _ => fun
  | [d1, d2] => { results := [.lit (.bool false)], args := [d1, d2] }
  | _ => none }
def TraceEitherWrongFalsely : Prop := traceEitherRow.holds Try.pinned (OpenSpec.ofChange traceEitherWrong)

/-- 'concourselaw23.TraceWords': WHATEVER THE INPUT: true; the input reads as it did. -/
def traceWordsSpec : ChangeSpec := { name := "traceWords", fn := fun _ => fun
  | [d1, d2] => { results := [.lit (.bool true)], args := [d1, d2] }
  | _ => none }
def traceWordsRow : OpenClaim := { program := "ytokldnmhhhaalaa", sum := "d1ceee743263e109dc647e22473d0db19a81b55b972f509f3bfd390eea3655ba", func := "concourse/concourselaw23.TraceWords", spec := "traceWords", recurses := true, apart := false }
def TraceWordsSaid : Prop := traceWordsRow.holds Try.pinned (OpenSpec.ofChange traceWordsSpec)

/-- ITS FALSE NEIGHBOUR: 'it returns false'. Refute it at one input. -/
def traceWordsWrong : ChangeSpec := { name := "traceWords", fn := fun _ => fun
  | [d1, d2] => { results := [.lit (.bool false)], args := [d1, d2] }
  | _ => none }
def TraceWordsWrongFalsely : Prop := traceWordsRow.holds Try.pinned (OpenSpec.ofChange traceWordsWrong)

/- THE SECOND FORM. 'bulk': how many values and letters a reading holds, each counted each time it is reached (what is shared counts as often as it is met; a slice's spare places count too). A statement '..UptoSaid' is the law's where the arguments, and the package variables that the reading takes, are together of bulk at most 1048576: NARROWER than '..Said'. Prove '..Said' where nothing that the law and all that it calls make is longer than what came in: it says more and counts as full. Else prove '..UptoSaid'. A law counts once. -/
mutual
def uptoBulk {H : Type} : DataW H → Nat
  | .lit (.string bytes) => bytes.length + 1
  | .lit _ => 1
  | .nil => 1
  | .ptr d => uptoBulk d + 1
  | .slice elems spare => uptoBulkAll elems + uptoBulkAll spare + 1
  | .agg parts => uptoBulkAll parts + 1
  | .iface _ d => uptoBulk d + 1
  | .map entries => uptoBulkEntries entries + 1
  | .held _ => 1
def uptoBulkAll {H : Type} : List (DataW H) → Nat
  | [] => 0
  | d :: r => uptoBulk d + uptoBulkAll r
def uptoBulkEntries {H : Type} : List (Lit × DataW H) → Nat
  | [] => 0
  | x :: r => uptoBulkEntry x + uptoBulkEntries r
def uptoBulkEntry {H : Type} : Lit × DataW H → Nat
  | (.string bytes, d) => bytes.length + uptoBulk d + 1
  | (_, d) => uptoBulk d + 1
 end
def uptoSmall : (H : Type) → List (DataW H) → Bool := fun _ ds => decide (uptoBulkAll ds ≤ 1048576)
def OpenSpec.upto (s : _root_.Go.ChangeSpec) : _root_.Go.OpenSpec := { _root_.Go.OpenSpec.ofChange s with cond := some uptoSmall }

/-- 'concourselaw6.RefsFlushed', WHERE WHAT IT READS IS OF BULK AT MOST 1048576: true; the input reads as it did. -/
def refsFlushedUptoRow : OpenClaim := { program := "ytokldnmhhhaalaa", sum := "d1ceee743263e109dc647e22473d0db19a81b55b972f509f3bfd390eea3655ba", func := "concourse/concourselaw6.RefsFlushed", spec := "refsFlushed", apart := false, narrowed := true }
def RefsFlushedUptoSaid : Prop := refsFlushedUptoRow.holds Try.pinned (OpenSpec.upto refsFlushedSpec)

/-- 'concourselaw6.RefsActs', WHERE WHAT IT READS IS OF BULK AT MOST 1048576: true; the input reads as it did. -/
def refsActsUptoRow : OpenClaim := { program := "ytokldnmhhhaalaa", sum := "d1ceee743263e109dc647e22473d0db19a81b55b972f509f3bfd390eea3655ba", func := "concourse/concourselaw6.RefsActs", spec := "refsActs", apart := false, narrowed := true }
def RefsActsUptoSaid : Prop := refsActsUptoRow.holds Try.pinned (OpenSpec.upto refsActsSpec)

/-- 'concourselaw6.RefsDies', WHERE WHAT IT READS IS OF BULK AT MOST 1048576: true; the input reads as it did. -/
def refsDiesUptoRow : OpenClaim := { program := "ytokldnmhhhaalaa", sum := "d1ceee743263e109dc647e22473d0db19a81b55b972f509f3bfd390eea3655ba", func := "concourse/concourselaw6.RefsDies", spec := "refsDies", apart := false, narrowed := true }
def RefsDiesUptoSaid : Prop := refsDiesUptoRow.holds Try.pinned (OpenSpec.upto refsDiesSpec)

/-- 'concourselaw6.RefsEpochs', WHERE WHAT IT READS IS OF BULK AT MOST 1048576: true; the input reads as it did. -/
def refsEpochsUptoRow : OpenClaim := { program := "ytokldnmhhhaalaa", sum := "d1ceee743263e109dc647e22473d0db19a81b55b972f509f3bfd390eea3655ba", func := "concourse/concourselaw6.RefsEpochs", spec := "refsEpochs", apart := false, narrowed := true }
def RefsEpochsUptoSaid : Prop := refsEpochsUptoRow.holds Try.pinned (OpenSpec.upto refsEpochsSpec)

/-- 'concourselaw6.RefsApart', WHERE WHAT IT READS IS OF BULK AT MOST 1048576: true; the input reads as it did. -/
def refsApartUptoRow : OpenClaim := { program := "ytokldnmhhhaalaa", sum := "d1ceee743263e109dc647e22473d0db19a81b55b972f509f3bfd390eea3655ba", func := "concourse/concourselaw6.RefsApart", spec := "refsApart", apart := false, narrowed := true }
def RefsApartUptoSaid : Prop := refsApartUptoRow.holds Try.pinned (OpenSpec.upto refsApartSpec)

/-- 'concourselaw23.Traces', WHERE WHAT IT READS IS OF BULK AT MOST 1048576: true; the input reads as it did. -/
def tracesUptoRow : OpenClaim := { program := "ytokldnmhhhaalaa", sum := "d1ceee743263e109dc647e22473d0db19a81b55b972f509f3bfd390eea3655ba", func := "concourse/concourselaw23.Traces", spec := "traces", recurses := true, apart := false, narrowed := true }
def TracesUptoSaid : Prop := tracesUptoRow.holds Try.pinned (OpenSpec.upto tracesSpec)

/-- 'concourselaw23.TraceEither', WHERE WHAT IT READS IS OF BULK AT MOST 1048576: true; the input reads as it did. -/
def traceEitherUptoRow : OpenClaim := { program := "ytokldnmhhhaalaa", sum := "d1ceee743263e109dc647e22473d0db19a81b55b972f509f3bfd390eea3655ba", func := "concourse/concourselaw23.TraceEither", spec := "traceEither", recurses := true, apart := false, narrowed := true }
def TraceEitherUptoSaid : Prop := traceEitherUptoRow.holds Try.pinned (OpenSpec.upto traceEitherSpec)

/-- 'concourselaw23.TraceWords', WHERE WHAT IT READS IS OF BULK AT MOST 1048576: true; the input reads as it did. -/
def traceWordsUptoRow : OpenClaim := { program := "ytokldnmhhhaalaa", sum := "d1ceee743263e109dc647e22473d0db19a81b55b972f509f3bfd390eea3655ba", func := "concourse/concourselaw23.TraceWords", spec := "traceWords", recurses := true, apart := false, narrowed := true }
def TraceWordsUptoSaid : Prop := traceWordsUptoRow.holds Try.pinned (OpenSpec.upto traceWordsSpec)

end Rows
end Go.Proofs.Ytokldnmhhhaalaa
