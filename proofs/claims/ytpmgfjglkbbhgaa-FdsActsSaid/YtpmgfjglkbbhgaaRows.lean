/-
  No cell of these rows narrows 'for every input' (looked for: loops, veiled, ifaces, maps, wideKeys, modest, calm, conditions, laid).
  DERIVED. THE GIVEN ROWS OF THIS SEAT. 12 by the template 'for every input the law returns true; each argument reads behind the call as it read before'; 0 by the template 'total and deterministic' (their statements: YtpmgfjglkbbhgaaTotals.lean).
  GIVEN WITH THE SEED: the statements are not yours to turn. If you find one false, say at which input.
  Laid BY PROGRAM, IN A SANDBOX (cutbox-rows.mjs): the forced cells as the released guide's own fill.sh prints them over the translation b2f7225485bc82bb… (all of the seat's roots in one cut). By AI agents, Wed Nov 11 2026. No macro, syntax, notation, axiom, sorry.
-/
import Derived.Test.YtpmgfjglkbbhgaaChecked
import GoSem.Claim
import GoSem.ClaimJoined
import GoSem.ClaimMapViews
import Derived.JoinedTies
import Derived.KernelRfl
namespace Go.Proofs.Ytpmgfjglkbbhgaa
/- THE CELL 'sum', in the pinned program and in every row, IS THE sha256 OF THE DUMP (.gsa) THAT YtpmgfjglkbbhgaaProg.lean LOADS. Nothing in Lean hashes anything: it is a label: what it is worth is what the hold of that sum in a sandbox is worth. -/
noncomputable def Try.pinned : Pinned := { name := "ytpmgfjglkbbhgaa", sum := "b2f7225485bc82bbcce372ad8c2e9859cde9d487288fd8c656616614c27ce98f", checked := Try.checked }
namespace Rows
def none {H : Type} : Left H := { results := [], args := [] }

/-- 'concourselaw2.ArenaCas': WHATEVER THE INPUT: true; the input reads as it did. -/
def arenaCasSpec : ChangeSpec := { name := "arenaCas", fn := fun _ => fun
  | [d1, d2] => { results := [.lit (.bool true)], args := [d1, d2] }
  | _ => none }
def arenaCasRow : OpenClaim := { program := "ytpmgfjglkbbhgaa", sum := "b2f7225485bc82bbcce372ad8c2e9859cde9d487288fd8c656616614c27ce98f", func := "concourse/concourselaw2.ArenaCas", spec := "arenaCas", apart := false }
def ArenaCasSaid : Prop := arenaCasRow.holds Try.pinned (OpenSpec.ofChange arenaCasSpec)

/-- ITS FALSE NEIGHBOUR: 'it returns false'. Refute it at one input. -/
def arenaCasWrong : ChangeSpec := { name := "arenaCas", fn := fun _ => fun
  | [d1, d2] => { results := [.lit (.bool false)], args := [d1, d2] }
  | _ => none }
def ArenaCasWrongFalsely : Prop := arenaCasRow.holds Try.pinned (OpenSpec.ofChange arenaCasWrong)

/-- 'concourselaw2.ArenaReads': WHATEVER THE INPUT: true; the input reads as it did. -/
def arenaReadsSpec : ChangeSpec := { name := "arenaReads", fn := fun _ => fun
  | [d1, d2, d3] => { results := [.lit (.bool true)], args := [d1, d2, d3] }
  | _ => none }
def arenaReadsRow : OpenClaim := { program := "ytpmgfjglkbbhgaa", sum := "b2f7225485bc82bbcce372ad8c2e9859cde9d487288fd8c656616614c27ce98f", func := "concourse/concourselaw2.ArenaReads", spec := "arenaReads", apart := false }
def ArenaReadsSaid : Prop := arenaReadsRow.holds Try.pinned (OpenSpec.ofChange arenaReadsSpec)

/-- ITS FALSE NEIGHBOUR: 'it returns false'. Refute it at one input. -/
def arenaReadsWrong : ChangeSpec := { name := "arenaReads", fn := fun _ => fun
  | [d1, d2, d3] => { results := [.lit (.bool false)], args := [d1, d2, d3] }
  | _ => none }
def ArenaReadsWrongFalsely : Prop := arenaReadsRow.holds Try.pinned (OpenSpec.ofChange arenaReadsWrong)

/-- 'concourselaw2.ArenaSums': WHATEVER THE INPUT: true; the input reads as it did. -/
def arenaSumsSpec : ChangeSpec := { name := "arenaSums", fn := fun _ => fun
  | [d] => { results := [.lit (.bool true)], args := [d] }
  | _ => none }
def arenaSumsRow : OpenClaim := { program := "ytpmgfjglkbbhgaa", sum := "b2f7225485bc82bbcce372ad8c2e9859cde9d487288fd8c656616614c27ce98f", func := "concourse/concourselaw2.ArenaSums", spec := "arenaSums", apart := false }
def ArenaSumsSaid : Prop := arenaSumsRow.holds Try.pinned (OpenSpec.ofChange arenaSumsSpec)

/-- ITS FALSE NEIGHBOUR: 'it returns false'. Refute it at one input. -/
def arenaSumsWrong : ChangeSpec := { name := "arenaSums", fn := fun _ => fun
  | [d] => { results := [.lit (.bool false)], args := [d] }
  | _ => none }
def ArenaSumsWrongFalsely : Prop := arenaSumsRow.holds Try.pinned (OpenSpec.ofChange arenaSumsWrong)

/-- 'concourselaw2.ArenaCores': WHATEVER THE INPUT: true; the input reads as it did. -/
def arenaCoresSpec : ChangeSpec := { name := "arenaCores", fn := fun _ => fun
  | [d1, d2] => { results := [.lit (.bool true)], args := [d1, d2] }
  | _ => none }
def arenaCoresRow : OpenClaim := { program := "ytpmgfjglkbbhgaa", sum := "b2f7225485bc82bbcce372ad8c2e9859cde9d487288fd8c656616614c27ce98f", func := "concourse/concourselaw2.ArenaCores", spec := "arenaCores", apart := false }
def ArenaCoresSaid : Prop := arenaCoresRow.holds Try.pinned (OpenSpec.ofChange arenaCoresSpec)

/-- ITS FALSE NEIGHBOUR: 'it returns false'. Refute it at one input. -/
def arenaCoresWrong : ChangeSpec := { name := "arenaCores", fn := fun _ => fun
  | [d1, d2] => { results := [.lit (.bool false)], args := [d1, d2] }
  | _ => none }
def ArenaCoresWrongFalsely : Prop := arenaCoresRow.holds Try.pinned (OpenSpec.ofChange arenaCoresWrong)

/-- 'concourselaw10.InumFull': WHATEVER THE INPUT: true; the input reads as it did. -/
def inumFullSpec : ChangeSpec := { name := "inumFull", fn := fun _ => fun
  | [d1, d2] => { results := [.lit (.bool true)], args := [d1, d2] }
  | _ => none }
def inumFullRow : OpenClaim := { program := "ytpmgfjglkbbhgaa", sum := "b2f7225485bc82bbcce372ad8c2e9859cde9d487288fd8c656616614c27ce98f", func := "concourse/concourselaw10.InumFull", spec := "inumFull", apart := false }
def InumFullSaid : Prop := inumFullRow.holds Try.pinned (OpenSpec.ofChange inumFullSpec)

/-- ITS FALSE NEIGHBOUR: 'it returns false'. Refute it at one input. -/
def inumFullWrong : ChangeSpec := { name := "inumFull", fn := fun _ => fun
  | [d1, d2] => { results := [.lit (.bool false)], args := [d1, d2] }
  | _ => none }
def InumFullWrongFalsely : Prop := inumFullRow.holds Try.pinned (OpenSpec.ofChange inumFullWrong)

/-- 'concourselaw10.InumCores': WHATEVER THE INPUT: true; the input reads as it did. -/
def inumCoresSpec : ChangeSpec := { name := "inumCores", fn := fun _ => fun
  | [d] => { results := [.lit (.bool true)], args := [d] }
  | _ => none }
def inumCoresRow : OpenClaim := { program := "ytpmgfjglkbbhgaa", sum := "b2f7225485bc82bbcce372ad8c2e9859cde9d487288fd8c656616614c27ce98f", func := "concourse/concourselaw10.InumCores", spec := "inumCores", apart := false }
def InumCoresSaid : Prop := inumCoresRow.holds Try.pinned (OpenSpec.ofChange inumCoresSpec)

/-- ITS FALSE NEIGHBOUR: 'it returns false'. Refute it at one input. -/
def inumCoresWrong : ChangeSpec := { name := "inumCores", fn := fun _ => fun
  | [d] => { results := [.lit (.bool false)], args := [d] }
  | _ => none }
def InumCoresWrongFalsely : Prop := inumCoresRow.holds Try.pinned (OpenSpec.ofChange inumCoresWrong)

/-- 'concourselaw10.InumOnce': WHATEVER THE INPUT: true; the input reads as it did. -/
def inumOnceSpec : ChangeSpec := { name := "inumOnce", fn := fun _ => fun
  | [d1, d2] => { results := [.lit (.bool true)], args := [d1, d2] }
  | _ => none }
def inumOnceRow : OpenClaim := { program := "ytpmgfjglkbbhgaa", sum := "b2f7225485bc82bbcce372ad8c2e9859cde9d487288fd8c656616614c27ce98f", func := "concourse/concourselaw10.InumOnce", spec := "inumOnce", apart := false }
def InumOnceSaid : Prop := inumOnceRow.holds Try.pinned (OpenSpec.ofChange inumOnceSpec)

/-- ITS FALSE NEIGHBOUR: 'it returns false'. Refute it at one input. -/
def inumOnceWrong : ChangeSpec := { name := "inumOnce", fn := fun _ => fun
  | [d1, d2] => { results := [.lit (.bool false)], args := [d1, d2] }
  | _ => none }
def InumOnceWrongFalsely : Prop := inumOnceRow.holds Try.pinned (OpenSpec.ofChange inumOnceWrong)

/-- 'concourselaw2.ArenaActs': WHATEVER THE INPUT: true; the input reads as it did. -/
def arenaActsSpec : ChangeSpec := { name := "arenaActs", fn := fun _ => fun
  | [d1, d2, d3] => { results := [.lit (.bool true)], args := [d1, d2, d3] }
  | _ => none }
def arenaActsRow : OpenClaim := { program := "ytpmgfjglkbbhgaa", sum := "b2f7225485bc82bbcce372ad8c2e9859cde9d487288fd8c656616614c27ce98f", func := "concourse/concourselaw2.ArenaActs", spec := "arenaActs", apart := false }
def ArenaActsSaid : Prop := arenaActsRow.holds Try.pinned (OpenSpec.ofChange arenaActsSpec)

/-- ITS FALSE NEIGHBOUR: 'it returns false'. Refute it at one input. -/
def arenaActsWrong : ChangeSpec := { name := "arenaActs", fn := fun _ => fun
  | [d1, d2, d3] => { results := [.lit (.bool false)], args := [d1, d2, d3] }
  | _ => none }
def ArenaActsWrongFalsely : Prop := arenaActsRow.holds Try.pinned (OpenSpec.ofChange arenaActsWrong)

/-- 'concourselaw10.InumNexts': WHATEVER THE INPUT: true; the input reads as it did. -/
def inumNextsSpec : ChangeSpec := { name := "inumNexts", fn := fun _ => fun
  | [d1, d2] => { results := [.lit (.bool true)], args := [d1, d2] }
  | _ => none }
def inumNextsRow : OpenClaim := { program := "ytpmgfjglkbbhgaa", sum := "b2f7225485bc82bbcce372ad8c2e9859cde9d487288fd8c656616614c27ce98f", func := "concourse/concourselaw10.InumNexts", spec := "inumNexts", apart := false }
def InumNextsSaid : Prop := inumNextsRow.holds Try.pinned (OpenSpec.ofChange inumNextsSpec)

/-- ITS FALSE NEIGHBOUR: 'it returns false'. Refute it at one input. -/
def inumNextsWrong : ChangeSpec := { name := "inumNexts", fn := fun _ => fun
  | [d1, d2] => { results := [.lit (.bool false)], args := [d1, d2] }
  | _ => none }
def InumNextsWrongFalsely : Prop := inumNextsRow.holds Try.pinned (OpenSpec.ofChange inumNextsWrong)

/-- 'concourselaw12.FdsAll': WHATEVER THE INPUT: true; the input reads as it did. -/
def fdsAllSpec : ChangeSpec := { name := "fdsAll", fn := fun _ => fun
  | [d1, d2] => { results := [.lit (.bool true)], args := [d1, d2] }
  | _ => none }
def fdsAllRow : OpenClaim := { program := "ytpmgfjglkbbhgaa", sum := "b2f7225485bc82bbcce372ad8c2e9859cde9d487288fd8c656616614c27ce98f", func := "concourse/concourselaw12.FdsAll", spec := "fdsAll", apart := false }
def FdsAllSaid : Prop := fdsAllRow.holds Try.pinned (OpenSpec.ofChange fdsAllSpec)

/-- ITS FALSE NEIGHBOUR: 'it returns false'. Refute it at one input. -/
def fdsAllWrong : ChangeSpec := { name := "fdsAll", fn := fun _ => fun
  | [d1, d2] => { results := [.lit (.bool false)], args := [d1, d2] }
  | _ => none }
def FdsAllWrongFalsely : Prop := fdsAllRow.holds Try.pinned (OpenSpec.ofChange fdsAllWrong)

/-- 'concourselaw12.FdsCores': WHATEVER THE INPUT: true; the input reads as it did. -/
def fdsCoresSpec : ChangeSpec := { name := "fdsCores", fn := fun _ => fun
  | [d1, d2] => { results := [.lit (.bool true)], args := [d1, d2] }
  | _ => none }
def fdsCoresRow : OpenClaim := { program := "ytpmgfjglkbbhgaa", sum := "b2f7225485bc82bbcce372ad8c2e9859cde9d487288fd8c656616614c27ce98f", func := "concourse/concourselaw12.FdsCores", spec := "fdsCores", apart := false }
def FdsCoresSaid : Prop := fdsCoresRow.holds Try.pinned (OpenSpec.ofChange fdsCoresSpec)

/-- ITS FALSE NEIGHBOUR: 'it returns false'. Refute it at one input. -/
def fdsCoresWrong : ChangeSpec := { name := "fdsCores", fn := fun _ => fun
  | [d1, d2] => { results := [.lit (.bool false)], args := [d1, d2] }
  | _ => none }
def FdsCoresWrongFalsely : Prop := fdsCoresRow.holds Try.pinned (OpenSpec.ofChange fdsCoresWrong)

/-- 'concourselaw12.FdsActs': WHATEVER THE INPUT: true; the input reads as it did. -/
def fdsActsSpec : ChangeSpec := { name := "fdsActs", fn := fun _ => fun
  | [d1, d2] => { results := [.lit (.bool true)], args := [d1, d2] }
  | _ => none }
def fdsActsRow : OpenClaim := { program := "ytpmgfjglkbbhgaa", sum := "b2f7225485bc82bbcce372ad8c2e9859cde9d487288fd8c656616614c27ce98f", func := "concourse/concourselaw12.FdsActs", spec := "fdsActs", apart := false }
def FdsActsSaid : Prop := fdsActsRow.holds Try.pinned (OpenSpec.ofChange fdsActsSpec)

/-- ITS FALSE NEIGHBOUR: 'it returns false'. Refute it at one input. -/
def fdsActsWrong : ChangeSpec := { name := "fdsActs", fn := fun _ => fun
  | [d1, d2] => { results := [.lit (.bool false)], args := [d1, d2] }
  | _ => none }
def FdsActsWrongFalsely : Prop := fdsActsRow.holds Try.pinned (OpenSpec.ofChange fdsActsWrong)

/- THE SECOND FORM. 'bulk': how many values and letters a reading holds, each counted each time it is reached (what is shared counts as often as it is met; a slice's spare places count too). A statement '..UptoSaid' is the law's where the arguments, and the package variables that the reading takes, are together of bulk at most 1048576: NARROWER than '..Said'. Prove '..Said' where nothing that the law and all that it calls make is longer than what came in: it says more and counts as full. Else prove '..UptoSaid'. A law counts once. -/
mutual
def uptoBulk {H : Type} : DataW H → Nat
  | .lit (.string bytes) => bytes.length + 1
  | .lit _ => 1
  | .nil => 1
  | .ptr d => uptoBulk d + 1
  | .slice elems spare => uptoBulkAll elems + uptoBulkAll spare + 1
  | .agg parts => uptoBulkAll parts + 1
  | .iface _ d => uptoBulk d + 1
  | .map entries => uptoBulkEntries entries + 1
  | .held _ => 1
def uptoBulkAll {H : Type} : List (DataW H) → Nat
  | [] => 0
  | d :: r => uptoBulk d + uptoBulkAll r
def uptoBulkEntries {H : Type} : List (Lit × DataW H) → Nat
  | [] => 0
  | x :: r => uptoBulkEntry x + uptoBulkEntries r
def uptoBulkEntry {H : Type} : Lit × DataW H → Nat
  | (.string bytes, d) => bytes.length + uptoBulk d + 1
  | (_, d) => uptoBulk d + 1
 end
def uptoSmall : (H : Type) → List (DataW H) → Bool := fun _ ds => decide (uptoBulkAll ds ≤ 1048576)
def OpenSpec.upto (s : _root_.Go.ChangeSpec) : _root_.Go.OpenSpec := { _root_.Go.OpenSpec.ofChange s with cond := some uptoSmall }

/-- 'concourselaw2.ArenaCas', WHERE WHAT IT READS IS OF BULK AT MOST 1048576: true; the input reads as it did. -/
def arenaCasUptoRow : OpenClaim := { program := "ytpmgfjglkbbhgaa", sum := "b2f7225485bc82bbcce372ad8c2e9859cde9d487288fd8c656616614c27ce98f", func := "concourse/concourselaw2.ArenaCas", spec := "arenaCas", apart := false, narrowed := true }
def ArenaCasUptoSaid : Prop := arenaCasUptoRow.holds Try.pinned (OpenSpec.upto arenaCasSpec)

/-- 'concourselaw2.ArenaReads', WHERE WHAT IT READS IS OF BULK AT MOST 1048576: true; the input reads as it did. -/
def arenaReadsUptoRow : OpenClaim := { program := "ytpmgfjglkbbhgaa", sum := "b2f7225485bc82bbcce372ad8c2e9859cde9d487288fd8c656616614c27ce98f", func := "concourse/concourselaw2.ArenaReads", spec := "arenaReads", apart := false, narrowed := true }
def ArenaReadsUptoSaid : Prop := arenaReadsUptoRow.holds Try.pinned (OpenSpec.upto arenaReadsSpec)

/-- 'concourselaw2.ArenaSums', WHERE WHAT IT READS IS OF BULK AT MOST 1048576: true; the input reads as it did. -/
def arenaSumsUptoRow : OpenClaim := { program := "ytpmgfjglkbbhgaa", sum := "b2f7225485bc82bbcce372ad8c2e9859cde9d487288fd8c656616614c27ce98f", func := "concourse/concourselaw2.ArenaSums", spec := "arenaSums", apart := false, narrowed := true }
def ArenaSumsUptoSaid : Prop := arenaSumsUptoRow.holds Try.pinned (OpenSpec.upto arenaSumsSpec)

/-- 'concourselaw2.ArenaCores', WHERE WHAT IT READS IS OF BULK AT MOST 1048576: true; the input reads as it did. -/
def arenaCoresUptoRow : OpenClaim := { program := "ytpmgfjglkbbhgaa", sum := "b2f7225485bc82bbcce372ad8c2e9859cde9d487288fd8c656616614c27ce98f", func := "concourse/concourselaw2.ArenaCores", spec := "arenaCores", apart := false, narrowed := true }
def ArenaCoresUptoSaid : Prop := arenaCoresUptoRow.holds Try.pinned (OpenSpec.upto arenaCoresSpec)

/-- 'concourselaw10.InumFull', WHERE WHAT IT READS IS OF BULK AT MOST 1048576: true; the input reads as it did. -/
def inumFullUptoRow : OpenClaim := { program := "ytpmgfjglkbbhgaa", sum := "b2f7225485bc82bbcce372ad8c2e9859cde9d487288fd8c656616614c27ce98f", func := "concourse/concourselaw10.InumFull", spec := "inumFull", apart := false, narrowed := true }
def InumFullUptoSaid : Prop := inumFullUptoRow.holds Try.pinned (OpenSpec.upto inumFullSpec)

/-- 'concourselaw10.InumCores', WHERE WHAT IT READS IS OF BULK AT MOST 1048576: true; the input reads as it did. -/
def inumCoresUptoRow : OpenClaim := { program := "ytpmgfjglkbbhgaa", sum := "b2f7225485bc82bbcce372ad8c2e9859cde9d487288fd8c656616614c27ce98f", func := "concourse/concourselaw10.InumCores", spec := "inumCores", apart := false, narrowed := true }
def InumCoresUptoSaid : Prop := inumCoresUptoRow.holds Try.pinned (OpenSpec.upto inumCoresSpec)

/-- 'concourselaw10.InumOnce', WHERE WHAT IT READS IS OF BULK AT MOST 1048576: true; the input reads as it did. -/
def inumOnceUptoRow : OpenClaim := { program := "ytpmgfjglkbbhgaa", sum := "b2f7225485bc82bbcce372ad8c2e9859cde9d487288fd8c656616614c27ce98f", func := "concourse/concourselaw10.InumOnce", spec := "inumOnce", apart := false, narrowed := true }
def InumOnceUptoSaid : Prop := inumOnceUptoRow.holds Try.pinned (OpenSpec.upto inumOnceSpec)

/-- 'concourselaw2.ArenaActs', WHERE WHAT IT READS IS OF BULK AT MOST 1048576: true; the input reads as it did. -/
def arenaActsUptoRow : OpenClaim := { program := "ytpmgfjglkbbhgaa", sum := "b2f7225485bc82bbcce372ad8c2e9859cde9d487288fd8c656616614c27ce98f", func := "concourse/concourselaw2.ArenaActs", spec := "arenaActs", apart := false, narrowed := true }
def ArenaActsUptoSaid : Prop := arenaActsUptoRow.holds Try.pinned (OpenSpec.upto arenaActsSpec)

/-- 'concourselaw10.InumNexts', WHERE WHAT IT READS IS OF BULK AT MOST 1048576: true; the input reads as it did. -/
def inumNextsUptoRow : OpenClaim := { program := "ytpmgfjglkbbhgaa", sum := "b2f7225485bc82bbcce372ad8c2e9859cde9d487288fd8c656616614c27ce98f", func := "concourse/concourselaw10.InumNexts", spec := "inumNexts", apart := false, narrowed := true }
def InumNextsUptoSaid : Prop := inumNextsUptoRow.holds Try.pinned (OpenSpec.upto inumNextsSpec)

/-- 'concourselaw12.FdsAll', WHERE WHAT IT READS IS OF BULK AT MOST 1048576: true; the input reads as it did. -/
def fdsAllUptoRow : OpenClaim := { program := "ytpmgfjglkbbhgaa", sum := "b2f7225485bc82bbcce372ad8c2e9859cde9d487288fd8c656616614c27ce98f", func := "concourse/concourselaw12.FdsAll", spec := "fdsAll", apart := false, narrowed := true }
def FdsAllUptoSaid : Prop := fdsAllUptoRow.holds Try.pinned (OpenSpec.upto fdsAllSpec)

/-- 'concourselaw12.FdsCores', WHERE WHAT IT READS IS OF BULK AT MOST 1048576: true; the input reads as it did. -/
def fdsCoresUptoRow : OpenClaim := { program := "ytpmgfjglkbbhgaa", sum := "b2f7225485bc82bbcce372ad8c2e9859cde9d487288fd8c656616614c27ce98f", func := "concourse/concourselaw12.FdsCores", spec := "fdsCores", apart := false, narrowed := true }
def FdsCoresUptoSaid : Prop := fdsCoresUptoRow.holds Try.pinned (OpenSpec.upto fdsCoresSpec)

/-- 'concourselaw12.FdsActs', WHERE WHAT IT READS IS OF BULK AT MOST 1048576: true; the input reads as it did. -/
def fdsActsUptoRow : OpenClaim := { program := "ytpmgfjglkbbhgaa", sum := "b2f7225485bc82bbcce372ad8c2e9859cde9d487288fd8c656616614c27ce98f", func := "concourse/concourselaw12.FdsActs", spec := "fdsActs", apart := false, narrowed := true }
def FdsActsUptoSaid : Prop := fdsActsUptoRow.holds Try.pinned (OpenSpec.upto fdsActsSpec)

end Rows
end Go.Proofs.Ytpmgfjglkbbhgaa
