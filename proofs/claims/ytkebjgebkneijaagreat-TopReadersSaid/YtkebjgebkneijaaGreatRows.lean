/-
  No cell of these rows narrows 'for every input' (looked for: loops, veiled, ifaces, maps, wideKeys, modest, calm, conditions, laid).
  DERIVED. THE GIVEN ROWS OF THIS SEAT. 3 by the template 'for every input the law returns true; each argument reads behind the call as it read before'; 0 by the template 'total and deterministic' (their statements: YtkebjgebkneijaaGreatTotals.lean).
  GIVEN WITH THE SEED: the statements are not yours to turn. If you find one false, say at which input.
  Laid BY PROGRAM, IN A SANDBOX (cutbox-rows.mjs): the forced cells as the released guide's own fill.sh prints them over the translation 296067c43c690bc8… (all of the seat's roots in one cut). By AI agents, Wed Nov 11 2026. No macro, syntax, notation, axiom, sorry.
-/
import Derived.Test.YtkebjgebkneijaaGreatChecked
import GoSem.Claim
import GoSem.ClaimJoined
import GoSem.ClaimMapViews
import Derived.JoinedTies
import Derived.KernelRfl
namespace Go.Proofs.YtkebjgebkneijaaGreat
/- THE CELL 'sum', in the pinned program and in every row, IS THE sha256 OF THE DUMP (.gsa) THAT YtkebjgebkneijaaGreatProg.lean LOADS. Nothing in Lean hashes anything: it is a label: what it is worth is what the hold of that sum in a sandbox is worth. -/
noncomputable def Tryz.pinned : Pinned := { name := "ytkebjgebkneijaagreat", sum := "296067c43c690bc8014354793a5d5b1001b1011c2c06b65a8260e929eeaf81a7", checked := Tryz.checked }
namespace Rows
def none {H : Type} : Left H := { results := [], args := [] }

/-- 'concoursetop.TopReaders': WHATEVER THE INPUT: true; the input reads as it did. -/
def topReadersSpec : ChangeSpec := { name := "topReaders", fn := fun _ => fun
  | [d1, d2] => { results := [.lit (.bool true)], args := [d1, d2] }
  | _ => none }
def topReadersRow : OpenClaim := { program := "ytkebjgebkneijaagreat", sum := "296067c43c690bc8014354793a5d5b1001b1011c2c06b65a8260e929eeaf81a7", func := "concourse/concoursetop.TopReaders", spec := "topReaders", inPlace := ["internal/bytealg.abigen_runtime_cmpstring", "slices.overlaps[concourse/api.Entry]", "slices.overlaps[concourse/api.Inode]", "slices.overlaps[concourse/api.Desc]"], unfollowed := true, recurses := true, apart := false }
def TopReadersSaid : Prop := topReadersRow.holds Tryz.pinned (OpenSpec.ofChange topReadersSpec)

/-- ITS FALSE NEIGHBOUR: 'it returns false'. Refute it at one input. -/
def topReadersWrong : ChangeSpec := { name := "topReaders", fn := fun _ => fun
  | [d1, d2] => { results := [.lit (.bool false)], args := [d1, d2] }
  | _ => none }
def TopReadersWrongFalsely : Prop := topReadersRow.holds Tryz.pinned (OpenSpec.ofChange topReadersWrong)

/-- 'concoursetop.TopMakers': WHATEVER THE INPUT: true; the input reads as it did. -/
def topMakersSpec : ChangeSpec := { name := "topMakers", fn := fun _ => fun
  | [d1, d2, d3] => { results := [.lit (.bool true)], args := [d1, d2, d3] }
  | _ => none }
def topMakersRow : OpenClaim := { program := "ytkebjgebkneijaagreat", sum := "296067c43c690bc8014354793a5d5b1001b1011c2c06b65a8260e929eeaf81a7", func := "concourse/concoursetop.TopMakers", spec := "topMakers", inPlace := ["internal/bytealg.abigen_runtime_cmpstring", "slices.overlaps[concourse/api.Entry]", "slices.overlaps[concourse/api.Inode]", "slices.overlaps[concourse/api.Desc]"], unfollowed := true, recurses := true, apart := false }
def TopMakersSaid : Prop := topMakersRow.holds Tryz.pinned (OpenSpec.ofChange topMakersSpec)

/-- ITS FALSE NEIGHBOUR: 'it returns false'. Refute it at one input. -/
def topMakersWrong : ChangeSpec := { name := "topMakers", fn := fun _ => fun
  | [d1, d2, d3] => { results := [.lit (.bool false)], args := [d1, d2, d3] }
  | _ => none }
def TopMakersWrongFalsely : Prop := topMakersRow.holds Tryz.pinned (OpenSpec.ofChange topMakersWrong)

/-- 'concoursetop.TopCrowd': WHATEVER THE INPUT: true; the input reads as it did. -/
def topCrowdSpec : ChangeSpec := { name := "topCrowd", fn := fun _ => fun
  | [d1, d2] => { results := [.lit (.bool true)], args := [d1, d2] }
  | _ => none }
def topCrowdRow : OpenClaim := { program := "ytkebjgebkneijaagreat", sum := "296067c43c690bc8014354793a5d5b1001b1011c2c06b65a8260e929eeaf81a7", func := "concourse/concoursetop.TopCrowd", spec := "topCrowd", inPlace := ["internal/bytealg.abigen_runtime_cmpstring", "slices.overlaps[concourse/api.Entry]", "slices.overlaps[concourse/api.Inode]", "slices.overlaps[concourse/api.Desc]"], unfollowed := true, recurses := true, apart := false }
def TopCrowdSaid : Prop := topCrowdRow.holds Tryz.pinned (OpenSpec.ofChange topCrowdSpec)

/-- ITS FALSE NEIGHBOUR: 'it returns false'. Refute it at one input. -/
def topCrowdWrong : ChangeSpec := { name := "topCrowd", fn := fun _ => fun
  | [d1, d2] => { results := [.lit (.bool false)], args := [d1, d2] }
  | _ => none }
def TopCrowdWrongFalsely : Prop := topCrowdRow.holds Tryz.pinned (OpenSpec.ofChange topCrowdWrong)

/- THE SECOND FORM. 'bulk': how many values and letters a reading holds, each counted each time it is reached (what is shared counts as often as it is met; a slice's spare places count too). A statement '..UptoSaid' is the law's where the arguments, and the package variables that the reading takes, are together of bulk at most 1048576: NARROWER than '..Said'. Prove '..Said' where nothing that the law and all that it calls make is longer than what came in: it says more and counts as full. Else prove '..UptoSaid'. A law counts once. -/
mutual
def uptoBulk {H : Type} : DataW H → Nat
  | .lit (.string bytes) => bytes.length + 1
  | .lit _ => 1
  | .nil => 1
  | .ptr d => uptoBulk d + 1
  | .slice elems spare => uptoBulkAll elems + uptoBulkAll spare + 1
  | .agg parts => uptoBulkAll parts + 1
  | .iface _ d => uptoBulk d + 1
  | .map entries => uptoBulkEntries entries + 1
  | .held _ => 1
def uptoBulkAll {H : Type} : List (DataW H) → Nat
  | [] => 0
  | d :: r => uptoBulk d + uptoBulkAll r
def uptoBulkEntries {H : Type} : List (Lit × DataW H) → Nat
  | [] => 0
  | x :: r => uptoBulkEntry x + uptoBulkEntries r
def uptoBulkEntry {H : Type} : Lit × DataW H → Nat
  | (.string bytes, d) => bytes.length + uptoBulk d + 1
  | (_, d) => uptoBulk d + 1
 end
def uptoSmall : (H : Type) → List (DataW H) → Bool := fun _ ds => decide (uptoBulkAll ds ≤ 1048576)
def OpenSpec.upto (s : _root_.Go.ChangeSpec) : _root_.Go.OpenSpec := { _root_.Go.OpenSpec.ofChange s with cond := some uptoSmall }

/-- 'concoursetop.TopReaders', WHERE WHAT IT READS IS OF BULK AT MOST 1048576: true; the input reads as it did. -/
def topReadersUptoRow : OpenClaim := { program := "ytkebjgebkneijaagreat", sum := "296067c43c690bc8014354793a5d5b1001b1011c2c06b65a8260e929eeaf81a7", func := "concourse/concoursetop.TopReaders", spec := "topReaders", inPlace := ["internal/bytealg.abigen_runtime_cmpstring", "slices.overlaps[concourse/api.Entry]", "slices.overlaps[concourse/api.Inode]", "slices.overlaps[concourse/api.Desc]"], unfollowed := true, recurses := true, apart := false, narrowed := true }
def TopReadersUptoSaid : Prop := topReadersUptoRow.holds Tryz.pinned (OpenSpec.upto topReadersSpec)

/-- 'concoursetop.TopMakers', WHERE WHAT IT READS IS OF BULK AT MOST 1048576: true; the input reads as it did. -/
def topMakersUptoRow : OpenClaim := { program := "ytkebjgebkneijaagreat", sum := "296067c43c690bc8014354793a5d5b1001b1011c2c06b65a8260e929eeaf81a7", func := "concourse/concoursetop.TopMakers", spec := "topMakers", inPlace := ["internal/bytealg.abigen_runtime_cmpstring", "slices.overlaps[concourse/api.Entry]", "slices.overlaps[concourse/api.Inode]", "slices.overlaps[concourse/api.Desc]"], unfollowed := true, recurses := true, apart := false, narrowed := true }
def TopMakersUptoSaid : Prop := topMakersUptoRow.holds Tryz.pinned (OpenSpec.upto topMakersSpec)

/-- 'concoursetop.TopCrowd', WHERE WHAT IT READS IS OF BULK AT MOST 1048576: true; the input reads as it did. -/
def topCrowdUptoRow : OpenClaim := { program := "ytkebjgebkneijaagreat", sum := "296067c43c690bc8014354793a5d5b1001b1011c2c06b65a8260e929eeaf81a7", func := "concourse/concoursetop.TopCrowd", spec := "topCrowd", inPlace := ["internal/bytealg.abigen_runtime_cmpstring", "slices.overlaps[concourse/api.Entry]", "slices.overlaps[concourse/api.Inode]", "slices.overlaps[concourse/api.Desc]"], unfollowed := true, recurses := true, apart := false, narrowed := true }
def TopCrowdUptoSaid : Prop := topCrowdUptoRow.holds Tryz.pinned (OpenSpec.upto topCrowdSpec)

end Rows
end Go.Proofs.YtkebjgebkneijaaGreat
