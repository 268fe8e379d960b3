/-
  No cell of these rows narrows 'for every input' (looked for: loops, veiled, ifaces, maps, wideKeys, modest, calm, conditions, laid).
  DERIVED. THE GIVEN ROWS OF THIS SEAT. 6 by the template 'for every input the law returns true; each argument reads behind the call as it read before'; 0 by the template 'total and deterministic' (their statements: YtkbajjpdngfhbaaTotals.lean).
  GIVEN WITH THE SEED: the statements are not yours to turn. If you find one false, say at which input.
  Laid BY PROGRAM, IN A SANDBOX (cutbox-rows.mjs): the forced cells as the released guide's own fill.sh prints them over the translation 69fed5971d4a1fe9… (all of the seat's roots in one cut). By AI agents, Wed Nov 11 2026. No macro, syntax, notation, axiom, sorry.
-/
import Derived.Test.YtkbajjpdngfhbaaChecked
import GoSem.Claim
import GoSem.ClaimJoined
import GoSem.ClaimMapViews
import Derived.JoinedTies
import Derived.KernelRfl
namespace Go.Proofs.Ytkbajjpdngfhbaa
/- THE CELL 'sum', in the pinned program and in every row, IS THE sha256 OF THE DUMP (.gsa) THAT YtkbajjpdngfhbaaProg.lean LOADS. Nothing in Lean hashes anything: it is a label: what it is worth is what the hold of that sum in a sandbox is worth. -/
noncomputable def Try.pinned : Pinned := { name := "ytkbajjpdngfhbaa", sum := "69fed5971d4a1fe93e7f846df622b16f0bffc8c8b9953f193f26a0ce88c816e9", checked := Try.checked }
namespace Rows
def none {H : Type} : Left H := { results := [], args := [] }

/-- 'concourselaw9.DirActs': WHATEVER THE INPUT: true; the input reads as it did. -/
def dirActsSpec : ChangeSpec := { name := "dirActs", fn := fun _ => fun
  | [d] => { results := [.lit (.bool true)], args := [d] }
  | _ => none }
def dirActsRow : OpenClaim := { program := "ytkbajjpdngfhbaa", sum := "69fed5971d4a1fe93e7f846df622b16f0bffc8c8b9953f193f26a0ce88c816e9", func := "concourse/concourselaw9.DirActs", spec := "dirActs", unfollowed := true, recurses := true, apart := false }
def DirActsSaid : Prop := dirActsRow.holds Try.pinned (OpenSpec.ofChange dirActsSpec)

/-- ITS FALSE NEIGHBOUR: 'it returns false'. Refute it at one input. -/
def dirActsWrong : ChangeSpec := { name := "dirActs", fn := fun _ => fun
  | [d] => { results := [.lit (.bool false)], args := [d] }
  | _ => none }
def DirActsWrongFalsely : Prop := dirActsRow.holds Try.pinned (OpenSpec.ofChange dirActsWrong)

/-- 'concourselaw9.DirFills': WHATEVER THE INPUT: true; the input reads as it did. -/
def dirFillsSpec : ChangeSpec := { name := "dirFills", fn := fun _ => fun
  | [d1, d2] => { results := [.lit (.bool true)], args := [d1, d2] }
  | _ => none }
def dirFillsRow : OpenClaim := { program := "ytkbajjpdngfhbaa", sum := "69fed5971d4a1fe93e7f846df622b16f0bffc8c8b9953f193f26a0ce88c816e9", func := "concourse/concourselaw9.DirFills", spec := "dirFills", unfollowed := true, recurses := true, apart := false }
def DirFillsSaid : Prop := dirFillsRow.holds Try.pinned (OpenSpec.ofChange dirFillsSpec)

/-- ITS FALSE NEIGHBOUR: 'it returns false'. Refute it at one input. -/
def dirFillsWrong : ChangeSpec := { name := "dirFills", fn := fun _ => fun
  | [d1, d2] => { results := [.lit (.bool false)], args := [d1, d2] }
  | _ => none }
def DirFillsWrongFalsely : Prop := dirFillsRow.holds Try.pinned (OpenSpec.ofChange dirFillsWrong)

/-- 'concourselaw9.DirMoves': WHATEVER THE INPUT: true; the input reads as it did. -/
def dirMovesSpec : ChangeSpec := { name := "dirMoves", fn := fun _ => fun
  | [d1, d2, d3] => { results := [.lit (.bool true)], args := [d1, d2, d3] }
  | _ => none }
def dirMovesRow : OpenClaim := { program := "ytkbajjpdngfhbaa", sum := "69fed5971d4a1fe93e7f846df622b16f0bffc8c8b9953f193f26a0ce88c816e9", func := "concourse/concourselaw9.DirMoves", spec := "dirMoves", unfollowed := true, recurses := true, apart := false }
def DirMovesSaid : Prop := dirMovesRow.holds Try.pinned (OpenSpec.ofChange dirMovesSpec)

/-- ITS FALSE NEIGHBOUR: 'it returns false'. Refute it at one input. -/
def dirMovesWrong : ChangeSpec := { name := "dirMoves", fn := fun _ => fun
  | [d1, d2, d3] => { results := [.lit (.bool false)], args := [d1, d2, d3] }
  | _ => none }
def DirMovesWrongFalsely : Prop := dirMovesRow.holds Try.pinned (OpenSpec.ofChange dirMovesWrong)

/-- 'concourselaw9.DirMany': WHATEVER THE INPUT: true; the input reads as it did. -/
def dirManySpec : ChangeSpec := { name := "dirMany", fn := fun _ => fun
  | [d1, d2] => { results := [.lit (.bool true)], args := [d1, d2] }
  | _ => none }
def dirManyRow : OpenClaim := { program := "ytkbajjpdngfhbaa", sum := "69fed5971d4a1fe93e7f846df622b16f0bffc8c8b9953f193f26a0ce88c816e9", func := "concourse/concourselaw9.DirMany", spec := "dirMany", unfollowed := true, recurses := true, apart := false }
def DirManySaid : Prop := dirManyRow.holds Try.pinned (OpenSpec.ofChange dirManySpec)

/-- ITS FALSE NEIGHBOUR: 'it returns false'. Refute it at one input. -/
def dirManyWrong : ChangeSpec := { name := "dirMany", fn := fun _ => fun
  | [d1, d2] => { results := [.lit (.bool false)], args := [d1, d2] }
  | _ => none }
def DirManyWrongFalsely : Prop := dirManyRow.holds Try.pinned (OpenSpec.ofChange dirManyWrong)

/-- 'concourselaw9.DirApart': WHATEVER THE INPUT: true; the input reads as it did. -/
def dirApartSpec : ChangeSpec := { name := "dirApart", fn := fun _ => fun
  | [d1, d2] => { results := [.lit (.bool true)], args := [d1, d2] }
  | _ => none }
def dirApartRow : OpenClaim := { program := "ytkbajjpdngfhbaa", sum := "69fed5971d4a1fe93e7f846df622b16f0bffc8c8b9953f193f26a0ce88c816e9", func := "concourse/concourselaw9.DirApart", spec := "dirApart", unfollowed := true, recurses := true, apart := false }
def DirApartSaid : Prop := dirApartRow.holds Try.pinned (OpenSpec.ofChange dirApartSpec)

/-- ITS FALSE NEIGHBOUR: 'it returns false'. Refute it at one input. -/
def dirApartWrong : ChangeSpec := { name := "dirApart", fn := fun _ => fun
  | [d1, d2] => { results := [.lit (.bool false)], args := [d1, d2] }
  | _ => none }
def DirApartWrongFalsely : Prop := dirApartRow.holds Try.pinned (OpenSpec.ofChange dirApartWrong)

/-- 'concourselaw9.DirLooks': WHATEVER THE INPUT: true; the input reads as it did. -/
def dirLooksSpec : ChangeSpec := { name := "dirLooks", fn := fun _ => fun
  | [d1, d2] => { results := [.lit (.bool true)], args := [d1, d2] }
  | _ => none }
def dirLooksRow : OpenClaim := { program := "ytkbajjpdngfhbaa", sum := "69fed5971d4a1fe93e7f846df622b16f0bffc8c8b9953f193f26a0ce88c816e9", func := "concourse/concourselaw9.DirLooks", spec := "dirLooks", unfollowed := true, recurses := true, apart := false }
def DirLooksSaid : Prop := dirLooksRow.holds Try.pinned (OpenSpec.ofChange dirLooksSpec)

/-- ITS FALSE NEIGHBOUR: 'it returns false'. Refute it at one input. -/
def dirLooksWrong : ChangeSpec := { name := "dirLooks", fn := fun _ => fun
  | [d1, d2] => { results := [.lit (.bool false)], args := [d1, d2] }
  | _ => none }
def DirLooksWrongFalsely : Prop := dirLooksRow.holds Try.pinned (OpenSpec.ofChange dirLooksWrong)

/- THE SECOND FORM. 'bulk': how many values and letters a reading holds, each counted each time it is reached (what is shared counts as often as it is met; a slice's spare places count too). A statement '..UptoSaid' is the law's where the arguments, and the package variables that the reading takes, are together of bulk at most 1048576: NARROWER than '..Said'. Prove '..Said' where nothing that the law and all that it calls make is longer than what came in: it says more and counts as full. Else prove '..UptoSaid'. A law counts once. -/
mutual
def uptoBulk {H : Type} : DataW H → Nat
  | .lit (.string bytes) => bytes.length + 1
  | .lit _ => 1
  | .nil => 1
  | .ptr d => uptoBulk d + 1
  | .slice elems spare => uptoBulkAll elems + uptoBulkAll spare + 1
  | .agg parts => uptoBulkAll parts + 1
  | .iface _ d => uptoBulk d + 1
  | .map entries => uptoBulkEntries entries + 1
  | .held _ => 1
def uptoBulkAll {H : Type} : List (DataW H) → Nat
  | [] => 0
  | d :: r => uptoBulk d + uptoBulkAll r
def uptoBulkEntries {H : Type} : List (Lit × DataW H) → Nat
  | [] => 0
  | x :: r => uptoBulkEntry x + uptoBulkEntries r
def uptoBulkEntry {H : Type} : Lit × DataW H → Nat
  | (.string bytes, d) => bytes.length + uptoBulk d + 1
  | (_, d) => uptoBulk d + 1
 end
def uptoSmall : (H : Type) → List (DataW H) → Bool := fun _ ds => decide (uptoBulkAll ds ≤ 1048576)
def OpenSpec.upto (s : _root_.Go.ChangeSpec) : _root_.Go.OpenSpec := { _root_.Go.OpenSpec.ofChange s with cond := some uptoSmall }

/-- 'concourselaw9.DirActs', WHERE WHAT IT READS IS OF BULK AT MOST 1048576: true; the input reads as it did. -/
def dirActsUptoRow : OpenClaim := { program := "ytkbajjpdngfhbaa", sum := "69fed5971d4a1fe93e7f846df622b16f0bffc8c8b9953f193f26a0ce88c816e9", func := "concourse/concourselaw9.DirActs", spec := "dirActs", unfollowed := true, recurses := true, apart := false, narrowed := true }
def DirActsUptoSaid : Prop := dirActsUptoRow.holds Try.pinned (OpenSpec.upto dirActsSpec)

/-- 'concourselaw9.DirFills', WHERE WHAT IT READS IS OF BULK AT MOST 1048576: true; the input reads as it did. -/
def dirFillsUptoRow : OpenClaim := { program := "ytkbajjpdngfhbaa", sum := "69fed5971d4a1fe93e7f846df622b16f0bffc8c8b9953f193f26a0ce88c816e9", func := "concourse/concourselaw9.DirFills", spec := "dirFills", unfollowed := true, recurses := true, apart := false, narrowed := true }
def DirFillsUptoSaid : Prop := dirFillsUptoRow.holds Try.pinned (OpenSpec.upto dirFillsSpec)

/-- 'concourselaw9.DirMoves', WHERE WHAT IT READS IS OF BULK AT MOST 1048576: true; the input reads as it did. -/
def dirMovesUptoRow : OpenClaim := { program := "ytkbajjpdngfhbaa", sum := "69fed5971d4a1fe93e7f846df622b16f0bffc8c8b9953f193f26a0ce88c816e9", func := "concourse/concourselaw9.DirMoves", spec := "dirMoves", unfollowed := true, recurses := true, apart := false, narrowed := true }
def DirMovesUptoSaid : Prop := dirMovesUptoRow.holds Try.pinned (OpenSpec.upto dirMovesSpec)

/-- 'concourselaw9.DirMany', WHERE WHAT IT READS IS OF BULK AT MOST 1048576: true; the input reads as it did. -/
def dirManyUptoRow : OpenClaim := { program := "ytkbajjpdngfhbaa", sum := "69fed5971d4a1fe93e7f846df622b16f0bffc8c8b9953f193f26a0ce88c816e9", func := "concourse/concourselaw9.DirMany", spec := "dirMany", unfollowed := true, recurses := true, apart := false, narrowed := true }
def DirManyUptoSaid : Prop := dirManyUptoRow.holds Try.pinned (OpenSpec.upto dirManySpec)

/-- 'concourselaw9.DirApart', WHERE WHAT IT READS IS OF BULK AT MOST 1048576: true; the input reads as it did. -/
def dirApartUptoRow : OpenClaim := { program := "ytkbajjpdngfhbaa", sum := "69fed5971d4a1fe93e7f846df622b16f0bffc8c8b9953f193f26a0ce88c816e9", func := "concourse/concourselaw9.DirApart", spec := "dirApart", unfollowed := true, recurses := true, apart := false, narrowed := true }
def DirApartUptoSaid : Prop := dirApartUptoRow.holds Try.pinned (OpenSpec.upto dirApartSpec)

/-- 'concourselaw9.DirLooks', WHERE WHAT IT READS IS OF BULK AT MOST 1048576: true; the input reads as it did. -/
def dirLooksUptoRow : OpenClaim := { program := "ytkbajjpdngfhbaa", sum := "69fed5971d4a1fe93e7f846df622b16f0bffc8c8b9953f193f26a0ce88c816e9", func := "concourse/concourselaw9.DirLooks", spec := "dirLooks", unfollowed := true, recurses := true, apart := false, narrowed := true }
def DirLooksUptoSaid : Prop := dirLooksUptoRow.holds Try.pinned (OpenSpec.upto dirLooksSpec)

end Rows
end Go.Proofs.Ytkbajjpdngfhbaa
