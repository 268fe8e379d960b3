/-
  No cell of these rows narrows 'for every input' (looked for: loops, veiled, ifaces, maps, wideKeys, modest, calm, conditions, laid).
  DERIVED. THE GIVEN ROWS OF THIS SEAT. 12 by the template 'for every input the law returns true; each argument reads behind the call as it read before'; 0 by the template 'total and deterministic' (their statements: YtacjpchcaknacaaTotals.lean).
  GIVEN WITH THE SEED: the statements are not yours to turn. If you find one false, say at which input.
  Laid BY PROGRAM, IN A SANDBOX (cutbox-rows.mjs): the forced cells as the released guide's own fill.sh prints them over the translation f6eb0702c1696dff… (all of the seat's roots in one cut). By AI agents, Wed Nov 11 2026. No macro, syntax, notation, axiom, sorry.
-/
import Derived.Test.YtacjpchcaknacaaChecked
import GoSem.Claim
import GoSem.ClaimJoined
import GoSem.ClaimMapViews
import Derived.JoinedTies
import Derived.KernelRfl
namespace Go.Proofs.Ytacjpchcaknacaa
/- THE CELL 'sum', in the pinned program and in every row, IS THE sha256 OF THE DUMP (.gsa) THAT YtacjpchcaknacaaProg.lean LOADS. Nothing in Lean hashes anything: it is a label: what it is worth is what the hold of that sum in a sandbox is worth. -/
noncomputable def Try.pinned : Pinned := { name := "ytacjpchcaknacaa", sum := "f6eb0702c1696dff7760d34766d1f4f4e6a2958a4f6da5e2130b85a3ce71f061", checked := Try.checked }
namespace Rows
def none {H : Type} : Left H := { results := [], args := [] }

/-- 'concourselaw5.LockOne': WHATEVER THE INPUT: true; the input reads as it did. -/
def lockOneSpec : ChangeSpec := { name := "lockOne", fn := fun _ => fun
  | [d] => { results := [.lit (.bool true)], args := [d] }
  | _ => none }
def lockOneRow : OpenClaim := { program := "ytacjpchcaknacaa", sum := "f6eb0702c1696dff7760d34766d1f4f4e6a2958a4f6da5e2130b85a3ce71f061", func := "concourse/concourselaw5.LockOne", spec := "lockOne", apart := false }
def LockOneSaid : Prop := lockOneRow.holds Try.pinned (OpenSpec.ofChange lockOneSpec)

/-- ITS FALSE NEIGHBOUR: 'it returns false'. Refute it at one input. -/
def lockOneWrong : ChangeSpec := { name := "lockOne", fn := fun _ => fun
  | [d] => { results := [.lit (.bool false)], args := [d] }
  | _ => none }
def LockOneWrongFalsely : Prop := lockOneRow.holds Try.pinned (OpenSpec.ofChange lockOneWrong)

/-- 'concourselaw5.LockWords': WHATEVER THE INPUT: true; the input reads as it did. -/
def lockWordsSpec : ChangeSpec := { name := "lockWords", fn := fun _ => fun
  | [d1, d2] => { results := [.lit (.bool true)], args := [d1, d2] }
  | _ => none }
def lockWordsRow : OpenClaim := { program := "ytacjpchcaknacaa", sum := "f6eb0702c1696dff7760d34766d1f4f4e6a2958a4f6da5e2130b85a3ce71f061", func := "concourse/concourselaw5.LockWords", spec := "lockWords", apart := false }
def LockWordsSaid : Prop := lockWordsRow.holds Try.pinned (OpenSpec.ofChange lockWordsSpec)

/-- ITS FALSE NEIGHBOUR: 'it returns false'. Refute it at one input. -/
def lockWordsWrong : ChangeSpec := { name := "lockWords", fn := fun _ => fun
  | [d1, d2] => { results := [.lit (.bool false)], args := [d1, d2] }
  | _ => none }
def LockWordsWrongFalsely : Prop := lockWordsRow.holds Try.pinned (OpenSpec.ofChange lockWordsWrong)

/-- 'concourselaw5.LockSeq': WHATEVER THE INPUT: true; the input reads as it did. -/
def lockSeqSpec : ChangeSpec := { name := "lockSeq", fn := fun _ => fun
  | [d] => { results := [.lit (.bool true)], args := [d] }
  | _ => none }
def lockSeqRow : OpenClaim := { program := "ytacjpchcaknacaa", sum := "f6eb0702c1696dff7760d34766d1f4f4e6a2958a4f6da5e2130b85a3ce71f061", func := "concourse/concourselaw5.LockSeq", spec := "lockSeq", apart := false }
def LockSeqSaid : Prop := lockSeqRow.holds Try.pinned (OpenSpec.ofChange lockSeqSpec)

/-- ITS FALSE NEIGHBOUR: 'it returns false'. Refute it at one input. -/
def lockSeqWrong : ChangeSpec := { name := "lockSeq", fn := fun _ => fun
  | [d] => { results := [.lit (.bool false)], args := [d] }
  | _ => none }
def LockSeqWrongFalsely : Prop := lockSeqRow.holds Try.pinned (OpenSpec.ofChange lockSeqWrong)

/-- 'concourselaw5.LockActs': WHATEVER THE INPUT: true; the input reads as it did. -/
def lockActsSpec : ChangeSpec := { name := "lockActs", fn := fun _ => fun
  | [d] => { results := [.lit (.bool true)], args := [d] }
  | _ => none }
def lockActsRow : OpenClaim := { program := "ytacjpchcaknacaa", sum := "f6eb0702c1696dff7760d34766d1f4f4e6a2958a4f6da5e2130b85a3ce71f061", func := "concourse/concourselaw5.LockActs", spec := "lockActs", apart := false }
def LockActsSaid : Prop := lockActsRow.holds Try.pinned (OpenSpec.ofChange lockActsSpec)

/-- ITS FALSE NEIGHBOUR: 'it returns false'. Refute it at one input. -/
def lockActsWrong : ChangeSpec := { name := "lockActs", fn := fun _ => fun
  | [d] => { results := [.lit (.bool false)], args := [d] }
  | _ => none }
def LockActsWrongFalsely : Prop := lockActsRow.holds Try.pinned (OpenSpec.ofChange lockActsWrong)

/-- 'concourselaw4.AllocActs': WHATEVER THE INPUT: true; the input reads as it did. -/
def allocActsSpec : ChangeSpec := { name := "allocActs", fn := fun _ => fun
  | [d1, d2, d3, d4] => { results := [.lit (.bool true)], args := [d1, d2, d3, d4] }
  | _ => none }
def allocActsRow : OpenClaim := { program := "ytacjpchcaknacaa", sum := "f6eb0702c1696dff7760d34766d1f4f4e6a2958a4f6da5e2130b85a3ce71f061", func := "concourse/concourselaw4.AllocActs", spec := "allocActs", apart := false }
def AllocActsSaid : Prop := allocActsRow.holds Try.pinned (OpenSpec.ofChange allocActsSpec)

/-- ITS FALSE NEIGHBOUR: 'it returns false'. Refute it at one input. -/
def allocActsWrong : ChangeSpec := { name := "allocActs", fn := fun _ => fun
  | [d1, d2, d3, d4] => { results := [.lit (.bool false)], args := [d1, d2, d3, d4] }
  | _ => none }
def AllocActsWrongFalsely : Prop := allocActsRow.holds Try.pinned (OpenSpec.ofChange allocActsWrong)

/-- 'concourselaw4.AllocShare': WHATEVER THE INPUT: true; the input reads as it did. -/
def allocShareSpec : ChangeSpec := { name := "allocShare", fn := fun _ => fun
  | [d1, d2] => { results := [.lit (.bool true)], args := [d1, d2] }
  | _ => none }
def allocShareRow : OpenClaim := { program := "ytacjpchcaknacaa", sum := "f6eb0702c1696dff7760d34766d1f4f4e6a2958a4f6da5e2130b85a3ce71f061", func := "concourse/concourselaw4.AllocShare", spec := "allocShare", apart := false }
def AllocShareSaid : Prop := allocShareRow.holds Try.pinned (OpenSpec.ofChange allocShareSpec)

/-- ITS FALSE NEIGHBOUR: 'it returns false'. Refute it at one input. -/
def allocShareWrong : ChangeSpec := { name := "allocShare", fn := fun _ => fun
  | [d1, d2] => { results := [.lit (.bool false)], args := [d1, d2] }
  | _ => none }
def AllocShareWrongFalsely : Prop := allocShareRow.holds Try.pinned (OpenSpec.ofChange allocShareWrong)

/-- 'concourselaw7.RadixActs': WHATEVER THE INPUT: true; the input reads as it did. -/
def radixActsSpec : ChangeSpec := { name := "radixActs", fn := fun _ => fun
  | [d] => { results := [.lit (.bool true)], args := [d] }
  | _ => none }
def radixActsRow : OpenClaim := { program := "ytacjpchcaknacaa", sum := "f6eb0702c1696dff7760d34766d1f4f4e6a2958a4f6da5e2130b85a3ce71f061", func := "concourse/concourselaw7.RadixActs", spec := "radixActs", apart := false }
def RadixActsSaid : Prop := radixActsRow.holds Try.pinned (OpenSpec.ofChange radixActsSpec)

/-- ITS FALSE NEIGHBOUR: 'it returns false'. Refute it at one input. -/
def radixActsWrong : ChangeSpec := { name := "radixActs", fn := fun _ => fun
  | [d] => { results := [.lit (.bool false)], args := [d] }
  | _ => none }
def RadixActsWrongFalsely : Prop := radixActsRow.holds Try.pinned (OpenSpec.ofChange radixActsWrong)

/-- 'concourselaw7.RadixCuts': WHATEVER THE INPUT: true; the input reads as it did. -/
def radixCutsSpec : ChangeSpec := { name := "radixCuts", fn := fun _ => fun
  | [d1, d2] => { results := [.lit (.bool true)], args := [d1, d2] }
  | _ => none }
def radixCutsRow : OpenClaim := { program := "ytacjpchcaknacaa", sum := "f6eb0702c1696dff7760d34766d1f4f4e6a2958a4f6da5e2130b85a3ce71f061", func := "concourse/concourselaw7.RadixCuts", spec := "radixCuts", apart := false }
def RadixCutsSaid : Prop := radixCutsRow.holds Try.pinned (OpenSpec.ofChange radixCutsSpec)

/-- ITS FALSE NEIGHBOUR: 'it returns false'. Refute it at one input. -/
def radixCutsWrong : ChangeSpec := { name := "radixCuts", fn := fun _ => fun
  | [d1, d2] => { results := [.lit (.bool false)], args := [d1, d2] }
  | _ => none }
def RadixCutsWrongFalsely : Prop := radixCutsRow.holds Try.pinned (OpenSpec.ofChange radixCutsWrong)

/-- 'concourselaw4.AllocAgain': WHATEVER THE INPUT: true; the input reads as it did. -/
def allocAgainSpec : ChangeSpec := { name := "allocAgain", fn := fun _ => fun
  | [d1, d2] => { results := [.lit (.bool true)], args := [d1, d2] }
  | _ => none }
def allocAgainRow : OpenClaim := { program := "ytacjpchcaknacaa", sum := "f6eb0702c1696dff7760d34766d1f4f4e6a2958a4f6da5e2130b85a3ce71f061", func := "concourse/concourselaw4.AllocAgain", spec := "allocAgain", apart := false }
def AllocAgainSaid : Prop := allocAgainRow.holds Try.pinned (OpenSpec.ofChange allocAgainSpec)

/-- ITS FALSE NEIGHBOUR: 'it returns false'. Refute it at one input. -/
def allocAgainWrong : ChangeSpec := { name := "allocAgain", fn := fun _ => fun
  | [d1, d2] => { results := [.lit (.bool false)], args := [d1, d2] }
  | _ => none }
def AllocAgainWrongFalsely : Prop := allocAgainRow.holds Try.pinned (OpenSpec.ofChange allocAgainWrong)

/-- 'concourselaw4.AllocApart': WHATEVER THE INPUT: true; the input reads as it did. -/
def allocApartSpec : ChangeSpec := { name := "allocApart", fn := fun _ => fun
  | [d1, d2] => { results := [.lit (.bool true)], args := [d1, d2] }
  | _ => none }
def allocApartRow : OpenClaim := { program := "ytacjpchcaknacaa", sum := "f6eb0702c1696dff7760d34766d1f4f4e6a2958a4f6da5e2130b85a3ce71f061", func := "concourse/concourselaw4.AllocApart", spec := "allocApart", apart := false }
def AllocApartSaid : Prop := allocApartRow.holds Try.pinned (OpenSpec.ofChange allocApartSpec)

/-- ITS FALSE NEIGHBOUR: 'it returns false'. Refute it at one input. -/
def allocApartWrong : ChangeSpec := { name := "allocApart", fn := fun _ => fun
  | [d1, d2] => { results := [.lit (.bool false)], args := [d1, d2] }
  | _ => none }
def AllocApartWrongFalsely : Prop := allocApartRow.holds Try.pinned (OpenSpec.ofChange allocApartWrong)

/-- 'concourselaw7.RadixApart': WHATEVER THE INPUT: true; the input reads as it did. -/
def radixApartSpec : ChangeSpec := { name := "radixApart", fn := fun _ => fun
  | [d1, d2] => { results := [.lit (.bool true)], args := [d1, d2] }
  | _ => none }
def radixApartRow : OpenClaim := { program := "ytacjpchcaknacaa", sum := "f6eb0702c1696dff7760d34766d1f4f4e6a2958a4f6da5e2130b85a3ce71f061", func := "concourse/concourselaw7.RadixApart", spec := "radixApart", apart := false }
def RadixApartSaid : Prop := radixApartRow.holds Try.pinned (OpenSpec.ofChange radixApartSpec)

/-- ITS FALSE NEIGHBOUR: 'it returns false'. Refute it at one input. -/
def radixApartWrong : ChangeSpec := { name := "radixApart", fn := fun _ => fun
  | [d1, d2] => { results := [.lit (.bool false)], args := [d1, d2] }
  | _ => none }
def RadixApartWrongFalsely : Prop := radixApartRow.holds Try.pinned (OpenSpec.ofChange radixApartWrong)

/-- 'concourselaw7.RadixReads': WHATEVER THE INPUT: true; the input reads as it did. -/
def radixReadsSpec : ChangeSpec := { name := "radixReads", fn := fun _ => fun
  | [d] => { results := [.lit (.bool true)], args := [d] }
  | _ => none }
def radixReadsRow : OpenClaim := { program := "ytacjpchcaknacaa", sum := "f6eb0702c1696dff7760d34766d1f4f4e6a2958a4f6da5e2130b85a3ce71f061", func := "concourse/concourselaw7.RadixReads", spec := "radixReads", apart := false }
def RadixReadsSaid : Prop := radixReadsRow.holds Try.pinned (OpenSpec.ofChange radixReadsSpec)

/-- ITS FALSE NEIGHBOUR: 'it returns false'. Refute it at one input. -/
def radixReadsWrong : ChangeSpec := { name := "radixReads", fn := fun _ => fun
  | [d] => { results := [.lit (.bool false)], args := [d] }
  | _ => none }
def RadixReadsWrongFalsely : Prop := radixReadsRow.holds Try.pinned (OpenSpec.ofChange radixReadsWrong)

/- THE SECOND FORM. 'bulk': how many values and letters a reading holds, each counted each time it is reached (what is shared counts as often as it is met; a slice's spare places count too). A statement '..UptoSaid' is the law's where the arguments, and the package variables that the reading takes, are together of bulk at most 1048576: NARROWER than '..Said'. Prove '..Said' where nothing that the law and all that it calls make is longer than what came in: it says more and counts as full. Else prove '..UptoSaid'. A law counts once. -/
mutual
def uptoBulk {H : Type} : DataW H → Nat
  | .lit (.string bytes) => bytes.length + 1
  | .lit _ => 1
  | .nil => 1
  | .ptr d => uptoBulk d + 1
  | .slice elems spare => uptoBulkAll elems + uptoBulkAll spare + 1
  | .agg parts => uptoBulkAll parts + 1
  | .iface _ d => uptoBulk d + 1
  | .map entries => uptoBulkEntries entries + 1
  | .held _ => 1
def uptoBulkAll {H : Type} : List (DataW H) → Nat
  | [] => 0
  | d :: r => uptoBulk d + uptoBulkAll r
def uptoBulkEntries {H : Type} : List (Lit × DataW H) → Nat
  | [] => 0
  | x :: r => uptoBulkEntry x + uptoBulkEntries r
def uptoBulkEntry {H : Type} : Lit × DataW H → Nat
  | (.string bytes, d) => bytes.length + uptoBulk d + 1
  | (_, d) => uptoBulk d + 1
 end
def uptoSmall : (H : Type) → List (DataW H) → Bool := fun _ ds => decide (uptoBulkAll ds ≤ 1048576)
def OpenSpec.upto (s : _root_.Go.ChangeSpec) : _root_.Go.OpenSpec := { _root_.Go.OpenSpec.ofChange s with cond := some uptoSmall }

/-- 'concourselaw5.LockOne', WHERE WHAT IT READS IS OF BULK AT MOST 1048576: true; the input reads as it did. -/
def lockOneUptoRow : OpenClaim := { program := "ytacjpchcaknacaa", sum := "f6eb0702c1696dff7760d34766d1f4f4e6a2958a4f6da5e2130b85a3ce71f061", func := "concourse/concourselaw5.LockOne", spec := "lockOne", apart := false, narrowed := true }
def LockOneUptoSaid : Prop := lockOneUptoRow.holds Try.pinned (OpenSpec.upto lockOneSpec)

/-- 'concourselaw5.LockWords', WHERE WHAT IT READS IS OF BULK AT MOST 1048576: true; the input reads as it did. -/
def lockWordsUptoRow : OpenClaim := { program := "ytacjpchcaknacaa", sum := "f6eb0702c1696dff7760d34766d1f4f4e6a2958a4f6da5e2130b85a3ce71f061", func := "concourse/concourselaw5.LockWords", spec := "lockWords", apart := false, narrowed := true }
def LockWordsUptoSaid : Prop := lockWordsUptoRow.holds Try.pinned (OpenSpec.upto lockWordsSpec)

/-- 'concourselaw5.LockSeq', WHERE WHAT IT READS IS OF BULK AT MOST 1048576: true; the input reads as it did. -/
def lockSeqUptoRow : OpenClaim := { program := "ytacjpchcaknacaa", sum := "f6eb0702c1696dff7760d34766d1f4f4e6a2958a4f6da5e2130b85a3ce71f061", func := "concourse/concourselaw5.LockSeq", spec := "lockSeq", apart := false, narrowed := true }
def LockSeqUptoSaid : Prop := lockSeqUptoRow.holds Try.pinned (OpenSpec.upto lockSeqSpec)

/-- 'concourselaw5.LockActs', WHERE WHAT IT READS IS OF BULK AT MOST 1048576: true; the input reads as it did. -/
def lockActsUptoRow : OpenClaim := { program := "ytacjpchcaknacaa", sum := "f6eb0702c1696dff7760d34766d1f4f4e6a2958a4f6da5e2130b85a3ce71f061", func := "concourse/concourselaw5.LockActs", spec := "lockActs", apart := false, narrowed := true }
def LockActsUptoSaid : Prop := lockActsUptoRow.holds Try.pinned (OpenSpec.upto lockActsSpec)

/-- 'concourselaw4.AllocActs', WHERE WHAT IT READS IS OF BULK AT MOST 1048576: true; the input reads as it did. -/
def allocActsUptoRow : OpenClaim := { program := "ytacjpchcaknacaa", sum := "f6eb0702c1696dff7760d34766d1f4f4e6a2958a4f6da5e2130b85a3ce71f061", func := "concourse/concourselaw4.AllocActs", spec := "allocActs", apart := false, narrowed := true }
def AllocActsUptoSaid : Prop := allocActsUptoRow.holds Try.pinned (OpenSpec.upto allocActsSpec)

/-- 'concourselaw4.AllocShare', WHERE WHAT IT READS IS OF BULK AT MOST 1048576: true; the input reads as it did. -/
def allocShareUptoRow : OpenClaim := { program := "ytacjpchcaknacaa", sum := "f6eb0702c1696dff7760d34766d1f4f4e6a2958a4f6da5e2130b85a3ce71f061", func := "concourse/concourselaw4.AllocShare", spec := "allocShare", apart := false, narrowed := true }
def AllocShareUptoSaid : Prop := allocShareUptoRow.holds Try.pinned (OpenSpec.upto allocShareSpec)

/-- 'concourselaw7.RadixActs', WHERE WHAT IT READS IS OF BULK AT MOST 1048576: true; the input reads as it did. -/
def radixActsUptoRow : OpenClaim := { program := "ytacjpchcaknacaa", sum := "f6eb0702c1696dff7760d34766d1f4f4e6a2958a4f6da5e2130b85a3ce71f061", func := "concourse/concourselaw7.RadixActs", spec := "radixActs", apart := false, narrowed := true }
def RadixActsUptoSaid : Prop := radixActsUptoRow.holds Try.pinned (OpenSpec.upto radixActsSpec)

/-- 'concourselaw7.RadixCuts', WHERE WHAT IT READS IS OF BULK AT MOST 1048576: true; the input reads as it did. -/
def radixCutsUptoRow : OpenClaim := { program := "ytacjpchcaknacaa", sum := "f6eb0702c1696dff7760d34766d1f4f4e6a2958a4f6da5e2130b85a3ce71f061", func := "concourse/concourselaw7.RadixCuts", spec := "radixCuts", apart := false, narrowed := true }
def RadixCutsUptoSaid : Prop := radixCutsUptoRow.holds Try.pinned (OpenSpec.upto radixCutsSpec)

/-- 'concourselaw4.AllocAgain', WHERE WHAT IT READS IS OF BULK AT MOST 1048576: true; the input reads as it did. -/
def allocAgainUptoRow : OpenClaim := { program := "ytacjpchcaknacaa", sum := "f6eb0702c1696dff7760d34766d1f4f4e6a2958a4f6da5e2130b85a3ce71f061", func := "concourse/concourselaw4.AllocAgain", spec := "allocAgain", apart := false, narrowed := true }
def AllocAgainUptoSaid : Prop := allocAgainUptoRow.holds Try.pinned (OpenSpec.upto allocAgainSpec)

/-- 'concourselaw4.AllocApart', WHERE WHAT IT READS IS OF BULK AT MOST 1048576: true; the input reads as it did. -/
def allocApartUptoRow : OpenClaim := { program := "ytacjpchcaknacaa", sum := "f6eb0702c1696dff7760d34766d1f4f4e6a2958a4f6da5e2130b85a3ce71f061", func := "concourse/concourselaw4.AllocApart", spec := "allocApart", apart := false, narrowed := true }
def AllocApartUptoSaid : Prop := allocApartUptoRow.holds Try.pinned (OpenSpec.upto allocApartSpec)

/-- 'concourselaw7.RadixApart', WHERE WHAT IT READS IS OF BULK AT MOST 1048576: true; the input reads as it did. -/
def radixApartUptoRow : OpenClaim := { program := "ytacjpchcaknacaa", sum := "f6eb0702c1696dff7760d34766d1f4f4e6a2958a4f6da5e2130b85a3ce71f061", func := "concourse/concourselaw7.RadixApart", spec := "radixApart", apart := false, narrowed := true }
def RadixApartUptoSaid : Prop := radixApartUptoRow.holds Try.pinned (OpenSpec.upto radixApartSpec)

/-- 'concourselaw7.RadixReads', WHERE WHAT IT READS IS OF BULK AT MOST 1048576: true; the input reads as it did. -/
def radixReadsUptoRow : OpenClaim := { program := "ytacjpchcaknacaa", sum := "f6eb0702c1696dff7760d34766d1f4f4e6a2958a4f6da5e2130b85a3ce71f061", func := "concourse/concourselaw7.RadixReads", spec := "radixReads", apart := false, narrowed := true }
def RadixReadsUptoSaid : Prop := radixReadsUptoRow.holds Try.pinned (OpenSpec.upto radixReadsSpec)

end Rows
end Go.Proofs.Ytacjpchcaknacaa
