/-
  No cell of these rows narrows 'for every input' (looked for: loops, veiled, ifaces, maps, wideKeys, modest, calm, conditions, laid).
  DERIVED. THE GIVEN ROWS OF THIS SEAT. 11 by the template 'for every input the law returns true; each argument reads behind the call as it read before'; 0 by the template 'total and deterministic' (their statements: YteokdmcdhalcfaaTotals.lean).
  GIVEN WITH THE SEED: the statements are not yours to turn. If you find one false, say at which input.
  Laid BY PROGRAM, IN A SANDBOX (cutbox-rows.mjs): the forced cells as the released guide's own fill.sh prints them over the translation a522ebf1b1bcddbc… (all of the seat's roots in one cut). By AI agents, Wed Nov 11 2026. No macro, syntax, notation, axiom, sorry.
-/
import Derived.Test.YteokdmcdhalcfaaChecked
import GoSem.Claim
import GoSem.ClaimJoined
import GoSem.ClaimMapViews
import Derived.JoinedTies
import Derived.KernelRfl
namespace Go.Proofs.Yteokdmcdhalcfaa
/- THE CELL 'sum', in the pinned program and in every row, IS THE sha256 OF THE DUMP (.gsa) THAT YteokdmcdhalcfaaProg.lean LOADS. Nothing in Lean hashes anything: it is a label: what it is worth is what the hold of that sum in a sandbox is worth. -/
noncomputable def Try.pinned : Pinned := { name := "yteokdmcdhalcfaa", sum := "a522ebf1b1bcddbc8a320b1aebedf22e7494ebe01153508194869c2fd77c9327", checked := Try.checked }
namespace Rows
def none {H : Type} : Left H := { results := [], args := [] }

/-- 'etchhousetop.TopSetsGrouped': WHATEVER THE INPUT: true; the input reads as it did. -/
def topSetsGroupedSpec : ChangeSpec := { name := "topSetsGrouped", fn := fun _ => fun
  | [d1, d2, d3] => { results := [.lit (.bool true)], args := [d1, d2, d3] }
  | _ => none }
def topSetsGroupedRow : OpenClaim := { program := "yteokdmcdhalcfaa", sum := "a522ebf1b1bcddbc8a320b1aebedf22e7494ebe01153508194869c2fd77c9327", func := "etchhouse/etchhousetop.TopSetsGrouped", spec := "topSetsGrouped", unfollowed := true, recurses := true, apart := false }
def TopSetsGroupedSaid : Prop := topSetsGroupedRow.holds Try.pinned (OpenSpec.ofChange topSetsGroupedSpec)

/-- ITS FALSE NEIGHBOUR: 'it returns false'. Refute it at one input. -/
def topSetsGroupedWrong : ChangeSpec := { name := "topSetsGrouped", fn := fun _ => fun
  | [d1, d2, d3] => { results := [.lit (.bool false)], args := [d1, d2, d3] }
  | _ => none }
def TopSetsGroupedWrongFalsely : Prop := topSetsGroupedRow.holds Try.pinned (OpenSpec.ofChange topSetsGroupedWrong)

/-- 'etchhousetop.TopSetsDistributed': WHATEVER THE INPUT: true; the input reads as it did. -/
def topSetsDistributedSpec : ChangeSpec := { name := "topSetsDistributed", fn := fun _ => fun
  | [d1, d2, d3] => { results := [.lit (.bool true)], args := [d1, d2, d3] }
  | _ => none }
def topSetsDistributedRow : OpenClaim := { program := "yteokdmcdhalcfaa", sum := "a522ebf1b1bcddbc8a320b1aebedf22e7494ebe01153508194869c2fd77c9327", func := "etchhouse/etchhousetop.TopSetsDistributed", spec := "topSetsDistributed", unfollowed := true, recurses := true, apart := false }
def TopSetsDistributedSaid : Prop := topSetsDistributedRow.holds Try.pinned (OpenSpec.ofChange topSetsDistributedSpec)

/-- ITS FALSE NEIGHBOUR: 'it returns false'. Refute it at one input. -/
def topSetsDistributedWrong : ChangeSpec := { name := "topSetsDistributed", fn := fun _ => fun
  | [d1, d2, d3] => { results := [.lit (.bool false)], args := [d1, d2, d3] }
  | _ => none }
def TopSetsDistributedWrongFalsely : Prop := topSetsDistributedRow.holds Try.pinned (OpenSpec.ofChange topSetsDistributedWrong)

/-- 'etchhousetop.TopMinusesWritten': WHATEVER THE INPUT: true; the input reads as it did. -/
def topMinusesWrittenSpec : ChangeSpec := { name := "topMinusesWritten", fn := fun _ => fun
  | [d1, d2, d3] => { results := [.lit (.bool true)], args := [d1, d2, d3] }
  | _ => none }
def topMinusesWrittenRow : OpenClaim := { program := "yteokdmcdhalcfaa", sum := "a522ebf1b1bcddbc8a320b1aebedf22e7494ebe01153508194869c2fd77c9327", func := "etchhouse/etchhousetop.TopMinusesWritten", spec := "topMinusesWritten", unfollowed := true, recurses := true, apart := false }
def TopMinusesWrittenSaid : Prop := topMinusesWrittenRow.holds Try.pinned (OpenSpec.ofChange topMinusesWrittenSpec)

/-- ITS FALSE NEIGHBOUR: 'it returns false'. Refute it at one input. -/
def topMinusesWrittenWrong : ChangeSpec := { name := "topMinusesWritten", fn := fun _ => fun
  | [d1, d2, d3] => { results := [.lit (.bool false)], args := [d1, d2, d3] }
  | _ => none }
def TopMinusesWrittenWrongFalsely : Prop := topMinusesWrittenRow.holds Try.pinned (OpenSpec.ofChange topMinusesWrittenWrong)

/-- 'etchhousetop.TopBoundsMet': WHATEVER THE INPUT: true; the input reads as it did. -/
def topBoundsMetSpec : ChangeSpec := { name := "topBoundsMet", fn := fun _ => fun
  | [d1, d2] => { results := [.lit (.bool true)], args := [d1, d2] }
  | _ => none }
def topBoundsMetRow : OpenClaim := { program := "yteokdmcdhalcfaa", sum := "a522ebf1b1bcddbc8a320b1aebedf22e7494ebe01153508194869c2fd77c9327", func := "etchhouse/etchhousetop.TopBoundsMet", spec := "topBoundsMet", unfollowed := true, recurses := true, apart := false }
def TopBoundsMetSaid : Prop := topBoundsMetRow.holds Try.pinned (OpenSpec.ofChange topBoundsMetSpec)

/-- ITS FALSE NEIGHBOUR: 'it returns false'. Refute it at one input. -/
def topBoundsMetWrong : ChangeSpec := { name := "topBoundsMet", fn := fun _ => fun
  | [d1, d2] => { results := [.lit (.bool false)], args := [d1, d2] }
  | _ => none }
def TopBoundsMetWrongFalsely : Prop := topBoundsMetRow.holds Try.pinned (OpenSpec.ofChange topBoundsMetWrong)

/-- 'etchhousetop.TopRectsParted': WHATEVER THE INPUT: true; the input reads as it did. -/
def topRectsPartedSpec : ChangeSpec := { name := "topRectsParted", fn := fun _ => fun
  | [d1, d2, d3, d4, d5] => { results := [.lit (.bool true)], args := [d1, d2, d3, d4, d5] }
  | _ => none }
def topRectsPartedRow : OpenClaim := { program := "yteokdmcdhalcfaa", sum := "a522ebf1b1bcddbc8a320b1aebedf22e7494ebe01153508194869c2fd77c9327", func := "etchhouse/etchhousetop.TopRectsParted", spec := "topRectsParted", unfollowed := true, recurses := true, apart := false }
def TopRectsPartedSaid : Prop := topRectsPartedRow.holds Try.pinned (OpenSpec.ofChange topRectsPartedSpec)

/-- ITS FALSE NEIGHBOUR: 'it returns false'. Refute it at one input. -/
def topRectsPartedWrong : ChangeSpec := { name := "topRectsParted", fn := fun _ => fun
  | [d1, d2, d3, d4, d5] => { results := [.lit (.bool false)], args := [d1, d2, d3, d4, d5] }
  | _ => none }
def TopRectsPartedWrongFalsely : Prop := topRectsPartedRow.holds Try.pinned (OpenSpec.ofChange topRectsPartedWrong)

/-- 'etchhousetop.TopGrowsTwice': WHATEVER THE INPUT: true; the input reads as it did. -/
def topGrowsTwiceSpec : ChangeSpec := { name := "topGrowsTwice", fn := fun _ => fun
  | [d1, d2, d3] => { results := [.lit (.bool true)], args := [d1, d2, d3] }
  | _ => none }
def topGrowsTwiceRow : OpenClaim := { program := "yteokdmcdhalcfaa", sum := "a522ebf1b1bcddbc8a320b1aebedf22e7494ebe01153508194869c2fd77c9327", func := "etchhouse/etchhousetop.TopGrowsTwice", spec := "topGrowsTwice", unfollowed := true, recurses := true, apart := false }
def TopGrowsTwiceSaid : Prop := topGrowsTwiceRow.holds Try.pinned (OpenSpec.ofChange topGrowsTwiceSpec)

/-- ITS FALSE NEIGHBOUR: 'it returns false'. Refute it at one input. -/
def topGrowsTwiceWrong : ChangeSpec := { name := "topGrowsTwice", fn := fun _ => fun
  | [d1, d2, d3] => { results := [.lit (.bool false)], args := [d1, d2, d3] }
  | _ => none }
def TopGrowsTwiceWrongFalsely : Prop := topGrowsTwiceRow.holds Try.pinned (OpenSpec.ofChange topGrowsTwiceWrong)

/-- 'etchhousetop.TopSetsTurned': WHATEVER THE INPUT: true; the input reads as it did. -/
def topSetsTurnedSpec : ChangeSpec := { name := "topSetsTurned", fn := fun _ => fun
  | [d1, d2, d3] => { results := [.lit (.bool true)], args := [d1, d2, d3] }
  | _ => none }
def topSetsTurnedRow : OpenClaim := { program := "yteokdmcdhalcfaa", sum := "a522ebf1b1bcddbc8a320b1aebedf22e7494ebe01153508194869c2fd77c9327", func := "etchhouse/etchhousetop.TopSetsTurned", spec := "topSetsTurned", unfollowed := true, recurses := true, apart := false }
def TopSetsTurnedSaid : Prop := topSetsTurnedRow.holds Try.pinned (OpenSpec.ofChange topSetsTurnedSpec)

/-- ITS FALSE NEIGHBOUR: 'it returns false'. Refute it at one input. -/
def topSetsTurnedWrong : ChangeSpec := { name := "topSetsTurned", fn := fun _ => fun
  | [d1, d2, d3] => { results := [.lit (.bool false)], args := [d1, d2, d3] }
  | _ => none }
def TopSetsTurnedWrongFalsely : Prop := topSetsTurnedRow.holds Try.pinned (OpenSpec.ofChange topSetsTurnedWrong)

/-- 'etchhousetop.TopGrowsUnited': WHATEVER THE INPUT: true; the input reads as it did. -/
def topGrowsUnitedSpec : ChangeSpec := { name := "topGrowsUnited", fn := fun _ => fun
  | [d1, d2, d3] => { results := [.lit (.bool true)], args := [d1, d2, d3] }
  | _ => none }
def topGrowsUnitedRow : OpenClaim := { program := "yteokdmcdhalcfaa", sum := "a522ebf1b1bcddbc8a320b1aebedf22e7494ebe01153508194869c2fd77c9327", func := "etchhouse/etchhousetop.TopGrowsUnited", spec := "topGrowsUnited", unfollowed := true, recurses := true, apart := false }
def TopGrowsUnitedSaid : Prop := topGrowsUnitedRow.holds Try.pinned (OpenSpec.ofChange topGrowsUnitedSpec)

/-- ITS FALSE NEIGHBOUR: 'it returns false'. Refute it at one input. -/
def topGrowsUnitedWrong : ChangeSpec := { name := "topGrowsUnited", fn := fun _ => fun
  | [d1, d2, d3] => { results := [.lit (.bool false)], args := [d1, d2, d3] }
  | _ => none }
def TopGrowsUnitedWrongFalsely : Prop := topGrowsUnitedRow.holds Try.pinned (OpenSpec.ofChange topGrowsUnitedWrong)

/-- 'etchhousetop.TopGrowsAround': WHATEVER THE INPUT: true; the input reads as it did. -/
def topGrowsAroundSpec : ChangeSpec := { name := "topGrowsAround", fn := fun _ => fun
  | [d1, d2] => { results := [.lit (.bool true)], args := [d1, d2] }
  | _ => none }
def topGrowsAroundRow : OpenClaim := { program := "yteokdmcdhalcfaa", sum := "a522ebf1b1bcddbc8a320b1aebedf22e7494ebe01153508194869c2fd77c9327", func := "etchhouse/etchhousetop.TopGrowsAround", spec := "topGrowsAround", unfollowed := true, recurses := true, apart := false }
def TopGrowsAroundSaid : Prop := topGrowsAroundRow.holds Try.pinned (OpenSpec.ofChange topGrowsAroundSpec)

/-- ITS FALSE NEIGHBOUR: 'it returns false'. Refute it at one input. -/
def topGrowsAroundWrong : ChangeSpec := { name := "topGrowsAround", fn := fun _ => fun
  | [d1, d2] => { results := [.lit (.bool false)], args := [d1, d2] }
  | _ => none }
def TopGrowsAroundWrongFalsely : Prop := topGrowsAroundRow.holds Try.pinned (OpenSpec.ofChange topGrowsAroundWrong)

/-- 'etchhousetop.TopGrowsTurned': WHATEVER THE INPUT: true; the input reads as it did. -/
def topGrowsTurnedSpec : ChangeSpec := { name := "topGrowsTurned", fn := fun _ => fun
  | [d1, d2, d3] => { results := [.lit (.bool true)], args := [d1, d2, d3] }
  | _ => none }
def topGrowsTurnedRow : OpenClaim := { program := "yteokdmcdhalcfaa", sum := "a522ebf1b1bcddbc8a320b1aebedf22e7494ebe01153508194869c2fd77c9327", func := "etchhouse/etchhousetop.TopGrowsTurned", spec := "topGrowsTurned", unfollowed := true, recurses := true, apart := false }
def TopGrowsTurnedSaid : Prop := topGrowsTurnedRow.holds Try.pinned (OpenSpec.ofChange topGrowsTurnedSpec)

/-- ITS FALSE NEIGHBOUR: 'it returns false'. Refute it at one input. -/
def topGrowsTurnedWrong : ChangeSpec := { name := "topGrowsTurned", fn := fun _ => fun
  | [d1, d2, d3] => { results := [.lit (.bool false)], args := [d1, d2, d3] }
  | _ => none }
def TopGrowsTurnedWrongFalsely : Prop := topGrowsTurnedRow.holds Try.pinned (OpenSpec.ofChange topGrowsTurnedWrong)

/-- 'etchhousetop.TopPiecesTurned': WHATEVER THE INPUT: true; the input reads as it did. -/
def topPiecesTurnedSpec : ChangeSpec := { name := "topPiecesTurned", fn := fun _ => fun
  | [d1, d2] => { results := [.lit (.bool true)], args := [d1, d2] }
  | _ => none }
def topPiecesTurnedRow : OpenClaim := { program := "yteokdmcdhalcfaa", sum := "a522ebf1b1bcddbc8a320b1aebedf22e7494ebe01153508194869c2fd77c9327", func := "etchhouse/etchhousetop.TopPiecesTurned", spec := "topPiecesTurned", unfollowed := true, recurses := true, apart := false }
def TopPiecesTurnedSaid : Prop := topPiecesTurnedRow.holds Try.pinned (OpenSpec.ofChange topPiecesTurnedSpec)

/-- ITS FALSE NEIGHBOUR: 'it returns false'. Refute it at one input. -/
def topPiecesTurnedWrong : ChangeSpec := { name := "topPiecesTurned", fn := fun _ => fun
  | [d1, d2] => { results := [.lit (.bool false)], args := [d1, d2] }
  | _ => none }
def TopPiecesTurnedWrongFalsely : Prop := topPiecesTurnedRow.holds Try.pinned (OpenSpec.ofChange topPiecesTurnedWrong)

/- THE SECOND FORM. 'bulk': how many values and letters a reading holds, each counted each time it is reached (what is shared counts as often as it is met; a slice's spare places count too). A statement '..UptoSaid' is the law's where the arguments, and the package variables that the reading takes, are together of bulk at most 1048576: NARROWER than '..Said'. Prove '..Said' where nothing that the law and all that it calls make is longer than what came in: it says more and counts as full. Else prove '..UptoSaid'. A law counts once. -/
mutual
def uptoBulk {H : Type} : DataW H → Nat
  | .lit (.string bytes) => bytes.length + 1
  | .lit _ => 1
  | .nil => 1
  | .ptr d => uptoBulk d + 1
  | .slice elems spare => uptoBulkAll elems + uptoBulkAll spare + 1
  | .agg parts => uptoBulkAll parts + 1
  | .iface _ d => uptoBulk d + 1
  | .map entries => uptoBulkEntries entries + 1
  | .held _ => 1
def uptoBulkAll {H : Type} : List (DataW H) → Nat
  | [] => 0
  | d :: r => uptoBulk d + uptoBulkAll r
def uptoBulkEntries {H : Type} : List (Lit × DataW H) → Nat
  | [] => 0
  | x :: r => uptoBulkEntry x + uptoBulkEntries r
def uptoBulkEntry {H : Type} : Lit × DataW H → Nat
  | (.string bytes, d) => bytes.length + uptoBulk d + 1
  | (_, d) => uptoBulk d + 1
 end
def uptoSmall : (H : Type) → List (DataW H) → Bool := fun _ ds => decide (uptoBulkAll ds ≤ 1048576)
def OpenSpec.upto (s : _root_.Go.ChangeSpec) : _root_.Go.OpenSpec := { _root_.Go.OpenSpec.ofChange s with cond := some uptoSmall }

/-- 'etchhousetop.TopSetsGrouped', WHERE WHAT IT READS IS OF BULK AT MOST 1048576: true; the input reads as it did. -/
def topSetsGroupedUptoRow : OpenClaim := { program := "yteokdmcdhalcfaa", sum := "a522ebf1b1bcddbc8a320b1aebedf22e7494ebe01153508194869c2fd77c9327", func := "etchhouse/etchhousetop.TopSetsGrouped", spec := "topSetsGrouped", unfollowed := true, recurses := true, apart := false, narrowed := true }
def TopSetsGroupedUptoSaid : Prop := topSetsGroupedUptoRow.holds Try.pinned (OpenSpec.upto topSetsGroupedSpec)

/-- 'etchhousetop.TopSetsDistributed', WHERE WHAT IT READS IS OF BULK AT MOST 1048576: true; the input reads as it did. -/
def topSetsDistributedUptoRow : OpenClaim := { program := "yteokdmcdhalcfaa", sum := "a522ebf1b1bcddbc8a320b1aebedf22e7494ebe01153508194869c2fd77c9327", func := "etchhouse/etchhousetop.TopSetsDistributed", spec := "topSetsDistributed", unfollowed := true, recurses := true, apart := false, narrowed := true }
def TopSetsDistributedUptoSaid : Prop := topSetsDistributedUptoRow.holds Try.pinned (OpenSpec.upto topSetsDistributedSpec)

/-- 'etchhousetop.TopMinusesWritten', WHERE WHAT IT READS IS OF BULK AT MOST 1048576: true; the input reads as it did. -/
def topMinusesWrittenUptoRow : OpenClaim := { program := "yteokdmcdhalcfaa", sum := "a522ebf1b1bcddbc8a320b1aebedf22e7494ebe01153508194869c2fd77c9327", func := "etchhouse/etchhousetop.TopMinusesWritten", spec := "topMinusesWritten", unfollowed := true, recurses := true, apart := false, narrowed := true }
def TopMinusesWrittenUptoSaid : Prop := topMinusesWrittenUptoRow.holds Try.pinned (OpenSpec.upto topMinusesWrittenSpec)

/-- 'etchhousetop.TopBoundsMet', WHERE WHAT IT READS IS OF BULK AT MOST 1048576: true; the input reads as it did. -/
def topBoundsMetUptoRow : OpenClaim := { program := "yteokdmcdhalcfaa", sum := "a522ebf1b1bcddbc8a320b1aebedf22e7494ebe01153508194869c2fd77c9327", func := "etchhouse/etchhousetop.TopBoundsMet", spec := "topBoundsMet", unfollowed := true, recurses := true, apart := false, narrowed := true }
def TopBoundsMetUptoSaid : Prop := topBoundsMetUptoRow.holds Try.pinned (OpenSpec.upto topBoundsMetSpec)

/-- 'etchhousetop.TopRectsParted', WHERE WHAT IT READS IS OF BULK AT MOST 1048576: true; the input reads as it did. -/
def topRectsPartedUptoRow : OpenClaim := { program := "yteokdmcdhalcfaa", sum := "a522ebf1b1bcddbc8a320b1aebedf22e7494ebe01153508194869c2fd77c9327", func := "etchhouse/etchhousetop.TopRectsParted", spec := "topRectsParted", unfollowed := true, recurses := true, apart := false, narrowed := true }
def TopRectsPartedUptoSaid : Prop := topRectsPartedUptoRow.holds Try.pinned (OpenSpec.upto topRectsPartedSpec)

/-- 'etchhousetop.TopGrowsTwice', WHERE WHAT IT READS IS OF BULK AT MOST 1048576: true; the input reads as it did. -/
def topGrowsTwiceUptoRow : OpenClaim := { program := "yteokdmcdhalcfaa", sum := "a522ebf1b1bcddbc8a320b1aebedf22e7494ebe01153508194869c2fd77c9327", func := "etchhouse/etchhousetop.TopGrowsTwice", spec := "topGrowsTwice", unfollowed := true, recurses := true, apart := false, narrowed := true }
def TopGrowsTwiceUptoSaid : Prop := topGrowsTwiceUptoRow.holds Try.pinned (OpenSpec.upto topGrowsTwiceSpec)

/-- 'etchhousetop.TopSetsTurned', WHERE WHAT IT READS IS OF BULK AT MOST 1048576: true; the input reads as it did. -/
def topSetsTurnedUptoRow : OpenClaim := { program := "yteokdmcdhalcfaa", sum := "a522ebf1b1bcddbc8a320b1aebedf22e7494ebe01153508194869c2fd77c9327", func := "etchhouse/etchhousetop.TopSetsTurned", spec := "topSetsTurned", unfollowed := true, recurses := true, apart := false, narrowed := true }
def TopSetsTurnedUptoSaid : Prop := topSetsTurnedUptoRow.holds Try.pinned (OpenSpec.upto topSetsTurnedSpec)

/-- 'etchhousetop.TopGrowsUnited', WHERE WHAT IT READS IS OF BULK AT MOST 1048576: true; the input reads as it did. -/
def topGrowsUnitedUptoRow : OpenClaim := { program := "yteokdmcdhalcfaa", sum := "a522ebf1b1bcddbc8a320b1aebedf22e7494ebe01153508194869c2fd77c9327", func := "etchhouse/etchhousetop.TopGrowsUnited", spec := "topGrowsUnited", unfollowed := true, recurses := true, apart := false, narrowed := true }
def TopGrowsUnitedUptoSaid : Prop := topGrowsUnitedUptoRow.holds Try.pinned (OpenSpec.upto topGrowsUnitedSpec)

/-- 'etchhousetop.TopGrowsAround', WHERE WHAT IT READS IS OF BULK AT MOST 1048576: true; the input reads as it did. -/
def topGrowsAroundUptoRow : OpenClaim := { program := "yteokdmcdhalcfaa", sum := "a522ebf1b1bcddbc8a320b1aebedf22e7494ebe01153508194869c2fd77c9327", func := "etchhouse/etchhousetop.TopGrowsAround", spec := "topGrowsAround", unfollowed := true, recurses := true, apart := false, narrowed := true }
def TopGrowsAroundUptoSaid : Prop := topGrowsAroundUptoRow.holds Try.pinned (OpenSpec.upto topGrowsAroundSpec)

/-- 'etchhousetop.TopGrowsTurned', WHERE WHAT IT READS IS OF BULK AT MOST 1048576: true; the input reads as it did. -/
def topGrowsTurnedUptoRow : OpenClaim := { program := "yteokdmcdhalcfaa", sum := "a522ebf1b1bcddbc8a320b1aebedf22e7494ebe01153508194869c2fd77c9327", func := "etchhouse/etchhousetop.TopGrowsTurned", spec := "topGrowsTurned", unfollowed := true, recurses := true, apart := false, narrowed := true }
def TopGrowsTurnedUptoSaid : Prop := topGrowsTurnedUptoRow.holds Try.pinned (OpenSpec.upto topGrowsTurnedSpec)

/-- 'etchhousetop.TopPiecesTurned', WHERE WHAT IT READS IS OF BULK AT MOST 1048576: true; the input reads as it did. -/
def topPiecesTurnedUptoRow : OpenClaim := { program := "yteokdmcdhalcfaa", sum := "a522ebf1b1bcddbc8a320b1aebedf22e7494ebe01153508194869c2fd77c9327", func := "etchhouse/etchhousetop.TopPiecesTurned", spec := "topPiecesTurned", unfollowed := true, recurses := true, apart := false, narrowed := true }
def TopPiecesTurnedUptoSaid : Prop := topPiecesTurnedUptoRow.holds Try.pinned (OpenSpec.upto topPiecesTurnedSpec)

end Rows
end Go.Proofs.Yteokdmcdhalcfaa
