/-
  No cell of these rows narrows 'for every input' (looked for: loops, veiled, ifaces, maps, wideKeys, modest, calm, conditions, laid).
  DERIVED. THE GIVEN ROWS OF THIS SEAT. 9 by the template 'for every input the law returns true; each argument reads behind the call as it read before'; 0 by the template 'total and deterministic' (their statements: YtjhgjniipoemgaaGreatTotals.lean).
  GIVEN WITH THE SEED: the statements are not yours to turn. If you find one false, say at which input.
  Laid BY PROGRAM, IN A SANDBOX (cutbox-rows.mjs): the forced cells as the released guide's own fill.sh prints them over the translation 652d167930e97b4c… (all of the seat's roots in one cut). By AI agents, Wed Nov 11 2026. No macro, syntax, notation, axiom, sorry.
-/
import Derived.Test.YtjhgjniipoemgaaGreatChecked
import GoSem.Claim
import GoSem.ClaimJoined
import GoSem.ClaimMapViews
import Derived.JoinedTies
import Derived.KernelRfl
namespace Go.Proofs.YtjhgjniipoemgaaGreat
/- THE CELL 'sum', in the pinned program and in every row, IS THE sha256 OF THE DUMP (.gsa) THAT YtjhgjniipoemgaaGreatProg.lean LOADS. Nothing in Lean hashes anything: it is a label: what it is worth is what the hold of that sum in a sandbox is worth. -/
noncomputable def Tryz.pinned : Pinned := { name := "ytjhgjniipoemgaagreat", sum := "652d167930e97b4cb453f4b06e571f4978fa6f0519ed131d3fb75feff482079e", checked := Tryz.checked }
namespace Rows
def none {H : Type} : Left H := { results := [], args := [] }

/-- 'narrowslaw16.SlabBuilds': WHATEVER THE INPUT: true; the input reads as it did. -/
def slabBuildsSpec : ChangeSpec := { name := "slabBuilds", fn := fun _ => fun
  | [d1, d2] => { results := [.lit (.bool true)], args := [d1, d2] }
  | _ => none }
def slabBuildsRow : OpenClaim := { program := "ytjhgjniipoemgaagreat", sum := "652d167930e97b4cb453f4b06e571f4978fa6f0519ed131d3fb75feff482079e", func := "narrows/narrowslaw16.SlabBuilds", spec := "slabBuilds", unfollowed := true, recurses := true, named := ["math/bits.overflowError"], plainKeys := false, apart := false }
def SlabBuildsSaid : Prop := slabBuildsRow.holds Tryz.pinned (OpenSpec.ofChange slabBuildsSpec)

/-- ITS FALSE NEIGHBOUR: 'it returns false'. Refute it at one input. -/
def slabBuildsWrong : ChangeSpec := { name := "slabBuilds", fn := fun _ => fun
  | [d1, d2] => { results := [.lit (.bool false)], args := [d1, d2] }
  | _ => none }
def SlabBuildsWrongFalsely : Prop := slabBuildsRow.holds Tryz.pinned (OpenSpec.ofChange slabBuildsWrong)

/-- 'narrowslaw16.SlabEuler': WHATEVER THE INPUT: true; the input reads as it did. -/
def slabEulerSpec : ChangeSpec := { name := "slabEuler", fn := fun _ => fun
  | [d1, d2] => { results := [.lit (.bool true)], args := [d1, d2] }
  | _ => none }
def slabEulerRow : OpenClaim := { program := "ytjhgjniipoemgaagreat", sum := "652d167930e97b4cb453f4b06e571f4978fa6f0519ed131d3fb75feff482079e", func := "narrows/narrowslaw16.SlabEuler", spec := "slabEuler", unfollowed := true, recurses := true, named := ["math/bits.overflowError"], plainKeys := false, apart := false }
def SlabEulerSaid : Prop := slabEulerRow.holds Tryz.pinned (OpenSpec.ofChange slabEulerSpec)

/-- ITS FALSE NEIGHBOUR: 'it returns false'. Refute it at one input. -/
def slabEulerWrong : ChangeSpec := { name := "slabEuler", fn := fun _ => fun
  | [d1, d2] => { results := [.lit (.bool false)], args := [d1, d2] }
  | _ => none }
def SlabEulerWrongFalsely : Prop := slabEulerRow.holds Tryz.pinned (OpenSpec.ofChange slabEulerWrong)

/-- 'narrowslaw16.SlabAreas': WHATEVER THE INPUT: true; the input reads as it did. -/
def slabAreasSpec : ChangeSpec := { name := "slabAreas", fn := fun _ => fun
  | [d1, d2] => { results := [.lit (.bool true)], args := [d1, d2] }
  | _ => none }
def slabAreasRow : OpenClaim := { program := "ytjhgjniipoemgaagreat", sum := "652d167930e97b4cb453f4b06e571f4978fa6f0519ed131d3fb75feff482079e", func := "narrows/narrowslaw16.SlabAreas", spec := "slabAreas", unfollowed := true, recurses := true, named := ["math/bits.overflowError"], plainKeys := false, apart := false }
def SlabAreasSaid : Prop := slabAreasRow.holds Tryz.pinned (OpenSpec.ofChange slabAreasSpec)

/-- ITS FALSE NEIGHBOUR: 'it returns false'. Refute it at one input. -/
def slabAreasWrong : ChangeSpec := { name := "slabAreas", fn := fun _ => fun
  | [d1, d2] => { results := [.lit (.bool false)], args := [d1, d2] }
  | _ => none }
def SlabAreasWrongFalsely : Prop := slabAreasRow.holds Tryz.pinned (OpenSpec.ofChange slabAreasWrong)

/-- 'narrowslaw16.SlabOrder': WHATEVER THE INPUT: true; the input reads as it did. -/
def slabOrderSpec : ChangeSpec := { name := "slabOrder", fn := fun _ => fun
  | [d1, d2, d3] => { results := [.lit (.bool true)], args := [d1, d2, d3] }
  | _ => none }
def slabOrderRow : OpenClaim := { program := "ytjhgjniipoemgaagreat", sum := "652d167930e97b4cb453f4b06e571f4978fa6f0519ed131d3fb75feff482079e", func := "narrows/narrowslaw16.SlabOrder", spec := "slabOrder", unfollowed := true, recurses := true, named := ["math/bits.overflowError"], plainKeys := false, apart := false }
def SlabOrderSaid : Prop := slabOrderRow.holds Tryz.pinned (OpenSpec.ofChange slabOrderSpec)

/-- ITS FALSE NEIGHBOUR: 'it returns false'. Refute it at one input. -/
def slabOrderWrong : ChangeSpec := { name := "slabOrder", fn := fun _ => fun
  | [d1, d2, d3] => { results := [.lit (.bool false)], args := [d1, d2, d3] }
  | _ => none }
def SlabOrderWrongFalsely : Prop := slabOrderRow.holds Tryz.pinned (OpenSpec.ofChange slabOrderWrong)

/-- 'narrowslaw16.SlabRefines': WHATEVER THE INPUT: true; the input reads as it did. -/
def slabRefinesSpec : ChangeSpec := { name := "slabRefines", fn := fun _ => fun
  | [d1, d2, d3, d4] => { results := [.lit (.bool true)], args := [d1, d2, d3, d4] }
  | _ => none }
def slabRefinesRow : OpenClaim := { program := "ytjhgjniipoemgaagreat", sum := "652d167930e97b4cb453f4b06e571f4978fa6f0519ed131d3fb75feff482079e", func := "narrows/narrowslaw16.SlabRefines", spec := "slabRefines", unfollowed := true, recurses := true, named := ["math/bits.overflowError"], plainKeys := false, apart := false }
def SlabRefinesSaid : Prop := slabRefinesRow.holds Tryz.pinned (OpenSpec.ofChange slabRefinesSpec)

/-- ITS FALSE NEIGHBOUR: 'it returns false'. Refute it at one input. -/
def slabRefinesWrong : ChangeSpec := { name := "slabRefines", fn := fun _ => fun
  | [d1, d2, d3, d4] => { results := [.lit (.bool false)], args := [d1, d2, d3, d4] }
  | _ => none }
def SlabRefinesWrongFalsely : Prop := slabRefinesRow.holds Tryz.pinned (OpenSpec.ofChange slabRefinesWrong)

/-- 'narrowslaw16.SlabPartition': WHATEVER THE INPUT: true; the input reads as it did. -/
def slabPartitionSpec : ChangeSpec := { name := "slabPartition", fn := fun _ => fun
  | [d1, d2, d3] => { results := [.lit (.bool true)], args := [d1, d2, d3] }
  | _ => none }
def slabPartitionRow : OpenClaim := { program := "ytjhgjniipoemgaagreat", sum := "652d167930e97b4cb453f4b06e571f4978fa6f0519ed131d3fb75feff482079e", func := "narrows/narrowslaw16.SlabPartition", spec := "slabPartition", unfollowed := true, recurses := true, named := ["math/bits.overflowError"], plainKeys := false, apart := false }
def SlabPartitionSaid : Prop := slabPartitionRow.holds Tryz.pinned (OpenSpec.ofChange slabPartitionSpec)

/-- ITS FALSE NEIGHBOUR: 'it returns false'. Refute it at one input. -/
def slabPartitionWrong : ChangeSpec := { name := "slabPartition", fn := fun _ => fun
  | [d1, d2, d3] => { results := [.lit (.bool false)], args := [d1, d2, d3] }
  | _ => none }
def SlabPartitionWrongFalsely : Prop := slabPartitionRow.holds Tryz.pinned (OpenSpec.ofChange slabPartitionWrong)

/-- 'narrowslaw16.SlabSegments': WHATEVER THE INPUT: true; the input reads as it did. -/
def slabSegmentsSpec : ChangeSpec := { name := "slabSegments", fn := fun _ => fun
  | [d1, d2] => { results := [.lit (.bool true)], args := [d1, d2] }
  | _ => none }
def slabSegmentsRow : OpenClaim := { program := "ytjhgjniipoemgaagreat", sum := "652d167930e97b4cb453f4b06e571f4978fa6f0519ed131d3fb75feff482079e", func := "narrows/narrowslaw16.SlabSegments", spec := "slabSegments", unfollowed := true, recurses := true, named := ["math/bits.overflowError"], plainKeys := false, apart := false }
def SlabSegmentsSaid : Prop := slabSegmentsRow.holds Tryz.pinned (OpenSpec.ofChange slabSegmentsSpec)

/-- ITS FALSE NEIGHBOUR: 'it returns false'. Refute it at one input. -/
def slabSegmentsWrong : ChangeSpec := { name := "slabSegments", fn := fun _ => fun
  | [d1, d2] => { results := [.lit (.bool false)], args := [d1, d2] }
  | _ => none }
def SlabSegmentsWrongFalsely : Prop := slabSegmentsRow.holds Tryz.pinned (OpenSpec.ofChange slabSegmentsWrong)

/-- 'narrowslaw16.SlabBoundaries': WHATEVER THE INPUT: true; the input reads as it did. -/
def slabBoundariesSpec : ChangeSpec := { name := "slabBoundaries", fn := fun _ => fun
  | [d1, d2, d3] => { results := [.lit (.bool true)], args := [d1, d2, d3] }
  | _ => none }
def slabBoundariesRow : OpenClaim := { program := "ytjhgjniipoemgaagreat", sum := "652d167930e97b4cb453f4b06e571f4978fa6f0519ed131d3fb75feff482079e", func := "narrows/narrowslaw16.SlabBoundaries", spec := "slabBoundaries", unfollowed := true, recurses := true, named := ["math/bits.overflowError"], plainKeys := false, apart := false }
def SlabBoundariesSaid : Prop := slabBoundariesRow.holds Tryz.pinned (OpenSpec.ofChange slabBoundariesSpec)

/-- ITS FALSE NEIGHBOUR: 'it returns false'. Refute it at one input. -/
def slabBoundariesWrong : ChangeSpec := { name := "slabBoundaries", fn := fun _ => fun
  | [d1, d2, d3] => { results := [.lit (.bool false)], args := [d1, d2, d3] }
  | _ => none }
def SlabBoundariesWrongFalsely : Prop := slabBoundariesRow.holds Tryz.pinned (OpenSpec.ofChange slabBoundariesWrong)

/-- 'narrowslaw16.SlabQueries': WHATEVER THE INPUT: true; the input reads as it did. -/
def slabQueriesSpec : ChangeSpec := { name := "slabQueries", fn := fun _ => fun
  | [d1, d2, d3] => { results := [.lit (.bool true)], args := [d1, d2, d3] }
  | _ => none }
def slabQueriesRow : OpenClaim := { program := "ytjhgjniipoemgaagreat", sum := "652d167930e97b4cb453f4b06e571f4978fa6f0519ed131d3fb75feff482079e", func := "narrows/narrowslaw16.SlabQueries", spec := "slabQueries", unfollowed := true, recurses := true, named := ["math/bits.overflowError"], plainKeys := false, apart := false }
def SlabQueriesSaid : Prop := slabQueriesRow.holds Tryz.pinned (OpenSpec.ofChange slabQueriesSpec)

/-- ITS FALSE NEIGHBOUR: 'it returns false'. Refute it at one input. -/
def slabQueriesWrong : ChangeSpec := { name := "slabQueries", fn := fun _ => fun
  | [d1, d2, d3] => { results := [.lit (.bool false)], args := [d1, d2, d3] }
  | _ => none }
def SlabQueriesWrongFalsely : Prop := slabQueriesRow.holds Tryz.pinned (OpenSpec.ofChange slabQueriesWrong)

/- THE SECOND FORM. 'bulk': how many values and letters a reading holds, each counted each time it is reached (what is shared counts as often as it is met; a slice's spare places count too). A statement '..UptoSaid' is the law's where the arguments, and the package variables that the reading takes, are together of bulk at most 1048576: NARROWER than '..Said'. Prove '..Said' where nothing that the law and all that it calls make is longer than what came in: it says more and counts as full. Else prove '..UptoSaid'. A law counts once. -/
mutual
def uptoBulk {H : Type} : DataW H → Nat
  | .lit (.string bytes) => bytes.length + 1
  | .lit _ => 1
  | .nil => 1
  | .ptr d => uptoBulk d + 1
  | .slice elems spare => uptoBulkAll elems + uptoBulkAll spare + 1
  | .agg parts => uptoBulkAll parts + 1
  | .iface _ d => uptoBulk d + 1
  | .map entries => uptoBulkEntries entries + 1
  | .held _ => 1
def uptoBulkAll {H : Type} : List (DataW H) → Nat
  | [] => 0
  | d :: r => uptoBulk d + uptoBulkAll r
def uptoBulkEntries {H : Type} : List (Lit × DataW H) → Nat
  | [] => 0
  | x :: r => uptoBulkEntry x + uptoBulkEntries r
def uptoBulkEntry {H : Type} : Lit × DataW H → Nat
  | (.string bytes, d) => bytes.length + uptoBulk d + 1
  | (_, d) => uptoBulk d + 1
 end
def uptoSmall : (H : Type) → List (DataW H) → Bool := fun _ ds => decide (uptoBulkAll ds ≤ 1048576)
def OpenSpec.upto (s : _root_.Go.ChangeSpec) : _root_.Go.OpenSpec := { _root_.Go.OpenSpec.ofChange s with cond := some uptoSmall }

/-- 'narrowslaw16.SlabBuilds', WHERE WHAT IT READS IS OF BULK AT MOST 1048576: true; the input reads as it did. -/
def slabBuildsUptoRow : OpenClaim := { program := "ytjhgjniipoemgaagreat", sum := "652d167930e97b4cb453f4b06e571f4978fa6f0519ed131d3fb75feff482079e", func := "narrows/narrowslaw16.SlabBuilds", spec := "slabBuilds", unfollowed := true, recurses := true, named := ["math/bits.overflowError"], plainKeys := false, apart := false, narrowed := true }
def SlabBuildsUptoSaid : Prop := slabBuildsUptoRow.holds Tryz.pinned (OpenSpec.upto slabBuildsSpec)

/-- 'narrowslaw16.SlabEuler', WHERE WHAT IT READS IS OF BULK AT MOST 1048576: true; the input reads as it did. -/
def slabEulerUptoRow : OpenClaim := { program := "ytjhgjniipoemgaagreat", sum := "652d167930e97b4cb453f4b06e571f4978fa6f0519ed131d3fb75feff482079e", func := "narrows/narrowslaw16.SlabEuler", spec := "slabEuler", unfollowed := true, recurses := true, named := ["math/bits.overflowError"], plainKeys := false, apart := false, narrowed := true }
def SlabEulerUptoSaid : Prop := slabEulerUptoRow.holds Tryz.pinned (OpenSpec.upto slabEulerSpec)

/-- 'narrowslaw16.SlabAreas', WHERE WHAT IT READS IS OF BULK AT MOST 1048576: true; the input reads as it did. -/
def slabAreasUptoRow : OpenClaim := { program := "ytjhgjniipoemgaagreat", sum := "652d167930e97b4cb453f4b06e571f4978fa6f0519ed131d3fb75feff482079e", func := "narrows/narrowslaw16.SlabAreas", spec := "slabAreas", unfollowed := true, recurses := true, named := ["math/bits.overflowError"], plainKeys := false, apart := false, narrowed := true }
def SlabAreasUptoSaid : Prop := slabAreasUptoRow.holds Tryz.pinned (OpenSpec.upto slabAreasSpec)

/-- 'narrowslaw16.SlabOrder', WHERE WHAT IT READS IS OF BULK AT MOST 1048576: true; the input reads as it did. -/
def slabOrderUptoRow : OpenClaim := { program := "ytjhgjniipoemgaagreat", sum := "652d167930e97b4cb453f4b06e571f4978fa6f0519ed131d3fb75feff482079e", func := "narrows/narrowslaw16.SlabOrder", spec := "slabOrder", unfollowed := true, recurses := true, named := ["math/bits.overflowError"], plainKeys := false, apart := false, narrowed := true }
def SlabOrderUptoSaid : Prop := slabOrderUptoRow.holds Tryz.pinned (OpenSpec.upto slabOrderSpec)

/-- 'narrowslaw16.SlabRefines', WHERE WHAT IT READS IS OF BULK AT MOST 1048576: true; the input reads as it did. -/
def slabRefinesUptoRow : OpenClaim := { program := "ytjhgjniipoemgaagreat", sum := "652d167930e97b4cb453f4b06e571f4978fa6f0519ed131d3fb75feff482079e", func := "narrows/narrowslaw16.SlabRefines", spec := "slabRefines", unfollowed := true, recurses := true, named := ["math/bits.overflowError"], plainKeys := false, apart := false, narrowed := true }
def SlabRefinesUptoSaid : Prop := slabRefinesUptoRow.holds Tryz.pinned (OpenSpec.upto slabRefinesSpec)

/-- 'narrowslaw16.SlabPartition', WHERE WHAT IT READS IS OF BULK AT MOST 1048576: true; the input reads as it did. -/
def slabPartitionUptoRow : OpenClaim := { program := "ytjhgjniipoemgaagreat", sum := "652d167930e97b4cb453f4b06e571f4978fa6f0519ed131d3fb75feff482079e", func := "narrows/narrowslaw16.SlabPartition", spec := "slabPartition", unfollowed := true, recurses := true, named := ["math/bits.overflowError"], plainKeys := false, apart := false, narrowed := true }
def SlabPartitionUptoSaid : Prop := slabPartitionUptoRow.holds Tryz.pinned (OpenSpec.upto slabPartitionSpec)

/-- 'narrowslaw16.SlabSegments', WHERE WHAT IT READS IS OF BULK AT MOST 1048576: true; the input reads as it did. -/
def slabSegmentsUptoRow : OpenClaim := { program := "ytjhgjniipoemgaagreat", sum := "652d167930e97b4cb453f4b06e571f4978fa6f0519ed131d3fb75feff482079e", func := "narrows/narrowslaw16.SlabSegments", spec := "slabSegments", unfollowed := true, recurses := true, named := ["math/bits.overflowError"], plainKeys := false, apart := false, narrowed := true }
def SlabSegmentsUptoSaid : Prop := slabSegmentsUptoRow.holds Tryz.pinned (OpenSpec.upto slabSegmentsSpec)

/-- 'narrowslaw16.SlabBoundaries', WHERE WHAT IT READS IS OF BULK AT MOST 1048576: true; the input reads as it did. -/
def slabBoundariesUptoRow : OpenClaim := { program := "ytjhgjniipoemgaagreat", sum := "652d167930e97b4cb453f4b06e571f4978fa6f0519ed131d3fb75feff482079e", func := "narrows/narrowslaw16.SlabBoundaries", spec := "slabBoundaries", unfollowed := true, recurses := true, named := ["math/bits.overflowError"], plainKeys := false, apart := false, narrowed := true }
def SlabBoundariesUptoSaid : Prop := slabBoundariesUptoRow.holds Tryz.pinned (OpenSpec.upto slabBoundariesSpec)

/-- 'narrowslaw16.SlabQueries', WHERE WHAT IT READS IS OF BULK AT MOST 1048576: true; the input reads as it did. -/
def slabQueriesUptoRow : OpenClaim := { program := "ytjhgjniipoemgaagreat", sum := "652d167930e97b4cb453f4b06e571f4978fa6f0519ed131d3fb75feff482079e", func := "narrows/narrowslaw16.SlabQueries", spec := "slabQueries", unfollowed := true, recurses := true, named := ["math/bits.overflowError"], plainKeys := false, apart := false, narrowed := true }
def SlabQueriesUptoSaid : Prop := slabQueriesUptoRow.holds Tryz.pinned (OpenSpec.upto slabQueriesSpec)

end Rows
end Go.Proofs.YtjhgjniipoemgaaGreat
