/-
  No cell of these rows narrows 'for every input' (looked for: loops, veiled, ifaces, maps, wideKeys, modest, calm, conditions, laid).
  DERIVED. THE GIVEN ROWS OF THIS SEAT. 6 by the template 'for every input the law returns true; each argument reads behind the call as it read before'; 0 by the template 'total and deterministic' (their statements: YtlnandkcoliejaaGreatTotals.lean).
  GIVEN WITH THE SEED: the statements are not yours to turn. If you find one false, say at which input.
  Laid BY PROGRAM, IN A SANDBOX (cutbox-rows.mjs): the forced cells as the released guide's own fill.sh prints them over the translation 122e432be764e699… (all of the seat's roots in one cut). By AI agents, Wed Nov 11 2026. No macro, syntax, notation, axiom, sorry.
-/
import Derived.Test.YtlnandkcoliejaaGreatChecked
import GoSem.Claim
import GoSem.ClaimJoined
import GoSem.ClaimMapViews
import Derived.JoinedTies
import Derived.KernelRfl
namespace Go.Proofs.YtlnandkcoliejaaGreat
/- THE CELL 'sum', in the pinned program and in every row, IS THE sha256 OF THE DUMP (.gsa) THAT YtlnandkcoliejaaGreatProg.lean LOADS. Nothing in Lean hashes anything: it is a label: what it is worth is what the hold of that sum in a sandbox is worth. -/
noncomputable def Tryz.pinned : Pinned := { name := "ytlnandkcoliejaagreat", sum := "122e432be764e699424a53b370d2cfc595e9e021b7cfe25849eb088503f11632", checked := Tryz.checked }
namespace Rows
def none {H : Type} : Left H := { results := [], args := [] }

/-- 'narrowslaw26.DistanceLeast': WHATEVER THE INPUT: true; the input reads as it did. -/
def distanceLeastSpec : ChangeSpec := { name := "distanceLeast", fn := fun _ => fun
  | [d1, d2, d3] => { results := [.lit (.bool true)], args := [d1, d2, d3] }
  | _ => none }
def distanceLeastRow : OpenClaim := { program := "ytlnandkcoliejaagreat", sum := "122e432be764e699424a53b370d2cfc595e9e021b7cfe25849eb088503f11632", func := "narrows/narrowslaw26.DistanceLeast", spec := "distanceLeast", unfollowed := true, recurses := true, named := ["math/bits.overflowError"], apart := false }
def DistanceLeastSaid : Prop := distanceLeastRow.holds Tryz.pinned (OpenSpec.ofChange distanceLeastSpec)

/-- ITS FALSE NEIGHBOUR: 'it returns false'. Refute it at one input. -/
def distanceLeastWrong : ChangeSpec := { name := "distanceLeast", fn := fun _ => fun
  | [d1, d2, d3] => { results := [.lit (.bool false)], args := [d1, d2, d3] }
  | _ => none }
def DistanceLeastWrongFalsely : Prop := distanceLeastRow.holds Tryz.pinned (OpenSpec.ofChange distanceLeastWrong)

/-- 'narrowslaw26.DistancePolygons': WHATEVER THE INPUT: true; the input reads as it did. -/
def distancePolygonsSpec : ChangeSpec := { name := "distancePolygons", fn := fun _ => fun
  | [d1, d2, d3] => { results := [.lit (.bool true)], args := [d1, d2, d3] }
  | _ => none }
def distancePolygonsRow : OpenClaim := { program := "ytlnandkcoliejaagreat", sum := "122e432be764e699424a53b370d2cfc595e9e021b7cfe25849eb088503f11632", func := "narrows/narrowslaw26.DistancePolygons", spec := "distancePolygons", unfollowed := true, recurses := true, named := ["math/bits.overflowError"], apart := false }
def DistancePolygonsSaid : Prop := distancePolygonsRow.holds Tryz.pinned (OpenSpec.ofChange distancePolygonsSpec)

/-- ITS FALSE NEIGHBOUR: 'it returns false'. Refute it at one input. -/
def distancePolygonsWrong : ChangeSpec := { name := "distancePolygons", fn := fun _ => fun
  | [d1, d2, d3] => { results := [.lit (.bool false)], args := [d1, d2, d3] }
  | _ => none }
def DistancePolygonsWrongFalsely : Prop := distancePolygonsRow.holds Tryz.pinned (OpenSpec.ofChange distancePolygonsWrong)

/-- 'narrowslaw26.DistanceSegments': WHATEVER THE INPUT: true; the input reads as it did. -/
def distanceSegmentsSpec : ChangeSpec := { name := "distanceSegments", fn := fun _ => fun
  | [d1, d2, d3] => { results := [.lit (.bool true)], args := [d1, d2, d3] }
  | _ => none }
def distanceSegmentsRow : OpenClaim := { program := "ytlnandkcoliejaagreat", sum := "122e432be764e699424a53b370d2cfc595e9e021b7cfe25849eb088503f11632", func := "narrows/narrowslaw26.DistanceSegments", spec := "distanceSegments", unfollowed := true, recurses := true, named := ["math/bits.overflowError"], apart := false }
def DistanceSegmentsSaid : Prop := distanceSegmentsRow.holds Tryz.pinned (OpenSpec.ofChange distanceSegmentsSpec)

/-- ITS FALSE NEIGHBOUR: 'it returns false'. Refute it at one input. -/
def distanceSegmentsWrong : ChangeSpec := { name := "distanceSegments", fn := fun _ => fun
  | [d1, d2, d3] => { results := [.lit (.bool false)], args := [d1, d2, d3] }
  | _ => none }
def DistanceSegmentsWrongFalsely : Prop := distanceSegmentsRow.holds Tryz.pinned (OpenSpec.ofChange distanceSegmentsWrong)

/-- 'narrowslaw26.DistanceSymmetric': WHATEVER THE INPUT: true; the input reads as it did. -/
def distanceSymmetricSpec : ChangeSpec := { name := "distanceSymmetric", fn := fun _ => fun
  | [d1, d2, d3] => { results := [.lit (.bool true)], args := [d1, d2, d3] }
  | _ => none }
def distanceSymmetricRow : OpenClaim := { program := "ytlnandkcoliejaagreat", sum := "122e432be764e699424a53b370d2cfc595e9e021b7cfe25849eb088503f11632", func := "narrows/narrowslaw26.DistanceSymmetric", spec := "distanceSymmetric", unfollowed := true, recurses := true, named := ["math/bits.overflowError"], apart := false }
def DistanceSymmetricSaid : Prop := distanceSymmetricRow.holds Tryz.pinned (OpenSpec.ofChange distanceSymmetricSpec)

/-- ITS FALSE NEIGHBOUR: 'it returns false'. Refute it at one input. -/
def distanceSymmetricWrong : ChangeSpec := { name := "distanceSymmetric", fn := fun _ => fun
  | [d1, d2, d3] => { results := [.lit (.bool false)], args := [d1, d2, d3] }
  | _ => none }
def DistanceSymmetricWrongFalsely : Prop := distanceSymmetricRow.holds Tryz.pinned (OpenSpec.ofChange distanceSymmetricWrong)

/-- 'narrowslaw26.DistanceConvex': WHATEVER THE INPUT: true; the input reads as it did. -/
def distanceConvexSpec : ChangeSpec := { name := "distanceConvex", fn := fun _ => fun
  | [d1, d2] => { results := [.lit (.bool true)], args := [d1, d2] }
  | _ => none }
def distanceConvexRow : OpenClaim := { program := "ytlnandkcoliejaagreat", sum := "122e432be764e699424a53b370d2cfc595e9e021b7cfe25849eb088503f11632", func := "narrows/narrowslaw26.DistanceConvex", spec := "distanceConvex", unfollowed := true, recurses := true, named := ["math/bits.overflowError"], apart := false }
def DistanceConvexSaid : Prop := distanceConvexRow.holds Tryz.pinned (OpenSpec.ofChange distanceConvexSpec)

/-- ITS FALSE NEIGHBOUR: 'it returns false'. Refute it at one input. -/
def distanceConvexWrong : ChangeSpec := { name := "distanceConvex", fn := fun _ => fun
  | [d1, d2] => { results := [.lit (.bool false)], args := [d1, d2] }
  | _ => none }
def DistanceConvexWrongFalsely : Prop := distanceConvexRow.holds Tryz.pinned (OpenSpec.ofChange distanceConvexWrong)

/-- 'narrowslaw26.DistanceMoving': WHATEVER THE INPUT: true; the input reads as it did. -/
def distanceMovingSpec : ChangeSpec := { name := "distanceMoving", fn := fun _ => fun
  | [d1, d2, d3] => { results := [.lit (.bool true)], args := [d1, d2, d3] }
  | _ => none }
def distanceMovingRow : OpenClaim := { program := "ytlnandkcoliejaagreat", sum := "122e432be764e699424a53b370d2cfc595e9e021b7cfe25849eb088503f11632", func := "narrows/narrowslaw26.DistanceMoving", spec := "distanceMoving", unfollowed := true, recurses := true, named := ["math/bits.overflowError"], apart := false }
def DistanceMovingSaid : Prop := distanceMovingRow.holds Tryz.pinned (OpenSpec.ofChange distanceMovingSpec)

/-- ITS FALSE NEIGHBOUR: 'it returns false'. Refute it at one input. -/
def distanceMovingWrong : ChangeSpec := { name := "distanceMoving", fn := fun _ => fun
  | [d1, d2, d3] => { results := [.lit (.bool false)], args := [d1, d2, d3] }
  | _ => none }
def DistanceMovingWrongFalsely : Prop := distanceMovingRow.holds Tryz.pinned (OpenSpec.ofChange distanceMovingWrong)

/- THE SECOND FORM. 'bulk': how many values and letters a reading holds, each counted each time it is reached (what is shared counts as often as it is met; a slice's spare places count too). A statement '..UptoSaid' is the law's where the arguments, and the package variables that the reading takes, are together of bulk at most 1048576: NARROWER than '..Said'. Prove '..Said' where nothing that the law and all that it calls make is longer than what came in: it says more and counts as full. Else prove '..UptoSaid'. A law counts once. -/
mutual
def uptoBulk {H : Type} : DataW H → Nat
  | .lit (.string bytes) => bytes.length + 1
  | .lit _ => 1
  | .nil => 1
  | .ptr d => uptoBulk d + 1
  | .slice elems spare => uptoBulkAll elems + uptoBulkAll spare + 1
  | .agg parts => uptoBulkAll parts + 1
  | .iface _ d => uptoBulk d + 1
  | .map entries => uptoBulkEntries entries + 1
  | .held _ => 1
def uptoBulkAll {H : Type} : List (DataW H) → Nat
  | [] => 0
  | d :: r => uptoBulk d + uptoBulkAll r
def uptoBulkEntries {H : Type} : List (Lit × DataW H) → Nat
  | [] => 0
  | x :: r => uptoBulkEntry x + uptoBulkEntries r
def uptoBulkEntry {H : Type} : Lit × DataW H → Nat
  | (.string bytes, d) => bytes.length + uptoBulk d + 1
  | (_, d) => uptoBulk d + 1
 end
def uptoSmall : (H : Type) → List (DataW H) → Bool := fun _ ds => decide (uptoBulkAll ds ≤ 1048576)
def OpenSpec.upto (s : _root_.Go.ChangeSpec) : _root_.Go.OpenSpec := { _root_.Go.OpenSpec.ofChange s with cond := some uptoSmall }

/-- 'narrowslaw26.DistanceLeast', WHERE WHAT IT READS IS OF BULK AT MOST 1048576: true; the input reads as it did. -/
def distanceLeastUptoRow : OpenClaim := { program := "ytlnandkcoliejaagreat", sum := "122e432be764e699424a53b370d2cfc595e9e021b7cfe25849eb088503f11632", func := "narrows/narrowslaw26.DistanceLeast", spec := "distanceLeast", unfollowed := true, recurses := true, named := ["math/bits.overflowError"], apart := false, narrowed := true }
def DistanceLeastUptoSaid : Prop := distanceLeastUptoRow.holds Tryz.pinned (OpenSpec.upto distanceLeastSpec)

/-- 'narrowslaw26.DistancePolygons', WHERE WHAT IT READS IS OF BULK AT MOST 1048576: true; the input reads as it did. -/
def distancePolygonsUptoRow : OpenClaim := { program := "ytlnandkcoliejaagreat", sum := "122e432be764e699424a53b370d2cfc595e9e021b7cfe25849eb088503f11632", func := "narrows/narrowslaw26.DistancePolygons", spec := "distancePolygons", unfollowed := true, recurses := true, named := ["math/bits.overflowError"], apart := false, narrowed := true }
def DistancePolygonsUptoSaid : Prop := distancePolygonsUptoRow.holds Tryz.pinned (OpenSpec.upto distancePolygonsSpec)

/-- 'narrowslaw26.DistanceSegments', WHERE WHAT IT READS IS OF BULK AT MOST 1048576: true; the input reads as it did. -/
def distanceSegmentsUptoRow : OpenClaim := { program := "ytlnandkcoliejaagreat", sum := "122e432be764e699424a53b370d2cfc595e9e021b7cfe25849eb088503f11632", func := "narrows/narrowslaw26.DistanceSegments", spec := "distanceSegments", unfollowed := true, recurses := true, named := ["math/bits.overflowError"], apart := false, narrowed := true }
def DistanceSegmentsUptoSaid : Prop := distanceSegmentsUptoRow.holds Tryz.pinned (OpenSpec.upto distanceSegmentsSpec)

/-- 'narrowslaw26.DistanceSymmetric', WHERE WHAT IT READS IS OF BULK AT MOST 1048576: true; the input reads as it did. -/
def distanceSymmetricUptoRow : OpenClaim := { program := "ytlnandkcoliejaagreat", sum := "122e432be764e699424a53b370d2cfc595e9e021b7cfe25849eb088503f11632", func := "narrows/narrowslaw26.DistanceSymmetric", spec := "distanceSymmetric", unfollowed := true, recurses := true, named := ["math/bits.overflowError"], apart := false, narrowed := true }
def DistanceSymmetricUptoSaid : Prop := distanceSymmetricUptoRow.holds Tryz.pinned (OpenSpec.upto distanceSymmetricSpec)

/-- 'narrowslaw26.DistanceConvex', WHERE WHAT IT READS IS OF BULK AT MOST 1048576: true; the input reads as it did. -/
def distanceConvexUptoRow : OpenClaim := { program := "ytlnandkcoliejaagreat", sum := "122e432be764e699424a53b370d2cfc595e9e021b7cfe25849eb088503f11632", func := "narrows/narrowslaw26.DistanceConvex", spec := "distanceConvex", unfollowed := true, recurses := true, named := ["math/bits.overflowError"], apart := false, narrowed := true }
def DistanceConvexUptoSaid : Prop := distanceConvexUptoRow.holds Tryz.pinned (OpenSpec.upto distanceConvexSpec)

/-- 'narrowslaw26.DistanceMoving', WHERE WHAT IT READS IS OF BULK AT MOST 1048576: true; the input reads as it did. -/
def distanceMovingUptoRow : OpenClaim := { program := "ytlnandkcoliejaagreat", sum := "122e432be764e699424a53b370d2cfc595e9e021b7cfe25849eb088503f11632", func := "narrows/narrowslaw26.DistanceMoving", spec := "distanceMoving", unfollowed := true, recurses := true, named := ["math/bits.overflowError"], apart := false, narrowed := true }
def DistanceMovingUptoSaid : Prop := distanceMovingUptoRow.holds Tryz.pinned (OpenSpec.upto distanceMovingSpec)

end Rows
end Go.Proofs.YtlnandkcoliejaaGreat
