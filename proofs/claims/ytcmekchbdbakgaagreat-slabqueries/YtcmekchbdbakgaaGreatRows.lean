/-
  No cell of these rows narrows 'for every input' (looked for: loops, veiled, ifaces, maps, wideKeys, modest, calm, conditions, laid).
  DERIVED. THE GIVEN ROWS OF THIS SEAT. 3 by the template 'for every input the law returns true; each argument reads behind the call as it read before'; 0 by the template 'total and deterministic' (their statements: YtcmekchbdbakgaaGreatTotals.lean).
  GIVEN WITH THE SEED: the statements are not yours to turn. If you find one false, say at which input.
  Laid BY PROGRAM, IN A SANDBOX (cutbox-rows.mjs): the forced cells as the released guide's own fill.sh prints them over the translation 01e3b055ec5f53a4… (all of the seat's roots in one cut). By AI agents, Wed Nov 11 2026. No macro, syntax, notation, axiom, sorry.
-/
import Derived.Test.YtcmekchbdbakgaaGreatChecked
import GoSem.Claim
import GoSem.ClaimJoined
import GoSem.ClaimMapViews
import Derived.JoinedTies
import Derived.KernelRfl
namespace Go.Proofs.YtcmekchbdbakgaaGreat
/- THE CELL 'sum', in the pinned program and in every row, IS THE sha256 OF THE DUMP (.gsa) THAT YtcmekchbdbakgaaGreatProg.lean LOADS. Nothing in Lean hashes anything: it is a label: what it is worth is what the hold of that sum in a sandbox is worth. -/
noncomputable def Tryz.pinned : Pinned := { name := "ytcmekchbdbakgaagreat", sum := "01e3b055ec5f53a4f58b9151fc6aaa7442a02e5a4617643614b912f9eb5f708d", checked := Tryz.checked }
namespace Rows
def none {H : Type} : Left H := { results := [], args := [] }

/-- 'narrowslaw16.SlabBuilds': WHATEVER THE INPUT: true; the input reads as it did. -/
def slabBuildsSpec : ChangeSpec := { name := "slabBuilds", fn := fun _ => fun
  | [d1, d2] => { results := [.lit (.bool true)], args := [d1, d2] }
  | _ => none }
def slabBuildsRow : OpenClaim := { program := "ytcmekchbdbakgaagreat", sum := "01e3b055ec5f53a4f58b9151fc6aaa7442a02e5a4617643614b912f9eb5f708d", func := "narrows/narrowslaw16.SlabBuilds", spec := "slabBuilds", unfollowed := true, recurses := true, named := ["math/bits.overflowError"], plainKeys := false, apart := false }
def SlabBuildsSaid : Prop := slabBuildsRow.holds Tryz.pinned (OpenSpec.ofChange slabBuildsSpec)

/-- ITS FALSE NEIGHBOUR: 'it returns false'. Refute it at one input. -/
def slabBuildsWrong : ChangeSpec := { name := "slabBuilds", fn := fun _ => fun
  | [d1, d2] => { results := [.lit (.bool false)], args := [d1, d2] }
  | _ => none }
def SlabBuildsWrongFalsely : Prop := slabBuildsRow.holds Tryz.pinned (OpenSpec.ofChange slabBuildsWrong)

/-- 'narrowslaw16.SlabSegments': WHATEVER THE INPUT: true; the input reads as it did. -/
def slabSegmentsSpec : ChangeSpec := { name := "slabSegments", fn := fun _ => fun
  | [d1, d2] => { results := [.lit (.bool true)], args := [d1, d2] }
  | _ => none }
def slabSegmentsRow : OpenClaim := { program := "ytcmekchbdbakgaagreat", sum := "01e3b055ec5f53a4f58b9151fc6aaa7442a02e5a4617643614b912f9eb5f708d", func := "narrows/narrowslaw16.SlabSegments", spec := "slabSegments", unfollowed := true, recurses := true, named := ["math/bits.overflowError"], plainKeys := false, apart := false }
def SlabSegmentsSaid : Prop := slabSegmentsRow.holds Tryz.pinned (OpenSpec.ofChange slabSegmentsSpec)

/-- ITS FALSE NEIGHBOUR: 'it returns false'. Refute it at one input. -/
def slabSegmentsWrong : ChangeSpec := { name := "slabSegments", fn := fun _ => fun
  | [d1, d2] => { results := [.lit (.bool false)], args := [d1, d2] }
  | _ => none }
def SlabSegmentsWrongFalsely : Prop := slabSegmentsRow.holds Tryz.pinned (OpenSpec.ofChange slabSegmentsWrong)

/-- 'narrowslaw16.SlabQueries': WHATEVER THE INPUT: true; the input reads as it did. -/
def slabQueriesSpec : ChangeSpec := { name := "slabQueries", fn := fun _ => fun
  | [d1, d2, d3] => { results := [.lit (.bool true)], args := [d1, d2, d3] }
  | _ => none }
def slabQueriesRow : OpenClaim := { program := "ytcmekchbdbakgaagreat", sum := "01e3b055ec5f53a4f58b9151fc6aaa7442a02e5a4617643614b912f9eb5f708d", func := "narrows/narrowslaw16.SlabQueries", spec := "slabQueries", unfollowed := true, recurses := true, named := ["math/bits.overflowError"], plainKeys := false, apart := false }
def SlabQueriesSaid : Prop := slabQueriesRow.holds Tryz.pinned (OpenSpec.ofChange slabQueriesSpec)

/-- ITS FALSE NEIGHBOUR: 'it returns false'. Refute it at one input. -/
def slabQueriesWrong : ChangeSpec := { name := "slabQueries", fn := fun _ => fun
  | [d1, d2, d3] => { results := [.lit (.bool false)], args := [d1, d2, d3] }
  | _ => none }
def SlabQueriesWrongFalsely : Prop := slabQueriesRow.holds Tryz.pinned (OpenSpec.ofChange slabQueriesWrong)

/- THE SECOND FORM. 'bulk': how many values and letters a reading holds, each counted each time it is reached (what is shared counts as often as it is met; a slice's spare places count too). A statement '..UptoSaid' is the law's where the arguments, and the package variables that the reading takes, are together of bulk at most 1048576: NARROWER than '..Said'. Prove '..Said' where nothing that the law and all that it calls make is longer than what came in: it says more and counts as full. Else prove '..UptoSaid'. A law counts once. -/
mutual
def uptoBulk {H : Type} : DataW H → Nat
  | .lit (.string bytes) => bytes.length + 1
  | .lit _ => 1
  | .nil => 1
  | .ptr d => uptoBulk d + 1
  | .slice elems spare => uptoBulkAll elems + uptoBulkAll spare + 1
  | .agg parts => uptoBulkAll parts + 1
  | .iface _ d => uptoBulk d + 1
  | .map entries => uptoBulkEntries entries + 1
  | .held _ => 1
def uptoBulkAll {H : Type} : List (DataW H) → Nat
  | [] => 0
  | d :: r => uptoBulk d + uptoBulkAll r
def uptoBulkEntries {H : Type} : List (Lit × DataW H) → Nat
  | [] => 0
  | x :: r => uptoBulkEntry x + uptoBulkEntries r
def uptoBulkEntry {H : Type} : Lit × DataW H → Nat
  | (.string bytes, d) => bytes.length + uptoBulk d + 1
  | (_, d) => uptoBulk d + 1
 end
def uptoSmall : (H : Type) → List (DataW H) → Bool := fun _ ds => decide (uptoBulkAll ds ≤ 1048576)
def OpenSpec.upto (s : _root_.Go.ChangeSpec) : _root_.Go.OpenSpec := { _root_.Go.OpenSpec.ofChange s with cond := some uptoSmall }

/-- 'narrowslaw16.SlabBuilds', WHERE WHAT IT READS IS OF BULK AT MOST 1048576: true; the input reads as it did. -/
def slabBuildsUptoRow : OpenClaim := { program := "ytcmekchbdbakgaagreat", sum := "01e3b055ec5f53a4f58b9151fc6aaa7442a02e5a4617643614b912f9eb5f708d", func := "narrows/narrowslaw16.SlabBuilds", spec := "slabBuilds", unfollowed := true, recurses := true, named := ["math/bits.overflowError"], plainKeys := false, apart := false, narrowed := true }
def SlabBuildsUptoSaid : Prop := slabBuildsUptoRow.holds Tryz.pinned (OpenSpec.upto slabBuildsSpec)

/-- 'narrowslaw16.SlabSegments', WHERE WHAT IT READS IS OF BULK AT MOST 1048576: true; the input reads as it did. -/
def slabSegmentsUptoRow : OpenClaim := { program := "ytcmekchbdbakgaagreat", sum := "01e3b055ec5f53a4f58b9151fc6aaa7442a02e5a4617643614b912f9eb5f708d", func := "narrows/narrowslaw16.SlabSegments", spec := "slabSegments", unfollowed := true, recurses := true, named := ["math/bits.overflowError"], plainKeys := false, apart := false, narrowed := true }
def SlabSegmentsUptoSaid : Prop := slabSegmentsUptoRow.holds Tryz.pinned (OpenSpec.upto slabSegmentsSpec)

/-- 'narrowslaw16.SlabQueries', WHERE WHAT IT READS IS OF BULK AT MOST 1048576: true; the input reads as it did. -/
def slabQueriesUptoRow : OpenClaim := { program := "ytcmekchbdbakgaagreat", sum := "01e3b055ec5f53a4f58b9151fc6aaa7442a02e5a4617643614b912f9eb5f708d", func := "narrows/narrowslaw16.SlabQueries", spec := "slabQueries", unfollowed := true, recurses := true, named := ["math/bits.overflowError"], plainKeys := false, apart := false, narrowed := true }
def SlabQueriesUptoSaid : Prop := slabQueriesUptoRow.holds Tryz.pinned (OpenSpec.upto slabQueriesSpec)

end Rows
end Go.Proofs.YtcmekchbdbakgaaGreat
