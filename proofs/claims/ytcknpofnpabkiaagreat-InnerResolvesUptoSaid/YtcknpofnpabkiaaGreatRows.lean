/-
  No cell of these rows narrows 'for every input' (looked for: loops, veiled, ifaces, maps, wideKeys, modest, calm, conditions, laid).
  DERIVED. THE GIVEN ROWS OF THIS SEAT. 6 by the template 'for every input the law returns true; each argument reads behind the call as it read before'; 0 by the template 'total and deterministic' (their statements: YtcknpofnpabkiaaGreatTotals.lean).
  GIVEN WITH THE SEED: the statements are not yours to turn. If you find one false, say at which input.
  Laid BY PROGRAM, IN A SANDBOX (cutbox-rows.mjs): the forced cells as the released guide's own fill.sh prints them over the translation ccce897cdb3d7dae… (all of the seat's roots in one cut). By AI agents, Wed Nov 11 2026. No macro, syntax, notation, axiom, sorry.
-/
import Derived.Test.YtcknpofnpabkiaaGreatChecked
import GoSem.Claim
import GoSem.ClaimJoined
import GoSem.ClaimMapViews
import Derived.JoinedTies
import Derived.KernelRfl
namespace Go.Proofs.YtcknpofnpabkiaaGreat
/- THE CELL 'sum', in the pinned program and in every row, IS THE sha256 OF THE DUMP (.gsa) THAT YtcknpofnpabkiaaGreatProg.lean LOADS. Nothing in Lean hashes anything: it is a label: what it is worth is what the hold of that sum in a sandbox is worth. -/
noncomputable def Tryz.pinned : Pinned := { name := "ytcknpofnpabkiaagreat", sum := "ccce897cdb3d7daec7d475e549b0a47e30b5982a0299fddad316d2bb2292b53a", checked := Tryz.checked }
namespace Rows
def none {H : Type} : Left H := { results := [], args := [] }

/-- 'lodestarlaw16.GraphBuilds': WHATEVER THE INPUT: true; the input reads as it did. -/
def graphBuildsSpec : ChangeSpec := { name := "graphBuilds", fn := fun _ => fun
  | [d1, d2, d3] => { results := [.lit (.bool true)], args := [d1, d2, d3] }
  | _ => none }
def graphBuildsRow : OpenClaim := { program := "ytcknpofnpabkiaagreat", sum := "ccce897cdb3d7daec7d475e549b0a47e30b5982a0299fddad316d2bb2292b53a", func := "lodestar/lodestarlaw16.GraphBuilds", spec := "graphBuilds", unfollowed := true, recurses := true, plainKeys := false, apart := false }
def GraphBuildsSaid : Prop := graphBuildsRow.holds Tryz.pinned (OpenSpec.ofChange graphBuildsSpec)

/-- ITS FALSE NEIGHBOUR: 'it returns false'. Refute it at one input. -/
def graphBuildsWrong : ChangeSpec := { name := "graphBuilds", fn := fun _ => fun
  | [d1, d2, d3] => { results := [.lit (.bool false)], args := [d1, d2, d3] }
  | _ => none }
def GraphBuildsWrongFalsely : Prop := graphBuildsRow.holds Tryz.pinned (OpenSpec.ofChange graphBuildsWrong)

/-- 'lodestarlaw18.InnerRoutes': WHATEVER THE INPUT: true; the input reads as it did. -/
def innerRoutesSpec : ChangeSpec := { name := "innerRoutes", fn := fun _ => fun
  | [d1, d2, d3] => { results := [.lit (.bool true)], args := [d1, d2, d3] }
  | _ => none }
def innerRoutesRow : OpenClaim := { program := "ytcknpofnpabkiaagreat", sum := "ccce897cdb3d7daec7d475e549b0a47e30b5982a0299fddad316d2bb2292b53a", func := "lodestar/lodestarlaw18.InnerRoutes", spec := "innerRoutes", unfollowed := true, recurses := true, plainKeys := false, apart := false }
def InnerRoutesSaid : Prop := innerRoutesRow.holds Tryz.pinned (OpenSpec.ofChange innerRoutesSpec)

/-- ITS FALSE NEIGHBOUR: 'it returns false'. Refute it at one input. -/
def innerRoutesWrong : ChangeSpec := { name := "innerRoutes", fn := fun _ => fun
  | [d1, d2, d3] => { results := [.lit (.bool false)], args := [d1, d2, d3] }
  | _ => none }
def InnerRoutesWrongFalsely : Prop := innerRoutesRow.holds Tryz.pinned (OpenSpec.ofChange innerRoutesWrong)

/-- 'lodestarlaw18.InnerRises': WHATEVER THE INPUT: true; the input reads as it did. -/
def innerRisesSpec : ChangeSpec := { name := "innerRises", fn := fun _ => fun
  | [d1, d2, d3] => { results := [.lit (.bool true)], args := [d1, d2, d3] }
  | _ => none }
def innerRisesRow : OpenClaim := { program := "ytcknpofnpabkiaagreat", sum := "ccce897cdb3d7daec7d475e549b0a47e30b5982a0299fddad316d2bb2292b53a", func := "lodestar/lodestarlaw18.InnerRises", spec := "innerRises", unfollowed := true, recurses := true, plainKeys := false, apart := false }
def InnerRisesSaid : Prop := innerRisesRow.holds Tryz.pinned (OpenSpec.ofChange innerRisesSpec)

/-- ITS FALSE NEIGHBOUR: 'it returns false'. Refute it at one input. -/
def innerRisesWrong : ChangeSpec := { name := "innerRises", fn := fun _ => fun
  | [d1, d2, d3] => { results := [.lit (.bool false)], args := [d1, d2, d3] }
  | _ => none }
def InnerRisesWrongFalsely : Prop := innerRisesRow.holds Tryz.pinned (OpenSpec.ofChange innerRisesWrong)

/-- 'lodestarlaw18.InnerBoth': WHATEVER THE INPUT: true; the input reads as it did. -/
def innerBothSpec : ChangeSpec := { name := "innerBoth", fn := fun _ => fun
  | [d1, d2, d3] => { results := [.lit (.bool true)], args := [d1, d2, d3] }
  | _ => none }
def innerBothRow : OpenClaim := { program := "ytcknpofnpabkiaagreat", sum := "ccce897cdb3d7daec7d475e549b0a47e30b5982a0299fddad316d2bb2292b53a", func := "lodestar/lodestarlaw18.InnerBoth", spec := "innerBoth", unfollowed := true, recurses := true, plainKeys := false, apart := false }
def InnerBothSaid : Prop := innerBothRow.holds Tryz.pinned (OpenSpec.ofChange innerBothSpec)

/-- ITS FALSE NEIGHBOUR: 'it returns false'. Refute it at one input. -/
def innerBothWrong : ChangeSpec := { name := "innerBoth", fn := fun _ => fun
  | [d1, d2, d3] => { results := [.lit (.bool false)], args := [d1, d2, d3] }
  | _ => none }
def InnerBothWrongFalsely : Prop := innerBothRow.holds Tryz.pinned (OpenSpec.ofChange innerBothWrong)

/-- 'lodestarlaw18.InnerResolves': WHATEVER THE INPUT: true; the input reads as it did. -/
def innerResolvesSpec : ChangeSpec := { name := "innerResolves", fn := fun _ => fun
  | [d1, d2] => { results := [.lit (.bool true)], args := [d1, d2] }
  | _ => none }
def innerResolvesRow : OpenClaim := { program := "ytcknpofnpabkiaagreat", sum := "ccce897cdb3d7daec7d475e549b0a47e30b5982a0299fddad316d2bb2292b53a", func := "lodestar/lodestarlaw18.InnerResolves", spec := "innerResolves", unfollowed := true, recurses := true, plainKeys := false, apart := false }
def InnerResolvesSaid : Prop := innerResolvesRow.holds Tryz.pinned (OpenSpec.ofChange innerResolvesSpec)

/-- ITS FALSE NEIGHBOUR: 'it returns false'. Refute it at one input. -/
def innerResolvesWrong : ChangeSpec := { name := "innerResolves", fn := fun _ => fun
  | [d1, d2] => { results := [.lit (.bool false)], args := [d1, d2] }
  | _ => none }
def InnerResolvesWrongFalsely : Prop := innerResolvesRow.holds Tryz.pinned (OpenSpec.ofChange innerResolvesWrong)

/-- 'lodestarlaw18.InnerPlain': WHATEVER THE INPUT: true; the input reads as it did. -/
def innerPlainSpec : ChangeSpec := { name := "innerPlain", fn := fun _ => fun
  | [d1, d2] => { results := [.lit (.bool true)], args := [d1, d2] }
  | _ => none }
def innerPlainRow : OpenClaim := { program := "ytcknpofnpabkiaagreat", sum := "ccce897cdb3d7daec7d475e549b0a47e30b5982a0299fddad316d2bb2292b53a", func := "lodestar/lodestarlaw18.InnerPlain", spec := "innerPlain", unfollowed := true, recurses := true, plainKeys := false, apart := false }
def InnerPlainSaid : Prop := innerPlainRow.holds Tryz.pinned (OpenSpec.ofChange innerPlainSpec)

/-- ITS FALSE NEIGHBOUR: 'it returns false'. Refute it at one input. -/
def innerPlainWrong : ChangeSpec := { name := "innerPlain", fn := fun _ => fun
  | [d1, d2] => { results := [.lit (.bool false)], args := [d1, d2] }
  | _ => none }
def InnerPlainWrongFalsely : Prop := innerPlainRow.holds Tryz.pinned (OpenSpec.ofChange innerPlainWrong)

/- THE SECOND FORM. 'bulk': how many values and letters a reading holds, each counted each time it is reached (what is shared counts as often as it is met; a slice's spare places count too). A statement '..UptoSaid' is the law's where the arguments, and the package variables that the reading takes, are together of bulk at most 1048576: NARROWER than '..Said'. Prove '..Said' where nothing that the law and all that it calls make is longer than what came in: it says more and counts as full. Else prove '..UptoSaid'. A law counts once. -/
mutual
def uptoBulk {H : Type} : DataW H → Nat
  | .lit (.string bytes) => bytes.length + 1
  | .lit _ => 1
  | .nil => 1
  | .ptr d => uptoBulk d + 1
  | .slice elems spare => uptoBulkAll elems + uptoBulkAll spare + 1
  | .agg parts => uptoBulkAll parts + 1
  | .iface _ d => uptoBulk d + 1
  | .map entries => uptoBulkEntries entries + 1
  | .held _ => 1
def uptoBulkAll {H : Type} : List (DataW H) → Nat
  | [] => 0
  | d :: r => uptoBulk d + uptoBulkAll r
def uptoBulkEntries {H : Type} : List (Lit × DataW H) → Nat
  | [] => 0
  | x :: r => uptoBulkEntry x + uptoBulkEntries r
def uptoBulkEntry {H : Type} : Lit × DataW H → Nat
  | (.string bytes, d) => bytes.length + uptoBulk d + 1
  | (_, d) => uptoBulk d + 1
 end
def uptoSmall : (H : Type) → List (DataW H) → Bool := fun _ ds => decide (uptoBulkAll ds ≤ 1048576)
def OpenSpec.upto (s : _root_.Go.ChangeSpec) : _root_.Go.OpenSpec := { _root_.Go.OpenSpec.ofChange s with cond := some uptoSmall }

/-- 'lodestarlaw16.GraphBuilds', WHERE WHAT IT READS IS OF BULK AT MOST 1048576: true; the input reads as it did. -/
def graphBuildsUptoRow : OpenClaim := { program := "ytcknpofnpabkiaagreat", sum := "ccce897cdb3d7daec7d475e549b0a47e30b5982a0299fddad316d2bb2292b53a", func := "lodestar/lodestarlaw16.GraphBuilds", spec := "graphBuilds", unfollowed := true, recurses := true, plainKeys := false, apart := false, narrowed := true }
def GraphBuildsUptoSaid : Prop := graphBuildsUptoRow.holds Tryz.pinned (OpenSpec.upto graphBuildsSpec)

/-- 'lodestarlaw18.InnerRoutes', WHERE WHAT IT READS IS OF BULK AT MOST 1048576: true; the input reads as it did. -/
def innerRoutesUptoRow : OpenClaim := { program := "ytcknpofnpabkiaagreat", sum := "ccce897cdb3d7daec7d475e549b0a47e30b5982a0299fddad316d2bb2292b53a", func := "lodestar/lodestarlaw18.InnerRoutes", spec := "innerRoutes", unfollowed := true, recurses := true, plainKeys := false, apart := false, narrowed := true }
def InnerRoutesUptoSaid : Prop := innerRoutesUptoRow.holds Tryz.pinned (OpenSpec.upto innerRoutesSpec)

/-- 'lodestarlaw18.InnerRises', WHERE WHAT IT READS IS OF BULK AT MOST 1048576: true; the input reads as it did. -/
def innerRisesUptoRow : OpenClaim := { program := "ytcknpofnpabkiaagreat", sum := "ccce897cdb3d7daec7d475e549b0a47e30b5982a0299fddad316d2bb2292b53a", func := "lodestar/lodestarlaw18.InnerRises", spec := "innerRises", unfollowed := true, recurses := true, plainKeys := false, apart := false, narrowed := true }
def InnerRisesUptoSaid : Prop := innerRisesUptoRow.holds Tryz.pinned (OpenSpec.upto innerRisesSpec)

/-- 'lodestarlaw18.InnerBoth', WHERE WHAT IT READS IS OF BULK AT MOST 1048576: true; the input reads as it did. -/
def innerBothUptoRow : OpenClaim := { program := "ytcknpofnpabkiaagreat", sum := "ccce897cdb3d7daec7d475e549b0a47e30b5982a0299fddad316d2bb2292b53a", func := "lodestar/lodestarlaw18.InnerBoth", spec := "innerBoth", unfollowed := true, recurses := true, plainKeys := false, apart := false, narrowed := true }
def InnerBothUptoSaid : Prop := innerBothUptoRow.holds Tryz.pinned (OpenSpec.upto innerBothSpec)

/-- 'lodestarlaw18.InnerResolves', WHERE WHAT IT READS IS OF BULK AT MOST 1048576: true; the input reads as it did. -/
def innerResolvesUptoRow : OpenClaim := { program := "ytcknpofnpabkiaagreat", sum := "ccce897cdb3d7daec7d475e549b0a47e30b5982a0299fddad316d2bb2292b53a", func := "lodestar/lodestarlaw18.InnerResolves", spec := "innerResolves", unfollowed := true, recurses := true, plainKeys := false, apart := false, narrowed := true }
def InnerResolvesUptoSaid : Prop := innerResolvesUptoRow.holds Tryz.pinned (OpenSpec.upto innerResolvesSpec)

/-- 'lodestarlaw18.InnerPlain', WHERE WHAT IT READS IS OF BULK AT MOST 1048576: true; the input reads as it did. -/
def innerPlainUptoRow : OpenClaim := { program := "ytcknpofnpabkiaagreat", sum := "ccce897cdb3d7daec7d475e549b0a47e30b5982a0299fddad316d2bb2292b53a", func := "lodestar/lodestarlaw18.InnerPlain", spec := "innerPlain", unfollowed := true, recurses := true, plainKeys := false, apart := false, narrowed := true }
def InnerPlainUptoSaid : Prop := innerPlainUptoRow.holds Tryz.pinned (OpenSpec.upto innerPlainSpec)

end Rows
end Go.Proofs.YtcknpofnpabkiaaGreat
