/-
  No cell of these rows narrows 'for every input' (looked for: loops, veiled, ifaces, maps, wideKeys, modest, calm, conditions, laid).
  DERIVED. THE GIVEN ROWS OF THIS SEAT. 11 by the template 'for every input the law returns true; each argument reads behind the call as it read before'; 0 by the template 'total and deterministic' (their statements: YtiikagabdiphkaaGreatTotals.lean).
  GIVEN WITH THE SEED: the statements are not yours to turn. If you find one false, say at which input.
  Laid BY PROGRAM, IN A SANDBOX (cutbox-rows.mjs): the forced cells as the released guide's own fill.sh prints them over the translation 14fdf008fdddc6fb… (all of the seat's roots in one cut). By AI agents, Wed Nov 11 2026. No macro, syntax, notation, axiom, sorry.
-/
import Derived.Test.YtiikagabdiphkaaGreatChecked
import GoSem.Claim
import GoSem.ClaimJoined
import GoSem.ClaimMapViews
import Derived.JoinedTies
import Derived.KernelRfl
namespace Go.Proofs.YtiikagabdiphkaaGreat
/- THE CELL 'sum', in the pinned program and in every row, IS THE sha256 OF THE DUMP (.gsa) THAT YtiikagabdiphkaaGreatProg.lean LOADS. Nothing in Lean hashes anything: it is a label: what it is worth is what the hold of that sum in a sandbox is worth. -/
noncomputable def Tryz.pinned : Pinned := { name := "ytiikagabdiphkaagreat", sum := "14fdf008fdddc6fb4a9e8a9c5646b8ba707751630b83c1f4cbffc2f43ef14fa8", checked := Tryz.checked }
namespace Rows
def none {H : Type} : Left H := { results := [], args := [] }

/-- 'lodestarlaw19.BetweenShorter': WHATEVER THE INPUT: true; the input reads as it did. -/
def betweenShorterSpec : ChangeSpec := { name := "betweenShorter", fn := fun _ => fun
  | [d1, d2] => { results := [.lit (.bool true)], args := [d1, d2] }
  | _ => none }
def betweenShorterRow : OpenClaim := { program := "ytiikagabdiphkaagreat", sum := "14fdf008fdddc6fb4a9e8a9c5646b8ba707751630b83c1f4cbffc2f43ef14fa8", func := "lodestar/lodestarlaw19.BetweenShorter", spec := "betweenShorter", unfollowed := true, recurses := true, plainKeys := false, apart := false }
def BetweenShorterSaid : Prop := betweenShorterRow.holds Tryz.pinned (OpenSpec.ofChange betweenShorterSpec)

/-- ITS FALSE NEIGHBOUR: 'it returns false'. Refute it at one input. -/
def betweenShorterWrong : ChangeSpec := { name := "betweenShorter", fn := fun _ => fun
  | [d1, d2] => { results := [.lit (.bool false)], args := [d1, d2] }
  | _ => none }
def BetweenShorterWrongFalsely : Prop := betweenShorterRow.holds Tryz.pinned (OpenSpec.ofChange betweenShorterWrong)

/-- 'lodestarlaw19.BetweenBorders': WHATEVER THE INPUT: true; the input reads as it did. -/
def betweenBordersSpec : ChangeSpec := { name := "betweenBorders", fn := fun _ => fun
  | [d] => { results := [.lit (.bool true)], args := [d] }
  | _ => none }
def betweenBordersRow : OpenClaim := { program := "ytiikagabdiphkaagreat", sum := "14fdf008fdddc6fb4a9e8a9c5646b8ba707751630b83c1f4cbffc2f43ef14fa8", func := "lodestar/lodestarlaw19.BetweenBorders", spec := "betweenBorders", unfollowed := true, recurses := true, plainKeys := false, apart := false }
def BetweenBordersSaid : Prop := betweenBordersRow.holds Tryz.pinned (OpenSpec.ofChange betweenBordersSpec)

/-- ITS FALSE NEIGHBOUR: 'it returns false'. Refute it at one input. -/
def betweenBordersWrong : ChangeSpec := { name := "betweenBorders", fn := fun _ => fun
  | [d] => { results := [.lit (.bool false)], args := [d] }
  | _ => none }
def BetweenBordersWrongFalsely : Prop := betweenBordersRow.holds Tryz.pinned (OpenSpec.ofChange betweenBordersWrong)

/-- 'lodestarlaw19.BetweenOwn': WHATEVER THE INPUT: true; the input reads as it did. -/
def betweenOwnSpec : ChangeSpec := { name := "betweenOwn", fn := fun _ => fun
  | [d] => { results := [.lit (.bool true)], args := [d] }
  | _ => none }
def betweenOwnRow : OpenClaim := { program := "ytiikagabdiphkaagreat", sum := "14fdf008fdddc6fb4a9e8a9c5646b8ba707751630b83c1f4cbffc2f43ef14fa8", func := "lodestar/lodestarlaw19.BetweenOwn", spec := "betweenOwn", unfollowed := true, recurses := true, plainKeys := false, apart := false }
def BetweenOwnSaid : Prop := betweenOwnRow.holds Tryz.pinned (OpenSpec.ofChange betweenOwnSpec)

/-- ITS FALSE NEIGHBOUR: 'it returns false'. Refute it at one input. -/
def betweenOwnWrong : ChangeSpec := { name := "betweenOwn", fn := fun _ => fun
  | [d] => { results := [.lit (.bool false)], args := [d] }
  | _ => none }
def BetweenOwnWrongFalsely : Prop := betweenOwnRow.holds Tryz.pinned (OpenSpec.ofChange betweenOwnWrong)

/-- 'lodestarlaw16.GraphBuilds': WHATEVER THE INPUT: true; the input reads as it did. -/
def graphBuildsSpec : ChangeSpec := { name := "graphBuilds", fn := fun _ => fun
  | [d1, d2, d3] => { results := [.lit (.bool true)], args := [d1, d2, d3] }
  | _ => none }
def graphBuildsRow : OpenClaim := { program := "ytiikagabdiphkaagreat", sum := "14fdf008fdddc6fb4a9e8a9c5646b8ba707751630b83c1f4cbffc2f43ef14fa8", func := "lodestar/lodestarlaw16.GraphBuilds", spec := "graphBuilds", unfollowed := true, recurses := true, plainKeys := false, apart := false }
def GraphBuildsSaid : Prop := graphBuildsRow.holds Tryz.pinned (OpenSpec.ofChange graphBuildsSpec)

/-- ITS FALSE NEIGHBOUR: 'it returns false'. Refute it at one input. -/
def graphBuildsWrong : ChangeSpec := { name := "graphBuilds", fn := fun _ => fun
  | [d1, d2, d3] => { results := [.lit (.bool false)], args := [d1, d2, d3] }
  | _ => none }
def GraphBuildsWrongFalsely : Prop := graphBuildsRow.holds Tryz.pinned (OpenSpec.ofChange graphBuildsWrong)

/-- 'lodestarlaw16.GraphPairs': WHATEVER THE INPUT: true; the input reads as it did. -/
def graphPairsSpec : ChangeSpec := { name := "graphPairs", fn := fun _ => fun
  | [d] => { results := [.lit (.bool true)], args := [d] }
  | _ => none }
def graphPairsRow : OpenClaim := { program := "ytiikagabdiphkaagreat", sum := "14fdf008fdddc6fb4a9e8a9c5646b8ba707751630b83c1f4cbffc2f43ef14fa8", func := "lodestar/lodestarlaw16.GraphPairs", spec := "graphPairs", unfollowed := true, recurses := true, plainKeys := false, apart := false }
def GraphPairsSaid : Prop := graphPairsRow.holds Tryz.pinned (OpenSpec.ofChange graphPairsSpec)

/-- ITS FALSE NEIGHBOUR: 'it returns false'. Refute it at one input. -/
def graphPairsWrong : ChangeSpec := { name := "graphPairs", fn := fun _ => fun
  | [d] => { results := [.lit (.bool false)], args := [d] }
  | _ => none }
def GraphPairsWrongFalsely : Prop := graphPairsRow.holds Tryz.pinned (OpenSpec.ofChange graphPairsWrong)

/-- 'lodestarlaw16.GraphOrder': WHATEVER THE INPUT: true; the input reads as it did. -/
def graphOrderSpec : ChangeSpec := { name := "graphOrder", fn := fun _ => fun
  | [d1, d2] => { results := [.lit (.bool true)], args := [d1, d2] }
  | _ => none }
def graphOrderRow : OpenClaim := { program := "ytiikagabdiphkaagreat", sum := "14fdf008fdddc6fb4a9e8a9c5646b8ba707751630b83c1f4cbffc2f43ef14fa8", func := "lodestar/lodestarlaw16.GraphOrder", spec := "graphOrder", unfollowed := true, recurses := true, plainKeys := false, apart := false }
def GraphOrderSaid : Prop := graphOrderRow.holds Tryz.pinned (OpenSpec.ofChange graphOrderSpec)

/-- ITS FALSE NEIGHBOUR: 'it returns false'. Refute it at one input. -/
def graphOrderWrong : ChangeSpec := { name := "graphOrder", fn := fun _ => fun
  | [d1, d2] => { results := [.lit (.bool false)], args := [d1, d2] }
  | _ => none }
def GraphOrderWrongFalsely : Prop := graphOrderRow.holds Tryz.pinned (OpenSpec.ofChange graphOrderWrong)

/-- 'lodestarlaw16.GraphOld': WHATEVER THE INPUT: true; the input reads as it did. -/
def graphOldSpec : ChangeSpec := { name := "graphOld", fn := fun _ => fun
  | [d1, d2] => { results := [.lit (.bool true)], args := [d1, d2] }
  | _ => none }
def graphOldRow : OpenClaim := { program := "ytiikagabdiphkaagreat", sum := "14fdf008fdddc6fb4a9e8a9c5646b8ba707751630b83c1f4cbffc2f43ef14fa8", func := "lodestar/lodestarlaw16.GraphOld", spec := "graphOld", unfollowed := true, recurses := true, plainKeys := false, apart := false }
def GraphOldSaid : Prop := graphOldRow.holds Tryz.pinned (OpenSpec.ofChange graphOldSpec)

/-- ITS FALSE NEIGHBOUR: 'it returns false'. Refute it at one input. -/
def graphOldWrong : ChangeSpec := { name := "graphOld", fn := fun _ => fun
  | [d1, d2] => { results := [.lit (.bool false)], args := [d1, d2] }
  | _ => none }
def GraphOldWrongFalsely : Prop := graphOldRow.holds Tryz.pinned (OpenSpec.ofChange graphOldWrong)

/-- 'lodestarlaw20.OuterBetter': WHATEVER THE INPUT: true; the input reads as it did. -/
def outerBetterSpec : ChangeSpec := { name := "outerBetter", fn := fun _ => fun
  | [d1, d2, d3] => { results := [.lit (.bool true)], args := [d1, d2, d3] }
  | _ => none }
def outerBetterRow : OpenClaim := { program := "ytiikagabdiphkaagreat", sum := "14fdf008fdddc6fb4a9e8a9c5646b8ba707751630b83c1f4cbffc2f43ef14fa8", func := "lodestar/lodestarlaw20.OuterBetter", spec := "outerBetter", unfollowed := true, recurses := true, plainKeys := false, apart := false }
def OuterBetterSaid : Prop := outerBetterRow.holds Tryz.pinned (OpenSpec.ofChange outerBetterSpec)

/-- ITS FALSE NEIGHBOUR: 'it returns false'. Refute it at one input. -/
def outerBetterWrong : ChangeSpec := { name := "outerBetter", fn := fun _ => fun
  | [d1, d2, d3] => { results := [.lit (.bool false)], args := [d1, d2, d3] }
  | _ => none }
def OuterBetterWrongFalsely : Prop := outerBetterRow.holds Tryz.pinned (OpenSpec.ofChange outerBetterWrong)

/-- 'lodestarlaw20.OuterMerges': WHATEVER THE INPUT: true; the input reads as it did. -/
def outerMergesSpec : ChangeSpec := { name := "outerMerges", fn := fun _ => fun
  | [d1, d2] => { results := [.lit (.bool true)], args := [d1, d2] }
  | _ => none }
def outerMergesRow : OpenClaim := { program := "ytiikagabdiphkaagreat", sum := "14fdf008fdddc6fb4a9e8a9c5646b8ba707751630b83c1f4cbffc2f43ef14fa8", func := "lodestar/lodestarlaw20.OuterMerges", spec := "outerMerges", unfollowed := true, recurses := true, plainKeys := false, apart := false }
def OuterMergesSaid : Prop := outerMergesRow.holds Tryz.pinned (OpenSpec.ofChange outerMergesSpec)

/-- ITS FALSE NEIGHBOUR: 'it returns false'. Refute it at one input. -/
def outerMergesWrong : ChangeSpec := { name := "outerMerges", fn := fun _ => fun
  | [d1, d2] => { results := [.lit (.bool false)], args := [d1, d2] }
  | _ => none }
def OuterMergesWrongFalsely : Prop := outerMergesRow.holds Tryz.pinned (OpenSpec.ofChange outerMergesWrong)

/-- 'lodestarlaw20.OuterBest': WHATEVER THE INPUT: true; the input reads as it did. -/
def outerBestSpec : ChangeSpec := { name := "outerBest", fn := fun _ => fun
  | [d1, d2] => { results := [.lit (.bool true)], args := [d1, d2] }
  | _ => none }
def outerBestRow : OpenClaim := { program := "ytiikagabdiphkaagreat", sum := "14fdf008fdddc6fb4a9e8a9c5646b8ba707751630b83c1f4cbffc2f43ef14fa8", func := "lodestar/lodestarlaw20.OuterBest", spec := "outerBest", unfollowed := true, recurses := true, plainKeys := false, apart := false }
def OuterBestSaid : Prop := outerBestRow.holds Tryz.pinned (OpenSpec.ofChange outerBestSpec)

/-- ITS FALSE NEIGHBOUR: 'it returns false'. Refute it at one input. -/
def outerBestWrong : ChangeSpec := { name := "outerBest", fn := fun _ => fun
  | [d1, d2] => { results := [.lit (.bool false)], args := [d1, d2] }
  | _ => none }
def OuterBestWrongFalsely : Prop := outerBestRow.holds Tryz.pinned (OpenSpec.ofChange outerBestWrong)

/-- 'lodestarlaw20.OuterNear': WHATEVER THE INPUT: true; the input reads as it did. -/
def outerNearSpec : ChangeSpec := { name := "outerNear", fn := fun _ => fun
  | [d1, d2] => { results := [.lit (.bool true)], args := [d1, d2] }
  | _ => none }
def outerNearRow : OpenClaim := { program := "ytiikagabdiphkaagreat", sum := "14fdf008fdddc6fb4a9e8a9c5646b8ba707751630b83c1f4cbffc2f43ef14fa8", func := "lodestar/lodestarlaw20.OuterNear", spec := "outerNear", unfollowed := true, recurses := true, plainKeys := false, apart := false }
def OuterNearSaid : Prop := outerNearRow.holds Tryz.pinned (OpenSpec.ofChange outerNearSpec)

/-- ITS FALSE NEIGHBOUR: 'it returns false'. Refute it at one input. -/
def outerNearWrong : ChangeSpec := { name := "outerNear", fn := fun _ => fun
  | [d1, d2] => { results := [.lit (.bool false)], args := [d1, d2] }
  | _ => none }
def OuterNearWrongFalsely : Prop := outerNearRow.holds Tryz.pinned (OpenSpec.ofChange outerNearWrong)

/- THE SECOND FORM. 'bulk': how many values and letters a reading holds, each counted each time it is reached (what is shared counts as often as it is met; a slice's spare places count too). A statement '..UptoSaid' is the law's where the arguments, and the package variables that the reading takes, are together of bulk at most 1048576: NARROWER than '..Said'. Prove '..Said' where nothing that the law and all that it calls make is longer than what came in: it says more and counts as full. Else prove '..UptoSaid'. A law counts once. -/
mutual
def uptoBulk {H : Type} : DataW H → Nat
  | .lit (.string bytes) => bytes.length + 1
  | .lit _ => 1
  | .nil => 1
  | .ptr d => uptoBulk d + 1
  | .slice elems spare => uptoBulkAll elems + uptoBulkAll spare + 1
  | .agg parts => uptoBulkAll parts + 1
  | .iface _ d => uptoBulk d + 1
  | .map entries => uptoBulkEntries entries + 1
  | .held _ => 1
def uptoBulkAll {H : Type} : List (DataW H) → Nat
  | [] => 0
  | d :: r => uptoBulk d + uptoBulkAll r
def uptoBulkEntries {H : Type} : List (Lit × DataW H) → Nat
  | [] => 0
  | x :: r => uptoBulkEntry x + uptoBulkEntries r
def uptoBulkEntry {H : Type} : Lit × DataW H → Nat
  | (.string bytes, d) => bytes.length + uptoBulk d + 1
  | (_, d) => uptoBulk d + 1
 end
def uptoSmall : (H : Type) → List (DataW H) → Bool := fun _ ds => decide (uptoBulkAll ds ≤ 1048576)
def OpenSpec.upto (s : _root_.Go.ChangeSpec) : _root_.Go.OpenSpec := { _root_.Go.OpenSpec.ofChange s with cond := some uptoSmall }

/-- 'lodestarlaw19.BetweenShorter', WHERE WHAT IT READS IS OF BULK AT MOST 1048576: true; the input reads as it did. -/
def betweenShorterUptoRow : OpenClaim := { program := "ytiikagabdiphkaagreat", sum := "14fdf008fdddc6fb4a9e8a9c5646b8ba707751630b83c1f4cbffc2f43ef14fa8", func := "lodestar/lodestarlaw19.BetweenShorter", spec := "betweenShorter", unfollowed := true, recurses := true, plainKeys := false, apart := false, narrowed := true }
def BetweenShorterUptoSaid : Prop := betweenShorterUptoRow.holds Tryz.pinned (OpenSpec.upto betweenShorterSpec)

/-- 'lodestarlaw19.BetweenBorders', WHERE WHAT IT READS IS OF BULK AT MOST 1048576: true; the input reads as it did. -/
def betweenBordersUptoRow : OpenClaim := { program := "ytiikagabdiphkaagreat", sum := "14fdf008fdddc6fb4a9e8a9c5646b8ba707751630b83c1f4cbffc2f43ef14fa8", func := "lodestar/lodestarlaw19.BetweenBorders", spec := "betweenBorders", unfollowed := true, recurses := true, plainKeys := false, apart := false, narrowed := true }
def BetweenBordersUptoSaid : Prop := betweenBordersUptoRow.holds Tryz.pinned (OpenSpec.upto betweenBordersSpec)

/-- 'lodestarlaw19.BetweenOwn', WHERE WHAT IT READS IS OF BULK AT MOST 1048576: true; the input reads as it did. -/
def betweenOwnUptoRow : OpenClaim := { program := "ytiikagabdiphkaagreat", sum := "14fdf008fdddc6fb4a9e8a9c5646b8ba707751630b83c1f4cbffc2f43ef14fa8", func := "lodestar/lodestarlaw19.BetweenOwn", spec := "betweenOwn", unfollowed := true, recurses := true, plainKeys := false, apart := false, narrowed := true }
def BetweenOwnUptoSaid : Prop := betweenOwnUptoRow.holds Tryz.pinned (OpenSpec.upto betweenOwnSpec)

/-- 'lodestarlaw16.GraphBuilds', WHERE WHAT IT READS IS OF BULK AT MOST 1048576: true; the input reads as it did. -/
def graphBuildsUptoRow : OpenClaim := { program := "ytiikagabdiphkaagreat", sum := "14fdf008fdddc6fb4a9e8a9c5646b8ba707751630b83c1f4cbffc2f43ef14fa8", func := "lodestar/lodestarlaw16.GraphBuilds", spec := "graphBuilds", unfollowed := true, recurses := true, plainKeys := false, apart := false, narrowed := true }
def GraphBuildsUptoSaid : Prop := graphBuildsUptoRow.holds Tryz.pinned (OpenSpec.upto graphBuildsSpec)

/-- 'lodestarlaw16.GraphPairs', WHERE WHAT IT READS IS OF BULK AT MOST 1048576: true; the input reads as it did. -/
def graphPairsUptoRow : OpenClaim := { program := "ytiikagabdiphkaagreat", sum := "14fdf008fdddc6fb4a9e8a9c5646b8ba707751630b83c1f4cbffc2f43ef14fa8", func := "lodestar/lodestarlaw16.GraphPairs", spec := "graphPairs", unfollowed := true, recurses := true, plainKeys := false, apart := false, narrowed := true }
def GraphPairsUptoSaid : Prop := graphPairsUptoRow.holds Tryz.pinned (OpenSpec.upto graphPairsSpec)

/-- 'lodestarlaw16.GraphOrder', WHERE WHAT IT READS IS OF BULK AT MOST 1048576: true; the input reads as it did. -/
def graphOrderUptoRow : OpenClaim := { program := "ytiikagabdiphkaagreat", sum := "14fdf008fdddc6fb4a9e8a9c5646b8ba707751630b83c1f4cbffc2f43ef14fa8", func := "lodestar/lodestarlaw16.GraphOrder", spec := "graphOrder", unfollowed := true, recurses := true, plainKeys := false, apart := false, narrowed := true }
def GraphOrderUptoSaid : Prop := graphOrderUptoRow.holds Tryz.pinned (OpenSpec.upto graphOrderSpec)

/-- 'lodestarlaw16.GraphOld', WHERE WHAT IT READS IS OF BULK AT MOST 1048576: true; the input reads as it did. -/
def graphOldUptoRow : OpenClaim := { program := "ytiikagabdiphkaagreat", sum := "14fdf008fdddc6fb4a9e8a9c5646b8ba707751630b83c1f4cbffc2f43ef14fa8", func := "lodestar/lodestarlaw16.GraphOld", spec := "graphOld", unfollowed := true, recurses := true, plainKeys := false, apart := false, narrowed := true }
def GraphOldUptoSaid : Prop := graphOldUptoRow.holds Tryz.pinned (OpenSpec.upto graphOldSpec)

/-- 'lodestarlaw20.OuterBetter', WHERE WHAT IT READS IS OF BULK AT MOST 1048576: true; the input reads as it did. -/
def outerBetterUptoRow : OpenClaim := { program := "ytiikagabdiphkaagreat", sum := "14fdf008fdddc6fb4a9e8a9c5646b8ba707751630b83c1f4cbffc2f43ef14fa8", func := "lodestar/lodestarlaw20.OuterBetter", spec := "outerBetter", unfollowed := true, recurses := true, plainKeys := false, apart := false, narrowed := true }
def OuterBetterUptoSaid : Prop := outerBetterUptoRow.holds Tryz.pinned (OpenSpec.upto outerBetterSpec)

/-- 'lodestarlaw20.OuterMerges', WHERE WHAT IT READS IS OF BULK AT MOST 1048576: true; the input reads as it did. -/
def outerMergesUptoRow : OpenClaim := { program := "ytiikagabdiphkaagreat", sum := "14fdf008fdddc6fb4a9e8a9c5646b8ba707751630b83c1f4cbffc2f43ef14fa8", func := "lodestar/lodestarlaw20.OuterMerges", spec := "outerMerges", unfollowed := true, recurses := true, plainKeys := false, apart := false, narrowed := true }
def OuterMergesUptoSaid : Prop := outerMergesUptoRow.holds Tryz.pinned (OpenSpec.upto outerMergesSpec)

/-- 'lodestarlaw20.OuterBest', WHERE WHAT IT READS IS OF BULK AT MOST 1048576: true; the input reads as it did. -/
def outerBestUptoRow : OpenClaim := { program := "ytiikagabdiphkaagreat", sum := "14fdf008fdddc6fb4a9e8a9c5646b8ba707751630b83c1f4cbffc2f43ef14fa8", func := "lodestar/lodestarlaw20.OuterBest", spec := "outerBest", unfollowed := true, recurses := true, plainKeys := false, apart := false, narrowed := true }
def OuterBestUptoSaid : Prop := outerBestUptoRow.holds Tryz.pinned (OpenSpec.upto outerBestSpec)

/-- 'lodestarlaw20.OuterNear', WHERE WHAT IT READS IS OF BULK AT MOST 1048576: true; the input reads as it did. -/
def outerNearUptoRow : OpenClaim := { program := "ytiikagabdiphkaagreat", sum := "14fdf008fdddc6fb4a9e8a9c5646b8ba707751630b83c1f4cbffc2f43ef14fa8", func := "lodestar/lodestarlaw20.OuterNear", spec := "outerNear", unfollowed := true, recurses := true, plainKeys := false, apart := false, narrowed := true }
def OuterNearUptoSaid : Prop := outerNearUptoRow.holds Tryz.pinned (OpenSpec.upto outerNearSpec)

end Rows
end Go.Proofs.YtiikagabdiphkaaGreat
