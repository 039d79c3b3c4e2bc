/-
  No cell of these rows narrows 'for every input' (looked for: loops, veiled, ifaces, maps, wideKeys, modest, calm, conditions, laid).
  DERIVED. THE GIVEN ROWS OF THIS SEAT. 7 by the template 'for every input the law returns true; each argument reads behind the call as it read before'; 0 by the template 'total and deterministic' (their statements: YtdilbcmnfpmijaaTotals.lean).
  GIVEN WITH THE SEED: the statements are not yours to turn. If you find one false, say at which input.
  Laid BY PROGRAM, IN A SANDBOX (cutbox-rows.mjs): the forced cells as the released guide's own fill.sh prints them over the translation b5b29cf108d57624… (all of the seat's roots in one cut). By AI agents, Wed Nov 11 2026. No macro, syntax, notation, axiom, sorry.
-/
import Derived.Test.YtdilbcmnfpmijaaChecked
import GoSem.Claim
import GoSem.ClaimJoined
import GoSem.ClaimMapViews
import Derived.JoinedTies
import Derived.KernelRfl
namespace Go.Proofs.Ytdilbcmnfpmijaa
/- THE CELL 'sum', in the pinned program and in every row, IS THE sha256 OF THE DUMP (.gsa) THAT YtdilbcmnfpmijaaProg.lean LOADS. Nothing in Lean hashes anything: it is a label: what it is worth is what the hold of that sum in a sandbox is worth. -/
noncomputable def Try.pinned : Pinned := { name := "ytdilbcmnfpmijaa", sum := "b5b29cf108d57624033d7241b0617cb8b8628db0f000b5df82345f3f0e3a5daf", checked := Try.checked }
namespace Rows
def none {H : Type} : Left H := { results := [], args := [] }

/-- 'lodestarlaw22.OriginMost': WHATEVER THE INPUT: true; the input reads as it did. -/
def originMostSpec : ChangeSpec := { name := "originMost", fn := fun _ => fun
  | [d] => { results := [.lit (.bool true)], args := [d] }
  | _ => none }
def originMostRow : OpenClaim := { program := "ytdilbcmnfpmijaa", sum := "b5b29cf108d57624033d7241b0617cb8b8628db0f000b5df82345f3f0e3a5daf", func := "lodestar/lodestarlaw22.OriginMost", spec := "originMost", unfollowed := true, recurses := true, plainKeys := false, apart := false }
def OriginMostSaid : Prop := originMostRow.holds Try.pinned (OpenSpec.ofChange originMostSpec)

/-- ITS FALSE NEIGHBOUR: 'it returns false'. Refute it at one input. -/
def originMostWrong : ChangeSpec := { name := "originMost", fn := fun _ => fun
  | [d] => { results := [.lit (.bool false)], args := [d] }
  | _ => none }
def OriginMostWrongFalsely : Prop := originMostRow.holds Try.pinned (OpenSpec.ofChange originMostWrong)

/-- 'lodestarlaw17.TreeLeast': WHATEVER THE INPUT: true; the input reads as it did. -/
def treeLeastSpec : ChangeSpec := { name := "treeLeast", fn := fun _ => fun
  | [d1, d2] => { results := [.lit (.bool true)], args := [d1, d2] }
  | _ => none }
def treeLeastRow : OpenClaim := { program := "ytdilbcmnfpmijaa", sum := "b5b29cf108d57624033d7241b0617cb8b8628db0f000b5df82345f3f0e3a5daf", func := "lodestar/lodestarlaw17.TreeLeast", spec := "treeLeast", unfollowed := true, recurses := true, plainKeys := false, apart := false }
def TreeLeastSaid : Prop := treeLeastRow.holds Try.pinned (OpenSpec.ofChange treeLeastSpec)

/-- ITS FALSE NEIGHBOUR: 'it returns false'. Refute it at one input. -/
def treeLeastWrong : ChangeSpec := { name := "treeLeast", fn := fun _ => fun
  | [d1, d2] => { results := [.lit (.bool false)], args := [d1, d2] }
  | _ => none }
def TreeLeastWrongFalsely : Prop := treeLeastRow.holds Try.pinned (OpenSpec.ofChange treeLeastWrong)

/-- 'lodestarlaw17.TreeSteps': WHATEVER THE INPUT: true; the input reads as it did. -/
def treeStepsSpec : ChangeSpec := { name := "treeSteps", fn := fun _ => fun
  | [d1, d2] => { results := [.lit (.bool true)], args := [d1, d2] }
  | _ => none }
def treeStepsRow : OpenClaim := { program := "ytdilbcmnfpmijaa", sum := "b5b29cf108d57624033d7241b0617cb8b8628db0f000b5df82345f3f0e3a5daf", func := "lodestar/lodestarlaw17.TreeSteps", spec := "treeSteps", unfollowed := true, recurses := true, plainKeys := false, apart := false }
def TreeStepsSaid : Prop := treeStepsRow.holds Try.pinned (OpenSpec.ofChange treeStepsSpec)

/-- ITS FALSE NEIGHBOUR: 'it returns false'. Refute it at one input. -/
def treeStepsWrong : ChangeSpec := { name := "treeSteps", fn := fun _ => fun
  | [d1, d2] => { results := [.lit (.bool false)], args := [d1, d2] }
  | _ => none }
def TreeStepsWrongFalsely : Prop := treeStepsRow.holds Try.pinned (OpenSpec.ofChange treeStepsWrong)

/-- 'lodestarlaw17.TreeJoins': WHATEVER THE INPUT: true; the input reads as it did. -/
def treeJoinsSpec : ChangeSpec := { name := "treeJoins", fn := fun _ => fun
  | [d1, d2] => { results := [.lit (.bool true)], args := [d1, d2] }
  | _ => none }
def treeJoinsRow : OpenClaim := { program := "ytdilbcmnfpmijaa", sum := "b5b29cf108d57624033d7241b0617cb8b8628db0f000b5df82345f3f0e3a5daf", func := "lodestar/lodestarlaw17.TreeJoins", spec := "treeJoins", unfollowed := true, recurses := true, plainKeys := false, apart := false }
def TreeJoinsSaid : Prop := treeJoinsRow.holds Try.pinned (OpenSpec.ofChange treeJoinsSpec)

/-- ITS FALSE NEIGHBOUR: 'it returns false'. Refute it at one input. -/
def treeJoinsWrong : ChangeSpec := { name := "treeJoins", fn := fun _ => fun
  | [d1, d2] => { results := [.lit (.bool false)], args := [d1, d2] }
  | _ => none }
def TreeJoinsWrongFalsely : Prop := treeJoinsRow.holds Try.pinned (OpenSpec.ofChange treeJoinsWrong)

/-- 'lodestarlaw22.OriginDown': WHATEVER THE INPUT: true; the input reads as it did. -/
def originDownSpec : ChangeSpec := { name := "originDown", fn := fun _ => fun
  | [d1, d2] => { results := [.lit (.bool true)], args := [d1, d2] }
  | _ => none }
def originDownRow : OpenClaim := { program := "ytdilbcmnfpmijaa", sum := "b5b29cf108d57624033d7241b0617cb8b8628db0f000b5df82345f3f0e3a5daf", func := "lodestar/lodestarlaw22.OriginDown", spec := "originDown", unfollowed := true, recurses := true, plainKeys := false, apart := false }
def OriginDownSaid : Prop := originDownRow.holds Try.pinned (OpenSpec.ofChange originDownSpec)

/-- ITS FALSE NEIGHBOUR: 'it returns false'. Refute it at one input. -/
def originDownWrong : ChangeSpec := { name := "originDown", fn := fun _ => fun
  | [d1, d2] => { results := [.lit (.bool false)], args := [d1, d2] }
  | _ => none }
def OriginDownWrongFalsely : Prop := originDownRow.holds Try.pinned (OpenSpec.ofChange originDownWrong)

/-- 'lodestarlaw22.OriginNetworks': WHATEVER THE INPUT: true; the input reads as it did. -/
def originNetworksSpec : ChangeSpec := { name := "originNetworks", fn := fun _ => fun
  | [d1, d2, d3] => { results := [.lit (.bool true)], args := [d1, d2, d3] }
  | _ => none }
def originNetworksRow : OpenClaim := { program := "ytdilbcmnfpmijaa", sum := "b5b29cf108d57624033d7241b0617cb8b8628db0f000b5df82345f3f0e3a5daf", func := "lodestar/lodestarlaw22.OriginNetworks", spec := "originNetworks", unfollowed := true, recurses := true, plainKeys := false, apart := false }
def OriginNetworksSaid : Prop := originNetworksRow.holds Try.pinned (OpenSpec.ofChange originNetworksSpec)

/-- ITS FALSE NEIGHBOUR: 'it returns false'. Refute it at one input. -/
def originNetworksWrong : ChangeSpec := { name := "originNetworks", fn := fun _ => fun
  | [d1, d2, d3] => { results := [.lit (.bool false)], args := [d1, d2, d3] }
  | _ => none }
def OriginNetworksWrongFalsely : Prop := originNetworksRow.holds Try.pinned (OpenSpec.ofChange originNetworksWrong)

/-- 'lodestarlaw23.BorderOne': WHATEVER THE INPUT: true; the input reads as it did. -/
def borderOneSpec : ChangeSpec := { name := "borderOne", fn := fun _ => fun
  | [d] => { results := [.lit (.bool true)], args := [d] }
  | _ => none }
def borderOneRow : OpenClaim := { program := "ytdilbcmnfpmijaa", sum := "b5b29cf108d57624033d7241b0617cb8b8628db0f000b5df82345f3f0e3a5daf", func := "lodestar/lodestarlaw23.BorderOne", spec := "borderOne", unfollowed := true, recurses := true, plainKeys := false, apart := false }
def BorderOneSaid : Prop := borderOneRow.holds Try.pinned (OpenSpec.ofChange borderOneSpec)

/-- ITS FALSE NEIGHBOUR: 'it returns false'. Refute it at one input. -/
def borderOneWrong : ChangeSpec := { name := "borderOne", fn := fun _ => fun
  | [d] => { results := [.lit (.bool false)], args := [d] }
  | _ => none }
def BorderOneWrongFalsely : Prop := borderOneRow.holds Try.pinned (OpenSpec.ofChange borderOneWrong)

/- THE SECOND FORM. 'bulk': how many values and letters a reading holds, each counted each time it is reached (what is shared counts as often as it is met; a slice's spare places count too). A statement '..UptoSaid' is the law's where the arguments, and the package variables that the reading takes, are together of bulk at most 1048576: NARROWER than '..Said'. Prove '..Said' where nothing that the law and all that it calls make is longer than what came in: it says more and counts as full. Else prove '..UptoSaid'. A law counts once. -/
mutual
def uptoBulk {H : Type} : DataW H → Nat
  | .lit (.string bytes) => bytes.length + 1
  | .lit _ => 1
  | .nil => 1
  | .ptr d => uptoBulk d + 1
  | .slice elems spare => uptoBulkAll elems + uptoBulkAll spare + 1
  | .agg parts => uptoBulkAll parts + 1
  | .iface _ d => uptoBulk d + 1
  | .map entries => uptoBulkEntries entries + 1
  | .held _ => 1
def uptoBulkAll {H : Type} : List (DataW H) → Nat
  | [] => 0
  | d :: r => uptoBulk d + uptoBulkAll r
def uptoBulkEntries {H : Type} : List (Lit × DataW H) → Nat
  | [] => 0
  | x :: r => uptoBulkEntry x + uptoBulkEntries r
def uptoBulkEntry {H : Type} : Lit × DataW H → Nat
  | (.string bytes, d) => bytes.length + uptoBulk d + 1
  | (_, d) => uptoBulk d + 1
 end
def uptoSmall : (H : Type) → List (DataW H) → Bool := fun _ ds => decide (uptoBulkAll ds ≤ 1048576)
def OpenSpec.upto (s : _root_.Go.ChangeSpec) : _root_.Go.OpenSpec := { _root_.Go.OpenSpec.ofChange s with cond := some uptoSmall }

/-- 'lodestarlaw22.OriginMost', WHERE WHAT IT READS IS OF BULK AT MOST 1048576: true; the input reads as it did. -/
def originMostUptoRow : OpenClaim := { program := "ytdilbcmnfpmijaa", sum := "b5b29cf108d57624033d7241b0617cb8b8628db0f000b5df82345f3f0e3a5daf", func := "lodestar/lodestarlaw22.OriginMost", spec := "originMost", unfollowed := true, recurses := true, plainKeys := false, apart := false, narrowed := true }
def OriginMostUptoSaid : Prop := originMostUptoRow.holds Try.pinned (OpenSpec.upto originMostSpec)

/-- 'lodestarlaw17.TreeLeast', WHERE WHAT IT READS IS OF BULK AT MOST 1048576: true; the input reads as it did. -/
def treeLeastUptoRow : OpenClaim := { program := "ytdilbcmnfpmijaa", sum := "b5b29cf108d57624033d7241b0617cb8b8628db0f000b5df82345f3f0e3a5daf", func := "lodestar/lodestarlaw17.TreeLeast", spec := "treeLeast", unfollowed := true, recurses := true, plainKeys := false, apart := false, narrowed := true }
def TreeLeastUptoSaid : Prop := treeLeastUptoRow.holds Try.pinned (OpenSpec.upto treeLeastSpec)

/-- 'lodestarlaw17.TreeSteps', WHERE WHAT IT READS IS OF BULK AT MOST 1048576: true; the input reads as it did. -/
def treeStepsUptoRow : OpenClaim := { program := "ytdilbcmnfpmijaa", sum := "b5b29cf108d57624033d7241b0617cb8b8628db0f000b5df82345f3f0e3a5daf", func := "lodestar/lodestarlaw17.TreeSteps", spec := "treeSteps", unfollowed := true, recurses := true, plainKeys := false, apart := false, narrowed := true }
def TreeStepsUptoSaid : Prop := treeStepsUptoRow.holds Try.pinned (OpenSpec.upto treeStepsSpec)

/-- 'lodestarlaw17.TreeJoins', WHERE WHAT IT READS IS OF BULK AT MOST 1048576: true; the input reads as it did. -/
def treeJoinsUptoRow : OpenClaim := { program := "ytdilbcmnfpmijaa", sum := "b5b29cf108d57624033d7241b0617cb8b8628db0f000b5df82345f3f0e3a5daf", func := "lodestar/lodestarlaw17.TreeJoins", spec := "treeJoins", unfollowed := true, recurses := true, plainKeys := false, apart := false, narrowed := true }
def TreeJoinsUptoSaid : Prop := treeJoinsUptoRow.holds Try.pinned (OpenSpec.upto treeJoinsSpec)

/-- 'lodestarlaw22.OriginDown', WHERE WHAT IT READS IS OF BULK AT MOST 1048576: true; the input reads as it did. -/
def originDownUptoRow : OpenClaim := { program := "ytdilbcmnfpmijaa", sum := "b5b29cf108d57624033d7241b0617cb8b8628db0f000b5df82345f3f0e3a5daf", func := "lodestar/lodestarlaw22.OriginDown", spec := "originDown", unfollowed := true, recurses := true, plainKeys := false, apart := false, narrowed := true }
def OriginDownUptoSaid : Prop := originDownUptoRow.holds Try.pinned (OpenSpec.upto originDownSpec)

/-- 'lodestarlaw22.OriginNetworks', WHERE WHAT IT READS IS OF BULK AT MOST 1048576: true; the input reads as it did. -/
def originNetworksUptoRow : OpenClaim := { program := "ytdilbcmnfpmijaa", sum := "b5b29cf108d57624033d7241b0617cb8b8628db0f000b5df82345f3f0e3a5daf", func := "lodestar/lodestarlaw22.OriginNetworks", spec := "originNetworks", unfollowed := true, recurses := true, plainKeys := false, apart := false, narrowed := true }
def OriginNetworksUptoSaid : Prop := originNetworksUptoRow.holds Try.pinned (OpenSpec.upto originNetworksSpec)

/-- 'lodestarlaw23.BorderOne', WHERE WHAT IT READS IS OF BULK AT MOST 1048576: true; the input reads as it did. -/
def borderOneUptoRow : OpenClaim := { program := "ytdilbcmnfpmijaa", sum := "b5b29cf108d57624033d7241b0617cb8b8628db0f000b5df82345f3f0e3a5daf", func := "lodestar/lodestarlaw23.BorderOne", spec := "borderOne", unfollowed := true, recurses := true, plainKeys := false, apart := false, narrowed := true }
def BorderOneUptoSaid : Prop := borderOneUptoRow.holds Try.pinned (OpenSpec.upto borderOneSpec)

end Rows
end Go.Proofs.Ytdilbcmnfpmijaa
