/- A fact put out of sight: a structure, so that no tactic that brings a hypothesis to its head form looks into it. No condition. -/
import Derived.Test.YtcknpofnpabkiaaGreatGzAA
namespace Go.Lo
structure Veil (p:Prop):Prop where
 out:p
end Go.Lo
