/- Edges are two by two: in plain words. No walk stands here. -/
import Derived.Test.YtcknpofnpabkiaaGreatGzAR
namespace Go.Proofs.YtcknpofnpabkiaaGreat
open Go.RowKit Go.Lo
theorem bodyOf_get {L:List StG} {i:Nat} (hi:i<L.length):bodyOf L i=bodyG L[i]:=by
 unfold bodyOf
 rw[List.getElem?_eq_getElem hi]
end Go.Proofs.YtcknpofnpabkiaaGreat
