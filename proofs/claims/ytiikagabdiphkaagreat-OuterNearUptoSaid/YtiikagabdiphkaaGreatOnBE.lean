/- The ways of the law for the program. -/
import Derived.Test.YtiikagabdiphkaaGreatOnBC
import Derived.Test.YtiikagabdiphkaaGreatOnAO
namespace Go.Proofs.YtiikagabdiphkaaGreat
open Go.RowKit Go.Lo
theorem ImpR.ways {w0 wr:World} {xs:List WayY} {v:Value} (h:ImpR w0 xs v wr):WaysIn wr wr.heap.size v (gOf xs) (xs.map (·.1)):=by
 have h1:=Sl.of_own h.own
 refine ⟨?_,?_,fun k hk hk2 => ?_⟩
 ·rw[List.length_map,List.flatMap_map]
  exact h1
 ·simp[gOf]
 ·simp only[List.getElem_map,gOf]
  exact Sl.of_own (h.hops _ (List.getElem_mem (by simpa using hk)))
end Go.Proofs.YtiikagabdiphkaaGreat
