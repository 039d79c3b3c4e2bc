/- Where summaries lead, one by one. -/
import Derived.RangeFuncBox
import Derived.Shelf.Abstract
import Derived.Shelf.RegionOpen
import Derived.OwnWalkIn
import Derived.TacticsInMore
import Derived.LoopNIn
import Derived.LoopIn
import Derived.Sort.CutIn
import Derived.RangeFuncNested
import Derived.RangeFuncBound
import Derived.RangeFuncCalls
import Derived.RangeFuncLeaves
import Derived.Test.YtiikagabdiphkaaGreatOnAX
import Derived.Test.YtiikagabdiphkaaGreatOnAW
import Derived.Test.YtiikagabdiphkaaGreatOnAA
namespace Go.Proofs.YtiikagabdiphkaaGreat
open Go.RowKit Go.Lo
attribute [local go_sem] Oper.semAt_some
abbrev WayY:=WayV × List Hop
def HopsAt (x:WayY) (W:World):Prop:=Sl W W.heap.size 3 (.slice x.1.A x.1.len x.1.cap) x.2.length (x.2.flatMap hopCells)
def gOf (ys:List WayY):List WayG:=ys.map fun x=>(x.1.n,x.2)
end Go.Proofs.YtiikagabdiphkaaGreat
