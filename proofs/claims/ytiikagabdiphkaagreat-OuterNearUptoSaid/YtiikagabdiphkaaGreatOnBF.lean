/- The known run of layer 19. -/
import Derived.Test.YtiikagabdiphkaaGreatOnBC
import Derived.Test.YtiikagabdiphkaaGreatOnAL
namespace Go.Proofs.YtiikagabdiphkaaGreat
open Go.RowKit Go.Lo
end Go.Proofs.YtiikagabdiphkaaGreat
namespace Go.Proofs.YtiikagabdiphkaaGreat
open Go.RowKit Go.Lo
theorem WaysIn.more {w:World} {B B':Nat} {lv:Value} {R:List WayG} {l:List WayV} (h:WaysIn w B lv R l) (hB:B≤B'):WaysIn w B' lv R l:=⟨h.sl.more hB,h.map,fun k h1 h2=>(h.hops k h1 h2).more hB⟩
end Go.Proofs.YtiikagabdiphkaaGreat
