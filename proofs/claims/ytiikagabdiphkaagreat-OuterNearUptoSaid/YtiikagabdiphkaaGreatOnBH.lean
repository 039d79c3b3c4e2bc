/- What layer 19's laws share: what is known of their arguments, the guard; the router's own states lead nowhere. No walk stands here. -/
import Derived.Test.YtiikagabdiphkaaGreatOnBF
import Derived.Test.YtiikagabdiphkaaGreatOnBE
import Derived.Test.YtiikagabdiphkaaGreatOnBG
import Derived.Test.YtiikagabdiphkaaGreatOnAA
namespace Go.Proofs.YtiikagabdiphkaaGreat
open Go.RowKit Go.Lo
def ArgS (S:List StG):Prop:=∀ s∈S,HeadOk s.1∧s.2.length≤2000000∧∀ b∈s.2,0≤b∧b<256
def ArgR (R:List WayG):Prop:=∀ r∈R,(0≤r.1.cost∧r.1.cost<4294967296)∧(0≤r.1.bits∧r.1.bits<256)∧r.2.length≤2000000
theorem StatesIn.more {w:World} {B B':Nat} {sv:Value} {S:List StG} {l:List StV} (h:StatesIn w B sv S l) (hB:B≤B'):StatesIn w B' sv S l:=⟨h.sl.more hB,h.map,fun k h1 h2=>(h.bodies k h1 h2).more hB⟩
theorem StatesIn.lens {w:World} {B:Nat} {sv:Value} {S:List StG} {l:List StV} (h:StatesIn w B sv S l) {m:Nat} (hm:∀ s∈S,s.2.length≤m):∀ x∈l,x.len≤m:=fun x hx=>by
 obtain ⟨k,hk,rfl⟩:=List.mem_iff_getElem.1 hx
 have hk2:k<S.length:=by rw[←h.len];exact hk
 rw[sl_len (h.bodies k hk hk2)]
 exact hm _ (List.getElem_mem hk2)
theorem WaysIn.bigs {w:World} {B:Nat} {lv:Value} {R:List WayG} {l:List WayV} (h:WaysIn w B lv R l) (hR:ArgR R):∀ x∈l,(0≤x.n.bits∧x.n.bits<256)∧∃ hops:List Hop,hops.length≤2000000∧Sl w B 3 (.slice x.A x.len x.cap) hops.length (hops.flatMap hopCells):=fun x hx=>by
 obtain ⟨k,hk,rfl⟩:=List.mem_iff_getElem.1 hx
 have hk2:k<R.length:=by rw[←h.len];exact hk
 have h1:=hR _ (List.getElem_mem hk2)
 rw[h.n k hk hk2]
 exact ⟨h1.2.1,R[k].2,h1.2.2,h.hops k hk hk2⟩
def GuardR (ls:List StV) (lw:List WayV) (w0:World) (v:Value) (wx:World):Prop:=∃ q:Bool,v=.bool q∧(q=false→(ls.length≤60∧∀ x∈ls,x.len≤8192)∧lw.length≤60∧∀ x∈lw,x.len≤400)∧Below w0.heap.size w0 wx
end Go.Proofs.YtiikagabdiphkaaGreat
