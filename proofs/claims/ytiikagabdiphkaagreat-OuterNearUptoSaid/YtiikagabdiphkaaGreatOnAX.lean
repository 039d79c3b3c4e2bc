/- Where a summary leads. -/
import Derived.Test.YtiikagabdiphkaaGreatOnAV
import Derived.Test.YtiikagabdiphkaaGreatOnAW
import Derived.Test.YtiikagabdiphkaaGreatOnAG
import Derived.Test.YtiikagabdiphkaaGreatOnAQ
namespace Go.Proofs.YtiikagabdiphkaaGreat
open Go.RowKit Go.Lo
abbrev WayG:=WayN × List Hop
structure WaysIn (w:World) (B:Nat) (lv:Value) (R:List WayG) (l:List WayV):Prop where
 sl:Sl w B 10 lv l.length (l.flatMap wayL)
 map:l.map (·.n)=R.map (·.1)
 hops:∀ k (h:k<l.length) (h2:k<R.length),Sl w B 3 (.slice l[k].A l[k].len l[k].cap) R[k].2.length (R[k].2.flatMap hopCells)
theorem WaysIn.len {w:World} {B:Nat} {lv:Value} {R:List WayG} {l:List WayV} (h:WaysIn w B lv R l):l.length=R.length:=by
 have:=congrArg List.length h.map
 simpa using this
theorem WaysIn.below {w w':World} {B:Nat} {lv:Value} {R:List WayG} {l:List WayV} (h:WaysIn w B lv R l) (hb:Below B w w'):WaysIn w' B lv R l:=⟨h.sl.below hb,h.map,fun k h1 h2=>(h.hops k h1 h2).below hb⟩
theorem WaysIn.n {w:World} {B:Nat} {lv:Value} {R:List WayG} {l:List WayV} (h:WaysIn w B lv R l) (k:Nat) (_h1:k<l.length) (_h2:k<R.length):l[k].n=R[k].1:=by
 have:=congrArg (fun z=>z[k]?) h.map
 simpa[_h1,_h2] using this
theorem own_ne {w:World} {base:Nat} {e:TypeId} {s n:Nat} {v:Value} {xs:List Value} (h:w.ownsRow base e s v n xs) {g:Nat} {t:TypeId} {cs:Array Value} (hb:Blk w g t cs) (hne:t≠e):∀ k,v.ownBlock=some k→k≠g:=by
 intro k hk hc
 subst hc
 rcases h.2 with h' | ⟨g',cap,cur,rfl,_,hh,_⟩
 ·rw[h'.1] at hk
  cases hk
 ·obtain rfl:g'=k:=Option.some.inj hk
  have h4:=hb.symm.trans hh
  simp only[Option.some.injEq,Obj.cells.injEq] at h4
  exact hne h4.2.1
end Go.Proofs.YtiikagabdiphkaaGreat
