/- What layer 19's arguments hold, as plain lists. No condition. -/
import Derived.Test.YtiikagabdiphkaaGreatOnBU
import Derived.Test.YtiikagabdiphkaaGreatOnBH
namespace Go.Proofs.YtiikagabdiphkaaGreat
open Go.RowKit Go.Lo
theorem flat_u8 (l:List Int):l.flatMap u8Cells=l.map u8c:=by
 induction l with
 | nil=>rfl
 | cons x r ih =>
  rw[List.flatMap_cons,ih]
  rfl
theorem states_of {W:World} {m:Nat} {sv:Value} {ls:List StV} (hsl:Sl W W.heap.size 9 sv ls.length (ls.flatMap stL)) (h:∀ x∈ls,StateIs W m x) (hm:m≤2000000):∃ S,StatesIn W W.heap.size sv S ls∧ArgS S:=by
 obtain ⟨f,hf⟩:=Classical.axiomOfChoice (r:=fun (x:StV) (body:List Int)=>x∈ls→HeadOk x.h∧x.len=body.length∧Sl W W.heap.size 1 (.slice x.A x.len x.cap) body.length (body.map u8c)∧(∀ b∈body,0≤b∧b<256)∧body.length≤m) (fun x=>by
  by_cases hx:x∈ls
  ·obtain ⟨h1,body,h2,h3,h4,h5⟩:=h x hx
   rw[flat_u8] at h3
   exact ⟨body,fun _=>⟨h1,h2,h3,fun b hb=>by have:=h4 b hb;omega,h5⟩⟩
  ·exact ⟨[],fun hx'=>absurd hx' hx⟩)
 refine ⟨ls.map fun x=>(x.h,f x),⟨hsl,by simp,fun k hk hk2 => ?_⟩,fun s hs => ?_⟩
 ·have:=hf ls[k] (List.getElem_mem hk)
  simp only[List.getElem_map]
  exact this.2.2.1
 ·obtain ⟨x,hx,rfl⟩:=List.mem_map.1 hs
  obtain ⟨h1,-,-,h4,h5⟩:=hf x hx
  exact ⟨h1,by show (f x).length≤_;omega,h4⟩
theorem ways_of {W:World} {m:Nat} {lv:Value} {lw:List WayV} (hsl:Sl W W.heap.size 10 lv lw.length (lw.flatMap wayL)) (h:∀ x∈lw,WayIs W m x) (hm:m≤2000000):∃ R,WaysIn W W.heap.size lv R lw∧ArgR R∧∀ g∈R,InK (keyG g.1):=by
 obtain ⟨f,hf⟩:=Classical.axiomOfChoice (r:=fun (x:WayV) (hops:List Hop)=>x∈lw→((0≤x.n.bits∧x.n.bits<256)∧((0≤x.n.addr∧x.n.addr≤4294967295)∧0≤x.n.router∧x.n.router≤4294967295)∧(0≤x.n.cost∧x.n.cost≤4294967295))∧Sl W W.heap.size 3 (.slice x.A x.len x.cap) hops.length (hops.flatMap hopCells)∧hops.length≤m) (fun x=>by
  by_cases hx:x∈lw
  ·obtain ⟨h1,h2,h3,hops,h4,h5,h6⟩:=h x hx
   exact ⟨hops,fun _=>⟨⟨h1,h2,h3⟩,h5,h6⟩⟩
  ·exact ⟨[],fun hx'=>absurd hx' hx⟩)
 refine ⟨lw.map fun x=>(x.n,f x),⟨hsl,by simp,fun k hk hk2 => ?_⟩,fun s hs => ?_,fun s hs => ?_⟩
 ·have:=hf lw[k] (List.getElem_mem hk)
  simp only[List.getElem_map]
  exact this.2.1
 ·obtain ⟨x,hx,rfl⟩:=List.mem_map.1 hs
  obtain ⟨⟨h1,h2,h3⟩,-,h5⟩:=hf x hx
  exact ⟨⟨h3.1,by show x.n.cost<_;omega⟩,h1,by show (f x).length≤_;omega⟩
 ·obtain ⟨x,hx,rfl⟩:=List.mem_map.1 hs
  obtain ⟨⟨h1,h2,-⟩,-,-⟩:=hf x hx
  exact ⟨⟨h2.1.1,by show x.n.addr<_;omega⟩,h1,⟨h2.2.1,by show x.n.router<_;omega⟩⟩
end Go.Proofs.YtiikagabdiphkaaGreat
set_option maxRecDepth 100000
namespace Go.Proofs.YtiikagabdiphkaaGreat
open Go.RowKit Go.Lo Go.ChangeShapes Go.WideShapes Go.Deep
section
variable {H:Type} {enc:TypeId × Value→H} {W:World} {spare:Nat→Bool} {held:Bool}
theorem case20_arg {base:Nat} {v:Value} {d:DataW H} {p:List MemPlace} (hok:Value.okWide Tryz.prog W .any base 89 v) (h:DataW.Trod enc Tryz.prog W 0 spare held 89 v d p) :
  ∃ (sv lv:Value) (nA:Option Addr) (nl nc:Nat) (self:Int) (nssa:Bool) (ls:List StV) (lw:List WayV),v=.agg #[sv,.int .u32 self,.bool nssa,lv,.slice nA nl nc]∧(0≤self∧self≤4294967295)∧Sl W W.heap.size 9 sv ls.length (ls.flatMap stL)∧ls.length≤Rows.uptoBulk d∧(∀ x∈ls,StateIs W (Rows.uptoBulk d) x) ∧
   Sl W W.heap.size 10 lv lw.length (lw.flatMap wayL)∧lw.length≤Rows.uptoBulk d∧∀ x∈lw,WayIs W (Rows.uptoBulk d) x:=by
 obtain ⟨cs,rfl,_⟩:=okWide_struct Tryz.underlying89 hok
 obtain ⟨fuel,hf0⟩:=h
 have hf1:DataW.trod enc Tryz.prog W 0 spare held fuel 89 cs.toList=some (d,p):=hf0
 obtain ⟨hlen,ys,n',hd,hf⟩:=struct_cells Tryz.underlying89 (by kernel_rfl) (by kernel_rfl) hf1
 have hlen':cs.toList.length=5:=hlen
 obtain ⟨cl,rfl⟩:∃ cl,cs=List.toArray cl:=⟨cs.toList,by simp⟩
 simp only at hlen'
 match cl,hlen' with
 | [c0,c1,c2,c3,c4],_ =>
  obtain ⟨v0,y0,e0,hy0,t0⟩:=hf 0 _ rfl
  obtain ⟨v1,y1,e1,hy1,t1⟩:=hf 1 _ rfl
  obtain ⟨v2,y2,e2,hy2,t2⟩:=hf 2 _ rfl
  obtain ⟨v3,y3,e3,hy3,t3⟩:=hf 3 _ rfl
  obtain ⟨v4,y4,e4,hy4,t4⟩:=hf 4 _ rfl
  obtain ⟨n1,k1,_,w1⟩:=DataW.trod_int Tryz.underlying24 t1
  obtain ⟨n2,k2,_⟩:=DataW.trod_bool Tryz.underlying4 t2
  simp only[List.cons.injEq,and_true] at k1 k2
  simp only[q'z,q's,Option.some.injEq] at e0 e1 e2 e3 e4
  subst k1 k2 e0 e1 e2 e3 e4
  obtain ⟨ls,a1,a2,a3⟩:=states_arg t0
  obtain ⟨lw,b1,b2,b3⟩:=ways_arg t3
  obtain ⟨ln,n1',-,-⟩:=ways_arg t4
  obtain ⟨-,nA,nc,rfl,-⟩:=id n1'
  have hbd:∀ y∈ys,Rows.uptoBulk y.1≤Rows.uptoBulk d:=fun y hy=>by
   have h2:=bulk_part (d:=y.1) (parts:=ys.map (·.1)) (List.mem_map.2 ⟨y,hy,rfl⟩)
   rw[show d=DataW.agg (ys.map (·.1)) from hd]
   simp only[Rows.uptoBulk]
   omega
  have m0:=hbd y0 (List.mem_of_getElem? hy0)
  have m3:=hbd y3 (List.mem_of_getElem? hy3)
  refine ⟨c0,c3,nA,ln.length,nc,n1,n2,ls,lw,rfl,u32_range w1,a1,by omega,fun x hx => ?_,b1,by omega,fun x hx => ?_⟩
  ·obtain ⟨z1,body,z2,z3,z4,z5⟩:=a3 x hx
   exact ⟨z1,body,z2,z3,z4,by omega⟩
  ·obtain ⟨z1,z2,z3,hops,z4,z5,z6⟩:=b3 x hx
   exact ⟨z1,z2,z3,hops,z4,z5,by omega⟩
theorem u16_arg {base:Nat} {v:Value} {d:DataW H} {p:List MemPlace} (hok:Value.okWide Tryz.prog W .any base 49 v) (h:DataW.Trod enc Tryz.prog W 0 spare held 49 v d p):∃ n:Int,v=.int .u16 n∧0≤n∧n<65536:=by
 obtain ⟨m,rfl⟩:=okWide_int Tryz.underlying49 hok
 obtain ⟨fuel,hf0⟩:=h
 have hf1:DataW.trod enc Tryz.prog W 0 spare held fuel 49 [.int .u16 m]=some (d,p):=hf0
 obtain ⟨n,k,_,w⟩:=DataW.trod_int Tryz.underlying49 hf1
 simp only[List.cons.injEq,and_true] at k
 rw[k]
 have hw:0≤n∧n≤65535:=by simpa[Lit.wf,IntKind.min,IntKind.max,IntKind.signed,IntKind.bits] using w
 exact ⟨n,rfl,hw.1,by omega⟩
end
end Go.Proofs.YtiikagabdiphkaaGreat
