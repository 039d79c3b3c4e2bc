/- The arguments are opened: states, ways, a case. -/
import Derived.Test.YtiikagabdiphkaaGreatOnBT
import Derived.Test.YtiikagabdiphkaaGreatOnAW
set_option maxRecDepth 100000
namespace Go.Proofs.YtiikagabdiphkaaGreat
open Go.RowKit Go.Lo Go.ChangeShapes Go.WideShapes Go.Deep
section
variable {H:Type} {enc:TypeId × Value→H} {W:World} {spare:Nat→Bool} {held:Bool}
theorem u16_range {n:Int} (h:(Lit.int .u16 n).wf=true):0≤n∧n≤65535:=by
 simpa[Lit.wf,IntKind.min,IntKind.max,IntKind.signed,IntKind.bits] using h
theorem i32_range {n:Int} (h:(Lit.int .i32 n).wf=true):-2147483648≤n∧n≤2147483647:=by
 simpa[Lit.wf,IntKind.min,IntKind.max,IntKind.signed,IntKind.bits] using h
abbrev u8Cells (x:Int):List Value:=[.int .u8 x]
theorem u8_elem (n:Nat) (cs:List Value) (y:DataW H × List MemPlace) (h:DataW.trod enc Tryz.prog W 0 spare held n 5 cs=some y):∃ x:Int,cs=u8Cells x∧(0≤x∧x≤255):=by
 obtain ⟨x,rfl,_,hw⟩:=DataW.trod_int Tryz.underlying5 h
 exact ⟨x,rfl,u8_range hw⟩
def StateOk (W:World) (x:StV) (d:DataW H):Prop:=
 HeadOk x.h∧∃ body:List Int,x.len=body.length∧Sl W W.heap.size 1 (.slice x.A x.len x.cap) body.length (body.flatMap u8Cells)∧(∀ b∈body,0≤b∧b≤255)∧body.length+1≤Rows.uptoBulk d
theorem state_elem (n:Nat) (cs:List Value) (y:DataW H × List MemPlace) (h:DataW.trod enc Tryz.prog W 0 spare held n 54 cs=some y):∃ x:StV,cs=stL x∧StateOk W x y.1:=by
 obtain ⟨ys,n',_,rfl,hlen,hyl,hf⟩:=DataW.trod_struct Tryz.underlying54 h
 have hlen':cs.length=9:=hlen.trans (by kernel_rfl)
 have hyl':ys.length=2:=hyl
 match cs,hlen',ys,hyl' with
 | [c0,c1,c2,c3,c4,c5,c6,c7,c8],_,[y0,y1],_ =>
  have t0:DataW.trod enc Tryz.prog W 0 spare held n' 51 [c0,c1,c2,c3,c4,c5,c6,c7]=some y0:=by
   have h:=hf 0 _ rfl
   change DataW.trod enc Tryz.prog W 0 spare held n' 51 (([c0,c1,c2,c3,c4,c5,c6,c7,c8].drop 0).take (Tryz.prog.cellsOf 51))=some y0 at h
   rw[show Tryz.prog.cellsOf 51=8 by kernel_rfl] at h
   exact h
  have t1:DataW.trod enc Tryz.prog W 0 spare held n' 52 [c8]=some y1:=by
   have h:=hf 1 _ rfl
   change DataW.trod enc Tryz.prog W 0 spare held n' 52 (([c0,c1,c2,c3,c4,c5,c6,c7,c8].drop 8).take (Tryz.prog.cellsOf 52))=some y1 at h
   rw[show Tryz.prog.cellsOf 52=1 by kernel_rfl] at h
   exact h
  obtain ⟨_,zs,n'',_,hz⟩:=struct_cells Tryz.underlying51 (by kernel_rfl) (by kernel_rfl) t0
  obtain ⟨v0,z0,e0,_,s0⟩:=hz 0 _ rfl
  obtain ⟨v1,z1,e1,_,s1⟩:=hz 1 _ rfl
  obtain ⟨v2,z2,e2,_,s2⟩:=hz 2 _ rfl
  obtain ⟨v3,z3,e3,_,s3⟩:=hz 3 _ rfl
  obtain ⟨v4,z4,e4,_,s4⟩:=hz 4 _ rfl
  obtain ⟨v5,z5,e5,_,s5⟩:=hz 5 _ rfl
  obtain ⟨v6,z6,e6,_,s6⟩:=hz 6 _ rfl
  obtain ⟨v7,z7,e7,_,s7⟩:=hz 7 _ rfl
  obtain ⟨n0,k0,_,w0⟩:=DataW.trod_int Tryz.underlying49 s0
  obtain ⟨n1,k1,_,w1⟩:=DataW.trod_int Tryz.underlying5 s1
  obtain ⟨n2,k2,_,w2⟩:=DataW.trod_int Tryz.underlying5 s2
  obtain ⟨n3,k3,_,w3⟩:=DataW.trod_int Tryz.underlying24 s3
  obtain ⟨n4,k4,_,w4⟩:=DataW.trod_int Tryz.underlying24 s4
  obtain ⟨n5,k5,_,w5⟩:=DataW.trod_int Tryz.underlying21 s5
  obtain ⟨n6,k6,_,w6⟩:=DataW.trod_int Tryz.underlying49 s6
  obtain ⟨n7,k7,_,w7⟩:=DataW.trod_int Tryz.underlying49 s7
  simp only[List.cons.injEq,and_true] at k0 k1 k2 k3 k4 k5 k6 k7
  simp only[q'z,q's,Option.some.injEq] at e0 e1 e2 e3 e4 e5 e6 e7
  subst k0 k1 k2 k3 k4 k5 k6 k7 e0 e1 e2 e3 e4 e5 e6 e7
  have r0:=u16_range w0
  have r1:=u8_range w1
  have r2:=u8_range w2
  have r3:=u32_range w3
  have r4:=u32_range w4
  have r5:=i32_range w5
  have r6:=u16_range w6
  have r7:=u16_range w7
  obtain ⟨body,hsl,hbk⟩:=slice_arg (f:=u8Cells) (s:=1) (fun x _=>0≤x∧x≤255) (by omega) (fun _=>rfl) Tryz.underlying52 (by kernel_rfl) u8_elem t1
  obtain ⟨hfl,A,c,rfl,hrest⟩:=hsl
  refine ⟨⟨⟨n0,n1,n2,n3,n4,n5,n6,n7⟩,A,body.length,c⟩,rfl,⟨⟨r0.1,by show n0<65536;omega⟩,⟨r1.1,by show n1<256;omega⟩,⟨r2.1,by show n2<256;omega⟩,⟨r3.1,by show n3<4294967296;omega⟩,⟨r4.1,by show n4<4294967296;omega⟩,⟨r5.1,by show n5<2147483648;omega⟩,⟨r6.1,by show n6<65536;omega⟩,⟨r7.1,by show n7<65536;omega⟩⟩,body,rfl,⟨hfl,A,c,rfl,hrest⟩,?_,?_⟩
  ·rcases hbk with ⟨h1,rfl⟩ | ⟨D,rest,hD,hq⟩
   ·intro b hb;cases hb
   ·intro b hb
    obtain ⟨i,hi,rfl⟩:=List.mem_iff_getElem.1 hb
    exact hq i hi
  ·have hb8:Rows.uptoBulk y1.1+1≤Rows.uptoBulk (DataW.agg ([y0,y1].map (·.1))):=by
    have h2:=bulk_part (d:=y1.1) (parts:=[y0,y1].map (·.1)) (by simp)
    simp only[Rows.uptoBulk]
    omega
   refine Nat.le_trans ?_ hb8
   rcases hbk with ⟨h1,rfl⟩ | ⟨D,rest,hD,_⟩
   ·have:=bulk_pos y1.1
    simp
   ·rw[hD]
    have h1:=bulk_slice (fun _=>1) body D rest (fun i _=>bulk_pos _)
    rw[sum_ones] at h1
    omega
end
end Go.Proofs.YtiikagabdiphkaaGreat
namespace Go.Proofs.YtiikagabdiphkaaGreat
open Go.RowKit Go.Lo Go.ChangeShapes Go.WideShapes Go.Deep
instance:Inhabited StV:=⟨⟨⟨0,0,0,0,0,0,0,0⟩,none,0,0⟩⟩
theorem sum_mem {α:Type} (g:α→Nat) (l:List α):∀ x∈l,g x≤(l.map g).sum:=by
 induction l with
 | nil=>intro x hx;cases hx
 | cons a r ih =>
  intro x hx
  simp only[List.map_cons,List.sum_cons]
  rcases List.mem_cons.1 hx with rfl | hx
  ·omega
  ·have:=ih x hx;omega
theorem sum_len {α:Type} (g:α→Nat) (l:List α) (h:∀ x∈l,1≤g x):l.length≤(l.map g).sum:=by
 induction l with
 | nil=>simp
 | cons a r ih =>
  simp only[List.map_cons,List.sum_cons,List.length_cons]
  have h1:=ih fun x hx=>h x (by simp[hx])
  have h2:=h a (by simp)
  omega
section
variable {H:Type} {enc:TypeId × Value→H} {W:World} {spare:Nat→Bool} {held:Bool}
def StateIs (W:World) (m:Nat) (x:StV):Prop:=HeadOk x.h∧∃ body:List Int,x.len=body.length∧Sl W W.heap.size 1 (.slice x.A x.len x.cap) body.length (body.flatMap u8Cells)∧(∀ b∈body,0≤b∧b≤255)∧body.length≤m
def WayIs (W:World) (m:Nat) (x:WayV):Prop:=(0≤x.n.bits∧x.n.bits<256)∧((0≤x.n.addr∧x.n.addr≤4294967295)∧0≤x.n.router∧x.n.router≤4294967295)∧(0≤x.n.cost∧x.n.cost≤4294967295)∧∃ hops:List Hop,x.len=hops.length∧Sl W W.heap.size 3 (.slice x.A x.len x.cap) hops.length (hops.flatMap hopCells)∧hops.length≤m
theorem states_arg {n:Nat} {c:Value} {y:DataW H × List MemPlace} (h:DataW.trod enc Tryz.prog W 0 spare held n 23 [c]=some y) :
  ∃ ls:List StV,Sl W W.heap.size 9 c ls.length (ls.flatMap stL)∧ls.length≤Rows.uptoBulk y.1∧∀ x∈ls,StateIs W (Rows.uptoBulk y.1) x:=by
 obtain ⟨ls,hsl,hbk⟩:=slice_arg (f:=stL) (s:=9) (fun x d=>StateOk W x d) (by omega) stL_len Tryz.underlying23 (by kernel_rfl) state_elem h
 refine ⟨ls,hsl,?_⟩
 rcases hbk with ⟨h1,rfl⟩ | ⟨D,rest,hD,hq⟩
 ·exact ⟨Nat.zero_le _,fun x hx=>by cases hx⟩
 ·have h1:=bulk_slice (fun x:StV=>x.len+1) ls D rest (fun i hi=>by
   obtain ⟨-,body,h2,-,-,h3⟩:=hq i hi
   omega)
  rw[←hD] at h1
  have h4:=sum_len (fun x:StV=>x.len+1) ls (fun x _=>by omega)
  refine ⟨by omega,fun x hx => ?_⟩
  have h5:=sum_mem (fun x:StV=>x.len+1) ls x hx
  obtain ⟨i,hi,rfl⟩:=List.mem_iff_getElem.1 hx
  obtain ⟨ho,body,h2,h6,h7,h3⟩:=hq i hi
  exact ⟨ho,body,h2,h6,h7,by omega⟩
theorem ways_arg {n:Nat} {c:Value} {y:DataW H × List MemPlace} (h:DataW.trod enc Tryz.prog W 0 spare held n 22 [c]=some y) :
  ∃ lw:List WayV,Sl W W.heap.size 10 c lw.length (lw.flatMap wayL)∧lw.length≤Rows.uptoBulk y.1∧∀ x∈lw,WayIs W (Rows.uptoBulk y.1) x:=by
 obtain ⟨lw,hsl,hbk⟩:=slice_arg (f:=wayL) (s:=10) (fun x d=>RWayOk W x d) (by omega) wayL_len Tryz.underlying22 (by kernel_rfl) rway_elem h
 refine ⟨lw,hsl,?_⟩
 rcases hbk with ⟨h1,rfl⟩ | ⟨D,rest,hD,hq⟩
 ·exact ⟨Nat.zero_le _,fun x hx=>by cases hx⟩
 ·have h1:=bulk_slice (fun x:WayV=>x.len+1) lw D rest (fun i hi=>by
   obtain ⟨-,-,-,hops,h2,-,h3⟩:=hq i hi
   omega)
  rw[←hD] at h1
  have h4:=sum_len (fun x:WayV=>x.len+1) lw (fun x _=>by omega)
  refine ⟨by omega,fun x hx => ?_⟩
  have h5:=sum_mem (fun x:WayV=>x.len+1) lw x hx
  obtain ⟨i,hi,rfl⟩:=List.mem_iff_getElem.1 hx
  obtain ⟨hb,ha,hc,hops,h2,h6,h3⟩:=hq i hi
  exact ⟨hb,ha,hc,hops,h2,h6,by omega⟩
end
end Go.Proofs.YtiikagabdiphkaaGreat
