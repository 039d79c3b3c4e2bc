/- The arguments are opened: a way. -/
import Derived.Test.YtiikagabdiphkaaGreatOnBS
import Derived.Test.YtiikagabdiphkaaGreatOnAN
set_option maxRecDepth 100000
namespace Go.Proofs.YtiikagabdiphkaaGreat
open Go.RowKit Go.Lo Go.ChangeShapes Go.WideShapes Go.Deep
section
variable {H:Type} {enc:TypeId × Value→H} {W:World} {spare:Nat→Bool} {held:Bool}
theorem u8_range {n:Int} (h:(Lit.int .u8 n).wf=true):0≤n∧n≤255:=by
 simpa[Lit.wf,IntKind.min,IntKind.max,IntKind.signed,IntKind.bits] using h
theorem rhop_elem (n:Nat) (cs:List Value) (y:DataW H × List MemPlace) (h:DataW.trod enc Tryz.prog W 0 spare held n 46 cs=some y):∃ x:Hop,cs=hopCells x∧True:=by
 obtain ⟨hlen,ys,n',hd,hf⟩:=struct_cells Tryz.underlying46 (by kernel_rfl) (by kernel_rfl) h
 have hlen':cs.length=3:=hlen
 match cs,hlen' with
 | [c0,c1,c2],_ =>
  obtain ⟨v0,y0,e0,_,t0⟩:=hf 0 _ rfl
  obtain ⟨v1,y1,e1,_,t1⟩:=hf 1 _ rfl
  obtain ⟨v2,y2,e2,_,t2⟩:=hf 2 _ rfl
  obtain ⟨n0,k0,_,_⟩:=DataW.trod_int Tryz.underlying24 t0
  obtain ⟨n1,k1,_,_⟩:=DataW.trod_int Tryz.underlying24 t1
  obtain ⟨n2,k2,_⟩:=DataW.trod_bool Tryz.underlying4 t2
  simp only[List.cons.injEq,and_true] at k0 k1 k2
  simp only[q'z,q's,Option.some.injEq] at e0 e1 e2
  subst k0 k1 k2 e0 e1 e2
  exact ⟨(n0,n1,n2),rfl,trivial⟩
def RWayOk (W:World) (x:WayV) (d:DataW H):Prop:=
 (0≤x.n.bits∧x.n.bits<256)∧((0≤x.n.addr∧x.n.addr≤4294967295)∧0≤x.n.router∧x.n.router≤4294967295)∧(0≤x.n.cost∧x.n.cost≤4294967295)∧∃ hops:List Hop,x.len=hops.length∧Sl W W.heap.size 3 (.slice x.A x.len x.cap) hops.length (hops.flatMap hopCells)∧hops.length+1≤Rows.uptoBulk d
theorem rway_elem (n:Nat) (cs:List Value) (y:DataW H × List MemPlace) (h:DataW.trod enc Tryz.prog W 0 spare held n 41 cs=some y):∃ x:WayV,cs=wayL x∧RWayOk W x y.1:=by
 obtain ⟨ys,n',_,rfl,hlen,hyl,hf⟩:=DataW.trod_struct Tryz.underlying41 h
 have hlen':cs.length=10:=hlen.trans (by kernel_rfl)
 have hyl':ys.length=9:=hyl
 match cs,hlen',ys,hyl' with
 | [c0,c1,c2,c3,c4,c5,c6,c7,c8,c9],_,[y0,y1,y2,y3,y4,y5,y6,y7,y8],_ =>
  have t0:DataW.trod enc Tryz.prog W 0 spare held n' 35 [c0,c1]=some y0:=by
   have h:=hf 0 _ rfl
   change DataW.trod enc Tryz.prog W 0 spare held n' 35 (([c0,c1,c2,c3,c4,c5,c6,c7,c8,c9].drop 0).take (Tryz.prog.cellsOf 35))=some y0 at h
   rw[show Tryz.prog.cellsOf 35=2 by kernel_rfl] at h
   exact h
  have t1:DataW.trod enc Tryz.prog W 0 spare held n' 24 [c2]=some y1:=by
   have h:=hf 1 _ rfl
   change DataW.trod enc Tryz.prog W 0 spare held n' 24 (([c0,c1,c2,c3,c4,c5,c6,c7,c8,c9].drop 2).take (Tryz.prog.cellsOf 24))=some y1 at h
   rw[show Tryz.prog.cellsOf 24=1 by kernel_rfl] at h
   exact h
  have t2:DataW.trod enc Tryz.prog W 0 spare held n' 5 [c3]=some y2:=by
   have h:=hf 2 _ rfl
   change DataW.trod enc Tryz.prog W 0 spare held n' 5 (([c0,c1,c2,c3,c4,c5,c6,c7,c8,c9].drop 3).take (Tryz.prog.cellsOf 5))=some y2 at h
   rw[show Tryz.prog.cellsOf 5=1 by kernel_rfl] at h
   exact h
  have t3:DataW.trod enc Tryz.prog W 0 spare held n' 5 [c4]=some y3:=by
   have h:=hf 3 _ rfl
   change DataW.trod enc Tryz.prog W 0 spare held n' 5 (([c0,c1,c2,c3,c4,c5,c6,c7,c8,c9].drop 4).take (Tryz.prog.cellsOf 5))=some y3 at h
   rw[show Tryz.prog.cellsOf 5=1 by kernel_rfl] at h
   exact h
  have t4:DataW.trod enc Tryz.prog W 0 spare held n' 24 [c5]=some y4:=by
   have h:=hf 4 _ rfl
   change DataW.trod enc Tryz.prog W 0 spare held n' 24 (([c0,c1,c2,c3,c4,c5,c6,c7,c8,c9].drop 5).take (Tryz.prog.cellsOf 24))=some y4 at h
   rw[show Tryz.prog.cellsOf 24=1 by kernel_rfl] at h
   exact h
  have t5:DataW.trod enc Tryz.prog W 0 spare held n' 24 [c6]=some y5:=by
   have h:=hf 5 _ rfl
   change DataW.trod enc Tryz.prog W 0 spare held n' 24 (([c0,c1,c2,c3,c4,c5,c6,c7,c8,c9].drop 6).take (Tryz.prog.cellsOf 24))=some y5 at h
   rw[show Tryz.prog.cellsOf 24=1 by kernel_rfl] at h
   exact h
  have t6:DataW.trod enc Tryz.prog W 0 spare held n' 24 [c7]=some y6:=by
   have h:=hf 6 _ rfl
   change DataW.trod enc Tryz.prog W 0 spare held n' 24 (([c0,c1,c2,c3,c4,c5,c6,c7,c8,c9].drop 7).take (Tryz.prog.cellsOf 24))=some y6 at h
   rw[show Tryz.prog.cellsOf 24=1 by kernel_rfl] at h
   exact h
  have t7:DataW.trod enc Tryz.prog W 0 spare held n' 24 [c8]=some y7:=by
   have h:=hf 7 _ rfl
   change DataW.trod enc Tryz.prog W 0 spare held n' 24 (([c0,c1,c2,c3,c4,c5,c6,c7,c8,c9].drop 8).take (Tryz.prog.cellsOf 24))=some y7 at h
   rw[show Tryz.prog.cellsOf 24=1 by kernel_rfl] at h
   exact h
  have t8:DataW.trod enc Tryz.prog W 0 spare held n' 39 [c9]=some y8:=by
   have h:=hf 8 _ rfl
   change DataW.trod enc Tryz.prog W 0 spare held n' 39 (([c0,c1,c2,c3,c4,c5,c6,c7,c8,c9].drop 9).take (Tryz.prog.cellsOf 39))=some y8 at h
   rw[show Tryz.prog.cellsOf 39=1 by kernel_rfl] at h
   exact h
  obtain ⟨_,zs,n'',_,hz⟩:=struct_cells Tryz.underlying35 (by kernel_rfl) (by kernel_rfl) t0
  obtain ⟨v0,z0,e0,_,s0⟩:=hz 0 _ rfl
  obtain ⟨v1,z1,e1,_,s1⟩:=hz 1 _ rfl
  obtain ⟨n0,k0,_,w0⟩:=DataW.trod_int Tryz.underlying24 s0
  obtain ⟨n1,k1,_,w1⟩:=DataW.trod_int Tryz.underlying5 s1
  obtain ⟨n2,k2,_,w2⟩:=DataW.trod_int Tryz.underlying24 t1
  obtain ⟨n3,k3,_,w3⟩:=DataW.trod_int Tryz.underlying5 t2
  obtain ⟨n4,k4,_,w4⟩:=DataW.trod_int Tryz.underlying5 t3
  obtain ⟨n5,k5,_,w5⟩:=DataW.trod_int Tryz.underlying24 t4
  obtain ⟨n6,k6,_,w6⟩:=DataW.trod_int Tryz.underlying24 t5
  obtain ⟨n7,k7,_,w7⟩:=DataW.trod_int Tryz.underlying24 t6
  obtain ⟨n8,k8,_,w8⟩:=DataW.trod_int Tryz.underlying24 t7
  simp only[List.cons.injEq,and_true] at k0 k1 k2 k3 k4 k5 k6 k7 k8
  simp only[q'z,q's,Option.some.injEq] at e0 e1
  subst k0 k1 k2 k3 k4 k5 k6 k7 k8 e0 e1
  obtain ⟨hops,hsl,hbk⟩:=slice_arg (f:=hopCells) (s:=3) (fun _ _=>True) (by omega) hopCells_len Tryz.underlying39 (by kernel_rfl) rhop_elem t8
  obtain ⟨hfl,A,c,rfl,hrest⟩:=hsl
  have r1:=u8_range w1
  refine ⟨⟨⟨n0,n1,n2,n3,n4,n5,n6,n7,n8⟩,A,hops.length,c⟩,rfl,⟨r1.1,by show n1<256;omega⟩,⟨u32_range w0,u32_range w2⟩,u32_range w6,hops,rfl,⟨hfl,A,c,rfl,hrest⟩,?_⟩
  have hb8:Rows.uptoBulk y8.1+1≤Rows.uptoBulk (DataW.agg ([y0,y1,y2,y3,y4,y5,y6,y7,y8].map (·.1))):=by
   have h2:=bulk_part (d:=y8.1) (parts:=[y0,y1,y2,y3,y4,y5,y6,y7,y8].map (·.1)) (by simp)
   simp only[Rows.uptoBulk]
   omega
  refine Nat.le_trans ?_ hb8
  rcases hbk with ⟨h1,rfl⟩ | ⟨D,rest,hD,_⟩
  ·have:=bulk_pos y8.1
   simp
  ·rw[hD]
   have h1:=bulk_slice (fun _=>1) hops D rest (fun i _=>bulk_pos _)
   rw[sum_ones] at h1
   omega
end
end Go.Proofs.YtiikagabdiphkaaGreat
