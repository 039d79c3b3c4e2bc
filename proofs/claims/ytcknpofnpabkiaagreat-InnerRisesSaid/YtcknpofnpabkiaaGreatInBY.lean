/- States as an argument of any bulk, opened to their cells, and the list of them. No condition. -/
import Derived.Test.YtcknpofnpabkiaaGreatInBX
import Derived.Test.YtcknpofnpabkiaaGreatInAX
set_option maxRecDepth 100000
namespace Go.Proofs.YtcknpofnpabkiaaGreat
open Go.RowKit Go.Lo Go.ChangeShapes Go.WideShapes Go.Deep
section
variable {H:Type} {enc:TypeId × Value→H} {W:World} {spare:Nat→Bool} {held:Bool}
theorem u8w_range {n:Int} (h:(Lit.int .u8 n).wf=true):0≤n∧n≤255:=by
 simpa[Lit.wf,IntKind.min,IntKind.max,IntKind.signed,IntKind.bits] using h
theorem u16w_range {n:Int} (h:(Lit.int .u16 n).wf=true):0≤n∧n≤65535:=by
 simpa[Lit.wf,IntKind.min,IntKind.max,IntKind.signed,IntKind.bits] using h
theorem i32w_range {n:Int} (h:(Lit.int .i32 n).wf=true):-2147483648≤n∧n≤2147483647:=by
 simpa[Lit.wf,IntKind.min,IntKind.max,IntKind.signed,IntKind.bits] using h
abbrev u8wCells (x:Int):List Value:=[.int .u8 x]
theorem u8w_elem (n:Nat) (cs:List Value) (y:DataW H × List MemPlace) (h:DataW.trod enc Tryz.prog W 0 spare held n 5 cs=some y):∃ x:Int,cs=u8wCells x∧(0≤x∧x≤255):=by
 obtain ⟨x,rfl,_,hw⟩:=DataW.trod_int Tryz.underlying5 h
 exact ⟨x,rfl,u8w_range hw⟩
def StateW (W:World) (x:StV) (d:DataW H):Prop:=
 HeadOk x.h∧∃ body:List Int,x.len=body.length∧Sl W W.heap.size 1 (.slice x.A x.len x.cap) body.length (body.flatMap u8wCells)∧(∀ b∈body,0≤b∧b≤255)∧∀ M,(∀ n∈d.weights Tryz.prog 71,n≤M)→body.length≤M
theorem statew_elem (n:Nat) (cs:List Value) (y:DataW H × List MemPlace) (h:DataW.trod enc Tryz.prog W 0 spare held n 71 cs=some y):∃ x:StV,cs=stL x∧StateW W x y.1:=by
 obtain ⟨ys,n',_,rfl,hlen,hyl,hf⟩:=DataW.trod_struct Tryz.underlying71 h
 have hlen':cs.length=9:=hlen.trans (by kernel_rfl)
 have hyl':ys.length=2:=hyl
 match cs,hlen',ys,hyl' with
 | [c0,c1,c2,c3,c4,c5,c6,c7,c8],_,[y0,y1],_ =>
  have t0:DataW.trod enc Tryz.prog W 0 spare held n' 68 [c0,c1,c2,c3,c4,c5,c6,c7]=some y0:=by
   have h:=hf 0 _ rfl
   change DataW.trod enc Tryz.prog W 0 spare held n' 68 (([c0,c1,c2,c3,c4,c5,c6,c7,c8].drop 0).take (Tryz.prog.cellsOf 68))=some y0 at h
   rw[show Tryz.prog.cellsOf 68=8 by kernel_rfl] at h
   exact h
  have t1:DataW.trod enc Tryz.prog W 0 spare held n' 69 [c8]=some y1:=by
   have h:=hf 1 _ rfl
   change DataW.trod enc Tryz.prog W 0 spare held n' 69 (([c0,c1,c2,c3,c4,c5,c6,c7,c8].drop 8).take (Tryz.prog.cellsOf 69))=some y1 at h
   rw[show Tryz.prog.cellsOf 69=1 by kernel_rfl] at h
   exact h
  obtain ⟨_,zs,n'',_,hz⟩:=struct_cells Tryz.underlying68 (by kernel_rfl) (by kernel_rfl) t0
  obtain ⟨v0,z0,e0,_,s0⟩:=hz 0 _ rfl
  obtain ⟨v1,z1,e1,_,s1⟩:=hz 1 _ rfl
  obtain ⟨v2,z2,e2,_,s2⟩:=hz 2 _ rfl
  obtain ⟨v3,z3,e3,_,s3⟩:=hz 3 _ rfl
  obtain ⟨v4,z4,e4,_,s4⟩:=hz 4 _ rfl
  obtain ⟨v5,z5,e5,_,s5⟩:=hz 5 _ rfl
  obtain ⟨v6,z6,e6,_,s6⟩:=hz 6 _ rfl
  obtain ⟨v7,z7,e7,_,s7⟩:=hz 7 _ rfl
  obtain ⟨n0,k0,_,w0⟩:=DataW.trod_int Tryz.underlying66 s0
  obtain ⟨n1,k1,_,w1⟩:=DataW.trod_int Tryz.underlying5 s1
  obtain ⟨n2,k2,_,w2⟩:=DataW.trod_int Tryz.underlying5 s2
  obtain ⟨n3,k3,_,w3⟩:=DataW.trod_int Tryz.underlying23 s3
  obtain ⟨n4,k4,_,w4⟩:=DataW.trod_int Tryz.underlying23 s4
  obtain ⟨n5,k5,_,w5⟩:=DataW.trod_int Tryz.underlying21 s5
  obtain ⟨n6,k6,_,w6⟩:=DataW.trod_int Tryz.underlying66 s6
  obtain ⟨n7,k7,_,w7⟩:=DataW.trod_int Tryz.underlying66 s7
  simp only[List.cons.injEq,and_true] at k0 k1 k2 k3 k4 k5 k6 k7
  simp only[q'z,q's,Option.some.injEq] at e0 e1 e2 e3 e4 e5 e6 e7
  subst k0 k1 k2 k3 k4 k5 k6 k7 e0 e1 e2 e3 e4 e5 e6 e7
  have r0:=u16w_range w0
  have r1:=u8w_range w1
  have r2:=u8w_range w2
  have r3:=u32_range w3
  have r4:=u32_range w4
  have r5:=i32w_range w5
  have r6:=u16w_range w6
  have r7:=u16w_range w7
  obtain ⟨body,hsl,hbk⟩:=slice_arg (f:=u8wCells) (s:=1) (fun x _=>0≤x∧x≤255) (by omega) (fun _=>rfl) Tryz.underlying69 (by kernel_rfl) u8w_elem t1
  obtain ⟨hfl,A,c,rfl,hrest⟩:=hsl
  refine ⟨⟨⟨n0,n1,n2,n3,n4,n5,n6,n7⟩,A,body.length,c⟩,rfl,⟨⟨r0.1,by show n0<65536;omega⟩,⟨r1.1,by show n1<256;omega⟩,⟨r2.1,by show n2<256;omega⟩,⟨r3.1,by show n3<4294967296;omega⟩,⟨r4.1,by show n4<4294967296;omega⟩,⟨r5.1,by show n5<2147483648;omega⟩,⟨r6.1,by show n6<65536;omega⟩,⟨r7.1,by show n7<65536;omega⟩⟩,body,rfl,⟨hfl,A,c,rfl,hrest⟩,?_,?_⟩
  ·rcases hbk with ⟨h1,rfl⟩ | ⟨D,rest,hD,hq⟩
   ·intro b hb;cases hb
   ·intro b hb
    obtain ⟨i,hi,rfl⟩:=List.mem_iff_getElem.1 hb
    exact hq i hi
  ·intro M hM
   rcases hbk with ⟨h1,rfl⟩ | ⟨D,rest,hD,_⟩
   ·exact Nat.zero_le _
   ·have h2:∀ n∈y1.1.weights Tryz.prog 69,n≤M:=fun n hn=>hM n (by
     simp only[DataW.weights,Tryz.underlying71,List.map_cons,List.map_nil,DataW.weightsEach,List.mem_append,List.append_nil]
     exact .inr hn)
    rw[hD] at h2
    have h3:=h2 _ (by simp only[DataW.weights,Tryz.underlying69];exact List.mem_cons_self)
    rw[show Tryz.prog.bytesOf 5=1 by kernel_rfl,List.length_map,List.length_range] at h3
    show body.length≤M
    omega
instance:Inhabited StV:=⟨⟨⟨0,0,0,0,0,0,0,0⟩,none,0,0⟩⟩
def StateAt (W:World) (m:Nat) (x:StV):Prop:=HeadOk x.h∧∃ body:List Int,x.len=body.length∧Sl W W.heap.size 1 (.slice x.A x.len x.cap) body.length (body.flatMap u8wCells)∧(∀ b∈body,0≤b∧b≤255)∧body.length≤m
theorem weights_mem {P:Program} {e:TypeId} {d:DataW H}:∀ {l:List (DataW H)},d∈l→∀ n∈d.weights P e,n∈DataW.weightsAll P e l
 | a :: l,h,n,hn=>by
  simp only[DataW.weightsAll,List.mem_append]
  rcases List.mem_cons.1 h with rfl | h
  ·exact .inl hn
  ·exact .inr (weights_mem h n hn)
theorem statesw_arg {n:Nat} {c:Value} {y:DataW H × List MemPlace} (h:DataW.trod enc Tryz.prog W 0 spare held n 22 [c]=some y) :
  ∃ ls:List StV,Sl W W.heap.size 9 c ls.length (ls.flatMap stL)∧∀ M,(∀ n∈y.1.weights Tryz.prog 22,n≤M)→ls.length≤M∧∀ x∈ls,StateAt W M x:=by
 obtain ⟨ls,hsl,hbk⟩:=slice_arg (f:=stL) (s:=9) (fun x d=>StateW W x d) (by omega) stL_len Tryz.underlying22 (by kernel_rfl) statew_elem h
 refine ⟨ls,hsl,fun M hM => ?_⟩
 rcases hbk with ⟨h1,rfl⟩ | ⟨D,rest,hD,hq⟩
 ·exact ⟨Nat.zero_le _,fun x hx=>by cases hx⟩
 ·rw[hD] at hM
  simp only[DataW.weights,Tryz.underlying22] at hM
  have h3:=hM _ List.mem_cons_self
  rw[show Tryz.prog.bytesOf 71=48 by kernel_rfl,List.length_map,List.length_range] at h3
  refine ⟨by omega,fun x hx => ?_⟩
  obtain ⟨i,hi,rfl⟩:=List.mem_iff_getElem.1 hx
  obtain ⟨ho,body,h2,h6,h7,h8⟩:=hq i hi
  exact ⟨ho,body,h2,h6,h7,h8 M fun n hn=>hM n (List.mem_cons_of_mem _ (List.mem_append_left _ (weights_mem (List.mem_map.2 ⟨i,List.mem_range.2 hi,rfl⟩) n hn)))⟩
end
theorem flatw_u8 (l:List Int):l.flatMap u8wCells=l.map u8c:=by
 induction l with
 | nil=>rfl
 | cons x r ih =>
  rw[List.flatMap_cons,ih]
  rfl
theorem statesw_of {W:World} {m:Nat} {sv:Value} {ls:List StV} (hsl:Sl W W.heap.size 9 sv ls.length (ls.flatMap stL)) (h:∀ x∈ls,StateAt W m x):∃ S,StatesIn W W.heap.size sv S ls∧(∀ s∈S,HeadOk s.1∧∀ b∈s.2,0≤b∧b<256)∧∀ s∈S,s.2.length≤m:=by
 obtain ⟨f,hf⟩:=Classical.axiomOfChoice (r:=fun (x:StV) (body:List Int)=>x∈ls→HeadOk x.h∧x.len=body.length∧Sl W W.heap.size 1 (.slice x.A x.len x.cap) body.length (body.map u8c)∧(∀ b∈body,0≤b∧b<256)∧body.length≤m) (fun x=>by
  by_cases hx:x∈ls
  ·obtain ⟨h1,body,h2,h3,h4,h5⟩:=h x hx
   rw[flatw_u8] at h3
   exact ⟨body,fun _=>⟨h1,h2,h3,fun b hb=>by have:=h4 b hb;omega,h5⟩⟩
  ·exact ⟨[],fun hx'=>absurd hx' hx⟩)
 refine ⟨ls.map fun x=>(x.h,f x),⟨hsl,by simp,fun k hk hk2 => ?_⟩,fun s hs => ?_,fun s hs => ?_⟩
 ·have:=hf ls[k] (List.getElem_mem hk)
  simp only[List.getElem_map]
  exact this.2.2.1
 ·obtain ⟨x,hx,rfl⟩:=List.mem_map.1 hs
  obtain ⟨h1,-,-,h4,h5⟩:=hf x hx
  exact ⟨h1,h4⟩
 ·obtain ⟨x,hx,rfl⟩:=List.mem_map.1 hs
  obtain ⟨h1,-,-,h4,h5⟩:=hf x hx
  exact h5
set_option maxRecDepth 100000
section
variable {H:Type} {enc:TypeId × Value→H} {W:World} {spare:Nat→Bool} {held:Bool} {base:Nat} {v:Value} {d:DataW H} {p:List MemPlace}
theorem u8_arg (hok:Value.okWide Tryz.prog W .any base 5 v) (h:DataW.Trod enc Tryz.prog W 0 spare held 5 v d p):∃ n:Int,v=.int .u8 n∧0≤n∧n<256:=by
 obtain ⟨m,rfl⟩:=okWide_int Tryz.underlying5 hok
 obtain ⟨fuel,hf0⟩:=h
 have hf1:DataW.trod enc Tryz.prog W 0 spare held fuel 5 [.int .u8 m]=some (d,p):=hf0
 obtain ⟨n,k,_,w⟩:=DataW.trod_int Tryz.underlying5 hf1
 simp only[List.cons.injEq,and_true] at k
 rw[k]
 have hw:=u8w_range w
 exact ⟨n,rfl,hw.1,by omega⟩
theorem u32_arg (hok:Value.okWide Tryz.prog W .any base 23 v) (h:DataW.Trod enc Tryz.prog W 0 spare held 23 v d p):∃ n:Int,v=.int .u32 n∧0≤n∧n<4294967296:=by
 obtain ⟨m,rfl⟩:=okWide_int Tryz.underlying23 hok
 obtain ⟨fuel,hf0⟩:=h
 have hf1:DataW.trod enc Tryz.prog W 0 spare held fuel 23 [.int .u32 m]=some (d,p):=hf0
 obtain ⟨n,k,_,w⟩:=DataW.trod_int Tryz.underlying23 hf1
 simp only[List.cons.injEq,and_true] at k
 rw[k]
 have hw:0≤n∧n≤4294967295:=by simpa[Lit.wf,IntKind.min,IntKind.max,IntKind.signed,IntKind.bits] using w
 exact ⟨n,rfl,hw.1,by omega⟩
theorem bool_arg (hok:Value.okWide Tryz.prog W .any base 4 v):∃ b:Bool,v=.bool b:=by
 obtain ⟨b,rfl⟩:=okWide_bool Tryz.underlying4 hok
 exact ⟨b,rfl⟩
theorem bytesw_arg {n:Nat} {c:Value} {y:DataW H × List MemPlace} (h:DataW.trod enc Tryz.prog W 0 spare held n 69 [c]=some y):∃ ws:List Int,Sl W W.heap.size 1 c ws.length (ws.map u8c)∧∀ x∈ws,0≤x∧x<256:=by
 obtain ⟨ws,hsl,hbk⟩:=slice_arg (f:=u8wCells) (s:=1) (fun x _=>0≤x∧x≤255) (by omega) (fun _=>rfl) Tryz.underlying69 (by kernel_rfl) u8w_elem h
 rw[flatw_u8] at hsl
 refine ⟨ws,hsl,fun x hx => ?_⟩
 rcases hbk with ⟨h1,rfl⟩ | ⟨D,rest,hD,hq⟩
 ·cases hx
 ·obtain ⟨i,hi,rfl⟩:=List.getElem_of_mem hx
  have:=hq i hi
  omega
end
end Go.Proofs.YtcknpofnpabkiaaGreat
