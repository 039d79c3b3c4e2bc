/- At most one way is sorted. -/
import Derived.Test.YtcknpofnpabkiaaGreatRpAB
import Derived.Test.YtcknpofnpabkiaaGreatRpAE
import Derived.Test.YtcknpofnpabkiaaGreatRpAL
set_option maxRecDepth 100000
namespace Go.Proofs.YtcknpofnpabkiaaGreat
open Go.RowKit Go.Lo
theorem inswB_one (A:Option Addr) (n c:Nat) (cv:Value) (hn:n≤1) (w:World) :
  Calls Tryz.prog 166 #[.slice A n c,.int .i64 0,.int .i64 n,cv] w fun e w'=>e=.returned (.tuple #[])∧w'=w:=by
 have i1:¬ (1:Int)<(n:Int):=by omega
 go_enter Tryz.func166,Tryz.ntmps166
 go_wp2_with fail
 go_loopg [8] 1 (fun m v wr=>m=1∧v=.int .i64 1∧wr=w)
 case atStart=>exact ⟨rfl,rfl,rfl⟩
 case round =>
  obtain ⟨hm,rfl,rfl⟩:=hrel
  go_wp2
  go_end0
  exact ⟨rfl,rfl⟩
set_option maxHeartbeats 1000000 in
theorem pdqwB_one (A:Option Addr) (n c lim:Nat) (cv:Value) (hn:n≤1) (w:World) :
  Calls Tryz.prog 135 #[.slice A n c,.int .i64 0,.int .i64 n,.int .i64 lim,cv] w fun e w'=>e=.returned (.tuple #[])∧w'=w:=by
 have q1:(n:Int)≤12:=by omega
 have q2:IntKind.i64.wrap (n:Int)=(n:Int):=IntWalk.i64_in _ (by omega)
 go_enter Tryz.func135,Tryz.ntmps135
 go_wp2_with fail
 go_loopg [1,2,3,10,11] 1 (fun m va vb vl v8 v9 wr=>m=1∧va=.int .i64 0∧vb=.int .i64 n∧wr=w)
 case atStart=>exact ⟨rfl,rfl,rfl,rfl⟩
 case round =>
  obtain ⟨hm,rfl,rfl,rfl⟩:=hrel
  go_wp2_with (go_at_call 166;refine c'm (inswB_one A n c cv hn _) ?_;rintro e w2 ⟨rfl,rfl⟩)
  refine bodyPost_ret (results_none rfl _ _ _) rfl ?_
  exact ⟨rfl,rfl⟩
theorem sortwB_one (A:Option Addr) (n c:Nat) (cv:Value) (hn:n≤1) (w:World) :
  Calls Tryz.prog 97 #[.slice A n c,cv] w fun e w'=>e=.returned (.tuple #[])∧w'=w:=by
 have q1:IntKind.u64.wrap (n:Int)=(n:Int):=by rw[IntKind.wrap_u64];omega
 have C1:=Tryz.bits_Len (n:Int) w (by omega) (by omega)
 rw[Int.toNat_natCast] at C1
 have C2:=pdqwB_one A n c (Lib.bitLen n) cv hn w
 generalize Lib.bitLen n=L at *
 replace C1:=h'd C1
 replace C2:=h'd C2
 go_enter Tryz.func97,Tryz.ntmps97
 go_wp2_with (first
  | (go_at_call 115;refine c'm C1.out ?_;rintro e w1 ⟨rfl,rfl⟩)
  | (go_at_call 135;refine c'm C2.out ?_;rintro e w2 ⟨rfl,rfl⟩)
  | fail)
 go_end0
 exact ⟨rfl,rfl⟩
abbrev yL (x:WayY):List Value:=wayL x.1
theorem yE:RowE yL 10:=⟨fun x=>wayE.len x.1,fun x=>wayE.one x.1,wayE.pos⟩
theorem yC:CmpF yL (fun x y:WayY=>ltK x.1 y.1) 98:=⟨lcmpF.enters,fun x y W=>lcmpF.call x.1 y.1 W⟩
theorem yS:Sort.SWO (fun x y:WayY=>ltK x.1 y.1):=⟨fun x=>swo_ltK.irrefl x.1,fun x y z=>swo_ltK.trans x.1 y.1 z.1,fun x y z=>swo_ltK.ntrans x.1 y.1 z.1⟩
instance:Inhabited WayY:=⟨⟨⟨⟨0,0,0,0,0,0,0,0,0⟩,none,0,0⟩,[]⟩⟩
theorem sortY_any (B:Nat) (v:Value) (out:List WayY) (w:World) (ho:w.ownsRow B 48 10 v out.length (out.flatMap yL)) (hn:out.length≤1000000) :
  Calls Tryz.prog 97 #[v,.func (.func 98) #[] #[]] w fun e w'=>e=.returned (.tuple #[]) ∧
   ∃ out':List WayY,out'.Perm out∧out'.Pairwise (fun a b=>ltK b.1 a.1=false)∧w'.ownsRow B 48 10 v out.length (out'.flatMap yL)∧w.grownBy w' v.ownBlock:=by
 obtain ⟨hl,⟨rfl,h0⟩ | ⟨g,cap,cur,rfl,hBg,hg,hnc,hcm,hcs,htk⟩⟩:=id ho
 ·have C:=sortwB_one none 0 0 (.func (.func 98) #[] #[]) (Nat.zero_le _) w
  refine c'm C ?_
  rintro e w' ⟨rfl,rfl⟩
  exact ⟨rfl,out,List.Perm.refl _,by rw[List.length_eq_zero_iff.1 h0];exact List.Pairwise.nil,ho,grown_refl _ _⟩
 ·have hcur:cur=((out.toArray).toList.flatMap yL++cur.toList.drop (out.length*10)).toArray:=by
   simp only
   rw[←htk,List.take_append_drop]
  have hR:RowC yL 48 w g (cur.toList.drop (out.length*10)) out.toArray w:=⟨by rw[←hcur];exact hg,rfl,rfl,rfl,n'r _,fun _ _ _=>rfl⟩
  have C:=sortC_any yE yC yS g out.length cap _ (by omega) out.toArray w hR (by simp)
  refine c'm C ?_
  rintro e w' ⟨rfl,d',hR',hP,hs⟩
  have hsz:d'.size=out.length:=by rw[hP.1];simp
  have hperm:d'.toList.Perm out:=by
   have:=hP.2.2
   rw[←hsz] at this
   have e1:d'.extract 0 d'.size=d':=by simp
   have e2:out.toArray.extract 0 d'.size=out.toArray:=by rw[hsz];simp
   rw[e1,e2] at this
   exact this
  refine ⟨rfl,d'.toList,hperm,?_,⟨?_,.inr ⟨g,cap,_,rfl,hBg,hR'.blk,hnc,hcm,?_,?_⟩⟩,⟨hR'.os,hR'.tape,hR'.output,hR'.size,fun b hb hne=>hR'.other b hb fun e=>hne (by rw[e];rfl)⟩⟩
  ·refine List.pairwise_iff_getElem.2 fun i j hi hj hij => ?_
   have hj2:j<d'.size:=by simpa using hj
   have hi2:i<d'.size:=by omega
   have:=hs i j (Nat.zero_le _) hij (by omega)
   rw[getElem!_pos d' i hi2,getElem!_pos d' j hj2] at this
   simpa using this
  ·rw[flat_len yE.len];simp[hsz]
  ·have h1:=congrArg Array.size hcur
   simp only[List.size_toArray,l'a,flat_len yE.len,Array.length_toList] at h1 ⊢
   generalize (List.drop (out.length*10) cur.toList).length=z at *
   have h2:out.toArray.size=out.length:=by simp
   omega
  ·rw[List.take_append_of_le_length (by rw[flat_len yE.len];simp[hsz]),List.take_of_length_le (by rw[flat_len yE.len];simp[hsz])]
end Go.Proofs.YtcknpofnpabkiaaGreat
set_option maxRecDepth 100000
namespace Go.Proofs.YtcknpofnpabkiaaGreat
open Go.RowKit Go.Lo Go.Maps
def stepF (f:K3→Option WayG) (g:WayG):K3→Option WayG:=fun k=>if k=keyG g.1 then some (bestStep (f k) g) else f k
theorem stepF_best (gs:List WayG) (g:WayG):stepF (bestF gs) g=bestF (gs++[g]):=funext fun k=>(bestF_snoc gs g k).symm
set_option maxHeartbeats 4000000 in
theorem iput_any (mb nn:Nat) (D:DataW Value) (f:K3→Option WayG) (x:WayY) (w:World) (hown:w.ownsMap Tryz.prog 186 rawR mb nn D) (hM:MapOk w D f) (hk:InK (keyG x.1.n)) (hx:HopsAt x w) (hn:nn<maxLen) (hl:x.2.length≤200000) (hf:∀ g,f (keyG x.1.n)=some g→g.2.length≤200000) :
  Calls Tryz.prog 52 #[.map (some mb),.agg x.1.cells] w fun e w'=>e=.returned (.tuple #[])∧w.grownBy w' (some mb)∧∃ D',w'.ownsMap Tryz.prog 186 rawR mb (nn+1) D'∧MapOk w' D' (stepF f (x.1.n,x.2)):=by
 obtain ⟨⟨⟨x0,x1,x2,x3,x4,x5,x6,x7,x8⟩,xA,xn,xc⟩,xh⟩:=x
 dsimp only[WayV.cells,wayC,keyG] at hk hf hl ⊢
 go_enter Tryz.func52,Tryz.ntmps52
 go_upto_region 2 with fail
 have kx:Blk ((w.alloc (.cells #[.int .u32 x0,.int .u8 x1,.int .u32 x2,.int .u8 x3,.int .u8 x4,.int .u32 x5,.int .u32 x6,.int .u32 x7,.int .u32 x8,.slice xA xn xc] 48)).alloc (.cells #[.int .u32 x0,.int .u8 x1,.int .u32 x2] 186)) w.heap.size 48 #[.int .u32 x0,.int .u8 x1,.int .u32 x2,.int .u8 x3,.int .u8 x4,.int .u32 x5,.int .u32 x6,.int .u32 x7,.int .u32 x8,.slice xA xn xc]:=(Blk.new _ _ _).alloc _
 have k6:Blk ((w.alloc (.cells #[.int .u32 x0,.int .u8 x1,.int .u32 x2,.int .u8 x3,.int .u8 x4,.int .u32 x5,.int .u32 x6,.int .u32 x7,.int .u32 x8,.slice xA xn xc] 48)).alloc (.cells #[.int .u32 x0,.int .u8 x1,.int .u32 x2] 186)) (w.heap.size+1) 186 #[.int .u32 x0,.int .u8 x1,.int .u32 x2]:=heap_alloc2_new w _ _
 have hb2:Below w.heap.size w ((w.alloc (.cells #[.int .u32 x0,.int .u8 x1,.int .u32 x2,.int .u8 x3,.int .u8 x4,.int .u32 x5,.int .u32 x6,.int .u32 x7,.int .u32 x8,.slice xA xn xc] 48)).alloc (.cells #[.int .u32 x0,.int .u8 x1,.int .u32 x2] 186)):=below_alloc (below_alloc (b'r _ _) (n'r _) _) (n'r _) _
 have hz2:((w.alloc (.cells #[.int .u32 x0,.int .u8 x1,.int .u32 x2,.int .u8 x3,.int .u8 x4,.int .u32 x5,.int .u32 x6,.int .u32 x7,.int .u32 x8,.slice xA xn xc] 48)).alloc (.cells #[.int .u32 x0,.int .u8 x1,.int .u32 x2] 186)).heap.size=w.heap.size+2:=by simp
 generalize (w.alloc (.cells #[.int .u32 x0,.int .u8 x1,.int .u32 x2,.int .u8 x3,.int .u8 x4,.int .u32 x5,.int .u32 x6,.int .u32 x7,.int .u32 x8,.slice xA xn xc] 48)).alloc (.cells #[.int .u32 x0,.int .u8 x1,.int .u32 x2] 186)=w2 at *
 replace hz2:=h'd hz2
 have hown2:=hown.kept (grown_of_below hb2 none) (by simp)
 have hM2:=hM.move fun z hz=>HopsAt.call hz hb2
 have hx2:=HopsAt.call hx hb2
 have hown0:=h'd hown
 have hM0:=h'd hM
 clear hown hM hx
 have k6_0:=k6.cell 0
 have k6_1:=k6.cell 1
 have k6_2:=k6.cell 2
 simp only[q'a,q'z,q's] at k6_0 k6_1 k6_2
 go_upto_region 3 with (at_lookup;refine wpList_lookup_way rfl _ _ rfl mb nn D f rfl hown2 hM2 (x0,x1,x2) hk rfl (fun hf0 => ?_) (fun y yh hf0 hHy => ?_))
 ·have hb3:Below w.heap.size w (w2.alloc (.cells #[.int .u32 0,.int .u8 0,.int .u32 0,.int .u8 0,.int .u8 0,.int .u32 0,.int .u32 0,.int .u32 0,.int .u32 0,.slice none 0 0] 48)):=below_alloc hb2 (n'r _) _
  have hb23:Below w2.heap.size w2 (w2.alloc (.cells #[.int .u32 0,.int .u8 0,.int .u32 0,.int .u8 0,.int .u8 0,.int .u32 0,.int .u32 0,.int .u32 0,.int .u32 0,.slice none 0 0] 48)):=below_alloc (b'r _ _) (n'r _) _
  have k63:=k6.alloc (.cells #[.int .u32 0,.int .u8 0,.int .u32 0,.int .u8 0,.int .u8 0,.int .u32 0,.int .u32 0,.int .u32 0,.int .u32 0,.slice none 0 0] 48)
  have kx3:=kx.alloc (.cells #[.int .u32 0,.int .u8 0,.int .u32 0,.int .u8 0,.int .u8 0,.int .u32 0,.int .u32 0,.int .u32 0,.int .u32 0,.slice none 0 0] 48)
  have hown3:=hown2.alloc (.cells #[.int .u32 0,.int .u8 0,.int .u32 0,.int .u8 0,.int .u8 0,.int .u32 0,.int .u32 0,.int .u32 0,.int .u32 0,.slice none 0 0] 48)
  have hM3:=hM2.move fun z hz=>HopsAt.call hz hb23
  have hx3:=HopsAt.call hx2 hb23
  clear k6_0 k6_1 k6_2 hown2 hM2 hx2 hb23 k6 kx
  generalize w2.alloc (.cells #[.int .u32 0,.int .u8 0,.int .u32 0,.int .u8 0,.int .u8 0,.int .u32 0,.int .u32 0,.int .u32 0,.int .u32 0,.slice none 0 0] 48)=w3 at *
  replace hx3:=hx3.sl
  dsimp only at hx3
  have y0:=kx3.cell 0
  have y1:=kx3.cell 1
  have y2:=kx3.cell 2
  have y3:=kx3.cell 3
  have y4:=kx3.cell 4
  have y5:=kx3.cell 5
  have y6:=kx3.cell 6
  have y7:=kx3.cell 7
  have y8:=kx3.cell 8
  have y9:=kx3.cell 9
  simp only[q'a,q'z,q's] at y0 y1 y2 y3 y4 y5 y6 y7 y8 y9
  have k6_0:=k63.cell 0
  have k6_1:=k63.cell 1
  have k6_2:=k63.cell 2
  simp only[q'a,q'z,q's] at k6_0 k6_1 k6_2
  have hfx:∀ k',stepF f ((⟨x0,x1,x2,x3,x4,x5,x6,x7,x8⟩:WayN),xh) k'=if k'=(x0,x1,x2) then some ((⟨x0,x1,x2,x3,x4,x5,x6,x7,x8⟩:WayN),xh) else f k':=fun k'=>by
   show (if k'=(x0,x1,x2) then some (bestStep (f k') (⟨x0,x1,x2,x3,x4,x5,x6,x7,x8⟩,xh)) else f k')=_
   by_cases hk:k'=(x0,x1,x2)
   ·rw[if_pos hk,if_pos hk,hk,hf0];rfl
   ·rw[if_neg hk,if_neg hk]
  replace hfx:=h'd hfx
  go_upto_region 5 with (at_builtin;refine wpList_append rfl (.const (.slice none 0 0)) (.tmp 29) 46 rfl w3.heap.size hopT (.slice none 0 0) 0 [] rfl (World.ownsRow_nil _ _ _ _) _ (.slice xA xn xc) xh.length (xh.flatMap hopCells) rfl hx3 hops_oneCell (by simp only[maxLen];omega) (by omega) (n'r _) ?_;intro hv w4 ho4 hg4 hob4;rw[Nat.zero_add,List.nil_append] at ho4;obtain ⟨-,A9,c9,rfl,-⟩:=id (Sl.of_own ho4);have hB4:Below w3.heap.size w3 w4:=below_of_grown hg4 (n'r _) (fun g hg=>by simp[Value.ownBlock] at hg);have k74:=Blk.call hB4 kx3;have ez4:=k74.free 9;have z9:=k74.cell 9;simp only[q'a,q'z,q's] at z9)
  have hq:w.heap.size<w4.heap.size:=Nat.lt_of_lt_of_le kx3.lt hB4.size
  have hb5:Below w.heap.size w (w4.setCell ⟨w.heap.size,9,none⟩ (.slice A9 xh.length c9)):=(hb3.trans (hB4.mono hb3.size)).setCell (n'r _) _
  have k75:Blk (w4.setCell ⟨w.heap.size,9,none⟩ (.slice A9 xh.length c9)) w.heap.size 48 #[.int .u32 x0,.int .u8 x1,.int .u32 x2,.int .u8 x3,.int .u8 x4,.int .u32 x5,.int .u32 x6,.int .u32 x7,.int .u32 x8,.slice A9 xh.length c9]:=k74.set_ 9 _
  have k65:=(Blk.call hB4 k63).far (p:=⟨w.heap.size,9,none⟩) (by show w.heap.size+1≠w.heap.size;omega) (.slice A9 xh.length c9)
  have hh5:HopsAt (⟨⟨x0,x1,x2,x3,x4,x5,x6,x7,x8⟩,A9,xh.length,c9⟩,xh) (w4.setCell ⟨w.heap.size,9,none⟩ (.slice A9 xh.length c9)):=HopsAt.of_own (own_far ho4 (p:=⟨w.heap.size,9,none⟩) kx3.lt (.slice A9 xh.length c9))
  have hown5:=hown0.out.kept (grown_of_below hb5 none) (by simp)
  have hM5:=hM0.out.move fun z hz=>HopsAt.call hz hb5
  clear y0 y1 y2 y3 y4 y5 y6 y7 y8 y9 k6_0 k6_1 k6_2 kx3 k63 k74 ez4 z9 ho4 hown3 hM3 hx3 hg4 hob4
  generalize w4.setCell ⟨w.heap.size,9,none⟩ (.slice A9 xh.length c9)=w5 at *
  have y0:=k75.cell 0
  have y1:=k75.cell 1
  have y2:=k75.cell 2
  have y3:=k75.cell 3
  have y4:=k75.cell 4
  have y5:=k75.cell 5
  have y6:=k75.cell 6
  have y7:=k75.cell 7
  have y8:=k75.cell 8
  have y9:=k75.cell 9
  simp only[q'a,q'z,q's] at y0 y1 y2 y3 y4 y5 y6 y7 y8 y9
  have k6_0:=k65.cell 0
  have k6_1:=k65.cell 1
  have k6_2:=k65.cell 2
  simp only[q'a,q'z,q's] at k6_0 k6_1 k6_2
  go_wp2_with (at_mapUpdate;refine wpList_put_way rfl _ _ _ rfl mb nn D f (stepF f ((⟨x0,x1,x2,x3,x4,x5,x6,x7,x8⟩:WayN),xh)) rfl hown5 hM5 hn (x0,x1,x2) hk rfl ⟨⟨x0,x1,x2,x3,x4,x5,x6,x7,x8⟩,A9,xh.length,c9⟩ xh rfl hh5 hfx.out ?_;intro w6 D6 hown6 hM6 hg6 hH6)
  go_end0
  exact ⟨rfl,grown_trans (grown_of_below hb5 (some mb)) hg6,D6,hown6,hM6⟩
 ·have hyl:=hf _ hf0
  dsimp only at hyl
  have hb3:Below w.heap.size w (w2.alloc (.cells (wayC y.n (.slice y.A y.len y.cap)) 48)):=below_alloc hb2 (n'r _) _
  have hb23:Below w2.heap.size w2 (w2.alloc (.cells (wayC y.n (.slice y.A y.len y.cap)) 48)):=below_alloc (b'r _ _) (n'r _) _
  have k63:=k6.alloc (.cells (wayC y.n (.slice y.A y.len y.cap)) 48)
  have kx3:=kx.alloc (.cells (wayC y.n (.slice y.A y.len y.cap)) 48)
  have k73:=Blk.new w2 48 (wayC y.n (.slice y.A y.len y.cap))
  have hown3:=hown2.alloc (.cells (wayC y.n (.slice y.A y.len y.cap)) 48)
  have hM3:=hM2.move fun z hz=>HopsAt.call hz hb23
  have hx3:=HopsAt.call hx2 hb23
  have hHy3:=hHy.call hb23
  have hz3:(w2.alloc (.cells (wayC y.n (.slice y.A y.len y.cap)) 48)).heap.size=w2.heap.size+1:=by simp
  clear k6_0 k6_1 k6_2 hown2 hM2 hx2 hb23 k6 kx hHy
  dsimp only[wayC] at hb3 k63 kx3 k73 hown3 hM3 hx3 hHy3 hz3
  generalize w2.alloc (.cells #[.int .u32 y.n.addr,.int .u8 y.n.bits,.int .u32 y.n.router,.int .u8 y.n.flags,.int .u8 y.n.kind,.int .u32 y.n.area,.int .u32 y.n.cost,.int .u32 y.n.far,.int .u32 y.n.tag,.slice y.A y.len y.cap] 48)=w3 at *
  replace hz3:=h'd hz3
  replace hx3:=hx3.sl
  dsimp only at hx3
  have y0:=kx3.cell 0
  have y1:=kx3.cell 1
  have y2:=kx3.cell 2
  have y3:=kx3.cell 3
  have y4:=kx3.cell 4
  have y5:=kx3.cell 5
  have y6:=kx3.cell 6
  have y7:=kx3.cell 7
  have y8:=kx3.cell 8
  have y9:=kx3.cell 9
  simp only[q'a,q'z,q's] at y0 y1 y2 y3 y4 y5 y6 y7 y8 y9
  have k6_0:=k63.cell 0
  have k6_1:=k63.cell 1
  have k6_2:=k63.cell 2
  simp only[q'a,q'z,q's] at k6_0 k6_1 k6_2
  have z0:=k73.cell 0
  have z1:=k73.cell 1
  have z2:=k73.cell 2
  have z3:=k73.cell 3
  have z4:=k73.cell 4
  have z5:=k73.cell 5
  have z6:=k73.cell 6
  have z7:=k73.cell 7
  have z8:=k73.cell 8
  have z9:=k73.cell 9
  simp only[q'a,q'z,q's] at z0 z1 z2 z3 z4 z5 z6 z7 z8 z9
  by_cases hlt1:x6<y.n.cost
  ·have hb1:decide (x6<y.n.cost)=true:=d't hlt1
   replace hlt1:=h'd hlt1
   go_upto_region 4 with fail
   clear z0 z1 z2 z3 z4 z5 z6 z7 z8 z9 k73 hHy3 hb1
   have hfx:∀ k',stepF f ((⟨x0,x1,x2,x3,x4,x5,x6,x7,x8⟩:WayN),xh) k'=if k'=(x0,x1,x2) then some ((⟨x0,x1,x2,x3,x4,x5,x6,x7,x8⟩:WayN),xh) else f k':=fun k'=>by
    show (if k'=(x0,x1,x2) then some (bestStep (f k') (⟨x0,x1,x2,x3,x4,x5,x6,x7,x8⟩,xh)) else f k')=_
    by_cases hk:k'=(x0,x1,x2)
    ·rw[if_pos hk,if_pos hk,hk,hf0]
     simp only[bestStep]
     rw[if_pos hlt1.out]
    ·rw[if_neg hk,if_neg hk]
   replace hfx:=h'd hfx
   go_upto_region 5 with (at_builtin;refine wpList_append rfl (.const (.slice none 0 0)) (.tmp 29) 46 rfl w3.heap.size hopT (.slice none 0 0) 0 [] rfl (World.ownsRow_nil _ _ _ _) _ (.slice xA xn xc) xh.length (xh.flatMap hopCells) rfl hx3 hops_oneCell (by simp only[maxLen];omega) (by omega) (n'r _) ?_;intro hv w4 ho4 hg4 hob4;rw[Nat.zero_add,List.nil_append] at ho4;obtain ⟨-,A9,c9,rfl,-⟩:=id (Sl.of_own ho4);have hB4:Below w3.heap.size w3 w4:=below_of_grown hg4 (n'r _) (fun g hg=>by simp[Value.ownBlock] at hg);have k74:=Blk.call hB4 kx3;have ez4:=k74.free 9;have z9:=k74.cell 9;simp only[q'a,q'z,q's] at z9)
   have hq:w.heap.size<w4.heap.size:=Nat.lt_of_lt_of_le kx3.lt hB4.size
   have hb5:Below w.heap.size w (w4.setCell ⟨w.heap.size,9,none⟩ (.slice A9 xh.length c9)):=(hb3.trans (hB4.mono hb3.size)).setCell (n'r _) _
   have k75:Blk (w4.setCell ⟨w.heap.size,9,none⟩ (.slice A9 xh.length c9)) w.heap.size 48 #[.int .u32 x0,.int .u8 x1,.int .u32 x2,.int .u8 x3,.int .u8 x4,.int .u32 x5,.int .u32 x6,.int .u32 x7,.int .u32 x8,.slice A9 xh.length c9]:=k74.set_ 9 _
   have k65:=(Blk.call hB4 k63).far (p:=⟨w.heap.size,9,none⟩) (by show w.heap.size+1≠w.heap.size;omega) (.slice A9 xh.length c9)
   have hh5:HopsAt (⟨⟨x0,x1,x2,x3,x4,x5,x6,x7,x8⟩,A9,xh.length,c9⟩,xh) (w4.setCell ⟨w.heap.size,9,none⟩ (.slice A9 xh.length c9)):=HopsAt.of_own (own_far ho4 (p:=⟨w.heap.size,9,none⟩) kx3.lt (.slice A9 xh.length c9))
   have hown5:=hown0.out.kept (grown_of_below hb5 none) (by simp)
   have hM5:=hM0.out.move fun z hz=>HopsAt.call hz hb5
   clear y0 y1 y2 y3 y4 y5 y6 y7 y8 y9 k6_0 k6_1 k6_2 kx3 k63 k74 ez4 z9 ho4 hown3 hM3 hx3 hg4 hob4
   generalize w4.setCell ⟨w.heap.size,9,none⟩ (.slice A9 xh.length c9)=w5 at *
   have y0:=k75.cell 0
   have y1:=k75.cell 1
   have y2:=k75.cell 2
   have y3:=k75.cell 3
   have y4:=k75.cell 4
   have y5:=k75.cell 5
   have y6:=k75.cell 6
   have y7:=k75.cell 7
   have y8:=k75.cell 8
   have y9:=k75.cell 9
   simp only[q'a,q'z,q's] at y0 y1 y2 y3 y4 y5 y6 y7 y8 y9
   have k6_0:=k65.cell 0
   have k6_1:=k65.cell 1
   have k6_2:=k65.cell 2
   simp only[q'a,q'z,q's] at k6_0 k6_1 k6_2
   go_wp2_with (at_mapUpdate;refine wpList_put_way rfl _ _ _ rfl mb nn D f (stepF f ((⟨x0,x1,x2,x3,x4,x5,x6,x7,x8⟩:WayN),xh)) rfl hown5 hM5 hn (x0,x1,x2) hk rfl ⟨⟨x0,x1,x2,x3,x4,x5,x6,x7,x8⟩,A9,xh.length,c9⟩ xh rfl hh5 hfx.out ?_;intro w6 D6 hown6 hM6 hg6 hH6)
   go_end0
   exact ⟨rfl,grown_trans (grown_of_below hb5 (some mb)) hg6,D6,hown6,hM6⟩
  ·have hb1:decide (x6<y.n.cost)=false:=d'f hlt1
   by_cases heq:x6=y.n.cost
   ·have hb0:(x6==y.n.cost)=true:=beq_iff_eq.2 heq
    replace hlt1:=h'd hlt1
    replace heq:=h'd heq
    go_upto_region 7 with fail
    have CJ:=h'd (join_any yh xh (.slice y.A y.len y.cap) (.slice xA xn xc) w3 hHy3.sl hx3 (by omega))
    have hz37:w2.heap.size<w3.heap.size:=by have h1:=hz3.out;omega
    go_upto_region 8 with (go_at_call 29;refine c'm CJ.out ?_;rintro e w6 ⟨v6,rfl,ho6,hB6⟩;obtain ⟨-,A6,c6,rfl,-⟩:=id (Sl.of_own ho6);have k76:=Blk.call hB6 k73;have ez6:=k76.free 9;have z9:=k76.cell 9;simp only[q'a,q'z,q's] at z9)
    have hq:w2.heap.size<w6.heap.size:=Nat.lt_of_lt_of_le hz37 hB6.size
    have hb7:Below w.heap.size w (w6.setCell ⟨w2.heap.size,9,none⟩ (.slice A6 (puts (puts [] yh) xh).length c6)):=(hb3.trans (hB6.mono hb3.size)).setCell (by have h1:=hz2.out;show w.heap.size≤w2.heap.size;omega) _
    have k77:Blk (w6.setCell ⟨w2.heap.size,9,none⟩ (.slice A6 (puts (puts [] yh) xh).length c6)) w2.heap.size 48 #[.int .u32 y.n.addr,.int .u8 y.n.bits,.int .u32 y.n.router,.int .u8 y.n.flags,.int .u8 y.n.kind,.int .u32 y.n.area,.int .u32 y.n.cost,.int .u32 y.n.far,.int .u32 y.n.tag,.slice A6 (puts (puts [] yh) xh).length c6]:=k76.set_ 9 _
    have k67:=(Blk.call hB6 k63).far (p:=⟨w2.heap.size,9,none⟩) (by have h1:=hz2.out;show w.heap.size+1≠w2.heap.size;omega) (.slice A6 (puts (puts [] yh) xh).length c6)
    have hH7:HopsAt (⟨y.n,A6,(puts (puts [] yh) xh).length,c6⟩,puts (puts [] yh) xh) (w6.setCell ⟨w2.heap.size,9,none⟩ (.slice A6 (puts (puts [] yh) xh).length c6)):=HopsAt.of_own (own_far ho6 (p:=⟨w2.heap.size,9,none⟩) hz37 (.slice A6 (puts (puts [] yh) xh).length c6))
    have hown7:=hown0.out.kept (grown_of_below hb7 none) (by simp)
    have hM7:=hM0.out.move fun z hz=>HopsAt.call hz hb7
    have hfx:∀ k',stepF f ((⟨x0,x1,x2,x3,x4,x5,x6,x7,x8⟩:WayN),xh) k'=if k'=(x0,x1,x2) then some (y.n,puts (puts [] yh) xh) else f k':=fun k'=>by
     show (if k'=(x0,x1,x2) then some (bestStep (f k') (⟨x0,x1,x2,x3,x4,x5,x6,x7,x8⟩,xh)) else f k')=_
     by_cases hk:k'=(x0,x1,x2)
     ·rw[if_pos hk,if_pos hk,hk,hf0]
      simp only[bestStep]
      rw[if_neg (show ¬ x6<y.n.cost by have:=hlt1.out;omega),if_neg (show ¬ y.n.cost<x6 by have:=heq.out;omega)]
     ·rw[if_neg hk,if_neg hk]
    replace hfx:=h'd hfx
    clear y0 y1 y2 y3 y4 y5 y6 y7 y8 y9 z0 z1 z2 z3 z4 z5 z6 z7 z8 z9 k6_0 k6_1 k6_2 k73 k76 k63 kx3 ez6 ho6 hown3 hM3 hx3 hHy3 CJ hb0 hb1
    generalize w6.setCell ⟨w2.heap.size,9,none⟩ (.slice A6 (puts (puts [] yh) xh).length c6)=w7 at *
    have z0:=k77.cell 0
    have z1:=k77.cell 1
    have z2:=k77.cell 2
    have z3:=k77.cell 3
    have z4:=k77.cell 4
    have z5:=k77.cell 5
    have z6:=k77.cell 6
    have z7:=k77.cell 7
    have z8:=k77.cell 8
    have z9:=k77.cell 9
    simp only[q'a,q'z,q's] at z0 z1 z2 z3 z4 z5 z6 z7 z8 z9
    have k6_0:=k67.cell 0
    have k6_1:=k67.cell 1
    have k6_2:=k67.cell 2
    simp only[q'a,q'z,q's] at k6_0 k6_1 k6_2
    go_wp2_with (at_mapUpdate;refine wpList_put_way rfl _ _ _ rfl mb nn D f (stepF f ((⟨x0,x1,x2,x3,x4,x5,x6,x7,x8⟩:WayN),xh)) rfl hown7 hM7 hn (x0,x1,x2) hk rfl ⟨y.n,A6,(puts (puts [] yh) xh).length,c6⟩ (puts (puts [] yh) xh) rfl hH7 hfx.out ?_;intro w8 D8 hown8 hM8 hg8 hH8)
    go_end0
    exact ⟨rfl,grown_trans (grown_of_below hb7 (some mb)) hg8,D8,hown8,hM8⟩
   ·have hb0:(x6==y.n.cost)=false:=beq_eq_false_iff_ne.2 heq
    replace hlt1:=h'd hlt1
    replace heq:=h'd heq
    go_wp2
    go_end0
    refine ⟨rfl,grown_of_below hb3 (some mb),D,hown3.mono (Nat.le_succ _),?_⟩
    have hfx:stepF f ((⟨x0,x1,x2,x3,x4,x5,x6,x7,x8⟩:WayN),xh)=f:=funext fun k'=>by
     show (if k'=(x0,x1,x2) then some (bestStep (f k') (⟨x0,x1,x2,x3,x4,x5,x6,x7,x8⟩,xh)) else f k')=_
     by_cases hk:k'=(x0,x1,x2)
     ·rw[if_pos hk,hk,hf0]
      simp only[bestStep]
      rw[if_neg (show ¬ x6<y.n.cost by have:=hlt1.out;omega),if_pos (show y.n.cost<x6 by have h1:=hlt1.out;have h2:=heq.out;omega)]
     ·rw[if_neg hk]
    show MapOk w3 D (stepF f ((⟨x0,x1,x2,x3,x4,x5,x6,x7,x8⟩:WayN),xh))
    rw[hfx]
    exact hM3
set_option maxRecDepth 100000
structure LR (W0:World) (f:K3→Option WayG) (D:DataW Value) (b n1 n N m:Nat) (v:Value) (wr:World) (left:Lit→Bool) (out:List WayY):Prop where
 rg:wr.ranges Tryz.prog 186 rawR b n1 n D left m
 has:∀ kl,left kl=true→Maps.has D kl=true
 own:wr.ownsRow (n1+1) 48 10 v out.length (out.flatMap yL)
 below:Below n1 W0 wr
 lt:n1<wr.heap.size
 hops:∀ x∈out,HopsAt x W0
 outs:∀ x∈out,InK (keyG x.1.n)∧f (keyG x.1.n)=some (x.1.n,x.2)∧left (klit (keyG x.1.n))=false
 all:∀ k g,f k=some g→left (klit k)=false→∃ x∈out,keyG x.1.n=k
 nodup:(out.map fun x=>keyG x.1.n).Nodup
 len:out.length+m≤N
def RisePost (f:K3→Option WayG) (N:Nat) (w:World) (e:Ending) (w':World):Prop:=
 ∃ (v:Value) (out:List WayY),e=.returned v∧w'.ownsRow w.heap.size 48 10 v out.length (out.flatMap yL)∧(∀ x∈out,HopsAt x w')∧OutF f (gOf out)∧out.length≤N∧Below w.heap.size w w'
theorem out_rise {out:List WayY} (h:out.Pairwise fun a b=>ltK b.1 a.1=false) (hn:(out.map fun x=>keyG x.1.n).Nodup):(gOf out).Pairwise fun a b=>ltG a b=true:=by
 unfold gOf
 rw[List.pairwise_map]
 rw[List.Nodup,List.pairwise_map] at hn
 refine (h.and hn).imp fun {a b} hab => ?_
 have h1:=(ltG_iff _ _).1 (ltK_tot hab.1 hab.2)
 exact (ltG_iff _ _).2 h1
set_option maxHeartbeats 4000000 in
theorem rising_any (mb n:Nat) (D:DataW Value) (f:K3→Option WayG) (w:World) (hown:w.ownsMap Tryz.prog 186 rawR mb n D) (hM:MapOk w D f) (hfk:∀ k g,f k=some g→keyG g.1=k) (hn:n≤1000000) :
  Calls Tryz.prog 53 #[.map (some mb)] w (RisePost f n w):=by
 have hsz:=hown.size_le
 have hml:=hown.lt
 replace hfk:=h'd hfk
 go_enter Tryz.func53,Tryz.ntmps53
 go_wp2_with (first | (at_range;refine wpList_range_own _ rfl _ 113 rfl 186 48 to_keyed Tryz.underlying113 rawR mb n D rfl hown ?_;intro w2 hrg2 hg2 hs2) | fail)
 go_frame
 go_loopg [3] (Maps.size D) (fun c v wr=>∃ left out,LR w f D mb w.heap.size n n c v wr left out)
 case atStart=>exact ⟨Maps.has D,[],hrg2,fun _ h=>h,World.ownsRow_nil _ _ _ _,below_of_grown hg2 (n'r _) (fun _ e=>by cases e),by omega,fun _ h=>(by cases h),fun _ h=>(by cases h),fun k g hk hl=>(by
  obtain ⟨x,-,-,h3,-⟩:=hM.some_ k g (hM.ink k g hk) hk
  rw[hl] at h3;cases h3),List.nodup_nil,by simp;omega⟩
 case round =>
  obtain ⟨left,out,hR⟩:=hrel
  obtain ⟨w3,rfl⟩:∃ x:World,x=wr:=⟨_,rfl⟩
  have hlen:=hR.len
  have CS:=h'd (sortY_any (w.heap.size+1) u3 out w3 hR.own (by omega))
  go_upto_region 4 with (at_next;refine wpList_next_way rfl _ rfl mb w.heap.size n D left _ f rfl hR.rg hM hR.has (fun hl => ?_) (fun k y hops w4 cnt' hk hf hHy hlk hrg4 hlt4 hg4 hs4 hen4 => ?_))
  ·refine c'm CS.out ?_
   rintro e w5 ⟨rfl,out',hp,hpw,ho',hg'⟩
   have hbl:=hR.below
   have hlt3:=hR.lt
   have hown9:∀ g,u3.ownBlock=some g→w.heap.size+1≤g∧g<w3.heap.size:=fun g hg=>hR.own.lt g hg
   have hb5:Below w.heap.size w3 w5:=below_of_grown hg' (Nat.le_of_lt hlt3) fun g hg=>by have:=(hown9 g hg).1;omega
   go_wp2
   go_ret
   have hpl:=hp.length_eq
   refine ⟨u3,out',rfl,?_,fun x hx=>(hR.hops x (hp.mem_iff.1 hx)).call (hbl.trans hb5),⟨out_rise hpw ((hp.map _).nodup_iff.2 hR.nodup),fun x hx => ?_,fun k g hk => ?_⟩,by omega,hbl.trans hb5⟩
   ·rw[hpl]
    exact own_less ho' (by omega)
   ·obtain ⟨z,hz,rfl⟩:=List.mem_map.1 hx
    exact (hR.outs z (hp.mem_iff.1 hz)).2.1
   ·obtain ⟨x,hx,hk2⟩:=hR.all k g hk (hl _)
    have h2:=(hR.outs x hx).2.1
    rw[hk2,hk] at h2
    exact List.mem_map.2 ⟨x,hp.mem_iff.2 hx,(o'i h2).symm⟩
  ·have ho4:w4.ownsRow (w.heap.size+1) 48 10 u3 out.length (out.flatMap yL):=own_same hR.own fun g hg=>hg4.block g (hR.own.lt g hg).2 fun e=>by
    simp only[o'j] at e
    have:=(hR.own.lt g hg).1
    omega
   have hb4:Below w.heap.size w w4:=hR.below.trans (below_of_grown hg4 (Nat.le_of_lt hR.lt) fun g e=>by simp only[o'j] at e;omega)
   have hlt4':w.heap.size<w4.heap.size:=by have:=hR.lt;omega
   clear hs4
   have hyk:keyG y.n=k:=hfk.out _ _ hf
   clear CS
   replace hyk:=h'd hyk
   go_upto_region 5 with fail
   have kt:=Blk.new w4 48 #[.int .u32 y.n.addr,.int .u8 y.n.bits,.int .u32 y.n.router,.int .u8 y.n.flags,.int .u8 y.n.kind,.int .u32 y.n.area,.int .u32 y.n.cost,.int .u32 y.n.far,.int .u32 y.n.tag,.slice y.A y.len y.cap]
   have ho5:=own_alloc ho4 (.cells #[.int .u32 y.n.addr,.int .u8 y.n.bits,.int .u32 y.n.router,.int .u8 y.n.flags,.int .u8 y.n.kind,.int .u32 y.n.area,.int .u32 y.n.cost,.int .u32 y.n.far,.int .u32 y.n.tag,.slice y.A y.len y.cap] 48)
   have hrg5:=hrg4.alloc (.cells #[.int .u32 y.n.addr,.int .u8 y.n.bits,.int .u32 y.n.router,.int .u8 y.n.flags,.int .u8 y.n.kind,.int .u32 y.n.area,.int .u32 y.n.cost,.int .u32 y.n.far,.int .u32 y.n.tag,.slice y.A y.len y.cap] 48)
   have hb5:Below w.heap.size w (w4.alloc (.cells #[.int .u32 y.n.addr,.int .u8 y.n.bits,.int .u32 y.n.router,.int .u8 y.n.flags,.int .u8 y.n.kind,.int .u32 y.n.area,.int .u32 y.n.cost,.int .u32 y.n.far,.int .u32 y.n.tag,.slice y.A y.len y.cap] 48)):=hb4.alloc hb4.size _
   have hlt5:w.heap.size<(w4.alloc (.cells #[.int .u32 y.n.addr,.int .u8 y.n.bits,.int .u32 y.n.router,.int .u8 y.n.flags,.int .u8 y.n.kind,.int .u32 y.n.area,.int .u32 y.n.cost,.int .u32 y.n.far,.int .u32 y.n.tag,.slice y.A y.len y.cap] 48)).heap.size:=by simp;omega
   generalize w4.alloc (.cells #[.int .u32 y.n.addr,.int .u8 y.n.bits,.int .u32 y.n.router,.int .u8 y.n.flags,.int .u8 y.n.kind,.int .u32 y.n.area,.int .u32 y.n.cost,.int .u32 y.n.far,.int .u32 y.n.tag,.slice y.A y.len y.cap] 48)=w5 at *
   have hrg6:=hrg5.alloc (.cells #[.int .u32 y.n.addr,.int .u8 y.n.bits,.int .u32 y.n.router,.int .u8 y.n.flags,.int .u8 y.n.kind,.int .u32 y.n.area,.int .u32 y.n.cost,.int .u32 y.n.far,.int .u32 y.n.tag,.slice y.A y.len y.cap] 48)
   have hb6:Below w.heap.size w (w5.alloc (.cells #[.int .u32 y.n.addr,.int .u8 y.n.bits,.int .u32 y.n.router,.int .u8 y.n.flags,.int .u8 y.n.kind,.int .u32 y.n.area,.int .u32 y.n.cost,.int .u32 y.n.far,.int .u32 y.n.tag,.slice y.A y.len y.cap] 48)):=hb5.alloc hb5.size _
   have t0:=kt.cell 0
   have t1:=kt.cell 1
   have t2:=kt.cell 2
   have t3:=kt.cell 3
   have t4:=kt.cell 4
   have t5:=kt.cell 5
   have t6:=kt.cell 6
   have t7:=kt.cell 7
   have t8:=kt.cell 8
   have t9:=kt.cell 9
   simp only[q'a,q'z,q's] at t0 t1 t2 t3 t4 t5 t6 t7 t8 t9
   go_wp2_with (first
    | (at_builtin;refine wpList_append rfl (.tmp 12) (.tmp 14) 36 rfl (w.heap.size+1) wayT u3 out.length (out.flatMap yL) rfl (own_alloc ho5 _) _ _ 1 [.int .u32 y.n.addr,.int .u8 y.n.bits,.int .u32 y.n.router,.int .u8 y.n.flags,.int .u8 y.n.kind,.int .u32 y.n.area,.int .u32 y.n.cost,.int .u32 y.n.far,.int .u32 y.n.tag,.slice y.A y.len y.cap] rfl (Sl.lit w5 #[.int .u32 y.n.addr,.int .u8 y.n.bits,.int .u32 y.n.router,.int .u8 y.n.flags,.int .u8 y.n.kind,.int .u32 y.n.area,.int .u32 y.n.cost,.int .u32 y.n.far,.int .u32 y.n.tag,.slice y.A y.len y.cap] 48 (by simp[maxLen]) rfl) (by simp[Value.oneCell']) (by simp only[maxLen];omega) (by omega) (by simp;omega) ?_;intro v7 w7 ho7 hg7 hob7))
   have hbb:∀ g,u3.ownBlock=some g→w.heap.size+1≤g:=fun g hg=>(ho5.lt g hg).1
   have hb7:Below w.heap.size w w7:=hb6.trans (below_of_grown hg7 (by simp;omega) fun g hg=>by have:=hbb g hg;omega)
   have hrg7:=hrg6.kept hg7 (fun e=>by have:=hbb _ e.symm;omega) (fun e=>by have:=hbb _ e.symm;omega)
   have hk1:(klit k).sameKey (klit k)=true:=WideAt.sameKey_self (klit_key k hk)
   go_roundg cnt'
   case measure=>omega
   case rel =>
    refine ⟨_,out++[((y,hops):WayY)],hrg7,fun kl h=>hR.has kl (by simp at h;exact h.1),?_,hb7,by have:=hg7.size;simp at this;omega,fun x hx => ?_,fun x hx => ?_,fun k' g hk' hl' => ?_,?_,by simp;omega⟩
    ·rw[l'a,List.flatMap_append]
     exact ho7
    ·rcases List.mem_append.1 hx with hx | hx
     ·exact hR.hops x hx
     ·rw[List.mem_singleton.1 hx];exact hHy
    ·rcases List.mem_append.1 hx with hx | hx
     ·obtain ⟨h1,h2,h3⟩:=hR.outs x hx
      exact ⟨h1,h2,by rw[h3];rfl⟩
     ·rw[List.mem_singleton.1 hx]
      show InK (keyG y.n)∧f (keyG y.n)=some (y.n,hops)∧_
      rw[hyk.out]
      exact ⟨hk,hf,by rw[hk1];simp⟩
    ·cases hlk':left (klit k') with
     | false =>
      obtain ⟨x,hx,hx2⟩:=hR.all k' g hk' hlk'
      exact ⟨x,List.mem_append.2 (.inl hx),hx2⟩
     | true =>
      rw[hlk'] at hl'
      simp only[Bool.true_and,Bool.not_eq_false'] at hl'
      have:=klit_inj (hM.ink k' g hk') hk (WideAt.sameKey_eq hl')
      exact ⟨(y,hops),by simp,by rw[this];exact hyk.out⟩
    ·rw[List.map_append,List.nodup_append]
     refine ⟨hR.nodup,by simp,fun a ha b hb e => ?_⟩
     obtain ⟨x,hx,rfl⟩:=List.mem_map.1 ha
     simp only[List.map_cons,List.map_nil,List.mem_singleton] at hb
     have h3:=(hR.outs x hx).2.2
     rw[e,hb,hyk.out,hlk] at h3
     cases h3
end Go.Proofs.YtcknpofnpabkiaaGreat
