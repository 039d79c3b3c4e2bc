/- The least way to each place; the ways between areas. -/
import Derived.Maps.RangeWalk
import Derived.Test.YtiikagabdiphkaaGreatOnBB
import Derived.Test.YtiikagabdiphkaaGreatOnAM
import Derived.Test.YtiikagabdiphkaaGreatOnAZ
namespace Go.Proofs.YtiikagabdiphkaaGreat
open Go.RowKit Go.Lo Go.Maps
theorem bitsV_u8 (m:Int):0≤bitsV m∧bitsV m<256:=by
 unfold bitsV bitsN
 split <;> omega
section
variable {F:Fence} {n:Nat} {ops:Array Oper} {rest:List Oper} {o:Oper} {a:Act} {Q:Exit→Act→World→Prop} {w:World}
end
section
variable {ops:Array Oper} {rest:List Oper} {o:Oper} {a:Act} {Q:Exit→Act→World→Prop} {w:World}
end
end Go.Proofs.YtiikagabdiphkaaGreat
namespace Go.Proofs.YtiikagabdiphkaaGreat
open Go.RowKit Go.Lo
abbrev yL (x:WayY):List Value:=wayL x.1
theorem yE:RowE yL 10:=⟨fun x=>wayE.len x.1,fun x=>wayE.one x.1,wayE.pos⟩
end Go.Proofs.YtiikagabdiphkaaGreat
namespace Go.Proofs.YtiikagabdiphkaaGreat
open Go.RowKit Go.Lo Go.Maps
attribute [local go_sem] Oper.semAt_some
theorem gOf_snoc (pre:List WayY) (x:WayY):gOf (pre++[x])=gOf pre++[(x.1.n,x.2)]:=by simp[gOf]
end Go.Proofs.YtiikagabdiphkaaGreat
namespace Go.Proofs.YtiikagabdiphkaaGreat
open Go.RowKit Go.Lo
end Go.Proofs.YtiikagabdiphkaaGreat
namespace Go.Proofs.YtiikagabdiphkaaGreat
open Go.RowKit Go.Lo
end Go.Proofs.YtiikagabdiphkaaGreat
namespace Go.Proofs.YtiikagabdiphkaaGreat
open Go.RowKit Go.Lo Go.Maps
section
variable {ops:Array Oper} {rest:List Oper} {o:Oper} {a:Act} {Q:Exit→Act→World→Prop} {w:World}
end
structure ImpR (w0:World) (xs:List WayY) (v:Value) (wr:World):Prop where
 own:wr.ownsRow w0.heap.size 38 10 v xs.length (xs.flatMap yL)
 hops:∀ x∈xs,wr.ownsRow w0.heap.size 47 3 (.slice x.1.A x.1.len x.1.cap) x.2.length (x.2.flatMap hopCells)
 below:Below w0.heap.size w0 wr
theorem ImpR.grown {w0 wr w':World} {xs:List WayY} {v:Value} {row:Option Nat} (h:ImpR w0 xs v wr) (hg:wr.grownBy w' row) (hr:∀ b,row=some b→w0.heap.size≤b∧v.ownBlock≠some b∧∃ cs,Blk wr b 38 cs):ImpR w0 xs v w':=by
 refine ⟨own_same h.own fun k hk=>hg.block k (h.own.lt k hk).2 fun e=>(hr k e.symm).2.1 hk,fun x hx=>own_same (h.hops x hx) fun k hk=>hg.block k ((h.hops x hx).lt k hk).2 fun e => ?_,h.below.trans (below_of_grown hg h.below.size fun g hg=>(hr g hg).1)⟩
 obtain ⟨-,-,cs,hb⟩:=hr k e.symm
 exact own_ne (h.hops x hx) hb (by decide) k hk rfl
theorem ImpR.call {w0 wr w':World} {xs:List WayY} {v:Value} (h:ImpR w0 xs v wr) (hb:Below wr.heap.size wr w'):ImpR w0 xs v w':=h.grown (grown_of_below hb none) fun _ e=>by cases e
theorem ImpR.alloc {w0 wr:World} {xs:List WayY} {v:Value} (h:ImpR w0 xs v wr) (o:Obj):ImpR w0 xs v (wr.alloc o):=h.call ((Below.refl _ _).alloc (Nat.le_refl _) o)
theorem ImpR.grow {w0 wr w':World} {xs xs':List WayY} {x:WayY} {v v':Value} (h:ImpR w0 xs v wr) (hx:xs'=xs++[x]) (hh:wr.ownsRow w0.heap.size 47 3 (.slice x.1.A x.1.len x.1.cap) x.2.length (x.2.flatMap hopCells)) (ho:w'.ownsRow w0.heap.size 38 10 v' xs'.length (xs'.flatMap yL)) (hg:wr.grownBy w' v.ownBlock):ImpR w0 xs' v' w':=by
 refine ⟨ho,fun z hz => ?_,h.below.trans (below_of_grown hg h.below.size fun g hg=>(h.own.lt g hg).1)⟩
 subst hx
 rcases List.mem_append.1 hz with hz | hz
 ·exact own_grown h.own (h.hops z hz) hg (by decide)
 ·rw[List.mem_singleton.1 hz]
  exact own_grown h.own hh hg (by decide)
end Go.Proofs.YtiikagabdiphkaaGreat
set_option maxRecDepth 100000
namespace Go.Proofs.YtiikagabdiphkaaGreat
open Go.RowKit Go.Lo
def keyCmp2 (x y:WayN):Int:=orI [cmpI x.addr y.addr,cmpI x.bits y.bits]
def ltO (x y:WayV):Bool:=decide (keyCmp2 x.n y.n<0)
theorem ltO_iff (x y:WayV):ltO x y=true↔(x.n.addr<y.n.addr∨(x.n.addr=y.n.addr∧x.n.bits<y.n.bits)):=by
 unfold ltO keyCmp2
 rw[decide_eq_true_eq]
 rcases cmpI_cases x.n.addr y.n.addr with ⟨h1,e1⟩ | ⟨h1,e1⟩ | ⟨h1,e1⟩ <;> rcases cmpI_cases x.n.bits y.n.bits with ⟨h2,e2⟩ | ⟨h2,e2⟩ | ⟨h2,e2⟩ <;> simp[e1,e2,orI] <;> omega
theorem swo_ltO:Sort.SWO ltO where
 irrefl x:=by
  cases h:ltO x x with
  | false=>rfl
  | true=>have:=(ltO_iff x x).1 h;omega
 trans x y z h1 h2:=by
  have a1:=(ltO_iff x y).1 h1
  have a2:=(ltO_iff y z).1 h2
  exact (ltO_iff x z).2 (by omega)
 ntrans x y z h1 h2:=by
  have a1:¬ (x.n.addr<y.n.addr∨(x.n.addr=y.n.addr∧x.n.bits<y.n.bits)):=fun h=>by rw[(ltO_iff x y).2 h] at h1;cases h1
  have a2:¬ (y.n.addr<z.n.addr∨(y.n.addr=z.n.addr∧y.n.bits<z.n.bits)):=fun h=>by rw[(ltO_iff y z).2 h] at h2;cases h2
  cases h:ltO x z with
  | false=>rfl
  | true=>have:=(ltO_iff x z).1 h;omega
theorem ocmp_any (x y:WayV) (w:World):Calls Tryz.prog 123 #[.agg x.cells,.agg y.cells] w fun e w'=>e=.returned (.int .i64 (keyCmp2 x.n y.n))∧Below w.heap.size w w':=by
 obtain ⟨⟨x0,x1,x2,x3,x4,x5,x6,x7,x8⟩,xA,xn,xc⟩:=x
 obtain ⟨⟨y0,y1,y2,y3,y4,y5,y6,y7,y8⟩,yA,yn,yc⟩:=y
 dsimp only[WayV.cells,wayC,keyCmp2]
 have k0:Blk ((w.alloc (.cells #[.int .u32 x0,.int .u8 x1,.int .u32 x2,.int .u8 x3,.int .u8 x4,.int .u32 x5,.int .u32 x6,.int .u32 x7,.int .u32 x8,.slice xA xn xc] 38)).alloc (.cells #[.int .u32 y0,.int .u8 y1,.int .u32 y2,.int .u8 y3,.int .u8 y4,.int .u32 y5,.int .u32 y6,.int .u32 y7,.int .u32 y8,.slice yA yn yc] 38)) w.heap.size 38 #[.int .u32 x0,.int .u8 x1,.int .u32 x2,.int .u8 x3,.int .u8 x4,.int .u32 x5,.int .u32 x6,.int .u32 x7,.int .u32 x8,.slice xA xn xc]:=(Blk.new _ _ _).alloc _
 have k1:Blk ((w.alloc (.cells #[.int .u32 x0,.int .u8 x1,.int .u32 x2,.int .u8 x3,.int .u8 x4,.int .u32 x5,.int .u32 x6,.int .u32 x7,.int .u32 x8,.slice xA xn xc] 38)).alloc (.cells #[.int .u32 y0,.int .u8 y1,.int .u32 y2,.int .u8 y3,.int .u8 y4,.int .u32 y5,.int .u32 y6,.int .u32 y7,.int .u32 y8,.slice yA yn yc] 38)) (w.heap.size+1) 38 #[.int .u32 y0,.int .u8 y1,.int .u32 y2,.int .u8 y3,.int .u8 y4,.int .u32 y5,.int .u32 y6,.int .u32 y7,.int .u32 y8,.slice yA yn yc]:=heap_alloc2_new w _ _
 have kB:Below w.heap.size w ((w.alloc (.cells #[.int .u32 x0,.int .u8 x1,.int .u32 x2,.int .u8 x3,.int .u8 x4,.int .u32 x5,.int .u32 x6,.int .u32 x7,.int .u32 x8,.slice xA xn xc] 38)).alloc (.cells #[.int .u32 y0,.int .u8 y1,.int .u32 y2,.int .u8 y3,.int .u8 y4,.int .u32 y5,.int .u32 y6,.int .u32 y7,.int .u32 y8,.slice yA yn yc] 38)):=((Below.refl _ _).alloc (Nat.le_refl _) _).alloc (by simp) _
 go_enter Tryz.func123,Tryz.ntmps123
 go_upto_region 1 with fail
 generalize (w.alloc (.cells #[.int .u32 x0,.int .u8 x1,.int .u32 x2,.int .u8 x3,.int .u8 x4,.int .u32 x5,.int .u32 x6,.int .u32 x7,.int .u32 x8,.slice xA xn xc] 38)).alloc (.cells #[.int .u32 y0,.int .u8 y1,.int .u32 y2,.int .u8 y3,.int .u8 y4,.int .u32 y5,.int .u32 y6,.int .u32 y7,.int .u32 y8,.slice yA yn yc] 38)=w1 at k0 k1 kB ⊢
 have c0:=k0.cell 0
 have c1:=k0.cell 1
 have d0:=k1.cell 0
 have d1:=k1.cell 1
 have hz:=k1.lt
 simp only[q'a,q'z,q's] at c0 c1 d0 d1
 clear k0 k1
 have q0:∀ W,Below (w.heap.size+1+1) w1 W→W.cell? ⟨w.heap.size,0,none⟩=some (.int .u32 x0):=fun W h=>(h.cell (p:=⟨w.heap.size,0,none⟩) (by show w.heap.size<w.heap.size+1+1;omega)).trans c0
 have q1:∀ W,Below (w.heap.size+1+1) w1 W→W.cell? ⟨w.heap.size,1,none⟩=some (.int .u8 x1):=fun W h=>(h.cell (p:=⟨w.heap.size,1,none⟩) (by show w.heap.size<w.heap.size+1+1;omega)).trans c1
 have r0:∀ W,Below (w.heap.size+1+1) w1 W→W.cell? ⟨w.heap.size+1,0,none⟩=some (.int .u32 y0):=fun W h=>(h.cell (p:=⟨w.heap.size+1,0,none⟩) (by show w.heap.size+1<w.heap.size+1+1;omega)).trans d0
 have r1:∀ W,Below (w.heap.size+1+1) w1 W→W.cell? ⟨w.heap.size+1,1,none⟩=some (.int .u8 y1):=fun W h=>(h.cell (p:=⟨w.heap.size+1,1,none⟩) (by show w.heap.size+1<w.heap.size+1+1;omega)).trans d1
 clear c0 c1 d0 d1
 have hle:w.heap.size+1+1≤w1.heap.size:=by omega
 go_region_held3 (fun W=>Below (w.heap.size+1+1) w1 W) (first | assumption | exact (Below.refl _ _).drew | exact Below.refl _ _ | exact (below_alloc (Below.refl _ _) hle _).drew | fail)
  (first
   | (go_at_call 81;refine Calls.mono (compare8_any _ _ _) ?_;rintro e w2 ⟨rfl,rfl⟩)
   | (go_at_call 79;refine Calls.mono (compare32_any _ _ _) ?_;rintro e w3 ⟨rfl,rfl⟩)
   | (go_at_call 80;refine Calls.mono (or_any [cmpI x0 y0,cmpI x1 y1] _ 2 _ (by simp) (fun i hi=>by simp only[List.length_cons,List.length_nil] at hi;show (w1.alloc _).cell? _=_;rw[World.cell?_alloc_at _ _ _ _ rfl];rcases (show i=0∨i=1 by omega) with rfl | rfl <;> rfl)) ?_;rintro e w4 ⟨rfl,rfl⟩)
   | fail)
 go_wp2
 go_ret
 exact ⟨rfl,kB.trans ((below_alloc (Below.refl _ _) (by omega) _).drew.mono (by omega))⟩
theorem ocmpF:CmpF wayL ltO 123:=
 ⟨enters_of Tryz.func123 (by kernel_rfl) rfl,fun x y W=>Calls.mono (ocmp_any x y W) (by rintro e w' ⟨rfl,h⟩;exact ⟨_,rfl,rfl,h⟩)⟩
theorem yO:CmpF yL (fun x y:WayY=>ltO x.1 y.1) 123:=⟨ocmpF.enters,fun x y W=>ocmpF.call x.1 y.1 W⟩
theorem yOS:Sort.SWO (fun x y:WayY=>ltO x.1 y.1):=⟨fun x=>swo_ltO.irrefl x.1,fun x y z=>swo_ltO.trans x.1 y.1 z.1,fun x y z=>swo_ltO.ntrans x.1 y.1 z.1⟩
theorem sortO_any (B:Nat) (v:Value) (out:List WayY) (w:World) (ho:w.ownsRow B 38 10 v out.length (out.flatMap yL)) (hn:out.length≤1000000) :
  Calls Tryz.prog 93 #[v,.func (.func 123) #[] #[]] w fun e w'=>e=.returned (.tuple #[]) ∧
   ∃ out':List WayY,out'.Perm out∧(∀ i j:Nat,i<j→∀ (hj:j<out'.length) (hi:i<out'.length),ltO out'[j].1 out'[i].1=false)∧w'.ownsRow B 38 10 v out.length (out'.flatMap yL)∧w.grownBy w' v.ownBlock:=by
 obtain ⟨hl,⟨rfl,h0⟩ | ⟨g,cap,cur,rfl,hBg,hg,hnc,hcm,hcs,htk⟩⟩:=id ho
 ·have C:=sortwB_one none 0 0 (.func (.func 123) #[] #[]) (Nat.zero_le _) w
  refine Calls.mono C ?_
  rintro e w' ⟨rfl,rfl⟩
  exact ⟨rfl,out,List.Perm.refl _,(fun i j _ hj _=>absurd hj (by omega)),ho,grown_refl _ _⟩
 ·have hcur:cur=((out.toArray).toList.flatMap yL++cur.toList.drop (out.length*10)).toArray:=by
   simp only
   rw[←htk,List.take_append_drop]
  have hR:RowC yL 38 w g (cur.toList.drop (out.length*10)) out.toArray w:=⟨by rw[←hcur];exact hg,rfl,rfl,rfl,Nat.le_refl _,fun _ _ _=>rfl⟩
  have C:=sortC_any yE yO yOS g out.length cap _ (by omega) out.toArray w hR (by simp)
  refine Calls.mono C ?_
  rintro e w' ⟨rfl,d',hR',hP,hSd⟩
  have hsz:d'.size=out.length:=by rw[hP.1];simp
  have hperm:d'.toList.Perm out:=by
   have:=hP.2.2
   rw[←hsz] at this
   have e1:d'.extract 0 d'.size=d':=by simp
   have e2:out.toArray.extract 0 d'.size=out.toArray:=by rw[hsz];simp
   rw[e1,e2] at this
   exact this
  refine ⟨rfl,d'.toList,hperm,(fun i j hij hj hi=>by
   have h1:i<d'.size:=by simpa using hi
   have h2:j<d'.size:=by simpa using hj
   have:=hSd i j (Nat.zero_le _) hij (by omega)
   rw[getElem!_pos d' i h1,getElem!_pos d' j h2] at this
   simpa using this),⟨?_,.inr ⟨g,cap,_,rfl,hBg,hR'.blk,hnc,hcm,?_,?_⟩⟩,⟨hR'.os,hR'.tape,hR'.output,hR'.size,fun b hb hne=>hR'.other b hb fun e=>hne (by rw[e];rfl)⟩⟩
  ·rw[flat_len yE.len];simp[hsz]
  ·have h1:=congrArg Array.size hcur
   simp only[List.size_toArray,List.length_append,flat_len yE.len,Array.length_toList] at h1 ⊢
   generalize (List.drop (out.length*10) cur.toList).length=z at *
   have h2:out.toArray.size=out.length:=by simp
   omega
  ·rw[List.take_append_of_le_length (by rw[flat_len yE.len];simp[hsz]),List.take_of_length_le (by rw[flat_len yE.len];simp[hsz])]
end Go.Proofs.YtiikagabdiphkaaGreat
namespace Go.Proofs.YtiikagabdiphkaaGreat
open Go.RowKit Go.Lo Go.Maps
abbrev K2:=Int × Int
def keyO (n:WayN):K2:=(n.addr,n.bits)
structure InO (k:K2):Prop where
 a:0≤k.1∧k.1<4294967296
 b:0≤k.2∧k.2<256
def olit (k:K2):Lit:=.string (keyBytes [.int .u32 k.1,.int .u8 k.2])
abbrev oV (k:K2):Value:=.agg #[.int .u32 k.1,.int .u8 k.2]
theorem key_o (k:K2) (h:InO k):keyOf Tryz.prog 35 (oV k)=some (olit k):=by
 have e1:((Tryz.prog).keyType 35 && (oV k).formed Tryz.prog 35)=true:=by kernel_rfl
 obtain ⟨d,e2⟩:=types_many
 unfold keyOf
 rw[Tryz.underlying35]
 simp only[e1,if_true,e2,Value.cells]
 have h1:=lits_pre (d+1) k.1 k.2 h.a h.b
 rw[show d+1+2=d+3 from rfl] at h1
 rw[h1]
 rfl
theorem olit_inj {k k':K2} (h:InO k) (h':InO k') (e:olit k=olit k'):k=k':=by
 have:=pref_keyed.inj (key_o k h) (by rw[e];exact key_o k' h')
 obtain ⟨a,b⟩:=k
 obtain ⟨a',b'⟩:=k'
 simpa using this
theorem olit_key (k:K2) (h:InO k):WideAt.IsKeyLit (olit k):=pref_keyed.key (key_o k h)
structure MapI (D:DataW Unit) (f:K2→Option Nat):Prop where
 none_:∀ k,InO k→f k=none→Maps.has D (olit k)=false
 some_:∀ k i,InO k→f k=some i→Maps.has D (olit k)=true∧∀ z,D.atKey (olit k) z=.lit (.int .i64 i)
theorem MapI.start {f:K2→Option Nat} (h:∀ k,f k=none):MapI (.map []) f:=⟨fun _ _ _=>rfl,fun k i _ e=>by rw[h] at e;cases e⟩
theorem MapI.put {D:DataW Unit} {f f':K2→Option Nat} (h:MapI D f) (hD:IsMap D) (k:K2) (hk:InO k) (i:Nat) (hf:∀ k',f' k'=if k'=k then some i else f k'):MapI (D.put (olit k) (.lit (.int .i64 i))) f':=by
 refine ⟨fun k' hk' h0 => ?_,fun k' j hk' hj => ?_⟩
 ·rw[hf] at h0
  split at h0
  ·cases h0
  ·rename_i hne
   have hlne:olit k'≠olit k:=fun e=>hne (olit_inj hk' hk e)
   rw[has_put_other hlne]
   exact h.none_ k' hk' h0
 ·rw[hf] at hj
  split at hj
  ·rename_i he
   subst he
   simp only[Option.some.injEq] at hj
   subst hj
   exact ⟨has_put_same hD (olit_key _ hk) _,fun z=>atKey_put_same hD (olit_key _ hk) _ z⟩
  ·rename_i hne
   have hlne:olit k'≠olit k:=fun e=>hne (olit_inj hk' hk e)
   obtain ⟨h3,h4⟩:=h.some_ k' j hk' hj
   exact ⟨by rw[has_put_other hlne];exact h3,fun z=>by rw[atKey_put_other hlne];exact h4 z⟩
def at_ (out:List WayG) (k:K2):Option Nat:=out.findIdx? fun o=>keyO o.1==k
def mergeStep (out:List WayG) (w:WayG):List WayG:=
 match at_ out (keyO w.1) with
 | none=>out++[w]
 | some i=>if betterP w.1 (out.getD i w).1 = -1 then out.set i w else if betterP w.1 (out.getD i w).1=0 then out.set i ((out.getD i w).1,puts (puts [] (out.getD i w).2) w.2) else out
def mergeP (l:List WayG):List WayG:=l.foldl mergeStep []
theorem mergeP_snoc (l:List WayG) (w:WayG):mergeP (l++[w])=mergeStep (mergeP l) w:=by
 unfold mergeP
 rw[List.foldl_append]
 rfl
theorem at_some {out:List WayG} {k:K2} {i:Nat} (h:at_ out k=some i):∃ hi:i<out.length,keyO out[i].1=k:=by
 unfold at_ at h
 obtain ⟨hi,h1,-⟩:=List.findIdx?_eq_some_iff_getElem.1 h
 exact ⟨hi,by simpa using h1⟩
theorem at_none {out:List WayG} {k:K2} (h:at_ out k=none):∀ o∈out,keyO o.1≠k:=by
 unfold at_ at h
 rw[List.findIdx?_eq_none_iff] at h
 intro o ho e
 have:=h o ho
 rw[e] at this
 simp at this
theorem at_snoc {out:List WayG} {w:WayG} (h:at_ out (keyO w.1)=none) (k:K2):at_ (out++[w]) k=if k=keyO w.1 then some out.length else at_ out k:=by
 unfold at_
 rw[List.findIdx?_append]
 by_cases hk:k=keyO w.1
 ·rw[if_pos hk,hk]
  unfold at_ at h
  rw[h]
  simp[List.findIdx?_cons]
 ·rw[if_neg hk]
  have h1:(keyO w.1==k)=false:=by simpa using fun e=>hk e.symm
  cases hq:out.findIdx? (fun o=>keyO o.1==k) with
  | none=>simp[List.findIdx?_cons,h1]
  | some i=>simp
theorem at_set {out:List WayG} {i:Nat} {w:WayG} (hi:i<out.length) (hw:keyO w.1=keyO out[i].1) (k:K2):at_ (out.set i w) k=at_ out k:=by
 unfold at_
 induction out generalizing i with
 | nil=>cases hi
 | cons x r ih =>
  cases i with
  | zero =>
   simp only[List.getElem_cons_zero] at hw
   simp only[s'z,List.findIdx?_cons,hw]
  | succ i =>
   simp only[List.length_cons,Nat.add_lt_add_iff_right] at hi
   simp only[List.getElem_cons_succ] at hw
   simp only[s's,List.findIdx?_cons,ih hi hw]
theorem mergeStep_len (out:List WayG) (w:WayG):(mergeStep out w).length≤out.length+1:=by
 unfold mergeStep
 split
 ·simp
 ·split
  ·simp
  ·split
   ·simp
   ·omega
theorem mergeP_len (l:List WayG):(mergeP l).length≤l.length:=by
 have:∀ (l out:List WayG),(l.foldl mergeStep out).length≤out.length+l.length:=by
  intro l
  induction l with
  | nil=>intro out;simp
  | cons x r ih =>
   intro out
   have h1:=ih (mergeStep out x)
   have h2:=mergeStep_len out x
   simp only[List.foldl_cons,List.length_cons]
   omega
 have h:=this l []
 unfold mergeP
 simpa using h
def hopsN (l:List WayG):Nat:=(l.map fun g=>g.2.length).sum
theorem hopsN_append (a b:List WayG):hopsN (a++b)=hopsN a+hopsN b:=by simp[hopsN]
theorem hopsN_mem {l:List WayG} {g:WayG} (h:g∈l):g.2.length≤hopsN l:=by
 unfold hopsN
 induction l with
 | nil=>cases h
 | cons x r ih =>
  simp only[List.map_cons,List.sum_cons]
  rcases List.mem_cons.1 h with rfl | h
  ·omega
  ·have:=ih h;omega
theorem hopsN_take (l:List WayG) (k:Nat):hopsN (l.take k)≤hopsN l:=by
 have:=hopsN_append (l.take k) (l.drop k)
 rw[List.take_append_drop] at this
 omega
theorem hopsN_set (l:List WayG) (i:Nat) (hi:i<l.length) (q:WayG):hopsN (l.set i q)+l[i].2.length=hopsN l+q.2.length:=by
 unfold hopsN
 induction l generalizing i with
 | nil=>cases hi
 | cons x r ih =>
  cases i with
  | zero =>
   simp only[s'z,List.map_cons,List.sum_cons,List.getElem_cons_zero]
   omega
  | succ i =>
   have:=ih i (by simpa using hi)
   simp only[s's,List.map_cons,List.sum_cons,List.getElem_cons_succ]
   omega
theorem mergeStep_sum (out:List WayG) (w:WayG):hopsN (mergeStep out w)≤hopsN out+w.2.length:=by
 unfold mergeStep
 split
 ·rw[hopsN_append]
  simp[hopsN]
 ·rename_i i hi
  obtain ⟨hil,-⟩:=at_some hi
  have hgd:out.getD i w=out[i]:=by simp[List.getD_eq_getElem?_getD,hil]
  rw[hgd]
  split
  ·have:=hopsN_set out i hil w
   omega
  ·split
   ·have h1:=puts_le (puts [] out[i].2) w.2
    have h2:=puts_le [] out[i].2
    simp only[List.length_nil] at h2
    have:=hopsN_set out i hil (out[i].1,puts (puts [] out[i].2) w.2)
    simp only at this
    omega
   ·omega
theorem mergeP_sum (l:List WayG):hopsN (mergeP l)≤hopsN l:=by
 have:∀ (l out:List WayG),hopsN (l.foldl mergeStep out)≤hopsN out+hopsN l:=by
  intro l
  induction l with
  | nil=>intro out;simp[hopsN]
  | cons x r ih =>
   intro out
   have h1:=ih (mergeStep out x)
   have h2:=mergeStep_sum out x
   have h3:hopsN (x :: r)=x.2.length+hopsN r:=by simp[hopsN]
   simp only[List.foldl_cons]
   omega
 have h:=this l []
 unfold mergeP
 simpa[hopsN] using h
end Go.Proofs.YtiikagabdiphkaaGreat
