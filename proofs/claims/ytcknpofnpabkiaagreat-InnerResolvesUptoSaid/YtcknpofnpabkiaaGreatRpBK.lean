/- graph.chosen's helpers: the comparison of states, their sort, the map of names. Conditions: the row is the call's own; the keys are names. -/
import Derived.Maps.OwnOps
import Derived.Maps.OwnSet
import Derived.Maps.RangeWalk
import Derived.DeepKeys4
import Derived.Test.YtcknpofnpabkiaaGreatRpBH
import Derived.Test.YtcknpofnpabkiaaGreatRpAB
import Derived.Test.YtcknpofnpabkiaaGreatRpBI
import Derived.Test.YtcknpofnpabkiaaGreatRpBJ
set_option maxRecDepth 100000
namespace Go.Proofs.YtcknpofnpabkiaaGreat
open Go.RowKit Go.Lo Go.Maps
def cmpSt (x y:OHead):Int:=orI [cmpI x.type y.type,cmpI x.id y.id]
def ltSt (x y:StY):Bool:=decide (cmpSt x.1.h y.1.h<0)
theorem cmpI_cas (a b:Int):(a<b∧cmpI a b = -1)∨(a=b∧cmpI a b=0)∨(b<a∧cmpI a b=1):=by
 unfold cmpI
 split
 ·exact .inl ⟨by assumption,rfl⟩
 ·split
  ·exact .inr (.inr ⟨by assumption,rfl⟩)
  ·exact .inr (.inl ⟨by omega,rfl⟩)
theorem ltSt_iff (x y:StY):ltSt x y=true↔(x.1.h.type<y.1.h.type∨(x.1.h.type=y.1.h.type∧x.1.h.id<y.1.h.id)):=by
 unfold ltSt cmpSt
 rw[decide_eq_true_eq]
 rcases cmpI_cas x.1.h.type y.1.h.type with ⟨h1,e1⟩ | ⟨h1,e1⟩ | ⟨h1,e1⟩ <;> rcases cmpI_cas x.1.h.id y.1.h.id with ⟨h2,e2⟩ | ⟨h2,e2⟩ | ⟨h2,e2⟩ <;> simp[e1,e2,orI] <;> omega
theorem swo_St:Sort.SWO ltSt where
 irrefl x:=by
  cases h:ltSt x x with
  | false=>rfl
  | true=>have:=(ltSt_iff x x).1 h;omega
 trans x y z h1 h2:=by
  have a1:=(ltSt_iff x y).1 h1
  have a2:=(ltSt_iff y z).1 h2
  exact (ltSt_iff x z).2 (by omega)
 ntrans x y z h1 h2:=by
  cases h:ltSt x z with
  | false=>rfl
  | true =>
   exfalso
   have a3:=(ltSt_iff x z).1 h
   have a1:¬ _:=fun hc=>by have:=(ltSt_iff x y).2 hc;rw[h1] at this;cases this
   have a2:¬ _:=fun hc=>by have:=(ltSt_iff y z).2 hc;rw[h2] at this;cases this
   omega
theorem sLE:RowE sL 9:=⟨fun _=>rfl,fun x v hv=>by
 simp only[sL,stL,List.mem_cons,List.not_mem_nil,or_false] at hv
 rcases hv with rfl | rfl | rfl | rfl | rfl | rfl | rfl | rfl | rfl <;> simp[Value.oneCell'],by omega⟩
theorem cmpSt_any (x y:StY) (w:World):Calls Tryz.prog 70 #[.agg (sL x).toArray,.agg (sL y).toArray] w fun e w'=>e=.returned (.int .i64 (cmpSt x.1.h y.1.h))∧Below w.heap.size w w':=by
 obtain ⟨⟨⟨x0,x1,x2,x3,x4,x5,x6,x7⟩,xA,xn,xc⟩,xb⟩:=x
 obtain ⟨⟨⟨y0,y1,y2,y3,y4,y5,y6,y7⟩,yA,yn,yc⟩,yb⟩:=y
 dsimp only[sL,stL,cmpSt]
 have k0:Blk ((w.alloc (.cells #[.int .u16 x0,.int .u8 x1,.int .u8 x2,.int .u32 x3,.int .u32 x4,.int .i32 x5,.int .u16 x6,.int .u16 x7,.slice xA xn xc] 71)).alloc (.cells #[.int .u16 y0,.int .u8 y1,.int .u8 y2,.int .u32 y3,.int .u32 y4,.int .i32 y5,.int .u16 y6,.int .u16 y7,.slice yA yn yc] 71)) w.heap.size 71 #[.int .u16 x0,.int .u8 x1,.int .u8 x2,.int .u32 x3,.int .u32 x4,.int .i32 x5,.int .u16 x6,.int .u16 x7,.slice xA xn xc]:=(Blk.new _ _ _).alloc _
 have k1:Blk ((w.alloc (.cells #[.int .u16 x0,.int .u8 x1,.int .u8 x2,.int .u32 x3,.int .u32 x4,.int .i32 x5,.int .u16 x6,.int .u16 x7,.slice xA xn xc] 71)).alloc (.cells #[.int .u16 y0,.int .u8 y1,.int .u8 y2,.int .u32 y3,.int .u32 y4,.int .i32 y5,.int .u16 y6,.int .u16 y7,.slice yA yn yc] 71)) (w.heap.size+1) 71 #[.int .u16 y0,.int .u8 y1,.int .u8 y2,.int .u32 y3,.int .u32 y4,.int .i32 y5,.int .u16 y6,.int .u16 y7,.slice yA yn yc]:=heap_alloc2_new w _ _
 have kB:Below w.heap.size w ((w.alloc (.cells #[.int .u16 x0,.int .u8 x1,.int .u8 x2,.int .u32 x3,.int .u32 x4,.int .i32 x5,.int .u16 x6,.int .u16 x7,.slice xA xn xc] 71)).alloc (.cells #[.int .u16 y0,.int .u8 y1,.int .u8 y2,.int .u32 y3,.int .u32 y4,.int .i32 y5,.int .u16 y6,.int .u16 y7,.slice yA yn yc] 71)):=((b'r _ _).alloc (n'r _) _).alloc (by simp) _
 go_enter Tryz.func70,Tryz.ntmps70
 go_upto_region 1 with fail
 generalize (w.alloc (.cells #[.int .u16 x0,.int .u8 x1,.int .u8 x2,.int .u32 x3,.int .u32 x4,.int .i32 x5,.int .u16 x6,.int .u16 x7,.slice xA xn xc] 71)).alloc (.cells #[.int .u16 y0,.int .u8 y1,.int .u8 y2,.int .u32 y3,.int .u32 y4,.int .i32 y5,.int .u16 y6,.int .u16 y7,.slice yA yn yc] 71)=w1 at k0 k1 kB ⊢
 have c2:=k0.cell 2
 have c3:=k0.cell 3
 have d2:=k1.cell 2
 have d3:=k1.cell 3
 have hz:=k1.lt
 simp only[q'a,q'z,q's] at c2 c3 d2 d3
 clear k0 k1
 have q2:∀ W,Below (w.heap.size+1+1) w1 W→W.cell? ⟨w.heap.size,2,none⟩=some (.int .u8 x2):=fun W h=>(h.cell (p:=⟨w.heap.size,2,none⟩) (by show w.heap.size<w.heap.size+1+1;omega)).trans c2
 have q3:∀ W,Below (w.heap.size+1+1) w1 W→W.cell? ⟨w.heap.size,3,none⟩=some (.int .u32 x3):=fun W h=>(h.cell (p:=⟨w.heap.size,3,none⟩) (by show w.heap.size<w.heap.size+1+1;omega)).trans c3
 have r2:∀ W,Below (w.heap.size+1+1) w1 W→W.cell? ⟨w.heap.size+1,2,none⟩=some (.int .u8 y2):=fun W h=>(h.cell (p:=⟨w.heap.size+1,2,none⟩) (by show w.heap.size+1<w.heap.size+1+1;omega)).trans d2
 have r3:∀ W,Below (w.heap.size+1+1) w1 W→W.cell? ⟨w.heap.size+1,3,none⟩=some (.int .u32 y3):=fun W h=>(h.cell (p:=⟨w.heap.size+1,3,none⟩) (by show w.heap.size+1<w.heap.size+1+1;omega)).trans d3
 clear c2 c3 d2 d3
 have hle:w.heap.size+1+1≤w1.heap.size:=by omega
 go_region_held3 (fun W=>Below (w.heap.size+1+1) w1 W) (first | assumption | exact (b'r _ _).drew | exact b'r _ _ | exact (below_alloc (b'r _ _) hle _).drew | fail)
  (first
   | (go_at_call 72;refine c'm (compare8_any _ _ _) ?_;rintro e w2 ⟨rfl,rfl⟩)
   | (go_at_call 73;refine c'm (compare32_any _ _ _) ?_;rintro e w3 ⟨rfl,rfl⟩)
   | (go_at_call 71;refine c'm (or_any [cmpI x2 y2,cmpI x3 y3] _ 2 _ (by simp) (fun i hi=>by simp only[List.length_cons,List.length_nil] at hi;show (w1.alloc _).cell? _=_;rw[World.cell?_alloc_at _ _ _ _ rfl];rcases (show i=0∨i=1 by omega) with rfl | rfl <;> rfl)) ?_;rintro e w4 ⟨rfl,rfl⟩)
   | fail)
 go_wp2
 go_ret
 exact ⟨rfl,kB.trans ((below_alloc (b'r _ _) (by omega) _).drew.mono (by omega))⟩
theorem cmpStF:StS.CmpF sL ltSt 70:=
 ⟨enters_of Tryz.func70 (by kernel_rfl) rfl,fun x y W=>c'm (cmpSt_any x y W) (by rintro e w' ⟨rfl,h⟩;exact ⟨_,rfl,rfl,h⟩)⟩
theorem insS_one (A:Option Addr) (n c:Nat) (cv:Value) (hn:n≤1) (w:World) :
  Calls Tryz.prog 141 #[.slice A n c,.int .i64 0,.int .i64 n,cv] w fun e w'=>e=.returned (.tuple #[])∧w'=w:=by
 have i1:¬ (1:Int)<(n:Int):=by omega
 go_enter Tryz.func141,Tryz.ntmps141
 go_wp2_with fail
 go_loopg [8] 1 (fun m v wr=>m=1∧v=.int .i64 1∧wr=w)
 case atStart=>exact ⟨rfl,rfl,rfl⟩
 case round =>
  obtain ⟨hm,rfl,rfl⟩:=hrel
  go_wp2
  go_end0
  exact ⟨rfl,rfl⟩
set_option maxHeartbeats 1000000 in
theorem pdqS_one (A:Option Addr) (n c lim:Nat) (cv:Value) (hn:n≤1) (w:World) :
  Calls Tryz.prog 114 #[.slice A n c,.int .i64 0,.int .i64 n,.int .i64 lim,cv] w fun e w'=>e=.returned (.tuple #[])∧w'=w:=by
 have q1:(n:Int)≤12:=by omega
 have q2:IntKind.i64.wrap (n:Int)=(n:Int):=IntWalk.i64_in _ (by omega)
 go_enter Tryz.func114,Tryz.ntmps114
 go_wp2_with fail
 go_loopg [1,2,3,10,11] 1 (fun m va vb vl v8 v9 wr=>m=1∧va=.int .i64 0∧vb=.int .i64 n∧wr=w)
 case atStart=>exact ⟨rfl,rfl,rfl,rfl⟩
 case round =>
  obtain ⟨hm,rfl,rfl,rfl⟩:=hrel
  go_wp2_with (go_at_call 141;refine c'm (insS_one A n c cv hn _) ?_;rintro e w2 ⟨rfl,rfl⟩)
  refine bodyPost_ret (results_none rfl _ _ _) rfl ?_
  exact ⟨rfl,rfl⟩
theorem sortS_one (A:Option Addr) (n c:Nat) (cv:Value) (hn:n≤1) (w:World) :
  Calls Tryz.prog 69 #[.slice A n c,cv] w fun e w'=>e=.returned (.tuple #[])∧w'=w:=by
 have q1:IntKind.u64.wrap (n:Int)=(n:Int):=by rw[IntKind.wrap_u64];omega
 have C1:=Tryz.bits_Len (n:Int) w (by omega) (by omega)
 rw[Int.toNat_natCast] at C1
 have C2:=pdqS_one A n c (Lib.bitLen n) cv hn w
 generalize Lib.bitLen n=L at *
 replace C1:=h'd C1
 replace C2:=h'd C2
 go_enter Tryz.func69,Tryz.ntmps69
 go_wp2_with (first
  | (go_at_call 115;refine c'm C1.out ?_;rintro e w1 ⟨rfl,rfl⟩)
  | (go_at_call 114;refine c'm C2.out ?_;rintro e w2 ⟨rfl,rfl⟩)
  | fail)
 go_end0
 exact ⟨rfl,rfl⟩
instance:Inhabited StY:=⟨⟨⟨⟨0,0,0,0,0,0,0,0⟩,none,0,0⟩,[]⟩⟩
theorem sortS_any (B:Nat) (v:Value) (out:List StY) (w:World) (ho:w.ownsRow B 71 9 v out.length (out.flatMap sL)) (hn:out.length≤1000000) :
  Calls Tryz.prog 69 #[v,.func (.func 70) #[] #[]] w fun e w'=>e=.returned (.tuple #[]) ∧
   ∃ out':List StY,out'.Perm out∧out'.Pairwise (fun a b=>ltSt b a=false)∧w'.ownsRow B 71 9 v out.length (out'.flatMap sL)∧w.grownBy w' v.ownBlock:=by
 obtain ⟨hl,⟨rfl,h0⟩ | ⟨g,cap,cur,rfl,hBg,hg,hnc,hcm,hcs,htk⟩⟩:=id ho
 ·have C:=sortS_one none 0 0 (.func (.func 70) #[] #[]) (Nat.zero_le _) w
  refine c'm C ?_
  rintro e w' ⟨rfl,rfl⟩
  exact ⟨rfl,out,List.Perm.refl _,by rw[List.length_eq_zero_iff.1 h0];exact List.Pairwise.nil,ho,grown_refl _ _⟩
 ·have hcur:cur=((out.toArray).toList.flatMap sL++cur.toList.drop (out.length*9)).toArray:=by
   simp only
   rw[←htk,List.take_append_drop]
  have hR:RowC sL 71 w g (cur.toList.drop (out.length*9)) out.toArray w:=⟨by rw[←hcur];exact hg,rfl,rfl,rfl,n'r _,fun _ _ _=>rfl⟩
  have C:=StS.sortC_any sLE cmpStF swo_St g out.length cap _ (by omega) out.toArray w hR (by simp)
  refine c'm C ?_
  rintro e w' ⟨rfl,d',hR',hP,hs⟩
  have hsz:d'.size=out.length:=by rw[hP.1];simp
  have hperm:d'.toList.Perm out:=by
   have:=hP.2.2
   rw[←hsz] at this
   have e1:d'.extract 0 d'.size=d':=by simp
   have e2:out.toArray.extract 0 d'.size=out.toArray:=by rw[hsz];simp
   rw[e1,e2] at this
   exact this
  refine ⟨rfl,d'.toList,hperm,?_,⟨?_,.inr ⟨g,cap,_,rfl,hBg,hR'.blk,hnc,hcm,?_,?_⟩⟩,⟨hR'.os,hR'.tape,hR'.output,hR'.size,fun b hb hne=>hR'.other b hb fun e=>hne (by rw[e];rfl)⟩⟩
  ·refine List.pairwise_iff_getElem.2 fun i j hi hj hij => ?_
   have hj2:j<d'.size:=by simpa using hj
   have hi2:i<d'.size:=by omega
   have:=hs i j (Nat.zero_le _) hij (by omega)
   rw[getElem!_pos d' i hi2,getElem!_pos d' j hj2] at this
   simpa using this
  ·rw[flat_len sLE.len];simp[hsz]
  ·have h1:=congrArg Array.size hcur
   simp only[List.size_toArray,l'a,flat_len sLE.len,Array.length_toList] at h1 ⊢
   generalize (List.drop (out.length*9) cur.toList).length=z at *
   have h2:out.toArray.size=out.length:=by simp
   omega
  ·rw[List.take_append_of_le_length (by rw[flat_len sLE.len];simp[hsz]),List.take_of_length_le (by rw[flat_len sLE.len];simp[hsz])]
structure InN (k:KN):Prop where
 b:0≤k.2∧k.2<4294967296
def nlit (k:KN):Lit:=.string (keyBytes [.bool k.1,.int .u32 k.2])
abbrev nV (k:KN):Value:=.agg #[.bool k.1,.int .u32 k.2]
theorem laidOutN:laidOutB Tryz.prog=true:=by kernel_rfl
theorem name_keyed:Keyed Tryz.prog 88:=Keyed.of_law (deep_law_laid laidOutN (m:=2) (by omega) (of_decide_eq_true (by kernel_rfl)) (by kernel_rfl) (by rw[Tryz.underlying88]))
theorem wfN {a:Int} (h:0≤a∧a<4294967296):(Lit.int .u32 a).wf=true:=by
 have h1:IntKind.u32.min=0:=by decide
 have h2:IntKind.u32.max=4294967295:=by decide
 simp[Lit.wf,h1,h2]
 omega
theorem types_more:∃ d,(Tryz.prog).types.size+1=d+2:=by
 have h1:Nat.ble 1 (Tryz.prog).types.size=true:=by kernel_rfl
 have h2:=Nat.le_of_ble_eq_true h1
 exact ⟨(Tryz.prog).types.size-1,by omega⟩
theorem lits_n (d:Nat) (k:KN) (h:InN k):(Tryz.prog).keyLits (d+2) 88 [.bool k.1,.int .u32 k.2]=some [.bool k.1,.int .u32 k.2]:=by
 have c2:(Tryz.prog).cellsOf 88=2:=by kernel_rfl
 have c1:(Tryz.prog).cellsOf 23=1:=by kernel_rfl
 have c0:(Tryz.prog).cellsOf 4=1:=by kernel_rfl
 unfold Program.keyLits
 rw[Tryz.underlying88]
 simp only[c2]
 rw[if_pos ⟨rfl,by kernel_rfl⟩]
 simp[Program.keyLits,Tryz.underlying23,Tryz.underlying4,c1,c0,wfN h.b]
theorem key_n (k:KN) (h:InN k):keyOf Tryz.prog 88 (nV k)=some (nlit k):=by
 have e1:((Tryz.prog).keyType 88 && (nV k).formed Tryz.prog 88)=true:=by kernel_rfl
 obtain ⟨d,e2⟩:=types_more
 unfold keyOf
 rw[Tryz.underlying88]
 simp only[e1,if_true,e2,Value.cells]
 rw[lits_n d k h]
 rfl
theorem nlit_inj {k k':KN} (h:InN k) (h':InN k') (e:nlit k=nlit k'):k=k':=by
 have:=name_keyed.inj (key_n k h) (by rw[e];exact key_n k' h')
 obtain ⟨a,b⟩:=k
 obtain ⟨a',b'⟩:=k'
 simpa using this
theorem nlit_key (k:KN) (h:InN k):WideAt.IsKeyLit (nlit k):=name_keyed.key (key_n k h)
abbrev rawS (v:Value):Option (DataW Value × List MemPlace):=some (.held v,[])
abbrev stV (y:StY):Value:=.agg (sL y).toArray
structure MapN (D:DataW Value) (f:KN→Option StY):Prop where
 none_:∀ k,InN k→f k=none→Maps.has D (nlit k)=false∧∀ z,D.atKey (nlit k) z=z
 some_:∀ k y,InN k→f k=some y→Maps.has D (nlit k)=true∧∀ z,D.atKey (nlit k) z=.held (stV y)
 ink:∀ k y,f k=some y→InN k
 all:∀ l,Maps.has D l=true→∃ k y,f k=some y∧l=nlit k
theorem MapN.start {f:KN→Option StY} (h:∀ k,f k=none):MapN (.map []) f:=
 ⟨fun _ _ _=>⟨rfl,fun _=>rfl⟩,fun k _ _ e=>(by rw[h] at e;cases e),fun k _ e=>(by rw[h] at e;cases e),fun l e=>(by cases e)⟩
theorem MapN.put {D:DataW Value} {f f':KN→Option StY} (h:MapN D f) (hD:IsMap D) (k:KN) (hk:InN k) (y:StY) (hf:∀ k',f' k'=if k'=k then some y else f k'):MapN (D.put (nlit k) (.held (stV y))) f':=by
 refine ⟨fun k' hk' h0 => ?_,fun k' g hk' hg => ?_,fun k' g hg => ?_,fun l hl => ?_⟩
 ·rw[hf] at h0
  split at h0
  ·cases h0
  ·rename_i hne
   have hlne:nlit k'≠nlit k:=fun e=>hne (nlit_inj hk' hk e)
   obtain ⟨h1,h2⟩:=h.none_ k' hk' h0
   exact ⟨by rw[has_put_other hlne];exact h1,fun z=>by rw[atKey_put_other hlne];exact h2 z⟩
 ·rw[hf] at hg
  split at hg
  ·rename_i he
   subst he
   simp only[o'j] at hg
   subst hg
   exact ⟨has_put_same hD (nlit_key _ hk) _,fun z=>atKey_put_same hD (nlit_key _ hk) _ z⟩
  ·rename_i hne
   have hlne:nlit k'≠nlit k:=fun e=>hne (nlit_inj hk' hk e)
   obtain ⟨h3,h4⟩:=h.some_ k' g hk' hg
   exact ⟨by rw[has_put_other hlne];exact h3,fun z=>by rw[atKey_put_other hlne];exact h4 z⟩
 ·rw[hf] at hg
  split at hg
  ·rename_i he;rw[he];exact hk
  ·exact h.ink k' g hg
 ·by_cases he:l=nlit k
  ·exact ⟨k,y,by rw[hf,if_pos rfl],he⟩
  ·rw[has_put_other he] at hl
   obtain ⟨k',g,h1,h2⟩:=h.all l hl
   refine ⟨k',g,?_,h2⟩
   rw[hf,if_neg (fun e=>he (by rw[h2,e]))]
   exact h1
abbrev zSt:Value:=.agg #[.int .u16 0,.int .u8 0,.int .u8 0,.int .u32 0,.int .u32 0,.int .i32 0,.int .u16 0,.int .u16 0,.slice none 0 0]
theorem zSt_run (W:World):(zeroValue 71).run Tryz.prog W=.ok zSt W:=by kernel_rfl
section
variable {ops:Array Oper} {rest:List Oper} {o:Oper} {a:Act} {Q:Exit→Act→World→Prop} {w:World}
theorem wpList_lookup_st (hg:o.guard=none) (m x:Operand) (hop:o.op=Op.lookup 141 m x true) (b nn:Nat) (D:DataW Value) (f:KN→Option StY)
  (hm:a.eval m=.map (some b)) (hown:w.ownsMap Tryz.prog 88 rawS b nn D) (hM:MapN D f) (k:KN) (hk:InN k) (hx:a.eval x=nV k)
  (h0:f k=none→wpList Tryz.prog ops Q rest (a.put o.dst (.tuple #[zSt,.bool false])) w)
  (h1:∀ (y:StY),f k=some y→wpList Tryz.prog ops Q rest (a.put o.dst (.tuple #[stV y,.bool true])) w) :
  wpList Tryz.prog ops Q (o :: rest) a w:=by
 refine wpList_lookup_own_ok _ hg m x _ hop 88 71 name_keyed Tryz.underlying141 rawS (zSt_run _) (.held zSt) [] rfl b nn D hm hown _ _ hx (key_n k hk) ?_
 intro v ps hv
 simp only[rawS,o'j,Prod.mk.injEq] at hv
 obtain ⟨hv,-⟩:=hv
 cases hf:f k with
 | none =>
  obtain ⟨h2,h3⟩:=hM.none_ k hk hf
  rw[h3,DataW.held.injEq] at hv
  rw[hv,h2]
  exact h0 hf
 | some g =>
  obtain ⟨h4,h5⟩:=hM.some_ k g hk hf
  rw[h5,DataW.held.injEq] at hv
  rw[hv,h4]
  exact h1 g hf
theorem wpList_put_st (hg:o.guard=none) (m x v:Operand) (hop:o.op=Op.mapUpdate 141 m x v) (b nn:Nat) (D:DataW Value) (f f':KN→Option StY)
  (hm:a.eval m=.map (some b)) (hown:w.ownsMap Tryz.prog 88 rawS b nn D) (hM:MapN D f) (hn:nn<maxLen) (k:KN) (hk:InN k) (hx:a.eval x=nV k) (y:StY) (hv:a.eval v=stV y)
  (hf:∀ k',f' k'=if k'=k then some y else f k')
  (hK:∀ w' D',w'.ownsMap Tryz.prog 88 rawS b (nn+1) D'→MapN D' f'→w.grownBy w' (some b)→wpList Tryz.prog ops Q rest (a.put o.dst undef) w') :
  wpList Tryz.prog ops Q (o :: rest) a w:=by
 refine wpList_mapUpdate_own _ hg m x v _ hop 88 71 name_keyed Tryz.underlying141 rawS b nn D hm hown hn _ _ _ hx hv (key_n k hk) _ [] rfl ?_
 intro w' h1 h2
 exact hK w' _ h1 (hM.put hown.isMap k hk y hf) h2
theorem wpList_next_st (hg:o.guard=none) (it:Operand) (hop:o.op=Op.next it false) (b r n:Nat) (D:DataW Value) (left:Lit→Bool) (cnt:Nat) (f:KN→Option StY)
  (hit:a.eval it=.pointer (some ⟨r,0,none⟩)) (h:w.ranges Tryz.prog 88 rawS b r n D left cnt) (hM:MapN D f) (hl:∀ kl,left kl=true→Maps.has D kl=true)
  (hDone:(∀ kl,left kl=false)→wpList Tryz.prog ops Q rest (a.put o.dst (.tuple #[.bool false])) w)
  (hMore:∀ (k:KN) (y:StY) (w':World) (cnt':Nat),InN k→f k=some y→left (nlit k)=true→w'.ranges Tryz.prog 88 rawS b r n D (fun z=>left z && !z.sameKey (nlit k)) cnt'→cnt'<cnt →
   w.grownBy w' (some r)→w'.heap.size=w.heap.size→(Instr.entry (.pointer (some ⟨r,0,none⟩))).run Tryz.prog w'=.ok (.tuple #[nV k,stV y]) w'→wpList Tryz.prog ops Q rest (a.put o.dst (.tuple #[.bool true,nV k,stV y])) w') :
  wpList Tryz.prog ops Q (o :: rest) a w:=by
 refine wpList_next_ranges _ hg it hop 88 name_keyed rawS (fun v:Value=>v) (fun v:Value=>v) (fun key kl _=>⟨key,rfl⟩) (fun v y _=>⟨v,rfl⟩) b r n D left cnt hit h (fun _=>hDone) ?_
 intro x c kl y w' cnt' hkey hlk hR hat hrg hlt hgr hsz hen
 obtain ⟨k,g,hf,rfl⟩:=hM.all kl (hl kl hlk)
 have hk:=hM.ink k g hf
 obtain ⟨h4,h5⟩:=hM.some_ k g hk hf
 simp only[rawS,o'j] at hR
 subst hR
 have hc:=hat (.held zSt)
 rw[h5,DataW.held.injEq] at hc
 have hx:x=nV k:=name_keyed.inj hkey (key_n k hk)
 rw[hx,←hc] at hen ⊢
 exact hMore k g w' cnt' hk hf hlk hrg hlt hgr hsz hen
end
set_option maxRecDepth 100000
def yG (y:StY):StG:=(y.1.h,y.2)
theorem sOf_eq (ys:List StY):sOf ys=ys.map yG:=rfl
def stepY (o:Option StY) (y:StY):StY:=match o with | none=>y | some x=>if x.1.h.adv<y.1.h.adv then y else x
def bestY (ys:List StY):KN→Option StY:=ys.foldl (fun f y k=>if isG (yG y)=true∧k=keyN (yG y) then some (stepY (f k) y) else f k) (fun _=>none)
theorem bestY_snoc (ys:List StY) (y:StY) (k:KN):bestY (ys++[y]) k=if isG (yG y)=true∧k=keyN (yG y) then some (stepY (bestY ys k) y) else bestY ys k:=by
 unfold bestY
 rw[List.foldl_append]
 rfl
theorem bestY_ind (p:List StY→(KN→Option StY)→Prop) (h0:p [] (fun _=>none)) (h1:∀ ys y,p ys (bestY ys)→p (ys++[y]) (bestY (ys++[y]))):∀ ys,p ys (bestY ys):=by
 intro ys
 have:∀ n,∀ ys:List StY,ys.length=n→p ys (bestY ys):=by
  intro n
  induction n with
  | zero=>intro ys h;rw[List.length_eq_zero_iff.1 h];exact h0
  | succ n ih =>
   intro ys h
   rcases List.eq_nil_or_concat ys with rfl | ⟨zs,z,rfl⟩
   ·exact h0
   ·rw[List.concat_eq_append] at h ⊢
    exact h1 zs z (ih zs (by simpa using h))
 exact this _ ys rfl
theorem bestY_best (ys:List StY):∀ k,(bestY ys k).map yG=bestN (sOf ys) k:=bestY_ind (fun ys f=>∀ k,(f k).map yG=bestN (sOf ys) k) (fun _=>rfl) (fun ys y ih k=>by
 rw[bestY_snoc,sOf_snoc,bestN_snoc]
 show _=if isG (yG y)=true∧k=keyN (yG y) then _ else _
 split
 ·rw[←ih k]
  cases bestY ys k with
  | none=>rfl
  | some x =>
   show some (yG (stepY (some x) y))=some (stepN (some (yG x)) (yG y))
   show some (yG (if x.1.h.adv<y.1.h.adv then y else x))=some (if x.1.h.adv<y.1.h.adv then yG y else yG x)
   split <;> rfl
 ·exact ih k) ys
theorem bestY_ok (ys:List StY):∀ k y,bestY ys k=some y→y∈ys∧isG (yG y)=true∧keyN (yG y)=k:=bestY_ind (fun ys f=>∀ k y,f k=some y→y∈ys∧isG (yG y)=true∧keyN (yG y)=k) (fun _ _ h=>by cases h) (fun ys x ih k y h=>by
 rw[bestY_snoc] at h
 split at h
 ·rename_i hc
  simp only[o'j] at h
  cases hb:bestY ys k with
  | none =>
   rw[hb] at h
   simp only[stepY] at h
   subst h
   exact ⟨by simp,hc.1,hc.2.symm⟩
  | some z =>
   rw[hb] at h
   simp only[stepY] at h
   obtain ⟨h1,h2,h3⟩:=ih k z hb
   split at h
   ·subst h;exact ⟨by simp,hc.1,hc.2.symm⟩
   ·subst h;exact ⟨by simp[h1],h2,h3⟩
 ·obtain ⟨h1,h2,h3⟩:=ih k y h
  exact ⟨by simp[h1],h2,h3⟩) ys
def ysOf (ls:List StV) (S:List StG):List StY:=List.zipWith (fun x s=>(x,s.2)) ls S
theorem ysOf_len {ls:List StV} {S:List StG} (h:ls.length=S.length):(ysOf ls S).length=ls.length:=by simp[ysOf,h]
theorem ysOf_get {ls:List StV} {S:List StG} {k:Nat} (h1:k<ls.length) (h2:k<S.length) (h3:k<(ysOf ls S).length):(ysOf ls S)[k]=(ls[k],S[k].2):=by simp[ysOf]
theorem ysOf_s {ls:List StV} {S:List StG} (h:ls.map (·.h)=S.map (·.1)):sOf (ysOf ls S)=S:=by
 induction ls generalizing S with
 | nil =>
  cases S with
  | nil=>rfl
  | cons s S=>cases h
 | cons x ls ih =>
  cases S with
  | nil=>cases h
  | cons s S =>
   simp only[List.map_cons,List.cons.injEq] at h
   show (x.h,s.2) :: sOf (ysOf ls S)=_
   rw[ih h.2,h.1]
theorem isG_kind {s:StG} (h:isG s=true):s.1.type=1∨s.1.type=2:=by
 unfold isG countsP kindP at h
 simp only[Bool.and_eq_true,Bool.or_eq_true,beq_iff_eq] at h
 exact h.1
theorem rise_of {out:List StY} (hp:out.Pairwise (fun a b=>ltSt b a=false)) (hn:(out.map fun y=>keyN (yG y)).Nodup) (hg:∀ y∈out,isG (yG y)=true):RiseN (sOf out):=by
 unfold RiseN sOf
 rw[List.pairwise_map]
 have h2:out.Pairwise (fun a b=>keyN (yG a)≠keyN (yG b)):=List.pairwise_map.1 hn
 refine (hp.and h2).imp_of_mem fun {a b} ha hb h => ?_
 have ka:=isG_kind (hg a ha)
 have kb:=isG_kind (hg b hb)
 obtain ⟨h3,h4⟩:=h
 have h5:¬ _:=fun hc=>by have:=(ltSt_iff b a).2 hc;rw[h3] at this;cases this
 rw[ltKN_iff]
 show (((a.1.h.type==2)=false∧(b.1.h.type==2)=true)∨((a.1.h.type==2)=(b.1.h.type==2)∧a.1.h.id<b.1.h.id))
 have ka:a.1.h.type=1∨a.1.h.type=2:=ka
 have kb:b.1.h.type=1∨b.1.h.type=2:=kb
 have h6:¬ ((a.1.h.type==2)=(b.1.h.type==2)∧a.1.h.id=b.1.h.id):=fun ⟨e1,e2⟩=>h4 (by show (a.1.h.type==2,a.1.h.id)=(b.1.h.type==2,b.1.h.id);rw[e1,e2])
 rcases ka with ka | ka <;> rcases kb with kb | kb <;> simp only[ka,kb] at h5 h6 ⊢ <;> simp at h5 h6 ⊢ <;> omega
theorem nodes_of {ys out:List StY} (hp:out.Pairwise (fun a b=>ltSt b a=false)) (hn:(out.map fun y=>keyN (yG y)).Nodup) (h1:∀ y∈out,bestY ys (keyN (yG y))=some y) (h2:∀ k y,bestY ys k=some y→y∈out):sOf out=nodesG (sOf ys):=by
 refine nodesG_is ⟨rise_of hp hn fun y hy=>(bestY_ok ys _ _ (h1 y hy)).2.1,fun s => ?_⟩
 rw[←bestY_best,sOf_eq,List.mem_map]
 refine ⟨?_,fun h => ?_⟩
 ·rintro ⟨y,hy,rfl⟩
  rw[h1 y hy]
  rfl
 ·cases hb:bestY ys (keyN s) with
  | none=>rw[hb] at h;cases h
  | some y =>
   rw[hb] at h
   exact ⟨y,h2 _ _ hb,o'i h⟩
theorem key_in {s:StG} (h:StOk s):InN (keyN s):=⟨h.1.id⟩
structure CI (w:World) (k:Nat) (ys:List StY) (W:World):Prop where
 map:∃ D nn,W.ownsMap Tryz.prog 88 rawS w.heap.size nn D∧MapN D (bestY (ys.take k))∧nn≤k
 below:Below w.heap.size w W
 lt:w.heap.size<W.heap.size
theorem CI.call {w:World} {k:Nat} {ys:List StY} {W W':World} (h:CI w k ys W) (hb:Below W.heap.size W W'):CI w k ys W':=by
 obtain ⟨D,nn,h1,h2,h3⟩:=h.map
 exact ⟨⟨D,nn,h1.kept (grown_of_below hb none) (fun e=>by cases e),h2,h3⟩,h.below.trans (hb.mono (Nat.le_of_lt h.lt)),Nat.lt_of_lt_of_le h.lt hb.size⟩
structure CR (W0:World) (f:KN→Option StY) (D:DataW Value) (b n1 n:Nat) (N m:Nat) (v:Value) (wr:World) (left:Lit→Bool) (out:List StY):Prop where
 rg:wr.ranges Tryz.prog 88 rawS b n1 n D left m
 has:∀ kl,left kl=true→Maps.has D kl=true
 own:wr.ownsRow (n1+1) 71 9 v out.length (out.flatMap sL)
 below:Below n1 W0 wr
 lt:n1<wr.heap.size
 outs:∀ y∈out,InN (keyN (yG y))∧f (keyN (yG y))=some y∧left (nlit (keyN (yG y)))=false
 all:∀ k y,f k=some y→left (nlit k)=false→y∈out
 nodup:(out.map fun y=>keyN (yG y)).Nodup
 len:out.length+m≤N
def ChPost (S:List StG) (ys:List StY) (w:World) (e:Ending) (w':World):Prop:=
 ∃ (v:Value) (out:List StY),e=.returned v∧w'.ownsRow w.heap.size 71 9 v out.length (out.flatMap sL)∧sOf out=nodesG S∧(∀ y∈out,y∈ys)∧out.length≤ys.length∧Below w.heap.size w w'
set_option maxHeartbeats 4000000 in
theorem chosen_any (B:Nat) (sv:Value) (S:List StG) (ls:List StV) (w:World) (hS:StatesIn w B sv S ls) (hB:B≤w.heap.size) (hok:∀ s∈S,StOk s) (hn:ls.length≤100000) :
  Calls Tryz.prog 34 #[sv] w fun e w'=>ChPost S (ysOf ls S) w e w':=by
 have hmm:=@run_makeMap Tryz.prog
 obtain ⟨-,lA,lc,rfl,-⟩:=id hS.sl
 have hls:=hS.len
 have hyl:=ysOf_len hls
 have hyS:=ysOf_s hS.map
 obtain ⟨ys,hys⟩:∃ ys,ys=ysOf ls S:=⟨_,rfl⟩
 rw[←hys] at hyl hyS ⊢
 replace hS:=h'd hS
 replace hok:=h'd hok
 replace hys:=h'd hys
 replace hls:=h'd hls
 go_enter Tryz.func34,Tryz.ntmps34
 go_upto_region 3 with fail
 have hI0:CI w 0 ys (w.alloc (.map #[] 0)):=⟨⟨_,0,World.ownsMap_made w Tryz.prog 88 rawS,MapN.start fun _=>rfl,n'r _⟩,(b'r _ w).alloc (n'r _) _,by simp⟩
 generalize w.alloc (.map #[] 0)=w1 at hI0 ⊢
 go_loopg [15] ls.length (fun m v wr=>∃ k:Nat,k≤ls.length∧m=ls.length-k∧v=.int .i64 k∧CI w k ys wr)
 case atStart=>exact ⟨0,Nat.zero_le _,rfl,rfl,hI0⟩
 case round =>
  clear hI0
  obtain ⟨k,hk,rfl,rfl,hI⟩:=hrel
  obtain ⟨w2,rfl⟩:∃ x:World,x=wr:=⟨_,rfl⟩
  by_cases hkl:k<ls.length
  ·have hkS:k<S.length:=by have:=hls.out;omega
   have hky:k<ys.length:=by omega
   have hS2:=hS.out.below (hI.below.mono hB)
   obtain ⟨b,off,hwA,hb0,hrow⟩:=Sl.row stL_len hS2.sl hkl
   subst hwA
   have hbd:=hS2.bodies k hkl hkS
   have hst:=hok.out _ (g'm hkS)
   have htk:ys.take (k+1)=ys.take k++[ys[k]]:=t'k hky
   have hyk:ys[k]=(ls[k],S[k].2):=by
    have e:=ysOf_get hkl hkS (by rw[←hys.out];exact hky)
    rw[←e]
    simp only[hys.out]
   have hhd:ls[k].h=S[k].1:=by
    have:=congrArg (fun z=>z[k]?) hS2.map
    simpa[hkl,hkS] using this
   have ik:(k:Int)<(ls.length:Int):=by omega
   rw[hyk] at htk
   obtain ⟨x,hx⟩:∃ x,x=ls[k]:=⟨_,rfl⟩
   rw[←hx] at hrow hbd hhd htk
   clear hx hyk hS2
   generalize S[k]=s at *
   obtain ⟨hd,body⟩:=s
   obtain ⟨⟨h0,h1,h2,h3,h4,h5,h6,h7⟩,xA,xl,xc⟩:=x
   simp only at hhd
   subst hhd
   obtain rfl:xl=body.length:=sl_len hbd
   obtain ⟨ok,hbn,hb8⟩:=hst
   have hki:InN (h2==2,h3):=⟨ok.id⟩
   have ht8:0≤h2∧h2<256:=ok.type
   obtain ⟨t,rfl⟩:=Int.eq_ofNat_of_zero_le ht8.1
   have hf:∀ k',bestY (ys.take (k+1)) k'=if isG ((⟨h0,h1,(t:Int),h3,h4,h5,h6,h7⟩,body):StG)=true∧k'=((t:Int)==2,h3) then some (stepY (bestY (ys.take k) k') (⟨⟨h0,h1,(t:Int),h3,h4,h5,h6,h7⟩,xA,body.length,xc⟩,body)) else bestY (ys.take k) k':=fun k'=>by
    rw[htk,bestY_snoc]
    rfl
   have hrg:w2.rangeAt b (off+k*9) [.int .u16 h0,.int .u8 h1,.int .u8 (t:Int),.int .u32 h3,.int .u32 h4,.int .i32 h5,.int .u16 h6,.int .u16 h7,.slice xA body.length xc]:=hrow
   replace hf:=h'd hf
   replace htk:=h'd htk
   clear hrow
   go_upto_region 5 with (refine wpList_load_mid rfl 71 (.tmp 17) rfl b (off+k*9) rfl [.int .u16 h0,.int .u8 h1,.int .u8 (t:Int),.int .u32 h3,.int .u32 h4,.int .i32 h5,.int .u16 h6,.int .u16 h7,.slice xA body.length xc] _ hrg Tryz.underlying71 rfl (by kernel_rfl) ?_)
   have k5:Blk (w2.alloc (.cells #[.int .u16 h0,.int .u8 h1,.int .u8 (t:Int),.int .u32 h3,.int .u32 h4,.int .i32 h5,.int .u16 h6,.int .u16 h7,.slice xA body.length xc] 71)) w2.heap.size 71 #[.int .u16 h0,.int .u8 h1,.int .u8 (t:Int),.int .u32 h3,.int .u32 h4,.int .i32 h5,.int .u16 h6,.int .u16 h7,.slice xA body.length xc]:=Blk.new _ _ _
   have kB:Below w2.heap.size w2 (w2.alloc (.cells #[.int .u16 h0,.int .u8 h1,.int .u8 (t:Int),.int .u32 h3,.int .u32 h4,.int .i32 h5,.int .u16 h6,.int .u16 h7,.slice xA body.length xc] 71)):=(b'r _ _).alloc (n'r _) _
   generalize w2.alloc (.cells #[.int .u16 h0,.int .u8 h1,.int .u8 (t:Int),.int .u32 h3,.int .u32 h4,.int .i32 h5,.int .u16 h6,.int .u16 h7,.slice xA body.length xc] 71)=w3 at k5 kB ⊢
   obtain ⟨g5,hg5⟩:∃ g,g=w2.heap.size:=⟨_,rfl⟩
   rw[←hg5] at k5 ⊢
   have hg5w:w.heap.size<g5:=by rw[hg5];exact hI.lt
   replace hg5:=h'd hg5
   have hI3:=hI.call kB
   have hB3:=hI3.below.mono hB
   have CC:=gcounts_any t (by omega) ⟨h0,h1,(t:Int),h3,h4,h5,h6,h7⟩ ok B (.slice xA body.length xc) body w3 (hbd.below (kB.mono (by have:=hI.below.size;omega))) (by have:=hI3.below.size;omega) hbn hb8 rfl
   dsimp only[stateVal] at CC
   have hg:isG ((⟨h0,h1,(t:Int),h3,h4,h5,h6,h7⟩,body):StG)=countsP ⟨h0,h1,(t:Int),h3,h4,h5,h6,h7⟩ body:=rfl
   rw[hg] at hf
   clear hg hI kB hrg
   cases hc:countsP ⟨h0,h1,(t:Int),h3,h4,h5,h6,h7⟩ body with
   | false =>
    rw[hc] at CC hf
    replace CC:=h'd CC
    replace hc:=h'd hc
    go_wp2_with (first
     | (refine wpList_load_row rfl 71 (.tmp 5) rfl g5 rfl 71 #[.int .u16 h0,.int .u8 h1,.int .u8 (t:Int),.int .u32 h3,.int .u32 h4,.int .i32 h5,.int .u16 h6,.int .u16 h7,.slice xA body.length xc] (0,0) _ k5 Tryz.underlying71 rfl (by kernel_rfl) ?_)
     | (go_at_call 68;refine c'm CC.out ?_;rintro x w4 ⟨rfl,hB4⟩))
    go_roundg (ls.length-(k+1))
    case measure=>omega
    case rel =>
     refine ⟨k+1,by omega,rfl,by go_num,?_⟩
     have h2:=hI3.call hB4
     obtain ⟨D,nn,h5,h6,h7⟩:=h2.map
     refine ⟨⟨D,nn,h5,?_,by omega⟩,h2.below,h2.lt⟩
     have e:bestY (ys.take (k+1))=bestY (ys.take k):=funext fun k'=>by rw[hf.out];simp
     rw[e]
     exact h6
   | true =>
    rw[hc] at CC hf
    replace CC:=h'd CC
    replace hc:=h'd hc
    go_upto_region 6 with (first
     | (refine wpList_load_row rfl 71 (.tmp 5) rfl g5 rfl 71 #[.int .u16 h0,.int .u8 h1,.int .u8 (t:Int),.int .u32 h3,.int .u32 h4,.int .i32 h5,.int .u16 h6,.int .u16 h7,.slice xA body.length xc] (0,0) _ k5 Tryz.underlying71 rfl (by kernel_rfl) ?_)
     | (go_at_call 68;refine c'm CC.out ?_;rintro x w4 ⟨rfl,hB4⟩))
    have k54:=k5.below hB4 k5.lt
    have hI4:=hI3.call hB4
    clear CC hI3 k5 hB3
    have y2:=k54.cell 2
    have y3:=k54.cell 3
    simp only[q'a,q'z,q's] at y2 y3
    go_upto_region 7 with fail
    have k6:Blk (w4.alloc (.cells #[.bool ((t:Int)==2),.int .u32 h3] 88)) w4.heap.size 88 #[.bool ((t:Int)==2),.int .u32 h3]:=Blk.new _ _ _
    have k56:Blk (w4.alloc (.cells #[.bool ((t:Int)==2),.int .u32 h3] 88)) g5 71 #[.int .u16 h0,.int .u8 h1,.int .u8 (t:Int),.int .u32 h3,.int .u32 h4,.int .i32 h5,.int .u16 h6,.int .u16 h7,.slice xA body.length xc]:=k54.alloc _
    have hI6:=hI4.call ((b'r _ _).alloc (n'r _) (.cells #[.bool ((t:Int)==2),.int .u32 h3] 88))
    generalize w4.alloc (.cells #[.bool ((t:Int)==2),.int .u32 h3] 88)=w6 at k6 k56 hI6 ⊢
    obtain ⟨g6,hg6⟩:∃ g,g=w4.heap.size:=⟨_,rfl⟩
    rw[←hg6] at k6 ⊢
    replace hg6:=h'd hg6
    clear y2 y3 k54 hI4 hB4
    obtain ⟨D,nn,hown,hM,hnn⟩:=hI6.map
    have hM:=h'd hM
    cases hb:bestY (ys.take k) ((t:Int)==2,h3) with
    | none =>
     go_upto_region 8 with (first
      | (refine wpList_load_row rfl 88 (.tmp 6) rfl g6 rfl 88 #[.bool ((t:Int)==2),.int .u32 h3] (0,0) _ k6 Tryz.underlying88 rfl (by kernel_rfl) ?_)
      | (at_lookup;refine wpList_lookup_st rfl _ _ rfl w.heap.size nn D (bestY (ys.take k)) rfl hown hM.out ((t:Int)==2,h3) hki rfl (fun _ => ?_) (fun y hy=>by rw[hb] at hy;cases hy)))
     have k67:Blk (w6.alloc (.cells #[.int .u16 0,.int .u8 0,.int .u8 0,.int .u32 0,.int .u32 0,.int .i32 0,.int .u16 0,.int .u16 0,.slice none 0 0] 71)) g6 88 #[.bool ((t:Int)==2),.int .u32 h3]:=k6.alloc _
     have k57:Blk (w6.alloc (.cells #[.int .u16 0,.int .u8 0,.int .u8 0,.int .u32 0,.int .u32 0,.int .i32 0,.int .u16 0,.int .u16 0,.slice none 0 0] 71)) g5 71 #[.int .u16 h0,.int .u8 h1,.int .u8 (t:Int),.int .u32 h3,.int .u32 h4,.int .i32 h5,.int .u16 h6,.int .u16 h7,.slice xA body.length xc]:=k56.alloc _
     have hI7:=hI6.call ((b'r _ _).alloc (n'r _) (.cells #[.int .u16 0,.int .u8 0,.int .u8 0,.int .u32 0,.int .u32 0,.int .i32 0,.int .u16 0,.int .u16 0,.slice none 0 0] 71))
     have hown:=hown.alloc (.cells #[.int .u16 0,.int .u8 0,.int .u8 0,.int .u32 0,.int .u32 0,.int .i32 0,.int .u16 0,.int .u16 0,.slice none 0 0] 71)
     generalize w6.alloc (.cells #[.int .u16 0,.int .u8 0,.int .u8 0,.int .u32 0,.int .u32 0,.int .i32 0,.int .u16 0,.int .u16 0,.slice none 0 0] 71)=w7 at k67 k57 hI7 hown ⊢
     have hff:∀ k',bestY (ys.take (k+1)) k'=if k'=((t:Int)==2,h3) then some (⟨⟨h0,h1,(t:Int),h3,h4,h5,h6,h7⟩,xA,body.length,xc⟩,body) else bestY (ys.take k) k':=fun k'=>by
      rw[hf.out k']
      by_cases hk':k'=((t:Int)==2,h3)
      ·rw[if_pos ⟨(by trivial),hk'⟩,if_pos hk',hk',hb];rfl
      ·rw[if_neg (fun h=>hk' h.2),if_neg hk']
     have hbw:=hI7.below
     have hltw:=hI7.lt
     clear k6 k56 hI6 hI7 hb
     go_wp2_with (first
      | (refine wpList_load_row rfl 88 (.tmp 6) rfl g6 rfl 88 #[.bool ((t:Int)==2),.int .u32 h3] (0,0) _ k67 Tryz.underlying88 rfl (by kernel_rfl) ?_)
      | (refine wpList_load_row rfl 71 (.tmp 5) rfl g5 rfl 71 #[.int .u16 h0,.int .u8 h1,.int .u8 (t:Int),.int .u32 h3,.int .u32 h4,.int .i32 h5,.int .u16 h6,.int .u16 h7,.slice xA body.length xc] (0,0) _ k57 Tryz.underlying71 rfl (by kernel_rfl) ?_)
      | (at_mapUpdate;refine wpList_put_st rfl _ _ _ rfl w.heap.size nn D (bestY (ys.take k)) (bestY (ys.take (k+1))) rfl hown hM.out (by simp only[maxLen];omega) ((t:Int)==2,h3) hki rfl (⟨⟨h0,h1,(t:Int),h3,h4,h5,h6,h7⟩,xA,body.length,xc⟩,body) rfl hff ?_;intro w8 D8 hown8 hM8 hg8))
     go_roundg (ls.length-(k+1))
     case measure=>omega
     case rel =>
      refine ⟨k+1,by omega,rfl,by go_num,⟨D8,nn+1,hown8,hM8,by omega⟩,hbw.trans (below_of_grown hg8 (Nat.le_of_lt hown.lt) fun g e=>by simp only[o'j] at e;omega),Nat.lt_of_lt_of_le hltw hg8.size⟩
    | some y =>
     obtain ⟨⟨⟨a0,a1,a2,a3,a4,a5,a6,a7⟩,yA,yn,yc⟩,yb⟩:=y
     go_upto_region 8 with (first
      | (refine wpList_load_row rfl 88 (.tmp 6) rfl g6 rfl 88 #[.bool ((t:Int)==2),.int .u32 h3] (0,0) _ k6 Tryz.underlying88 rfl (by kernel_rfl) ?_)
      | (at_lookup;refine wpList_lookup_st rfl _ _ rfl w.heap.size nn D (bestY (ys.take k)) rfl hown hM.out ((t:Int)==2,h3) hki rfl (fun hy=>by rw[hb] at hy;cases hy) (fun y hy => ?_);obtain rfl:y=(⟨⟨a0,a1,a2,a3,a4,a5,a6,a7⟩,yA,yn,yc⟩,yb):=(by rw[hb] at hy;exact (o'i hy).symm);dsimp only[stV,sL,stL]))
     have k67:Blk (w6.alloc (.cells #[.int .u16 a0,.int .u8 a1,.int .u8 a2,.int .u32 a3,.int .u32 a4,.int .i32 a5,.int .u16 a6,.int .u16 a7,.slice yA yn yc] 71)) g6 88 #[.bool ((t:Int)==2),.int .u32 h3]:=k6.alloc _
     have k57:Blk (w6.alloc (.cells #[.int .u16 a0,.int .u8 a1,.int .u8 a2,.int .u32 a3,.int .u32 a4,.int .i32 a5,.int .u16 a6,.int .u16 a7,.slice yA yn yc] 71)) g5 71 #[.int .u16 h0,.int .u8 h1,.int .u8 (t:Int),.int .u32 h3,.int .u32 h4,.int .i32 h5,.int .u16 h6,.int .u16 h7,.slice xA body.length xc]:=k56.alloc _
     have k77:Blk (w6.alloc (.cells #[.int .u16 a0,.int .u8 a1,.int .u8 a2,.int .u32 a3,.int .u32 a4,.int .i32 a5,.int .u16 a6,.int .u16 a7,.slice yA yn yc] 71)) w6.heap.size 71 #[.int .u16 a0,.int .u8 a1,.int .u8 a2,.int .u32 a3,.int .u32 a4,.int .i32 a5,.int .u16 a6,.int .u16 a7,.slice yA yn yc]:=Blk.new _ _ _
     have hI7:=hI6.call ((b'r _ _).alloc (n'r _) (.cells #[.int .u16 a0,.int .u8 a1,.int .u8 a2,.int .u32 a3,.int .u32 a4,.int .i32 a5,.int .u16 a6,.int .u16 a7,.slice yA yn yc] 71))
     have hown:=hown.alloc (.cells #[.int .u16 a0,.int .u8 a1,.int .u8 a2,.int .u32 a3,.int .u32 a4,.int .i32 a5,.int .u16 a6,.int .u16 a7,.slice yA yn yc] 71)
     generalize w6.alloc (.cells #[.int .u16 a0,.int .u8 a1,.int .u8 a2,.int .u32 a3,.int .u32 a4,.int .i32 a5,.int .u16 a6,.int .u16 a7,.slice yA yn yc] 71)=w7 at k67 k57 k77 hI7 hown ⊢
     generalize w6.heap.size=g7 at k77 ⊢
     have x4:=k57.cell 4
     have z4:=k77.cell 4
     simp only[q'a,q'z,q's] at x4 z4
     have hbw:=hI7.below
     have hltw:=hI7.lt
     clear k6 k56 hI6 k77
     by_cases hadv:a4<h4
     ·have hq:decide (a4<h4)=true:=d't hadv
      have hff:∀ k',bestY (ys.take (k+1)) k'=if k'=((t:Int)==2,h3) then some (⟨⟨h0,h1,(t:Int),h3,h4,h5,h6,h7⟩,xA,body.length,xc⟩,body) else bestY (ys.take k) k':=fun k'=>by
       rw[hf.out k']
       by_cases hk':k'=((t:Int)==2,h3)
       ·rw[if_pos ⟨(by trivial),hk'⟩,if_pos hk',hk',hb]
        simp only[stepY]
        rw[if_pos hadv]
       ·rw[if_neg (fun h=>hk' h.2),if_neg hk']
      clear hI7 hb
      go_wp2_with (first
       | (refine wpList_load_row rfl 88 (.tmp 6) rfl g6 rfl 88 #[.bool ((t:Int)==2),.int .u32 h3] (0,0) _ k67 Tryz.underlying88 rfl (by kernel_rfl) ?_)
       | (refine wpList_load_row rfl 71 (.tmp 5) rfl g5 rfl 71 #[.int .u16 h0,.int .u8 h1,.int .u8 (t:Int),.int .u32 h3,.int .u32 h4,.int .i32 h5,.int .u16 h6,.int .u16 h7,.slice xA body.length xc] (0,0) _ k57 Tryz.underlying71 rfl (by kernel_rfl) ?_)
       | (at_mapUpdate;refine wpList_put_st rfl _ _ _ rfl w.heap.size nn D (bestY (ys.take k)) (bestY (ys.take (k+1))) rfl hown hM.out (by simp only[maxLen];omega) ((t:Int)==2,h3) hki rfl (⟨⟨h0,h1,(t:Int),h3,h4,h5,h6,h7⟩,xA,body.length,xc⟩,body) rfl hff ?_;intro w8 D8 hown8 hM8 hg8))
      go_roundg (ls.length-(k+1))
      case measure=>omega
      case rel =>
       refine ⟨k+1,by omega,rfl,by go_num,⟨D8,nn+1,hown8,hM8,by omega⟩,hbw.trans (below_of_grown hg8 (Nat.le_of_lt hown.lt) fun g e=>by simp only[o'j] at e;omega),Nat.lt_of_lt_of_le hltw hg8.size⟩
     ·have hq:decide (a4<h4)=false:=d'f hadv
      have hff:∀ k',bestY (ys.take (k+1)) k'=bestY (ys.take k) k':=fun k'=>by
       rw[hf.out k']
       by_cases hk':k'=((t:Int)==2,h3)
       ·rw[if_pos ⟨(by trivial),hk'⟩,hk',hb]
        simp only[stepY]
        rw[if_neg hadv]
       ·rw[if_neg (fun h=>hk' h.2)]
      clear hb
      go_wp2
      go_roundg (ls.length-(k+1))
      case measure=>omega
      case rel =>
       refine ⟨k+1,by omega,rfl,by go_num,⟨D,nn,hown,?_,by omega⟩,hbw,hltw⟩
       have e:bestY (ys.take (k+1))=bestY (ys.take k):=funext hff
       rw[e]
       exact hM.out
  ·obtain rfl:k=ls.length:=by omega
   have hkn:¬ ((ls.length:Int)<(ls.length:Int)):=by omega
   obtain ⟨D,nn,hown,hM,hnn⟩:=hI.map
   rw[List.take_of_length_le (by omega)] at hM
   have hbw:=hI.below
   have hltw:=hI.lt
   clear hI
   go_wp2_with (first | (at_range;refine wpList_range_own _ rfl _ 141 rfl 88 71 name_keyed Tryz.underlying141 rawS w.heap.size nn D rfl hown ?_;intro w3 hrg3 hg3 hs3) | fail)
   have hsz:=hown.size_le
   go_loopg [9] (Maps.size D) (fun c v wr=>∃ left out,CR w2 (bestY ys) D w.heap.size w2.heap.size nn ls.length c v wr left out)
   case atStart=>exact ⟨Maps.has D,[],hrg3,fun _ h=>h,World.ownsRow_nil _ _ _ _,below_of_grown hg3 (n'r _) (fun _ e=>by cases e),by omega,fun _ h=>(by cases h),fun k g hk hl=>(by
    obtain ⟨h3,-⟩:=hM.some_ k g (hM.ink k g hk) hk
    rw[hl] at h3;cases h3),List.nodup_nil,by simp;omega⟩
   case round =>
    obtain ⟨left,out,hR⟩:=hrel
    obtain ⟨w3,rfl⟩:∃ x:World,x=wr:=⟨_,rfl⟩
    have hlen:=hR.len
    have CS:=h'd (sortS_any (w2.heap.size+1) u9 out w3 hR.own (by omega))
    go_upto_region 14 with (at_next;refine wpList_next_st rfl _ rfl w.heap.size w2.heap.size nn D left _ (bestY ys) rfl hR.rg hM hR.has (fun hl => ?_) (fun k y w4 cnt' hk hf hlk hrg4 hlt4 hg4 hs4 hen4 => ?_))
    ·refine c'm CS.out ?_
     rintro e w5 ⟨rfl,out',hp,hsrt,ho',hg'⟩
     have hbl:=hR.below
     have hlt3:=hR.lt
     have hown9:∀ g,u9.ownBlock=some g→w2.heap.size+1≤g∧g<w3.heap.size:=fun g hg=>hR.own.lt g hg
     have hb5:Below w2.heap.size w3 w5:=below_of_grown hg' (Nat.le_of_lt hlt3) fun g hg=>by have:=(hown9 g hg).1;omega
     go_wp2
     go_ret
     have hpl:=hp.length_eq
     have hno:(out'.map fun y=>keyN (yG y)).Nodup:=(hp.map _).nodup_iff.2 hR.nodup
     have hmem:∀ y∈out',bestY ys (keyN (yG y))=some y:=fun y hy=>(hR.outs y (hp.mem_iff.1 hy)).2.1
     refine ⟨u9,out',rfl,?_,?_,fun y hy=>(bestY_ok ys _ _ (hmem y hy)).1,by omega,hbw.trans ((hbl.trans hb5).mono (by omega))⟩
     ·rw[hpl]
      exact own_less ho' (by omega)
     ·rw[←hyS]
      exact nodes_of hsrt hno hmem fun k y hb=>hp.mem_iff.2 (hR.all k y hb (hl _))
    ·obtain ⟨⟨⟨a0,a1,a2,a3,a4,a5,a6,a7⟩,yA,yn,yc⟩,yb⟩:=y
     have ho4:w4.ownsRow (w2.heap.size+1) 71 9 u9 out.length (out.flatMap sL):=own_same hR.own fun g hg=>hg4.block g (hR.own.lt g hg).2 fun e=>by
      simp only[o'j] at e
      have:=(hR.own.lt g hg).1
      omega
     have hb4:Below w2.heap.size w2 w4:=hR.below.trans (below_of_grown hg4 (Nat.le_of_lt hR.lt) fun g e=>by simp only[o'j] at e;omega)
     have hlt4':w2.heap.size<w4.heap.size:=by have:=hR.lt;omega
     clear hs4
     have hyk:keyN (yG (⟨⟨a0,a1,a2,a3,a4,a5,a6,a7⟩,yA,yn,yc⟩,yb))=k:=(bestY_ok ys _ _ hf).2.2
     clear CS
     dsimp only[stV,sL,stL] at hen4 ⊢
     go_upto_region 15 with fail
     have kt:=Blk.new w4 71 #[.int .u16 a0,.int .u8 a1,.int .u8 a2,.int .u32 a3,.int .u32 a4,.int .i32 a5,.int .u16 a6,.int .u16 a7,.slice yA yn yc]
     have ho5:=own_alloc ho4 (.cells #[.int .u16 a0,.int .u8 a1,.int .u8 a2,.int .u32 a3,.int .u32 a4,.int .i32 a5,.int .u16 a6,.int .u16 a7,.slice yA yn yc] 71)
     have hrg5:=hrg4.alloc (.cells #[.int .u16 a0,.int .u8 a1,.int .u8 a2,.int .u32 a3,.int .u32 a4,.int .i32 a5,.int .u16 a6,.int .u16 a7,.slice yA yn yc] 71)
     have hb5:Below w2.heap.size w2 (w4.alloc (.cells #[.int .u16 a0,.int .u8 a1,.int .u8 a2,.int .u32 a3,.int .u32 a4,.int .i32 a5,.int .u16 a6,.int .u16 a7,.slice yA yn yc] 71)):=hb4.alloc hb4.size _
     have hlt5:w2.heap.size<(w4.alloc (.cells #[.int .u16 a0,.int .u8 a1,.int .u8 a2,.int .u32 a3,.int .u32 a4,.int .i32 a5,.int .u16 a6,.int .u16 a7,.slice yA yn yc] 71)).heap.size:=by simp;omega
     generalize w4.alloc (.cells #[.int .u16 a0,.int .u8 a1,.int .u8 a2,.int .u32 a3,.int .u32 a4,.int .i32 a5,.int .u16 a6,.int .u16 a7,.slice yA yn yc] 71)=w5 at *
     generalize w4.heap.size=g11 at kt ⊢
     have hrg6:=hrg5.alloc (.cells #[.int .u16 a0,.int .u8 a1,.int .u8 a2,.int .u32 a3,.int .u32 a4,.int .i32 a5,.int .u16 a6,.int .u16 a7,.slice yA yn yc] 71)
     have hb6:Below w2.heap.size w2 (w5.alloc (.cells #[.int .u16 a0,.int .u8 a1,.int .u8 a2,.int .u32 a3,.int .u32 a4,.int .i32 a5,.int .u16 a6,.int .u16 a7,.slice yA yn yc] 71)):=hb5.alloc hb5.size _
     go_wp2_with (first
      | (refine wpList_load_row rfl 71 (.tmp 11) rfl g11 rfl 71 #[.int .u16 a0,.int .u8 a1,.int .u8 a2,.int .u32 a3,.int .u32 a4,.int .i32 a5,.int .u16 a6,.int .u16 a7,.slice yA yn yc] (0,0) _ kt Tryz.underlying71 rfl (by kernel_rfl) ?_)
      | (at_builtin;refine wpList_append rfl (.tmp 57) (.tmp 59) 22 rfl (w2.heap.size+1) stT u9 out.length (out.flatMap sL) rfl (own_alloc ho5 _) _ _ 1 [.int .u16 a0,.int .u8 a1,.int .u8 a2,.int .u32 a3,.int .u32 a4,.int .i32 a5,.int .u16 a6,.int .u16 a7,.slice yA yn yc] rfl (Sl.lit w5 #[.int .u16 a0,.int .u8 a1,.int .u8 a2,.int .u32 a3,.int .u32 a4,.int .i32 a5,.int .u16 a6,.int .u16 a7,.slice yA yn yc] 71 (by simp[maxLen]) rfl) (by simp[Value.oneCell']) (by simp only[maxLen];omega) (by omega) (by simp;omega) ?_;intro v7 w7 ho7 hg7 hob7))
     have hbb:∀ g,u9.ownBlock=some g→w2.heap.size+1≤g:=fun g hg=>(ho5.lt g hg).1
     have hb7:Below w2.heap.size w2 w7:=hb6.trans (below_of_grown hg7 (by simp;omega) fun g hg=>by have:=hbb g hg;omega)
     have hrg7:=hrg6.kept hg7 (fun e=>by have:=hbb _ e.symm;omega) (fun e=>by have:=hbb _ e.symm;omega)
     have hk1:(nlit k).sameKey (nlit k)=true:=WideAt.sameKey_self (nlit_key k hk)
     go_roundg cnt'
     case measure=>omega
     case rel =>
      refine ⟨_,out++[((⟨⟨a0,a1,a2,a3,a4,a5,a6,a7⟩,yA,yn,yc⟩,yb):StY)],hrg7,fun kl h=>hR.has kl (by simp at h;exact h.1),?_,hb7,by have:=hg7.size;simp at this;omega,fun x hx => ?_,fun k' g hk' hl' => ?_,?_,by simp;omega⟩
      ·rw[l'a,List.flatMap_append]
       exact ho7
      ·rcases List.mem_append.1 hx with hx | hx
       ·obtain ⟨h1,h2,h3⟩:=hR.outs x hx
        exact ⟨h1,h2,by rw[h3];rfl⟩
       ·rw[List.mem_singleton.1 hx,hyk]
        exact ⟨hk,hf,by rw[hk1];simp⟩
      ·cases hlk':left (nlit k') with
       | false=>exact List.mem_append.2 (.inl (hR.all k' g hk' hlk'))
       | true =>
        rw[hlk'] at hl'
        simp only[Bool.true_and,Bool.not_eq_false'] at hl'
        have e:=nlit_inj (hM.ink k' g hk') hk (WideAt.sameKey_eq hl')
        rw[e,hf] at hk'
        exact List.mem_append.2 (.inr (by simp only[o'j] at hk';rw[←hk'];simp))
      ·rw[List.map_append,List.nodup_append]
       refine ⟨hR.nodup,by simp,?_⟩
       intro p hp q hq e
       obtain ⟨x,hx,rfl⟩:=List.mem_map.1 hp
       simp only[List.map_cons,List.map_nil,List.mem_singleton] at hq
       rw[hq,hyk] at e
       have h3:=(hR.outs x hx).2.2
       rw[e,hlk] at h3
       cases h3
end Go.Proofs.YtcknpofnpabkiaaGreat
