/- The guard of layer 18's laws: what it says where it answers no: there are few ways, with few hops, that stand in order. Conditions: the ways and their hops lie in memory. -/
import Derived.Test.YtcknpofnpabkiaaGreatRpAN
import Derived.Test.YtcknpofnpabkiaaGreatRpAA
import Derived.Test.YtcknpofnpabkiaaGreatRpBO
import Derived.Test.YtcknpofnpabkiaaGreatRpBT
set_option maxRecDepth 100000
namespace Go.Proofs.YtcknpofnpabkiaaGreat
open Go.RowKit Go.Lo
theorem sorted_adj {l:List Hop} (h:∀ i (hi:i+1<l.length),hopLt l[i] l[i+1]=true):Sorted l:=by
 induction l with
 | nil=>exact List.Pairwise.nil
 | cons x r ih =>
  have hr:Sorted r:=ih fun i hi=>by
   have:=h (i+1) (by simp only[List.length_cons];omega)
   simpa using this
  refine List.pairwise_cons.2 ⟨fun y hy => ?_,hr⟩
  cases r with
  | nil=>cases hy
  | cons z s =>
   have h0:=h 0 (by simp)
   simp only[List.getElem_cons_zero,List.getElem_cons_succ] at h0
   rcases List.mem_cons.1 hy with rfl | hy
   ·exact h0
   ·exact hopLt_trans h0 ((List.pairwise_cons.1 hr).1 y hy)
def UpTo (R:List WayG) (k:Nat):Prop:=∀ i (hi:i<R.length),i<k→Sorted R[i].2
def AdjTo (l:List Hop) (k:Nat):Prop:=∀ i (hi:i+1<l.length),i<k→hopLt l[i] l[i+1]=true
def BigS (l:List WayV) (R:List WayG) (w:World) (e:Ending) (w':World):Prop:=∃ q:Bool,e=.returned (.bool q)∧(q=false→l.length≤60∧∀ r∈R,r.2.length≤400∧Sorted r.2)∧Below w.heap.size w w'
set_option maxHeartbeats 1000000 in
theorem big18_any (l:List WayV) (lv:Value) (B:Nat) (R:List WayG) (w:World) (hW:WaysIn w B lv R l) (hB:B≤w.heap.size) (hn:l.length≤2000000) (hbb:∀ r∈R,0≤r.1.bits∧r.1.bits<256) (hhh:∀ r∈R,r.2.length≤2000000) :
  Calls Tryz.prog 25 #[lv] w (BigS l R w):=by
 have hl0:=hW.sl
 have hlr:=h'd hW.len
 obtain ⟨-,A,c,rfl,-⟩:=id hl0
 have hx:∀ k (hk:k<l.length) (hk2:k<R.length),(0≤l[k].n.bits∧l[k].n.bits<256)∧R[k].2.length≤2000000∧Sl w B 3 (.slice l[k].A l[k].len l[k].cap) R[k].2.length (R[k].2.flatMap hopCells):=fun k hk hk2=>⟨by rw[hW.n k hk hk2];exact hbb _ (g'm hk2),hhh _ (g'm hk2),hW.hops k hk hk2⟩
 replace hx:=h'd hx
 clear hW hbb hhh
 go_enter Tryz.func25,Tryz.ntmps25
 go_wp2_with fail
 go_loopg [3,4] l.length (fun m v i wr=>∃ (k:Nat) (nn:Int),k≤l.length∧m=l.length-k∧v=.int .i64 nn∧nn=lenSum (l.take k)∧0≤nn∧nn≤2000000*(k:Int)∧i=.int .i64 k∧UpTo R k∧Below w.heap.size w wr)
 case atStart=>exact ⟨0,0,Nat.zero_le _,rfl,rfl,rfl,by omega,by omega,rfl,fun i hi h=>absurd h (by omega),b'r _ _⟩
 case round =>
  obtain ⟨k,nn,hk,rfl,rfl,hns,hnn,hnn2,rfl,hup,hBr⟩:=hrel
  obtain ⟨w1,rfl⟩:∃ x:World,x=wr:=⟨_,rfl⟩
  have hz:=hBr.size
  replace hns:=h'd hns
  replace hup:=h'd hup
  by_cases hkl:k<l.length
  ·obtain ⟨b,off,rfl,hb,hrow⟩:=Sl.row wayL_len hl0 hkl
   have hkR:k<R.length:=by have:=hlr.out;omega
   obtain ⟨hbits,hhn,hsl⟩:=hx.out k hkl hkR
   obtain ⟨hops,hops_⟩:∃ h,h=R[k].2:=⟨_,rfl⟩
   rw[←hops_] at hhn hsl
   replace hops_:=h'd hops_
   have htk:lenSum (l.take (k+1))=lenSum (l.take k)+(l[k].len:Int):=by rw[t'k hkl,lenSum_snoc]
   obtain ⟨x,hxx⟩:∃ x,x=l[k]:=⟨_,rfl⟩
   rw[←hxx] at hrow hbits hsl htk
   clear hxx
   obtain ⟨⟨x0,x1,x2,x3,x4,x5,x6,x7,x8⟩,xA,xn,xc⟩:=x
   obtain rfl:xn=hops.length:=by
    obtain ⟨-,A8,c8,h8,-⟩:=hsl
    injection h8
   dsimp only at hbits hsl htk
   replace htk:=h'd htk
   have hbw:b<w.heap.size:=by omega
   have r0:∀ W,Below w.heap.size w W→W.cell? ⟨b,off+k*10,none⟩=some (.int .u32 x0):=fun W h=>(h.cell (p:=⟨b,off+k*10,none⟩) hbw).trans (hrow 0 _ rfl)
   have r1:∀ W,Below w.heap.size w W→W.cell? ⟨b,off+k*10+1,none⟩=some (.int .u8 x1):=fun W h=>(h.cell (p:=⟨b,off+k*10+1,none⟩) hbw).trans (hrow 1 _ rfl)
   have r2:∀ W,Below w.heap.size w W→W.cell? ⟨b,off+k*10+2,none⟩=some (.int .u32 x2):=fun W h=>(h.cell (p:=⟨b,off+k*10+2,none⟩) hbw).trans (hrow 2 _ rfl)
   have r9:∀ W,Below w.heap.size w W→W.cell? ⟨b,off+k*10+9,none⟩=some (.slice xA hops.length xc):=fun W h=>(h.cell (p:=⟨b,off+k*10+9,none⟩) hbw).trans (hrow 9 _ rfl)
   have R9:=h'd r9
   have q0:=r0 w1 hBr
   have q1:=r1 w1 hBr
   have q2:=r2 w1 hBr
   have q9:=r9 w1 hBr
   have ik:(k:Int)<(l.length:Int):=by omega
   have iw:IntKind.i64.wrap (nn+(hops.length:Int))=nn+(hops.length:Int):=IntWalk.i64_in _ (by omega)
   have CI:=h'd (is_any x0 x1 hbits w1)
   have hneq:=neq_pre0 x0 x1
   clear r0 r1 r2 r9 hrow
   go_upto_region 6 with fail
   go_cut [43] (fun v wx=>CondB w v wx)
   case first =>
    obtain ⟨z,hz0⟩:∃ z,z = !(decide (x0=0) && decide (x1=0)):=⟨_,rfl⟩
    rw[←hz0] at hneq
    clear hz0 q9 iw R9
    cases z <;> by_cases hx2:x2=0
    all_goals
     first | subst hx2 | (have hx2':(x2 != 0)=true:=by simp[hx2])
     go_wp2_with (go_at_call 58;refine c'm CI.out ?_;rintro e w2 ⟨q,rfl,hB2⟩;have qq0:=(hB2.cell (p:=⟨b,off+k*10,none⟩) (by show b<_;omega)).trans q0;have qq1:=(hB2.cell (p:=⟨b,off+k*10+1,none⟩) (by show b<_;omega)).trans q1;have qq2:=(hB2.cell (p:=⟨b,off+k*10+2,none⟩) (by show b<_;omega)).trans q2)
     all_goals go_meet
     all_goals exact ⟨_,rfl,hBr.trans (hB2.mono hz)⟩
   case rest =>
    clear q0 q1 q2 q9 hneq CI
    obtain ⟨q,rfl,hBc⟩:=hcut
    cases q
    ·have hzc:=hBc.size
     go_wp2_with fail
     go_loopg [5] (hops.length-1) (fun m v wx=>∃ j:Nat,m=hops.length-(j+1)∧v=.int .i64 ((j:Int)+1)∧AdjTo hops j∧Below w.heap.size w wx)
     case atStart=>exact ⟨0,rfl,rfl,fun i hi h=>absurd h (by omega),hBc⟩
     case round =>
      clear hBc hzc
      obtain ⟨j,rfl,rfl,hadj,hBx⟩:=hrel
      replace hadj:=h'd hadj
      obtain ⟨w3,rfl⟩:∃ x:World,x=wr:=⟨_,rfl⟩
      have q9:=R9.out w3 hBx
      have hz3:=hBx.size
      by_cases hj:j+1<hops.length
      ·obtain ⟨bh,oh,hA,hbh,hrh⟩:=Sl.row hopCells_len hsl hj
       obtain ⟨b2,o2,hA2,-,hr2⟩:=Sl.row hopCells_len hsl (show j<hops.length by omega)
       rw[hA] at hA2
       simp only[o'j,Addr.mk.injEq,and_true] at hA2
       obtain ⟨rfl,rfl⟩:=hA2
       subst hA
       obtain ⟨a,ha⟩:∃ a,a=hops[j]:=⟨_,rfl⟩
       obtain ⟨d,hd⟩:∃ d,d=hops[j+1]:=⟨_,rfl⟩
       rw[←ha] at hr2
       rw[←hd] at hrh
       replace ha:=h'd ha
       replace hd:=h'd hd
       have hbhw:bh<w.heap.size:=by omega
       have C:=h'd (fun W=>refbefore_any a d W)
       have h9:=R9.out
       have e0:∀ W,Below w.heap.size w W→W.cell? ⟨bh,oh+j*3,none⟩=some (.int .u32 a.1):=fun W h=>(h.cell (p:=⟨bh,oh+j*3,none⟩) hbhw).trans (hr2 0 _ rfl)
       have e1:∀ W,Below w.heap.size w W→W.cell? ⟨bh,oh+j*3+1,none⟩=some (.int .u32 a.2.1):=fun W h=>(h.cell (p:=⟨bh,oh+j*3+1,none⟩) hbhw).trans (hr2 1 _ rfl)
       have e2:∀ W,Below w.heap.size w W→W.cell? ⟨bh,oh+j*3+2,none⟩=some (.bool a.2.2):=fun W h=>(h.cell (p:=⟨bh,oh+j*3+2,none⟩) hbhw).trans (hr2 2 _ rfl)
       have f0:∀ W,Below w.heap.size w W→W.cell? ⟨bh,oh+(j+1)*3,none⟩=some (.int .u32 d.1):=fun W h=>(h.cell (p:=⟨bh,oh+(j+1)*3,none⟩) hbhw).trans (hrh 0 _ rfl)
       have f1:∀ W,Below w.heap.size w W→W.cell? ⟨bh,oh+(j+1)*3+1,none⟩=some (.int .u32 d.2.1):=fun W h=>(h.cell (p:=⟨bh,oh+(j+1)*3+1,none⟩) hbhw).trans (hrh 1 _ rfl)
       have f2:∀ W,Below w.heap.size w W→W.cell? ⟨bh,oh+(j+1)*3+2,none⟩=some (.bool d.2.2):=fun W h=>(h.cell (p:=⟨bh,oh+(j+1)*3+2,none⟩) hbhw).trans (hrh 2 _ rfl)
       have iwj:IntKind.i64.wrap (j:Int)=(j:Int):=IntWalk.i64_in _ (by omega)
       have i1:(j:Int)+1<(hops.length:Int):=by omega
       have i2:(0:Int)≤(j:Int)+1:=by omega
       have i3:(j:Int)<(hops.length:Int):=by omega
       clear hrh hr2
       obtain ⟨r,hr⟩:∃ r,r=hopLt a d:=⟨_,rfl⟩
       rw[←hr] at C
       replace hr:=h'd hr
       go_upto_region 11 with fail
       clear q9
       go_region_held3 (fun W=>Below w.heap.size w W) (first | assumption | exact hBx.drew | fail)
        (first
         | (go_at_call 59;with_reducible refine c'm (C.out _) ?_;rintro e w4 ⟨rfl,hB4⟩;have hS4:=below_call (B:=w.heap.size) (a:=w) (by first | assumption | exact hBx.drew) hB4 (n'r _))
         | fail)
       clear e0 e1 e2 f0 f1 f2 h9
       cases r
       ·go_wp2
        go_ret
        exact ⟨true,rfl,fun h=>(by cases h),hS4⟩
       ·go_wp2
        go_roundg (hops.length-(j+1+1))
        case measure=>omega
        case rel=>exact ⟨j+1,rfl,by go_num,fun i hi hij=>(by
         by_cases e:i=j
         ·subst e;rw[←ha.out,←hd.out];exact hr.out.symm
         ·exact hadj.out i hi (by omega)),hS4⟩
      ·have i1:¬ (j:Int)+1<(hops.length:Int):=by omega
       go_wp2
       go_roundg (l.length-(k+1))
       case measure=>omega
       case rel=>exact ⟨k+1,nn+(hops.length:Int),by omega,rfl,rfl,by rw[htk.out,←hns.out],by omega,by omega,by go_num,fun i hi hik=>(by
        by_cases e:i=k
        ·subst e;rw[←hops_.out];exact sorted_adj fun a ha=>hadj.out a ha (by omega)
        ·exact hup.out i hi (by omega)),hBx⟩
    ·go_wp2
     go_ret
     exact ⟨true,rfl,fun h=>(by cases h),hBc⟩
  ·obtain rfl:k=l.length:=by omega
   have hns2:=hns.out
   rw[List.take_length] at hns2
   have hle:=lenSum_le l
   by_cases h60:60<l.length
   ·have h60':(60:Int)<(l.length:Int):=by omega
    go_wp2
    go_ret
    exact ⟨true,rfl,fun h=>(by cases h),hBr⟩
   ·have h60':¬ (60:Int)<(l.length:Int):=by omega
    go_wp2
    go_ret
    refine ⟨decide (400<lenSum l),rfl,fun h => ?_,hBr⟩
    have h4:=of_decide_eq_false h
    refine ⟨by omega,fun r hr => ?_⟩
    obtain ⟨i,hi,rfl⟩:=List.getElem_of_mem hr
    have hil:i<l.length:=by have:=hlr.out;omega
    have h5:=hle.2 _ (g'm hil)
    have h6:=sl_lenW (hx.out i hil hi).2.2
    exact ⟨by omega,hup.out i hi hil⟩
set_option maxRecDepth 100000
theorem grown_setRow (w:World) (g:Nat) (cs:Array Value):w.grownBy (w.setRow g cs) (some g):=⟨rfl,rfl,rfl,by simp[World.setRow],fun k _ hne=>setRow_other _ _ k _ (fun e=>hne (by rw[e]))⟩
theorem neq_hopO (h:Hop) (w:World):(binOp .neq 56 (.agg #[.int .u32 h.1,.int .u32 h.2.1,.bool h.2.2]) (.agg #[.int .u32 h.1,.int .u32 h.2.1,.bool h.2.2])).run Tryz.prog w=.ok (.bool false) w:=by
 rw[run_neq_struct,run_equalIn_agg _ _ _ _ _ (by kernel_rfl) (by kernel_rfl)]
 go_simp
theorem neq_preE (a b:Int) (w:World):(binOp .neq 45 (.agg #[.int .u32 a,.int .u8 b]) (.agg #[.int .u32 a,.int .u8 b])).run Tryz.prog w=.ok (.bool false) w:=by
 rw[run_neq_struct,run_equalIn_agg _ _ _ _ _ (by kernel_rfl) (by kernel_rfl)]
 go_simp
set_option maxHeartbeats 4000000 in
theorem eqWay18_any (n:WayN) (xA yA:Option Addr) (xc yc:Nat) (L:List Hop) (B:Nat) (w:World) (hx:Sl w B 3 (.slice xA L.length xc) L.length (L.flatMap hopCells)) (hy:Sl w B 3 (.slice yA L.length yc) L.length (L.flatMap hopCells)) (hB:B≤w.heap.size) (hL:L.length≤2000000) :
  Calls Tryz.prog 56 #[.agg (wayC n (.slice xA L.length xc)),.agg (wayC n (.slice yA L.length yc))] w fun e w'=>e=.returned (.bool true)∧Below w.heap.size w w':=by
 obtain ⟨x0,x1,x2,x3,x4,x5,x6,x7,x8⟩:=n
 dsimp only[wayC]
 have hmix:(Tryz.prog).follows .mixedOrders=true:=by kernel_rfl
 have k0:Blk ((w.alloc (.cells #[.int .u32 x0,.int .u8 x1,.int .u32 x2,.int .u8 x3,.int .u8 x4,.int .u32 x5,.int .u32 x6,.int .u32 x7,.int .u32 x8,.slice xA L.length xc] 48)).alloc (.cells #[.int .u32 x0,.int .u8 x1,.int .u32 x2,.int .u8 x3,.int .u8 x4,.int .u32 x5,.int .u32 x6,.int .u32 x7,.int .u32 x8,.slice yA L.length yc] 126)) w.heap.size 48 #[.int .u32 x0,.int .u8 x1,.int .u32 x2,.int .u8 x3,.int .u8 x4,.int .u32 x5,.int .u32 x6,.int .u32 x7,.int .u32 x8,.slice xA L.length xc]:=(Blk.new _ _ _).alloc _
 have k1:Blk ((w.alloc (.cells #[.int .u32 x0,.int .u8 x1,.int .u32 x2,.int .u8 x3,.int .u8 x4,.int .u32 x5,.int .u32 x6,.int .u32 x7,.int .u32 x8,.slice xA L.length xc] 48)).alloc (.cells #[.int .u32 x0,.int .u8 x1,.int .u32 x2,.int .u8 x3,.int .u8 x4,.int .u32 x5,.int .u32 x6,.int .u32 x7,.int .u32 x8,.slice yA L.length yc] 126)) (w.heap.size+1) 126 #[.int .u32 x0,.int .u8 x1,.int .u32 x2,.int .u8 x3,.int .u8 x4,.int .u32 x5,.int .u32 x6,.int .u32 x7,.int .u32 x8,.slice yA L.length yc]:=Blk.new_ _ (by simp)
 have hB0:Below w.heap.size w ((w.alloc (.cells #[.int .u32 x0,.int .u8 x1,.int .u32 x2,.int .u8 x3,.int .u8 x4,.int .u32 x5,.int .u32 x6,.int .u32 x7,.int .u32 x8,.slice xA L.length xc] 48)).alloc (.cells #[.int .u32 x0,.int .u8 x1,.int .u32 x2,.int .u8 x3,.int .u8 x4,.int .u32 x5,.int .u32 x6,.int .u32 x7,.int .u32 x8,.slice yA L.length yc] 126)):=((b'r _ _).alloc (n'r _) _).alloc (by simp) _
 go_enter Tryz.func56,Tryz.ntmps56
 go_upto_region 1 with fail
 generalize ((w.alloc (.cells #[.int .u32 x0,.int .u8 x1,.int .u32 x2,.int .u8 x3,.int .u8 x4,.int .u32 x5,.int .u32 x6,.int .u32 x7,.int .u32 x8,.slice xA L.length xc] 48)).alloc (.cells #[.int .u32 x0,.int .u8 x1,.int .u32 x2,.int .u8 x3,.int .u8 x4,.int .u32 x5,.int .u32 x6,.int .u32 x7,.int .u32 x8,.slice yA L.length yc] 126))=w1 at *
 have hz1:=k1.lt
 have CW:=way18_any ⟨x0,x1,x2,x3,x4,x5,x6,x7,x8⟩ yA yc L B w1 (hy.keep fun p hp=>hB0.cell (by omega)) (by omega) hL
 dsimp only[wayC] at CW
 replace CW:=h'd CW
 have k1h:=h'd k1
 go_upto_region 2 with (first
  | (refine wpList_load_row rfl 126 (.tmp 3) rfl (w.heap.size+1) rfl 126 #[.int .u32 x0,.int .u8 x1,.int .u32 x2,.int .u8 x3,.int .u8 x4,.int .u32 x5,.int .u32 x6,.int .u32 x7,.int .u32 x8,.slice yA L.length yc] (0,0) _ k1h.out Tryz.underlying126 rfl (by kernel_rfl) ?_)
  | (go_at_call 60;refine c'm CW.out ?_;rintro e w2 ⟨zA,zc,rfl,hoz,hBz⟩)
  | (refine wpList_store_row rfl 48 (.tmp 5) (.tmp 8) rfl w2.heap.size #[.int .u32 x0,.int .u8 x1,.int .u32 x2,.int .u8 x3,.int .u8 x4,.int .u32 x5,.int .u32 x6,.int .u32 x7,.int .u32 x8,.slice zA L.length zc] rfl rfl 48 #[.int .u32 0,.int .u8 0,.int .u32 0,.int .u8 0,.int .u8 0,.int .u32 0,.int .u32 0,.int .u32 0,.int .u32 0,.slice none 0 0] (Blk.new w2 48 #[.int .u32 0,.int .u8 0,.int .u32 0,.int .u8 0,.int .u8 0,.int .u32 0,.int .u32 0,.int .u32 0,.int .u32 0,.slice none 0 0]) (by kernel_rfl) rfl (by simp[Value.oneCell']) ?_)
  | fail)
 have kb:=Blk.new w2 48 #[.int .u32 0,.int .u8 0,.int .u32 0,.int .u8 0,.int .u8 0,.int .u32 0,.int .u32 0,.int .u32 0,.int .u32 0,.slice none 0 0]
 have K2:Blk ((w2.alloc (.cells #[.int .u32 0,.int .u8 0,.int .u32 0,.int .u8 0,.int .u8 0,.int .u32 0,.int .u32 0,.int .u32 0,.int .u32 0,.slice none 0 0] 48)).setRow w2.heap.size #[.int .u32 x0,.int .u8 x1,.int .u32 x2,.int .u8 x3,.int .u8 x4,.int .u32 x5,.int .u32 x6,.int .u32 x7,.int .u32 x8,.slice zA L.length zc]) w2.heap.size 48 #[.int .u32 x0,.int .u8 x1,.int .u32 x2,.int .u8 x3,.int .u8 x4,.int .u32 x5,.int .u32 x6,.int .u32 x7,.int .u32 x8,.slice zA L.length zc]:=setRow_heap _ _ _ _ _ _ kb
 have hB2:Below w2.heap.size w2 ((w2.alloc (.cells #[.int .u32 0,.int .u8 0,.int .u32 0,.int .u8 0,.int .u8 0,.int .u32 0,.int .u32 0,.int .u32 0,.int .u32 0,.slice none 0 0] 48)).setRow w2.heap.size #[.int .u32 x0,.int .u8 x1,.int .u32 x2,.int .u8 x3,.int .u8 x4,.int .u32 x5,.int .u32 x6,.int .u32 x7,.int .u32 x8,.slice zA L.length zc]):=((b'r _ _).alloc (n'r _) _).trans (below_of_grown (grown_setRow _ w2.heap.size #[.int .u32 x0,.int .u8 x1,.int .u32 x2,.int .u8 x3,.int .u8 x4,.int .u32 x5,.int .u32 x6,.int .u32 x7,.int .u32 x8,.slice zA L.length zc]) (by simp) (fun g hg=>by simp only[o'j] at hg;omega))
 generalize (w2.alloc (.cells #[.int .u32 0,.int .u8 0,.int .u32 0,.int .u8 0,.int .u8 0,.int .u32 0,.int .u32 0,.int .u32 0,.int .u32 0,.slice none 0 0] 48)).setRow w2.heap.size #[.int .u32 x0,.int .u8 x1,.int .u32 x2,.int .u8 x3,.int .u8 x4,.int .u32 x5,.int .u32 x6,.int .u32 x7,.int .u32 x8,.slice zA L.length zc]=w3 at *
 have hz2:=hBz.size
 have hB3:Below w.heap.size w w3:=hB0.trans ((hBz.mono (by omega)).trans (hB2.mono (by omega)))
 have K0:Blk w3 w.heap.size 48 #[.int .u32 x0,.int .u8 x1,.int .u32 x2,.int .u8 x3,.int .u8 x4,.int .u32 x5,.int .u32 x6,.int .u32 x7,.int .u32 x8,.slice xA L.length xc]:=(k0.below hBz k0.lt).below hB2 (by have:=k0.lt;omega)
 have hxw:=hx.keep (w':=w3) fun p hp=>hB3.cell (by omega)
 have hzw:=Sl.of_own (own_below hoz hB2)
 have hz3:=K2.lt
 obtain ⟨b2,hb2⟩:∃ b,b=w2.heap.size:=⟨_,rfl⟩
 rw[←hb2] at K2 ⊢
 replace hb2:=h'd hb2
 clear k0 k1 k1h hB0 CW hoz hBz hB2 kb hx hy
 have f0:=K0.cell 0
 have f1:=K0.cell 1
 have f2:=K0.cell 2
 have f3:=K0.cell 3
 have f4:=K0.cell 4
 have f5:=K0.cell 5
 have f6:=K0.cell 6
 have f7:=K0.cell 7
 have f8:=K0.cell 8
 have f9:=K0.cell 9
 simp only[q'a,q'z,q's] at f0 f1 f2 f3 f4 f5 f6 f7 f8 f9
 have g0:=K2.cell 0
 have g1:=K2.cell 1
 have g2:=K2.cell 2
 have g3:=K2.cell 3
 have g4:=K2.cell 4
 have g5:=K2.cell 5
 have g6:=K2.cell 6
 have g7:=K2.cell 7
 have g8:=K2.cell 8
 have g9:=K2.cell 9
 simp only[q'a,q'z,q's] at g0 g1 g2 g3 g4 g5 g6 g7 g8 g9
 have heqp:=fun W=>neq_preE x0 x1 W
 replace hB3:=h'd hB3
 replace K0:=h'd K0
 replace K2:=h'd K2
 go_wp2_with fail
 go_loopg [6] L.length (fun c iv wr=>∃ k:Nat,k≤L.length∧c=L.length-k∧iv=.int .i64 k∧Below w3.heap.size w3 wr)
 case atStart=>exact ⟨0,Nat.zero_le _,rfl,rfl,b'r _ _⟩
 case round =>
  clear f0 g0 f1 g1 f2 g2 f3 g3 f4 g4 f5 g5 f6 g6 f7 g7 f8 g8 f9 g9
  obtain ⟨k,hk,rfl,rfl,hBr⟩:=hrel
  obtain ⟨w4,rfl⟩:∃ x:World,x=wr:=⟨_,rfl⟩
  have q9:=(K0.out.below hBr K0.out.lt).cell 9
  have r9:=(K2.out.below hBr K2.out.lt).cell 9
  simp only[q'a,q'z,q's] at q9 r9
  by_cases hkl:k<L.length
  ·obtain ⟨bx,ox,rfl,hbx,hrx⟩:=Sl.row hopCells_len hxw hkl
   obtain ⟨bz,oz,rfl,hbz,hrz⟩:=Sl.row hopCells_len hzw hkl
   have ik:(k:Int)<(L.length:Int):=by omega
   obtain ⟨h,hh⟩:∃ h,h=L[k]:=⟨_,rfl⟩
   rw[←hh] at hrx hrz
   clear hh
   have hbx3:bx<w3.heap.size:=by have:=hB3.out.size;omega
   have t0:w4.cell? ⟨bx,ox+k*3,none⟩=some (.int .u32 h.1):=(hBr.cell (p:=⟨bx,ox+k*3,none⟩) hbx3).trans (hrx 0 _ rfl)
   have t1:w4.cell? ⟨bx,ox+k*3+1,none⟩=some (.int .u32 h.2.1):=(hBr.cell (p:=⟨bx,ox+k*3+1,none⟩) hbx3).trans (hrx 1 _ rfl)
   have t2:w4.cell? ⟨bx,ox+k*3+2,none⟩=some (.bool h.2.2):=(hBr.cell (p:=⟨bx,ox+k*3+2,none⟩) hbx3).trans (hrx 2 _ rfl)
   have s0:w4.cell? ⟨bz,oz+k*3,none⟩=some (.int .u32 h.1):=(hBr.cell (p:=⟨bz,oz+k*3,none⟩) hbz).trans (hrz 0 _ rfl)
   have s1:w4.cell? ⟨bz,oz+k*3+1,none⟩=some (.int .u32 h.2.1):=(hBr.cell (p:=⟨bz,oz+k*3+1,none⟩) hbz).trans (hrz 1 _ rfl)
   have s2:w4.cell? ⟨bz,oz+k*3+2,none⟩=some (.bool h.2.2):=(hBr.cell (p:=⟨bz,oz+k*3+2,none⟩) hbz).trans (hrz 2 _ rfl)
   have hnh:=fun W=>neq_hopO h W
   clear hrx hrz hxw hzw
   go_upto_region 7 with fail
   go_quiet (fail)
   go_wp2_with fail
   go_roundg (L.length-(k+1))
   case measure=>omega
   case rel=>exact ⟨k+1,by omega,rfl,by go_num,below_drewN hBr nq⟩
  ·have ik:¬ (k:Int)<(L.length:Int):=by omega
   clear hxw hzw
   go_wp2_with fail
   go_ret
   exact ⟨rfl,hB3.out.trans (hBr.mono hB3.out.size)⟩
set_option maxRecDepth 100000
set_option maxHeartbeats 4000000 in
theorem works18_any (w:World):Calls Tryz.prog 20 #[] w fun e w'=>e=.returned (.bool true)∧Below w.heap.size w w':=by
 have CT:=h'd (ring18_any w)
 have hok:∀ s∈S2,StOk s:=by
  intro s hs
  simp only[S2,List.mem_cons,List.not_mem_nil,or_false] at hs
  rcases hs with rfl | rfl
  all_goals exact ⟨⟨by decide,by decide,by decide,by decide,by decide,by decide,by decide,by decide⟩,by decide,by decide⟩
 have hl8:∀ s∈S2,s.2.length≤8192:=by
  intro s hs
  simp only[S2,List.mem_cons,List.not_mem_nil,or_false] at hs
  rcases hs with rfl | rfl
  all_goals decide
 replace hok:=h'd hok
 replace hl8:=h'd hl8
 go_enter Tryz.func20,Tryz.ntmps20
 go_upto_region 2 with (first
  | (go_at_call 50;refine c'm CT.out ?_;rintro e w1 ⟨v,ls,rfl,hS,hl2,hB1⟩)
  | (go_at_call 21;refine c'm (routes18_any _ v S2 ls w1 7 1 hS (n'r _) hok.out hl8.out (by decide)) ?_;rintro e w2 ⟨v1,v2,n,r,rfl,hn,hnh,hr,hrh,hi,-,-,hB2⟩))
 obtain ⟨hin,hir⟩:=ring_is hi
 have hnl:n.length=1:=by have:=congrArg List.length hin;simpa[gOf] using this
 have hrl:r.length=1:=by have:=congrArg List.length hir;simpa[gOf] using this
 obtain ⟨x,rfl⟩:∃ a,n=[a]:=by
  match n,hnl with
  | [a],_=>exact ⟨a,rfl⟩
 obtain ⟨y,rfl⟩:∃ a,r=[a]:=by
  match r,hrl with
  | [a],_=>exact ⟨a,rfl⟩
 obtain ⟨⟨xn,xA,xl,xc⟩,xh⟩:=x
 obtain ⟨⟨yn,yA,yl,yc⟩,yh⟩:=y
 simp only[gOf,List.map_cons,List.map_nil,List.cons.injEq,and_true,net2,rou2,Prod.mk.injEq] at hin hir
 obtain ⟨rfl,rfl⟩:=hin
 obtain ⟨rfl,rfl⟩:=hir
 have hy:=(hrh _ (List.mem_singleton.2 rfl)).sl
 dsimp only at hy
 simp only[List.length_cons,List.length_nil,Nat.zero_add] at hn hr hy
 obtain ⟨-,nA,nc,rfl,-⟩:=id (Sl.of_own hn)
 obtain ⟨-,rA,rc,rfl,-⟩:=id (Sl.of_own hr)
 obtain ⟨-,yA',yc',he,-⟩:=id hy
 simp only[Value.slice.injEq] at he
 obtain ⟨rfl,rfl,rfl⟩:=he
 obtain ⟨bn,on,rfl,hbn,hrn⟩:=Sl.row (f:=yL) (fun x=>rfl) (Sl.of_own hn) (k:=0) (by simp)
 obtain ⟨br,or_,rfl,hbr,hrr⟩:=Sl.row (f:=yL) (fun x=>rfl) (Sl.of_own hr) (k:=0) (by simp)
 obtain ⟨bh,oh,rfl,hbh,hrh2⟩:=Sl.row (f:=hopCells) (l:=[hop2]) (fun x=>rfl) hy (k:=0) (by simp)
 have n0:=hrn 0 _ rfl
 have n1:=hrn 1 _ rfl
 have n5:=hrn 5 _ rfl
 have n6:=hrn 6 _ rfl
 have m2:=hrr 2 _ rfl
 have m9:=hrr 9 _ rfl
 have h0:=hrh2 0 _ rfl
 have h1:=hrh2 1 _ rfl
 have h2:=hrh2 2 _ rfl
 simp only[Nat.add_zero,Nat.zero_mul] at n0 n1 n5 n6 m2 m9 h0 h1 h2
 have q1:∀ W,(binOp .eql 45 (.agg #[.int .u32 167837696,.int .u8 16]) (.agg #[.int .u32 167837696,.int .u8 16])).run Tryz.prog W=.ok (.bool true) W:=fun W=>by kernel_rfl
 have q2:∀ W,(binOp .eql 56 (.agg #[.int .u32 167772161,.int .u32 2,.bool false]) (.agg #[.int .u32 167772161,.int .u32 2,.bool false])).run Tryz.prog W=.ok (.bool true) W:=fun W=>by kernel_rfl
 clear hrn hrr hrh2 hn hr hnh hrh hy hi CT hok hl8
 go_wp2
 go_ret
 exact ⟨rfl,hB1.trans (hB2.mono hB1.size)⟩
end Go.Proofs.YtcknpofnpabkiaaGreat
