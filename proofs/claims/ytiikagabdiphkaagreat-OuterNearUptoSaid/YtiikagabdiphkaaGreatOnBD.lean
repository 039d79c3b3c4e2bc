/- outer.best: of the ways to each prefix the best is left, in order. Conditions: the ways and their hops lie in memory. -/
import Derived.Test.YtiikagabdiphkaaGreatOnBC
import Derived.Test.YtiikagabdiphkaaGreatOnAA
set_option maxRecDepth 100000
namespace Go.Proofs.YtiikagabdiphkaaGreat
open Go.RowKit Go.Lo Go.Maps
def HopB (w0 W:World) (x:WayY):Prop:=Sl W w0.heap.size 3 (.slice x.1.A x.1.len x.1.cap) x.2.length (x.2.flatMap hopCells)∨W.ownsRow w0.heap.size 47 3 (.slice x.1.A x.1.len x.1.cap) x.2.length (x.2.flatMap hopCells)
theorem HopB.grown {w0 W W':World} {x:WayY} {row:Option Nat} (h:HopB w0 W x) (hz:w0.heap.size≤W.heap.size) (hg:W.grownBy W' row) (hr:∀ b,row=some b→w0.heap.size≤b∧∀ cs fz,W.heap[b]?≠some (.cells cs 47 fz)):HopB w0 W' x:=by
 rcases h with h | h
 ·exact .inl (h.below (below_of_grown hg hz fun b hb=>(hr b hb).1))
 ·refine .inr (own_same h fun k hk=>hg.block k (h.lt k hk).2 fun e => ?_)
  rcases h.2 with h' | ⟨g',cap,cur,hv,_,hh,_⟩
  ·rw[h'.1] at hk
   cases hk
  ·have h1:k=g':=by
    rw[hv] at hk
    simp only[Value.ownBlock,Option.some.injEq] at hk
    exact hk.symm
   subst h1
   exact (hr k e.symm).2 _ _ hh
theorem HopB.call {w0 W W':World} {x:WayY} (h:HopB w0 W x) (hz:w0.heap.size≤W.heap.size) (hB:Below W.heap.size W W'):HopB w0 W' x:=h.grown hz (grown_of_below hB none) fun _ e=>by cases e
theorem HopB.at_ {w0 W:World} {x:WayY} (h:HopB w0 W x) (hz:w0.heap.size≤W.heap.size):HopsAt x W:=by
 rcases h with h | h
 ·exact h.more hz
 ·exact Sl.of_own h
theorem notHop {W:World} {b:Nat} {t:TypeId} {cs:Array Value} (h:Blk W b t cs) (hne:t≠47):∀ cs fz,W.heap[b]?≠some (.cells cs 47 fz):=fun cs fz e=>by
 have h1:W.heap[b]?=some (.cells _ t (0,0)):=h
 rw[h1] at e
 simp only[Option.some.injEq,Obj.cells.injEq] at e
 exact hne e.2.1
theorem mapNotHop {W:World} {b n:Nat} {k:TypeId} {R:Value→Option (DataW Unit × List MemPlace)} {D:DataW Unit} (h:W.ownsMap Tryz.prog k R b n D):∀ cs fz,W.heap[b]?≠some (.cells cs 47 fz):=fun cs fz e=>by
 obtain ⟨es,clock,hb,_⟩:=h
 rw[hb] at e
 cases e
theorem own_block {W:World} {base n s:Nat} {t:TypeId} {v:Value} {xs:List Value} (h:W.ownsRow base t s v n xs):∀ b,v.ownBlock=some b→base≤b∧∃ cs,Blk W b t cs:=fun b hb=>by
 refine ⟨(h.lt b hb).1,?_⟩
 rcases h.2 with h' | ⟨g',cap,cur,hv,_,hh,_⟩
 ·rw[h'.1] at hb
  cases hb
 ·rw[hv] at hb
  simp only[Value.ownBlock,Option.some.injEq] at hb
  subst hb
  exact ⟨cur,hh⟩
theorem splice_last (l:List WayY):∀ (i:Nat) (hi:i<l.length) (y:WayY),(yL y).take 9=(yL l[i]).take 9→splice (l.flatMap yL) (i*10+9) ((yL y).drop 9)=(l.set i y).flatMap yL:=by
 induction l with
 | nil=>intro i hi;cases hi
 | cons x r ih =>
  intro i hi y he
  have hx:(yL x).length=10:=yE.len x
  have hy:(yL y).length=10:=yE.len y
  have hd:((yL y).drop 9).length=1:=by rw[List.length_drop,hy]
  cases i with
  | zero =>
   simp only[List.getElem_cons_zero] at he
   simp only[List.flatMap_cons,s'z,splice,Nat.zero_mul,Nat.zero_add,hd]
   have e1:(yL x).drop (9+1)=[]:=List.drop_of_length_le (by rw[hx];omega)
   rw[List.take_append_of_le_length (by rw[hx];omega),←he,List.drop_append_of_le_length (by rw[hx];omega),e1,List.nil_append,←List.append_assoc,List.take_append_drop]
  | succ i =>
   have hi2:i<r.length:=by simpa using hi
   simp only[List.getElem_cons_succ] at he
   have h1:=ih i hi2 y he
   simp only[List.flatMap_cons,s's]
   rw[←h1]
   unfold splice
   rw[show (i+1)*10+9=(yL x).length+(i*10+9) by rw[hx];omega,Nat.add_assoc,List.take_length_add_append,List.drop_length_add_append,List.append_assoc]
theorem wf_i64 {n:Nat} (h:n≤1000000):(Lit.int .i64 (n:Int)).wf=true:=by
 have h1:IntKind.i64.min = -9223372036854775808:=by decide
 have h2:IntKind.i64.max=9223372036854775807:=by decide
 simp[Lit.wf,h1,h2]
 omega
structure BesS (w:World) (R:List WayG) (k:Nat) (outs:List WayY) (v:Value) (nn:Nat) (D:DataW Unit) (wr:World):Prop where
 out:gOf outs=mergeP (R.take k)
 own:wr.ownsRow (w.heap.size+1) 38 10 v outs.length (outs.flatMap yL)
 map:wr.ownsMap Tryz.prog 35 (plainElem Tryz.prog 3) w.heap.size nn D
 ok:MapI D (at_ (mergeP (R.take k)))
 nn:nn≤k
 hops:∀ x∈outs,HopB w wr x
 below:Below w.heap.size w wr
theorem BesS.call {w:World} {R:List WayG} {k:Nat} {outs:List WayY} {v:Value} {nn:Nat} {D:DataW Unit} {wr w':World} (h:BesS w R k outs v nn D wr) (hB:Below wr.heap.size wr w'):BesS w R k outs v nn D w':=
 ⟨h.out,own_below h.own hB,h.map.kept (grown_of_below hB none) (by simp),h.ok,h.nn,fun x hx=>(h.hops x hx).call h.below.size hB,h.below.trans (hB.mono h.below.size)⟩
theorem gOf_getD {outs:List WayY} {L:List WayG} (h:gOf outs=L) {i:Nat} (hi:i<outs.length):L[i]?=some (outs[i].1.n,outs[i].2):=by
 rw[←h]
 simp[gOf,hi]
def BestPost (R:List WayG) (w:World) (e:Ending) (w':World):Prop:=
 ∃ (v:Value) (xs:List WayY),e=.returned v∧w'.ownsRow (w.heap.size+1) 38 10 v xs.length (xs.flatMap yL)∧(∀ x∈xs,HopB w w' x)∧(gOf xs).Perm (mergeP R)∧(∀ i j:Nat,i<j→∀ (hj:j<xs.length) (hi:i<xs.length),ltO xs[j].1 xs[i].1=false)∧Below w.heap.size w w'
def JoiV (base ob n oc i xb:Nat) (yA:Option Addr) (yn yc:Nat) (xA:Option Addr) (xn xc:Nat) (L:List Hop):Nat→Value→Value→World→Prop
 | 0,v,_,_=>v=.slice (some ⟨ob,0,none⟩) n oc
 | 1,v,_,_=>v=.int .i64 i
 | 2,v,_,_=>v=.slice (some ⟨ob,0,none⟩) n oc
 | 3,v,_,_=>v=.int .i64 i
 | 4,v,_,_=>v=.pointer (some ⟨ob,i*10,none⟩)
 | 5,v,_,_=>v=.pointer (some ⟨ob,i*10+9,none⟩)
 | 6,v,_,_=>v=.slice yA yn yc
 | 7,v,_,_=>v=.pointer (some ⟨xb,9,none⟩)
 | 8,v,_,_=>v=.slice xA xn xc
 | 9,v,_,W=>∃ (A:Option Addr) (c:Nat),v=.slice A L.length c∧W.ownsRow base 47 3 (.slice A L.length c) L.length (L.flatMap hopCells)
 | 10,v,_,_=>v=.pointer (some ⟨ob,i*10,none⟩)
 | 11,v,_,_=>v=.pointer (some ⟨ob,i*10+9,none⟩)
 | _,_,_,_=>True
def JoiS (ob:Nat) (W W':World):Prop:=Below W.heap.size W W'∨(W.grownBy W' (some ob)∧∃ cs,Blk W ob 38 cs)
theorem JoiV.turn {base ob n oc i xb:Nat} {yA:Option Addr} {yn yc:Nat} {xA:Option Addr} {xn xc:Nat} {L:List Hop}:∀ (j:Nat) (v u:Value) (W W':World),JoiS ob W W'→JoiV base ob n oc i xb yA yn yc xA xn xc L j v u W→JoiV base ob n oc i xb yA yn yc xA xn xc L j v u W'
 | 0,_,_,_,_,_,h=>h
 | 1,_,_,_,_,_,h=>h
 | 2,_,_,_,_,_,h=>h
 | 3,_,_,_,_,_,h=>h
 | 4,_,_,_,_,_,h=>h
 | 5,_,_,_,_,_,h=>h
 | 6,_,_,_,_,_,h=>h
 | 7,_,_,_,_,_,h=>h
 | 8,_,_,_,_,_,h=>h
 | 9,_,_,_,_,.inl hB,⟨A,c,h1,h2⟩=>⟨A,c,h1,own_below h2 hB⟩
 | 9,_,_,_,_,.inr ⟨hg,cs,hb⟩,⟨A,c,h1,h2⟩=>⟨A,c,h1,own_same h2 fun k hk=>hg.block k (h2.lt k hk).2 fun e=>own_ne h2 hb (by decide) k hk (by simpa using e)⟩
 | 10,_,_,_,_,_,h=>h
 | 11,_,_,_,_,_,h=>h
 | _+12,_,_,_,_,_,_=>trivial
def JoiF (w w3:World) (outs:List WayY) (i:Nat) (n:WayN) (L:List Hop) (ob oc:Nat) (W:World):Prop:=
 ∃ (A:Option Addr) (c:Nat),W.ownsRow (w.heap.size+1) 38 10 (.slice (some ⟨ob,0,none⟩) outs.length oc) outs.length ((outs.set i ((⟨n,A,L.length,c⟩,L):WayY)).flatMap yL)∧W.ownsRow w.heap.size 47 3 (.slice A L.length c) L.length (L.flatMap hopCells) ∧
  ∃ W0,Below w3.heap.size w3 W0∧W0.grownBy W (some ob)
def JoiI (w w3:World) (outs:List WayY) (i:Nat) (n:WayN) (L:List Hop) (ob oc:Nat) (done:Nat→Bool) (W:World):Prop:=(done 12=false→Below w3.heap.size w3 W)∧(done 12=true→JoiF w w3 outs i n L ob oc W)
theorem JoiI.not_ {w w3:World} {outs:List WayY} {i:Nat} {n:WayN} {L:List Hop} {ob oc:Nat} {done:Nat→Bool} {W:World} (j:Nat) (hj:12≠j) (h12:done 12=false) (h:Below w3.heap.size w3 W):JoiI w w3 outs i n L ob oc (andD done j) W:=⟨fun _=>h,fun e=>by
 unfold andD at e
 rw[if_neg hj,h12] at e
 cases e⟩
set_option maxHeartbeats 8000000 in
theorem best_any (R:List WayG) (l:List WayV) (lv:Value) (B:Nat) (w:World) (hW:WaysIn w B lv R l) (hB:B≤w.heap.size) (hk:∀ g∈R,InO (keyO g.1)) (hsum:hopsN R≤200000) (hn:l.length≤10000) :
  Calls Tryz.prog 84 #[lv] w (BestPost R w):=by
 obtain ⟨-,A,c,rfl,-⟩:=id hW.sl
 have hlR:=hW.len
 have hmm:=@run_makeMap Tryz.prog
 have hmix:(Tryz.prog).follows .mixedOrders=true:=by kernel_rfl
 have hM0:=World.ownsMap_made (H:=Unit) w Tryz.prog 35 (plainElem Tryz.prog 3)
 have hZI:∀ W,(zeroValue 3).run Tryz.prog W=.ok (.int .i64 0) W:=fun W=>by kernel_rfl
 have kB:Below w.heap.size w (w.alloc (.map #[] 0)):=(Below.refl _ _).alloc (Nat.le_refl _) _
 replace hM0:=Lib.hid hM0
 replace hW:=Lib.hid hW
 replace hk:=Lib.hid hk
 replace hsum:=Lib.hid hsum
 replace hlR:=Lib.hid hlR
 go_enter Tryz.func84,Tryz.ntmps84
 go_upto_region 3 with fail
 generalize w.alloc (.map #[] 0)=w0 at hM0 kB ⊢
 go_wp2_with fail
 go_loopg [4,12] l.length (fun c v i wr=>∃ (k:Nat) (outs:List WayY) (nn:Nat) (D:DataW Unit),k≤l.length∧c=l.length-k∧i=.int .i64 k∧BesS w R k outs v nn D wr)
 case atStart=>exact ⟨0,[],0,_,Nat.zero_le _,rfl,rfl,⟨rfl,World.ownsRow_nil _ _ _ _,hM0.out,MapI.start fun _=>rfl,Nat.le_refl _,fun x hx=>(by cases hx),kB⟩⟩
 case round =>
  clear hM0 kB
  obtain ⟨k,outs,nn,D,hkl,rfl,rfl,hS⟩:=hrel
  obtain ⟨w1,rfl⟩:∃ x:World,x=wr:=⟨_,rfl⟩
  have hz:=hS.below.size
  have hml:=hS.map.lt
  have hxm:w1.heap.size≠w.heap.size:=by omega
  obtain ⟨-,oA,oc,rfl,-⟩:=id (Sl.of_own hS.own)
  have hon:outs.length≤k:=by
   have h1:=congrArg List.length hS.out
   have h2:=mergeP_len (R.take k)
   simp only[gOf,List.length_map,List.length_take] at h1 h2
   omega
  by_cases hkx:k<l.length
  ·have hkR:k<R.length:=by rw[←hlR.out];exact hkx
   have hol:∀ x∈outs,x.2.length≤200000:=fun x hx=>by
    have h1:(x.1.n,x.2)∈gOf outs:=List.mem_map.2 ⟨x,hx,rfl⟩
    rw[hS.out] at h1
    have h2:=hopsN_mem h1
    have h3:=mergeP_sum (R.take k)
    have h4:=hopsN_take R k
    have h5:=hsum.out
    simp only at h2
    omega
   obtain ⟨b,off,rfl,hb,hrow⟩:=Sl.row wayL_len (hW.out.sl.below (hS.below.mono hB)) hkx
   have hsl:=(hW.out.hops k hkx hkR).below (hS.below.mono hB)
   have hn1:=hW.out.n k hkx hkR
   have hkk:=hk.out _ (List.getElem_mem hkR)
   have hhk:R[k].2.length≤200000:=Nat.le_trans (hopsN_mem (List.getElem_mem hkR)) hsum.out
   have hstep:mergeP (R.take (k+1))=mergeStep (mergeP (R.take k)) R[k]:=by rw[List.take_succ_eq_append_getElem hkR,mergeP_snoc]
   obtain ⟨x,hx⟩:∃ x,x=l[k]:=⟨_,rfl⟩
   rw[←hx] at hrow hsl hn1
   clear hx
   obtain ⟨g,hg⟩:∃ g,g=R[k]:=⟨_,rfl⟩
   rw[←hg] at hsl hn1 hkk hhk hstep
   clear hg
   obtain ⟨g1,xh⟩:=g
   obtain ⟨⟨x0,x1,x2,x3,x4,x5,x6,x7,x8⟩,xA,xn,xc⟩:=x
   simp only at hn1
   subst hn1
   obtain rfl:xn=xh.length:=sl_len hsl
   dsimp only at hsl hhk
   have q0:w1.cell? ⟨b,off+k*10,none⟩=some (.int .u32 x0):=hrow 0 _ rfl
   have q1:w1.cell? ⟨b,off+k*10+1,none⟩=some (.int .u8 x1):=hrow 1 _ rfl
   have q2:w1.cell? ⟨b,off+k*10+2,none⟩=some (.int .u32 x2):=hrow 2 _ rfl
   have q3:w1.cell? ⟨b,off+k*10+3,none⟩=some (.int .u8 x3):=hrow 3 _ rfl
   have q4:w1.cell? ⟨b,off+k*10+4,none⟩=some (.int .u8 x4):=hrow 4 _ rfl
   have q5:w1.cell? ⟨b,off+k*10+5,none⟩=some (.int .u32 x5):=hrow 5 _ rfl
   have q6:w1.cell? ⟨b,off+k*10+6,none⟩=some (.int .u32 x6):=hrow 6 _ rfl
   have q7:w1.cell? ⟨b,off+k*10+7,none⟩=some (.int .u32 x7):=hrow 7 _ rfl
   have q8:w1.cell? ⟨b,off+k*10+8,none⟩=some (.int .u32 x8):=hrow 8 _ rfl
   have q9:w1.cell? ⟨b,off+k*10+9,none⟩=some (.slice xA xh.length xc):=hrow 9 _ rfl
   have ik:(k:Int)<(l.length:Int):=by omega
   clear hrow
   have KX:=Blk.new w1 38 #[.int .u32 x0,.int .u8 x1,.int .u32 x2,.int .u8 x3,.int .u8 x4,.int .u32 x5,.int .u32 x6,.int .u32 x7,.int .u32 x8,.slice xA xh.length xc]
   have hB2:Below w1.heap.size w1 (w1.alloc (.cells #[.int .u32 x0,.int .u8 x1,.int .u32 x2,.int .u8 x3,.int .u8 x4,.int .u32 x5,.int .u32 x6,.int .u32 x7,.int .u32 x8,.slice xA xh.length xc] 38)):=(Below.refl _ _).alloc (Nat.le_refl _) _
   replace hS:=Lib.hid hS
   replace hsl:=Lib.hid hsl
   replace hstep:=Lib.hid hstep
   replace hkk:=Lib.hid hkk
   replace hol:=Lib.hid hol
   go_upto_region 6 with fail
   clear q0 q1 q2 q3 q4 q5 q6 q7 q8 q9
   have hS2:=Lib.hid (hS.out.call hB2)
   have hsl2:=Lib.hid (hsl.out.below (hB2.mono (by omega)))
   have hz2:=hB2.size
   have hXlt:=KX.lt
   clear hS hsl
   generalize w1.alloc (.cells #[.int .u32 x0,.int .u8 x1,.int .u32 x2,.int .u8 x3,.int .u8 x4,.int .u32 x5,.int .u32 x6,.int .u32 x7,.int .u32 x8,.slice xA xh.length xc] 38)=w2 at *
   have x0':=KX.cell 0
   have x1':=KX.cell 1
   simp only[q'a,q'z,q's] at x0' x1'
   have hko:=key_o (x0,x1) hkk.out
   cases hat:at_ (mergeP (R.take k)) (x0,x1) with
   | none =>
    have hhas:Maps.has D (olit (x0,x1))=false:=hS2.out.ok.none_ (x0,x1) hkk.out hat
    have hM2:=Lib.hid hS2.out.map
    have hwf:(Lit.int .i64 (outs.length:Int)).wf=true:=wf_i64 (by omega)
    go_upto_region 7 with (at_lookup;refine wpList_lookup_own_ok_int _ rfl _ _ 204 rfl 35 3 .i64 pref_keyed Tryz.underlying204 Tryz.underlying3 (hZI _) w.heap.size nn D rfl hM2.out _ (olit (x0,x1)) rfl hko ?_;intro cc hcc hwc;rw[hhas])
    have hnn:=hS2.out.nn
    go_upto_region 9 with (at_mapUpdate;refine wpList_mapUpdate_own _ rfl _ _ _ 204 rfl 35 3 pref_keyed Tryz.underlying204 _ w.heap.size nn D rfl hM2.out (by simp only[maxLen];omega) _ _ (olit (x0,x1)) rfl rfl hko (.lit (.int .i64 (outs.length:Int))) [] (plainElem_int Tryz.underlying3 hwf) ?_;intro w6 hM6 hG6;replace hM6:=Lib.hid hM6;replace hG6:=Lib.hid hG6)
    have KX6:=KX.same (hG6.out.block _ KX.lt (by simpa using hxm))
    have hz6:=hG6.out.size
    have hO6:=own_alloc (own_same hS2.out.own fun b' hb'=>hG6.out.block b' (hS2.out.own.lt b' hb').2 (by have:=(hS2.out.own.lt b' hb').1;simp;omega)) (.cells #[.int .u32 x0,.int .u8 x1,.int .u32 x2,.int .u8 x3,.int .u8 x4,.int .u32 x5,.int .u32 x6,.int .u32 x7,.int .u32 x8,.slice xA xh.length xc] 38)
    have hH6:∀ x∈outs,HopB w (w6.alloc (.cells #[.int .u32 x0,.int .u8 x1,.int .u32 x2,.int .u8 x3,.int .u8 x4,.int .u32 x5,.int .u32 x6,.int .u32 x7,.int .u32 x8,.slice xA xh.length xc] 38)) x:=fun x hx=>((hS2.out.hops x hx).grown hS2.out.below.size hG6.out (fun b' hb'=>by
     simp only[Option.some.injEq] at hb'
     subst hb'
     exact ⟨Nat.le_refl _,mapNotHop hM2.out⟩)).call (by omega) ((Below.refl _ _).alloc (Nat.le_refl _) _)
    have hB6:Below w.heap.size w6 (w6.alloc (.cells #[.int .u32 x0,.int .u8 x1,.int .u32 x2,.int .u8 x3,.int .u8 x4,.int .u32 x5,.int .u32 x6,.int .u32 x7,.int .u32 x8,.slice xA xh.length xc] 38)):=(Below.refl _ _).alloc (by omega) _
    have hB26:Below w.heap.size w2 w6:=below_of_grown hG6.out (by omega) (fun b' hb'=>by simp only[Option.some.injEq] at hb';omega)
    have hsl6:=(hsl2.out.below (hB26.mono hB)).below (hB6.mono hB)
    have hM7:=Lib.hid (hM6.out.alloc (.cells #[.int .u32 x0,.int .u8 x1,.int .u32 x2,.int .u8 x3,.int .u8 x4,.int .u32 x5,.int .u32 x6,.int .u32 x7,.int .u32 x8,.slice xA xh.length xc] 38))
    have hbl:Below w.heap.size w (w6.alloc (.cells #[.int .u32 x0,.int .u8 x1,.int .u32 x2,.int .u8 x3,.int .u8 x4,.int .u32 x5,.int .u32 x6,.int .u32 x7,.int .u32 x8,.slice xA xh.length xc] 38)):=(hS2.out.below.trans hB26).trans hB6
    replace hO6:=Lib.hid hO6
    replace hH6:=Lib.hid hH6
    replace hsl6:=Lib.hid hsl6
    replace hbl:=Lib.hid hbl
    clear hB26 hB6 x0' x1' KX hM2
    go_wp2_with (first
     | (refine wpList_load_row rfl 38 (.tmp 6) rfl w1.heap.size rfl 38 #[.int .u32 x0,.int .u8 x1,.int .u32 x2,.int .u8 x3,.int .u8 x4,.int .u32 x5,.int .u32 x6,.int .u32 x7,.int .u32 x8,.slice xA xh.length xc] (0,0) _ KX6 Tryz.underlying38 rfl (by kernel_rfl) ?_)
     | (at_builtin;refine wpList_append rfl (.tmp 30) (.tmp 32) 30 rfl (w.heap.size+1) wayT (.slice oA outs.length oc) outs.length (outs.flatMap yL) rfl hO6.out _ _ 1 [.int .u32 x0,.int .u8 x1,.int .u32 x2,.int .u8 x3,.int .u8 x4,.int .u32 x5,.int .u32 x6,.int .u32 x7,.int .u32 x8,.slice xA xh.length xc] rfl (Sl.lit w6 #[.int .u32 x0,.int .u8 x1,.int .u32 x2,.int .u8 x3,.int .u8 x4,.int .u32 x5,.int .u32 x6,.int .u32 x7,.int .u32 x8,.slice xA xh.length xc] 38 (by simp[maxLen]) rfl) (by simp[Value.oneCell']) (by simp only[maxLen];omega) (by omega) (by simp;omega) ?_;intro v7 w7 ho7 hg7 hob7)
     | fail)
    have hown7:∀ b',(Value.slice oA outs.length oc).ownBlock=some b'→w.heap.size+1≤b'∧∃ cs,Blk (w6.alloc (.cells #[.int .u32 x0,.int .u8 x1,.int .u32 x2,.int .u8 x3,.int .u8 x4,.int .u32 x5,.int .u32 x6,.int .u32 x7,.int .u32 x8,.slice xA xh.length xc] 38)) b' 38 cs:=own_block hO6.out
    go_roundg (l.length-(k+1))
    case measure=>omega
    case rel =>
     refine ⟨k+1,outs++[((⟨⟨x0,x1,x2,x3,x4,x5,x6,x7,x8⟩,xA,xh.length,xc⟩,xh):WayY)],nn+1,_,by omega,rfl,by go_num,?_,?_,hM7.out.kept hg7 (fun e=>by have:=(hown7 _ e.symm).1;omega),?_,by omega,fun z hz' => ?_,hbl.out.trans (below_of_grown hg7 (by simp;omega) fun b' hb'=>by have:=(hown7 _ hb').1;omega)⟩
     ·have h1:mergeP (R.take (k+1))=mergeP (R.take k)++[(⟨x0,x1,x2,x3,x4,x5,x6,x7,x8⟩,xh)]:=by
       rw[hstep.out]
       unfold mergeStep
       rw[show keyO (⟨x0,x1,x2,x3,x4,x5,x6,x7,x8⟩:WayN)=(x0,x1) from rfl,hat]
      rw[h1,←hS2.out.out]
      simp[gOf]
     ·rw[List.length_append,List.flatMap_append]
      exact ho7
     ·refine MapI.put hS2.out.ok hS2.out.map.isMap _ hkk.out outs.length fun k' => ?_
      have h1:mergeP (R.take (k+1))=mergeP (R.take k)++[(⟨x0,x1,x2,x3,x4,x5,x6,x7,x8⟩,xh)]:=by
       rw[hstep.out]
       unfold mergeStep
       rw[show keyO (⟨x0,x1,x2,x3,x4,x5,x6,x7,x8⟩:WayN)=(x0,x1) from rfl,hat]
      rw[h1,at_snoc (by exact hat)]
      have h2:(mergeP (R.take k)).length=outs.length:=by rw[←hS2.out.out];simp[gOf]
      rw[h2]
     ·have hgr:∀ b',(Value.slice oA outs.length oc).ownBlock=some b'→w.heap.size≤b'∧∀ cs fz,(w6.alloc (.cells #[.int .u32 x0,.int .u8 x1,.int .u32 x2,.int .u8 x3,.int .u8 x4,.int .u32 x5,.int .u32 x6,.int .u32 x7,.int .u32 x8,.slice xA xh.length xc] 38)).heap[b']?≠some (.cells cs 47 fz):=fun b' hb'=>by
       obtain ⟨h1,cs,h2⟩:=hown7 b' hb'
       exact ⟨by omega,notHop h2 (by decide)⟩
      rcases List.mem_append.1 hz' with hz' | hz'
      ·exact (hH6.out z hz').grown hbl.out.size hg7 hgr
      ·rw[List.mem_singleton.1 hz']
       exact HopB.grown (.inl (hsl6.out.more hB)) hbl.out.size hg7 hgr
   | some i =>
    obtain ⟨hi0,-⟩:=at_some hat
    have hLo:(mergeP (R.take k)).length=outs.length:=by rw[←hS2.out.out];simp[gOf]
    have hi:i<outs.length:=by omega
    obtain ⟨hhas,hatk⟩:=hS2.out.ok.some_ (x0,x1) i hkk.out hat
    have hM2:=Lib.hid hS2.out.map
    have hgd:(mergeP (R.take k)).getD i (⟨x0,x1,x2,x3,x4,x5,x6,x7,x8⟩,xh)=(outs[i].1.n,outs[i].2):=by
     have:=gOf_getD hS2.out.out hi
     rw[List.getD_eq_getElem?_getD,this]
     rfl
    have hms:∀ z,betterP ⟨x0,x1,x2,x3,x4,x5,x6,x7,x8⟩ outs[i].1.n=z→mergeP (R.take (k+1))=(if z = -1 then (mergeP (R.take k)).set i (⟨x0,x1,x2,x3,x4,x5,x6,x7,x8⟩,xh) else if z=0 then (mergeP (R.take k)).set i (outs[i].1.n,puts (puts [] outs[i].2) xh) else mergeP (R.take k)):=fun z hz'=>by
     rw[hstep.out]
     unfold mergeStep
     rw[show keyO (⟨x0,x1,x2,x3,x4,x5,x6,x7,x8⟩:WayN)=(x0,x1) from rfl,hat]
     simp only[hgd,hz']
    have hkey:∀ (q:WayG),keyO q.1=keyO outs[i].1.n→at_ ((mergeP (R.take k)).set i q)=at_ (mergeP (R.take k)):=fun q hq=>by
     funext k'
     refine at_set hi0 ?_ k'
     rw[hq]
     have:=gOf_getD hS2.out.out hi
     rw[List.getElem?_eq_getElem hi0,Option.some.injEq] at this
     rw[this]
    have hkxy:keyO outs[i].1.n=(x0,x1):=by
     obtain ⟨h1,h2⟩:=at_some hat
     have:=gOf_getD hS2.out.out hi
     rw[List.getElem?_eq_getElem h1,Option.some.injEq] at this
     rw[this] at h2
     exact h2
    have hown2:=hS2.out.own
    have hHi:=hS2.out.hops _ (List.getElem_mem hi)
    have hli:=hol.out _ (List.getElem_mem hi)
    obtain ⟨ob,cap,hvo,hob,hol2⟩:=hown2.form (by omega)
    obtain ⟨b',off',hA',hb',hrow'⟩:=Sl.row yE.len (Sl.of_own hown2) hi
    simp only[Value.slice.injEq,true_and] at hvo
    obtain ⟨rfl,rfl⟩:=hvo
    simp only[Option.some.injEq,Addr.mk.injEq,and_true] at hA'
    obtain ⟨rfl,rfl⟩:=hA'
    obtain ⟨y,hy⟩:∃ y,y=outs[i]:=⟨_,rfl⟩
    rw[←hy] at hrow' hgd hms hkey hkxy hHi hli
    obtain ⟨⟨⟨y0,y1,y2,y3,y4,y5,y6,y7,y8⟩,yA,yn,yc⟩,yh⟩:=y
    obtain rfl:yn=yh.length:=by
     rcases hHi with h | h
     ·exact sl_len h
     ·exact sl_len (Sl.of_own h)
    dsimp only at hms hkey hkxy hHi hli
    have CB:=fun W=>better_any ⟨x0,x1,x2,x3,x4,x5,x6,x7,x8⟩ ⟨y0,y1,y2,y3,y4,y5,y6,y7,y8⟩ (.slice xA xh.length xc) (.slice yA yh.length yc) W
    dsimp only[wayC] at CB
    generalize hz0:betterP ⟨x0,x1,x2,x3,x4,x5,x6,x7,x8⟩ ⟨y0,y1,y2,y3,y4,y5,y6,y7,y8⟩=z at CB
    replace hms:=Lib.hid (hms z hz0)
    clear hz0 hgd
    replace CB:=Lib.hid CB
    replace hkey:=Lib.hid hkey
    replace hkxy:=Lib.hid hkxy
    replace hy:=Lib.hid hy
    replace hHi:=Lib.hid hHi
    replace hrow':=Lib.hid hrow'
    replace hown2:=Lib.hid hown2
    have iI:(i:Int)<(outs.length:Int):=by omega
    go_upto_region 10 with (at_lookup;refine wpList_lookup_own_ok_int _ rfl _ _ 204 rfl 35 3 .i64 pref_keyed Tryz.underlying204 Tryz.underlying3 (hZI _) w.heap.size nn D rfl hM2.out _ (olit (x0,x1)) rfl hko ?_;intro cc hcc hwc;rw[hatk] at hcc;simp only[DataW.lit.injEq,Lit.int.injEq,true_and] at hcc;subst hcc;rw[hhas])
    clear x0' x1'
    refine wp_region_vals [some 34,some 35,some 36,some 37,some 38,some 39] (fun W=>Below w2.heap.size w2 W) (fun W W'=>Below W.heap.size W W') id (ValV [.agg #[.int .u32 x0,.int .u8 x1,.int .u32 x2,.int .u8 x3,.int .u8 x4,.int .u32 x5,.int .u32 x6,.int .u32 x7,.int .u32 x8,.slice xA xh.length xc],.slice (some ⟨ob,0,none⟩) outs.length oc,.int .i64 i,.pointer (some ⟨ob,i*10,none⟩),.agg #[.int .u32 y0,.int .u8 y1,.int .u32 y2,.int .u8 y3,.int .u8 y4,.int .u32 y5,.int .u32 y6,.int .u32 y7,.int .u32 y8,.slice yA yh.length yc],.int .i64 z]) hmix (by kernel_rfl) rfl (by decide) (by kernel_rfl) (fun _ _ _ _ _ _ h=>h) (Below.refl _ _).drew ?_ ?_
    ·intro t w' a' hI ha j hlt hd
     simp only[putFrom,Act.put,Nat.reduceAdd,s'a,s'z,s's] at ha
     subst ha
     replace hlt:j<6:=hlt
     have hzw:=hI.size
     rcases (show j=0∨j=1∨j=2∨j=3∨j=4∨j=5 by omega) with rfl | rfl | rfl | rfl | rfl | rfl
     ·have KXw:=KX.below hI KX.lt
      have c0:=KXw.cell 0
      have c1:=KXw.cell 1
      have c2:=KXw.cell 2
      have c3:=KXw.cell 3
      have c4:=KXw.cell 4
      have c5:=KXw.cell 5
      have c6:=KXw.cell 6
      have c7:=KXw.cell 7
      have c8:=KXw.cell 8
      have c9:=KXw.cell 9
      simp only[q'a,q'z,q's] at c0 c1 c2 c3 c4 c5 c6 c7 c8 c9
      refine wpOp_step rfl (fun K' hK => ?_)
      replace hK:=Lib.hid hK
      go_wp2
      exact hK.out _ _ ⟨_,(by simp only[Act.put,q'z,o'g,s'a,s'z,s's]),hI,Below.refl _ _,rfl⟩
     ·refine wpOp_step rfl (fun K' hK => ?_)
      replace hK:=Lib.hid hK
      go_wp2
      exact hK.out _ _ ⟨_,(by simp only[Act.put,q'z,q's,o'g,s'a,s'z,s's]),hI,Below.refl _ _,rfl⟩
     ·refine wpOp_step rfl (fun K' hK => ?_)
      replace hK:=Lib.hid hK
      go_wp2
      exact hK.out _ _ ⟨_,(by simp only[Act.put,q'z,q's,o'g,s'a,s'z,s's]),hI,Below.refl _ _,rfl⟩
     ·have d1:t 1=.slice (some ⟨ob,0,none⟩) outs.length oc:=(Option.some.inj (hd 1 (by kernel_rfl))).symm
      have d2:t 2=.int .i64 i:=(Option.some.inj (hd 2 (by kernel_rfl))).symm
      rw[d1,d2]
      refine wpOp_step rfl (fun K' hK => ?_)
      replace hK:=Lib.hid hK
      go_wp2
      exact hK.out _ _ ⟨_,(by simp only[Act.put,q'z,q's,o'g,s'a,s'z,s's]),hI,Below.refl _ _,rfl⟩
     ·have d3:t 3=.pointer (some ⟨ob,i*10,none⟩):=(Option.some.inj (hd 3 (by kernel_rfl))).symm
      rw[d3]
      have hrw:∀ (q:Nat) (u:Value),(yL ((⟨⟨y0,y1,y2,y3,y4,y5,y6,y7,y8⟩,yA,yh.length,yc⟩,yh):WayY))[q]?=some u→w'.cell? ⟨ob,i*10+q,none⟩=some u:=fun q u hu=>(hI.cell (p:=⟨ob,i*10+q,none⟩) hb').trans (by have:=hrow'.out q u hu;rw[Nat.zero_add] at this;exact this)
      have e0:w'.cell? ⟨ob,i*10,none⟩=some (.int .u32 y0):=hrw 0 _ rfl
      have e1:w'.cell? ⟨ob,i*10+1,none⟩=some (.int .u8 y1):=hrw 1 _ rfl
      have e2:w'.cell? ⟨ob,i*10+2,none⟩=some (.int .u32 y2):=hrw 2 _ rfl
      have e3:w'.cell? ⟨ob,i*10+3,none⟩=some (.int .u8 y3):=hrw 3 _ rfl
      have e4:w'.cell? ⟨ob,i*10+4,none⟩=some (.int .u8 y4):=hrw 4 _ rfl
      have e5:w'.cell? ⟨ob,i*10+5,none⟩=some (.int .u32 y5):=hrw 5 _ rfl
      have e6:w'.cell? ⟨ob,i*10+6,none⟩=some (.int .u32 y6):=hrw 6 _ rfl
      have e7:w'.cell? ⟨ob,i*10+7,none⟩=some (.int .u32 y7):=hrw 7 _ rfl
      have e8:w'.cell? ⟨ob,i*10+8,none⟩=some (.int .u32 y8):=hrw 8 _ rfl
      have e9:w'.cell? ⟨ob,i*10+9,none⟩=some (.slice yA yh.length yc):=hrw 9 _ rfl
      refine wpOp_step rfl (fun K' hK => ?_)
      replace hK:=Lib.hid hK
      go_wp2
      exact hK.out _ _ ⟨_,(by simp only[Act.put,q'z,q's,o'g,s'a,s'z,s's]),hI,Below.refl _ _,rfl⟩
     ·have d0:t 0=.agg #[.int .u32 x0,.int .u8 x1,.int .u32 x2,.int .u8 x3,.int .u8 x4,.int .u32 x5,.int .u32 x6,.int .u32 x7,.int .u32 x8,.slice xA xh.length xc]:=(Option.some.inj (hd 0 (by kernel_rfl))).symm
      have d4:t 4=.agg #[.int .u32 y0,.int .u8 y1,.int .u32 y2,.int .u8 y3,.int .u8 y4,.int .u32 y5,.int .u32 y6,.int .u32 y7,.int .u32 y8,.slice yA yh.length yc]:=(Option.some.inj (hd 4 (by kernel_rfl))).symm
      rw[d0,d4]
      refine wpOp_step rfl (fun K' hK => ?_)
      replace hK:=Lib.hid hK
      go_wp2_with (go_at_call 38;refine Calls.mono (CB.out _) ?_;rintro e w3 ⟨rfl,hB3⟩)
      exact hK.out _ _ ⟨_,(by simp only[Act.put,q'z,q's,o'g,s'a,s'z,s's]),hI.trans (hB3.mono hzw),hB3,rfl⟩
    ·intro t w3 a' hI ha hv
     simp only[putFrom,Act.put,Nat.reduceAdd,s'a,s'z,s's] at ha
     subst ha
     have d5:t 5=.int .i64 z:=(Option.some.inj (hv 5 (by decide))).symm
     rw[d5]
     clear d5 hv hM2 CB hrow' hown2
     have hS3:=Lib.hid (hS2.out.call hI)
     have hz3:=hI.size
     have hsl3:=Lib.hid (hsl2.out.below (hI.mono (by omega)))
     have KX3:=KX.below hI KX.lt
     have hHi3:=Lib.hid (HopB.call hHi.out hS2.out.below.size hI)
     clear hS2 hsl2 KX hHi
     by_cases hz1:z = -1
     ·subst hz1
      have hms1:=hms.out
      rw[if_pos rfl] at hms1
      replace hms1:=Lib.hid hms1
      clear hms
      have ho3:=hS3.out.own
      go_wp2_with (first
       | (refine wpList_load_row rfl 38 (.tmp 6) rfl w1.heap.size rfl 38 #[.int .u32 x0,.int .u8 x1,.int .u32 x2,.int .u8 x3,.int .u8 x4,.int .u32 x5,.int .u32 x6,.int .u32 x7,.int .u32 x8,.slice xA xh.length xc] (0,0) _ KX3 Tryz.underlying38 rfl (by kernel_rfl) ?_)
       | (refine wpList_store_own rfl 38 (.tmp 45) (.tmp 44) rfl (k:=i*10) [.int .u32 x0,.int .u8 x1,.int .u32 x2,.int .u8 x3,.int .u8 x4,.int .u32 x5,.int .u32 x6,.int .u32 x7,.int .u32 x8,.slice xA xh.length xc] rfl rfl ho3 rfl (by kernel_rfl) (by simp[Value.oneCell']) (by simp;omega) ?_;intro w4 ho4 hg4)
       | fail)
      have hs4:=flat_splice yE outs [] i hi ((⟨⟨x0,x1,x2,x3,x4,x5,x6,x7,x8⟩,xA,xh.length,xc⟩,xh):WayY)
      rw[List.append_nil,List.append_nil] at hs4
      have hgr:∀ b',some ob=some b'→w.heap.size≤b'∧∀ cs fz,w3.heap[b']?≠some (.cells cs 47 fz):=fun b' hb''=>by
       obtain ⟨h1,cs,h2⟩:=own_block ho3 b' hb''
       exact ⟨by omega,notHop h2 (by decide)⟩
      have hB3':=hS3.out.below
      go_roundg (l.length-(k+1))
      case measure=>omega
      case rel =>
       refine ⟨k+1,outs.set i ((⟨⟨x0,x1,x2,x3,x4,x5,x6,x7,x8⟩,xA,xh.length,xc⟩,xh):WayY),nn,D,by omega,rfl,by go_num,?_,?_,hS3.out.map.kept hg4 (by simp;omega),?_,by have:=hS3.out.nn;omega,fun q hq => ?_,hB3'.trans (below_of_grown hg4 hB3'.size fun b' hb''=>(hgr b' hb'').1)⟩
       ·rw[hms1.out,←hS3.out.out]
        simp[gOf,List.map_set]
       ·rw[List.length_set,←hs4]
        exact ho4
       ·rw[hms1.out,hkey.out (⟨x0,x1,x2,x3,x4,x5,x6,x7,x8⟩,xh) (by rw[hkxy.out];rfl)]
        exact hS3.out.ok
       ·rcases List.mem_or_eq_of_mem_set hq with hq | rfl
        ·exact (hS3.out.hops q hq).grown hB3'.size hg4 hgr
        ·exact HopB.grown (.inl (hsl3.out.more hB)) hB3'.size hg4 hgr
     ·have hz1':(z == -1)=false:=by simpa using hz1
      have hz1'':decide (z = -1)=false:=decide_eq_false hz1
      by_cases hz2:z=0
      ·subst hz2
       have hms1:=hms.out
       rw[if_neg (by decide),if_pos rfl] at hms1
       replace hms1:=Lib.hid hms1
       clear hms
       have ho3:=hS3.out.own
       have hB3':=hS3.out.below
       have hnx:=hkx
       have JO:∀ W,Below w3.heap.size w3 W→Calls Tryz.prog 53 #[.slice yA yh.length yc,.slice xA xh.length xc] W (HopsPost W (puts (puts [] yh) xh)):=fun W hW'=>join_any yh xh _ _ W (((hHi3.out.call hB3'.size hW').at_ (by have:=hW'.size;omega))) ((hsl3.out.below (hW'.mono (by omega))).more (by have:=hW'.size;omega)) (by omega)
       replace JO:=Lib.hid JO
       go_upto_region 14 with fail
       have hob3:ob<w3.heap.size:=(ho3.lt ob rfl).2
       have hy9:w3.cell? ⟨ob,i*10+9,none⟩=some (.slice yA yh.length yc):=by
        obtain ⟨b5,off5,hA5,-,hrow5⟩:=Sl.row yE.len (Sl.of_own ho3) hi
        simp only[Option.some.injEq,Addr.mk.injEq,and_true] at hA5
        obtain ⟨rfl,rfl⟩:=hA5
        rw[←hy.out] at hrow5
        have:=hrow5 9 _ rfl
        rw[Nat.zero_add] at this
        exact this
       have hset:∀ A c,splice (outs.flatMap yL) (i*10+9) [.slice A (puts (puts [] yh) xh).length c]=(outs.set i ((⟨⟨y0,y1,y2,y3,y4,y5,y6,y7,y8⟩,A,(puts (puts [] yh) xh).length,c⟩,puts (puts [] yh) xh):WayY)).flatMap yL:=fun A c=>by
        have:=splice_last outs i hi ((⟨⟨y0,y1,y2,y3,y4,y5,y6,y7,y8⟩,A,(puts (puts [] yh) xh).length,c⟩,puts (puts [] yh) xh):WayY) (by rw[←hy.out];rfl)
        exact this
       generalize puts (puts [] yh) xh=L at JO hset hms1
       replace hset:=Lib.hid hset
       replace hy9:=Lib.hid hy9
       refine wp_region_done [some 48,some 49,some 50,some 51,some 52,some 53,some 54,some 55,some 56,some 57,some 58,some 59,none] (JoiI w w3 outs i ⟨y0,y1,y2,y3,y4,y5,y6,y7,y8⟩ L ob oc) (JoiS ob) id (JoiV w.heap.size ob outs.length oc i w1.heap.size yA yh.length yc xA xh.length xc L) hmix (by kernel_rfl) rfl (by decide) (by kernel_rfl) JoiV.turn ⟨fun _=>(Below.refl _ _).drew,fun h=>by cases h⟩ ?_ ?_
       ·intro done t w' a' hI ha hcl j hlt hni hd
        simp only[putFrom,Act.put,Nat.reduceAdd,s'a,s'z,s's] at ha
        subst ha
        replace hlt:j<13:=hlt
        replace hy9:=hy9.out
        rcases (show j=0∨j=1∨j=2∨j=3∨j=4∨j=5∨j=6∨j=7∨j=8∨j=9∨j=10∨j=11∨j=12 by omega) with rfl | rfl | rfl | rfl | rfl | rfl | rfl | rfl | rfl | rfl | rfl | rfl | rfl
        ·have h12:done 12=false:=by
          cases h:done 12 with
          | false=>rfl
          | true=>exact absurd (done_of_reach hcl 6 12 0 (by kernel_rfl) h) (by rw[hni];exact Bool.false_ne_true)
         have hJ:=hI.1 h12
         refine wpOp_step rfl (fun K' hK => ?_)
         replace hK:=Lib.hid hK
         go_wp2
         exact hK.out _ _ ⟨_,(by simp only[Act.put,q'z,o'g,s'a,s'z,s's]),JoiI.not_ 0 (by decide) h12 hJ,.inl (Below.refl _ _),rfl⟩
        ·have h12:done 12=false:=by
          cases h:done 12 with
          | false=>rfl
          | true=>exact absurd (done_of_reach hcl 6 12 1 (by kernel_rfl) h) (by rw[hni];exact Bool.false_ne_true)
         have hJ:=hI.1 h12
         refine wpOp_step rfl (fun K' hK => ?_)
         replace hK:=Lib.hid hK
         go_wp2
         exact hK.out _ _ ⟨_,(by simp only[Act.put,q'z,q's,o'g,s'a,s'z,s's]),JoiI.not_ 1 (by decide) h12 hJ,.inl (Below.refl _ _),rfl⟩
        ·have h12:done 12=false:=by
          cases h:done 12 with
          | false=>rfl
          | true=>exact absurd (done_of_reach hcl 6 12 2 (by kernel_rfl) h) (by rw[hni];exact Bool.false_ne_true)
         have hJ:=hI.1 h12
         refine wpOp_step rfl (fun K' hK => ?_)
         replace hK:=Lib.hid hK
         go_wp2
         exact hK.out _ _ ⟨_,(by simp only[Act.put,q'z,q's,o'g,s'a,s'z,s's]),JoiI.not_ 2 (by decide) h12 hJ,.inl (Below.refl _ _),rfl⟩
        ·have h12:done 12=false:=by
          cases h:done 12 with
          | false=>rfl
          | true=>exact absurd (done_of_reach hcl 6 12 3 (by kernel_rfl) h) (by rw[hni];exact Bool.false_ne_true)
         have hJ:=hI.1 h12
         refine wpOp_step rfl (fun K' hK => ?_)
         replace hK:=Lib.hid hK
         go_wp2
         exact hK.out _ _ ⟨_,(by simp only[Act.put,q'z,q's,o'g,s'a,s'z,s's]),JoiI.not_ 3 (by decide) h12 hJ,.inl (Below.refl _ _),rfl⟩
        ·have h12:done 12=false:=by
          cases h:done 12 with
          | false=>rfl
          | true=>exact absurd (done_of_reach hcl 6 12 4 (by kernel_rfl) h) (by rw[hni];exact Bool.false_ne_true)
         have hJ:=hI.1 h12
         have d2:t 2=.slice (some ⟨ob,0,none⟩) outs.length oc:=hd 2 (by kernel_rfl)
         rw[d2]
         have d3:t 3=.int .i64 i:=hd 3 (by kernel_rfl)
         rw[d3]
         refine wpOp_step rfl (fun K' hK => ?_)
         replace hK:=Lib.hid hK
         go_wp2
         exact hK.out _ _ ⟨_,(by simp only[Act.put,q'z,q's,o'g,s'a,s'z,s's]),JoiI.not_ 4 (by decide) h12 hJ,.inl (Below.refl _ _),rfl⟩
        ·have h12:done 12=false:=by
          cases h:done 12 with
          | false=>rfl
          | true=>exact absurd (done_of_reach hcl 6 12 5 (by kernel_rfl) h) (by rw[hni];exact Bool.false_ne_true)
         have hJ:=hI.1 h12
         have d4:t 4=.pointer (some ⟨ob,i*10,none⟩):=hd 4 (by kernel_rfl)
         rw[d4]
         refine wpOp_step rfl (fun K' hK => ?_)
         replace hK:=Lib.hid hK
         go_wp2
         exact hK.out _ _ ⟨_,(by simp only[Act.put,q'z,q's,o'g,s'a,s'z,s's]),JoiI.not_ 5 (by decide) h12 hJ,.inl (Below.refl _ _),rfl⟩
        ·have h12:done 12=false:=by
          cases h:done 12 with
          | false=>rfl
          | true=>exact absurd (done_of_reach hcl 6 12 6 (by kernel_rfl) h) (by rw[hni];exact Bool.false_ne_true)
         have hJ:=hI.1 h12
         have d5:t 5=.pointer (some ⟨ob,i*10+9,none⟩):=hd 5 (by kernel_rfl)
         rw[d5]
         have hx9:w'.cell? ⟨ob,i*10+9,none⟩=some (.slice yA yh.length yc):=(hJ.cell (p:=⟨ob,i*10+9,none⟩) hob3).trans hy9
         refine wpOp_step rfl (fun K' hK => ?_)
         replace hK:=Lib.hid hK
         go_wp2
         exact hK.out _ _ ⟨_,(by simp only[Act.put,q'z,q's,o'g,s'a,s'z,s's]),JoiI.not_ 6 (by decide) h12 hJ,.inl (Below.refl _ _),rfl⟩
        ·have h12:done 12=false:=by
          cases h:done 12 with
          | false=>rfl
          | true=>exact absurd (done_of_reach hcl 6 12 7 (by kernel_rfl) h) (by rw[hni];exact Bool.false_ne_true)
         have hJ:=hI.1 h12
         refine wpOp_step rfl (fun K' hK => ?_)
         replace hK:=Lib.hid hK
         go_wp2
         exact hK.out _ _ ⟨_,(by simp only[Act.put,q'z,q's,o'g,s'a,s'z,s's]),JoiI.not_ 7 (by decide) h12 hJ,.inl (Below.refl _ _),rfl⟩
        ·have h12:done 12=false:=by
          cases h:done 12 with
          | false=>rfl
          | true=>exact absurd (done_of_reach hcl 6 12 8 (by kernel_rfl) h) (by rw[hni];exact Bool.false_ne_true)
         have hJ:=hI.1 h12
         have d7:t 7=.pointer (some ⟨w1.heap.size,9,none⟩):=hd 7 (by kernel_rfl)
         rw[d7]
         have hx9:=(KX3.below hJ KX3.lt).cell 9
         simp only[q'a,q'z,q's] at hx9
         refine wpOp_step rfl (fun K' hK => ?_)
         replace hK:=Lib.hid hK
         go_wp2
         exact hK.out _ _ ⟨_,(by simp only[Act.put,q'z,q's,o'g,s'a,s'z,s's]),JoiI.not_ 8 (by decide) h12 hJ,.inl (Below.refl _ _),rfl⟩
        ·have h12:done 12=false:=by
          cases h:done 12 with
          | false=>rfl
          | true=>exact absurd (done_of_reach hcl 6 12 9 (by kernel_rfl) h) (by rw[hni];exact Bool.false_ne_true)
         have hJ:=hI.1 h12
         have d6:t 6=.slice yA yh.length yc:=hd 6 (by kernel_rfl)
         rw[d6]
         have d8:t 8=.slice xA xh.length xc:=hd 8 (by kernel_rfl)
         rw[d8]
         have CC:=Lib.hid (JO.out w' hJ)
         refine wpOp_step rfl (fun K' hK => ?_)
         replace hK:=Lib.hid hK
         go_wp2_with (go_at_call 53;refine Calls.mono CC.out ?_;rintro e w4 ⟨v9,rfl,ho4,hB4⟩)
         obtain ⟨-,A9,c9,rfl,-⟩:=id (Sl.of_own ho4)
         exact hK.out _ _ ⟨_,(by simp only[Act.put,q'z,q's,o'g,s'a,s'z,s's]),JoiI.not_ 9 (by decide) h12 (hJ.trans (hB4.mono hJ.size)),.inl hB4,⟨A9,c9,rfl,own_less ho4 (by have:=hJ.size;omega)⟩⟩
        ·have h12:done 12=false:=by
          cases h:done 12 with
          | false=>rfl
          | true=>exact absurd (done_of_reach hcl 6 12 10 (by kernel_rfl) h) (by rw[hni];exact Bool.false_ne_true)
         have hJ:=hI.1 h12
         have d0:t 0=.slice (some ⟨ob,0,none⟩) outs.length oc:=hd 0 (by kernel_rfl)
         rw[d0]
         have d1:t 1=.int .i64 i:=hd 1 (by kernel_rfl)
         rw[d1]
         refine wpOp_step rfl (fun K' hK => ?_)
         replace hK:=Lib.hid hK
         go_wp2
         exact hK.out _ _ ⟨_,(by simp only[Act.put,q'z,q's,o'g,s'a,s'z,s's]),JoiI.not_ 10 (by decide) h12 hJ,.inl (Below.refl _ _),rfl⟩
        ·have h12:done 12=false:=by
          cases h:done 12 with
          | false=>rfl
          | true=>exact absurd (done_of_reach hcl 6 12 11 (by kernel_rfl) h) (by rw[hni];exact Bool.false_ne_true)
         have hJ:=hI.1 h12
         have d10:t 10=.pointer (some ⟨ob,i*10,none⟩):=hd 10 (by kernel_rfl)
         rw[d10]
         refine wpOp_step rfl (fun K' hK => ?_)
         replace hK:=Lib.hid hK
         go_wp2
         exact hK.out _ _ ⟨_,(by simp only[Act.put,q'z,q's,o'g,s'a,s'z,s's]),JoiI.not_ 11 (by decide) h12 hJ,.inl (Below.refl _ _),rfl⟩
        ·have hJ:=hI.1 hni
         have d11:t 11=.pointer (some ⟨ob,i*10+9,none⟩):=hd 11 (by kernel_rfl)
         obtain ⟨A9,c9,d9,ho9⟩:=hd 9 (by kernel_rfl)
         rw[d9,d11]
         have hoW:=own_below ho3 hJ
         obtain ⟨-,csW,hbW⟩:=own_block hoW ob rfl
         refine wpOp_step rfl (fun K' hK => ?_)
         replace hK:=Lib.hid hK
         split
         ·refine wp_store_own 36 (.tmp 59) (.tmp 57) rfl (k:=i*10+9) [.slice A9 L.length c9] rfl rfl hoW rfl (by kernel_rfl) (by simp[Value.oneCell']) (by simp;omega) ?_
          intro w4 ho4 hg4
          rw[hset.out] at ho4
          have ho94:=own_same ho9 fun k' hk'=>hg4.block k' (ho9.lt k' hk').2 fun e=>own_ne ho9 hbW (by decide) k' hk' (by simpa using e)
          exact hK.out _ _ ⟨undef,rfl,⟨fun h=>absurd h (by simp[andD]),fun _=>⟨A9,c9,ho4,ho94,w',hJ,hg4⟩⟩,.inr ⟨hg4,csW,hbW⟩,trivial⟩
         ·rename_i hno
          exact absurd rfl hno
       ·intro done t w4 a' hI hall ha hv
        simp only[putFrom,Act.put,Nat.reduceAdd,s'a,s'z,s's] at ha
        subst ha
        obtain ⟨A9,c9,ho4,ho94,w5,hJ,hg4⟩:=hI.2 (hall 12 (by decide))
        clear hv hI hall
        have hz5:=hJ.size
        have ho5:=own_below ho3 hJ
        have hgr:∀ b',some ob=some b'→w.heap.size≤b'∧∀ cs fz,w5.heap[b']?≠some (.cells cs 47 fz):=fun b' hb''=>by
         obtain ⟨h1,cs,h2⟩:=own_block ho5 b' hb''
         exact ⟨by omega,notHop h2 (by decide)⟩
        go_wp2_with fail
        go_roundg (l.length-(k+1))
        case measure=>omega
        case rel =>
         refine ⟨k+1,outs.set i ((⟨⟨y0,y1,y2,y3,y4,y5,y6,y7,y8⟩,A9,L.length,c9⟩,L):WayY),nn,D,by omega,rfl,by go_num,?_,by rw[List.length_set];exact ho4,(hS3.out.map.kept (grown_of_below hJ none) (by simp)).kept hg4 (by simp;omega),?_,by have:=hS3.out.nn;omega,fun q hq => ?_,(hB3'.trans (hJ.mono hB3'.size)).trans (below_of_grown hg4 (by omega) fun b' hb''=>(hgr b' hb'').1)⟩
         ·rw[hms1.out,←hS3.out.out]
          simp[gOf,List.map_set]
         ·rw[hms1.out,hkey.out (⟨y0,y1,y2,y3,y4,y5,y6,y7,y8⟩,L) rfl]
          exact hS3.out.ok
         ·rcases List.mem_or_eq_of_mem_set hq with hq | rfl
          ·exact ((hS3.out.hops q hq).call hB3'.size hJ).grown (by omega) hg4 hgr
          ·exact .inr ho94
      ·have hz2':(z==0)=false:=by simpa using hz2
       have hz2'':decide (z=0)=false:=decide_eq_false hz2
       have hms1:=hms.out
       rw[if_neg hz1,if_neg hz2] at hms1
       replace hms1:=Lib.hid hms1
       clear hms
       go_wp2_with fail
       go_roundg (l.length-(k+1))
       case measure=>omega
       case rel =>
        exact ⟨k+1,outs,nn,D,by omega,rfl,by go_num,by rw[hms1.out];exact hS3.out.out,hS3.out.own,hS3.out.map,by rw[hms1.out];exact hS3.out.ok,by have:=hS3.out.nn;omega,hS3.out.hops,hS3.out.below⟩
  ·obtain rfl:k=l.length:=by omega
   have hend:R.take l.length=R:=by rw[hlR.out,List.take_length]
   have hC:=sortO_any (w.heap.size+1) (.slice oA outs.length oc) outs w1 hS.own (by omega)
   replace hC:=Lib.hid hC
   go_wp2_with (go_at_call 93;refine Calls.mono hC.out ?_;rintro e w3 ⟨rfl,out',hperm,hsort,ho3,hg3⟩)
   go_ret
   have hown3:=own_block hS.own
   refine ⟨_,out',rfl,by rw[hperm.length_eq];exact ho3,fun x hx=>(hS.hops x (hperm.mem_iff.1 hx)).grown hz hg3 (fun b' hb' => ?_),?_,hsort,hS.below.trans (below_of_grown hg3 hz fun b' hb'=>by have:=(hown3 b' hb').1;omega)⟩
   ·obtain ⟨h1,cs,h2⟩:=hown3 b' hb'
    exact ⟨by omega,notHop h2 (by decide)⟩
   ·have h1:=hS.out
    rw[hend] at h1
    rw[←h1]
    exact hperm.map _
end Go.Proofs.YtiikagabdiphkaaGreat
