/- The decoding of a state at the types 3 and 4. -/
import Derived.Recover
import Derived.Test.YtcknpofnpabkiaaGreatRpAU
set_option maxRecDepth 100000
namespace Go.Proofs.YtcknpofnpabkiaaGreat
open Go.RowKit Go.Lo
theorem caught_idle (p:Addr) (w:World):CallsD Tryz.prog 74 #[.pointer (some p)] .returning w fun e u' w'=>e=.returned (.tuple #[])∧u'=.returning∧w'=w:=by
 refine callsD_of_wpS Tryz.func74 rfl fun c₀ cs hu => ?_
 apply wpS_seq
 apply wpS_region
 simp[wpOpsS,go_sem,recoverD,hu,Tryz.ntmps74,Exit.thenS]
 apply wpS_seq
 apply wpS_region
 simp[wpOpsS,go_sem,Exit.thenS]
 refine wpS_cond (t:=false) (by simp[Act.eval,Array.replicate]) ?_
 simp only[Bool.false_eq_true,if_false]
 refine wpS_of_wp (wp_skip ?_)
 cases c₀
 simp_all [bodyPostS,results,Tryz.results74]
theorem caught_thrown (p:Addr) (k0 k:Int) (w:World) (hc:w.cell? p=some (.int .i64 k0)) (hz:w.frozen? p=false):CallsD Tryz.prog 74 #[.pointer (some p)] (.panicking [{ v:=.iface 82 (.int .i64 k),recovered:=false }]) w fun e u' w' =>
  e=.returned (.tuple #[])∧u'=.panicking [{ v:=.iface 82 (.int .i64 k),recovered:=true }]∧w'=w.setCell p (.int .i64 k):=by
 refine callsD_of_wpS Tryz.func74 rfl fun c₀ cs hu => ?_
 apply wpS_seq
 apply wpS_region
 simp[wpOpsS,go_sem,recoverD,hu,Tryz.ntmps74,Exit.thenS]
 apply wpS_seq
 apply wpS_region
 simp[wpOpsS,go_sem,Exit.thenS]
 refine wpS_cond (t:=true) (by simp[Act.eval,Array.replicate]) ?_
 simp only[if_true]
 have ta:∀ W,(Instr.typeAssert (.iface 82 (.int .i64 k)) 20 82 true).run Tryz.prog W=.ok (.tuple #[.int .i64 k,.bool true]) W:=fun W=>by kernel_rfl
 apply wpS_seq
 apply wpS_region
 simp[wpOpsS,go_sem,Exit.thenS,ta]
 apply wpS_seq
 apply wpS_seq
 apply wpS_region
 simp[wpOpsS,go_sem,Exit.thenS]
 refine wpS_cond (t:=false) (by simp[Act.eval,Array.replicate]) ?_
 simp only[Bool.false_eq_true,if_false]
 refine wpS_of_wp (wp_skip ?_)
 simp only[Exit.thenS]
 apply wpS_region
 simp[wpOpsS,go_sem,hc,hz,bodyPostS,results,Tryz.results74]
theorem sl_get8 {w:World} {B:Nat} {v:Value} {l:List Int} (h:Sl w B 1 v l.length (l.map u8c)) (hn:0<l.length) :
  ∃ b off c,v=.slice (some ⟨b,off,none⟩) l.length c∧b<B∧∀ k (hk:k<l.length),w.cell? ⟨b,off+k,none⟩=some (.int .u8 l[k]):=by
 obtain ⟨_,A,c,rfl,_,_,h4⟩:=h
 obtain ⟨b,off,rfl,hb,hc⟩:=h4 hn
 refine ⟨b,off,c,rfl,hb,fun k hk=>hc k _ ?_⟩
 rw[List.getElem?_map,List.getElem?_eq_getElem hk]
 rfl
set_option maxHeartbeats 1000000 in
theorem equal8_any (B1 B2:Nat) (xv yv:Value) (xs ys:List Int) (w:World) (hx:Sl w B1 1 xv xs.length (xs.map u8c)) (hy:Sl w B2 1 yv ys.length (ys.map u8c)) (hn:xs.length≤140737488355328) :
  Calls Tryz.prog 82 #[xv,yv] w fun x w'=>x=.returned (.bool (decide (xs=ys)))∧Below w.heap.size w w':=by
 have hx0:=hx
 have hy0:=hy
 obtain ⟨-,A,c,rfl,-⟩:=hx
 obtain ⟨-,A',c',rfl,-⟩:=hy
 by_cases hlen:xs.length=ys.length
 ·have e1:((xs.length:Int) != (ys.length:Int))=false:=by simp[hlen]
  have e2:(xs.length:Int)=(ys.length:Int):=by omega
  replace hx0:=h'd hx0
  replace hy0:=h'd hy0
  go_enter Tryz.func82,Tryz.ntmps82
  go_wp2_with fail
  go_loopg [13] xs.length (fun m i wr=>∃ k:Nat,k≤xs.length∧m=xs.length-k∧i=.int .i64 k∧(∀ j (h1:j<xs.length) (h2:j<ys.length),j<k→xs[j]=ys[j])∧Below w.heap.size w wr∧(∀ p:Addr,wr.cell? p=w.cell? p))
  case atStart=>exact ⟨0,Nat.zero_le _,rfl,rfl,fun j _ _ h=>absurd h (by omega),b'r _ _,fun _=>rfl⟩
  case round =>
   obtain ⟨k,hk,hmk,rfl,hall,hB,hsame⟩:=hrel
   obtain ⟨w1,rfl⟩:∃ x:World,x=wr:=⟨_,rfl⟩
   by_cases hkl:k<xs.length
   ·obtain ⟨b1,o1,d1,hv1,_,hc1⟩:=sl_get8 hx0.out (by omega)
    obtain ⟨b2,o2,d2,hv2,_,hc2⟩:=sl_get8 hy0.out (by omega)
    simp only[Value.slice.injEq] at hv1 hv2
    obtain ⟨rfl,-,rfl⟩:=hv1
    obtain ⟨rfl,-,rfl⟩:=hv2
    have x0:=(hsame ⟨b1,o1+k,none⟩).trans (hc1 k hkl)
    have y0:=(hsame ⟨b2,o2+k,none⟩).trans (hc2 k (by omega))
    have ik:(k:Int)<(ys.length:Int):=by omega
    have ik1:(k:Int)<(xs.length:Int):=by omega
    obtain ⟨x,hxe⟩:∃ x,x=xs[k]:=⟨_,rfl⟩
    obtain ⟨y,hye⟩:∃ y,y=ys[k]'(by omega):=⟨_,rfl⟩
    rw[←hxe] at x0
    rw[←hye] at y0
    replace hall:=h'd hall
    replace hsame:=h'd hsame
    replace hxe:=h'd hxe
    replace hye:=h'd hye
    clear hc1 hc2
    by_cases hxy:x=y
    ·subst hxy
     go_wp2_with fail
     go_region
     go_wp2
     go_roundg (xs.length-(k+1))
     case measure=>omega
     case rel =>
      refine ⟨k+1,by omega,rfl,by go_num,fun j h1 h2 hj => ?_,hB.drew,hsame.out⟩
      rcases Nat.lt_or_ge j k with h | h
      ·exact hall.out j h1 h2 h
      ·obtain rfl:j=k:=by omega
       rw[←hxe.out,←hye.out]
    ·have e3:(x != y)=true:=by simpa using hxy
     go_wp2_with fail
     go_region
     go_wp2
     go_ret
     have hne:decide (xs=ys)=false:=d'f fun e=>hxy (by rw[hxe.out,hye.out];subst e;rfl)
     rw[hne]
     exact ⟨rfl,hB.drew⟩
   ·obtain rfl:k=xs.length:=by omega
    have heq:xs=ys:=List.ext_getElem hlen fun j h1 h2=>hall j h1 h2 h1
    clear hall hsame
    replace heq:=h'd heq
    go_wp2
    go_ret
    rw[d't heq.out]
    exact ⟨rfl,hB⟩
 ·have e1:((xs.length:Int) != (ys.length:Int))=true:=by simp;omega
  have e2:¬ (xs.length:Int)=(ys.length:Int):=by omega
  rw[d'f (fun e=>hlen (by rw[e]))]
  clear hx0 hy0
  go_enter Tryz.func82,Tryz.ntmps82
  go_wp2
  go_ret
  exact ⟨rfl,b'r _ _⟩
def mayB (t:Nat) (m k:Int):Bool:=if t=3 then may3 m k else may4 m k
theorem bitsB_zero:bitsB 0=true:=by decide
theorem may_yes (t:Nat) (ht:t=3∨t=4) (m k:Int) (h:mayB t m k=true) (w:World):Calls Tryz.prog 79 #[.int .u8 t,.agg (sumC m k)] w fun e w'=>e=.returned (.tuple #[])∧Below w.heap.size w w':=by
 rcases ht with rfl | rfl
 ·simp only[mayB,if_true,may3,Bool.and_eq_true,Bool.not_eq_true',decide_eq_false_iff_not] at h
  exact may3_ok m k h.1 h.2 w
 ·simp only[mayB,may4,show ¬ (4:Nat)=3 by omega,if_false,Bool.and_eq_true,Bool.not_eq_true',decide_eq_false_iff_not,beq_iff_eq] at h
  exact may4_ok m k h.1.1 h.1.2 h.2 w
theorem may_no (t:Nat) (ht:t=3∨t=4) (m k:Int) (h:mayB t m k=false) (w:World):Calls Tryz.prog 79 #[.int .u8 t,.agg (sumC m k)] w fun e w'=>e=thrown 28∧Below w.heap.size w w':=by
 rcases ht with rfl | rfl
 ·cases hb:bitsB m
  ·exact may3_mask m k hb w
  ·refine may3_far m k hb ?_ w
   simpa[mayB,may3,hb] using h
 ·cases hm:(m==0)
  ·exact may4_mask m k hm w
  ·have hm0:m=0:=by simpa using hm
   have hb:bitsB m=true:=by rw[hm0];exact bitsB_zero
   refine may4_far m k hm0 hb ?_ w
   simpa[mayB,may4,hb,hm] using h
theorem numB_range (l:List Int):0≤numB l∧numB l<4294967296:=by
 rcases List.eq_nil_or_concat l with rfl | ⟨l',x,rfl⟩
 ·decide
 ·rw[List.concat_eq_append,numB_snoc]
  have h1:=bits_lo_u32 BinOp.or (numB l'*256%4294967296) x
  have h2:=bits_hi_u32 BinOp.or (numB l'*256%4294967296) x
  omega
theorem decode_idle (tmps:Array Value) (W:World) (g1 g2:Nat) (m k e:Int) (R:Ending→World→Prop) (h2:tmps.getD 2 undef=.pointer (some ⟨g1,0,none⟩)) (h3:tmps.getD 3 undef=.pointer (some ⟨g2,0,none⟩))
  (b1:Blk W g1 81 (sumC m k)) (b2:Blk W g2 82 #[.int .i64 e]) (hR:R (.returned (.tuple #[.agg (sumC m k),.int .i64 e])) W) :
  Leaves Tryz.prog Tryz.f35 tmps R [{ target:=.fn (.func 74) #[],args:=#[.pointer (some ⟨g2,0,none⟩)] }] .returning W:=by
 have hc:=b2.cell 0
 simp only[q'a,q'z] at hc
 have h2':tmps[2]?.getD undef=.pointer (some ⟨g1,0,none⟩):=by simpa using h2
 have h3':tmps[3]?.getD undef=.pointer (some ⟨g2,0,none⟩):=by simpa using h3
 have hl:=run_loadVar_row (P:=Tryz.prog) W g1 81 81 (sumC m k) (0,0) _ b1 Tryz.underlying81 rfl (by kernel_rfl)
 refine leaves_cons (f:=74) (args:=#[.pointer (some ⟨g2,0,none⟩)]) (by simp) (by simp[go_sem]) ?_
 refine (caught_idle _ _).mono ?_
 rintro _ u' w'' ⟨rfl,rfl,rfl⟩
 refine ⟨_,?_,hR⟩
 have hl2:(loadVar 82 ⟨g2,0,none⟩).run Tryz.prog w''=.ok (.int .i64 e) w'':=by simp[go_sem,hc]
 simp[results,Tryz.f35,h2',h3',asAddr,hl,hl2]
theorem decode_thrown (tmps:Array Value) (W:World) (g1 g2:Nat) (m k e e0:Int) (R:Ending→World→Prop) (h2:tmps.getD 2 undef=.pointer (some ⟨g1,0,none⟩)) (h3:tmps.getD 3 undef=.pointer (some ⟨g2,0,none⟩)) (hne:g1≠g2)
  (b1:Blk W g1 81 (sumC m k)) (b2:Blk W g2 82 #[.int .i64 e0]) (hR:R (.returned (.tuple #[.agg (sumC m k),.int .i64 e])) (W.setCell ⟨g2,0,none⟩ (.int .i64 e))) :
  Leaves Tryz.prog Tryz.f35 tmps R [{ target:=.fn (.func 74) #[],args:=#[.pointer (some ⟨g2,0,none⟩)] }] (.panicking [{ v:=.iface 82 (.int .i64 e),recovered:=false }]) W:=by
 have hc:=b2.cell 0
 have hf:=b2.free 0
 simp only[q'a,q'z] at hc
 have h2':tmps[2]?.getD undef=.pointer (some ⟨g1,0,none⟩):=by simpa using h2
 have h3':tmps[3]?.getD undef=.pointer (some ⟨g2,0,none⟩):=by simpa using h3
 have b1':Blk (W.setCell ⟨g2,0,none⟩ (.int .i64 e)) g1 81 (sumC m k):=b1.far hne _
 have b2':=(b2.set_ 0 (.int .i64 e)).cell 0
 simp only[s'a,s'z,q'a,q'z] at b2'
 have hl:=run_loadVar_row (P:=Tryz.prog) _ g1 81 81 (sumC m k) (0,0) _ b1' Tryz.underlying81 rfl (by kernel_rfl)
 refine leaves_cons (f:=74) (args:=#[.pointer (some ⟨g2,0,none⟩)]) (by simp) (by simp[go_sem]) ?_
 refine (caught_thrown _ e0 e _ hc hf).mono ?_
 rintro _ u' w'' ⟨rfl,rfl,rfl⟩
 refine ⟨_,?_,hR⟩
 have hl2:(loadVar 82 ⟨g2,0,none⟩).run Tryz.prog (W.setCell ⟨g2,0,none⟩ (.int .i64 e))=.ok (.int .i64 e) (W.setCell ⟨g2,0,none⟩ (.int .i64 e)):=by simp[go_sem,b2']
 simp[results,Tryz.f35,h2',h3',asAddr,hl,hl2]
def decS (body:List Int):Int × Int × Nat × Int:=
 let s:=nextS body 0 0 4
 let s2:=nextS body s.1 s.2 4
 (numB (nextB body 0 0 4),numB (nextB body s.1 s.2 4),s2)
def decP (t:Nat) (body:List Int):Int × Int × Int:=
 let d:=decS body
 if d.2.2.2≠0∨0<leftR body d.2.2.1 d.2.2.2 then (0,0,28)
 else if mayB t d.1 d.2.1=false then (0,0,28)
 else if beN d.1 4++beN d.2.1 4≠body then (0,0,28)
 else (d.1,d.2.1,0)
theorem decS_m (body:List Int):0≤(decS body).1∧(decS body).1<4294967296:=numB_range _
theorem decS_k (body:List Int):0≤(decS body).2.1∧(decS body).2.1<4294967296:=numB_range _
theorem form34 (t:Nat) (ht:t=3∨t=4) (w:World):Calls Tryz.prog 75 #[.int .u8 t] w fun x w'=>x=.returned (.agg #[.func (.func 155) #[] #[],.func (.func 156) #[] #[]])∧Below w.heap.size w w':=by
 rcases ht with rfl | rfl
 ·exact formOf_any 3 (by omega) w
 ·exact formOf_any 4 (by omega) w
set_option maxHeartbeats 2000000 in
theorem decode_ok (t:Nat) (ht:t=3∨t=4) (h:OHead) (B:Nat) (bv:Value) (body:List Int) (w:World) (hb:Sl w B 1 bv body.length (body.map u8c)) (hB:B≤w.heap.size) (hn:body.length≤1099511627776) (hl8:∀ x∈body,0≤x∧x<256)
  (hty:h.type=t) (hlen:h.len=20+(body.length:Int)) :
  Calls Tryz.prog 35 #[stateVal h bv] w fun x w'=>x=.returned (.tuple #[.agg (sumC (decP t body).1 (decP t body).2.1),.int .i64 (decP t body).2.2])∧Below w.heap.size w w':=by
 obtain ⟨age,opts,type,id,adv,seq,sum,len⟩:=h
 simp only at hty hlen
 subst hty hlen
 have hb0:=hb
 obtain ⟨-,A,c,rfl,-⟩:=hb
 dsimp only[stateVal]
 have wl:wrap64 (20+(body.length:Int))=20+(body.length:Int):=by unfold wrap64;omega
 have q1:Blk (((w.alloc (.cells #[.int .u16 age,.int .u8 opts,.int .u8 (t:Int),.int .u32 id,.int .u32 adv,.int .i32 seq,.int .u16 sum,.int .u16 (20+(body.length:Int)),.slice A body.length c] 71)).alloc (.cells (sumC 0 0) 81)).alloc (.cells #[.int .i64 0] 82)) (w.heap.size+1) 81 (sumC 0 0):=(Blk.new_ _ (by simp)).alloc _
 have q2:Blk (((w.alloc (.cells #[.int .u16 age,.int .u8 opts,.int .u8 (t:Int),.int .u32 id,.int .u32 adv,.int .i32 seq,.int .u16 sum,.int .u16 (20+(body.length:Int)),.slice A body.length c] 71)).alloc (.cells (sumC 0 0) 81)).alloc (.cells #[.int .i64 0] 82)) (w.heap.size+1+1) 82 #[.int .i64 0]:=Blk.new_ _ (by simp)
 have q0:Blk (((w.alloc (.cells #[.int .u16 age,.int .u8 opts,.int .u8 (t:Int),.int .u32 id,.int .u32 adv,.int .i32 seq,.int .u16 sum,.int .u16 (20+(body.length:Int)),.slice A body.length c] 71)).alloc (.cells (sumC 0 0) 81)).alloc (.cells #[.int .i64 0] 82)) w.heap.size 71 #[.int .u16 age,.int .u8 opts,.int .u8 (t:Int),.int .u32 id,.int .u32 adv,.int .i32 seq,.int .u16 sum,.int .u16 (20+(body.length:Int)),.slice A body.length c]:=((Blk.new _ _ _).alloc _).alloc _
 have qB:Below w.heap.size w (((w.alloc (.cells #[.int .u16 age,.int .u8 opts,.int .u8 (t:Int),.int .u32 id,.int .u32 adv,.int .i32 seq,.int .u16 sum,.int .u16 (20+(body.length:Int)),.slice A body.length c] 71)).alloc (.cells (sumC 0 0) 81)).alloc (.cells #[.int .i64 0] 82)):=((b'r _ _).alloc (n'r _) _ |>.alloc (by simp) _).alloc (by simp;omega) _
 go_enter_defers Tryz.func35,Tryz.ntmps35
 go_upto_region 4 with fail
 generalize ((w.alloc (.cells #[.int .u16 age,.int .u8 opts,.int .u8 (t:Int),.int .u32 id,.int .u32 adv,.int .i32 seq,.int .u16 sum,.int .u16 (20+(body.length:Int)),.slice A body.length c] 71)).alloc (.cells (sumC 0 0) 81)).alloc (.cells #[.int .i64 0] 82)=w0 at q0 q1 q2 qB ⊢
 have x2:=q0.cell 2
 have x8:=q0.cell 8
 simp only[q'a,q'z,q's] at x2 x8
 have kl:=q2.lt
 go_upto_region 5 with (go_at_call 75;refine c'm (form34 t ht _) ?_;rintro x w1 ⟨rfl,k1⟩)
 have p0:Blk (w1.alloc (.cells #[.func (.func 155) #[] #[],.func (.func 156) #[] #[]] 153)) w1.heap.size 153 #[.func (.func 155) #[] #[],.func (.func 156) #[] #[]]:=Blk.new _ _ _
 have k2:Below w0.heap.size w0 (w1.alloc (.cells #[.func (.func 155) #[] #[],.func (.func 156) #[] #[]] 153)):=k1.alloc k1.size _
 have kz1:=k1.size
 generalize w1.alloc (.cells #[.func (.func 155) #[] #[],.func (.func 156) #[] #[]] 153)=w2 at p0 k2 ⊢
 generalize w1.heap.size=g at p0 kz1 ⊢
 clear x2 x8 k1
 have q0':=q0.below k2 q0.lt
 have q1':=q1.below k2 q1.lt
 have q2':=q2.below k2 q2.lt
 have kB2:=qB.trans (k2.mono qB.size)
 have hb2:=hb0.below (kB2.mono hB)
 clear q0 q1 q2 qB k2
 have hz0:=q2'.lt
 have x8:=q0'.cell 8
 have y0:=p0.cell 0
 have y1:=p0.cell 1
 simp only[q'a,q'z,q's] at x8 y0 y1
 have CR:=h'd (rread_any B _ body w2 hb2 (n't hB kB2.size) (by omega))
 have CS:=h'd (fun b W (hR:Rd W b body 0 0)=>readSummary_any b body 0 0 W hR (by omega) hl8)
 have hs:((numB (nextB body 0 0 4)),(numB (nextB body (nextS body 0 0 4).1 (nextS body 0 0 4).2 4)),nextS body (nextS body 0 0 4).1 (nextS body 0 0 4).2 4)=decS body:=rfl
 have hm:=decS_m body
 have hk:=decS_k body
 have hd:decP t body=if (decS body).2.2.2≠0∨0<leftR body (decS body).2.2.1 (decS body).2.2.2 then (0,0,28) else if mayB t (decS body).1 (decS body).2.1=false then (0,0,28) else if beN (decS body).1 4++beN (decS body).2.1 4≠body then (0,0,28) else ((decS body).1,(decS body).2.1,0):=rfl
 generalize decS body=d at hs hm hk hd
 obtain ⟨m,k,a,e⟩:=d
 simp only[Prod.mk.injEq] at hs
 obtain ⟨hs1,hs2,hs3⟩:=hs
 rw[hs1,hs2,hs3] at CS
 dsimp only at CS hd hm hk
 clear hs1 hs2 hs3
 go_upto_region 6 with (go_at_call 76;refine c'm CR.out ?_;rintro x w3 ⟨b,rfl,hb3,hR3,k3⟩)
 have y1':w3.cell? ⟨g,1,none⟩=some (.func (.func 156) #[] #[]):=((p0.below k3 p0.lt).cell 1)
 go_upto_region 7 with (go_at_call 156;refine c'm (CS.out b _ hR3) ?_;rintro x w4 ⟨rfl,hR4,k4⟩)
 have kb3:b<w3.heap.size:=hR3.lt
 have kz4:=k4.size
 have r0:Blk (w4.alloc (.cells (sumC m k) 81)) w4.heap.size 81 (sumC m k):=Blk.new _ _ _
 have k5:Below w2.heap.size w2 (w4.alloc (.cells (sumC m k) 81)):=(k3.trans (k4.mono hb3)).alloc (n't k3.size kz4) _
 have hR5:Rd (w4.alloc (.cells (sumC m k) 81)) b body a e:=hR4.below ((b'r _ _).alloc (n'r _) _) hR4.lt
 have hz5:w4.heap.size<(w4.alloc (.cells (sumC m k) 81)).heap.size:=by simp
 generalize (w4.alloc (.cells (sumC m k) 81))=w5 at r0 k5 hR5 hz5 ⊢
 obtain ⟨g6,hg6⟩:∃ g6,g6=w4.heap.size:=⟨_,rfl⟩
 rw[←hg6] at r0 hz5 ⊢
 have hl6:w2.heap.size≤g6:=by rw[hg6];exact n't k3.size kz4
 clear hg6 CS CR y1' hR4 hR3 k3 k4 kz4 kb3 y1 x8
 have q1:=q1'.below k5 q1'.lt
 have q2:=q2'.below k5 q2'.lt
 have p5:=p0.below k5 p0.lt
 have kB5:=kB2.trans (k5.mono kB2.size)
 have hb5:=hb0.below (kB5.mono hB)
 have q0:=q0'.below k5 q0'.lt
 have x8:=q0.cell 8
 have x2:=q0.cell 2
 have y0':=p5.cell 0
 simp only[q'a,q'z,q's] at x8 x2 y0'
 have n1:=p0.lt
 clear q0' q1' q2' p0 hb2 k5 y0 kB2
 by_cases he:e=0
 ·subst he
  by_cases hleft:0<leftR body a 0
  ·have he1:decide (0<leftR body a 0)=true:=d't hleft
   rw[if_pos (.inr hleft)] at hd
   go_upto_region 8 with (first
    | (go_at_call 77;refine c'm (rerr_any b body a 0 _ hR5) ?_;rintro x w6 ⟨rfl,rfl⟩)
    | (go_at_call 78;refine c'm (rleft_any b body a 0 _ hR5 (by omega)) ?_;rintro x w7 ⟨rfl,k7⟩))
   have q1:=q1.below k7 q1.lt
   have q2:=q2.below k7 q2.lt
   have hs1:Blk (w7.setRow (w.heap.size+1) (sumC 0 0)) (w.heap.size+1) 81 (sumC 0 0):=setRow_heap w7 _ (sumC 0 0) (sumC 0 0) 81 (0,0) q1
   have hs2:Blk (w7.setRow (w.heap.size+1) (sumC 0 0)) (w.heap.size+1+1) 82 #[.int .i64 0]:=(setRow_other _ _ _ _ (by omega)).trans q2
   have hsB:Below w.heap.size w (w7.setRow (w.heap.size+1) (sumC 0 0)):=(kB5.trans (k7.mono kB5.size)).trans ⟨rfl,rfl,rfl,by simp[World.setRow],fun k hk=>setRow_other _ _ k _ (by omega)⟩
   have c2:=hs2.cell 0
   have f2:=hs2.free 0
   simp only[q'a,q'z] at c2
   go_wp2_with (refine wpList_store_row rfl 81 (.tmp 2) (.tmp 39) rfl (w.heap.size+1) (sumC 0 0) rfl rfl 81 (sumC 0 0) q1 (by kernel_rfl) rfl (by simp[Value.oneCell']) ?_)
   refine decode_idle _ _ (w.heap.size+1) (w.heap.size+1+1) 0 0 28 _ rfl rfl ?_ ?_ ?_
   ·exact hs1.far (by simp) _
   ·exact hs2.set_ 0 _
   ·rw[hd]
    exact ⟨rfl,hsB.setCell (by simp;omega) _⟩
  ·have he1:decide (0<leftR body a 0)=false:=d'f hleft
   rw[if_neg (by simp[hleft])] at hd
   go_upto_region 9 with (first
    | (go_at_call 77;refine c'm (rerr_any b body a 0 _ hR5) ?_;rintro x w6 ⟨rfl,rfl⟩)
    | (go_at_call 78;refine c'm (rleft_any b body a 0 _ hR5 (by omega)) ?_;rintro x w7 ⟨rfl,k7⟩))
   have q0:=q0.below k7 q0.lt
   have q1:=q1.below k7 q1.lt
   have q2:=q2.below k7 q2.lt
   have p5:=p5.below k7 p5.lt
   have r0:=r0.below k7 r0.lt
   have hb5:=hb5.below (k7.mono (n't hB kB5.size))
   have kB5:=kB5.trans (k7.mono kB5.size)
   clear x8 x2 y0' k7 hR5
   have x2:=q0.cell 2
   simp only[q'a,q'z,q's] at x2
   cases hmay:mayB t m k
   ·rw[if_pos hmay] at hd
    go_wp2_with (first
     | (refine wpList_load_row rfl 81 (.tmp 6) rfl g6 rfl 81 (sumC m k) (0,0) _ r0 Tryz.underlying81 rfl (by kernel_rfl) ?_)
     | (go_at_call 79;refine c'm (may_no t ht m k hmay _) ?_;rintro x w8 ⟨rfl,k8⟩;unfold thrown;dsimp only))
    refine decode_thrown _ _ (w.heap.size+1) (w.heap.size+1+1) 0 0 28 0 _ rfl rfl (by omega) (q1.below k8 q1.lt) (q2.below k8 q2.lt) ?_
    rw[hd]
    exact ⟨rfl,(kB5.trans (k8.mono kB5.size)).setCell (by simp;omega) _⟩
   ·rw[if_neg (by simp[hmay])] at hd
    go_upto_region 11 with (first
     | (refine wpList_load_row rfl 81 (.tmp 6) rfl g6 rfl 81 (sumC m k) (0,0) _ r0 Tryz.underlying81 rfl (by kernel_rfl) ?_)
     | (go_at_call 79;refine c'm (may_yes t ht m k hmay _) ?_;rintro x w8 ⟨rfl,k8⟩)
     | (go_at_call 80;refine c'm (write_any _ (by omega) _) ?_;rintro x w' ⟨rfl,rfl⟩))
    have hz8:=k8.size
    have s1:=r0.lt
    have s2:=p5.lt
    have s3:=q2.lt
    have v0:Blk ((w8.alloc (.cells #[.slice none 0 0,.int .i64 65535,.int .i64 0,.bool true] 213)).alloc (.cells #[.pointer (some ⟨w8.heap.size,0,none⟩)] 163)) w8.heap.size 213 #[.slice none 0 0,.int .i64 65535,.int .i64 0,.bool true]:=(Blk.new _ _ _).alloc _
    have v1:Blk ((w8.alloc (.cells #[.slice none 0 0,.int .i64 65535,.int .i64 0,.bool true] 213)).alloc (.cells #[.pointer (some ⟨w8.heap.size,0,none⟩)] 163)) (w8.heap.size+1) 163 #[.pointer (some ⟨w8.heap.size,0,none⟩)]:=Blk.new_ _ (by simp)
    have k9:Below w7.heap.size w7 ((w8.alloc (.cells #[.slice none 0 0,.int .i64 65535,.int .i64 0,.bool true] 213)).alloc (.cells #[.pointer (some ⟨w8.heap.size,0,none⟩)] 163)):=(k8.alloc hz8 _).alloc (by simp;omega) _
    have kz9:((w8.alloc (.cells #[.slice none 0 0,.int .i64 65535,.int .i64 0,.bool true] 213)).alloc (.cells #[.pointer (some ⟨w8.heap.size,0,none⟩)] 163)).heap.size=w8.heap.size+1+1:=by simp
    generalize ((w8.alloc (.cells #[.slice none 0 0,.int .i64 65535,.int .i64 0,.bool true] 213)).alloc (.cells #[.pointer (some ⟨w8.heap.size,0,none⟩)] 163))=w9 at v0 v1 k9 kz9 ⊢
    have q1:=q1.below k9 q1.lt
    have q2:=q2.below k9 q2.lt
    have p5:=p5.below k9 p5.lt
    have r0:=r0.below k9 r0.lt
    have hb5:=hb5.below (k9.mono (n't hB kB5.size))
    have kB5:=kB5.trans (k9.mono kB5.size)
    obtain ⟨g8,hg8⟩:∃ g8,g8=w8.heap.size:=⟨_,rfl⟩
    rw[←hg8] at v0 v1 kz9 hz8 ⊢
    clear hg8
    have ng:∀ {x:Nat} {tt:TypeId} {cs:Array Value},Blk w7 x tt cs→x≠g8∧x≠g8+1:=fun hx=>by have:=hx.lt;omega
    obtain ⟨K,hK⟩:∃ K:Nat→Prop,K=fun j=>j<g8+2∧j≠g8:=⟨_,rfl⟩
    have kl9:∀ j,K j→j<w9.heap.size:=fun j hj=>by rw[hK] at hj;have:=hj.1;omega
    have kb9:∀ j,j<g8→K j:=fun j hj=>by rw[hK];exact ⟨by omega,by omega⟩
    have kv9:K (g8+1):=by rw[hK];exact ⟨by omega,by omega⟩
    have hW9:Wr K w9 g8 65535 [] 0:=⟨by rw[hK];exact fun h=>h.2 rfl,_,v0,World.ownsRow_nil _ _ _ _,by simp[Value.ownBlock]⟩
    have CW:=h'd (writeSummary_any K g8 65535 [] m k hm hk w9 hW9 kl9 (by omega) (by simp))
    have y0:=p5.cell 0
    have z0:=v1.cell 0
    simp only[q'a,q'z] at y0 z0
    have n7:g6<g8:=by omega
    have n8:g<g8:=by omega
    have n9:w.heap.size+1+1<g8:=by omega
    clear x2 hW9 hK ng
    go_upto_region 12 with (first
     | (refine wpList_load_row rfl 81 (.tmp 6) rfl g6 rfl 81 (sumC m k) (0,0) _ r0 Tryz.underlying81 rfl (by kernel_rfl) ?_)
     | (go_at_call 155;refine c'm CW.out ?_;rintro x w10 ⟨rfl,k10,hW10⟩))
    rw[List.nil_append] at hW10
    clear CW y0 z0
    have q1:=k10.blk (kb9 _ (by omega)) q1
    have q2:=k10.blk (kb9 _ (by omega)) q2
    have r0:=k10.blk (kb9 _ (by omega)) r0
    have v1:=k10.blk kv9 v1
    have hb5:=k10.sl (fun j hj=>kb9 j (by omega)) hb5
    have q0:=k10.blk (kb9 _ (by omega)) (q0.below k9 q0.lt)
    have kB5:=kB5.trans (k10.below (fun j hj=>kb9 j (by omega)))
    have CD:=h'd (done_any K g8 65535 (beN m 4++beN k 4) 0 w10 hW10 (by rw[l'a,beN_len _ _ (n'r 4),beN_len _ _ (n'r 4)];omega))
    rw[show doneBs 0 (beN m 4++beN k 4)=beN m 4++beN k 4 from rfl] at CD
    have z0:=v1.cell 0
    simp only[q'a,q'z] at z0
    clear p5
    go_upto_region 13 with (go_at_call 81;refine c'm CD.out ?_;rintro x w11 ⟨v,rfl,ho11,k11⟩)
    clear CD z0
    have q1:=q1.below k11 q1.lt
    have q2:=q2.below k11 q2.lt
    have r0:=r0.below k11 r0.lt
    have q0:=q0.below k11 q0.lt
    have hb5:=hb5.below (k11.mono (n't hB kB5.size))
    have kB5:=kB5.trans (k11.mono kB5.size)
    have x8:=q0.cell 8
    simp only[q'a,q'z,q's] at x8
    have CE:=h'd (equal8_any _ B v _ (beN m 4++beN k 4) body w11 (Sl.of_own ho11) hb5 (by rw[l'a,beN_len _ _ (n'r 4),beN_len _ _ (n'r 4)];omega))
    by_cases heq:beN m 4++beN k 4=body
    ·rw[if_neg (by simp[heq])] at hd
     rw[d't heq] at CE
     go_upto_region 15 with (go_at_call 82;refine c'm CE.out ?_;rintro x w12 ⟨rfl,k12⟩)
     have q1:=q1.below k12 q1.lt
     have q2:=q2.below k12 q2.lt
     have r0:=r0.below k12 r0.lt
     have kB5:=kB5.trans (k12.mono kB5.size)
     have hs1:Blk (w12.setRow (w.heap.size+1) (sumC m k)) (w.heap.size+1) 81 (sumC m k):=setRow_heap w12 _ (sumC 0 0) (sumC m k) 81 (0,0) q1
     have hs2:Blk (w12.setRow (w.heap.size+1) (sumC m k)) (w.heap.size+1+1) 82 #[.int .i64 0]:=(setRow_other _ _ _ _ (by omega)).trans q2
     have hsB:Below w.heap.size w (w12.setRow (w.heap.size+1) (sumC m k)):=kB5.trans ⟨rfl,rfl,rfl,by simp[World.setRow],fun k hk=>setRow_other _ _ k _ (by omega)⟩
     have c2:=hs2.cell 0
     have f2:=hs2.free 0
     simp only[q'a,q'z] at c2
     go_wp2_with (first
      | (refine wpList_load_row rfl 81 (.tmp 6) rfl g6 rfl 81 (sumC m k) (0,0) _ r0 Tryz.underlying81 rfl (by kernel_rfl) ?_)
      | (refine wpList_store_row rfl 81 (.tmp 2) (.tmp 64) rfl (w.heap.size+1) (sumC m k) rfl rfl 81 (sumC 0 0) q1 (by kernel_rfl) rfl (by simp[Value.oneCell']) ?_))
     refine decode_idle _ _ (w.heap.size+1) (w.heap.size+1+1) m k 0 _ rfl rfl ?_ ?_ ?_
     ·exact hs1.far (by simp) _
     ·exact hs2.set_ 0 _
     ·rw[hd]
      exact ⟨rfl,hsB.setCell (by simp;omega) _⟩
    ·rw[if_pos heq] at hd
     rw[d'f heq] at CE
     go_upto_region 14 with (go_at_call 82;refine c'm CE.out ?_;rintro x w12 ⟨rfl,k12⟩)
     have q1:=q1.below k12 q1.lt
     have q2:=q2.below k12 q2.lt
     have kB5:=kB5.trans (k12.mono kB5.size)
     have hs1:Blk (w12.setRow (w.heap.size+1) (sumC 0 0)) (w.heap.size+1) 81 (sumC 0 0):=setRow_heap w12 _ (sumC 0 0) (sumC 0 0) 81 (0,0) q1
     have hs2:Blk (w12.setRow (w.heap.size+1) (sumC 0 0)) (w.heap.size+1+1) 82 #[.int .i64 0]:=(setRow_other _ _ _ _ (by omega)).trans q2
     have hsB:Below w.heap.size w (w12.setRow (w.heap.size+1) (sumC 0 0)):=kB5.trans ⟨rfl,rfl,rfl,by simp[World.setRow],fun k hk=>setRow_other _ _ k _ (by omega)⟩
     have c2:=hs2.cell 0
     have f2:=hs2.free 0
     simp only[q'a,q'z] at c2
     go_wp2_with (first
      | (refine wpList_load_row rfl 81 (.tmp 6) rfl g6 rfl 81 (sumC m k) (0,0) _ r0 Tryz.underlying81 rfl (by kernel_rfl) ?_)
      | (refine wpList_store_row rfl 81 (.tmp 2) (.tmp 63) rfl (w.heap.size+1) (sumC 0 0) rfl rfl 81 (sumC 0 0) q1 (by kernel_rfl) rfl (by simp[Value.oneCell']) ?_))
     refine decode_idle _ _ (w.heap.size+1) (w.heap.size+1+1) 0 0 28 _ rfl rfl ?_ ?_ ?_
     ·exact hs1.far (by simp) _
     ·exact hs2.set_ 0 _
     ·rw[hd]
      exact ⟨rfl,hsB.setCell (by simp;omega) _⟩
 ·have he1:(e != 0)=true:=by simpa using he
  rw[if_pos (.inl he)] at hd
  go_upto_region 8 with (go_at_call 77;refine c'm (rerr_any b body a e _ hR5) ?_;rintro x w6 ⟨rfl,rfl⟩)
  have hs1:Blk (w6.setRow (w.heap.size+1) (sumC 0 0)) (w.heap.size+1) 81 (sumC 0 0):=setRow_heap w6 _ (sumC 0 0) (sumC 0 0) 81 (0,0) q1
  have hs2:Blk (w6.setRow (w.heap.size+1) (sumC 0 0)) (w.heap.size+1+1) 82 #[.int .i64 0]:=(setRow_other _ _ _ _ (by omega)).trans q2
  have hsB:Below w.heap.size w (w6.setRow (w.heap.size+1) (sumC 0 0)):=kB5.trans ⟨rfl,rfl,rfl,by simp[World.setRow],fun k hk=>setRow_other _ _ k _ (by omega)⟩
  have c2:=hs2.cell 0
  have f2:=hs2.free 0
  simp only[q'a,q'z] at c2
  go_wp2_with (first
   | (refine wpList_load_row rfl 81 (.tmp 6) rfl g6 rfl 81 (sumC m k) (0,0) _ r0 Tryz.underlying81 rfl (by kernel_rfl) ?_)
   | (refine wpList_store_row rfl 81 (.tmp 2) (.tmp 39) rfl (w.heap.size+1) (sumC 0 0) rfl rfl 81 (sumC 0 0) q1 (by kernel_rfl) rfl (by simp[Value.oneCell']) ?_))
  refine decode_idle _ _ (w.heap.size+1) (w.heap.size+1+1) 0 0 28 _ rfl rfl ?_ ?_ ?_
  ·exact hs1.far (by simp) _
  ·exact hs2.set_ 0 _
  ·rw[hd]
   exact ⟨rfl,hsB.setCell (by simp;omega) _⟩
def ageP (age:Int):Int:=bits BinOp.andNot IntKind.u16 age 32768
def oldP (age:Int):Bool:=decide (3600≤ageP age)
theorem ageP_range (age:Int):0≤ageP age∧ageP age<65536:=by
 unfold ageP
 have h1:=bits_lo_u16 BinOp.andNot age 32768
 have h2:=bits_hi_u16 BinOp.andNot age 32768
 omega
theorem years_any (age:Int) (w:World):Calls Tryz.prog 138 #[.int .u16 age] w fun x w'=>x=.returned (.int .i64 (if 3600≤ageP age then 3600 else ageP age))∧w'=w:=by
 have hr:=ageP_range age
 unfold ageP at *
 by_cases h:3600≤bits BinOp.andNot IntKind.u16 age 32768
 ·rw[if_pos h]
  go_enter Tryz.func138,Tryz.ntmps138
  go_wp2
  all_goals go_ret
  all_goals exact ⟨congrArg (fun z=>Ending.returned (.int .i64 z)) (by omega),rfl⟩
 ·rw[if_neg h]
  go_enter Tryz.func138,Tryz.ntmps138
  go_wp2
  all_goals go_ret
  all_goals exact ⟨congrArg (fun z=>Ending.returned (.int .i64 z)) (by omega),rfl⟩
theorem old_any (age:Int) (w:World):Calls Tryz.prog 111 #[.int .u16 age] w fun x w'=>x=.returned (.bool (oldP age))∧w'=w:=by
 have C:=h'd (years_any age w)
 rw[show oldP age=decide (3600≤ageP age) from rfl]
 generalize ageP age=q at *
 by_cases h:3600≤q
 ·rw[if_pos h] at C
  rw[d't h]
  go_enter Tryz.func111,Tryz.ntmps111
  go_wp2_with (go_at_call 138;refine c'm C.out ?_;rintro x w' ⟨rfl,rfl⟩)
  go_ret
  exact ⟨rfl,rfl⟩
 ·rw[if_neg h] at C
  rw[d'f h]
  have hq:(q==3600)=false:=by simp;omega
  go_enter Tryz.func111,Tryz.ntmps111
  go_wp2_with (go_at_call 138;refine c'm C.out ?_;rintro x w' ⟨rfl,rfl⟩)
  go_ret
  exact ⟨by simp,rfl⟩
theorem be4_byte (v:Int):∀ x∈be4 v,0≤x∧x<256:=by
 intro x hx
 simp only[be4,List.mem_cons,List.not_mem_nil,or_false] at hx
 omega
theorem beN_byte (v:Int) (n:Nat):∀ x∈beN v n,0≤x∧x<256:=fun x hx=>be4_byte v x (List.mem_of_mem_drop hx)
theorem headB_byte (h:OHead) (ok:HeadOk h):∀ x∈headB h,0≤x∧x<256:=by
 intro x hx
 simp only[headB,List.mem_append,List.mem_cons,List.not_mem_nil,or_false] at hx
 rcases hx with h | (rfl | rfl) | h | h | h | h | h
 ·exact beN_byte _ _ x h
 ·exact ok.opts
 ·exact ok.type
 ·exact beN_byte _ _ x h
 ·exact beN_byte _ _ x h
 ·exact beN_byte _ _ x h
 ·exact beN_byte _ _ x h
 ·exact beN_byte _ _ x h
abbrev bodyC (fl:Int) (A1:Option Addr) (n1 c1:Nat) (m:Int) (A2:Option Addr) (n2 c2:Nat) (k:Int) (t2:Bool) (fw tg:Int) (A3:Option Addr) (n3 c3:Nat):Array Value:=#[.int .u8 fl,.slice A1 n1 c1,.int .u32 m,.slice A2 n2 c2,.int .u32 k,.bool t2,.int .u32 fw,.int .u32 tg,.slice A3 n3 c3]
def chkP (h:OHead) (body:List Int) (e:Int):Int:=
 if h.len≠20+(body.length:Int) then 22
 else if h.sum=0∨wholeB ((headB h++body).drop 2)=false then 23
 else if e≠21∧(h.seq = -2147483648∨3600<ageP h.age) then 24 else e
end Go.Proofs.YtcknpofnpabkiaaGreat
