/- The document's Counts and ahead. Conditions: the states lie in memory. -/
import Derived.Test.YtcknpofnpabkiaaGreatGzAS
import Derived.Test.YtcknpofnpabkiaaGreatGzAR
set_option maxRecDepth 100000
namespace Go.Proofs.YtcknpofnpabkiaaGreat
open Go.RowKit Go.Lo
theorem StatesIn.head {w:World} {B:Nat} {sv:Value} {S:List StG} {l:List StV} (h:StatesIn w B sv S l) {i:Nat} (hi:i<l.length) (hi2:i<S.length):l[i].h=S[i].1:=by
 have:=congrArg (·[i]?) h.map
 simpa[hi,hi2] using this
set_option maxHeartbeats 2000000 in
theorem rcounts_any (B:Nat) (sv:Value) (S:List StG) (ls:List StV) (w:World) (hS:StatesIn w B sv S ls) (hB:B≤w.heap.size) (hok:∀ s∈S,StOk s) (i:Nat) (hi:i<ls.length) (hi2:i<S.length) :
  Calls Tryz.prog 86 #[sv,.int .i64 i] w fun e w'=>e=.returned (.bool (isG S[i]))∧Below w.heap.size w w':=by
 obtain ⟨-,lA,lc,rfl,-⟩:=id hS.sl
 obtain ⟨ab,ao,rfl,hab,hrow⟩:=Sl.row stL_len hS.sl hi
 have hsk:=hok _ (List.getElem_mem hi2)
 have hbd:=hS.bodies i hi hi2
 have hhd:=hS.head hi hi2
 have ii:(i:Int)<(ls.length:Int):=by omega
 obtain ⟨x,hx⟩:∃ x,x=ls[i]:=⟨_,rfl⟩
 obtain ⟨s,hs⟩:∃ s,s=S[i]:=⟨_,rfl⟩
 rw[←hx] at hrow hbd hhd
 rw[←hs] at hbd hhd hsk ⊢
 clear hx hs hS hok
 obtain ⟨h,body⟩:=s
 obtain ⟨h',A,len,cap⟩:=x
 simp only at hhd
 subst hhd
 obtain rfl:len=body.length:=sl_len hbd
 obtain ⟨ok,hn,hl8⟩:=hsk
 have hty0:0≤h'.type∧h'.type<256:=ok.type
 obtain ⟨q,hq⟩:∃ q,q=isG (h',body):=⟨_,rfl⟩
 rw[←hq]
 unfold isG countsP kindP freshP mineP oldP ageP at hq
 have C:=fun W h1 h2=>rcheck_any h'.type.toNat (by omega) h' ok B (.slice A body.length cap) body W h1 h2 hn hl8 (by omega)
 simp only at hq
 generalize chkP h' body (decQ h'.type.toNat body).2=e at C hq
 obtain ⟨age,opts,type,id,adv,seq,sum,len⟩:=h'
 simp only[stateVal] at C hq
 have hrg:w.rangeAt ab (ao+i*9) (stL ⟨⟨age,opts,type,id,adv,seq,sum,len⟩,A,body.length,cap⟩):=hrow
 dsimp only[stL] at hrg
 clear ok hl8 hty0 hrow
 have k7:=Blk.new w 71 #[.int .u16 age,.int .u8 opts,.int .u8 type,.int .u32 id,.int .u32 adv,.int .i32 seq,.int .u16 sum,.int .u16 len,.slice A body.length cap]
 have hB7:Below w.heap.size w (w.alloc (.cells #[.int .u16 age,.int .u8 opts,.int .u8 type,.int .u32 id,.int .u32 adv,.int .i32 seq,.int .u16 sum,.int .u16 len,.slice A body.length cap] 71)):=(Below.refl _ _).alloc (Nat.le_refl _) _
 go_enter Tryz.func86,Tryz.ntmps86
 go_upto_region 2 with (refine wpList_load_mid rfl 71 (.tmp 8) rfl ab (ao+i*9) rfl (#[.int .u16 age,.int .u8 opts,.int .u8 type,.int .u32 id,.int .u32 adv,.int .i32 seq,.int .u16 sum,.int .u16 len,.slice A body.length cap]).toList _ hrg Tryz.underlying71 rfl (by kernel_rfl) ?_;dsimp only)
 generalize w.alloc (.cells #[.int .u16 age,.int .u8 opts,.int .u8 type,.int .u32 id,.int .u32 adv,.int .i32 seq,.int .u16 sum,.int .u16 len,.slice A body.length cap] 71)=w1 at k7 hB7 ⊢
 have C1:=h'd (C w1 (hbd.below (hB7.mono hB)) (Nat.le_trans hB hB7.size))
 clear C hrg hbd
 have hz:∀ W,Below w1.heap.size w1 W→Below w.heap.size w1 W:=fun W h=>h.mono hB7.size
 obtain ⟨g7,hg7⟩:∃ g,g=w.heap.size:=⟨_,rfl⟩
 rw[←hg7] at k7 ⊢
 replace hg7:=h'd hg7
 have x0:=k7.cell 0
 have x1:=k7.cell 1
 have x2:=k7.cell 2
 have x3:=k7.cell 3
 have x4:=k7.cell 4
 have x5:=k7.cell 5
 have x6:=k7.cell 6
 have x7:=k7.cell 7
 have x8:=k7.cell 8
 simp only[q'a,q'z,q's] at x0 x1 x2 x3 x4 x5 x6 x7 x8
 clear hn
 by_cases hk:type=1∨type=2
 ·by_cases ho:3600≤bits BinOp.andNot IntKind.u16 age 32768
  ·have e3:=decide_eq_true ho
   rw[e3] at hq
   obtain rfl:q=false:=by rw[hq];simp
   clear hq
   rcases hk with rfl | rfl
   ·go_wp2
    go_ret
    exact ⟨rfl,hB7⟩
   ·go_wp2
    go_ret
    exact ⟨rfl,hB7⟩
  ·have e3:=decide_eq_false ho
   rw[e3] at hq
   by_cases he:e=0
   ·subst he
    rcases hk with rfl | rfl
    ·cases e4:(id==adv) with
     | false =>
      rw[e4] at hq
      obtain rfl:q=false:=by rw[hq];rfl
      have e5:(id != adv)=true:=by simpa using e4
      clear hq
      go_wp2_with (go_at_call 126;refine Calls.mono C1.out ?_;rintro x w2 ⟨rfl,hB2⟩;have y2:=(hB2.cell (p:=⟨g7,2,none⟩) k7.lt).trans x2;have y3:=(hB2.cell (p:=⟨g7,3,none⟩) k7.lt).trans x3;have y4:=(hB2.cell (p:=⟨g7,4,none⟩) k7.lt).trans x4)
      go_ret
      exact ⟨rfl,hB7.trans (hz _ hB2)⟩
     | true =>
      have e5:(id != adv)=false:=by simpa using e4
      cases e6:(id != 0) with
      | false =>
       rw[e4,e6] at hq
       obtain rfl:q=false:=by rw[hq];rfl
       have e7:(id==0)=true:=by simpa using e6
       clear hq
       go_wp2_with (go_at_call 126;refine Calls.mono C1.out ?_;rintro x w2 ⟨rfl,hB2⟩;have y2:=(hB2.cell (p:=⟨g7,2,none⟩) k7.lt).trans x2;have y3:=(hB2.cell (p:=⟨g7,3,none⟩) k7.lt).trans x3;have y4:=(hB2.cell (p:=⟨g7,4,none⟩) k7.lt).trans x4)
       go_ret
       exact ⟨rfl,hB7.trans (hz _ hB2)⟩
      | true =>
       rw[e4,e6] at hq
       obtain rfl:q=true:=by rw[hq];rfl
       have e7:(id==0)=false:=by simpa using e6
       clear hq
       go_wp2_with (go_at_call 126;refine Calls.mono C1.out ?_;rintro x w2 ⟨rfl,hB2⟩;have y2:=(hB2.cell (p:=⟨g7,2,none⟩) k7.lt).trans x2;have y3:=(hB2.cell (p:=⟨g7,3,none⟩) k7.lt).trans x3;have y4:=(hB2.cell (p:=⟨g7,4,none⟩) k7.lt).trans x4)
       go_ret
       exact ⟨rfl,hB7.trans (hz _ hB2)⟩
    ·obtain rfl:q=true:=by rw[hq];rfl
     clear hq
     go_wp2_with (go_at_call 126;refine Calls.mono C1.out ?_;rintro x w2 ⟨rfl,hB2⟩;have y2:=(hB2.cell (p:=⟨g7,2,none⟩) k7.lt).trans x2;have y3:=(hB2.cell (p:=⟨g7,3,none⟩) k7.lt).trans x3;have y4:=(hB2.cell (p:=⟨g7,4,none⟩) k7.lt).trans x4)
     go_ret
     exact ⟨rfl,hB7.trans (hz _ hB2)⟩
   ·have e4:(e==0)=false:=by simpa using he
    have e5:(e != 0)=true:=by simpa using he
    rw[e4] at hq
    obtain rfl:q=false:=by rw[hq];simp
    clear hq he
    rcases hk with rfl | rfl
    ·go_wp2_with (go_at_call 126;refine Calls.mono C1.out ?_;rintro x w2 ⟨rfl,hB2⟩)
     go_ret
     exact ⟨rfl,hB7.trans (hz _ hB2)⟩
    ·go_wp2_with (go_at_call 126;refine Calls.mono C1.out ?_;rintro x w2 ⟨rfl,hB2⟩)
     go_ret
     exact ⟨rfl,hB7.trans (hz _ hB2)⟩
 ·have e1:(type != 1)=true:=by simp;omega
  have e2:(type != 2)=true:=by simp;omega
  have e3:(type==1)=false:=by simp;omega
  have e4:(type==2)=false:=by simp;omega
  rw[e3,e4] at hq
  obtain rfl:q=false:=by rw[hq];rfl
  clear hq hk e3 e4
  go_wp2
  go_ret
  exact ⟨rfl,hB7⟩
set_option maxHeartbeats 2000000 in
theorem rahead_any (B:Nat) (sv:Value) (S:List StG) (ls:List StV) (w:World) (hS:StatesIn w B sv S ls) (hB:B≤w.heap.size) (i k:Nat) (hi:i<ls.length) (hi2:i<S.length) (hk:k<ls.length) (hk2:k<S.length) :
  Calls Tryz.prog 87 #[sv,.int .i64 i,.int .i64 k] w fun e w'=>e=.returned (.bool (aheadP S[i].1 S[k].1 i k))∧Below w.heap.size w w':=by
 obtain ⟨-,lA,lc,rfl,-⟩:=id hS.sl
 obtain ⟨ab,ao,rfl,hab,hrow⟩:=Sl.row stL_len hS.sl hi
 obtain ⟨ab',ao',heq,-,hrow2⟩:=Sl.row stL_len hS.sl hk
 simp only[Option.some.injEq,Addr.mk.injEq,and_true] at heq
 obtain ⟨rfl,rfl⟩:=heq
 have hhd:=hS.head hi hi2
 have hhd2:=hS.head hk hk2
 have ii:(i:Int)<(ls.length:Int):=by omega
 have kk:(k:Int)<(ls.length:Int):=by omega
 obtain ⟨q,hq⟩:∃ q,q=aheadP S[i].1 S[k].1 i k:=⟨_,rfl⟩
 rw[←hq]
 unfold aheadP at hq
 rw[←hhd,←hhd2] at hq
 obtain ⟨x,hx⟩:∃ x,x=ls[i]:=⟨_,rfl⟩
 obtain ⟨y,hy⟩:∃ y,y=ls[k]:=⟨_,rfl⟩
 rw[←hx] at hrow hq
 rw[←hy] at hrow2 hq
 clear hx hy hS hhd hhd2
 obtain ⟨⟨age,opts,type,id,adv,seq,sum,len⟩,A,n,cap⟩:=x
 obtain ⟨⟨age2,opts2,type2,id2,adv2,seq2,sum2,len2⟩,A2,n2,cap2⟩:=y
 simp only at hq
 have r1:w.rangeAt ab (ao+i*9) (#[Value.int .u16 age,.int .u8 opts,.int .u8 type,.int .u32 id,.int .u32 adv,.int .i32 seq,.int .u16 sum,.int .u16 len]).toList:=fun j u hj=>hrow j u (by
  have h8:=(List.getElem?_eq_some_iff.1 hj).1
  rw[←hj]
  dsimp only[stL]
  match j,h8 with
  | 0,_ | 1,_ | 2,_ | 3,_ | 4,_ | 5,_ | 6,_ | 7,_=>rfl)
 have r2:w.rangeAt ab (ao+k*9) (#[Value.int .u16 age2,.int .u8 opts2,.int .u8 type2,.int .u32 id2,.int .u32 adv2,.int .i32 seq2,.int .u16 sum2,.int .u16 len2]).toList:=fun j u hj=>hrow2 j u (by
  have h8:=(List.getElem?_eq_some_iff.1 hj).1
  rw[←hj]
  dsimp only[stL]
  match j,h8 with
  | 0,_ | 1,_ | 2,_ | 3,_ | 4,_ | 5,_ | 6,_ | 7,_=>rfl)
 have hB0:Below w.heap.size w (w.alloc (.cells #[.int .u16 age,.int .u8 opts,.int .u8 type,.int .u32 id,.int .u32 adv,.int .i32 seq,.int .u16 sum,.int .u16 len] 68)):=(Below.refl _ _).alloc (Nat.le_refl _) _
 have hB7:Below w.heap.size w ((w.alloc (.cells #[.int .u16 age,.int .u8 opts,.int .u8 type,.int .u32 id,.int .u32 adv,.int .i32 seq,.int .u16 sum,.int .u16 len] 68)).alloc (.cells #[.int .u16 age2,.int .u8 opts2,.int .u8 type2,.int .u32 id2,.int .u32 adv2,.int .i32 seq2,.int .u16 sum2,.int .u16 len2] 68)):=hB0.alloc (by simp) _
 have k1:Blk ((w.alloc (.cells #[.int .u16 age,.int .u8 opts,.int .u8 type,.int .u32 id,.int .u32 adv,.int .i32 seq,.int .u16 sum,.int .u16 len] 68)).alloc (.cells #[.int .u16 age2,.int .u8 opts2,.int .u8 type2,.int .u32 id2,.int .u32 adv2,.int .i32 seq2,.int .u16 sum2,.int .u16 len2] 68)) w.heap.size 68 #[.int .u16 age,.int .u8 opts,.int .u8 type,.int .u32 id,.int .u32 adv,.int .i32 seq,.int .u16 sum,.int .u16 len]:=(Blk.new _ _ _).alloc _
 have k2:Blk ((w.alloc (.cells #[.int .u16 age,.int .u8 opts,.int .u8 type,.int .u32 id,.int .u32 adv,.int .i32 seq,.int .u16 sum,.int .u16 len] 68)).alloc (.cells #[.int .u16 age2,.int .u8 opts2,.int .u8 type2,.int .u32 id2,.int .u32 adv2,.int .i32 seq2,.int .u16 sum2,.int .u16 len2] 68)) (w.heap.size+1) 68 #[.int .u16 age2,.int .u8 opts2,.int .u8 type2,.int .u32 id2,.int .u32 adv2,.int .i32 seq2,.int .u16 sum2,.int .u16 len2]:=heap_alloc2_new w _ _
 have r2':(w.alloc (.cells #[.int .u16 age,.int .u8 opts,.int .u8 type,.int .u32 id,.int .u32 adv,.int .i32 seq,.int .u16 sum,.int .u16 len] 68)).rangeAt ab (ao+k*9) (#[Value.int .u16 age2,.int .u8 opts2,.int .u8 type2,.int .u32 id2,.int .u32 adv2,.int .i32 seq2,.int .u16 sum2,.int .u16 len2]).toList:=fun j u hj=>(hB0.cell (p:=⟨ab,ao+k*9+j,none⟩) (Nat.lt_of_lt_of_le hab hB)).trans (r2 j u hj)
 clear hrow hrow2 r2 hB0
 go_enter Tryz.func87,Tryz.ntmps87
 go_upto_region 3 with (first
  | (refine wpList_load_mid rfl 68 (.tmp 12) rfl ab (ao+i*9) rfl (#[.int .u16 age,.int .u8 opts,.int .u8 type,.int .u32 id,.int .u32 adv,.int .i32 seq,.int .u16 sum,.int .u16 len]).toList _ r1 Tryz.underlying68 rfl (by kernel_rfl) ?_;dsimp only)
  | (refine wpList_load_mid rfl 68 (.tmp 17) rfl ab (ao+k*9) rfl (#[.int .u16 age2,.int .u8 opts2,.int .u8 type2,.int .u32 id2,.int .u32 adv2,.int .i32 seq2,.int .u16 sum2,.int .u16 len2]).toList _ r2' Tryz.underlying68 rfl (by kernel_rfl) ?_;dsimp only))
 generalize (w.alloc (.cells #[.int .u16 age,.int .u8 opts,.int .u8 type,.int .u32 id,.int .u32 adv,.int .i32 seq,.int .u16 sum,.int .u16 len] 68)).alloc (.cells #[.int .u16 age2,.int .u8 opts2,.int .u8 type2,.int .u32 id2,.int .u32 adv2,.int .i32 seq2,.int .u16 sum2,.int .u16 len2] 68)=w1 at k1 k2 hB7 ⊢
 have x2:=k1.cell 2
 have x3:=k1.cell 3
 have x4:=k1.cell 4
 have y2:=k2.cell 2
 have y3:=k2.cell 3
 have y4:=k2.cell 4
 simp only[q'a,q'z,q's] at x2 x3 x4 y2 y3 y4
 clear k1 k2 r1 r2'
 by_cases h1:type=type2
 ·have e1:(type != type2)=false:=by simpa using h1
  by_cases h2:id=id2
  ·have e2:(id != id2)=false:=by simpa using h2
   rw[if_pos ⟨h1,h2⟩] at hq
   by_cases h3:adv=adv2
   ·have e3:(adv != adv2)=false:=by simpa using h3
    rw[if_pos h3] at hq
    have e4:decide ((i:Int)<(k:Int))=decide (i<k):=by simp
    subst hq
    clear h1 h2 h3
    go_wp2
    go_ret
    exact ⟨congrArg (fun b=>Ending.returned (.bool b)) (by simp),hB7⟩
   ·have e3:(adv != adv2)=true:=by simpa using h3
    rw[if_neg h3] at hq
    subst hq
    clear h1 h2 h3
    go_wp2
    go_ret
    exact ⟨rfl,hB7⟩
  ·have e2:(id != id2)=true:=by simpa using h2
   rw[if_neg (fun e=>h2 e.2)] at hq
   subst hq
   clear h1 h2
   go_wp2
   go_ret
   exact ⟨rfl,hB7⟩
 ·have e1:(type != type2)=true:=by simpa using h1
  rw[if_neg (fun e=>h1 e.1)] at hq
  subst hq
  clear h1
  go_wp2
  go_ret
  exact ⟨rfl,hB7⟩
end Go.Proofs.YtcknpofnpabkiaaGreat
