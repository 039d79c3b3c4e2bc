/- lodestarref18.Resolve: what goes over virtual steps goes where the other ways go. Conditions: the ways and their hops lie in memory; they are few. -/
import Derived.Test.YtcknpofnpabkiaaGreatRpBY
import Derived.Test.YtcknpofnpabkiaaGreatRpAY
set_option maxRecDepth 100000
namespace Go.Proofs.YtcknpofnpabkiaaGreat
open Go.RowKit Go.Lo
def RsV (base b7 b9:Nat) (tv fv:Value) (via:Int) (P L:List Hop):Nat→Value→Value→World→Prop
 | 0,v,_,_=>v=.pointer (some ⟨b7,9,none⟩)
 | 1,v,_,_=>v=fv
 | 2,v,_,_=>v=tv
 | 3,v,_,_=>v=.pointer (some ⟨b9,1,none⟩)
 | 4,v,_,_=>v=.int .u32 via
 | 5,v,_,W=>∃ (A:Option Addr) (c:Nat),v=.slice A P.length c∧W.ownsRow base 131 3 (.slice A P.length c) P.length (P.flatMap hopCells)
 | 6,v,_,W=>∃ (A:Option Addr) (c:Nat),v=.slice A L.length c∧W.ownsRow base 131 3 (.slice A L.length c) L.length (L.flatMap hopCells)
 | 7,v,_,_=>v=.pointer (some ⟨b7,9,none⟩)
 | _,_,_,_=>True
def RsS (b7:Nat) (W W':World):Prop:=Below W.heap.size W W'∨(W.grownBy W' (some b7)∧∃ cs,Blk W b7 126 cs)
theorem rs_own {b7 base:Nat} {W W':World} {v:Value} {l:List Hop} (h:RsS b7 W W') (ho:W.ownsRow base 131 3 v l.length (l.flatMap hopCells)):W'.ownsRow base 131 3 v l.length (l.flatMap hopCells):=by
 rcases h with hB | ⟨hg,cs,hb⟩
 ·exact own_below ho hB
 ·exact own_same ho fun k hk=>hg.block k (ho.lt k hk).2 fun e=>own_neW ho hb (by decide) k hk (by simpa using e)
theorem RsV.turn {base b7 b9:Nat} {tv fv:Value} {via:Int} {P L:List Hop}:∀ (j:Nat) (v u:Value) (W W':World),RsS b7 W W'→RsV base b7 b9 tv fv via P L j v u W→RsV base b7 b9 tv fv via P L j v u W'
 | 0,_,_,_,_,_,h=>h
 | 1,_,_,_,_,_,h=>h
 | 2,_,_,_,_,_,h=>h
 | 3,_,_,_,_,_,h=>h
 | 4,_,_,_,_,_,h=>h
 | 5,_,_,_,_,hS,⟨A,c,h1,h2⟩=>⟨A,c,h1,rs_own hS h2⟩
 | 6,_,_,_,_,hS,⟨A,c,h1,h2⟩=>⟨A,c,h1,rs_own hS h2⟩
 | 7,_,_,_,_,_,h=>h
 | _+8,_,_,_,_,_,_=>trivial
def RsF (w3:World) (b7:Nat) (L:List Hop) (W:World):Prop:=
 ∃ (A:Option Addr) (c:Nat) (W0:World),Below w3.heap.size w3 W0∧W0.ownsRow w3.heap.size 131 3 (.slice A L.length c) L.length (L.flatMap hopCells)∧W=W0.setCell ⟨b7,9,none⟩ (.slice A L.length c)
def RsI (w3:World) (b7:Nat) (L:List Hop) (done:Nat→Bool) (W:World):Prop:=(done 8=false→Below w3.heap.size w3 W)∧(done 8=true→RsF w3 b7 L W)
theorem RsI.not_ {w3:World} {b7:Nat} {L:List Hop} {done:Nat→Bool} {W:World} (j:Nat) (hj:8≠j) (h8:done 8=false) (h:Below w3.heap.size w3 W):RsI w3 b7 L (andD done j) W:=⟨fun _=>h,fun e=>by
 unfold andD at e
 rw[if_neg hj,h8] at e
 cases e⟩
set_option maxHeartbeats 8000000 in
theorem rresolve_any (B:Nat) (lv tv:Value) (R T:List WayG) (lw lt:List WayV) (w:World) (hR:WaysIn w B lv R lw) (hT:WaysIn w B tv T lt) (hB:B≤w.heap.size) (hh:∀ r∈R,r.2.length≤400) (hh2:∀ t∈T,t.2.length≤400) (hn:lw.length≤1000) (hn2:lt.length≤1000) :
  Calls Tryz.prog 28 #[lv,tv] w fun e w'=>∃ v xs,e=.returned v∧gOf xs=resP T R∧RImp w xs v w':=by
 have hmix:(Tryz.prog).follows .mixedOrders=true:=by kernel_rfl
 obtain ⟨-,lA,lc,rfl,-⟩:=id hR.sl
 obtain ⟨-,tA,tc,rfl,-⟩:=id hT.sl
 have hlw:=h'd hR.len
 have CP:Hid (∀ W,Below w.heap.size w W→∀ r,Calls Tryz.prog 64 #[.slice tA lt.length tc,.int .u32 r] W fun e w'=>∃ v,e=.returned v∧w'.ownsRow W.heap.size 131 3 v (plainP T r).length ((plainP T r).flatMap hopCells)∧Below W.heap.size W w'):=fun W hW r=>rplain_any B _ T lt r W (hT.below (hW.mono hB)) (n't hB hW.size) (fun t ht=>n't (hh2 t ht) (by omega)) (by omega)
 have hPl:Hid (∀ r,(plainP T r).length≤400):=fun r=>plainP_len hh2 r
 have hRl:Hid (∀ l:List Hop,l.length≤400→(resHops T l).length≤160000):=fun l hl=>n't (resHops_len hh2 (by omega) l) (n't (Nat.mul_le_mul_left 400 hl) (by omega))
 replace hR:=h'd hR
 replace hh:=h'd hh
 clear hT hh2
 go_enter Tryz.func28,Tryz.ntmps28
 go_upto_region 3 with fail
 go_loopg [6,5] lw.length (fun m i v wr=>∃ (k:Nat) (xs:List WayY),k≤lw.length∧m=lw.length-k∧i=.int .i64 k∧xs.length≤k∧gOf xs=resP T (R.take k)∧RImp w xs v wr)
 case atStart=>exact ⟨0,[],Nat.zero_le _,rfl,rfl,Nat.zero_le _,rfl,⟨World.ownsRow_nil _ _ _ _,fun _ h=>(by cases h),b'r _ _⟩⟩
 case round =>
  obtain ⟨k,xs,hk,rfl,rfl,hxk,hgx,hI⟩:=hrel
  obtain ⟨w1,rfl⟩:∃ x:World,x=wr:=⟨_,rfl⟩
  have hz1:=hI.below.size
  by_cases hkl:k<lw.length
  ·have hkR:k<R.length:=by have:=hlw.out;omega
   have hW1:=hR.out.below (hI.below.mono hB)
   obtain ⟨b,off,rfl,hb0,hrow⟩:=Sl.row wayL_len hW1.sl hkl
   have hhp:=hW1.hops k hkl hkR
   have hxn:=hW1.n k hkl hkR
   have hgh:=hh.out _ (g'm hkR)
   have htk:=resP_take T R k hkR
   obtain ⟨x,hx⟩:∃ x,x=lw[k]:=⟨_,rfl⟩
   rw[←hx] at hrow hhp hxn
   clear hx
   generalize R[k]=g at htk hgh hhp hxn
   obtain ⟨gn,L⟩:=g
   obtain ⟨⟨x0,x1,x2,x3,x4,x5,x6,x7,x8⟩,xA,xn,xc⟩:=x
   simp only at hxn
   subst hxn
   obtain rfl:xn=L.length:=sl_lenW hhp
   dsimp only at htk hgh hhp
   replace htk:=h'd htk
   replace hgx:=h'd hgx
   have q0:w1.cell? ⟨b,off+k*10,none⟩=some (.int .u32 x0):=hrow 0 _ rfl
   have q1:w1.cell? ⟨b,off+k*10+1,none⟩=some (.int .u8 x1):=hrow 1 _ rfl
   have q2:w1.cell? ⟨b,off+k*10+2,none⟩=some (.int .u32 x2):=hrow 2 _ rfl
   have q3:w1.cell? ⟨b,off+k*10+3,none⟩=some (.int .u8 x3):=hrow 3 _ rfl
   have q4:w1.cell? ⟨b,off+k*10+4,none⟩=some (.int .u8 x4):=hrow 4 _ rfl
   have q5:w1.cell? ⟨b,off+k*10+5,none⟩=some (.int .u32 x5):=hrow 5 _ rfl
   have q6:w1.cell? ⟨b,off+k*10+6,none⟩=some (.int .u32 x6):=hrow 6 _ rfl
   have q7:w1.cell? ⟨b,off+k*10+7,none⟩=some (.int .u32 x7):=hrow 7 _ rfl
   have q8:w1.cell? ⟨b,off+k*10+8,none⟩=some (.int .u32 x8):=hrow 8 _ rfl
   have q9:w1.cell? ⟨b,off+k*10+9,none⟩=some (.slice xA L.length xc):=hrow 9 _ rfl
   have ik:(k:Int)<(lw.length:Int):=by omega
   have hbw1:b<w1.heap.size:=by omega
   clear hrow
   go_upto_region 6 with fail
   have k7:=Blk.new w1 126 #[.int .u32 x0,.int .u8 x1,.int .u32 x2,.int .u8 x3,.int .u8 x4,.int .u32 x5,.int .u32 x6,.int .u32 x7,.int .u32 x8,.slice xA L.length xc]
   have hb2:Below w1.heap.size w1 (w1.alloc (.cells #[.int .u32 x0,.int .u8 x1,.int .u32 x2,.int .u8 x3,.int .u8 x4,.int .u32 x5,.int .u32 x6,.int .u32 x7,.int .u32 x8,.slice xA L.length xc] 126)):=below_alloc (b'r _ _) (n'r _) _
   have hvb:∀ g,u5.ownBlock=some g→g<w1.heap.size:=fun g hg=>(hI.own.lt g hg).2
   have hhp1:=h'd (hhp.more (B':=w1.heap.size) (n't hB hz1))
   clear q0 q1 q2 q3 q4 q5 q6 q7 q8 hhp hW1
   generalize w1.alloc (.cells #[.int .u32 x0,.int .u8 x1,.int .u32 x2,.int .u8 x3,.int .u8 x4,.int .u32 x5,.int .u32 x6,.int .u32 x7,.int .u32 x8,.slice xA L.length xc] 126)=w2 at *
   have c9:=k7.cell 9
   have f9:=k7.free 9
   simp only[q'a,q'z,q's] at c9
   have hl7:=k7.lt
   go_upto_region 7 with fail
   have k8:Blk (w2.setCell ⟨w1.heap.size,9,none⟩ (.slice none 0 0)) w1.heap.size 126 #[.int .u32 x0,.int .u8 x1,.int .u32 x2,.int .u8 x3,.int .u8 x4,.int .u32 x5,.int .u32 x6,.int .u32 x7,.int .u32 x8,.slice none 0 0]:=k7.set_ 9 _
   have hb3:Below w1.heap.size w1 (w2.setCell ⟨w1.heap.size,9,none⟩ (.slice none 0 0)):=hb2.setCell (p:=⟨w1.heap.size,9,none⟩) (n'r _) _
   clear k7 hb2 c9 f9 hl7
   generalize w2.setCell ⟨w1.heap.size,9,none⟩ (.slice none 0 0)=w3 at *
   go_upto_region 8 with fail
   go_loopg [8] L.length (fun m i wr=>∃ (j:Nat) (fA:Option Addr) (fc:Nat),j≤L.length∧m=L.length-j∧i=.int .i64 j∧Blk wr w1.heap.size 126 #[.int .u32 x0,.int .u8 x1,.int .u32 x2,.int .u8 x3,.int .u8 x4,.int .u32 x5,.int .u32 x6,.int .u32 x7,.int .u32 x8,.slice fA (resHops T (L.take j)).length fc]∧wr.ownsRow w1.heap.size 131 3 (.slice fA (resHops T (L.take j)).length fc) (resHops T (L.take j)).length ((resHops T (L.take j)).flatMap hopCells)∧Below w1.heap.size w1 wr)
   case atStart=>exact ⟨0,none,0,Nat.zero_le _,rfl,rfl,k8,World.ownsRow_nil _ _ _ _,hb3⟩
   case round =>
    obtain ⟨j,fA,fc,hj,rfl,rfl,KB,ho,hb4⟩:=hrel
    obtain ⟨w3',rfl⟩:∃ x:World,x=wr:=⟨_,rfl⟩
    clear k8 hb3
    have r9:=(hb4.cell (p:=⟨b,off+k*10+9,none⟩) hbw1).trans q9
    have hFl:=hRl.out (L.take j) (by rw[List.length_take];omega)
    by_cases hjl:j<L.length
    ·obtain ⟨bh,oh,rfl,hbh,hrh⟩:=Sl.row hopCells_len (hhp1.out.below hb4) hjl
     have htj:=resHops_take T L j hjl
     have hps:=puts_self (resHops_sorted T (L.take j))
     obtain ⟨⟨a1,a2,a3⟩,ha⟩:∃ a:Hop,a=L[j]:=⟨_,rfl⟩
     rw[←ha] at hrh htj
     have h0:=hrh 0 _ rfl
     have h1:=hrh 1 _ rfl
     have h2:=hrh 2 _ rfl
     dsimp only at h0 h1 h2
     simp only[Nat.add_zero] at h0
     clear hrh ha
     generalize resHops T (L.take j)=F at KB ho htj hFl hps
     replace htj:=h'd htj
     replace hps:=h'd hps
     go_upto_region 11 with fail
     have KH:=Blk.new w3' 131 #[.int .u32 a1,.int .u32 a2,.bool a3]
     have ho5:=own_alloc ho (.cells #[.int .u32 a1,.int .u32 a2,.bool a3] 131)
     have KB5:=KB.alloc (.cells #[.int .u32 a1,.int .u32 a2,.bool a3] 131)
     have hb5:Below w1.heap.size w1 (w3'.alloc (.cells #[.int .u32 a1,.int .u32 a2,.bool a3] 131)):=below_alloc hb4 (n'r _) _
     obtain ⟨w4,hw4⟩:∃ x,x=w3':=⟨_,rfl⟩
     clear h0 h1 h2 ho KB r9
     rw[←hw4] at KH ho5 KB5 hb5 ⊢
     replace hw4:=h'd hw4
     generalize w4.alloc (.cells #[.int .u32 a1,.int .u32 a2,.bool a3] 131)=w5 at *
     have g0:=KH.cell 0
     have g1:=KH.cell 1
     have g2:=KH.cell 2
     simp only[q'a,q'z,q's] at g0 g1 g2
     have c9:=KB5.cell 9
     simp only[q'a,q'z,q's] at c9
     have hz5:=hb5.size
     cases a3 with
     | false =>
      have hop:oneP T (a1,a2,false)=[(a1,a2,false)]:=rfl
      have CU:=refput_any w1.heap.size F (a1,a2,false) (.slice fA F.length fc) w5 hz5 ho5 (by omega)
      dsimp only at CU
      replace CU:=h'd CU
      go_upto_region 9 with (go_at_call 62;refine c'm CU.out ?_;rintro e w6 ⟨v6,rfl,ho6,hB6⟩;rw[←puts_one,←hop,←htj.out] at ho6;obtain ⟨-,A6,c6,rfl,-⟩:=id (Sl.of_own ho6);have KB6:=Blk.call hB6 KB5;have d9:=KB6.cell 9;have e9:=KB6.free 9;simp only[q'a,q'z,q's] at d9)
      have hb6:Below w1.heap.size w1 w6:=hb5.trans (hB6.mono hz5)
      have KB7:Blk (w6.setCell ⟨w1.heap.size,9,none⟩ (.slice A6 (resHops T (L.take (j+1))).length c6)) w1.heap.size 126 #[.int .u32 x0,.int .u8 x1,.int .u32 x2,.int .u8 x3,.int .u8 x4,.int .u32 x5,.int .u32 x6,.int .u32 x7,.int .u32 x8,.slice A6 (resHops T (L.take (j+1))).length c6]:=KB6.set_ 9 _
      have ho7:=own_same (w':=w6.setCell ⟨w1.heap.size,9,none⟩ (.slice A6 (resHops T (L.take (j+1))).length c6)) ho6 (fun bb hbb=>Below.heap_setCell _ _ _ bb fun e=>own_neW ho6 KB6 (by decide) bb hbb e)
      have hb7:Below w1.heap.size w1 (w6.setCell ⟨w1.heap.size,9,none⟩ (.slice A6 (resHops T (L.take (j+1))).length c6)):=hb6.setCell (p:=⟨w1.heap.size,9,none⟩) (n'r _) _
      clear d9 e9 ho6 KB6 c9 g0 g1 g2 KH KB5 ho5 CU
      replace KB7:=h'd KB7
      replace ho7:=h'd ho7
      replace hb7:=h'd hb7
      go_wp2_with fail
      go_roundg (L.length-(j+1))
      case measure=>omega
      case rel=>exact ⟨j+1,A6,c6,by omega,rfl,by go_num,KB7.out,ho7.out,hb7.out⟩
     | true =>
      have hop:oneP T (a1,a2,true)=plainP T a2:=rfl
      have hpl:=hPl.out a2
      have hbw5:Below w.heap.size w w5:=hI.below.trans (hb5.mono hz1)
      have JO:Hid (∀ W,Below w5.heap.size w5 W→∀ (A:Option Addr) (c:Nat),W.ownsRow w5.heap.size 131 3 (.slice A (plainP T a2).length c) (plainP T a2).length ((plainP T a2).flatMap hopCells)→Calls Tryz.prog 63 #[.slice fA F.length fc,.slice A (plainP T a2).length c] W (RefPost W.heap.size W (resHops T (L.take (j+1))))):=fun W hW A c hA=>by
       have C:=refjoin_any F (plainP T a2) (.slice fA F.length fc) (.slice A (plainP T a2).length c) W (Sl.of_own (own_below ho5 hW)) (Sl.of_own hA) (by omega)
       rw[hps.out,←hop,←htj.out] at C
       exact C
      have KB:=KB5
      have CPl:=h'd (fun W hW=>CP.out W hW a2)
      have hIo:=h'd hI
      clear hI ho5 KB5 htj hps
      generalize plainP T a2=Q at JO hpl CPl
      obtain ⟨M,hM⟩:∃ M,M=resHops T (L.take (j+1)):=⟨_,rfl⟩
      rw[←hM] at JO
      replace hM:=h'd hM
      go_upto_region 13 with fail
      clear c9 g0 g1 g2
      refine wp_region_done [some 47,some 48,some 49,some 50,some 51,some 52,some 53,some 54,none] (RsI w5 w1.heap.size M) (RsS w1.heap.size) id (RsV w5.heap.size w1.heap.size w4.heap.size (.slice tA lt.length tc) (.slice fA F.length fc) a2 Q M) hmix (by kernel_rfl) rfl (by decide) (by kernel_rfl) RsV.turn ⟨fun _=>(b'r _ _).drew,fun h=>by cases h⟩ ?_ ?_
      ·intro done t w' a' hI ha hcl j' hlt hni hd
       simp only[putFrom,Act.put,Nat.reduceAdd,s'a,s'z,s's] at ha
       subst ha
       replace hlt:j'<9:=hlt
       rcases (show j'=0∨j'=1∨j'=2∨j'=3∨j'=4∨j'=5∨j'=6∨j'=7∨j'=8 by omega) with rfl | rfl | rfl | rfl | rfl | rfl | rfl | rfl | rfl
       ·have h8:done 8=false:=by
         cases h:done 8 with
         | false=>rfl
         | true=>exact absurd (done_of_reach hcl 6 8 0 (by kernel_rfl) h) (by rw[hni];exact b'n)
        have hJ:=hI.1 h8
        refine w'k rfl fun K' hK => ?_
        go_wp2
        exact hK.out _ _ ⟨_,rfl,RsI.not_ 0 (by decide) h8 hJ,.inl (b'r _ _),rfl⟩
       ·have h8:done 8=false:=by
         cases h:done 8 with
         | false=>rfl
         | true=>exact absurd (done_of_reach hcl 6 8 1 (by kernel_rfl) h) (by rw[hni];exact b'n)
        have hJ:=hI.1 h8
        have d0:t 0=.pointer (some ⟨w1.heap.size,9,none⟩):=hd 0 (by kernel_rfl)
        rw[d0]
        have hx9:=(KB.below hJ KB.lt).cell 9
        simp only[q'a,q'z,q's] at hx9
        refine w'k rfl fun K' hK => ?_
        go_wp2
        exact hK.out _ _ ⟨_,rfl,RsI.not_ 1 (by decide) h8 hJ,.inl (b'r _ _),rfl⟩
       ·have h8:done 8=false:=by
         cases h:done 8 with
         | false=>rfl
         | true=>exact absurd (done_of_reach hcl 6 8 2 (by kernel_rfl) h) (by rw[hni];exact b'n)
        have hJ:=hI.1 h8
        refine w'k rfl fun K' hK => ?_
        go_wp2
        exact hK.out _ _ ⟨_,rfl,RsI.not_ 2 (by decide) h8 hJ,.inl (b'r _ _),rfl⟩
       ·have h8:done 8=false:=by
         cases h:done 8 with
         | false=>rfl
         | true=>exact absurd (done_of_reach hcl 6 8 3 (by kernel_rfl) h) (by rw[hni];exact b'n)
        have hJ:=hI.1 h8
        refine w'k rfl fun K' hK => ?_
        go_wp2
        exact hK.out _ _ ⟨_,rfl,RsI.not_ 3 (by decide) h8 hJ,.inl (b'r _ _),rfl⟩
       ·have h8:done 8=false:=by
         cases h:done 8 with
         | false=>rfl
         | true=>exact absurd (done_of_reach hcl 6 8 4 (by kernel_rfl) h) (by rw[hni];exact b'n)
        have hJ:=hI.1 h8
        have d3:t 3=.pointer (some ⟨w4.heap.size,1,none⟩):=hd 3 (by kernel_rfl)
        rw[d3]
        have hx1:=(KH.below hJ KH.lt).cell 1
        simp only[q'a,q'z,q's] at hx1
        refine w'k rfl fun K' hK => ?_
        go_wp2
        exact hK.out _ _ ⟨_,rfl,RsI.not_ 4 (by decide) h8 hJ,.inl (b'r _ _),rfl⟩
       ·have h8:done 8=false:=by
         cases h:done 8 with
         | false=>rfl
         | true=>exact absurd (done_of_reach hcl 6 8 5 (by kernel_rfl) h) (by rw[hni];exact b'n)
        have hJ:=hI.1 h8
        have d2:t 2=.slice tA lt.length tc:=hd 2 (by kernel_rfl)
        rw[d2]
        have d4:t 4=.int .u32 a2:=hd 4 (by kernel_rfl)
        rw[d4]
        have CC:=h'd (CPl.out w' (hbw5.trans (hJ.mono hbw5.size)))
        refine w'k rfl fun K' hK => ?_
        go_wp2_with (go_at_call 64;refine c'm CC.out ?_;rintro e w6 ⟨v6,rfl,ho6,hB6⟩)
        obtain ⟨-,A6,c6,rfl,-⟩:=id (Sl.of_own ho6)
        exact hK.out _ _ ⟨_,rfl,RsI.not_ 5 (by decide) h8 (hJ.trans (hB6.mono hJ.size)),.inl hB6,⟨A6,c6,rfl,own_less ho6 hJ.size⟩⟩
       ·have h8:done 8=false:=by
         cases h:done 8 with
         | false=>rfl
         | true=>exact absurd (done_of_reach hcl 6 8 6 (by kernel_rfl) h) (by rw[hni];exact b'n)
        have hJ:=hI.1 h8
        have d1:t 1=.slice fA F.length fc:=hd 1 (by kernel_rfl)
        rw[d1]
        obtain ⟨A6,c6,d5,ho6⟩:=hd 5 (by kernel_rfl)
        rw[d5]
        have CC:=h'd (JO.out w' hJ A6 c6 ho6)
        refine w'k rfl fun K' hK => ?_
        go_wp2_with (go_at_call 63;refine c'm CC.out ?_;rintro e w7 ⟨v7,rfl,ho7,hB7⟩)
        obtain ⟨-,A7,c7,rfl,-⟩:=id (Sl.of_own ho7)
        exact hK.out _ _ ⟨_,rfl,RsI.not_ 6 (by decide) h8 (hJ.trans (hB7.mono hJ.size)),.inl hB7,⟨A7,c7,rfl,own_less ho7 hJ.size⟩⟩
       ·have h8:done 8=false:=by
         cases h:done 8 with
         | false=>rfl
         | true=>exact absurd (done_of_reach hcl 6 8 7 (by kernel_rfl) h) (by rw[hni];exact b'n)
        have hJ:=hI.1 h8
        refine w'k rfl fun K' hK => ?_
        go_wp2
        exact hK.out _ _ ⟨_,rfl,RsI.not_ 7 (by decide) h8 hJ,.inl (b'r _ _),rfl⟩
       ·have hJ:=hI.1 hni
        have d7:t 7=.pointer (some ⟨w1.heap.size,9,none⟩):=hd 7 (by kernel_rfl)
        obtain ⟨A7,c7,d6,ho7⟩:=hd 6 (by kernel_rfl)
        rw[d6,d7]
        have kW:=KB.below hJ KB.lt
        have f9:=kW.free 9
        have x9:=kW.cell 9
        simp only[q'a,q'z,q's] at x9
        refine w'k rfl fun K' hK => ?_
        replace ho7:=h'd ho7
        replace kW:=h'd kW
        go_wp2
        exact hK.out _ _ ⟨undef,rfl,⟨fun h=>absurd h (by simp[andD]),fun _=>⟨A7,c7,w',hJ,ho7.out,rfl⟩⟩,.inr ⟨far_grown _ ⟨w1.heap.size,9,none⟩ _,_,kW.out⟩,trivial⟩
      ·intro done t w6 a' hI hall ha hv
       simp only[putFrom,Act.put,Nat.reduceAdd,s'a,s'z,s's] at ha
       subst ha
       obtain ⟨A6,c6,W0,hJ,ho7,rfl⟩:=hI.2 (hall 8 (by decide))
       clear hv hI hall
       have KB6:=KB.below hJ KB.lt
       have hb6:=hb5.trans (hJ.mono hz5)
       have KB7:Blk (W0.setCell ⟨w1.heap.size,9,none⟩ (.slice A6 M.length c6)) w1.heap.size 126 #[.int .u32 x0,.int .u8 x1,.int .u32 x2,.int .u8 x3,.int .u8 x4,.int .u32 x5,.int .u32 x6,.int .u32 x7,.int .u32 x8,.slice A6 M.length c6]:=KB6.set_ 9 _
       have ho8:=own_same (w':=W0.setCell ⟨w1.heap.size,9,none⟩ (.slice A6 M.length c6)) ho7 (fun bb hbb=>Below.heap_setCell _ _ _ bb fun e=>own_neW ho7 KB6 (by decide) bb hbb e)
       have hb7:Below w1.heap.size w1 (W0.setCell ⟨w1.heap.size,9,none⟩ (.slice A6 M.length c6)):=hb6.setCell (p:=⟨w1.heap.size,9,none⟩) (n'r _) _
       clear ho7 KB6 KB KH
       replace KB7:=h'd KB7
       replace ho8:=h'd (own_less ho8 hz5)
       replace hb7:=h'd hb7
       go_wp2_with fail
       go_roundg (L.length-(j+1))
       case measure=>omega
       case rel =>
        refine ⟨j+1,A6,c6,by omega,rfl,by go_num,?_⟩
        rw[←hM.out]
        exact ⟨KB7.out,ho8.out,hb7.out⟩
    ·obtain rfl:j=L.length:=by omega
     rw[List.take_length] at ho hFl KB
     have hkw:keepW T ((⟨x0,x1,x2,x3,x4,x5,x6,x7,x8⟩:WayN),L)=(decide (0<(resHops T L).length) || decide (L.length=0)):=rfl
     obtain ⟨F,hF⟩:∃ F,F=resHops T L:=⟨_,rfl⟩
     rw[←hF] at ho hFl hkw KB
     have htk2:resP T (R.take (k+1))=resP T (R.take k)++(if (decide (0<F.length) || decide (L.length=0))=true then [((⟨x0,x1,x2,x3,x4,x5,x6,x7,x8⟩:WayN),F)] else []):=by
      rw[htk.out,hkw,←hF]
     replace htk2:=h'd htk2
     clear htk hkw
     replace hF:=h'd hF
     have hI3:=hI.call hb4
     have c9:=KB.cell 9
     simp only[q'a,q'z,q's] at c9
     have hz4:=hI3.below.size
     by_cases hkeep:0<F.length∨L.length=0
     ·have hif:(decide (0<F.length) || decide (L.length=0))=true:=by
       rcases hkeep with h | h
       ·rw[d't h];rfl
       ·rw[d't h];simp
      have hsn:resP T (R.take (k+1))=resP T (R.take k)++[((⟨x0,x1,x2,x3,x4,x5,x6,x7,x8⟩:WayN),F)]:=by rw[htk2.out,if_pos hif]
      replace hsn:=h'd hsn
      have hoh:=h'd ho
      have hI3h:=h'd hI3
      clear htk2 hif ho
      by_cases hF0:0<F.length
      ·have i0:(0:Int)<(F.length:Int):=by omega
       have KBh:=KB
       have y0:=KB.cell 0
       have y1:=KB.cell 1
       have y2:=KB.cell 2
       have y3:=KB.cell 3
       have y4:=KB.cell 4
       have y5:=KB.cell 5
       have y6:=KB.cell 6
       have y7:=KB.cell 7
       have y8:=KB.cell 8
       have y9:=KB.cell 9
       simp only[q'a,q'z,q's] at y0 y1 y2 y3 y4 y5 y6 y7 y8 y9
       go_wp2_with (at_builtin;refine wpList_append rfl (.tmp 68) (.tmp 70) 39 rfl w.heap.size rwayT u5 xs.length (xs.flatMap yL) rfl (own_alloc hI3.own _) _ _ 1 [.int .u32 x0,.int .u8 x1,.int .u32 x2,.int .u8 x3,.int .u8 x4,.int .u32 x5,.int .u32 x6,.int .u32 x7,.int .u32 x8,.slice fA F.length fc] rfl (Sl.lit w3' #[.int .u32 x0,.int .u8 x1,.int .u32 x2,.int .u8 x3,.int .u8 x4,.int .u32 x5,.int .u32 x6,.int .u32 x7,.int .u32 x8,.slice fA F.length fc] 126 (by simp[maxLen]) rfl) (by simp[Value.oneCell']) (by simp only[maxLen];omega) (by omega) (by simp;omega) ?_;intro v7 w7 ho7 hg7 hob7)
       go_roundg (lw.length-(k+1))
       case measure=>omega
       case rel =>
        refine ⟨k+1,xs++[((⟨⟨x0,x1,x2,x3,x4,x5,x6,x7,x8⟩,fA,F.length,fc⟩,F):WayY)],by omega,rfl,by go_num,by simp;omega,by rw[gOf_snoc,hgx.out,hsn.out],(hI3h.out.alloc _).grow rfl (own_less (own_alloc hoh.out _) (by omega)) ?_ hg7⟩
        rw[l'a,List.flatMap_append]
        exact ho7
      ·have i0:¬ (0:Int)<(F.length:Int):=by omega
       have i1:(L.length:Int)=0:=by omega
       have KBh:=KB
       have y0:=KB.cell 0
       have y1:=KB.cell 1
       have y2:=KB.cell 2
       have y3:=KB.cell 3
       have y4:=KB.cell 4
       have y5:=KB.cell 5
       have y6:=KB.cell 6
       have y7:=KB.cell 7
       have y8:=KB.cell 8
       have y9:=KB.cell 9
       simp only[q'a,q'z,q's] at y0 y1 y2 y3 y4 y5 y6 y7 y8 y9
       go_wp2_with (at_builtin;refine wpList_append rfl (.tmp 68) (.tmp 70) 39 rfl w.heap.size rwayT u5 xs.length (xs.flatMap yL) rfl (own_alloc hI3.own _) _ _ 1 [.int .u32 x0,.int .u8 x1,.int .u32 x2,.int .u8 x3,.int .u8 x4,.int .u32 x5,.int .u32 x6,.int .u32 x7,.int .u32 x8,.slice fA F.length fc] rfl (Sl.lit w3' #[.int .u32 x0,.int .u8 x1,.int .u32 x2,.int .u8 x3,.int .u8 x4,.int .u32 x5,.int .u32 x6,.int .u32 x7,.int .u32 x8,.slice fA F.length fc] 126 (by simp[maxLen]) rfl) (by simp[Value.oneCell']) (by simp only[maxLen];omega) (by omega) (by simp;omega) ?_;intro v7 w7 ho7 hg7 hob7)
       go_roundg (lw.length-(k+1))
       case measure=>omega
       case rel =>
        refine ⟨k+1,xs++[((⟨⟨x0,x1,x2,x3,x4,x5,x6,x7,x8⟩,fA,F.length,fc⟩,F):WayY)],by omega,rfl,by go_num,by simp;omega,by rw[gOf_snoc,hgx.out,hsn.out],(hI3h.out.alloc _).grow rfl (own_less (own_alloc hoh.out _) (by omega)) ?_ hg7⟩
        rw[l'a,List.flatMap_append]
        exact ho7
     ·have hif:(decide (0<F.length) || decide (L.length=0))=false:=by
       rw[d'f (fun h=>hkeep (.inl h)),d'f (fun h=>hkeep (.inr h))];rfl
      have hsn:resP T (R.take (k+1))=resP T (R.take k):=by rw[htk2.out,hif];simp
      replace hsn:=h'd hsn
      have i0:decide (0<F.length)=false:=d'f (fun h=>hkeep (.inl h))
      have i1:((L.length:Int)==0)=false:=beq_eq_false_iff_ne.2 (fun h=>hkeep (.inr (by omega)))
      have i2:¬ (L.length:Int)=0:=fun h=>hkeep (.inr (by omega))
      clear htk2 hif
      go_wp2_with fail
      go_roundg (lw.length-(k+1))
      case measure=>omega
      case rel=>exact ⟨k+1,xs,by omega,rfl,by go_num,by omega,by rw[hgx.out,hsn.out],hI3⟩
  ·obtain rfl:k=lw.length:=by omega
   rw[hlw.out,List.take_length] at hgx
   go_wp2_with fail
   go_ret
   exact ⟨_,xs,rfl,hgx,hI⟩
end Go.Proofs.YtcknpofnpabkiaaGreat
