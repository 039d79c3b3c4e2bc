/- inner.plain: the hops, not virtual ones, of the first way to a router. Conditions: the ways and their hops lie in memory. -/
import Derived.Test.YtcknpofnpabkiaaGreatRpAH
import Derived.Test.YtcknpofnpabkiaaGreatRpAJ
import Derived.Test.YtcknpofnpabkiaaGreatRpAN
set_option maxRecDepth 100000
namespace Go.Proofs.YtcknpofnpabkiaaGreat
open Go.RowKit Go.Lo
theorem find_idxR (adv:Int) (R:List WayG) (l:List WayV) (hm:l.map (·.n)=R.map (·.1)) :
  (R.find? (fun r=>isR adv r.1)=none∧idxR adv l = -1)∨∃ k,k<l.length∧∃ h2:k<R.length,R.find? (fun r=>isR adv r.1)=some R[k]∧idxR adv l=(k:Int):=by
 have hlen:l.length=R.length:=by simpa using congrArg List.length hm
 have hn:∀ k (h1:k<l.length) (h2:k<R.length),l[k].n=R[k].1:=fun k h1 h2=>by
  have:=congrArg (fun z=>z[k]?) hm
  simpa[h1,h2] using this
 unfold idxR
 cases hf:l.findIdx? (fun x=>isR adv x.n) with
 | none =>
  refine .inl ⟨List.find?_eq_none.2 fun r hr => ?_,rfl⟩
  obtain ⟨k,hk,rfl⟩:=List.getElem_of_mem hr
  have h1:k<l.length:=by omega
  have:=List.findIdx?_eq_none_iff.1 hf l[k] (g'm h1)
  rw[hn k h1 hk] at this
  simp[this]
 | some k =>
  obtain ⟨h1,h2,h3⟩:=List.findIdx?_eq_some_iff_getElem.1 hf
  refine .inr ⟨k,h1,by omega,List.find?_eq_some_iff_getElem.2 ⟨by rw[←hn k h1 (by omega)];exact h2,k,by omega,rfl,fun j hj => ?_⟩,rfl⟩
  have:=h3 j hj
  rw[hn j (by omega) (by omega)] at this
  simpa using this
def flatV (l:List Hop):List Hop:=l.filter fun h => !h.2.2
theorem flatV_virt (l:List Hop) (k:Nat) (hk:k<l.length) (h:l[k].2.2=true):flatV (l.take (k+1))=flatV (l.take k):=by
 rw[t'k hk]
 unfold flatV
 rw[List.filter_append]
 simp[h]
theorem flatV_flat (l:List Hop) (k:Nat) (hk:k<l.length) (h:l[k].2.2=false):flatV (l.take (k+1))=flatV (l.take k)++[l[k]]:=by
 rw[t'k hk]
 unfold flatV
 rw[List.filter_append]
 simp[h]
set_option maxHeartbeats 4000000 in
theorem iplain_any (B:Nat) (tv:Value) (T:List WayG) (lt:List WayV) (r:Int) (w:World) (hT:WaysIn w B tv T lt) (hB:B≤w.heap.size) (hh:∀ t∈T,t.2.length≤2000000) (hn:lt.length≤1000000) :
  Calls Tryz.prog 61 #[tv,.int .u32 r] w fun e w'=>∃ v,e=.returned v∧w'.ownsRow w.heap.size 56 3 v (plainP T r).length ((plainP T r).flatMap hopCells)∧Below w.heap.size w w':=by
 obtain ⟨-,tA,tc,rfl,-⟩:=id hT.sl
 have hfi:=find_idxR r T lt hT.map
 obtain ⟨ir,hir⟩:∃ ir,ir=idxR r lt:=⟨_,rfl⟩
 rw[←hir] at hfi
 obtain ⟨Q,hQ⟩:∃ Q,Q=plainP T r:=⟨_,rfl⟩
 rw[←hQ]
 have hb1:Below w.heap.size w (w.alloc (.cells #[.int .u32 r] 23)):=below_alloc (b'r _ _) (n'r _) _
 have k1:=Blk.new w 23 #[.int .u32 r]
 have hT1:=hT.below (hb1.mono hB)
 have CI:=indexR_any r lt _ B w.heap.size (w.alloc (.cells #[.int .u32 r] 23)) hT1.sl (n't hB hb1.size) (by simp) k1.lt hn
 rw[←hir] at CI
 replace hir:=h'd hir
 replace CI:=h'd CI
 replace hfi:=h'd hfi
 have HT:=h'd hT1
 clear hT hT1 k1
 go_enter Tryz.func61,Tryz.ntmps61
 go_upto_region 1 with fail
 generalize w.alloc (.cells #[.int .u32 r] 23)=w1 at *
 rcases hfi.out with ⟨hno,rfl⟩ | ⟨k,hk,hk2,hfd,rfl⟩
 ·have hQn:Q=[]:=by
   rw[hQ]
   unfold plainP firstR
   have:T.find? (fun t=>t.1.router==r)=none:=hno
   rw[this]
  replace hQn:=h'd hQn
  clear hno hfi hQ
  go_wp2_with (go_at_call 104;refine c'm CI.out ?_;rintro e w2 ⟨rfl,hB2⟩)
  go_ret
  exact ⟨_,rfl,by rw[hQn.out];exact World.ownsRow_nil _ _ _ _,hb1.trans (hB2.mono hb1.size)⟩
 ·have hQs:Q=flatV T[k].2:=by
   rw[hQ]
   unfold plainP firstR
   have:T.find? (fun t=>t.1.router==r)=some T[k]:=hfd
   rw[this]
   rfl
  have hgh:=hh _ (g'm hk2)
  obtain ⟨b,off,rfl,hb,hrow⟩:=Sl.row wayL_len HT.out.sl hk
  have c9:=hrow 9 _ rfl
  have hhp:=HT.out.hops k hk hk2
  obtain ⟨L,hL⟩:∃ L,L=T[k].2:=⟨_,rfl⟩
  rw[←hL] at hQs hgh hhp
  generalize lt[k].A=hA at c9 hhp
  generalize lt[k].cap=hc at c9 hhp
  generalize lt[k].len=hln at c9 hhp
  obtain rfl:=sl_lenW hhp
  have hbw:b<w1.heap.size:=by have:=hb1.size;omega
  replace hQs:=h'd hQs
  have ik:(k:Int)<(lt.length:Int):=by omega
  have ik2:¬ (k:Int)<0:=by omega
  clear hfd hfi hQ hrow hL
  go_upto_region 2 with (go_at_call 104;refine c'm CI.out ?_;rintro e w2 ⟨rfl,hB2⟩)
  have c9':=(hB2.cell (p:=⟨b,off+k*10+9,none⟩) hbw).trans c9
  have hb2:Below w.heap.size w w2:=hb1.trans (hB2.mono hb1.size)
  have hhp2:=h'd ((hhp.below (hB2.mono (n't hB hb1.size))).more (B':=w2.heap.size) (n't hB hb2.size))
  clear c9 hhp CI HT
  go_upto_region 6 with fail
  go_loopg [20,6] L.length (fun m i v wr=>∃ j:Nat,j≤L.length∧m=L.length-j∧i=.int .i64 j∧wr.ownsRow w2.heap.size 56 3 v (flatV (L.take j)).length ((flatV (L.take j)).flatMap hopCells)∧Below w2.heap.size w2 wr)
  case atStart=>exact ⟨0,Nat.zero_le _,rfl,rfl,World.ownsRow_nil _ _ _ _,b'r _ _⟩
  case round =>
   obtain ⟨j,hj,rfl,rfl,ho,hb3⟩:=hrel
   obtain ⟨w3,rfl⟩:∃ x:World,x=wr:=⟨_,rfl⟩
   by_cases hjl:j<L.length
   ·obtain ⟨bh,oh,rfl,hbh,hrh⟩:=Sl.row hopCells_len (hhp2.out.below hb3) hjl
    have htkT:=flatV_virt L j hjl
    have htkF:=flatV_flat L j hjl
    have hfl:(flatV (L.take j)).length≤j:=n't (List.length_filter_le _ _) (by rw[List.length_take];omega)
    obtain ⟨⟨a1,a2,a3⟩,ha⟩:∃ a:Hop,a=L[j]:=⟨_,rfl⟩
    rw[←ha] at hrh htkT htkF
    have h0:=hrh 0 _ rfl
    have h1:=hrh 1 _ rfl
    have h2:=hrh 2 _ rfl
    dsimp only at h0 h1 h2 htkT htkF
    simp only[Nat.add_zero] at h0
    clear hrh ha
    generalize flatV (L.take j)=F at ho htkT htkF hfl
    cases a3 with
    | true =>
     have htk:=h'd (htkT rfl)
     clear htkT htkF
     go_wp2_with fail
     go_roundg (L.length-(j+1))
     case measure=>omega
     case rel=>exact ⟨j+1,by omega,rfl,by go_num,by rw[htk.out];exact own_alloc ho _,below_alloc hb3 (n'r _) _⟩
    | false =>
     have htk:=h'd (htkF rfl)
     clear htkT htkF
     go_upto_region 9 with fail
     have kh:=Blk.new w3 56 #[.int .u32 a1,.int .u32 a2,.bool false]
     have ho4:=own_alloc ho (.cells #[.int .u32 a1,.int .u32 a2,.bool false] 56)
     have hb4:Below w2.heap.size w2 (w3.alloc (.cells #[.int .u32 a1,.int .u32 a2,.bool false] 56)):=below_alloc hb3 (n'r _) _
     clear h0 h1 h2 ho
     generalize w3.alloc (.cells #[.int .u32 a1,.int .u32 a2,.bool false] 56)=w4 at *
     have g0:=kh.cell 0
     have g1:=kh.cell 1
     have g2:=kh.cell 2
     simp only[q'a,q'z,q's] at g0 g1 g2
     have hz4:=hb4.size
     have hz2:=hb2.size
     go_wp2_with (at_builtin;refine wpList_append rfl (.tmp 27) (.tmp 29) 46 rfl w2.heap.size hopT u6 F.length (F.flatMap hopCells) rfl (own_alloc ho4 _) _ _ 1 [.int .u32 a1,.int .u32 a2,.bool false] rfl (Sl.lit w4 #[.int .u32 a1,.int .u32 a2,.bool false] 56 (by simp[maxLen]) rfl) (by simp[Value.oneCell']) (by simp only[maxLen];omega) (by omega) (by simp;omega) ?_;intro v7 w7 ho7 hg7 hob7)
     have hb7:Below w2.heap.size w2 w7:=(below_alloc hb4 (n'r _) _).trans (below_of_grown hg7 (by simp;omega) fun g hg=>(ho4.lt g hg).1)
     go_roundg (L.length-(j+1))
     case measure=>omega
     case rel=>exact ⟨j+1,by omega,rfl,by go_num,by rw[htk.out,l'a,List.flatMap_append];exact ho7,hb7⟩
   ·obtain rfl:j=L.length:=by omega
    rw[List.take_length,←hQs.out] at ho
    go_wp2_with fail
    go_ret
    exact ⟨_,rfl,own_less ho hb2.size,hb2.trans (hb3.mono hb2.size)⟩
set_option maxRecDepth 100000
set_option maxHeartbeats 8000000 in
theorem resolve_any (B:Nat) (lv tv:Value) (R T:List WayG) (lw lt:List WayV) (w:World) (hR:WaysIn w B lv R lw) (hT:WaysIn w B tv T lt) (hB:B≤w.heap.size) (hh:∀ r∈R,r.2.length≤400) (hh2:∀ t∈T,t.2.length≤400) (hn:lw.length≤1000) (hn2:lt.length≤1000) :
  Calls Tryz.prog 27 #[lv,tv] w fun e w'=>∃ v xs,e=.returned v∧gOf xs=resP T R∧ImpR w xs v w':=by
 obtain ⟨-,lA,lc,rfl,-⟩:=id hR.sl
 obtain ⟨-,tA,tc,rfl,-⟩:=id hT.sl
 have hlw:=h'd hR.len
 have CP:Hid (∀ W,Below w.heap.size w W→∀ r,Calls Tryz.prog 61 #[.slice tA lt.length tc,.int .u32 r] W fun e w'=>∃ v,e=.returned v∧w'.ownsRow W.heap.size 56 3 v (plainP T r).length ((plainP T r).flatMap hopCells)∧Below W.heap.size W w'):=fun W hW r=>iplain_any B _ T lt r W (hT.below (hW.mono hB)) (n't hB hW.size) (fun t ht=>n't (hh2 t ht) (by omega)) (by omega)
 have hPl:Hid (∀ r,(plainP T r).length≤400):=fun r=>plainP_len hh2 r
 have hRl:Hid (∀ l:List Hop,l.length≤400→(resHops T l).length≤160000):=fun l hl=>n't (resHops_len hh2 (by omega) l) (n't (Nat.mul_le_mul_left 400 hl) (by omega))
 replace hR:=h'd hR
 replace hh:=h'd hh
 clear hT hh2
 go_enter Tryz.func27,Tryz.ntmps27
 go_upto_region 3 with fail
 go_loopg [14,5] lw.length (fun m i v wr=>∃ (k:Nat) (xs:List WayY),k≤lw.length∧m=lw.length-k∧i=.int .i64 k∧xs.length≤k∧gOf xs=resP T (R.take k)∧ImpR w xs v wr)
 case atStart=>exact ⟨0,[],Nat.zero_le _,rfl,rfl,Nat.zero_le _,rfl,⟨World.ownsRow_nil _ _ _ _,fun _ h=>(by cases h),b'r _ _⟩⟩
 case round =>
  obtain ⟨k,xs,hk,rfl,rfl,hxk,hgx,hI⟩:=hrel
  obtain ⟨w1,rfl⟩:∃ x:World,x=wr:=⟨_,rfl⟩
  have hz1:=hI.below.size
  by_cases hkl:k<lw.length
  ·have hkR:k<R.length:=by have:=hlw.out;omega
   have hW1:=hR.out.below (hI.below.mono hB)
   obtain ⟨b,off,rfl,hb0,hrow⟩:=Sl.row wayL_len hW1.sl hkl
   have hhp:=hW1.hops k hkl hkR
   have hxn:=hW1.n k hkl hkR
   have hgh:=hh.out _ (g'm hkR)
   have htk:=resP_take T R k hkR
   obtain ⟨x,hx⟩:∃ x,x=lw[k]:=⟨_,rfl⟩
   rw[←hx] at hrow hhp hxn
   clear hx
   generalize R[k]=g at htk hgh hhp hxn
   obtain ⟨gn,L⟩:=g
   obtain ⟨⟨x0,x1,x2,x3,x4,x5,x6,x7,x8⟩,xA,xn,xc⟩:=x
   simp only at hxn
   subst hxn
   obtain rfl:xn=L.length:=sl_lenW hhp
   dsimp only at htk hgh hhp
   replace htk:=h'd htk
   replace hgx:=h'd hgx
   have q0:w1.cell? ⟨b,off+k*10,none⟩=some (.int .u32 x0):=hrow 0 _ rfl
   have q1:w1.cell? ⟨b,off+k*10+1,none⟩=some (.int .u8 x1):=hrow 1 _ rfl
   have q2:w1.cell? ⟨b,off+k*10+2,none⟩=some (.int .u32 x2):=hrow 2 _ rfl
   have q3:w1.cell? ⟨b,off+k*10+3,none⟩=some (.int .u8 x3):=hrow 3 _ rfl
   have q4:w1.cell? ⟨b,off+k*10+4,none⟩=some (.int .u8 x4):=hrow 4 _ rfl
   have q5:w1.cell? ⟨b,off+k*10+5,none⟩=some (.int .u32 x5):=hrow 5 _ rfl
   have q6:w1.cell? ⟨b,off+k*10+6,none⟩=some (.int .u32 x6):=hrow 6 _ rfl
   have q7:w1.cell? ⟨b,off+k*10+7,none⟩=some (.int .u32 x7):=hrow 7 _ rfl
   have q8:w1.cell? ⟨b,off+k*10+8,none⟩=some (.int .u32 x8):=hrow 8 _ rfl
   have q9:w1.cell? ⟨b,off+k*10+9,none⟩=some (.slice xA L.length xc):=hrow 9 _ rfl
   have ik:(k:Int)<(lw.length:Int):=by omega
   clear hrow
   go_upto_region 6 with fail
   have k7:=Blk.new w1 48 #[.int .u32 x0,.int .u8 x1,.int .u32 x2,.int .u8 x3,.int .u8 x4,.int .u32 x5,.int .u32 x6,.int .u32 x7,.int .u32 x8,.slice xA L.length xc]
   have hb2:Below w1.heap.size w1 (w1.alloc (.cells #[.int .u32 x0,.int .u8 x1,.int .u32 x2,.int .u8 x3,.int .u8 x4,.int .u32 x5,.int .u32 x6,.int .u32 x7,.int .u32 x8,.slice xA L.length xc] 48)):=below_alloc (b'r _ _) (n'r _) _
   have hI2:=hI.alloc (.cells #[.int .u32 x0,.int .u8 x1,.int .u32 x2,.int .u8 x3,.int .u8 x4,.int .u32 x5,.int .u32 x6,.int .u32 x7,.int .u32 x8,.slice xA L.length xc] 48)
   have hhp2:=h'd ((hhp.below (hb2.mono (n't hB hz1))).more (B':=(w1.alloc (.cells #[.int .u32 x0,.int .u8 x1,.int .u32 x2,.int .u8 x3,.int .u8 x4,.int .u32 x5,.int .u32 x6,.int .u32 x7,.int .u32 x8,.slice xA L.length xc] 48)).heap.size) (n't (n't hB hz1) hb2.size))
   have hvb:∀ g,u5.ownBlock=some g→g<w1.heap.size:=fun g hg=>(hI.own.lt g hg).2
   clear q0 q1 q2 q3 q4 q5 q6 q7 q8 q9 hI hhp hW1
   generalize w1.alloc (.cells #[.int .u32 x0,.int .u8 x1,.int .u32 x2,.int .u8 x3,.int .u8 x4,.int .u32 x5,.int .u32 x6,.int .u32 x7,.int .u32 x8,.slice xA L.length xc] 48)=w2 at *
   have c9:=k7.cell 9
   simp only[q'a,q'z,q's] at c9
   have hl7:=k7.lt
   go_upto_region 7 with fail
   go_loopg [21,8] L.length (fun m i v wr=>∃ j:Nat,j≤L.length∧m=L.length-j∧i=.int .i64 j∧wr.ownsRow w2.heap.size 56 3 v (resHops T (L.take j)).length ((resHops T (L.take j)).flatMap hopCells)∧Below w2.heap.size w2 wr)
   case atStart=>exact ⟨0,Nat.zero_le _,rfl,rfl,World.ownsRow_nil _ _ _ _,b'r _ _⟩
   case round =>
    obtain ⟨j,hj,rfl,rfl,ho,hb3⟩:=hrel
    obtain ⟨w3,rfl⟩:∃ x:World,x=wr:=⟨_,rfl⟩
    have hz3:=hb3.size
    have hFl:=hRl.out (L.take j) (by rw[List.length_take];omega)
    by_cases hjl:j<L.length
    ·obtain ⟨bh,oh,rfl,hbh,hrh⟩:=Sl.row hopCells_len (hhp2.out.below hb3) hjl
     have htj:=resHops_take T L j hjl
     have hps:=puts_self (resHops_sorted T (L.take j))
     obtain ⟨⟨a1,a2,a3⟩,ha⟩:∃ a:Hop,a=L[j]:=⟨_,rfl⟩
     rw[←ha] at hrh htj
     have h0:=hrh 0 _ rfl
     have h1:=hrh 1 _ rfl
     have h2:=hrh 2 _ rfl
     dsimp only at h0 h1 h2
     simp only[Nat.add_zero] at h0
     clear hrh ha
     generalize resHops T (L.take j)=F at ho htj hFl hps
     obtain ⟨-,fA,fc,rfl,-⟩:=id (Sl.of_own ho)
     replace htj:=h'd htj
     replace hps:=h'd hps
     go_upto_region 9 with fail
     have kh:=Blk.new w3 56 #[.int .u32 a1,.int .u32 a2,.bool a3]
     have ho4:=own_alloc ho (.cells #[.int .u32 a1,.int .u32 a2,.bool a3] 56)
     have hb4:Below w2.heap.size w2 (w3.alloc (.cells #[.int .u32 a1,.int .u32 a2,.bool a3] 56)):=below_alloc hb3 (n'r _) _
     clear h0 h1 h2 ho
     generalize w3.alloc (.cells #[.int .u32 a1,.int .u32 a2,.bool a3] 56)=w4 at *
     have g0:=kh.cell 0
     have g1:=kh.cell 1
     have g2:=kh.cell 2
     simp only[q'a,q'z,q's] at g0 g1 g2
     go_upto_region 10 with fail
     have hs5:=Sl.lit w4 #[.int .u32 a1,.int .u32 a2,.bool a3] 56 (n:=1) (s:=3) (by simp[maxLen]) rfl
     have kh5:=kh.alloc (.cells #[.int .u32 a1,.int .u32 a2,.bool a3] 56)
     have ho5:=own_alloc ho4 (.cells #[.int .u32 a1,.int .u32 a2,.bool a3] 56)
     have hb5:Below w2.heap.size w2 (w4.alloc (.cells #[.int .u32 a1,.int .u32 a2,.bool a3] 56)):=below_alloc hb4 (n'r _) _
     have hz5:(w4.alloc (.cells #[.int .u32 a1,.int .u32 a2,.bool a3] 56)).heap.size=w4.heap.size+1:=by simp
     rw[←hz5] at hs5
     clear g0 g1 g2 kh ho4
     generalize w4.alloc (.cells #[.int .u32 a1,.int .u32 a2,.bool a3] 56)=w5 at *
     replace hz5:=h'd hz5
     have g1:=kh5.cell 1
     have g2:=kh5.cell 2
     simp only[q'a,q'z,q's] at g1 g2
     cases a3 with
     | true =>
      have hop:oneP T (a1,a2,true)=plainP T a2:=rfl
      have CPl:=h'd (CP.out w5 (hI2.below.trans (hb5.mono hI2.below.size)) a2)
      have hpl:=hPl.out a2
      go_upto_region 12 with (go_at_call 61;refine c'm CPl.out ?_;rintro e w6 ⟨v6,rfl,ho6,hB6⟩;obtain ⟨-,pA,pc,rfl,-⟩:=id (Sl.of_own ho6))
      have CJ:=h'd (join_any F (plainP T a2) (.slice fA F.length fc) (.slice pA (plainP T a2).length pc) w6 (Sl.of_own (own_below ho5 hB6)) (Sl.of_own ho6) (by omega))
      have hb6:Below w2.heap.size w2 w6:=hb5.trans (hB6.mono hb5.size)
      clear ho5 ho6 CPl
      go_wp2_with (go_at_call 29;refine c'm CJ.out ?_;rintro e w7 ⟨v7,rfl,ho7,hB7⟩;rw[hps.out,←hop,←htj.out] at ho7)
      go_roundg (L.length-(j+1))
      case measure=>omega
      case rel=>exact ⟨j+1,by omega,rfl,by go_num,own_less ho7 hb6.size,hb6.trans (hB7.mono hb6.size)⟩
     | false =>
      have hop:oneP T (a1,a2,false)=[(a1,a2,false)]:=rfl
      have CJ:=h'd (join_any F [(a1,a2,false)] (.slice fA F.length fc) (.slice (some ⟨w4.heap.size,0,none⟩) 1 1) w5 (Sl.of_own ho5) hs5 (by simp;omega))
      clear ho5 hs5
      go_wp2_with (go_at_call 29;refine c'm CJ.out ?_;rintro e w7 ⟨v7,rfl,ho7,hB7⟩;rw[hps.out,←hop,←htj.out] at ho7)
      go_roundg (L.length-(j+1))
      case measure=>omega
      case rel=>exact ⟨j+1,by omega,rfl,by go_num,own_less ho7 hb5.size,hb5.trans (hB7.mono hb5.size)⟩
    ·obtain rfl:j=L.length:=by omega
     rw[List.take_length] at ho hFl
     have hkw:keepW T ((⟨x0,x1,x2,x3,x4,x5,x6,x7,x8⟩:WayN),L)=(decide (0<(resHops T L).length) || decide (L.length=0)):=rfl
     obtain ⟨F,hF⟩:∃ F,F=resHops T L:=⟨_,rfl⟩
     rw[←hF] at ho hFl hkw
     obtain ⟨-,fA,fc,rfl,-⟩:=id (Sl.of_own ho)
     have htk2:resP T (R.take (k+1))=resP T (R.take k)++(if (decide (0<F.length) || decide (L.length=0))=true then [((⟨x0,x1,x2,x3,x4,x5,x6,x7,x8⟩:WayN),F)] else []):=by
      rw[htk.out,hkw,←hF]
     replace htk2:=h'd htk2
     clear htk hkw
     replace hF:=h'd hF
     have hI3:=hI2.call hb3
     have k73:=k7.below hb3 hl7
     have d9:=k73.cell 9
     have f9:=k73.free 9
     simp only[q'a,q'z,q's] at d9
     by_cases hkeep:0<F.length∨L.length=0
     ·have hif:(decide (0<F.length) || decide (L.length=0))=true:=by
       rcases hkeep with h | h
       ·rw[d't h];rfl
       ·rw[d't h];simp
      have hsn:resP T (R.take (k+1))=resP T (R.take k)++[((⟨x0,x1,x2,x3,x4,x5,x6,x7,x8⟩:WayN),F)]:=by rw[htk2.out,if_pos hif]
      replace hsn:=h'd hsn
      clear htk2 hif
      have TAIL:Hid True:=trivial
      rcases hkeep with hkeep | hkeep
      ·have i0:(0:Int)<(F.length:Int):=by omega
       go_upto_region 16 with fail
       have k74:Blk (w3.setCell ⟨w1.heap.size,9,none⟩ (.slice fA F.length fc)) w1.heap.size 48 #[.int .u32 x0,.int .u8 x1,.int .u32 x2,.int .u8 x3,.int .u8 x4,.int .u32 x5,.int .u32 x6,.int .u32 x7,.int .u32 x8,.slice fA F.length fc]:=k73.set_ 9 _
       have hI4:=hI3.grown (far_grown w3 ⟨w1.heap.size,9,none⟩ (.slice fA F.length fc)) (fun bb e=>by
        simp only[o'j] at e
        subst e
        exact ⟨hz1,fun e2=>absurd (hvb _ e2) (Nat.lt_irrefl _),_,k73⟩)
       have ho4:=own_far ho (p:=⟨w1.heap.size,9,none⟩) (by show w1.heap.size<w2.heap.size;omega) (.slice fA F.length fc)
       clear k73 d9 f9 hI3 ho
       generalize w3.setCell ⟨w1.heap.size,9,none⟩ (.slice fA F.length fc)=w4 at *
       have y0:=k74.cell 0
       have y1:=k74.cell 1
       have y2:=k74.cell 2
       have y3:=k74.cell 3
       have y4:=k74.cell 4
       have y5:=k74.cell 5
       have y6:=k74.cell 6
       have y7:=k74.cell 7
       have y8:=k74.cell 8
       have y9:=k74.cell 9
       simp only[q'a,q'z,q's] at y0 y1 y2 y3 y4 y5 y6 y7 y8 y9
       have hI5:=hI4.alloc (.cells #[.int .u32 x0,.int .u8 x1,.int .u32 x2,.int .u8 x3,.int .u8 x4,.int .u32 x5,.int .u32 x6,.int .u32 x7,.int .u32 x8,.slice fA F.length fc] 48)
       have hz4:=hI4.below.size
       go_wp2_with (at_builtin;refine wpList_append rfl (.tmp 48) (.tmp 50) 36 rfl w.heap.size wayT u5 xs.length (xs.flatMap yL) rfl hI5.own _ _ 1 [.int .u32 x0,.int .u8 x1,.int .u32 x2,.int .u8 x3,.int .u8 x4,.int .u32 x5,.int .u32 x6,.int .u32 x7,.int .u32 x8,.slice fA F.length fc] rfl (Sl.lit w4 #[.int .u32 x0,.int .u8 x1,.int .u32 x2,.int .u8 x3,.int .u8 x4,.int .u32 x5,.int .u32 x6,.int .u32 x7,.int .u32 x8,.slice fA F.length fc] 48 (by simp[maxLen]) rfl) (by simp[Value.oneCell']) (by simp only[maxLen];omega) (by omega) (by simp;omega) ?_;intro v7 w7 ho7 hg7 hob7)
       go_roundg (lw.length-(k+1))
       case measure=>omega
       case rel =>
        refine ⟨k+1,xs++[((⟨⟨x0,x1,x2,x3,x4,x5,x6,x7,x8⟩,fA,F.length,fc⟩,F):WayY)],by omega,rfl,by go_num,by simp;omega,by rw[gOf_snoc,hgx.out,hsn.out],hI5.grow rfl (own_less (own_alloc ho4 _) (by omega)) ?_ hg7⟩
        rw[l'a,List.flatMap_append]
        exact ho7
      ·by_cases hF0:0<F.length
       ·have i0:(0:Int)<(F.length:Int):=by omega
        go_upto_region 16 with fail
        have k74:Blk (w3.setCell ⟨w1.heap.size,9,none⟩ (.slice fA F.length fc)) w1.heap.size 48 #[.int .u32 x0,.int .u8 x1,.int .u32 x2,.int .u8 x3,.int .u8 x4,.int .u32 x5,.int .u32 x6,.int .u32 x7,.int .u32 x8,.slice fA F.length fc]:=k73.set_ 9 _
        have hI4:=hI3.grown (far_grown w3 ⟨w1.heap.size,9,none⟩ (.slice fA F.length fc)) (fun bb e=>by
         simp only[o'j] at e
         subst e
         exact ⟨hz1,fun e2=>absurd (hvb _ e2) (Nat.lt_irrefl _),_,k73⟩)
        have ho4:=own_far ho (p:=⟨w1.heap.size,9,none⟩) (by show w1.heap.size<w2.heap.size;omega) (.slice fA F.length fc)
        clear k73 d9 f9 hI3 ho
        generalize w3.setCell ⟨w1.heap.size,9,none⟩ (.slice fA F.length fc)=w4 at *
        have y0:=k74.cell 0
        have y1:=k74.cell 1
        have y2:=k74.cell 2
        have y3:=k74.cell 3
        have y4:=k74.cell 4
        have y5:=k74.cell 5
        have y6:=k74.cell 6
        have y7:=k74.cell 7
        have y8:=k74.cell 8
        have y9:=k74.cell 9
        simp only[q'a,q'z,q's] at y0 y1 y2 y3 y4 y5 y6 y7 y8 y9
        have hI5:=hI4.alloc (.cells #[.int .u32 x0,.int .u8 x1,.int .u32 x2,.int .u8 x3,.int .u8 x4,.int .u32 x5,.int .u32 x6,.int .u32 x7,.int .u32 x8,.slice fA F.length fc] 48)
        have hz4:=hI4.below.size
        go_wp2_with (at_builtin;refine wpList_append rfl (.tmp 48) (.tmp 50) 36 rfl w.heap.size wayT u5 xs.length (xs.flatMap yL) rfl hI5.own _ _ 1 [.int .u32 x0,.int .u8 x1,.int .u32 x2,.int .u8 x3,.int .u8 x4,.int .u32 x5,.int .u32 x6,.int .u32 x7,.int .u32 x8,.slice fA F.length fc] rfl (Sl.lit w4 #[.int .u32 x0,.int .u8 x1,.int .u32 x2,.int .u8 x3,.int .u8 x4,.int .u32 x5,.int .u32 x6,.int .u32 x7,.int .u32 x8,.slice fA F.length fc] 48 (by simp[maxLen]) rfl) (by simp[Value.oneCell']) (by simp only[maxLen];omega) (by omega) (by simp;omega) ?_;intro v7 w7 ho7 hg7 hob7)
        go_roundg (lw.length-(k+1))
        case measure=>omega
        case rel =>
         refine ⟨k+1,xs++[((⟨⟨x0,x1,x2,x3,x4,x5,x6,x7,x8⟩,fA,F.length,fc⟩,F):WayY)],by omega,rfl,by go_num,by simp;omega,by rw[gOf_snoc,hgx.out,hsn.out],hI5.grow rfl (own_less (own_alloc ho4 _) (by omega)) ?_ hg7⟩
         rw[l'a,List.flatMap_append]
         exact ho7
       ·have i0:¬ (0:Int)<(F.length:Int):=by omega
        have i1:(L.length:Int)=0:=by omega
        go_upto_region 16 with fail
        have k74:Blk (w3.setCell ⟨w1.heap.size,9,none⟩ (.slice fA F.length fc)) w1.heap.size 48 #[.int .u32 x0,.int .u8 x1,.int .u32 x2,.int .u8 x3,.int .u8 x4,.int .u32 x5,.int .u32 x6,.int .u32 x7,.int .u32 x8,.slice fA F.length fc]:=k73.set_ 9 _
        have hI4:=hI3.grown (far_grown w3 ⟨w1.heap.size,9,none⟩ (.slice fA F.length fc)) (fun bb e=>by
         simp only[o'j] at e
         subst e
         exact ⟨hz1,fun e2=>absurd (hvb _ e2) (Nat.lt_irrefl _),_,k73⟩)
        have ho4:=own_far ho (p:=⟨w1.heap.size,9,none⟩) (by show w1.heap.size<w2.heap.size;omega) (.slice fA F.length fc)
        clear k73 d9 f9 hI3 ho
        generalize w3.setCell ⟨w1.heap.size,9,none⟩ (.slice fA F.length fc)=w4 at *
        have y0:=k74.cell 0
        have y1:=k74.cell 1
        have y2:=k74.cell 2
        have y3:=k74.cell 3
        have y4:=k74.cell 4
        have y5:=k74.cell 5
        have y6:=k74.cell 6
        have y7:=k74.cell 7
        have y8:=k74.cell 8
        have y9:=k74.cell 9
        simp only[q'a,q'z,q's] at y0 y1 y2 y3 y4 y5 y6 y7 y8 y9
        have hI5:=hI4.alloc (.cells #[.int .u32 x0,.int .u8 x1,.int .u32 x2,.int .u8 x3,.int .u8 x4,.int .u32 x5,.int .u32 x6,.int .u32 x7,.int .u32 x8,.slice fA F.length fc] 48)
        have hz4:=hI4.below.size
        go_wp2_with (at_builtin;refine wpList_append rfl (.tmp 48) (.tmp 50) 36 rfl w.heap.size wayT u5 xs.length (xs.flatMap yL) rfl hI5.own _ _ 1 [.int .u32 x0,.int .u8 x1,.int .u32 x2,.int .u8 x3,.int .u8 x4,.int .u32 x5,.int .u32 x6,.int .u32 x7,.int .u32 x8,.slice fA F.length fc] rfl (Sl.lit w4 #[.int .u32 x0,.int .u8 x1,.int .u32 x2,.int .u8 x3,.int .u8 x4,.int .u32 x5,.int .u32 x6,.int .u32 x7,.int .u32 x8,.slice fA F.length fc] 48 (by simp[maxLen]) rfl) (by simp[Value.oneCell']) (by simp only[maxLen];omega) (by omega) (by simp;omega) ?_;intro v7 w7 ho7 hg7 hob7)
        go_roundg (lw.length-(k+1))
        case measure=>omega
        case rel =>
         refine ⟨k+1,xs++[((⟨⟨x0,x1,x2,x3,x4,x5,x6,x7,x8⟩,fA,F.length,fc⟩,F):WayY)],by omega,rfl,by go_num,by simp;omega,by rw[gOf_snoc,hgx.out,hsn.out],hI5.grow rfl (own_less (own_alloc ho4 _) (by omega)) ?_ hg7⟩
         rw[l'a,List.flatMap_append]
         exact ho7
     ·have hif:(decide (0<F.length) || decide (L.length=0))=false:=by
       rw[d'f (fun h=>hkeep (.inl h)),d'f (fun h=>hkeep (.inr h))];rfl
      have hsn:resP T (R.take (k+1))=resP T (R.take k):=by rw[htk2.out,hif];simp
      replace hsn:=h'd hsn
      have i0:decide (0<F.length)=false:=d'f (fun h=>hkeep (.inl h))
      have i1:((L.length:Int)==0)=false:=beq_eq_false_iff_ne.2 (fun h=>hkeep (.inr (by omega)))
      have i2:¬ (L.length:Int)=0:=fun h=>hkeep (.inr (by omega))
      clear htk2 hif
      go_wp2_with fail
      go_roundg (lw.length-(k+1))
      case measure=>omega
      case rel=>exact ⟨k+1,xs,by omega,rfl,by go_num,by omega,by rw[hgx.out,hsn.out],hI3⟩
  ·obtain rfl:k=lw.length:=by omega
   rw[hlw.out,List.take_length] at hgx
   go_wp2_with fail
   go_ret
   exact ⟨_,xs,rfl,hgx,hI⟩
theorem own_blockW {W:World} {base n s:Nat} {t:TypeId} {v:Value} {xs:List Value} (h:W.ownsRow base t s v n xs):∀ b,v.ownBlock=some b→base≤b∧∃ cs,Blk W b t cs:=fun b hb=>by
 refine ⟨(h.lt b hb).1,?_⟩
 rcases h.2 with h' | ⟨g',cap,cur,hv,_,hh,_⟩
 ·rw[h'.1] at hb
  cases hb
 ·rw[hv] at hb
  simp only[Value.ownBlock,o'j] at hb
  subst hb
  exact ⟨cur,hh⟩
theorem splice_lastW (l:List WayY):∀ (i:Nat) (hi:i<l.length) (y:WayY),(yL y).take 9=(yL l[i]).take 9→splice (l.flatMap yL) (i*10+9) ((yL y).drop 9)=(l.set i y).flatMap yL:=by
 induction l with
 | nil=>intro i hi;cases hi
 | cons x r ih =>
  intro i hi y he
  have hx:(yL x).length=10:=yE.len x
  have hy:(yL y).length=10:=yE.len y
  have hd:((yL y).drop 9).length=1:=by rw[List.length_drop,hy]
  cases i with
  | zero =>
   simp only[List.getElem_cons_zero] at he
   simp only[List.flatMap_cons,s'z,splice,Nat.zero_mul,Nat.zero_add,hd]
   have e1:(yL x).drop (9+1)=[]:=List.drop_of_length_le (by rw[hx];omega)
   rw[List.take_append_of_le_length (by rw[hx];omega),←he,List.drop_append_of_le_length (by rw[hx];omega),e1,List.nil_append,←List.append_assoc,List.take_append_drop]
  | succ i =>
   have hi2:i<r.length:=by simpa using hi
   simp only[List.getElem_cons_succ] at he
   have h1:=ih i hi2 y he
   simp only[List.flatMap_cons,s's]
   rw[←h1]
   unfold splice
   rw[show (i+1)*10+9=(yL x).length+(i*10+9) by rw[hx];omega,Nat.add_assoc,List.take_length_add_append,List.drop_length_add_append,List.append_assoc]
def unv (h:Hop):Hop:=(h.1,h.2.1,false)
def flH (l:List Hop):List Hop:=resHops [] (l.map unv)
def flG (g:WayG):WayG:=(g.1,flH g.2)
theorem flH_take (l:List Hop) (j:Nat) (hj:j<l.length):flH (l.take (j+1))=puts (flH (l.take j)) [unv l[j]]:=by
 unfold flH
 rw[List.map_take,List.map_take,resHops_take _ _ _ (by simpa using hj),List.getElem_map]
 rfl
theorem flH_len (l:List Hop):(flH l).length≤l.length:=by
 have:=resHops_len (T:=[]) (m:=1) (fun t ht=>(by cases ht)) (n'r _) (l.map unv)
 unfold flH
 simpa using this
theorem resHops_in (m:List Hop) (hm:∀ h∈m,h.2.2=false):∀ h∈resHops [] m,h∈m:=by
 obtain ⟨n,hn⟩:∃ n,m.length=n:=⟨_,rfl⟩
 induction n generalizing m with
 | zero=>intro h hh;rw[List.length_eq_zero_iff.1 hn] at hh;cases hh
 | succ n ih =>
  intro h hh
  rcases List.eq_nil_or_concat m with rfl | ⟨t,s,rfl⟩
  ·cases hh
  ·rw[List.concat_eq_append] at hn hm hh ⊢
   rw[resHops_snoc] at hh
   rcases mem_puts.1 hh with h1 | h1
   ·exact List.mem_append.2 (.inl (ih t (fun x hx=>hm x (by simp[hx])) (by simpa using hn) h h1))
   ·unfold oneP at h1
    rw[if_neg (by rw[hm s (by simp)];simp)] at h1
    exact List.mem_append.2 (.inr h1)
theorem flG_ok (g:WayG):Sorted (flG g).2∧∀ h∈(flG g).2,h.2.2=false:=by
 refine ⟨resHops_sorted _ _,fun h hh => ?_⟩
 have hv:∀ x∈g.2.map unv,x.2.2=false:=fun x hx=>by
  obtain ⟨y,-,rfl⟩:=List.mem_map.1 hx
  rfl
 exact hv h (resHops_in _ hv h hh)
theorem res_fl (T R:List WayG):resP T (R.map flG)=R.map flG:=resP_plain T fun g hg=>by
 obtain ⟨x,-,rfl⟩:=List.mem_map.1 hg
 exact flG_ok x
def flTo (R:List WayG) (k:Nat):List WayG:=(R.take k).map flG++R.drop k
theorem flTo_zero (R:List WayG):flTo R 0=R:=by simp[flTo]
theorem flTo_all (R:List WayG):flTo R R.length=R.map flG:=by simp[flTo]
theorem flTo_get (R:List WayG) (k:Nat) (hk:k<R.length):(flTo R k)[k]?=some R[k]:=by
 unfold flTo
 rw[List.getElem?_append_right (by simp[Nat.min_def];split <;> omega)]
 simp[Nat.min_eq_left (Nat.le_of_lt hk),List.getElem?_drop,List.getElem?_eq_getElem hk]
theorem flTo_set (R:List WayG) (k:Nat) (hk:k<R.length):(flTo R k).set k (flG R[k])=flTo R (k+1):=by
 unfold flTo
 have hl:((R.take k).map flG).length=k:=by simp;omega
 rw[List.set_append_right _ _ (by omega),hl,Nat.sub_self,List.drop_eq_getElem_cons hk,s'z,t'k hk,List.map_append,List.append_assoc]
 rfl
theorem ImpR.ways {w0 wr:World} {xs:List WayY} {v:Value} (h:ImpR w0 xs v wr):WaysIn wr wr.heap.size v (gOf xs) (xs.map (·.1)):=by
 have h1:=Sl.of_own h.own
 refine ⟨?_,?_,fun k hk hk2 => ?_⟩
 ·rw[List.length_map,List.flatMap_map]
  exact h1
 ·simp[gOf]
 ·simp only[List.getElem_map,gOf]
  exact Sl.of_own (h.hops _ (g'm (by simpa using hk)))
theorem gOf_get {xs:List WayY} {R:List WayG} (h:gOf xs=R) {k:Nat} (hk:k<xs.length) (g:WayG) (hg:R[k]?=some g):xs[k].1.n=g.1∧xs[k].2=g.2:=by
 have:=congrArg (fun l=>l[k]?) h
 simp only[gOf,List.getElem?_map,List.getElem?_eq_getElem hk,Option.map_some,hg,o'j] at this
 rw[←this]
 exact ⟨rfl,rfl⟩
end Go.Proofs.YtcknpofnpabkiaaGreat
