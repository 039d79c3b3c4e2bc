/- lodestarlaw16.eq answers true at graphs that are the same. Conditions: both lie in memory. -/
import Derived.Test.YtcknpofnpabkiaaGreatGzBM
import Derived.Test.YtcknpofnpabkiaaGreatGzBS
set_option maxRecDepth 100000
namespace Go.Proofs.YtcknpofnpabkiaaGreat
open Go.RowKit Go.Lo
theorem neq_preQ (a b:Int) (w:World):(binOp .neq 45 (.agg #[.int .u32 a,.int .u8 b]) (.agg #[.int .u32 a,.int .u8 b])).run Tryz.prog w=.ok (.bool false) w:=by
 rw[run_neq_struct,run_equalIn_agg _ _ _ _ _ (by kernel_rfl) (by kernel_rfl)]
 go_simp
theorem neq_edgQ (a b c:Int) (d:Bool) (w:World):(binOp .neq 65 (.agg #[.int .i64 a,.int .u32 b,.int .u32 c,.bool d]) (.agg #[.int .i64 a,.int .u32 b,.int .u32 c,.bool d])).run Tryz.prog w=.ok (.bool false) w:=by
 rw[run_neq_struct,run_equalIn_agg _ _ _ _ _ (by kernel_rfl) (by kernel_rfl)]
 go_simp
theorem neq_stuQ (a b c:Int) (w:World):(binOp .neq 107 (.agg #[.int .u32 a,.int .u8 b,.int .u32 c]) (.agg #[.int .u32 a,.int .u8 b,.int .u32 c])).run Tryz.prog w=.ok (.bool false) w:=by
 rw[run_neq_struct,run_equalIn_agg _ _ _ _ _ (by kernel_rfl) (by kernel_rfl)]
 go_simp
set_option maxHeartbeats 8000000 in
theorem eq16_any (b1 b2:Nat) (av dv:Value) (ra rd:List NodR) (w:World) (hA:GrO w b1 av ra) (hD:GrD w b2 dv rd) (h:ra.map (·.n)=rd.map (·.n)) :
  Calls Tryz.prog 14 #[av,dv] w fun e w'=>e=.returned (.bool true)∧Below w.heap.size w w':=by
 have hmix:(Tryz.prog).follows .mixedOrders=true:=by kernel_rfl
 have hl:rd.length=ra.length:=by have:=congrArg List.length h;simpa using this.symm
 have hmax:=own_max hA.nods
 have hel:=fun r hr=>own_max (hA.edges r hr)
 have hsl:=fun r hr=>own_max (hA.stubs r hr)
 have hAo:=Sl.of_own hA.nods
 have hDo:=Sl.of_own hD.nods
 have hAe:=fun r hr=>Sl.of_own (hA.edges r hr)
 have hAs:=fun r hr=>Sl.of_own (hA.stubs r hr)
 have hDe:=fun r hr=>Sl.of_own (hD.edges r hr)
 have hDs:=fun r hr=>Sl.of_own (hD.stubs r hr)
 have hnn:∀ i (h1:i<ra.length) (h2:i<rd.length),rd[i].n=ra[i].n:=by
  intro i h1 h2
  have:=congrArg (·[i]?) h
  simpa[h1,h2] using this.symm
 obtain ⟨-,A,ac,rfl,-⟩:=id hAo
 obtain ⟨-,D,dc,rfl,-⟩:=id hDo
 rw[hl]
 clear h hA hD
 replace hl:=h'd hl
 replace hel:=h'd hel
 replace hsl:=h'd hsl
 replace hAo:=h'd hAo
 replace hDo:=h'd hDo
 replace hAe:=h'd hAe
 replace hAs:=h'd hAs
 replace hDe:=h'd hDe
 replace hDs:=h'd hDs
 replace hnn:=h'd hnn
 go_enter Tryz.func14,Tryz.ntmps14
 go_upto_region 4 with fail
 go_loopg [5] ra.length (fun m u wr=>∃ i:Nat,i≤ra.length∧m=ra.length-i∧u=.int .i64 i∧Below w.heap.size w wr)
 case atStart=>exact ⟨0,Nat.zero_le _,rfl,rfl,Below.refl _ _⟩
 case round =>
  obtain ⟨i,hi,rfl,rfl,hBi⟩:=hrel
  obtain ⟨w4,rfl⟩:∃ x:World,x=wr:=⟨_,rfl⟩
  by_cases hil:i<ra.length
  ·have hid:i<rd.length:=by rw[hl.out];exact hil
   obtain ⟨ab,ao,rfl,hab,har⟩:=Sl.row nodC_len (hAo.out.below hBi) hil
   obtain ⟨db,d0,rfl,hdb,hdr⟩:=Sl.row nodC_len (hDo.out.below hBi) hid
   have ii:(i:Int)<(ra.length:Int):=by omega
   obtain ⟨iz,hiz⟩:∃ z:Int,z=(i:Int)+1:=⟨_,rfl⟩
   have wi:wrap64 ((i:Int)+1)=iz:=by unfold wrap64;omega
   replace hiz:=h'd hiz
   have hni:=hnn.out i hil hid
   have heA:=hAe.out _ (List.getElem_mem hil)
   have hsA:=hAs.out _ (List.getElem_mem hil)
   have heD:=hDe.out _ (List.getElem_mem hid)
   have hsD:=hDs.out _ (List.getElem_mem hid)
   have hem:=hel.out _ (List.getElem_mem hil)
   have hsm:=hsl.out _ (List.getElem_mem hil)
   obtain ⟨r,hr⟩:∃ r,r=ra[i]:=⟨_,rfl⟩
   obtain ⟨s,hs⟩:∃ s,s=rd[i]:=⟨_,rfl⟩
   rw[←hr,←hs] at hni
   rw[←hr] at har heA hsA hem hsm
   rw[←hs] at hdr heD hsD
   clear hr hs
   obtain ⟨rn,rev,rsv⟩:=r
   obtain ⟨sn,sev,ssv⟩:=s
   simp only at hni heA hsA heD hsD hem hsm
   subst hni
   obtain ⟨x0,x1,x2,x3,x4,es,ss⟩:=sn
   simp only at heA hsA heD hsD hem hsm
   obtain ⟨-,eA,ec,rfl,-⟩:=id heA
   obtain ⟨-,sA,sc,rfl,-⟩:=id hsA
   obtain ⟨-,fA,fc,rfl,-⟩:=id heD
   obtain ⟨-,tA,tc,rfl,-⟩:=id hsD
   have hrA:w4.rangeAt ab (ao+i*7) [.bool x0,.int .u32 x1,.int .u32 x2,.int .u8 x3,.int .u8 x4,.slice eA es.length ec,.slice sA ss.length sc]:=har
   have hrD:w4.rangeAt db (d0+i*7) [.bool x0,.int .u32 x1,.int .u32 x2,.int .u8 x3,.int .u8 x4,.slice fA es.length fc,.slice tA ss.length tc]:=hdr
   have hab4:ab<w4.heap.size:=Nat.lt_of_lt_of_le hab hBi.size
   have hdb4:db<w4.heap.size:=Nat.lt_of_lt_of_le hdb hBi.size
   clear har hdr
   replace heA:=h'd heA
   replace hsA:=h'd hsA
   replace heD:=h'd heD
   replace hsD:=h'd hsD
   go_upto_region 7 with (refine wpList_load_mid rfl 63 (.tmp 24) rfl ab (ao+i*7) rfl [.bool x0,.int .u32 x1,.int .u32 x2,.int .u8 x3,.int .u8 x4,.slice eA es.length ec,.slice sA ss.length sc] _ hrA Tryz.underlying63 rfl (by kernel_rfl) ?_)
   have k6:=Blk.new w4 63 #[.bool x0,.int .u32 x1,.int .u32 x2,.int .u8 x3,.int .u8 x4,.slice eA es.length ec,.slice sA ss.length sc]
   have kB6:Below w4.heap.size w4 (w4.alloc (.cells #[.bool x0,.int .u32 x1,.int .u32 x2,.int .u8 x3,.int .u8 x4,.slice eA es.length ec,.slice sA ss.length sc] 63)):=(Below.refl _ _).alloc (Nat.le_refl _) _
   generalize w4.alloc (.cells #[.bool x0,.int .u32 x1,.int .u32 x2,.int .u8 x3,.int .u8 x4,.slice eA es.length ec,.slice sA ss.length sc] 63)=w5 at k6 kB6 ⊢
   obtain ⟨g6,hg6⟩:∃ x,x=w4.heap.size:=⟨_,rfl⟩
   rw[←hg6] at k6 ⊢
   replace hg6:=h'd hg6
   have hrD5:w5.rangeAt db (d0+i*7) [.bool x0,.int .u32 x1,.int .u32 x2,.int .u8 x3,.int .u8 x4,.slice fA es.length fc,.slice tA ss.length tc]:=fun q u hq=>(kB6.cell (p:=⟨db,d0+i*7+q,none⟩) hdb4).trans (hrD q u hq)
   have hB5:Below w.heap.size w w5:=hBi.trans (kB6.mono hBi.size)
   clear hrA hrD kB6
   go_upto_region 8 with (refine wpList_load_mid rfl 95 (.tmp 28) rfl db (d0+i*7) rfl [.bool x0,.int .u32 x1,.int .u32 x2,.int .u8 x3,.int .u8 x4,.slice fA es.length fc,.slice tA ss.length tc] _ hrD5 Tryz.underlying95 rfl (by kernel_rfl) ?_)
   have k7:=Blk.new w5 95 #[.bool x0,.int .u32 x1,.int .u32 x2,.int .u8 x3,.int .u8 x4,.slice fA es.length fc,.slice tA ss.length tc]
   have kB7:Below w5.heap.size w5 (w5.alloc (.cells #[.bool x0,.int .u32 x1,.int .u32 x2,.int .u8 x3,.int .u8 x4,.slice fA es.length fc,.slice tA ss.length tc] 95)):=(Below.refl _ _).alloc (Nat.le_refl _) _
   generalize w5.alloc (.cells #[.bool x0,.int .u32 x1,.int .u32 x2,.int .u8 x3,.int .u8 x4,.slice fA es.length fc,.slice tA ss.length tc] 95)=w6 at k7 kB7 ⊢
   obtain ⟨g7,hg7⟩:∃ x,x=w5.heap.size:=⟨_,rfl⟩
   rw[←hg7] at k7 ⊢
   replace hg7:=h'd hg7
   have k6:=k6.below kB7 k6.lt
   have hB6:Below w.heap.size w w6:=hB5.trans (kB7.mono hB5.size)
   have u0:=k6.cell 0
   have u1:=k6.cell 1
   have u2:=k6.cell 2
   have u3:=k6.cell 3
   have u4:=k6.cell 4
   have u5:=k6.cell 5
   have u6:=k6.cell 6
   have v0:=k7.cell 0
   have v1:=k7.cell 1
   have v2:=k7.cell 2
   have v3:=k7.cell 3
   have v4:=k7.cell 4
   have v5:=k7.cell 5
   have v6:=k7.cell 6
   simp only[q'a,q'z,q's] at u0 u1 u2 u3 u4 u5 u6 v0 v1 v2 v3 v4 v5 v6
   have np:=fun W=>neq_preQ x2 x3 W
   have n0:(x0 != x0)=false:=by simp
   have n1:(x1 != x1)=false:=by simp
   have n4:(x4 != x4)=false:=by simp
   have n5:((es.length:Int) != (es.length:Int))=false:=by simp
   have n6:((ss.length:Int) != (ss.length:Int))=false:=by simp
   clear hrD5 kB7 hB5
   go_upto_region 11 with fail
   clear u0 u1 u2 u3 u4 v0 v1 v2 v3 v4 np n0 n1 n4 n5 n6
   have k6l:=k6.lt
   have k7l:=k7.lt
   go_loopg [8] es.length (fun m u wr=>∃ k:Nat,k≤es.length∧m=es.length-k∧u=.int .i64 k∧Below w6.heap.size w6 wr)
   case atStart=>exact ⟨0,Nat.zero_le _,rfl,rfl,Below.refl _ _⟩
   case round =>
    obtain ⟨k,hk,rfl,rfl,hBk⟩:=hrel
    obtain ⟨w7,rfl⟩:∃ x:World,x=wr:=⟨_,rfl⟩
    have p5:=(hBk.cell (p:=⟨g6,5,none⟩) k6l).trans u5
    have q5:=(hBk.cell (p:=⟨g7,5,none⟩) k7l).trans v5
    by_cases hkl:k<es.length
    ·have hB7:Below w.heap.size w w7:=hB6.trans (hBk.mono hB6.size)
     obtain ⟨eb,eo,rfl,heb,her⟩:=Sl.row (f:=edgeC) (s:=4) (fun _=>rfl) (heA.out.below hB7) hkl
     obtain ⟨fb,fo,rfl,hfb,hfr⟩:=Sl.row (f:=edgeC) (s:=4) (fun _=>rfl) (heD.out.below hB7) hkl
     have kk:(k:Int)<(es.length:Int):=by omega
     obtain ⟨kz,hkz⟩:∃ z:Int,z=(k:Int)+1:=⟨_,rfl⟩
     have wk:wrap64 ((k:Int)+1)=kz:=by unfold wrap64;omega
     replace hkz:=h'd hkz
     have heb7:eb<w7.heap.size:=Nat.lt_of_lt_of_le heb hB7.size
     obtain ⟨e,he⟩:∃ e,e=es[k]:=⟨_,rfl⟩
     rw[←he] at her hfr
     clear he
     obtain ⟨y0,y1,y2,y3⟩:=e
     have hfg:w7.rangeAt fb (fo+k*4) [.int .i64 y0,.int .u32 y1,.int .u32 y2,.bool y3]:=hfr
     have s0:w7.cell? ⟨eb,eo+k*4,none⟩=some (.int .i64 y0):=her 0 _ rfl
     have s1:w7.cell? ⟨eb,eo+k*4+1,none⟩=some (.int .u32 y1):=her 1 _ rfl
     have s2:w7.cell? ⟨eb,eo+k*4+2,none⟩=some (.int .u32 y2):=her 2 _ rfl
     have s3:w7.cell? ⟨eb,eo+k*4+3,none⟩=some (.bool y3):=her 3 _ rfl
     clear her hfr
     go_upto_region 14 with (refine wpList_load_mid rfl 106 (.tmp 84) rfl fb (fo+k*4) rfl [.int .i64 y0,.int .u32 y1,.int .u32 y2,.bool y3] _ hfg Tryz.underlying106 rfl (by kernel_rfl) ?_)
     have k9:=Blk.new w7 106 #[.int .i64 y0,.int .u32 y1,.int .u32 y2,.bool y3]
     have kB9:Below w7.heap.size w7 (w7.alloc (.cells #[.int .i64 y0,.int .u32 y1,.int .u32 y2,.bool y3] 106)):=(Below.refl _ _).alloc (Nat.le_refl _) _
     have k6l7:g6<w7.heap.size:=Nat.lt_of_lt_of_le k6l hBk.size
     have hz7:=hBk.size
     generalize w7.alloc (.cells #[.int .i64 y0,.int .u32 y1,.int .u32 y2,.bool y3] 106)=w8 at k9 kB9 ⊢
     have p5:=(kB9.cell (p:=⟨g6,5,none⟩) k6l7).trans p5
     have s0:=(kB9.cell (p:=⟨eb,eo+k*4,none⟩) heb7).trans s0
     have s1:=(kB9.cell (p:=⟨eb,eo+k*4+1,none⟩) heb7).trans s1
     have s2:=(kB9.cell (p:=⟨eb,eo+k*4+2,none⟩) heb7).trans s2
     have s3:=(kB9.cell (p:=⟨eb,eo+k*4+3,none⟩) heb7).trans s3
     have hB8:Below w6.heap.size w6 w8:=hBk.trans (kB9.mono hz7)
     obtain ⟨g9,hg9⟩:∃ x,x=w7.heap.size:=⟨_,rfl⟩
     rw[←hg9] at k9 ⊢
     replace hg9:=h'd hg9
     have m0:=k9.cell 0
     have m1:=k9.cell 1
     have m2:=k9.cell 2
     have m3:=k9.cell 3
     simp only[q'a,q'z,q's] at m0 m1 m2 m3
     have nq:=fun W=>neq_edgQ y0 y1 y2 y3 W
     clear k9 kB9 hfg q5 hBk hB7 k6 k7
     go_quiet (fail)
     go_wp2
     go_roundg (es.length-(k+1))
     case measure=>omega
     case rel=>exact ⟨k+1,by omega,rfl,by go_num,below_drewN hB8 _⟩
    ·obtain rfl:k=es.length:=by omega
     have hB7:Below w.heap.size w w7:=hB6.trans (hBk.mono hB6.size)
     have hz7:=hB7.size
     have p6:=(hBk.cell (p:=⟨g6,6,none⟩) k6l).trans u6
     have q6:=(hBk.cell (p:=⟨g7,6,none⟩) k7l).trans v6
     have g6w:g6<w7.heap.size:=Nat.lt_of_lt_of_le k6l hBk.size
     have g7w:g7<w7.heap.size:=Nat.lt_of_lt_of_le k7l hBk.size
     clear u5 u6 v5 v6 k6 k7
     go_upto_region 17 with fail
     go_loopg [10] ss.length (fun m u wr=>∃ k:Nat,k≤ss.length∧m=ss.length-k∧u=.int .i64 k∧Below w7.heap.size w7 wr)
     case atStart=>exact ⟨0,Nat.zero_le _,rfl,rfl,Below.refl _ _⟩
     case round =>
      obtain ⟨k,hk,rfl,rfl,hBs⟩:=hrel
      obtain ⟨w8,rfl⟩:∃ x:World,x=wr:=⟨_,rfl⟩
      have p6:=(hBs.cell (p:=⟨g6,6,none⟩) g6w).trans p6
      have q6:=(hBs.cell (p:=⟨g7,6,none⟩) g7w).trans q6
      by_cases hkl:k<ss.length
      ·have hB8:Below w.heap.size w w8:=hB7.trans (hBs.mono hz7)
       obtain ⟨eb,eo,rfl,heb,her⟩:=Sl.row (f:=stubC) (s:=3) (fun _=>rfl) (hsA.out.below hB8) hkl
       obtain ⟨fb,fo,rfl,hfb,hfr⟩:=Sl.row (f:=stubC) (s:=3) (fun _=>rfl) (hsD.out.below hB8) hkl
       have kk:(k:Int)<(ss.length:Int):=by omega
       obtain ⟨kz,hkz⟩:∃ z:Int,z=(k:Int)+1:=⟨_,rfl⟩
       have wk:wrap64 ((k:Int)+1)=kz:=by unfold wrap64;omega
       replace hkz:=h'd hkz
       obtain ⟨e,he⟩:∃ e,e=ss[k]:=⟨_,rfl⟩
       rw[←he] at her hfr
       clear he
       obtain ⟨y0,y1,y2⟩:=e
       have s0:w8.cell? ⟨eb,eo+k*3,none⟩=some (.int .u32 y0):=her 0 _ rfl
       have s1:w8.cell? ⟨eb,eo+k*3+1,none⟩=some (.int .u8 y1):=her 1 _ rfl
       have s2:w8.cell? ⟨eb,eo+k*3+2,none⟩=some (.int .u32 y2):=her 2 _ rfl
       have t0:w8.cell? ⟨fb,fo+k*3,none⟩=some (.int .u32 y0):=hfr 0 _ rfl
       have t1:w8.cell? ⟨fb,fo+k*3+1,none⟩=some (.int .u8 y1):=hfr 1 _ rfl
       have t2:w8.cell? ⟨fb,fo+k*3+2,none⟩=some (.int .u32 y2):=hfr 2 _ rfl
       have nq:=fun W=>neq_stuQ y0 y1 y2 W
       clear her hfr hB8
       go_upto_region 19 with fail
       go_quiet (fail)
       go_wp2
       go_roundg (ss.length-(k+1))
       case measure=>omega
       case rel=>exact ⟨k+1,by omega,rfl,by go_num,below_drewN hBs _⟩
      ·obtain rfl:k=ss.length:=by omega
       go_wp2
       go_roundg (ra.length-(i+1))
       case measure=>omega
       case rel=>exact ⟨i+1,by omega,rfl,by go_num,hB7.trans (hBs.mono hz7)⟩
  ·obtain rfl:i=ra.length:=by omega
   go_wp2
   go_ret
   exact ⟨rfl,hBi⟩
end Go.Proofs.YtcknpofnpabkiaaGreat
