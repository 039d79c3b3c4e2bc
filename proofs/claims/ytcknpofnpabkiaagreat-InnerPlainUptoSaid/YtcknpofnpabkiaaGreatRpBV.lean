/- lodestarlaw18's InnerPlain answers true. Conditions: the ways and their hops lie in memory. -/
import Derived.Test.YtcknpofnpabkiaaGreatRpAO
import Derived.Test.YtcknpofnpabkiaaGreatRpBU
import Derived.Test.YtcknpofnpabkiaaGreatRpAN
import Derived.Test.YtcknpofnpabkiaaGreatRpBM
set_option maxRecDepth 100000
namespace Go.Proofs.YtcknpofnpabkiaaGreat
open Go.RowKit Go.Lo
set_option maxHeartbeats 8000000 in
theorem innerPlain_any (B:Nat) (lv tv:Value) (R T:List WayG) (lw lt:List WayV) (w:World) (hR:WaysIn w B lv R lw) (hT:WaysIn w B tv T lt) (hB:B≤w.heap.size) (hRa:ArgI R) (hTa:ArgI T) (hn:lw.length≤2000000) (hn2:lt.length≤2000000) :
  Calls Tryz.prog 8 #[lv,tv] w fun e w'=>e=.returned (.bool true)∧Below w.heap.size w w':=by
 obtain ⟨-,lA,lc,rfl,-⟩:=id hR.sl
 obtain ⟨-,tA,tc,rfl,-⟩:=id hT.sl
 have CW:=h'd (fun W=>works18_any W)
 have B1:=h'd (big18_any lw _ B R w hR hB hn (fun r hr=>(hRa r hr).1) (fun r hr=>(hRa r hr).2))
 have B2:=h'd (fun W (hW:Below w.heap.size w W)=>big18_any lt _ B T W (hT.below (hW.mono hB)) (n't hB hW.size) hn2 (fun r hr=>(hTa r hr).1) (fun r hr=>(hTa r hr).2))
 have W1:=h'd (fun W (hW:Below w.heap.size w W)=>ways18_any B _ R lw W (hR.below (hW.mono hB)) (n't hB hW.size) (fun r hr=>(hRa r hr).2) hn)
 have W2:=h'd (fun W (hW:Below w.heap.size w W)=>ways18_any B _ T lt W (hT.below (hW.mono hB)) (n't hB hW.size) (fun r hr=>(hTa r hr).2) hn2)
 have hlr:=h'd hR.len
 have hltr:=h'd hT.len
 clear hR hT hRa hTa
 go_enter Tryz.func8,Tryz.ntmps8
 go_upto_region 1 with fail
 go_cut [18] (fun v wx=>∃ q:Bool,v=.bool q∧(q=false→(lw.length≤60∧∀ r∈R,r.2.length≤400∧Sorted r.2)∧lt.length≤60∧∀ r∈T,r.2.length≤400∧Sorted r.2)∧Below w.heap.size w wx)
 case first =>
  go_wp2_with (first
   | (go_at_call 25;(have _q:=hB2);refine c'm (B2.out _ hB2) ?_;rintro e w3 ⟨q3,rfl,hq3,hB3⟩)
   | (go_at_call 25;refine c'm B1.out ?_;rintro e w2 ⟨q2,rfl,hq2,hB2⟩;cases q2)
   | fail)
  ·go_meet
   case rel=>exact ⟨q3,rfl,fun h=>⟨hq2 (by first | rfl | trivial),hq3 h⟩,hB2.trans (hB3.mono hB2.size)⟩
  ·go_meet
   case rel=>exact ⟨true,rfl,fun h=>(by cases h),hB2⟩
 case rest =>
  obtain ⟨q,rfl,hq,hBc⟩:=hcut
  clear B1 B2
  cases q
  ·obtain ⟨⟨h60,hR4⟩,ht60,hT4⟩:=hq rfl
   have hRs:Hid (∀ r∈R,r.2.length≤400):=fun r hr=>(hR4 r hr).1
   have hTs:Hid (∀ r∈T,r.2.length≤400):=fun r hr=>(hT4 r hr).1
   have hTl:Hid (T.length≤60):=by have:=hltr.out;show T.length≤60;omega
   clear hR4 hT4 hq
   go_upto_region 5 with (go_at_call 26;refine c'm (W1.out wc hBc) ?_;rintro e w2 ⟨va,xs,rfl,hgx,hI⟩;obtain ⟨-,aA,ac,rfl,-⟩:=id (Sl.of_own hI.own))
   have hxl:xs.length=R.length:=by have:=congrArg List.length hgx;simpa[gOf] using this
   have hx60:xs.length≤60:=by have:=hlr.out;omega
   replace hxl:=h'd hxl
   replace hgx:=h'd hgx
   go_loopg [6] xs.length (fun m i wr=>∃ (k:Nat) (zs:List WayY),k≤xs.length∧m=xs.length-k∧i=.int .i64 k∧zs.length=xs.length∧gOf zs=flTo R k∧ImpR wc zs (.slice aA xs.length ac) wr)
   case atStart=>exact ⟨0,xs,Nat.zero_le _,rfl,rfl,rfl,by rw[flTo_zero];exact hgx.out,hI⟩
   case round =>
    obtain ⟨k,zs,hk,rfl,rfl,hzl,hgz,hJ⟩:=hrel
    obtain ⟨w3,rfl⟩:∃ x:World,x=wr:=⟨_,rfl⟩
    have hz3:=hJ.below.size
    clear hI
    by_cases hkl:k<xs.length
    ·have hkR:k<R.length:=by have:=hxl.out;omega
     have hkz:k<zs.length:=by omega
     obtain ⟨hgn,hgh⟩:=gOf_get hgz hkz R[k] (flTo_get R k hkR)
     have hset:=flTo_set R k hkR
     have hho:=hJ.hops _ (g'm hkz)
     obtain ⟨g,cap,hav,-,hbg,hgl,hfz,hrow⟩:=own_row yE.len hJ.own hkz
     simp only[Value.slice.injEq] at hav
     obtain ⟨rfl,-,rfl⟩:=hav
     have c9:=hrow 9 _ rfl
     have hRk:=hRs.out _ (g'm hkR)
     have hspl:=fun y h=>splice_lastW zs k hkz y h
     obtain ⟨L,hL⟩:∃ L,L=R[k].2:=⟨_,rfl⟩
     rw[hgh,←hL] at hho
     rw[←hL] at hRk
     obtain ⟨z,hz⟩:∃ z,z=zs[k]:=⟨_,rfl⟩
     rw[←hz] at hho c9 hgn hspl
     obtain ⟨⟨⟨x0,x1,x2,x3,x4,x5,x6,x7,x8⟩,hA,hln,hc⟩,zh⟩:=z
     dsimp only at hho hgn
     have c9:w3.cell? ⟨g,k*10+9,none⟩=some (.slice hA hln hc):=c9
     obtain rfl:=sl_lenW (Sl.of_own hho)
     have hflg:flG R[k]=((⟨x0,x1,x2,x3,x4,x5,x6,x7,x8⟩:WayN),flH L):=by rw[hgn,hL];rfl
     rw[hflg] at hset
     have hhL:=h'd (Sl.of_own hho)
     replace hset:=h'd hset
     replace hgz:=h'd hgz
     replace hspl:=h'd hspl
     replace hz:=h'd hz
     clear hrow hho hgn hgh hL hflg
     go_upto_region 9 with fail
     go_loopg [8,7] L.length (fun m i v wr=>∃ j:Nat,j≤L.length∧m=L.length-j∧i=.int .i64 j∧wr.ownsRow w3.heap.size 56 3 v (flH (L.take j)).length ((flH (L.take j)).flatMap hopCells)∧Below w3.heap.size w3 wr)
     case atStart=>exact ⟨0,Nat.zero_le _,rfl,rfl,World.ownsRow_nil _ _ _ _,b'r _ _⟩
     case round =>
      obtain ⟨j,hj,rfl,rfl,ho,hb4⟩:=hrel
      obtain ⟨w4,rfl⟩:∃ x:World,x=wr:=⟨_,rfl⟩
      have c94:=(hb4.cell (p:=⟨g,k*10+9,none⟩) hgl).trans c9
      have hz4:=hb4.size
      by_cases hjl:j<L.length
      ·obtain ⟨bh,oh,rfl,hbh,hrh⟩:=Sl.row hopCells_len (hhL.out.below hb4) hjl
       have htj:=flH_take L j hjl
       have hFl:=flH_len (L.take j)
       rw[List.length_take] at hFl
       have hps:=puts_self (resHops_sorted [] ((L.take j).map unv))
       change puts [] (flH (L.take j))=flH (L.take j) at hps
       obtain ⟨⟨a1,a2,a3⟩,ha⟩:∃ a:Hop,a=L[j]:=⟨_,rfl⟩
       rw[←ha] at hrh htj
       change flH (L.take (j+1))=puts (flH (L.take j)) [(a1,a2,false)] at htj
       have h0:=hrh 0 _ rfl
       have h1:=hrh 1 _ rfl
       have h2:=hrh 2 _ rfl
       dsimp only at h0 h1 h2
       simp only[Nat.add_zero] at h0
       clear hrh ha
       generalize flH (L.take j)=F at ho htj hFl hps
       obtain ⟨-,fA,fc,rfl,-⟩:=id (Sl.of_own ho)
       replace htj:=h'd htj
       replace hps:=h'd hps
       go_upto_region 12 with fail
       have kh:=Blk.new w4 56 #[.int .u32 a1,.int .u32 a2,.bool a3]
       have ho5:=own_alloc ho (.cells #[.int .u32 a1,.int .u32 a2,.bool a3] 56)
       have hb5:Below w3.heap.size w3 (w4.alloc (.cells #[.int .u32 a1,.int .u32 a2,.bool a3] 56)):=below_alloc hb4 (n'r _) _
       have hoz:∀ bb,(Value.slice fA F.length fc).ownBlock=some bb→bb<w4.heap.size:=fun bb hbb=>(ho.lt bb hbb).2
       clear h0 h1 h2 ho c94
       generalize w4.alloc (.cells #[.int .u32 a1,.int .u32 a2,.bool a3] 56)=w5 at *
       have f2:=kh.free 2
       have g2:=kh.cell 2
       simp only[q'a,q'z,q's] at g2
       go_upto_region 13 with fail
       have kh6:Blk (w5.setCell ⟨w4.heap.size,2,none⟩ (.bool false)) w4.heap.size 56 #[.int .u32 a1,.int .u32 a2,.bool false]:=kh.set_ 2 _
       have ho6:=own_same (w':=w5.setCell ⟨w4.heap.size,2,none⟩ (.bool false)) ho5 (fun bb hbb=>Below.heap_setCell _ _ _ bb (by have:=hoz bb hbb;show bb≠w4.heap.size;omega))
       have hb6:Below w3.heap.size w3 (w5.setCell ⟨w4.heap.size,2,none⟩ (.bool false)):=hb5.setCell (p:=⟨w4.heap.size,2,none⟩) hz4 _
       clear kh f2 g2 ho5 hb5 hoz
       generalize w5.setCell ⟨w4.heap.size,2,none⟩ (.bool false)=w6 at *
       have g0:=kh6.cell 0
       have g1:=kh6.cell 1
       have g2:=kh6.cell 2
       simp only[q'a,q'z,q's] at g0 g1 g2
       have hs7:=Sl.lit w6 #[.int .u32 a1,.int .u32 a2,.bool false] 56 (n:=1) (s:=3) (by simp[maxLen]) rfl
       have hb7:Below w3.heap.size w3 (w6.alloc (.cells #[.int .u32 a1,.int .u32 a2,.bool false] 56)):=below_alloc hb6 (n'r _) _
       have hz7:(w6.alloc (.cells #[.int .u32 a1,.int .u32 a2,.bool false] 56)).heap.size=w6.heap.size+1:=by simp
       rw[←hz7] at hs7
       have CJ:=h'd (join_any F [(a1,a2,false)] (.slice fA F.length fc) (.slice (some ⟨w6.heap.size,0,none⟩) 1 1) (w6.alloc (.cells #[.int .u32 a1,.int .u32 a2,.bool false] 56)) (Sl.of_own (own_alloc ho6 _)) hs7 (by simp;omega))
       clear ho6 hs7 hz7
       go_wp2_with (go_at_call 29;refine c'm CJ.out ?_;rintro e w8 ⟨v8,rfl,ho8,hB8⟩;rw[hps.out,←htj.out] at ho8)
       go_roundg (L.length-(j+1))
       case measure=>omega
       case rel=>exact ⟨j+1,by omega,rfl,by go_num,own_less ho8 hb7.size,hb7.trans (hB8.mono hb7.size)⟩
      ·obtain rfl:j=L.length:=by omega
       rw[List.take_length] at ho
       obtain ⟨F,hF⟩:∃ F,F=flH L:=⟨_,rfl⟩
       rw[←hF] at ho
       have hset2:=hset.out
       rw[←hF] at hset2
       replace hset2:=h'd hset2
       obtain ⟨-,fA,fc,rfl,-⟩:=id (Sl.of_own ho)
       replace hF:=h'd hF
       have hJ4:=hJ.call hb4
       obtain ⟨-,csW,hbW⟩:=own_blockW hJ4.own g rfl
       have hoJ:=hJ4.own
       rw[hzl] at hoJ
       have hnew:=hspl.out ((⟨⟨x0,x1,x2,x3,x4,x5,x6,x7,x8⟩,fA,F.length,fc⟩,F):WayY) rfl
       replace hnew:=h'd hnew
       have hJh:=h'd hJ4
       have hoh:=h'd ho
       clear hJ4 c9
       go_wp2_with (refine wpList_store_own rfl 46 (.tmp 55) (.tmp 53) rfl (k:=k*10+9) [.slice fA F.length fc] rfl rfl hoJ rfl (by kernel_rfl) (by simp[Value.oneCell']) (by simp;omega) ?_;intro w6 ho6 hg6)
       go_roundg (xs.length-(k+1))
       case measure=>omega
       case rel =>
        have hnew2:splice (zs.flatMap yL) (k*10+9) [.slice fA F.length fc]=(zs.set k ((⟨⟨x0,x1,x2,x3,x4,x5,x6,x7,x8⟩,fA,F.length,fc⟩,F):WayY)).flatMap yL:=hnew.out
        rw[hnew2] at ho6
        refine ⟨k+1,zs.set k ((⟨⟨x0,x1,x2,x3,x4,x5,x6,x7,x8⟩,fA,F.length,fc⟩,F):WayY),by omega,rfl,by go_num,by rw[List.length_set];exact hzl,?_,⟨by rw[List.length_set,hzl];exact ho6,fun q hq => ?_,hJh.out.below.trans (below_of_grown hg6 hJh.out.below.size fun g' hg'=>by simp only[o'j] at hg';omega)⟩⟩
        ·rw[←hset2.out,←hgz.out];simp[gOf,List.map_set]
        ·rcases List.mem_or_eq_of_mem_set hq with hq | rfl
         ·exact own_same (hJh.out.hops q hq) fun p hp=>hg6.block p ((hJh.out.hops q hq).lt p hp).2 fun e=>own_neW (hJh.out.hops q hq) hbW (by decide) p hp (by simpa using e)
         ·exact own_less (own_same hoh.out fun p hp=>hg6.block p (hoh.out.lt p hp).2 fun e=>own_neW hoh.out hbW (by decide) p hp (by simpa using e)) (by omega)
    ·obtain rfl:k=xs.length:=by omega
     have hgz2:gOf zs=R.map flG:=by rw[hgz,hxl.out,flTo_all]
     have hz3':Below w.heap.size w w3:=hBc.trans (hJ.below.mono hBc.size)
     replace hgz2:=h'd hgz2
     clear hgz W1
     have CR:Hid (∀ (W:World) (ts:List WayY) (tv:Value),Below w3.heap.size w3 W→gOf ts=T→ImpR w3 ts tv W→Calls Tryz.prog 27 #[.slice aA xs.length ac,tv] W fun e w'=>∃ v ys,e=.returned v∧gOf ys=R.map flG∧ImpR W ys v w'):=fun W ts tv hW hts hIt=>by
      have C:=resolve_any W.heap.size (.slice aA xs.length ac) tv (R.map flG) T (zs.map (·.1)) (ts.map (·.1)) W (by rw[←hgz2.out];exact (hJ.call hW).ways) (by rw[←hts];exact hIt.ways) (n'r _) (fun r hr=>by
       obtain ⟨x,hx,rfl⟩:=List.mem_map.1 hr
       exact n't (flH_len _) (hRs.out x hx)) hTs.out (by rw[List.length_map];omega) (by rw[List.length_map];have h1:=congrArg List.length hts;have h2:=hTl.out;simp[gOf] at h1;omega)
      rw[res_fl] at C
      exact C
     go_upto_region 16 with (first
      | (go_at_call 26;refine c'm (W2.out w3 hz3') ?_;rintro e w4 ⟨vt,ts,rfl,hgt,hI2⟩)
      | (go_at_call 27;refine c'm (CR.out w4 ts vt hI2.below hgt hI2) ?_;rintro e w5 ⟨vx,ys,rfl,hgy,hI5⟩;obtain ⟨-,yA,yc,hvx,-⟩:=id (Sl.of_own hI5.own);have hyl:ys.length=xs.length:=(by have h1:=congrArg List.length hgy;have h2:=hxl.out;simp[gOf] at h1;omega);rw[hyl] at hvx;subst hvx))
     have hJ5:=(hJ.call hI2.below).call hI5.below
     have hb5:Below w.heap.size w w5:=hz3'.trans ((hI2.below.trans (hI5.below.mono hI2.below.size)).mono hz3'.size)
     have ways:=hJ5.ways
     have sA:=h'd (Sl.of_own hJ5.own)
     have sY:=h'd (Sl.of_own hI5.own)
     have hoA:=h'd hJ5.hops
     have hoY:=h'd hI5.hops
     replace hgy:=h'd hgy
     replace hyl:=h'd hyl
     replace hzl:=h'd hzl
     clear hJ hJ5 ways CR W2 hI2 hgt hI5
     go_upto_region 19 with fail
     go_loopg [11] xs.length (fun m i wr=>∃ k:Nat,k≤xs.length∧m=xs.length-k∧i=.int .i64 k∧Below w5.heap.size w5 wr)
     case atStart=>exact ⟨0,Nat.zero_le _,rfl,rfl,b'r _ _⟩
     case round =>
      obtain ⟨k,hk2,rfl,rfl,hb6⟩:=hrel
      obtain ⟨w6,rfl⟩:∃ x:World,x=wr:=⟨_,rfl⟩
      by_cases hkl:k<xs.length
      ·have hkR:k<R.length:=by have:=hxl.out;omega
       have hky:k<ys.length:=by have:=hyl.out;omega
       have hkz:k<zs.length:=by have:=hzl.out;omega
       have hRk:(R.map flG)[k]?=some (flG R[k]):=by rw[List.getElem?_map,List.getElem?_eq_getElem hkR];rfl
       obtain ⟨yn1,yh1⟩:=gOf_get hgy.out hky _ hRk
       obtain ⟨zn1,zh1⟩:=gOf_get hgz2.out hkz _ hRk
       have ho1:=hoY.out _ (g'm hky)
       have ho2:=hoA.out _ (g'm hkz)
       have hy6:=sY.out.below hb6
       have hz6:=sA.out.below hb6
       rw[←hyl.out] at hy6
       rw[←hzl.out] at hz6
       obtain ⟨by_,oy,hyA,hby,hyrow⟩:=Sl.row yE.len hy6 hky
       obtain ⟨bz,oz,hzA,hbz,hzrow⟩:=Sl.row yE.len hz6 hkz
       clear hy6 hz6
       subst hyA hzA
       rw[yh1] at ho1
       rw[zh1] at ho2
       obtain ⟨gy,hgy1⟩:∃ z,z=ys[k]:=⟨_,rfl⟩
       obtain ⟨gz,hgz1⟩:∃ z,z=zs[k]:=⟨_,rfl⟩
       rw[←hgy1] at ho1 yn1 hyrow
       rw[←hgz1] at ho2 zn1 hzrow
       generalize flG R[k]=G at ho1 ho2 yn1 zn1
       obtain ⟨⟨x0,x1,x2,x3,x4,x5,x6,x7,x8⟩,L⟩:=G
       obtain ⟨⟨yn,A1,n1,c1⟩,yh⟩:=gy
       obtain ⟨⟨zn,A2,n2,c2⟩,zh⟩:=gz
       dsimp only at ho1 ho2 yn1 zn1
       subst yn1 zn1
       obtain rfl:=sl_lenW (Sl.of_own ho1)
       obtain rfl:=sl_lenW (Sl.of_own ho2)
       have y0:=hyrow 0 _ rfl
       have y1:=hyrow 1 _ rfl
       have y2:=hyrow 2 _ rfl
       have y9:=hyrow 9 _ rfl
       have z0:=hzrow 0 _ rfl
       have z1:=hzrow 1 _ rfl
       have z2:=hzrow 2 _ rfl
       have z9:=hzrow 9 _ rfl
       dsimp only at y0 y1 y2 y9 z0 z1 z2 z9
       simp only[Nat.add_zero] at y0 z0
       have s1:=h'd (Sl.of_own ho1)
       have s2:=h'd (Sl.of_own ho2)
       have qn:=fun W=>neq_preE x0 x1 W
       have Y9:=h'd (fun W (hW:Below w6.heap.size w6 W)=>(hW.cell (p:=⟨by_,oy+k*10+9,none⟩) (Nat.lt_of_lt_of_le hby hb6.size)).trans y9)
       have Z9:=h'd (fun W (hW:Below w6.heap.size w6 W)=>(hW.cell (p:=⟨bz,oz+k*10+9,none⟩) (Nat.lt_of_lt_of_le hbz hb6.size)).trans z9)
       have hl2:L.length≤9223372036854775807:=own_max ho1
       clear hyrow hzrow ho1 ho2 hgy1 hgz1 yh1 zh1 hRk
       go_upto_region 21 with fail
       go_quiet (fail)
       go_upto_region 24 with fail
       go_loopg [12] L.length (fun m i wr=>∃ j:Nat,j≤L.length∧m=L.length-j∧i=.int .i64 j∧Below w6.heap.size w6 wr)
       case atStart=>exact ⟨0,Nat.zero_le _,rfl,rfl,below_drewN (b'r _ _) _⟩
       case round =>
        obtain ⟨j,hj,rfl,rfl,hb7⟩:=hrel
        obtain ⟨w7,rfl⟩:∃ x:World,x=wr:=⟨_,rfl⟩
        have hb57:Below w5.heap.size w5 w7:=hb6.trans (hb7.mono hb6.size)
        clear y0 y1 y2 y9 z0 z1 z2 z9 qn
        have y9:=Y9.out w7 hb7
        have z9:=Z9.out w7 hb7
        by_cases hjl:j<L.length
        ·obtain ⟨p1,o1,hA1,-,hr1⟩:=Sl.row hopCells_len (s1.out.below hb57) hjl
         obtain ⟨p2,o2,hA2,-,hr2⟩:=Sl.row hopCells_len (s2.out.below hb57) hjl
         subst hA1 hA2
         obtain ⟨⟨a1,a2,a3⟩,ha⟩:∃ a:Hop,a=L[j]:=⟨_,rfl⟩
         rw[←ha] at hr1 hr2
         have e0:=hr1 0 _ rfl
         have e1:=hr1 1 _ rfl
         have e2:=hr1 2 _ rfl
         have f0:=hr2 0 _ rfl
         have f1:=hr2 1 _ rfl
         have f2:=hr2 2 _ rfl
         dsimp only at e0 e1 e2 f0 f1 f2
         simp only[Nat.add_zero] at e0 f0
         have qh:=fun W=>neq_hopO (a1,a2,a3) W
         dsimp only at qh
         clear hr1 hr2 ha
         go_upto_region 26 with fail
         go_quiet (fail)
         go_wp2_with fail
         go_roundg (L.length-(j+1))
         case measure=>omega
         case rel=>exact ⟨j+1,by omega,rfl,by go_num,below_drewN hb7 _⟩
        ·obtain rfl:j=L.length:=by omega
         go_wp2_with fail
         go_roundg (xs.length-(k+1))
         case measure=>omega
         case rel=>exact ⟨k+1,by omega,rfl,by go_num,hb57⟩
      ·obtain rfl:k=xs.length:=by omega
       go_wp2_with (go_at_call 20;refine c'm (CW.out _) ?_;rintro e w9 ⟨rfl,hB9⟩)
       go_ret
       exact ⟨rfl,hb5.trans ((hb6.trans (hB9.mono hb6.size)).mono hb5.size)⟩
  ·go_wp2_with (go_at_call 20;refine c'm (CW.out _) ?_;rintro e w9 ⟨rfl,hB9⟩)
   go_ret
   exact ⟨rfl,hBc.trans (hB9.mono hBc.size)⟩
end Go.Proofs.YtcknpofnpabkiaaGreat
