/- lodestarref16.Build. Conditions: the states lie in memory. -/
import Derived.Test.YtcknpofnpabkiaaGreatGzBO
import Derived.Test.YtcknpofnpabkiaaGreatGzBP
import Derived.Test.YtcknpofnpabkiaaGreatGzBQ
set_option maxRecDepth 100000
namespace Go.Proofs.YtcknpofnpabkiaaGreat
open Go.RowKit Go.Lo
theorem rowE_le (L:List StG) (i:Nat) (z:StG) (k:Nat):(rowN L i z k).edges.length≤k:=by
 unfold rowN
 simp only
 refine Nat.le_trans (List.length_filterMap_le _ _) ?_
 rw[List.length_take]
 omega
theorem rowS_le (L:List StG) (i:Nat) (z:StG) (k:Nat):(rowN L i z k).stubs.length≤k:=by
 unfold rowN
 simp only
 refine Nat.le_trans (List.length_filterMap_le _ _) ?_
 rw[List.length_take]
 omega
theorem node_row {W:World} {base g n gc i:Nat} {rows:List NodR} {y:NodR} (h:W.ownsRow base 95 7 (.slice (some ⟨g,0,none⟩) n gc) n ((rows.set i y).flatMap nodC)) (hn:rows.length=n) (hi:i<rows.length):g<W.heap.size∧(∀ q,W.frozen? ⟨g,q,none⟩=false)∧∀ j u,(nodC y)[j]?=some u→W.cell? ⟨g,i*7+j,none⟩=some u:=by
 subst hn
 have hl:(rows.set i y).length=rows.length:=List.length_set ..
 have h1:W.ownsRow base 95 7 (.slice (some ⟨g,0,none⟩) (rows.set i y).length gc) (rows.set i y).length ((rows.set i y).flatMap nodC):=by rw[hl];exact h
 obtain ⟨g',cap,e,-,-,hg,hf,hc⟩:=own_row nodC_len h1 (k:=i) (by rw[hl];exact hi)
 simp only[Value.slice.injEq,Option.some.injEq,Addr.mk.injEq,true_and,and_true] at e
 obtain ⟨rfl,rfl⟩:=e
 refine ⟨hg,hf,fun j u hu=>hc j u ?_⟩
 rw[List.getElem_set_self]
 exact hu
theorem lt_cases22 (j:Nat) (h:j<22):j=0∨j=1∨j=2∨j=3∨j=4∨j=5∨j=6∨j=7∨j=8∨j=9∨j=10∨j=11∨j=12∨j=13∨j=14∨j=15∨j=16∨j=17∨j=18∨j=19∨j=20∨j=21:=by omega
theorem lt_cases23 (j:Nat) (h:j<23):j=0∨j=1∨j=2∨j=3∨j=4∨j=5∨j=6∨j=7∨j=8∨j=9∨j=10∨j=11∨j=12∨j=13∨j=14∨j=15∨j=16∨j=17∨j=18∨j=19∨j=20∨j=21∨j=22:=by omega
set_option maxHeartbeats 40000000 in
theorem rbuild_any (B:Nat) (sv:Value) (S:List StG) (ls:List StV) (w:World) (hS:StatesIn w B sv S ls) (hB:B≤w.heap.size) (hok:∀ s∈S,StOk s) (hn:ls.length≤100000) :
  Calls Tryz.prog 13 #[sv] w fun e w'=>∃ v rows,e=.returned v∧GrD w' w.heap.size v rows∧rows.map (·.n)=graphG (nodesG S)∧Below w.heap.size w w':=by
 have CC:=rnodes_any B sv S ls w hS hB hok hn
 have hny:=fun out h1 h2=>nodeY_of hS hok (out:=out) h1 h2
 have hyl:=ysOf_len hS.len
 obtain ⟨-,lA,lc,rfl,-⟩:=id hS.sl
 unfold ChPost at CC
 replace CC:=Veil.mk CC
 clear hS hok
 have hmix:=Veil.mk (show (Tryz.prog).follows .mixedOrders=true by kernel_rfl)
 go_enter Tryz.func13,Tryz.ntmps13
 go_upto_region 2 with (go_at_call 39;refine Calls.mono CC.out ?_;rintro e w1 ⟨all,out,rfl,ho1,hs1,hm1,hl1,hB1⟩)
 have HY:=hny out hs1 hm1
 obtain ⟨-,oA,oc,rfl,-⟩:=id (Sl.of_own ho1)
 have hol:out.length≤100000:=by omega
 have hoS:=Sl.of_own ho1
 obtain ⟨L,hL⟩:∃ L,L=sOf out:=⟨_,rfl⟩
 have hLl:L.length=out.length:=by rw[hL];simp[sOf]
 have hLr:RiseN L:=by rw[hL,hs1];exact (nodesG_ok S).rise
 have hLk:∀ k (h:k<L.length) (h2:k<out.length),L[k]=yG out[k]:=fun k h h2=>by subst hL;simp[sOf,yG]
 rw[←hL] at hs1
 replace hL:=Veil.mk hL
 replace hs1:=Veil.mk hs1
 replace hLr:=Veil.mk hLr
 replace hLk:=Veil.mk hLk
 have hLl':=Veil.mk hLl
 replace HY:=Veil.mk HY
 have hB1':=Veil.mk hB1
 have hBB:B≤w1.heap.size:=Nat.le_trans hB hB1.size
 have hBw:=Veil.mk (fun (W:World) (h:Below w1.heap.size w1 W)=>hB1.trans (h.mono hB1.size))
 clear CC hny hm1 hl1 hyl ho1 hB1 hLl
 go_upto_region 5 with fail
 go_loopg [4,5,6] out.length (fun m gv bv u wr=>∃ (k:Nat) (xs:List BodX) (rows:List NodR),k≤out.length∧m=out.length-k∧u=.int .i64 k∧DN w1.heap.size (L.take k) 0 gv rows wr∧DB w1.heap.size (L.take k) bv xs wr∧Below w1.heap.size w1 wr)
 case atStart=>exact ⟨0,[],[],Nat.zero_le _,rfl,rfl,DN.start,DB.start,Below.refl _ _⟩
 case round =>
  obtain ⟨k,xs,rows,hk,rfl,rfl,hN,hD,hB3⟩:=hrel
  obtain ⟨w3,rfl⟩:∃ x:World,x=wr:=⟨_,rfl⟩
  have hz3:=hB3.size
  by_cases hkl:k<out.length
  ·obtain ⟨ob,oo,rfl,hob,hrow⟩:=Sl.row (f:=sL) (s:=9) (fun _=>rfl) hoS hkl
   have hny:=HY.out _ (List.getElem_mem hkl)
   have hkL:k<L.length:=by have:=hLl'.out;omega
   have ik:(k:Int)<(out.length:Int):=by omega
   have htk:L.take (k+1)=L.take k++[yG out[k]]:=by rw[List.take_succ_eq_append_getElem hkL,hLk.out k hkL hkl]
   have hrg:w3.rangeAt ob (oo+k*9) (sL out[k]):=fun q u hq=>(hB3.cell (p:=⟨ob,oo+k*9+q,none⟩) hob).trans (hrow q u hq)
   have hrw:=hrow
   have hnl:rows.length≤100000:=by have:=hN.len;rw[List.length_take] at this;omega
   have hxl:xs.length≤100000:=by have:=hD.len;rw[List.length_take] at this;omega
   obtain ⟨y,hy⟩:∃ y,y=out[k]:=⟨_,rfl⟩
   rw[←hy] at htk hny hrg hrw
   clear hrow hy
   have hbf:(yG y).1.type=2→(bodyG (yG y)).flags=0:=bodyG_flags
   have hkind:=isG_kind hny.isg
   have hbd:=hny.sl
   have hle:=hny.le
   have hlen:=hny.len
   have hty0:=hny.ok.1.type
   have hlr:=hny.ok.1.len
   have h8:=hny.ok.2.2
   obtain ⟨⟨⟨h0,h1,h2,h3,h4,h5,h6,h7⟩,xA,xl,xc⟩,body⟩:=y
   obtain rfl:xl=body.length:=sl_len hbd
   have hty:0≤h2∧h2<256:=hty0
   have hlr2:0≤h7∧h7<65536:=hlr
   have hlen2:h7=20+(body.length:Int):=hlen
   obtain ⟨t,rfl⟩:=Int.eq_ofNat_of_zero_le hty.1
   have hbg:bodyG (yG (⟨⟨h0,h1,(t:Int),h3,h4,h5,h6,h7⟩,xA,body.length,xc⟩,body))=(decQ t body).1:=rfl
   have hdd:(decD h7 t body).1=(decQ t body).1:=by unfold decD;rw[if_pos hlen2,dec_same t body hle]
   rw[←hbg] at hdd
   dsimp only[sL,stL] at hrg
   have o2:w1.cell? ⟨ob,oo+k*9+2,none⟩=some (.int .u8 (t:Int)):=hrw 2 _ rfl
   have o3:w1.cell? ⟨ob,oo+k*9+3,none⟩=some (.int .u32 h3):=hrw 3 _ rfl
   clear hrw
   replace o2:=Veil.mk o2
   replace o3:=Veil.mk o3
   have hhb:w.heap.size≤w1.heap.size:=hB1'.out.size
   have CD:=rdecode_any t (by omega) ⟨h0,h1,(t:Int),h3,h4,h5,h6,h7⟩ B (.slice xA body.length xc) body w3 (hbd.below ((hBw.out w3 hB3).mono hB)) (Nat.le_trans hBB hz3) (by omega) h8 rfl hlr2
   unfold RDecPost at CD
   dsimp only[stateVal] at CD
   rw[hdd] at CD
   clear hdd
   generalize hbd0:bodyG (yG (⟨⟨h0,h1,(t:Int),h3,h4,h5,h6,h7⟩,xA,body.length,xc⟩,body))=bd at *
   have hkd:t=1∨t=2:=by
    have h:(t:Int)=1∨(t:Int)=2:=hkind
    omega
   replace hbd0:=Veil.mk hbd0
   replace htk:=Veil.mk htk
   replace CD:=Veil.mk CD
   replace hbf:=Veil.mk hbf
   clear hkind hty hty0 hlen hlen2 hny hlr hlr2 hle h8 hbd hbg
   go_upto_region 8 with (first
    | (refine wpList_load_mid rfl 71 (.tmp 27) rfl ob (oo+k*9) rfl (#[.int .u16 h0,.int .u8 h1,.int .u8 (t:Int),.int .u32 h3,.int .u32 h4,.int .i32 h5,.int .u16 h6,.int .u16 h7,.slice xA body.length xc]).toList _ hrg Tryz.underlying71 rfl (by kernel_rfl) ?_;dsimp only)
    | (go_at_call 40;refine Calls.mono CD.out ?_;rintro e w4 ⟨cs,rfl,hBA,hB4⟩;obtain ⟨A1,c1,A2,c2,A3,c3,rfl,hA1,hA2,-⟩:=hBA;dsimp only[bodyC]))
   have k8:=Blk.new w4 81 #[.int .u8 bd.flags,.slice A1 bd.links.length c1,.int .u32 bd.mask,.slice A2 bd.routers.length c2,.int .u32 bd.metric,.bool bd.t2,.int .u32 bd.fw,.int .u32 bd.tg,.slice A3 bd.data.length c3]
   have hB5:Below w4.heap.size w4 (w4.alloc (.cells #[.int .u8 bd.flags,.slice A1 bd.links.length c1,.int .u32 bd.mask,.slice A2 bd.routers.length c2,.int .u32 bd.metric,.bool bd.t2,.int .u32 bd.fw,.int .u32 bd.tg,.slice A3 bd.data.length c3] 81)):=(Below.refl _ _).alloc (Nat.le_refl _) _
   have hN5:=(hN.call hB4).call hB5
   have hD5:=(hD.call hB4).call hB5
   have hA15:=own_below (own_less hA1 hz3) hB5
   have hA25:=own_below (own_less hA2 hz3) hB5
   have hBn:=hB3.trans ((hB4.trans (hB5.mono hB4.size)).mono hz3)
   generalize w4.alloc (.cells #[.int .u8 bd.flags,.slice A1 bd.links.length c1,.int .u32 bd.mask,.slice A2 bd.routers.length c2,.int .u32 bd.metric,.bool bd.t2,.int .u32 bd.fw,.int .u32 bd.tg,.slice A3 bd.data.length c3] 81)=w5 at k8 hN5 hD5 hA15 hA25 hBn ⊢
   obtain ⟨g8,hg8⟩:∃ x,x=w4.heap.size:=⟨_,rfl⟩
   rw[←hg8] at k8 ⊢
   have hg8b:w1.heap.size≤g8:=by rw[hg8];exact Nat.le_trans hz3 hB4.size
   have hbl:=Veil.mk hD.bods.lt
   have h8n:¬ g8<w3.heap.size:=by rw[hg8];exact Nat.not_lt.2 hB4.size
   replace hg8:=Veil.mk hg8
   have b0:=k8.cell 0
   have b2:=k8.cell 2
   simp only[q'a,q'z,q's] at b0 b2
   clear hN hD hA1 hA2 hB4 hB5 hrg CD hB3
   obtain ⟨-,bA,bc,rfl,-⟩:=id (Sl.of_own hD5.bods)
   have hzn:=hBn.size
   go_upto_region 9 with (first
    | (refine wpList_load_row rfl 81 (.tmp 7) rfl g8 rfl 81 #[.int .u8 bd.flags,.slice A1 bd.links.length c1,.int .u32 bd.mask,.slice A2 bd.routers.length c2,.int .u32 bd.metric,.bool bd.t2,.int .u32 bd.fw,.int .u32 bd.tg,.slice A3 bd.data.length c3] (0,0) _ k8 Tryz.underlying81 rfl (by kernel_rfl) ?_)
    | (at_builtin;refine wpList_append rfl (.tmp 32) (.tmp 34) 75 rfl w1.heap.size bodT (.slice bA xs.length bc) xs.length (xs.flatMap bodL) rfl (own_alloc hD5.bods _) _ _ 1 [.int .u8 bd.flags,.slice A1 bd.links.length c1,.int .u32 bd.mask,.slice A2 bd.routers.length c2,.int .u32 bd.metric,.bool bd.t2,.int .u32 bd.fw,.int .u32 bd.tg,.slice A3 bd.data.length c3] rfl (Sl.lit w5 #[.int .u8 bd.flags,.slice A1 bd.links.length c1,.int .u32 bd.mask,.slice A2 bd.routers.length c2,.int .u32 bd.metric,.bool bd.t2,.int .u32 bd.fw,.int .u32 bd.tg,.slice A3 bd.data.length c3] 81 (by simp[maxLen]) rfl) (by simp[Value.oneCell']) (by simp only[maxLen];omega) (by omega) (by simp;omega) ?_;intro v6 w6 ho6 hg6 hob6))
   have al5:Below w5.heap.size w5 (w5.alloc (.cells #[.int .u8 bd.flags,.slice A1 bd.links.length c1,.int .u32 bd.mask,.slice A2 bd.routers.length c2,.int .u32 bd.metric,.bool bd.t2,.int .u32 bd.fw,.int .u32 bd.tg,.slice A3 bd.data.length c3] 81)):=(Below.refl _ _).alloc (Nat.le_refl _) _
   have hN6:=(hN5.call al5).grown (own_alloc hD5.bods _) (by decide) (by decide) (by decide) hg6
   have hD6:=(hD5.call al5).add (x:=⟨A1,c1,A2,c2,A3,c3,bd⟩) (s:=yG (⟨⟨h0,h1,(t:Int),h3,h4,h5,h6,h7⟩,xA,body.length,xc⟩,body)) ho6 hg6 hbd0.out.symm (own_alloc hA15 _) (own_alloc hA25 _)
   rw[←htk.out] at hD6
   have hB6:Below w1.heap.size w1 w6:=hBn.trans ((al5.mono hzn).trans (below_of_grown hg6 (by simp;omega) (fun g hg=>(hD5.bods.lt g hg).1)))
   have k86:=Blk.same (k8.alloc _) (hg6.block g8 (k8.alloc _).lt fun hc=>absurd (hbl.out g8 hc.symm).2 h8n)
   have q2:=(hB6.cell (p:=⟨ob,oo+k*9+2,none⟩) hob).trans o2.out
   have q3:=(hB6.cell (p:=⟨ob,oo+k*9+3,none⟩) hob).trans o3.out
   have v0:=k86.cell 0
   have v2:=k86.cell 2
   simp only[q'a,q'z,q's] at v0 v2
   clear hN5 hD5 al5 ho6 hg6 hob6 hA15 hA25 k8 b0 b2 hBn hzn hbl h8n
   have obl:ob<w6.heap.size:=Nat.lt_of_lt_of_le hob hB6.size
   have z0:=(World.cell?_alloc_lt w6 (.cells #[.bool false,.int .u32 0,.int .u32 0,.int .u8 0,.int .u8 0,.slice none 0 0,.slice none 0 0] 95) ⟨g8,0,none⟩ k86.lt).trans v0
   have z2:=(World.cell?_alloc_lt w6 (.cells #[.bool false,.int .u32 0,.int .u32 0,.int .u8 0,.int .u8 0,.slice none 0 0,.slice none 0 0] 95) ⟨ob,oo+k*9+2,none⟩ obl).trans q2
   have z3:=(World.cell?_alloc_lt w6 (.cells #[.bool false,.int .u32 0,.int .u32 0,.int .u8 0,.int .u8 0,.slice none 0 0,.slice none 0 0] 95) ⟨ob,oo+k*9+3,none⟩ obl).trans q3
   rcases hkd with rfl | rfl
   ·go_region
    have k10:Blk (w6.alloc (.cells #[.bool false,.int .u32 h3,.int .u32 0,.int .u8 0,.int .u8 bd.flags,.slice none 0 0,.slice none 0 0] 95)).drew w6.heap.size 95 #[.bool false,.int .u32 h3,.int .u32 0,.int .u8 0,.int .u8 bd.flags,.slice none 0 0,.slice none 0 0]:=(Blk.new _ _ _).drew_
    have hB7:Below w6.heap.size w6 (w6.alloc (.cells #[.bool false,.int .u32 h3,.int .u32 0,.int .u8 0,.int .u8 bd.flags,.slice none 0 0,.slice none 0 0] 95)).drew:=((Below.refl _ _).alloc (Nat.le_refl _) _).drew
    generalize (w6.alloc (.cells #[.bool false,.int .u32 h3,.int .u32 0,.int .u8 0,.int .u8 bd.flags,.slice none 0 0,.slice none 0 0] 95)).drew=w7 at k10 hB7 ⊢
    have k87:=k86.below hB7 k86.lt
    have hg6:w6.heap.size≤w6.heap.size:=Nat.le_refl _
    obtain ⟨g10,hg10⟩:∃ x,x=w6.heap.size:=⟨_,rfl⟩
    rw[←hg10] at k10 ⊢
    have hg10l:w6.heap.size≤g10:=by rw[hg10];exact Nat.le_refl _
    replace hg10:=Veil.mk hg10
    clear z0 z2 z3 q2 q3 v0 v2 k86 obl
    have hN7:=hN6.call hB7
    have hD7:=hD6.call hB7
    have hB17:=hB6.trans (hB7.mono hB6.size)
    have hz7:=hB17.size
    have hnode:nodC (bareR (yG (⟨⟨h0,h1,((1:Nat):Int),h3,h4,h5,h6,h7⟩,xA,body.length,xc⟩,body)))=[.bool false,.int .u32 h3,.int .u32 0,.int .u8 0,.int .u8 bd.flags,.slice none 0 0,.slice none 0 0]:=by
     show [Value.bool false,.int .u32 h3,.int .u32 0,.int .u8 0,.int .u8 (bodyG (yG (⟨⟨h0,h1,((1:Nat):Int),h3,h4,h5,h6,h7⟩,xA,body.length,xc⟩,body))).flags,.slice none 0 0,.slice none 0 0]=_
     rw[hbd0.out]
    replace hnode:=Veil.mk hnode
    obtain ⟨-,gA,gc,rfl,-⟩:=id (Sl.of_own hN7.nods)
    have n0:=k10.cell 0
    simp only[q'a,q'z] at n0
    clear hN6 hD6 hB6 hB7 k87
    go_wp2_with (first
     | (refine wpList_load_row rfl 95 (.tmp 9) rfl g10 rfl 95 #[.bool false,.int .u32 h3,.int .u32 0,.int .u8 0,.int .u8 bd.flags,.slice none 0 0,.slice none 0 0] (0,0) _ k10 Tryz.underlying95 rfl (by kernel_rfl) ?_)
     | (at_builtin;refine wpList_append rfl (.tmp 61) (.tmp 63) 29 rfl w1.heap.size rnodT (.slice gA rows.length gc) rows.length _ rfl (own_alloc hN7.nods _) _ _ 1 [.bool false,.int .u32 h3,.int .u32 0,.int .u8 0,.int .u8 bd.flags,.slice none 0 0,.slice none 0 0] rfl (Sl.lit w7 #[.bool false,.int .u32 h3,.int .u32 0,.int .u8 0,.int .u8 bd.flags,.slice none 0 0,.slice none 0 0] 95 (by simp[maxLen]) rfl) (by simp[Value.oneCell']) (by simp only[maxLen];omega) (by omega) (by simp;omega) ?_;intro v8 w8 ho8 hg8' hob8))
    have al7:Below w7.heap.size w7 (w7.alloc (.cells #[.bool false,.int .u32 h3,.int .u32 0,.int .u8 0,.int .u8 bd.flags,.slice none 0 0,.slice none 0 0] 95)):=(Below.refl _ _).alloc (Nat.le_refl _) _
    rw[←hnode.out] at ho8
    have hN8:=(hN7.call al7).add ho8 hg8'
    have hD8:=(hD7.call al7).grown (own_alloc hN7.nods _) (by decide) (by decide) (by decide) hg8'
    rw[←htk.out] at hN8
    have hB18:=hB17.trans ((al7.mono hz7).trans (below_of_grown hg8' (by simp;omega) (fun g hg=>(hN7.nods.lt g hg).1)))
    clear ho8 hg8' hob8 hN7 hD7 hB17 al7
    go_roundg (out.length-(k+1))
    case measure=>omega
    case rel=>exact ⟨k+1,_,_,by omega,rfl,by go_num,hN8,hD8,hB18⟩
   ·go_region
    have k10:Blk (w6.alloc (.cells #[.bool true,.int .u32 h3,.int .u32 0,.int .u8 0,.int .u8 bd.flags,.slice none 0 0,.slice none 0 0] 95)).drew w6.heap.size 95 #[.bool true,.int .u32 h3,.int .u32 0,.int .u8 0,.int .u8 bd.flags,.slice none 0 0,.slice none 0 0]:=(Blk.new _ _ _).drew_
    have hB7:Below w6.heap.size w6 (w6.alloc (.cells #[.bool true,.int .u32 h3,.int .u32 0,.int .u8 0,.int .u8 bd.flags,.slice none 0 0,.slice none 0 0] 95)).drew:=((Below.refl _ _).alloc (Nat.le_refl _) _).drew
    generalize (w6.alloc (.cells #[.bool true,.int .u32 h3,.int .u32 0,.int .u8 0,.int .u8 bd.flags,.slice none 0 0,.slice none 0 0] 95)).drew=w7 at k10 hB7 ⊢
    have k87:=k86.below hB7 k86.lt
    have hg6:w6.heap.size≤w6.heap.size:=Nat.le_refl _
    obtain ⟨g10,hg10⟩:∃ x,x=w6.heap.size:=⟨_,rfl⟩
    rw[←hg10] at k10 ⊢
    have hg10l:w6.heap.size≤g10:=by rw[hg10];exact Nat.le_refl _
    replace hg10:=Veil.mk hg10
    clear z0 z2 z3 q2 q3 v0 v2 k86 obl
    have n0:=k10.cell 0
    have n1:=k10.cell 1
    have m2:=k87.cell 2
    simp only[q'a,q'z,q's] at n0 n1 m2
    have CP:=rpre_any h3 bd.mask w7
    obtain ⟨na,hna⟩:∃ x,x=bits BinOp.and IntKind.u32 h3 bd.mask:=⟨_,rfl⟩
    obtain ⟨nb,hnb⟩:∃ x,x=bitsV bd.mask:=⟨_,rfl⟩
    rw[←hna,←hnb] at CP
    replace CP:=Veil.mk CP
    replace hna:=Veil.mk hna
    replace hnb:=Veil.mk hnb
    go_upto_region 11 with fail
    go_upto_region 12 with (go_at_call 41;refine Calls.mono CP.out ?_;rintro e w7c ⟨rfl,hBc⟩;have k10c:=k10.below hBc k10.lt;have d2:=k10c.cell 2;have d3:=k10c.cell 3;have f2:=k10c.free 2;have f3:=k10c.free 3;simp only[q'a,q'z,q's] at d2 d3)
    have hB7:=((hB7.trans (hBc.mono hB7.size)).setCell (p:=⟨g10,2,none⟩) hg10l (.int .u32 na)).setCell (p:=⟨g10,3,none⟩) hg10l (.int .u8 nb)
    have k10:=(k10c.set_ 2 (.int .u32 na)).set_ 3 (.int .u8 nb)
    simp only[s'a,s'z,s's] at k10
    clear d2 d3 f2 f3 k10c hBc CP k87 n0 n1 m2
    generalize (w7c.setCell ⟨g10,2,none⟩ (.int .u32 na)).setCell ⟨g10,3,none⟩ (.int .u8 nb)=w7d at k10 hB7 ⊢
    have d4:=k10.cell 4
    have f4:=k10.free 4
    simp only[q'a,q'z,q's] at d4
    go_upto_region 13 with fail
    have hB7:=hB7.setCell (p:=⟨g10,4,none⟩) hg10l (.int .u8 0)
    have k10:=k10.set_ 4 (.int .u8 0)
    simp only[s'a,s'z,s's] at k10
    clear d4 f4
    generalize w7d.setCell ⟨g10,4,none⟩ (.int .u8 0)=w7 at k10 hB7 ⊢
    have k87:=True.intro
    have hN7:=hN6.call hB7
    have hD7:=hD6.call hB7
    have hB17:=hB6.trans (hB7.mono hB6.size)
    have hz7:=hB17.size
    have hnode:nodC (bareR (yG (⟨⟨h0,h1,((2:Nat):Int),h3,h4,h5,h6,h7⟩,xA,body.length,xc⟩,body)))=[.bool true,.int .u32 h3,.int .u32 na,.int .u8 nb,.int .u8 0,.slice none 0 0,.slice none 0 0]:=by
     show [Value.bool true,.int .u32 h3,.int .u32 (bits BinOp.and IntKind.u32 h3 (bodyG (yG (⟨⟨h0,h1,((2:Nat):Int),h3,h4,h5,h6,h7⟩,xA,body.length,xc⟩,body))).mask),.int .u8 (bitsV (bodyG (yG (⟨⟨h0,h1,((2:Nat):Int),h3,h4,h5,h6,h7⟩,xA,body.length,xc⟩,body))).mask),.int .u8 0,.slice none 0 0,.slice none 0 0]=_
     rw[hbd0.out,←hna.out,←hnb.out]
    replace hnode:=Veil.mk hnode
    obtain ⟨-,gA,gc,rfl,-⟩:=id (Sl.of_own hN7.nods)
    clear hN6 hD6 hB6 hB7 k87
    go_wp2_with (first
     | (refine wpList_load_row rfl 95 (.tmp 9) rfl g10 rfl 95 #[.bool true,.int .u32 h3,.int .u32 na,.int .u8 nb,.int .u8 0,.slice none 0 0,.slice none 0 0] (0,0) _ k10 Tryz.underlying95 rfl (by kernel_rfl) ?_)
     | (at_builtin;refine wpList_append rfl (.tmp 61) (.tmp 63) 29 rfl w1.heap.size rnodT (.slice gA rows.length gc) rows.length _ rfl (own_alloc hN7.nods _) _ _ 1 [.bool true,.int .u32 h3,.int .u32 na,.int .u8 nb,.int .u8 0,.slice none 0 0,.slice none 0 0] rfl (Sl.lit w7 #[.bool true,.int .u32 h3,.int .u32 na,.int .u8 nb,.int .u8 0,.slice none 0 0,.slice none 0 0] 95 (by simp[maxLen]) rfl) (by simp[Value.oneCell']) (by simp only[maxLen];omega) (by omega) (by simp;omega) ?_;intro v8 w8 ho8 hg8' hob8))
    have al7:Below w7.heap.size w7 (w7.alloc (.cells #[.bool true,.int .u32 h3,.int .u32 na,.int .u8 nb,.int .u8 0,.slice none 0 0,.slice none 0 0] 95)):=(Below.refl _ _).alloc (Nat.le_refl _) _
    rw[←hnode.out] at ho8
    have hN8:=(hN7.call al7).add ho8 hg8'
    have hD8:=(hD7.call al7).grown (own_alloc hN7.nods _) (by decide) (by decide) (by decide) hg8'
    rw[←htk.out] at hN8
    have hB18:=hB17.trans ((al7.mono hz7).trans (below_of_grown hg8' (by simp;omega) (fun g hg=>(hN7.nods.lt g hg).1)))
    clear ho8 hg8' hob8 hN7 hD7 hB17 al7
    go_roundg (out.length-(k+1))
    case measure=>omega
    case rel=>exact ⟨k+1,_,_,by omega,rfl,by go_num,hN8,hD8,hB18⟩
  ·obtain rfl:k=out.length:=by omega
   have hLt:L.take out.length=L:=List.take_of_length_le (by have:=hLl'.out;omega)
   rw[hLt] at hN hD
   have hxl:=hD.len
   have hSz:SzOk L xs:=⟨by have:=hLl'.out;omega,fun x hx=>by
    obtain ⟨j,hj,rfl⟩:=List.getElem_of_mem hx
    have hj2:j<L.length:=by omega
    have hj3:j<out.length:=by have:=hLl'.out;omega
    rw[hD.body hj hj2,hLk.out j hj2 hj3]
    have hny:=HY.out _ (List.getElem_mem hj3)
    exact (bodyG_ok hny.ok hny.le).llen,fun x hx=>by
    obtain ⟨j,hj,rfl⟩:=List.getElem_of_mem hx
    have hj2:j<L.length:=by omega
    have hj3:j<out.length:=by have:=hLl'.out;omega
    rw[hD.body hj hj2,hLk.out j hj2 hj3]
    have hny:=HY.out _ (List.getElem_mem hj3)
    exact (bodyG_ok hny.ok hny.le).rlen⟩
   have hCo:∀ s∈L,∀ x∈(bodyG s).links,0≤x.cost∧x.cost<65536:=fun s hs x hx=>by
    obtain ⟨j,hj,rfl⟩:=List.getElem_of_mem hs
    have hj3:j<out.length:=by have:=hLl'.out;omega
    rw[hLk.out j hj hj3] at hx
    have hny:=HY.out _ (List.getElem_mem hj3)
    exact ((bodyG_ok hny.ok hny.le).links x hx).2
   replace hCo:=Veil.mk hCo
   have hty:∀ s∈L,s.1.type=1∨s.1.type=2:=fun s hs=>by
    obtain ⟨j,hj,rfl⟩:=List.getElem_of_mem hs
    rw[hLk.out j hj (by have:=hLl'.out;omega)]
    exact isG_type (HY.out _ (List.getElem_mem _)).isg
   have hrl:=hN.len
   have hLn:L.length≤100000:=hSz.n
   have hkz:=hB1'.out.size
   obtain ⟨-,gA,gc,rfl,-⟩:=id (Sl.of_own hN.nods)
   obtain ⟨-,bA,bc,rfl,-⟩:=id (Sl.of_own hD.bods)
   rw[hrl,hxl]
   rw[hrl] at hN
   replace hSz:=Veil.mk hSz
   replace hty:=Veil.mk hty
   replace HY:=Veil.mk (True.intro)
   replace hLt:=Veil.mk hLt
   rw[hxl] at hD
   replace hxl:=Veil.mk hxl
   clear hoS hkl
   have hrl0:=hrl
   replace hrl:=Veil.mk hrl
   clear hrl0
   go_upto_region 15 with fail
   go_loopg [10] L.length (fun m u wr=>∃ (i:Nat) (rows:List NodR),i≤L.length∧m=L.length-i∧u=.int .i64 i∧DN w1.heap.size L i (.slice gA L.length gc) rows wr∧DB w1.heap.size L (.slice bA L.length bc) xs wr∧Below w1.heap.size w1 wr)
   case atStart=>exact ⟨0,rows,Nat.zero_le _,rfl,rfl,hN,hD,hB3⟩
   case round =>
    clear hN hD hB3 hz3 hrl
    obtain ⟨i,rows,hi,rfl,rfl,hN,hD,hB4⟩:=hrel
    obtain ⟨w4,rfl⟩:∃ x:World,x=wr:=⟨_,rfl⟩
    have hz4:=hB4.size
    by_cases hil:i<L.length
    ·have hir:i<rows.length:=by rw[hN.len];exact hil
     have ii:(i:Int)<(L.length:Int):=by omega
     obtain ⟨g,cap,hgv,hgb,hgl,hcell⟩:=hN.row hir
     have hrl:=hN.len
     rw[hrl] at hgv
     simp only[Value.slice.injEq,true_and] at hgv
     obtain ⟨rfl,rfl⟩:=hgv
     have hrest:=hN.rest i hir hil (Nat.le_refl _)
     rw[hrest] at hcell
     have y0:=hcell 0 _ rfl
     rw[Nat.add_zero] at y0
     have hnb:=nodeG_bare L i L[i]
     have hkd:=hty.out _ (List.getElem_mem hil)
     have hcz:=hCo.out _ (List.getElem_mem hil)
     have CA:=raround_any w1.heap.size L i (.slice (some ⟨g,0,none⟩) L.length gc) (.slice bA L.length bc) xs rows w4 hN hD hSz.out i hil
     obtain ⟨z,hz⟩:∃ z,z=L[i]:=⟨_,rfl⟩
     rw[←hz] at hrest hkd hnb y0 CA hcz
     replace hcz:=Veil.mk hcz
     have hno:=hN.nods
     rw[hrl] at hno
     have hk7:i*7+6<L.length*7:=by omega
     replace hz:=Veil.mk hz
     replace hrl:=Veil.mk hrl
     replace hnb:=Veil.mk hnb
     replace hrest:=Veil.mk hrest
     rcases hkd with hk1 | hk2
     ·have eb:bare z=⟨false,z.1.id,0,0,(bodyG z).flags,[],[]⟩:=by unfold bare;rw[if_neg (by rw[hk1];decide)]
      have y0':w4.cell? ⟨g,i*7,none⟩=some (.bool false):=by rw[y0];show some (Value.bool (bare z).network)=_;rw[eb]
      clear CA y0
      replace eb:=Veil.mk eb
      replace hk1:=Veil.mk hk1
      have hix:i<xs.length:=by rw[hxl.out];exact hil
      have hxb:=hD.body hix hil
      rw[←hz.out] at hxb
      have hwrow:=hD.row hix
      have hlk:=hD.lnk _ (List.getElem_mem hix)
      have hln:=hSz.out.links _ (List.getElem_mem hix)
      obtain ⟨bx,hbx⟩:∃ x,x=xs[i]:=⟨_,rfl⟩
      rw[←hbx] at hwrow hlk hln hxb
      obtain ⟨bb,bcap,hbv,hbb0,hbb,hbr⟩:=hwrow
      rw[hxl.out] at hbv
      simp only[Value.slice.injEq,true_and] at hbv
      obtain ⟨rfl,rfl⟩:=hbv
      have hb1:=hbr 1 _ rfl
      rw[hxb] at hb1 hlk hln
      generalize bx.A1=xA1 at hb1 hlk
      generalize bx.c1=xc1 at hb1 hlk
      have hgb':bb≠g:=fun e=>own_apart hD.bods hN.nods (by decide) (q:=bb) rfl (by rw[e];rfl)
      obtain ⟨lk,hlk0⟩:∃ l,l=(bodyG z).links:=⟨_,rfl⟩
      rw[←hlk0] at hb1 hlk hln
      clear hbr hbx hxb
      replace hlk0:=Veil.mk hlk0
      go_upto_region 20 with fail
      go_loopg [11] lk.length (fun m u wr=>∃ (k:Nat) (ev sv:Value),k≤lk.length∧m=lk.length-k∧u=.int .i64 k∧RJ w1.heap.size L i z (.slice (some ⟨g,0,none⟩) L.length gc) rows w4 k ev sv wr)
      case atStart=>exact ⟨0,_,_,Nat.zero_le _,rfl,rfl,RJ.start hN hir hrest.out⟩
      case round =>
       obtain ⟨k,ev,sv,hk,rfl,rfl,hR⟩:=hrel
       obtain ⟨w5,rfl⟩:∃ x:World,x=wr:=⟨_,rfl⟩
       have b1:=hR.grown.cell hb1 (by show some bb≠some g;simpa using hgb')
       have hD5:=hD.grown hN.nods (by decide) (by decide) (by decide) hR.grown
       by_cases hkl:k<lk.length
       ·have ik:(k:Int)<(lk.length:Int):=by omega
        obtain ⟨lb,lo,rfl,hlb,hlr⟩:=Sl.row (f:=linkC) (s:=4) (fun _=>rfl) (Sl.of_own hlk) hkl
        have hlg:lb≠g:=fun e=>own_apart hlk hN.nods (by decide) (q:=lb) rfl (by rw[e];rfl)
        have hrl5:w5.rangeAt lb (lo+k*4) (linkC lk[k]):=fun q u hq=>hR.grown.cell (a:=⟨lb,lo+k*4+q,none⟩) (hlr q u hq) (by show some lb≠some g;simpa using hlg)
        obtain ⟨x,hx⟩:∃ x,x=lk[k]:=⟨_,rfl⟩
        rw[←hx] at hrl5
        have hxl2:x=(bodyG z).links[k]'(by rw[←hlk0.out];exact hkl):=by rw[hx];simp only[hlk0.out]
        replace hx:=Veil.mk hx
        replace hxl2:=Veil.mk hxl2
        have hx3:0≤x.cost∧x.cost<65536:=by rw[hxl2.out];exact hcz.out _ (List.getElem_mem _)
        obtain ⟨x0,x1,x2,x3⟩:=x
        have wx3:IntKind.u32.wrap x3=x3:=by
         have h:0≤x3∧x3<65536:=hx3
         rw[IntKind.wrap_u32]
         omega
        clear hx3
        dsimp only[linkC] at hrl5
        clear hlr
        go_upto_region 23 with (refine wpList_load_mid rfl 99 (.tmp 100) rfl lb (lo+k*4) rfl (#[.int .u32 x0,.int .u32 x1,.int .u8 x2,.int .u16 x3]).toList _ hrl5 Tryz.underlying99 rfl (by kernel_rfl) ?_;dsimp only)
        have k12:=Blk.new w5 99 #[.int .u32 x0,.int .u32 x1,.int .u8 x2,.int .u16 x3]
        have al5:Below w5.heap.size w5 (w5.alloc (.cells #[.int .u32 x0,.int .u32 x1,.int .u8 x2,.int .u16 x3] 99)):=(Below.refl _ _).alloc (Nat.le_refl _) _
        have hR6:=hR.call al5
        have hD6:=hD5.call al5
        generalize w5.alloc (.cells #[.int .u32 x0,.int .u32 x1,.int .u8 x2,.int .u16 x3] 99)=w6 at k12 al5 hR6 hD6 ⊢
        obtain ⟨g12,hg12⟩:∃ x,x=w5.heap.size:=⟨_,rfl⟩
        rw[←hg12] at k12 ⊢
        replace hg12:=Veil.mk hg12
        have c0:=k12.cell 0
        have c1:=k12.cell 1
        have c2:=k12.cell 2
        have c3:=k12.cell 3
        simp only[q'a,q'z,q's] at c0 c1 c2 c3
        have hkl2:k<(bodyG z).links.length:=by rw[←hlk0.out];exact hkl
        replace hkl2:=Veil.mk hkl2
        clear hrl5 hR hD5
        by_cases h3:x2=3
        ·subst h3
         have hep:edgeP L i z.1.id ⟨x0,x1,3,x3⟩=none:=if_pos rfl
         have CB:=rbits_gen x1 w6
         cases hbt:bitsB x1 with
         | false =>
          have hsp:stubP ⟨x0,x1,3,x3⟩=none:=if_neg fun h=>by rw[h.2] at hbt;cases hbt
          rw[hbt] at CB
          replace CB:=Veil.mk CB
          replace hbt:=Veil.mk hbt
          replace hep:=Veil.mk hep
          replace hsp:=Veil.mk hsp
          go_wp2_with (go_at_call 43;refine Calls.mono CB.out ?_;rintro e w6 ⟨rfl,rfl⟩)
          go_roundg (lk.length-(k+1))
          case measure=>omega
          case rel=>exact ⟨k+1,ev,sv,by omega,rfl,by go_num,hR6.skip hkl2.out (by rw[←hxl2.out];exact hep.out) (by rw[←hxl2.out];exact hsp.out)⟩
         | true =>
          have hsp:stubP ⟨x0,x1,3,x3⟩=some (bits BinOp.and IntKind.u32 x0 x1,bitsV x1,x3):=if_pos ⟨rfl,hbt⟩
          as_aux_lemma =>
           have xbits:∃ n b,n=bits BinOp.and IntKind.u32 x0 x1∧b=bitsV x1:=⟨_,_,rfl,rfl⟩
           obtain ⟨xn,xb,hxn,hxb⟩:=xbits
           rw[←hxn,←hxb] at hsp
           rw[hbt,←hxb] at CB
           replace hxn:bits BinOp.and IntKind.u32 x0 x1=xn:=hxn.symm
           replace CB:=Veil.mk CB
           replace hbt:=Veil.mk hbt
           replace hep:=Veil.mk hep
           replace hsp:=Veil.mk hsp
           replace hxb:=Veil.mk hxb
           go_upto_region 26 with (go_at_call 43;refine Calls.mono CB.out ?_;rintro e w7 ⟨rfl,hw7⟩)
           subst hw7
           have hR7:=hR6
           have k7:=k12
           clear hR6 k12 hD6 CB c0 c1 c2 c3 al5 hN hD b1 hcell y0' hb1
           have hrow7:=Sl.of_own hR7.stubs
           obtain ⟨-,vA,vc,rfl,-⟩:=id hrow7
           clear hrow7
           obtain ⟨sn,hsn⟩:∃ n,n=(rowN L i z k).stubs.length:=⟨_,rfl⟩
           obtain ⟨xs7,hxs⟩:∃ l,l=(rowN L i z k).stubs.flatMap stubC:=⟨_,rfl⟩
           have hsb:sn≤1000000:=by rw[hsn];exact Nat.le_trans (rowS_le L i z k) (by omega)
           rw[←hsn] at hR7
           obtain ⟨Y,hY⟩:∃ Y:NodR,Y=⟨rowN L i z k,ev,.slice vA sn vc⟩:=⟨_,rfl⟩
           have y6:(nodC Y)[6]?=some (.slice vA sn vc):=by rw[hY];rfl
           have hz41:w4.heap.size≤w7.heap.size:=hR7.grown.size
           have own7:=hR7.stubs
           rw[←hxs,←hsn] at own7
           have nod7:=hR7.nods
           rw[←hY] at nod7
           replace hR7:=Veil.mk hR7
           replace hsn:=Veil.mk hsn
           replace hxs:=Veil.mk hxs
           replace hY:=Veil.mk hY
           obtain ⟨w1,hw1⟩:∃ x:World,x=w7.drew:=⟨_,rfl⟩
           have ho1:w1.ownsRow w4.heap.size 103 3 (.slice vA sn vc) sn xs7:=by rw[hw1];exact own7.drew
           have nd1:=nod7.drew
           rw[←hw1] at nd1
           have q1:Blk w1 g12 99 #[.int .u32 x0,.int .u32 x1,.int .u8 3,.int .u16 x3]:=by rw[hw1];exact k7.drew_
           have B71:Below w7.heap.size w7 w1:=by rw[hw1];exact (Below.refl _ _).drew
           have hz42:=B71.size
           obtain ⟨g1,-,rc0⟩:=node_row nd1 hrl.out hir
           have rc:=rc0 6 _ y6
           clear rc0 own7 nod7 k7
           replace hw1:=Veil.mk hw1
           replace B71:=Veil.mk B71
           refine wp_region_all [some 112,some 113,some 114,some 115,some 116,some 117,some 118,some 119,some 120,some 121,some 122,some 123,some 124,some 125,some 126,some 127,some 128,some 129,some 130,some 131,some 132,some 133,none] (AppAll [some (.slice (some ⟨g,0,none⟩) L.length gc),some (.int .i64 (i:Int)),some (.slice (some ⟨g,0,none⟩) L.length gc),some (.int .i64 (i:Int)),some (.pointer (some ⟨g,i*7,none⟩)),some (.pointer (some ⟨g,i*7+6,none⟩)),some (.slice vA sn vc),some (.pointer (some ⟨g12,0,none⟩)),some (.int .u32 x0),some (.pointer (some ⟨g12,1,none⟩)),some (.int .u32 x1),some (.int .u32 xn),some (.int .u8 xb),some (.agg #[.int .u32 xn,.int .u8 xb]),some (.pointer (some ⟨g12,3,none⟩)),some (.int .u16 x3),some (.int .u32 x3),some (.agg #[.int .u32 xn,.int .u8 xb,.int .u32 x3]),some (.slice (some ⟨w1.heap.size,0,none⟩) 1 1),none,some (.pointer (some ⟨g,i*7,none⟩)),some (.pointer (some ⟨g,i*7+6,none⟩)),none] 18 19 22 w1 (w1.alloc (.cells #[.int .u32 xn,.int .u8 xb,.int .u32 x3] 103)) (fun v W=>∃ (A9:Option Addr) (c9:Nat),v=.slice A9 (sn+1) c9∧W.ownsRow w4.heap.size 103 3 (.slice A9 (sn+1) c9) (sn+1) (xs7++[.int .u32 xn,.int .u8 xb,.int .u32 x3])∧(w1.alloc (.cells #[.int .u32 xn,.int .u8 xb,.int .u32 x3] 103)).grownBy W (.slice vA sn vc:Value).ownBlock) (fun W=>∃ (A9:Option Addr) (c9:Nat) (Wz:World),Wz.ownsRow w4.heap.size 103 3 (.slice A9 (sn+1) c9) (sn+1) (xs7++[.int .u32 xn,.int .u8 xb,.int .u32 x3])∧(w1.alloc (.cells #[.int .u32 xn,.int .u8 xb,.int .u32 x3] 103)).grownBy Wz (.slice vA sn vc:Value).ownBlock∧W=Wz.setCell ⟨g,i*7+6,none⟩ (.slice A9 (sn+1) c9))) hmix.out (by kernel_rfl) rfl (by decide) (fun t=>by rw[←hw1.out];exact AppAll.start) ?_ ?_
           ·intro done t W a' hI ha hcl j1 hlt hni hd
            simp only[putFrom,Act.put,Nat.reduceAdd,s'a,s'z,s's] at ha
            subst ha
            replace hlt:j1<23:=hlt
            rcases lt_cases23 j1 hlt with rfl | rfl | rfl | rfl | rfl | rfl | rfl | rfl | rfl | rfl | rfl | rfl | rfl | rfl | rfl | rfl | rfl | rfl | rfl | rfl | rfl | rfl | rfl
            ·refine w'k rfl fun K' hK => ?_
             have hI0:=Veil.mk hI
             clear hI hcl hd
             go_wp2
             exact hK.out _ _ ⟨_,rfl,hI0.out.pure 0 _ (by decide) (by decide) (by decide) (fun u hu=>o'i (o'i hu))⟩
            ·refine w'k rfl fun K' hK => ?_
             have hI0:=Veil.mk hI
             clear hI hcl hd
             go_wp2
             exact hK.out _ _ ⟨_,rfl,hI0.out.pure 1 _ (by decide) (by decide) (by decide) (fun u hu=>o'i (o'i hu))⟩
            ·refine w'k rfl fun K' hK => ?_
             have hI0:=Veil.mk hI
             clear hI hcl hd
             go_wp2
             exact hK.out _ _ ⟨_,rfl,hI0.out.pure 2 _ (by decide) (by decide) (by decide) (fun u hu=>o'i (o'i hu))⟩
            ·refine w'k rfl fun K' hK => ?_
             have hI0:=Veil.mk hI
             clear hI hcl hd
             go_wp2
             exact hK.out _ _ ⟨_,rfl,hI0.out.pure 3 _ (by decide) (by decide) (by decide) (fun u hu=>o'i (o'i hu))⟩
            ·rw[hI.known 2 _ (hd 2 (by kernel_rfl)) rfl]
             rw[hI.known 3 _ (hd 3 (by kernel_rfl)) rfl]
             refine w'k rfl fun K' hK => ?_
             have hI0:=Veil.mk hI
             clear hI hcl hd
             go_wp2
             exact hK.out _ _ ⟨_,rfl,hI0.out.pure 4 _ (by decide) (by decide) (by decide) (fun u hu=>o'i (o'i hu))⟩
            ·rw[hI.known 4 _ (hd 4 (by kernel_rfl)) rfl]
             refine w'k rfl fun K' hK => ?_
             have hI0:=Veil.mk hI
             clear hI hcl hd
             go_wp2
             exact hK.out _ _ ⟨_,rfl,hI0.out.pure 5 _ (by decide) (by decide) (by decide) (fun u hu=>o'i (o'i hu))⟩
            ·rw[hI.known 5 _ (hd 5 (by kernel_rfl)) rfl]
             have n19:done 19=false:=by
              cases h:done 19 with
              | false=>rfl
              | true =>
               have h19_6:=hcl 19 6 h (by kernel_rfl)
               exact absurd h19_6 (by rw[hni];exact Bool.false_ne_true)
             have hWW:W=w1∨W=(w1.alloc (.cells #[.int .u32 xn,.int .u8 xb,.int .u32 x3] 103)):=by
              cases h:done 18 with
              | false=>exact .inl (hI.none_ h)
              | true=>exact .inr (hI.built h n19)
             have y3:W.cell? ⟨g,i*7+6,none⟩=some (.slice vA sn vc):=by
              rcases hWW with rfl | rfl
              ·exact rc
              ·exact (World.cell?_alloc_lt w1 _ ⟨g,i*7+6,none⟩ g1).trans rc
             replace hWW:=Veil.mk hWW
             refine w'k rfl fun K' hK => ?_
             have hI0:=Veil.mk hI
             clear hI hcl hd
             go_wp2
             exact hK.out _ _ ⟨_,rfl,hI0.out.pure 6 _ (by decide) (by decide) (by decide) (fun u hu=>o'i (o'i hu))⟩
            ·refine w'k rfl fun K' hK => ?_
             have hI0:=Veil.mk hI
             clear hI hcl hd
             go_wp2
             exact hK.out _ _ ⟨_,rfl,hI0.out.pure 7 _ (by decide) (by decide) (by decide) (fun u hu=>o'i (o'i hu))⟩
            ·rw[hI.known 7 _ (hd 7 (by kernel_rfl)) rfl]
             have n19:done 19=false:=by
              cases h:done 19 with
              | false=>rfl
              | true =>
               have h19_18:=hcl 19 18 h (by kernel_rfl)
               have h18_17:=hcl 18 17 h19_18 (by kernel_rfl)
               have h17_13:=hcl 17 13 h18_17 (by kernel_rfl)
               have h13_11:=hcl 13 11 h17_13 (by kernel_rfl)
               have h11_8:=hcl 11 8 h13_11 (by kernel_rfl)
               exact absurd h11_8 (by rw[hni];exact Bool.false_ne_true)
             have hWW:W=w1∨W=(w1.alloc (.cells #[.int .u32 xn,.int .u8 xb,.int .u32 x3] 103)):=by
              cases h:done 18 with
              | false=>exact .inl (hI.none_ h)
              | true=>exact .inr (hI.built h n19)
             have y3:W.cell? ⟨g12,0,none⟩=some (.int .u32 x0):=by
              rcases hWW with rfl | rfl
              ·exact q1.cell 0
              ·exact (q1.alloc (.cells #[.int .u32 xn,.int .u8 xb,.int .u32 x3] 103)).cell 0
             replace hWW:=Veil.mk hWW
             refine w'k rfl fun K' hK => ?_
             have hI0:=Veil.mk hI
             clear hI hcl hd
             go_wp2
             exact hK.out _ _ ⟨_,rfl,hI0.out.pure 8 _ (by decide) (by decide) (by decide) (fun u hu=>o'i (o'i hu))⟩
            ·refine w'k rfl fun K' hK => ?_
             have hI0:=Veil.mk hI
             clear hI hcl hd
             go_wp2
             exact hK.out _ _ ⟨_,rfl,hI0.out.pure 9 _ (by decide) (by decide) (by decide) (fun u hu=>o'i (o'i hu))⟩
            ·rw[hI.known 9 _ (hd 9 (by kernel_rfl)) rfl]
             have n19:done 19=false:=by
              cases h:done 19 with
              | false=>rfl
              | true =>
               have h19_18:=hcl 19 18 h (by kernel_rfl)
               have h18_17:=hcl 18 17 h19_18 (by kernel_rfl)
               have h17_13:=hcl 17 13 h18_17 (by kernel_rfl)
               have h13_11:=hcl 13 11 h17_13 (by kernel_rfl)
               have h11_10:=hcl 11 10 h13_11 (by kernel_rfl)
               exact absurd h11_10 (by rw[hni];exact Bool.false_ne_true)
             have hWW:W=w1∨W=(w1.alloc (.cells #[.int .u32 xn,.int .u8 xb,.int .u32 x3] 103)):=by
              cases h:done 18 with
              | false=>exact .inl (hI.none_ h)
              | true=>exact .inr (hI.built h n19)
             have y3:W.cell? ⟨g12,1,none⟩=some (.int .u32 x1):=by
              rcases hWW with rfl | rfl
              ·exact q1.cell 1
              ·exact (q1.alloc (.cells #[.int .u32 xn,.int .u8 xb,.int .u32 x3] 103)).cell 1
             replace hWW:=Veil.mk hWW
             refine w'k rfl fun K' hK => ?_
             have hI0:=Veil.mk hI
             clear hI hcl hd
             go_wp2
             exact hK.out _ _ ⟨_,rfl,hI0.out.pure 10 _ (by decide) (by decide) (by decide) (fun u hu=>o'i (o'i hu))⟩
            ·rw[hI.known 8 _ (hd 8 (by kernel_rfl)) rfl]
             rw[hI.known 10 _ (hd 10 (by kernel_rfl)) rfl]
             refine w'k rfl fun K' hK => ?_
             have hI0:=Veil.mk hI
             clear hI hcl hd
             go_wp2
             exact hK.out _ _ ⟨_,rfl,hI0.out.pure 11 _ (by decide) (by decide) (by decide) (fun u hu=>o'i (o'i hu))⟩
            ·refine w'k rfl fun K' hK => ?_
             have hI0:=Veil.mk hI
             clear hI hcl hd
             go_wp2
             exact hK.out _ _ ⟨_,rfl,hI0.out.pure 12 _ (by decide) (by decide) (by decide) (fun u hu=>o'i (o'i hu))⟩
            ·rw[hI.known 11 _ (hd 11 (by kernel_rfl)) rfl]
             rw[hI.known 12 _ (hd 12 (by kernel_rfl)) rfl]
             refine w'k rfl fun K' hK => ?_
             have hI0:=Veil.mk hI
             clear hI hcl hd
             go_wp2
             exact hK.out _ _ ⟨_,rfl,hI0.out.pure 13 _ (by decide) (by decide) (by decide) (fun u hu=>o'i (o'i hu))⟩
            ·refine w'k rfl fun K' hK => ?_
             have hI0:=Veil.mk hI
             clear hI hcl hd
             go_wp2
             exact hK.out _ _ ⟨_,rfl,hI0.out.pure 14 _ (by decide) (by decide) (by decide) (fun u hu=>o'i (o'i hu))⟩
            ·rw[hI.known 14 _ (hd 14 (by kernel_rfl)) rfl]
             have n19:done 19=false:=by
              cases h:done 19 with
              | false=>rfl
              | true =>
               have h19_18:=hcl 19 18 h (by kernel_rfl)
               have h18_17:=hcl 18 17 h19_18 (by kernel_rfl)
               have h17_16:=hcl 17 16 h18_17 (by kernel_rfl)
               have h16_15:=hcl 16 15 h17_16 (by kernel_rfl)
               exact absurd h16_15 (by rw[hni];exact Bool.false_ne_true)
             have hWW:W=w1∨W=(w1.alloc (.cells #[.int .u32 xn,.int .u8 xb,.int .u32 x3] 103)):=by
              cases h:done 18 with
              | false=>exact .inl (hI.none_ h)
              | true=>exact .inr (hI.built h n19)
             have y3:W.cell? ⟨g12,3,none⟩=some (.int .u16 x3):=by
              rcases hWW with rfl | rfl
              ·exact q1.cell 3
              ·exact (q1.alloc (.cells #[.int .u32 xn,.int .u8 xb,.int .u32 x3] 103)).cell 3
             replace hWW:=Veil.mk hWW
             refine w'k rfl fun K' hK => ?_
             have hI0:=Veil.mk hI
             clear hI hcl hd
             go_wp2
             exact hK.out _ _ ⟨_,rfl,hI0.out.pure 15 _ (by decide) (by decide) (by decide) (fun u hu=>o'i (o'i hu))⟩
            ·rw[hI.known 15 _ (hd 15 (by kernel_rfl)) rfl]
             refine w'k rfl fun K' hK => ?_
             have hI0:=Veil.mk hI
             clear hI hcl hd
             go_wp2
             exact hK.out _ _ ⟨_,rfl,hI0.out.pure 16 _ (by decide) (by decide) (by decide) (fun u hu=>o'i (o'i hu))⟩
            ·rw[hI.known 13 _ (hd 13 (by kernel_rfl)) rfl]
             rw[hI.known 16 _ (hd 16 (by kernel_rfl)) rfl]
             refine w'k rfl fun K' hK => ?_
             have hI0:=Veil.mk hI
             clear hI hcl hd
             go_wp2
             exact hK.out _ _ ⟨_,rfl,hI0.out.pure 17 _ (by decide) (by decide) (by decide) (fun u hu=>o'i (o'i hu))⟩
            ·rw[hI.known 17 _ (hd 17 (by kernel_rfl)) rfl]
             have n19:done 19=false:=by
              cases h:done 19 with
              | false=>rfl
              | true =>
               have h19_18:=hcl 19 18 h (by kernel_rfl)
               exact absurd h19_18 (by rw[hni];exact Bool.false_ne_true)
             have n22:done 22=false:=by
              cases h:done 22 with
              | false=>rfl
              | true =>
               have h22_19:=hcl 22 19 h (by kernel_rfl)
               have h19_18:=hcl 19 18 h22_19 (by kernel_rfl)
               exact absurd h19_18 (by rw[hni];exact Bool.false_ne_true)
             obtain rfl:W=w1:=hI.none_ hni
             refine w'k rfl fun K' hK => ?_
             have hI0:=Veil.mk hI
             clear hI hcl hd
             go_wp2
             exact hK.out _ _ ⟨_,rfl,hI0.out.build _ (by decide) (by decide) n19 n22 (fun u hu=>o'i (o'i hu))⟩
            ·rw[hI.known 6 _ (hd 6 (by kernel_rfl)) rfl]
             rw[hI.known 18 _ (hd 18 (by kernel_rfl)) rfl]
             have n22:done 22=false:=by
              cases h:done 22 with
              | false=>rfl
              | true =>
               have h22_19:=hcl 22 19 h (by kernel_rfl)
               exact absurd h22_19 (by rw[hni];exact Bool.false_ne_true)
             have hdB:=hd 18 (by kernel_rfl)
             obtain rfl:W=(w1.alloc (.cells #[.int .u32 xn,.int .u8 xb,.int .u32 x3] 103)):=hI.built hdB hni
             refine w'k rfl fun K' hK => ?_
             have hI0:=Veil.mk hI
             clear hI hcl hd
             split
             ·refine wp_append (.tmp 118) (.tmp 130) 93 rfl w4.heap.size rstuT (.slice vA sn vc) sn (xs7) rfl (own_alloc ho1 _) _ _ 1 ([.int .u32 xn,.int .u8 xb,.int .u32 x3]) rfl (Sl.lit w1 #[.int .u32 xn,.int .u8 xb,.int .u32 x3] 103 (by simp[maxLen]) rfl) (by simp[Value.oneCell']) (by simp only[maxLen];omega) (by omega) (by simp;omega) ?_
              intro v6 w6 ho6 hg6 hb6
              obtain ⟨-,A9,c9,rfl,-⟩:=id (Sl.of_own ho6)
              exact hK.out _ _ ⟨_,rfl,hI0.out.append _ (by decide) (by decide) hdB n22 (fun u hu=>by cases hu) ⟨A9,c9,rfl,ho6,hg6⟩⟩
             ·rename_i hno
              exact absurd rfl hno
            ·rw[hI.known 0 _ (hd 0 (by kernel_rfl)) rfl]
             rw[hI.known 1 _ (hd 1 (by kernel_rfl)) rfl]
             refine w'k rfl fun K' hK => ?_
             have hI0:=Veil.mk hI
             clear hI hcl hd
             go_wp2
             exact hK.out _ _ ⟨_,rfl,hI0.out.pure 20 _ (by decide) (by decide) (by decide) (fun u hu=>o'i (o'i hu))⟩
            ·rw[hI.known 20 _ (hd 20 (by kernel_rfl)) rfl]
             refine w'k rfl fun K' hK => ?_
             have hI0:=Veil.mk hI
             clear hI hcl hd
             go_wp2
             exact hK.out _ _ ⟨_,rfl,hI0.out.pure 21 _ (by decide) (by decide) (by decide) (fun u hu=>o'i (o'i hu))⟩
            ·rw[hI.known 21 _ (hd 21 (by kernel_rfl)) rfl]
             obtain ⟨A9,c9,d19,ho9,hg9⟩:=hI.app (hd 19 (by kernel_rfl)) hni
             rw[d19]
             have hdJ:=hd 19 (by kernel_rfl)
             have hdB:=hcl 19 18 hdJ (by kernel_rfl)
             have hnz:=own_grown (own_alloc ho1 (.cells #[.int .u32 xn,.int .u8 xb,.int .u32 x3] 103)) (own_alloc nd1 (.cells #[.int .u32 xn,.int .u8 xb,.int .u32 x3] 103)) hg9 (by decide)
             obtain ⟨-,f3,y3⟩:=node_row hnz hrl.out hir
             replace f3:=f3 (i*7+6)
             replace y3:=y3 6 _ y6
             clear hnz
             replace ho9:=h'd ho9
             replace hg9:=h'd hg9
             refine w'k rfl fun K' hK => ?_
             have hI0:=Veil.mk hI
             clear hI hcl hd
             go_wp2
             exact hK.out _ _ ⟨undef,rfl,hI0.out.store _ (by decide) (by decide) hdB hdJ (fun u hu=>by cases hu) ⟨A9,c9,_,ho9,hg9,rfl⟩⟩
           ·intro done t W a' hI hall ha
            simp only[putFrom,Act.put,Nat.reduceAdd,s'a,s'z,s's] at ha
            subst ha
            obtain ⟨A9,c9,Wz,ho9,hg9,rfl⟩:=hI.stored (hall 22 (by decide))
            clear hI hall
            have hR8:=hR7.out.stub hkl2.out hir (by rw[←hxl2.out];exact hep.out) (by rw[←hxl2.out];exact hsp.out) rfl (Below.alloc B71.out B71.out.size (.cells #[.int .u32 xn,.int .u8 xb,.int .u32 x3] 103)) (by rw[←hsn.out,←hxs.out];exact ho9) hg9
            replace hR8:=Veil.mk hR8
            clear ho9 hg9 ho1 nd1 q1 rc y6 hR7
            generalize Wz.setCell ⟨g,i*7+6,none⟩ (.slice A9 (sn+1) c9)=w8 at hR8 ⊢
            go_wp2
            go_roundg (lk.length-(k+1))
            case measure=>omega
            case rel=>exact ⟨k+1,_,_,by omega,rfl,by go_num,hR8.out⟩
        ·have e3:(x2==3)=false:=by simpa using h3
         have hsp:stubP ⟨x0,x1,x2,x3⟩=none:=if_neg fun h=>h3 h.1
         have hrs:(rows.set i ⟨rowN L i z k,ev,sv⟩).length=L.length:=by rw[List.length_set];exact hrl.out
         have hbid:(bare z).network=rows[i].n.network∧(bare z).id=rows[i].n.id:=by rw[hrest.out];exact ⟨rfl,rfl⟩
         have hfs:=(find_set (y:=⟨rowN L i z k,ev,sv⟩) hir hbid.1 hbid.2 (x2==2) x0).trans (find_rows hN (x2==2) x0)
         have hns:=Sl.of_own hR6.nods
         have CF:=rfind_any (x2==2) x0 w6.heap.size (.slice (some ⟨g,0,none⟩) L.length gc) (rows.set i ⟨rowN L i z k,ev,sv⟩) w6 (by rw[hrs];exact hns) (by rw[hrs];omega)
         rw[hfs] at CF
         clear hfs hrs hns hbid
         cases hat:atN L (x2==2,x0) with
         | none =>
          have hep:edgeP L i z.1.id ⟨x0,x1,x2,x3⟩=none:=by
           unfold edgeP
           rw[if_neg h3]
           simp only
           rw[hat]
          rw[hat] at CF
          dsimp only[idxI] at CF
          replace CF:=Veil.mk CF
          replace hat:=Veil.mk hat
          replace hep:=Veil.mk hep
          replace hsp:=Veil.mk hsp
          replace h3:=Veil.mk h3
          have hsk:=hR6.skip hkl2.out (by rw[←hxl2.out];exact hep.out) (by rw[←hxl2.out];exact hsp.out)
          as_aux_lemma =>
           go_upto_region 28 with (go_at_call 16;refine Calls.mono CF.out ?_;rintro e w7 ⟨rfl,hw7⟩)
           subst hw7
           have n1:decide ((-1:Int)<0)=true:=by decide
           clear hR6 hD6 hN hD
           go_quiet (fail)
           have hsk':=fun n=>hsk.call (below_drewN (Below.refl w7.heap.size w7) n)
           clear hsk
           go_wp2
           go_roundg (lk.length-(k+1))
           case measure=>omega
           case rel=>exact ⟨k+1,ev,sv,by omega,rfl,by go_num,hsk' _⟩
         | some tj =>
          obtain ⟨htL,-⟩:=atN_some hat
          rw[hat] at CF
          dsimp only[idxI] at CF
          have htx:tj<xs.length:=by rw[hxl.out];exact htL
          have it:(tj:Int)<(L.length:Int):=by omega
          have it0:decide ((tj:Int)<0)=false:=decide_eq_false (by omega)
          have hed:edgeP L i z.1.id ⟨x0,x1,x2,x3⟩=if tj=i then none else if backP L z.1.id ⟨x0,x1,x2,x3⟩ tj=true then some ⟨tj,x3,x1,x2==4⟩ else none:=by
           unfold edgeP
           rw[if_neg h3]
           simp only
           rw[hat]
          replace CF:=Veil.mk CF
          replace hat:=Veil.mk hat
          replace hsp:=Veil.mk hsp
          by_cases hti:tj=i
          ·as_aux_lemma =>
            have hep:edgeP L i z.1.id ⟨x0,x1,x2,x3⟩=none:=by rw[hed,if_pos hti]
            clear hed
            have qti:((tj:Int)==(i:Int))=true:=by simp[hti]
            replace h3:=Veil.mk h3
            have hsk:=hR6.skip hkl2.out (by rw[←hxl2.out];exact hep) (by rw[←hxl2.out];exact hsp.out)
            replace hep:=Veil.mk hep
            clear hti
            go_upto_region 28 with (go_at_call 16;refine Calls.mono CF.out ?_;rintro e w7 ⟨rfl,hw7⟩)
            subst hw7
            clear hR6 hD6 hN hD
            go_quiet (fail)
            have hsk':=fun n=>hsk.call (below_drewN (Below.refl w7.heap.size w7) n)
            clear hsk
            go_wp2
            go_roundg (lk.length-(k+1))
            case measure=>omega
            case rel=>exact ⟨k+1,ev,sv,by omega,rfl,by go_num,hsk' _⟩
          ·have qti:((tj:Int)==(i:Int))=false:=by simp;omega
           rw[if_neg hti] at hed
           obtain ⟨bb',bc',hv',-,hbb',hyr⟩:=hD6.row htx
           rw[hxl.out] at hv'
           simp only[Value.slice.injEq,Option.some.injEq,Addr.mk.injEq,true_and,and_true] at hv'
           obtain ⟨rfl,rfl⟩:=hv'
           have hyl:=hD6.lnk _ (List.getElem_mem htx)
           have hyo:=hD6.rou _ (List.getElem_mem htx)
           have hyb:=hD6.body htx htL
           have hynl:=hSz.out.links _ (List.getElem_mem htx)
           have hynr:=hSz.out.routers _ (List.getElem_mem htx)
           obtain ⟨y,hy⟩:∃ y,y=xs[tj]:=⟨_,rfl⟩
           rw[←hy] at hyr hyl hyo hyb hynl hynr
           clear hy
           have hback:backP L z.1.id ⟨x0,x1,x2,x3⟩ tj=if x2=2 then hasP y.b z.1.id else linksP y.b x2 z.1.id:=by
            unfold backP
            rw[bodyOf_get htL,←hyb]
           rw[hback] at hed
           clear hback hyb hti
           obtain ⟨g6l,-,rc6⟩:=node_row hR6.nods hrl.out hir
           have a1:w6.cell? ⟨g,i*7+1,none⟩=some (.int .u32 z.1.id):=by
            have h:=rc6 1 _ rfl
            rw[h]
            show some (Value.int .u32 (bare z).id)=_
            rw[eb.out]
           clear rc6
           obtain ⟨nid,hnid⟩:∃ x,x=z.1.id:=⟨_,rfl⟩
           rw[←hnid] at a1
           obtain ⟨q4,hq4⟩:∃ b,(x2==4)=b:=⟨_,rfl⟩
           rw[hq4,←hnid] at hed
           have hg12l:g12<w6.heap.size:=k12.lt
           replace hyr:=Veil.mk hyr
           by_cases h2:x2=2
           ·subst h2
            rw[if_pos rfl] at hed
            have CL:=fun (W:World) (h:Below w6.heap.size w6 W)=>rhas_any _ y nid W (Sl.of_own (own_below hyo h)) (Nat.le_refl _) hynr
            generalize hasP y.b nid=q at CL hed
            clear hyl hyo hynl hynr hD6 hN hD
            replace h3:=Veil.mk h3
            cases q
            ·as_aux_lemma =>
              replace CL:=Veil.mk CL
              rw[if_neg Bool.false_ne_true] at hed
              rw[hnid] at hed
              have hep:=Veil.mk hed
              clear hed
              replace hnid:=Veil.mk hnid
              go_upto_region 28 with (go_at_call 16;refine Calls.mono CF.out ?_;rintro e w7 ⟨rfl,hw7⟩)
              subst hw7
              obtain ⟨w6,rfl⟩:∃ x:World,x=w7:=⟨_,rfl⟩
              replace hR6:=Veil.mk hR6
              replace CF:=Veil.mk True.intro
              clear c0 c1 c3 al5 b1 hcell hb1
              have f2:∀ n:Ext w6,n.val.cell? ⟨g12,2,none⟩=some (.int .u8 2):=fun n=>n.cell c2 hg12l
              have b0':∀ n:Ext w6,n.val.cell? ⟨bb,tj*9,none⟩=some (.int .u8 y.b.flags):=fun n=>n.cell (hyr.out 0 _ rfl) hbb'
              have b1':∀ n:Ext w6,n.val.cell? ⟨bb,tj*9+1,none⟩=some (.slice y.A1 y.b.links.length y.c1):=fun n=>n.cell (hyr.out 1 _ rfl) hbb'
              have b2':∀ n:Ext w6,n.val.cell? ⟨bb,tj*9+2,none⟩=some (.int .u32 y.b.mask):=fun n=>n.cell (hyr.out 2 _ rfl) hbb'
              have b3':∀ n:Ext w6,n.val.cell? ⟨bb,tj*9+3,none⟩=some (.slice y.A2 y.b.routers.length y.c2):=fun n=>n.cell (hyr.out 3 _ rfl) hbb'
              have b4':∀ n:Ext w6,n.val.cell? ⟨bb,tj*9+4,none⟩=some (.int .u32 y.b.metric):=fun n=>n.cell (hyr.out 4 _ rfl) hbb'
              have b5':∀ n:Ext w6,n.val.cell? ⟨bb,tj*9+5,none⟩=some (.bool y.b.t2):=fun n=>n.cell (hyr.out 5 _ rfl) hbb'
              have b6':∀ n:Ext w6,n.val.cell? ⟨bb,tj*9+6,none⟩=some (.int .u32 y.b.fw):=fun n=>n.cell (hyr.out 6 _ rfl) hbb'
              have b7':∀ n:Ext w6,n.val.cell? ⟨bb,tj*9+7,none⟩=some (.int .u32 y.b.tg):=fun n=>n.cell (hyr.out 7 _ rfl) hbb'
              have b8':∀ n:Ext w6,n.val.cell? ⟨bb,tj*9+8,none⟩=some (.slice y.A3 y.b.data.length y.c3):=fun n=>n.cell (hyr.out 8 _ rfl) hbb'
              have fa:∀ n:Ext w6,n.val.cell? ⟨g,i*7+1,none⟩=some (.int .u32 nid):=fun n=>n.cell a1 g6l
              have CX:∀ n:Ext w6,Calls Tryz.prog 44 #[.agg #[.int .u8 y.b.flags,.slice y.A1 y.b.links.length y.c1,.int .u32 y.b.mask,.slice y.A2 y.b.routers.length y.c2,.int .u32 y.b.metric,.bool y.b.t2,.int .u32 y.b.fw,.int .u32 y.b.tg,.slice y.A3 y.b.data.length y.c3],.int .u32 nid] n.val fun e w'=>e=.returned (.bool false)∧∃ m:Ext w6,w'=m.val:=fun n=>ext_call (CL.out n.val n.prop)
              replace CX:=Veil.mk CX
              refine wp_region_ext (w:=w6) hmix.out (by kernel_rfl) ?_
              repeat (go_big_quiet_step ((go_at_call 44;with_reducible exact CX.out _)))
              refine wpQuiet_nil ?_
              rintro _ ⟨nq,rfl⟩
              have hI':=nq.prop
              clear CX f2 fa b0' b1' b2' b3' b4' b5' b6' b7' b8'
              generalize nq.val=w7 at hI' ⊢
              have hsk':=(hR6.out.skip hkl2.out (by rw[←hxl2.out];exact hep.out) (by rw[←hxl2.out];exact hsp.out)).call hI'
              clear hR6
              go_wp2
              go_roundg (lk.length-(k+1))
              case measure=>omega
              case rel=>exact ⟨k+1,ev,sv,by omega,rfl,by go_num,hsk'⟩
            ·as_aux_lemma =>
              replace CL:=Veil.mk CL
              rw[if_pos rfl] at hed
              rw[hnid] at hed
              have hep:=Veil.mk hed
              clear hed
              replace hnid:=Veil.mk hnid
              go_upto_region 28 with (go_at_call 16;refine Calls.mono CF.out ?_;rintro e w7 ⟨rfl,hw7⟩)
              subst hw7
              obtain ⟨w6,rfl⟩:∃ x:World,x=w7:=⟨_,rfl⟩
              replace hR6:=Veil.mk hR6
              replace CF:=Veil.mk True.intro
              clear c0 c1 c3 al5 b1 hcell hb1
              have f2:∀ n:Ext w6,n.val.cell? ⟨g12,2,none⟩=some (.int .u8 2):=fun n=>n.cell c2 hg12l
              have b0':∀ n:Ext w6,n.val.cell? ⟨bb,tj*9,none⟩=some (.int .u8 y.b.flags):=fun n=>n.cell (hyr.out 0 _ rfl) hbb'
              have b1':∀ n:Ext w6,n.val.cell? ⟨bb,tj*9+1,none⟩=some (.slice y.A1 y.b.links.length y.c1):=fun n=>n.cell (hyr.out 1 _ rfl) hbb'
              have b2':∀ n:Ext w6,n.val.cell? ⟨bb,tj*9+2,none⟩=some (.int .u32 y.b.mask):=fun n=>n.cell (hyr.out 2 _ rfl) hbb'
              have b3':∀ n:Ext w6,n.val.cell? ⟨bb,tj*9+3,none⟩=some (.slice y.A2 y.b.routers.length y.c2):=fun n=>n.cell (hyr.out 3 _ rfl) hbb'
              have b4':∀ n:Ext w6,n.val.cell? ⟨bb,tj*9+4,none⟩=some (.int .u32 y.b.metric):=fun n=>n.cell (hyr.out 4 _ rfl) hbb'
              have b5':∀ n:Ext w6,n.val.cell? ⟨bb,tj*9+5,none⟩=some (.bool y.b.t2):=fun n=>n.cell (hyr.out 5 _ rfl) hbb'
              have b6':∀ n:Ext w6,n.val.cell? ⟨bb,tj*9+6,none⟩=some (.int .u32 y.b.fw):=fun n=>n.cell (hyr.out 6 _ rfl) hbb'
              have b7':∀ n:Ext w6,n.val.cell? ⟨bb,tj*9+7,none⟩=some (.int .u32 y.b.tg):=fun n=>n.cell (hyr.out 7 _ rfl) hbb'
              have b8':∀ n:Ext w6,n.val.cell? ⟨bb,tj*9+8,none⟩=some (.slice y.A3 y.b.data.length y.c3):=fun n=>n.cell (hyr.out 8 _ rfl) hbb'
              have fa:∀ n:Ext w6,n.val.cell? ⟨g,i*7+1,none⟩=some (.int .u32 nid):=fun n=>n.cell a1 g6l
              have CX:∀ n:Ext w6,Calls Tryz.prog 44 #[.agg #[.int .u8 y.b.flags,.slice y.A1 y.b.links.length y.c1,.int .u32 y.b.mask,.slice y.A2 y.b.routers.length y.c2,.int .u32 y.b.metric,.bool y.b.t2,.int .u32 y.b.fw,.int .u32 y.b.tg,.slice y.A3 y.b.data.length y.c3],.int .u32 nid] n.val fun e w'=>e=.returned (.bool true)∧∃ m:Ext w6,w'=m.val:=fun n=>ext_call (CL.out n.val n.prop)
              replace CX:=Veil.mk CX
              refine wp_region_ext (w:=w6) hmix.out (by kernel_rfl) ?_
              repeat (go_big_quiet_step ((go_at_call 44;with_reducible exact CX.out _)))
              refine wpQuiet_nil ?_
              rintro _ ⟨nq,rfl⟩
              have hI':=nq.prop
              clear CX f2 fa b0' b1' b2' b3' b4' b5' b6' b7' b8'
              generalize nq.val=w7 at hI' ⊢
              have hR7:=hR6.out.call hI'
              have k7:=k12.below hI' k12.lt
              clear hR6 k12 CL c2 a1 hyr
              replace hI':=Veil.mk hI'
              go_upto_region 29 with fail
              have hrow7:=Sl.of_own hR7.edges
              obtain ⟨-,vA,vc,rfl,-⟩:=id hrow7
              clear hrow7
              obtain ⟨sn,hsn⟩:∃ n,n=(rowN L i z k).edges.length:=⟨_,rfl⟩
              obtain ⟨xs7,hxs⟩:∃ l,l=(rowN L i z k).edges.flatMap edgeC:=⟨_,rfl⟩
              have hsb:sn≤1000000:=by rw[hsn];exact Nat.le_trans (rowE_le L i z k) (by omega)
              rw[←hsn] at hR7
              obtain ⟨Y,hY⟩:∃ Y:NodR,Y=⟨rowN L i z k,.slice vA sn vc,sv⟩:=⟨_,rfl⟩
              have y6:(nodC Y)[5]?=some (.slice vA sn vc):=by rw[hY];rfl
              have hz41:w4.heap.size≤w7.heap.size:=hR7.grown.size
              have own7:=hR7.edges
              rw[←hxs,←hsn] at own7
              have nod7:=hR7.nods
              rw[←hY] at nod7
              replace hR7:=Veil.mk hR7
              replace hsn:=Veil.mk hsn
              replace hxs:=Veil.mk hxs
              replace hY:=Veil.mk hY
              obtain ⟨w1,hw1⟩:∃ x:World,x=w7.drew:=⟨_,rfl⟩
              have ho1:w1.ownsRow w4.heap.size 106 4 (.slice vA sn vc) sn xs7:=by rw[hw1];exact own7.drew
              have nd1:=nod7.drew
              rw[←hw1] at nd1
              have q1:Blk w1 g12 99 #[.int .u32 x0,.int .u32 x1,.int .u8 2,.int .u16 x3]:=by rw[hw1];exact k7.drew_
              have B71:Below w7.heap.size w7 w1:=by rw[hw1];exact (Below.refl _ _).drew
              have hz42:=B71.size
              obtain ⟨g1,-,rc0⟩:=node_row nd1 hrl.out hir
              have rc:=rc0 5 _ y6
              clear rc0 own7 nod7 k7
              replace hw1:=Veil.mk hw1
              replace B71:=Veil.mk B71
              refine wp_region_all [some 186,some 187,some 188,some 189,some 190,some 191,some 192,some 193,some 194,some 195,some 196,some 197,some 198,some 199,some 200,some 201,some 202,some 203,some 204,some 205,some 206,none] (AppAll [some (.slice (some ⟨g,0,none⟩) L.length gc),some (.int .i64 (i:Int)),some (.slice (some ⟨g,0,none⟩) L.length gc),some (.int .i64 (i:Int)),some (.pointer (some ⟨g,i*7,none⟩)),some (.pointer (some ⟨g,i*7+5,none⟩)),some (.slice vA sn vc),some (.int .i64 (tj:Int)),some (.pointer (some ⟨g12,3,none⟩)),some (.int .u16 x3),some (.int .u32 x3),some (.pointer (some ⟨g12,1,none⟩)),some (.int .u32 x1),some (.pointer (some ⟨g12,2,none⟩)),some (.int .u8 2),some (.bool q4),some (.agg #[.int .i64 tj,.int .u32 x3,.int .u32 x1,.bool q4]),some (.slice (some ⟨w1.heap.size,0,none⟩) 1 1),none,some (.pointer (some ⟨g,i*7,none⟩)),some (.pointer (some ⟨g,i*7+5,none⟩)),none] 17 18 21 w1 (w1.alloc (.cells #[.int .i64 tj,.int .u32 x3,.int .u32 x1,.bool q4] 106)) (fun v W=>∃ (A9:Option Addr) (c9:Nat),v=.slice A9 (sn+1) c9∧W.ownsRow w4.heap.size 106 4 (.slice A9 (sn+1) c9) (sn+1) (xs7++[.int .i64 tj,.int .u32 x3,.int .u32 x1,.bool q4])∧(w1.alloc (.cells #[.int .i64 tj,.int .u32 x3,.int .u32 x1,.bool q4] 106)).grownBy W (.slice vA sn vc:Value).ownBlock) (fun W=>∃ (A9:Option Addr) (c9:Nat) (Wz:World),Wz.ownsRow w4.heap.size 106 4 (.slice A9 (sn+1) c9) (sn+1) (xs7++[.int .i64 tj,.int .u32 x3,.int .u32 x1,.bool q4])∧(w1.alloc (.cells #[.int .i64 tj,.int .u32 x3,.int .u32 x1,.bool q4] 106)).grownBy Wz (.slice vA sn vc:Value).ownBlock∧W=Wz.setCell ⟨g,i*7+5,none⟩ (.slice A9 (sn+1) c9))) hmix.out (by kernel_rfl) rfl (by decide) (fun t=>by rw[←hw1.out];exact AppAll.start) ?_ ?_
              ·intro done t W a' hI ha hcl j1 hlt hni hd
               simp only[putFrom,Act.put,Nat.reduceAdd,s'a,s'z,s's] at ha
               subst ha
               replace hlt:j1<22:=hlt
               rcases lt_cases22 j1 hlt with rfl | rfl | rfl | rfl | rfl | rfl | rfl | rfl | rfl | rfl | rfl | rfl | rfl | rfl | rfl | rfl | rfl | rfl | rfl | rfl | rfl | rfl
               ·refine w'k rfl fun K' hK => ?_
                have hI0:=Veil.mk hI
                clear hI hcl hd
                go_wp2
                exact hK.out _ _ ⟨_,rfl,hI0.out.pure 0 _ (by decide) (by decide) (by decide) (fun u hu=>o'i (o'i hu))⟩
               ·refine w'k rfl fun K' hK => ?_
                have hI0:=Veil.mk hI
                clear hI hcl hd
                go_wp2
                exact hK.out _ _ ⟨_,rfl,hI0.out.pure 1 _ (by decide) (by decide) (by decide) (fun u hu=>o'i (o'i hu))⟩
               ·refine w'k rfl fun K' hK => ?_
                have hI0:=Veil.mk hI
                clear hI hcl hd
                go_wp2
                exact hK.out _ _ ⟨_,rfl,hI0.out.pure 2 _ (by decide) (by decide) (by decide) (fun u hu=>o'i (o'i hu))⟩
               ·refine w'k rfl fun K' hK => ?_
                have hI0:=Veil.mk hI
                clear hI hcl hd
                go_wp2
                exact hK.out _ _ ⟨_,rfl,hI0.out.pure 3 _ (by decide) (by decide) (by decide) (fun u hu=>o'i (o'i hu))⟩
               ·rw[hI.known 2 _ (hd 2 (by kernel_rfl)) rfl]
                rw[hI.known 3 _ (hd 3 (by kernel_rfl)) rfl]
                refine w'k rfl fun K' hK => ?_
                have hI0:=Veil.mk hI
                clear hI hcl hd
                go_wp2
                exact hK.out _ _ ⟨_,rfl,hI0.out.pure 4 _ (by decide) (by decide) (by decide) (fun u hu=>o'i (o'i hu))⟩
               ·rw[hI.known 4 _ (hd 4 (by kernel_rfl)) rfl]
                refine w'k rfl fun K' hK => ?_
                have hI0:=Veil.mk hI
                clear hI hcl hd
                go_wp2
                exact hK.out _ _ ⟨_,rfl,hI0.out.pure 5 _ (by decide) (by decide) (by decide) (fun u hu=>o'i (o'i hu))⟩
               ·rw[hI.known 5 _ (hd 5 (by kernel_rfl)) rfl]
                have n18:done 18=false:=by
                 cases h:done 18 with
                 | false=>rfl
                 | true =>
                  have h18_6:=hcl 18 6 h (by kernel_rfl)
                  exact absurd h18_6 (by rw[hni];exact Bool.false_ne_true)
                have hWW:W=w1∨W=(w1.alloc (.cells #[.int .i64 tj,.int .u32 x3,.int .u32 x1,.bool q4] 106)):=by
                 cases h:done 17 with
                 | false=>exact .inl (hI.none_ h)
                 | true=>exact .inr (hI.built h n18)
                have y3:W.cell? ⟨g,i*7+5,none⟩=some (.slice vA sn vc):=by
                 rcases hWW with rfl | rfl
                 ·exact rc
                 ·exact (World.cell?_alloc_lt w1 _ ⟨g,i*7+5,none⟩ g1).trans rc
                replace hWW:=Veil.mk hWW
                refine w'k rfl fun K' hK => ?_
                have hI0:=Veil.mk hI
                clear hI hcl hd
                go_wp2
                exact hK.out _ _ ⟨_,rfl,hI0.out.pure 6 _ (by decide) (by decide) (by decide) (fun u hu=>o'i (o'i hu))⟩
               ·refine w'k rfl fun K' hK => ?_
                have hI0:=Veil.mk hI
                clear hI hcl hd
                go_wp2
                exact hK.out _ _ ⟨_,rfl,hI0.out.pure 7 _ (by decide) (by decide) (by decide) (fun u hu=>o'i (o'i hu))⟩
               ·refine w'k rfl fun K' hK => ?_
                have hI0:=Veil.mk hI
                clear hI hcl hd
                go_wp2
                exact hK.out _ _ ⟨_,rfl,hI0.out.pure 8 _ (by decide) (by decide) (by decide) (fun u hu=>o'i (o'i hu))⟩
               ·rw[hI.known 8 _ (hd 8 (by kernel_rfl)) rfl]
                have n18:done 18=false:=by
                 cases h:done 18 with
                 | false=>rfl
                 | true =>
                  have h18_17:=hcl 18 17 h (by kernel_rfl)
                  have h17_16:=hcl 17 16 h18_17 (by kernel_rfl)
                  have h16_10:=hcl 16 10 h17_16 (by kernel_rfl)
                  have h10_9:=hcl 10 9 h16_10 (by kernel_rfl)
                  exact absurd h10_9 (by rw[hni];exact Bool.false_ne_true)
                have hWW:W=w1∨W=(w1.alloc (.cells #[.int .i64 tj,.int .u32 x3,.int .u32 x1,.bool q4] 106)):=by
                 cases h:done 17 with
                 | false=>exact .inl (hI.none_ h)
                 | true=>exact .inr (hI.built h n18)
                have y3:W.cell? ⟨g12,3,none⟩=some (.int .u16 x3):=by
                 rcases hWW with rfl | rfl
                 ·exact q1.cell 3
                 ·exact (q1.alloc (.cells #[.int .i64 tj,.int .u32 x3,.int .u32 x1,.bool q4] 106)).cell 3
                replace hWW:=Veil.mk hWW
                refine w'k rfl fun K' hK => ?_
                have hI0:=Veil.mk hI
                clear hI hcl hd
                go_wp2
                exact hK.out _ _ ⟨_,rfl,hI0.out.pure 9 _ (by decide) (by decide) (by decide) (fun u hu=>o'i (o'i hu))⟩
               ·rw[hI.known 9 _ (hd 9 (by kernel_rfl)) rfl]
                refine w'k rfl fun K' hK => ?_
                have hI0:=Veil.mk hI
                clear hI hcl hd
                go_wp2
                exact hK.out _ _ ⟨_,rfl,hI0.out.pure 10 _ (by decide) (by decide) (by decide) (fun u hu=>o'i (o'i hu))⟩
               ·refine w'k rfl fun K' hK => ?_
                have hI0:=Veil.mk hI
                clear hI hcl hd
                go_wp2
                exact hK.out _ _ ⟨_,rfl,hI0.out.pure 11 _ (by decide) (by decide) (by decide) (fun u hu=>o'i (o'i hu))⟩
               ·rw[hI.known 11 _ (hd 11 (by kernel_rfl)) rfl]
                have n18:done 18=false:=by
                 cases h:done 18 with
                 | false=>rfl
                 | true =>
                  have h18_17:=hcl 18 17 h (by kernel_rfl)
                  have h17_16:=hcl 17 16 h18_17 (by kernel_rfl)
                  have h16_12:=hcl 16 12 h17_16 (by kernel_rfl)
                  exact absurd h16_12 (by rw[hni];exact Bool.false_ne_true)
                have hWW:W=w1∨W=(w1.alloc (.cells #[.int .i64 tj,.int .u32 x3,.int .u32 x1,.bool q4] 106)):=by
                 cases h:done 17 with
                 | false=>exact .inl (hI.none_ h)
                 | true=>exact .inr (hI.built h n18)
                have y3:W.cell? ⟨g12,1,none⟩=some (.int .u32 x1):=by
                 rcases hWW with rfl | rfl
                 ·exact q1.cell 1
                 ·exact (q1.alloc (.cells #[.int .i64 tj,.int .u32 x3,.int .u32 x1,.bool q4] 106)).cell 1
                replace hWW:=Veil.mk hWW
                refine w'k rfl fun K' hK => ?_
                have hI0:=Veil.mk hI
                clear hI hcl hd
                go_wp2
                exact hK.out _ _ ⟨_,rfl,hI0.out.pure 12 _ (by decide) (by decide) (by decide) (fun u hu=>o'i (o'i hu))⟩
               ·refine w'k rfl fun K' hK => ?_
                have hI0:=Veil.mk hI
                clear hI hcl hd
                go_wp2
                exact hK.out _ _ ⟨_,rfl,hI0.out.pure 13 _ (by decide) (by decide) (by decide) (fun u hu=>o'i (o'i hu))⟩
               ·rw[hI.known 13 _ (hd 13 (by kernel_rfl)) rfl]
                have n18:done 18=false:=by
                 cases h:done 18 with
                 | false=>rfl
                 | true =>
                  have h18_17:=hcl 18 17 h (by kernel_rfl)
                  have h17_16:=hcl 17 16 h18_17 (by kernel_rfl)
                  have h16_15:=hcl 16 15 h17_16 (by kernel_rfl)
                  have h15_14:=hcl 15 14 h16_15 (by kernel_rfl)
                  exact absurd h15_14 (by rw[hni];exact Bool.false_ne_true)
                have hWW:W=w1∨W=(w1.alloc (.cells #[.int .i64 tj,.int .u32 x3,.int .u32 x1,.bool q4] 106)):=by
                 cases h:done 17 with
                 | false=>exact .inl (hI.none_ h)
                 | true=>exact .inr (hI.built h n18)
                have y3:W.cell? ⟨g12,2,none⟩=some (.int .u8 2):=by
                 rcases hWW with rfl | rfl
                 ·exact q1.cell 2
                 ·exact (q1.alloc (.cells #[.int .i64 tj,.int .u32 x3,.int .u32 x1,.bool q4] 106)).cell 2
                replace hWW:=Veil.mk hWW
                refine w'k rfl fun K' hK => ?_
                have hI0:=Veil.mk hI
                clear hI hcl hd
                go_wp2
                exact hK.out _ _ ⟨_,rfl,hI0.out.pure 14 _ (by decide) (by decide) (by decide) (fun u hu=>o'i (o'i hu))⟩
               ·rw[hI.known 14 _ (hd 14 (by kernel_rfl)) rfl]
                refine w'k rfl fun K' hK => ?_
                have hI0:=Veil.mk hI
                clear hI hcl hd
                go_wp2
                exact hK.out _ _ ⟨_,rfl,hI0.out.pure 15 _ (by decide) (by decide) (by decide) (fun u hu=>o'i (o'i hu))⟩
               ·rw[hI.known 7 _ (hd 7 (by kernel_rfl)) rfl]
                rw[hI.known 10 _ (hd 10 (by kernel_rfl)) rfl]
                rw[hI.known 12 _ (hd 12 (by kernel_rfl)) rfl]
                rw[hI.known 15 _ (hd 15 (by kernel_rfl)) rfl]
                refine w'k rfl fun K' hK => ?_
                have hI0:=Veil.mk hI
                clear hI hcl hd
                go_wp2
                exact hK.out _ _ ⟨_,rfl,hI0.out.pure 16 _ (by decide) (by decide) (by decide) (fun u hu=>o'i (o'i hu))⟩
               ·rw[hI.known 16 _ (hd 16 (by kernel_rfl)) rfl]
                have n18:done 18=false:=by
                 cases h:done 18 with
                 | false=>rfl
                 | true =>
                  have h18_17:=hcl 18 17 h (by kernel_rfl)
                  exact absurd h18_17 (by rw[hni];exact Bool.false_ne_true)
                have n21:done 21=false:=by
                 cases h:done 21 with
                 | false=>rfl
                 | true =>
                  have h21_18:=hcl 21 18 h (by kernel_rfl)
                  have h18_17:=hcl 18 17 h21_18 (by kernel_rfl)
                  exact absurd h18_17 (by rw[hni];exact Bool.false_ne_true)
                obtain rfl:W=w1:=hI.none_ hni
                refine w'k rfl fun K' hK => ?_
                have hI0:=Veil.mk hI
                clear hI hcl hd
                go_wp2
                exact hK.out _ _ ⟨_,rfl,hI0.out.build _ (by decide) (by decide) n18 n21 (fun u hu=>o'i (o'i hu))⟩
               ·rw[hI.known 6 _ (hd 6 (by kernel_rfl)) rfl]
                rw[hI.known 17 _ (hd 17 (by kernel_rfl)) rfl]
                have n21:done 21=false:=by
                 cases h:done 21 with
                 | false=>rfl
                 | true =>
                  have h21_18:=hcl 21 18 h (by kernel_rfl)
                  exact absurd h21_18 (by rw[hni];exact Bool.false_ne_true)
                have hdB:=hd 17 (by kernel_rfl)
                obtain rfl:W=(w1.alloc (.cells #[.int .i64 tj,.int .u32 x3,.int .u32 x1,.bool q4] 106)):=hI.built hdB hni
                refine w'k rfl fun K' hK => ?_
                have hI0:=Veil.mk hI
                clear hI hcl hd
                split
                ·refine wp_append (.tmp 192) (.tmp 203) 92 rfl w4.heap.size redgT (.slice vA sn vc) sn (xs7) rfl (own_alloc ho1 _) _ _ 1 ([.int .i64 tj,.int .u32 x3,.int .u32 x1,.bool q4]) rfl (Sl.lit w1 #[.int .i64 tj,.int .u32 x3,.int .u32 x1,.bool q4] 106 (by simp[maxLen]) rfl) (by simp[Value.oneCell']) (by simp only[maxLen];omega) (by omega) (by simp;omega) ?_
                 intro v6 w6 ho6 hg6 hb6
                 obtain ⟨-,A9,c9,rfl,-⟩:=id (Sl.of_own ho6)
                 exact hK.out _ _ ⟨_,rfl,hI0.out.append _ (by decide) (by decide) hdB n21 (fun u hu=>by cases hu) ⟨A9,c9,rfl,ho6,hg6⟩⟩
                ·rename_i hno
                 exact absurd rfl hno
               ·rw[hI.known 0 _ (hd 0 (by kernel_rfl)) rfl]
                rw[hI.known 1 _ (hd 1 (by kernel_rfl)) rfl]
                refine w'k rfl fun K' hK => ?_
                have hI0:=Veil.mk hI
                clear hI hcl hd
                go_wp2
                exact hK.out _ _ ⟨_,rfl,hI0.out.pure 19 _ (by decide) (by decide) (by decide) (fun u hu=>o'i (o'i hu))⟩
               ·rw[hI.known 19 _ (hd 19 (by kernel_rfl)) rfl]
                refine w'k rfl fun K' hK => ?_
                have hI0:=Veil.mk hI
                clear hI hcl hd
                go_wp2
                exact hK.out _ _ ⟨_,rfl,hI0.out.pure 20 _ (by decide) (by decide) (by decide) (fun u hu=>o'i (o'i hu))⟩
               ·rw[hI.known 20 _ (hd 20 (by kernel_rfl)) rfl]
                obtain ⟨A9,c9,d18,ho9,hg9⟩:=hI.app (hd 18 (by kernel_rfl)) hni
                rw[d18]
                have hdJ:=hd 18 (by kernel_rfl)
                have hdB:=hcl 18 17 hdJ (by kernel_rfl)
                have hnz:=own_grown (own_alloc ho1 (.cells #[.int .i64 tj,.int .u32 x3,.int .u32 x1,.bool q4] 106)) (own_alloc nd1 (.cells #[.int .i64 tj,.int .u32 x3,.int .u32 x1,.bool q4] 106)) hg9 (by decide)
                obtain ⟨-,f3,y3⟩:=node_row hnz hrl.out hir
                replace f3:=f3 (i*7+5)
                replace y3:=y3 5 _ y6
                clear hnz
                replace ho9:=h'd ho9
                replace hg9:=h'd hg9
                refine w'k rfl fun K' hK => ?_
                have hI0:=Veil.mk hI
                clear hI hcl hd
                go_wp2
                exact hK.out _ _ ⟨undef,rfl,hI0.out.store _ (by decide) (by decide) hdB hdJ (fun u hu=>by cases hu) ⟨A9,c9,_,ho9,hg9,rfl⟩⟩
              ·intro done t W a' hI hall ha
               simp only[putFrom,Act.put,Nat.reduceAdd,s'a,s'z,s's] at ha
               subst ha
               obtain ⟨A9,c9,Wz,ho9,hg9,rfl⟩:=hI.stored (hall 21 (by decide))
               clear hI hall
               have hR8:=hR7.out.edge hkl2.out hir (by rw[←hxl2.out];exact hep.out) (by rw[←hxl2.out];exact hsp.out) rfl (Below.alloc B71.out B71.out.size (.cells #[.int .i64 tj,.int .u32 x3,.int .u32 x1,.bool q4] 106)) (by rw[←hsn.out,←hxs.out];exact ho9) hg9
               replace hR8:=Veil.mk hR8
               clear ho9 hg9 ho1 nd1 q1 rc y6 hR7
               generalize Wz.setCell ⟨g,i*7+5,none⟩ (.slice A9 (sn+1) c9)=w8 at hR8 ⊢
               go_wp2
               go_roundg (lk.length-(k+1))
               case measure=>omega
               case rel=>exact ⟨k+1,_,_,by omega,rfl,by go_num,hR8.out⟩
           ·rw[if_neg h2] at hed
            have e2:(x2==2)=false:=by simpa using h2
            have e2n:(x2 != 2)=true:=by simp[h2]
            clear h2
            have CF2:=CF.out
            rw[e2] at CF2
            replace CF:=Veil.mk CF2
            clear CF2
            have CL:=fun (W:World) (h:Below w6.heap.size w6 W)=>rlinked_any _ y x2 nid W (Sl.of_own (own_below hyl h)) (Nat.le_refl _) hynl
            generalize linksP y.b x2 nid=q at CL hed
            clear hyl hyo hynl hynr hD6 hN hD
            replace h3:=Veil.mk h3
            cases q
            ·as_aux_lemma =>
              replace CL:=Veil.mk CL
              rw[if_neg Bool.false_ne_true] at hed
              rw[hnid] at hed
              have hep:=Veil.mk hed
              clear hed
              replace hnid:=Veil.mk hnid
              go_upto_region 28 with (go_at_call 16;refine Calls.mono CF.out ?_;rintro e w7 ⟨rfl,hw7⟩)
              subst hw7
              obtain ⟨w6,rfl⟩:∃ x:World,x=w7:=⟨_,rfl⟩
              replace hR6:=Veil.mk hR6
              replace CF:=Veil.mk True.intro
              clear c0 c1 c3 al5 b1 hcell hb1
              have f2:∀ n:Ext w6,n.val.cell? ⟨g12,2,none⟩=some (.int .u8 x2):=fun n=>n.cell c2 hg12l
              have b0':∀ n:Ext w6,n.val.cell? ⟨bb,tj*9,none⟩=some (.int .u8 y.b.flags):=fun n=>n.cell (hyr.out 0 _ rfl) hbb'
              have b1':∀ n:Ext w6,n.val.cell? ⟨bb,tj*9+1,none⟩=some (.slice y.A1 y.b.links.length y.c1):=fun n=>n.cell (hyr.out 1 _ rfl) hbb'
              have b2':∀ n:Ext w6,n.val.cell? ⟨bb,tj*9+2,none⟩=some (.int .u32 y.b.mask):=fun n=>n.cell (hyr.out 2 _ rfl) hbb'
              have b3':∀ n:Ext w6,n.val.cell? ⟨bb,tj*9+3,none⟩=some (.slice y.A2 y.b.routers.length y.c2):=fun n=>n.cell (hyr.out 3 _ rfl) hbb'
              have b4':∀ n:Ext w6,n.val.cell? ⟨bb,tj*9+4,none⟩=some (.int .u32 y.b.metric):=fun n=>n.cell (hyr.out 4 _ rfl) hbb'
              have b5':∀ n:Ext w6,n.val.cell? ⟨bb,tj*9+5,none⟩=some (.bool y.b.t2):=fun n=>n.cell (hyr.out 5 _ rfl) hbb'
              have b6':∀ n:Ext w6,n.val.cell? ⟨bb,tj*9+6,none⟩=some (.int .u32 y.b.fw):=fun n=>n.cell (hyr.out 6 _ rfl) hbb'
              have b7':∀ n:Ext w6,n.val.cell? ⟨bb,tj*9+7,none⟩=some (.int .u32 y.b.tg):=fun n=>n.cell (hyr.out 7 _ rfl) hbb'
              have b8':∀ n:Ext w6,n.val.cell? ⟨bb,tj*9+8,none⟩=some (.slice y.A3 y.b.data.length y.c3):=fun n=>n.cell (hyr.out 8 _ rfl) hbb'
              have fa:∀ n:Ext w6,n.val.cell? ⟨g,i*7+1,none⟩=some (.int .u32 nid):=fun n=>n.cell a1 g6l
              have CX:∀ n:Ext w6,Calls Tryz.prog 45 #[.agg #[.int .u8 y.b.flags,.slice y.A1 y.b.links.length y.c1,.int .u32 y.b.mask,.slice y.A2 y.b.routers.length y.c2,.int .u32 y.b.metric,.bool y.b.t2,.int .u32 y.b.fw,.int .u32 y.b.tg,.slice y.A3 y.b.data.length y.c3],.int .u8 x2,.int .u32 nid] n.val fun e w'=>e=.returned (.bool false)∧∃ m:Ext w6,w'=m.val:=fun n=>ext_call (CL.out n.val n.prop)
              replace CX:=Veil.mk CX
              refine wp_region_ext (w:=w6) hmix.out (by kernel_rfl) ?_
              repeat (go_big_quiet_step ((go_at_call 45;with_reducible exact CX.out _)))
              refine wpQuiet_nil ?_
              rintro _ ⟨nq,rfl⟩
              have hI':=nq.prop
              clear CX f2 fa b0' b1' b2' b3' b4' b5' b6' b7' b8'
              generalize nq.val=w7 at hI' ⊢
              have hsk':=(hR6.out.skip hkl2.out (by rw[←hxl2.out];exact hep.out) (by rw[←hxl2.out];exact hsp.out)).call hI'
              clear hR6
              go_wp2
              go_roundg (lk.length-(k+1))
              case measure=>omega
              case rel=>exact ⟨k+1,ev,sv,by omega,rfl,by go_num,hsk'⟩
            ·as_aux_lemma =>
              replace CL:=Veil.mk CL
              rw[if_pos rfl] at hed
              rw[hnid] at hed
              have hep:=Veil.mk hed
              clear hed
              replace hnid:=Veil.mk hnid
              go_upto_region 28 with (go_at_call 16;refine Calls.mono CF.out ?_;rintro e w7 ⟨rfl,hw7⟩)
              subst hw7
              obtain ⟨w6,rfl⟩:∃ x:World,x=w7:=⟨_,rfl⟩
              replace hR6:=Veil.mk hR6
              replace CF:=Veil.mk True.intro
              clear c0 c1 c3 al5 b1 hcell hb1
              have f2:∀ n:Ext w6,n.val.cell? ⟨g12,2,none⟩=some (.int .u8 x2):=fun n=>n.cell c2 hg12l
              have b0':∀ n:Ext w6,n.val.cell? ⟨bb,tj*9,none⟩=some (.int .u8 y.b.flags):=fun n=>n.cell (hyr.out 0 _ rfl) hbb'
              have b1':∀ n:Ext w6,n.val.cell? ⟨bb,tj*9+1,none⟩=some (.slice y.A1 y.b.links.length y.c1):=fun n=>n.cell (hyr.out 1 _ rfl) hbb'
              have b2':∀ n:Ext w6,n.val.cell? ⟨bb,tj*9+2,none⟩=some (.int .u32 y.b.mask):=fun n=>n.cell (hyr.out 2 _ rfl) hbb'
              have b3':∀ n:Ext w6,n.val.cell? ⟨bb,tj*9+3,none⟩=some (.slice y.A2 y.b.routers.length y.c2):=fun n=>n.cell (hyr.out 3 _ rfl) hbb'
              have b4':∀ n:Ext w6,n.val.cell? ⟨bb,tj*9+4,none⟩=some (.int .u32 y.b.metric):=fun n=>n.cell (hyr.out 4 _ rfl) hbb'
              have b5':∀ n:Ext w6,n.val.cell? ⟨bb,tj*9+5,none⟩=some (.bool y.b.t2):=fun n=>n.cell (hyr.out 5 _ rfl) hbb'
              have b6':∀ n:Ext w6,n.val.cell? ⟨bb,tj*9+6,none⟩=some (.int .u32 y.b.fw):=fun n=>n.cell (hyr.out 6 _ rfl) hbb'
              have b7':∀ n:Ext w6,n.val.cell? ⟨bb,tj*9+7,none⟩=some (.int .u32 y.b.tg):=fun n=>n.cell (hyr.out 7 _ rfl) hbb'
              have b8':∀ n:Ext w6,n.val.cell? ⟨bb,tj*9+8,none⟩=some (.slice y.A3 y.b.data.length y.c3):=fun n=>n.cell (hyr.out 8 _ rfl) hbb'
              have fa:∀ n:Ext w6,n.val.cell? ⟨g,i*7+1,none⟩=some (.int .u32 nid):=fun n=>n.cell a1 g6l
              have CX:∀ n:Ext w6,Calls Tryz.prog 45 #[.agg #[.int .u8 y.b.flags,.slice y.A1 y.b.links.length y.c1,.int .u32 y.b.mask,.slice y.A2 y.b.routers.length y.c2,.int .u32 y.b.metric,.bool y.b.t2,.int .u32 y.b.fw,.int .u32 y.b.tg,.slice y.A3 y.b.data.length y.c3],.int .u8 x2,.int .u32 nid] n.val fun e w'=>e=.returned (.bool true)∧∃ m:Ext w6,w'=m.val:=fun n=>ext_call (CL.out n.val n.prop)
              replace CX:=Veil.mk CX
              refine wp_region_ext (w:=w6) hmix.out (by kernel_rfl) ?_
              repeat (go_big_quiet_step ((go_at_call 45;with_reducible exact CX.out _)))
              refine wpQuiet_nil ?_
              rintro _ ⟨nq,rfl⟩
              have hI':=nq.prop
              clear CX f2 fa b0' b1' b2' b3' b4' b5' b6' b7' b8'
              generalize nq.val=w7 at hI' ⊢
              have hR7:=hR6.out.call hI'
              have k7:=k12.below hI' k12.lt
              clear hR6 k12 CL c2 a1 hyr
              replace hI':=Veil.mk hI'
              go_upto_region 29 with fail
              have hrow7:=Sl.of_own hR7.edges
              obtain ⟨-,vA,vc,rfl,-⟩:=id hrow7
              clear hrow7
              obtain ⟨sn,hsn⟩:∃ n,n=(rowN L i z k).edges.length:=⟨_,rfl⟩
              obtain ⟨xs7,hxs⟩:∃ l,l=(rowN L i z k).edges.flatMap edgeC:=⟨_,rfl⟩
              have hsb:sn≤1000000:=by rw[hsn];exact Nat.le_trans (rowE_le L i z k) (by omega)
              rw[←hsn] at hR7
              obtain ⟨Y,hY⟩:∃ Y:NodR,Y=⟨rowN L i z k,.slice vA sn vc,sv⟩:=⟨_,rfl⟩
              have y6:(nodC Y)[5]?=some (.slice vA sn vc):=by rw[hY];rfl
              have hz41:w4.heap.size≤w7.heap.size:=hR7.grown.size
              have own7:=hR7.edges
              rw[←hxs,←hsn] at own7
              have nod7:=hR7.nods
              rw[←hY] at nod7
              replace hR7:=Veil.mk hR7
              replace hsn:=Veil.mk hsn
              replace hxs:=Veil.mk hxs
              replace hY:=Veil.mk hY
              obtain ⟨w1,hw1⟩:∃ x:World,x=w7.drew:=⟨_,rfl⟩
              have ho1:w1.ownsRow w4.heap.size 106 4 (.slice vA sn vc) sn xs7:=by rw[hw1];exact own7.drew
              have nd1:=nod7.drew
              rw[←hw1] at nd1
              have q1:Blk w1 g12 99 #[.int .u32 x0,.int .u32 x1,.int .u8 x2,.int .u16 x3]:=by rw[hw1];exact k7.drew_
              have B71:Below w7.heap.size w7 w1:=by rw[hw1];exact (Below.refl _ _).drew
              have hz42:=B71.size
              obtain ⟨g1,-,rc0⟩:=node_row nd1 hrl.out hir
              have rc:=rc0 5 _ y6
              clear rc0 own7 nod7 k7
              replace hw1:=Veil.mk hw1
              replace B71:=Veil.mk B71
              refine wp_region_all [some 186,some 187,some 188,some 189,some 190,some 191,some 192,some 193,some 194,some 195,some 196,some 197,some 198,some 199,some 200,some 201,some 202,some 203,some 204,some 205,some 206,none] (AppAll [some (.slice (some ⟨g,0,none⟩) L.length gc),some (.int .i64 (i:Int)),some (.slice (some ⟨g,0,none⟩) L.length gc),some (.int .i64 (i:Int)),some (.pointer (some ⟨g,i*7,none⟩)),some (.pointer (some ⟨g,i*7+5,none⟩)),some (.slice vA sn vc),some (.int .i64 (tj:Int)),some (.pointer (some ⟨g12,3,none⟩)),some (.int .u16 x3),some (.int .u32 x3),some (.pointer (some ⟨g12,1,none⟩)),some (.int .u32 x1),some (.pointer (some ⟨g12,2,none⟩)),some (.int .u8 x2),some (.bool q4),some (.agg #[.int .i64 tj,.int .u32 x3,.int .u32 x1,.bool q4]),some (.slice (some ⟨w1.heap.size,0,none⟩) 1 1),none,some (.pointer (some ⟨g,i*7,none⟩)),some (.pointer (some ⟨g,i*7+5,none⟩)),none] 17 18 21 w1 (w1.alloc (.cells #[.int .i64 tj,.int .u32 x3,.int .u32 x1,.bool q4] 106)) (fun v W=>∃ (A9:Option Addr) (c9:Nat),v=.slice A9 (sn+1) c9∧W.ownsRow w4.heap.size 106 4 (.slice A9 (sn+1) c9) (sn+1) (xs7++[.int .i64 tj,.int .u32 x3,.int .u32 x1,.bool q4])∧(w1.alloc (.cells #[.int .i64 tj,.int .u32 x3,.int .u32 x1,.bool q4] 106)).grownBy W (.slice vA sn vc:Value).ownBlock) (fun W=>∃ (A9:Option Addr) (c9:Nat) (Wz:World),Wz.ownsRow w4.heap.size 106 4 (.slice A9 (sn+1) c9) (sn+1) (xs7++[.int .i64 tj,.int .u32 x3,.int .u32 x1,.bool q4])∧(w1.alloc (.cells #[.int .i64 tj,.int .u32 x3,.int .u32 x1,.bool q4] 106)).grownBy Wz (.slice vA sn vc:Value).ownBlock∧W=Wz.setCell ⟨g,i*7+5,none⟩ (.slice A9 (sn+1) c9))) hmix.out (by kernel_rfl) rfl (by decide) (fun t=>by rw[←hw1.out];exact AppAll.start) ?_ ?_
              ·intro done t W a' hI ha hcl j1 hlt hni hd
               simp only[putFrom,Act.put,Nat.reduceAdd,s'a,s'z,s's] at ha
               subst ha
               replace hlt:j1<22:=hlt
               rcases lt_cases22 j1 hlt with rfl | rfl | rfl | rfl | rfl | rfl | rfl | rfl | rfl | rfl | rfl | rfl | rfl | rfl | rfl | rfl | rfl | rfl | rfl | rfl | rfl | rfl
               ·refine w'k rfl fun K' hK => ?_
                have hI0:=Veil.mk hI
                clear hI hcl hd
                go_wp2
                exact hK.out _ _ ⟨_,rfl,hI0.out.pure 0 _ (by decide) (by decide) (by decide) (fun u hu=>o'i (o'i hu))⟩
               ·refine w'k rfl fun K' hK => ?_
                have hI0:=Veil.mk hI
                clear hI hcl hd
                go_wp2
                exact hK.out _ _ ⟨_,rfl,hI0.out.pure 1 _ (by decide) (by decide) (by decide) (fun u hu=>o'i (o'i hu))⟩
               ·refine w'k rfl fun K' hK => ?_
                have hI0:=Veil.mk hI
                clear hI hcl hd
                go_wp2
                exact hK.out _ _ ⟨_,rfl,hI0.out.pure 2 _ (by decide) (by decide) (by decide) (fun u hu=>o'i (o'i hu))⟩
               ·refine w'k rfl fun K' hK => ?_
                have hI0:=Veil.mk hI
                clear hI hcl hd
                go_wp2
                exact hK.out _ _ ⟨_,rfl,hI0.out.pure 3 _ (by decide) (by decide) (by decide) (fun u hu=>o'i (o'i hu))⟩
               ·rw[hI.known 2 _ (hd 2 (by kernel_rfl)) rfl]
                rw[hI.known 3 _ (hd 3 (by kernel_rfl)) rfl]
                refine w'k rfl fun K' hK => ?_
                have hI0:=Veil.mk hI
                clear hI hcl hd
                go_wp2
                exact hK.out _ _ ⟨_,rfl,hI0.out.pure 4 _ (by decide) (by decide) (by decide) (fun u hu=>o'i (o'i hu))⟩
               ·rw[hI.known 4 _ (hd 4 (by kernel_rfl)) rfl]
                refine w'k rfl fun K' hK => ?_
                have hI0:=Veil.mk hI
                clear hI hcl hd
                go_wp2
                exact hK.out _ _ ⟨_,rfl,hI0.out.pure 5 _ (by decide) (by decide) (by decide) (fun u hu=>o'i (o'i hu))⟩
               ·rw[hI.known 5 _ (hd 5 (by kernel_rfl)) rfl]
                have n18:done 18=false:=by
                 cases h:done 18 with
                 | false=>rfl
                 | true =>
                  have h18_6:=hcl 18 6 h (by kernel_rfl)
                  exact absurd h18_6 (by rw[hni];exact Bool.false_ne_true)
                have hWW:W=w1∨W=(w1.alloc (.cells #[.int .i64 tj,.int .u32 x3,.int .u32 x1,.bool q4] 106)):=by
                 cases h:done 17 with
                 | false=>exact .inl (hI.none_ h)
                 | true=>exact .inr (hI.built h n18)
                have y3:W.cell? ⟨g,i*7+5,none⟩=some (.slice vA sn vc):=by
                 rcases hWW with rfl | rfl
                 ·exact rc
                 ·exact (World.cell?_alloc_lt w1 _ ⟨g,i*7+5,none⟩ g1).trans rc
                replace hWW:=Veil.mk hWW
                refine w'k rfl fun K' hK => ?_
                have hI0:=Veil.mk hI
                clear hI hcl hd
                go_wp2
                exact hK.out _ _ ⟨_,rfl,hI0.out.pure 6 _ (by decide) (by decide) (by decide) (fun u hu=>o'i (o'i hu))⟩
               ·refine w'k rfl fun K' hK => ?_
                have hI0:=Veil.mk hI
                clear hI hcl hd
                go_wp2
                exact hK.out _ _ ⟨_,rfl,hI0.out.pure 7 _ (by decide) (by decide) (by decide) (fun u hu=>o'i (o'i hu))⟩
               ·refine w'k rfl fun K' hK => ?_
                have hI0:=Veil.mk hI
                clear hI hcl hd
                go_wp2
                exact hK.out _ _ ⟨_,rfl,hI0.out.pure 8 _ (by decide) (by decide) (by decide) (fun u hu=>o'i (o'i hu))⟩
               ·rw[hI.known 8 _ (hd 8 (by kernel_rfl)) rfl]
                have n18:done 18=false:=by
                 cases h:done 18 with
                 | false=>rfl
                 | true =>
                  have h18_17:=hcl 18 17 h (by kernel_rfl)
                  have h17_16:=hcl 17 16 h18_17 (by kernel_rfl)
                  have h16_10:=hcl 16 10 h17_16 (by kernel_rfl)
                  have h10_9:=hcl 10 9 h16_10 (by kernel_rfl)
                  exact absurd h10_9 (by rw[hni];exact Bool.false_ne_true)
                have hWW:W=w1∨W=(w1.alloc (.cells #[.int .i64 tj,.int .u32 x3,.int .u32 x1,.bool q4] 106)):=by
                 cases h:done 17 with
                 | false=>exact .inl (hI.none_ h)
                 | true=>exact .inr (hI.built h n18)
                have y3:W.cell? ⟨g12,3,none⟩=some (.int .u16 x3):=by
                 rcases hWW with rfl | rfl
                 ·exact q1.cell 3
                 ·exact (q1.alloc (.cells #[.int .i64 tj,.int .u32 x3,.int .u32 x1,.bool q4] 106)).cell 3
                replace hWW:=Veil.mk hWW
                refine w'k rfl fun K' hK => ?_
                have hI0:=Veil.mk hI
                clear hI hcl hd
                go_wp2
                exact hK.out _ _ ⟨_,rfl,hI0.out.pure 9 _ (by decide) (by decide) (by decide) (fun u hu=>o'i (o'i hu))⟩
               ·rw[hI.known 9 _ (hd 9 (by kernel_rfl)) rfl]
                refine w'k rfl fun K' hK => ?_
                have hI0:=Veil.mk hI
                clear hI hcl hd
                go_wp2
                exact hK.out _ _ ⟨_,rfl,hI0.out.pure 10 _ (by decide) (by decide) (by decide) (fun u hu=>o'i (o'i hu))⟩
               ·refine w'k rfl fun K' hK => ?_
                have hI0:=Veil.mk hI
                clear hI hcl hd
                go_wp2
                exact hK.out _ _ ⟨_,rfl,hI0.out.pure 11 _ (by decide) (by decide) (by decide) (fun u hu=>o'i (o'i hu))⟩
               ·rw[hI.known 11 _ (hd 11 (by kernel_rfl)) rfl]
                have n18:done 18=false:=by
                 cases h:done 18 with
                 | false=>rfl
                 | true =>
                  have h18_17:=hcl 18 17 h (by kernel_rfl)
                  have h17_16:=hcl 17 16 h18_17 (by kernel_rfl)
                  have h16_12:=hcl 16 12 h17_16 (by kernel_rfl)
                  exact absurd h16_12 (by rw[hni];exact Bool.false_ne_true)
                have hWW:W=w1∨W=(w1.alloc (.cells #[.int .i64 tj,.int .u32 x3,.int .u32 x1,.bool q4] 106)):=by
                 cases h:done 17 with
                 | false=>exact .inl (hI.none_ h)
                 | true=>exact .inr (hI.built h n18)
                have y3:W.cell? ⟨g12,1,none⟩=some (.int .u32 x1):=by
                 rcases hWW with rfl | rfl
                 ·exact q1.cell 1
                 ·exact (q1.alloc (.cells #[.int .i64 tj,.int .u32 x3,.int .u32 x1,.bool q4] 106)).cell 1
                replace hWW:=Veil.mk hWW
                refine w'k rfl fun K' hK => ?_
                have hI0:=Veil.mk hI
                clear hI hcl hd
                go_wp2
                exact hK.out _ _ ⟨_,rfl,hI0.out.pure 12 _ (by decide) (by decide) (by decide) (fun u hu=>o'i (o'i hu))⟩
               ·refine w'k rfl fun K' hK => ?_
                have hI0:=Veil.mk hI
                clear hI hcl hd
                go_wp2
                exact hK.out _ _ ⟨_,rfl,hI0.out.pure 13 _ (by decide) (by decide) (by decide) (fun u hu=>o'i (o'i hu))⟩
               ·rw[hI.known 13 _ (hd 13 (by kernel_rfl)) rfl]
                have n18:done 18=false:=by
                 cases h:done 18 with
                 | false=>rfl
                 | true =>
                  have h18_17:=hcl 18 17 h (by kernel_rfl)
                  have h17_16:=hcl 17 16 h18_17 (by kernel_rfl)
                  have h16_15:=hcl 16 15 h17_16 (by kernel_rfl)
                  have h15_14:=hcl 15 14 h16_15 (by kernel_rfl)
                  exact absurd h15_14 (by rw[hni];exact Bool.false_ne_true)
                have hWW:W=w1∨W=(w1.alloc (.cells #[.int .i64 tj,.int .u32 x3,.int .u32 x1,.bool q4] 106)):=by
                 cases h:done 17 with
                 | false=>exact .inl (hI.none_ h)
                 | true=>exact .inr (hI.built h n18)
                have y3:W.cell? ⟨g12,2,none⟩=some (.int .u8 x2):=by
                 rcases hWW with rfl | rfl
                 ·exact q1.cell 2
                 ·exact (q1.alloc (.cells #[.int .i64 tj,.int .u32 x3,.int .u32 x1,.bool q4] 106)).cell 2
                replace hWW:=Veil.mk hWW
                refine w'k rfl fun K' hK => ?_
                have hI0:=Veil.mk hI
                clear hI hcl hd
                go_wp2
                exact hK.out _ _ ⟨_,rfl,hI0.out.pure 14 _ (by decide) (by decide) (by decide) (fun u hu=>o'i (o'i hu))⟩
               ·rw[hI.known 14 _ (hd 14 (by kernel_rfl)) rfl]
                refine w'k rfl fun K' hK => ?_
                have hI0:=Veil.mk hI
                clear hI hcl hd
                go_wp2
                exact hK.out _ _ ⟨_,rfl,hI0.out.pure 15 _ (by decide) (by decide) (by decide) (fun u hu=>o'i (o'i hu))⟩
               ·rw[hI.known 7 _ (hd 7 (by kernel_rfl)) rfl]
                rw[hI.known 10 _ (hd 10 (by kernel_rfl)) rfl]
                rw[hI.known 12 _ (hd 12 (by kernel_rfl)) rfl]
                rw[hI.known 15 _ (hd 15 (by kernel_rfl)) rfl]
                refine w'k rfl fun K' hK => ?_
                have hI0:=Veil.mk hI
                clear hI hcl hd
                go_wp2
                exact hK.out _ _ ⟨_,rfl,hI0.out.pure 16 _ (by decide) (by decide) (by decide) (fun u hu=>o'i (o'i hu))⟩
               ·rw[hI.known 16 _ (hd 16 (by kernel_rfl)) rfl]
                have n18:done 18=false:=by
                 cases h:done 18 with
                 | false=>rfl
                 | true =>
                  have h18_17:=hcl 18 17 h (by kernel_rfl)
                  exact absurd h18_17 (by rw[hni];exact Bool.false_ne_true)
                have n21:done 21=false:=by
                 cases h:done 21 with
                 | false=>rfl
                 | true =>
                  have h21_18:=hcl 21 18 h (by kernel_rfl)
                  have h18_17:=hcl 18 17 h21_18 (by kernel_rfl)
                  exact absurd h18_17 (by rw[hni];exact Bool.false_ne_true)
                obtain rfl:W=w1:=hI.none_ hni
                refine w'k rfl fun K' hK => ?_
                have hI0:=Veil.mk hI
                clear hI hcl hd
                go_wp2
                exact hK.out _ _ ⟨_,rfl,hI0.out.build _ (by decide) (by decide) n18 n21 (fun u hu=>o'i (o'i hu))⟩
               ·rw[hI.known 6 _ (hd 6 (by kernel_rfl)) rfl]
                rw[hI.known 17 _ (hd 17 (by kernel_rfl)) rfl]
                have n21:done 21=false:=by
                 cases h:done 21 with
                 | false=>rfl
                 | true =>
                  have h21_18:=hcl 21 18 h (by kernel_rfl)
                  exact absurd h21_18 (by rw[hni];exact Bool.false_ne_true)
                have hdB:=hd 17 (by kernel_rfl)
                obtain rfl:W=(w1.alloc (.cells #[.int .i64 tj,.int .u32 x3,.int .u32 x1,.bool q4] 106)):=hI.built hdB hni
                refine w'k rfl fun K' hK => ?_
                have hI0:=Veil.mk hI
                clear hI hcl hd
                split
                ·refine wp_append (.tmp 192) (.tmp 203) 92 rfl w4.heap.size redgT (.slice vA sn vc) sn (xs7) rfl (own_alloc ho1 _) _ _ 1 ([.int .i64 tj,.int .u32 x3,.int .u32 x1,.bool q4]) rfl (Sl.lit w1 #[.int .i64 tj,.int .u32 x3,.int .u32 x1,.bool q4] 106 (by simp[maxLen]) rfl) (by simp[Value.oneCell']) (by simp only[maxLen];omega) (by omega) (by simp;omega) ?_
                 intro v6 w6 ho6 hg6 hb6
                 obtain ⟨-,A9,c9,rfl,-⟩:=id (Sl.of_own ho6)
                 exact hK.out _ _ ⟨_,rfl,hI0.out.append _ (by decide) (by decide) hdB n21 (fun u hu=>by cases hu) ⟨A9,c9,rfl,ho6,hg6⟩⟩
                ·rename_i hno
                 exact absurd rfl hno
               ·rw[hI.known 0 _ (hd 0 (by kernel_rfl)) rfl]
                rw[hI.known 1 _ (hd 1 (by kernel_rfl)) rfl]
                refine w'k rfl fun K' hK => ?_
                have hI0:=Veil.mk hI
                clear hI hcl hd
                go_wp2
                exact hK.out _ _ ⟨_,rfl,hI0.out.pure 19 _ (by decide) (by decide) (by decide) (fun u hu=>o'i (o'i hu))⟩
               ·rw[hI.known 19 _ (hd 19 (by kernel_rfl)) rfl]
                refine w'k rfl fun K' hK => ?_
                have hI0:=Veil.mk hI
                clear hI hcl hd
                go_wp2
                exact hK.out _ _ ⟨_,rfl,hI0.out.pure 20 _ (by decide) (by decide) (by decide) (fun u hu=>o'i (o'i hu))⟩
               ·rw[hI.known 20 _ (hd 20 (by kernel_rfl)) rfl]
                obtain ⟨A9,c9,d18,ho9,hg9⟩:=hI.app (hd 18 (by kernel_rfl)) hni
                rw[d18]
                have hdJ:=hd 18 (by kernel_rfl)
                have hdB:=hcl 18 17 hdJ (by kernel_rfl)
                have hnz:=own_grown (own_alloc ho1 (.cells #[.int .i64 tj,.int .u32 x3,.int .u32 x1,.bool q4] 106)) (own_alloc nd1 (.cells #[.int .i64 tj,.int .u32 x3,.int .u32 x1,.bool q4] 106)) hg9 (by decide)
                obtain ⟨-,f3,y3⟩:=node_row hnz hrl.out hir
                replace f3:=f3 (i*7+5)
                replace y3:=y3 5 _ y6
                clear hnz
                replace ho9:=h'd ho9
                replace hg9:=h'd hg9
                refine w'k rfl fun K' hK => ?_
                have hI0:=Veil.mk hI
                clear hI hcl hd
                go_wp2
                exact hK.out _ _ ⟨undef,rfl,hI0.out.store _ (by decide) (by decide) hdB hdJ (fun u hu=>by cases hu) ⟨A9,c9,_,ho9,hg9,rfl⟩⟩
              ·intro done t W a' hI hall ha
               simp only[putFrom,Act.put,Nat.reduceAdd,s'a,s'z,s's] at ha
               subst ha
               obtain ⟨A9,c9,Wz,ho9,hg9,rfl⟩:=hI.stored (hall 21 (by decide))
               clear hI hall
               have hR8:=hR7.out.edge hkl2.out hir (by rw[←hxl2.out];exact hep.out) (by rw[←hxl2.out];exact hsp.out) rfl (Below.alloc B71.out B71.out.size (.cells #[.int .i64 tj,.int .u32 x3,.int .u32 x1,.bool q4] 106)) (by rw[←hsn.out,←hxs.out];exact ho9) hg9
               replace hR8:=Veil.mk hR8
               clear ho9 hg9 ho1 nd1 q1 rc y6 hR7
               generalize Wz.setCell ⟨g,i*7+5,none⟩ (.slice A9 (sn+1) c9)=w8 at hR8 ⊢
               go_wp2
               go_roundg (lk.length-(k+1))
               case measure=>omega
               case rel=>exact ⟨k+1,_,_,by omega,rfl,by go_num,hR8.out⟩
       ·obtain rfl:k=lk.length:=by omega
        go_wp2
        go_roundg (L.length-(i+1))
        case measure=>omega
        case rel =>
         have hz5:=hR.grown.size
         exact ⟨i+1,_,by omega,rfl,by go_num,hR.turn hN hil hz.out (by rw[hlk0.out]) (by rw[hk1.out];decide) hz4,hD5,hB4.trans (below_of_grown hR.grown hz4 fun q hq=>(hN.nods.lt q hq).1)⟩
     ·have eb:bare z=⟨true,z.1.id,bits BinOp.and IntKind.u32 z.1.id (bodyG z).mask,bitsV (bodyG z).mask,0,[],[]⟩:=by unfold bare;rw[if_pos hk2]
      have y0':w4.cell? ⟨g,i*7,none⟩=some (.bool true):=by rw[y0];show some (Value.bool (bare z).network)=_;rw[eb]
      obtain ⟨es,hes⟩:∃ es,es=(bodyG z).routers.filterMap (edgeN L z.1.id):=⟨_,rfl⟩
      rw[←hes] at CA
      clear y0
      replace eb:=Veil.mk eb
      replace hk2:=Veil.mk hk2
      replace hes:=Veil.mk hes
      replace CA:=Veil.mk CA
      go_upto_region 18 with fail
      go_wp2_with (first
       | (go_at_call 42;refine Calls.mono CA.out ?_;rintro e w5 ⟨v,rfl,hoe,hB5⟩;obtain ⟨-,eA,ec,rfl,-⟩:=id (Sl.of_own hoe))
       | (refine wpList_store_own rfl 92 (.tmp 83) (.tmp 81) rfl (k:=i*7+5) [.slice eA es.length ec] rfl rfl (own_below hno hB5) rfl (by kernel_rfl) (by simp[Value.oneCell']) (by simp;omega) ?_;intro w6 ho6 hg6)
       | fail)
      go_roundg (L.length-(i+1))
      case measure=>omega
      case rel =>
       have hN5:=hN.call hB5
       have hD5:=hD.call hB5
       have e1:=splice_in nodC_len 5 (.slice eA es.length ec) (by omega) rows i hir ⟨{ bare z with edges:=es },.slice eA es.length ec,.slice none 0 0⟩ (by rw[hrest.out];rfl)
       rw[e1] at ho6
       have hoe6:=own_grown hN5.nods (own_less hoe hz4) hg6 (by decide)
       refine ⟨i+1,_,by omega,rfl,by go_num,hN5.turn hil (by rw[hrl.out];exact ho6) hg6 ?_ hoe6 ?_,hD5.grown hN5.nods (by decide) (by decide) (by decide) hg6,hB4.trans ((hB5.mono hz4).trans (below_of_grown hg6 (Nat.le_trans hz4 hB5.size) fun q hq=>(hN5.nods.lt q hq).1))⟩
       ·rw[←hz.out,hnb.out,if_pos hk2.out,←hes.out]
       ·show w6.ownsRow _ _ _ _ (bare z).stubs.length ((bare z).stubs.flatMap stubC)
        rw[eb.out]
        exact World.ownsRow_nil _ _ _ _
    ·obtain rfl:i=L.length:=by omega
     obtain ⟨hfo,hfn⟩:=hN.fin rfl
     have hB14:=hBw.out w4 hB4
     rw[hs1.out] at hfn
     clear hN hD
     go_wp2
     go_ret
     exact ⟨_,rows,rfl,⟨own_less hfo.nods hkz,fun r hr=>own_less (hfo.edges r hr) hkz,fun r hr=>own_less (hfo.stubs r hr) hkz⟩,hfn,hB14⟩
end Go.Proofs.YtcknpofnpabkiaaGreat
