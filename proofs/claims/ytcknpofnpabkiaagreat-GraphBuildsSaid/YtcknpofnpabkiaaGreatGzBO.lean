/- The document's edges of a network: lodestarref16.around. Conditions: the nodes and the bodies lie in memory. -/
import Derived.Test.YtcknpofnpabkiaaGreatGzBM
import Derived.Test.YtcknpofnpabkiaaGreatGzAA
import Derived.Test.YtcknpofnpabkiaaGreatGzBN
import Derived.Test.YtcknpofnpabkiaaGreatGzBI
set_option maxRecDepth 100000
namespace Go.Proofs.YtcknpofnpabkiaaGreat
open Go.RowKit Go.Lo
theorem lt_cases14 (j:Nat) (h:j<14):j=0∨j=1∨j=2∨j=3∨j=4∨j=5∨j=6∨j=7∨j=8∨j=9∨j=10∨j=11∨j=12∨j=13:=by omega
structure SzOk (L:List StG) (xs:List BodX):Prop where
 n:L.length≤100000
 links:∀ x∈xs,x.b.links.length≤1000000
 routers:∀ x∈xs,x.b.routers.length≤1000000
theorem redgeN_is {L:List StG} {id r:Int} {tj:Nat} (h:atN L (false,r)=some tj):edgeN L id r=if linksP (bodyOf L tj) 2 id=true then some ⟨tj,0,0,false⟩ else none:=by
 unfold edgeN
 rw[h]
theorem redgeN_no {L:List StG} {id r:Int} (h:atN L (false,r)=none):edgeN L id r=none:=by
 unfold edgeN
 rw[h]
theorem take_filterMap {rs:List Int} {f:Int→Option GEdge} {k:Nat} (h:k<rs.length):(rs.take (k+1)).filterMap f=(rs.take k).filterMap f++(f rs[k]).toList:=by
 rw[List.take_succ_eq_append_getElem h,List.filterMap_append]
 congr 1
set_option maxHeartbeats 8000000 in
theorem raround_any (base:Nat) (L:List StG) (k0:Nat) (gv bv:Value) (xs:List BodX) (rows:List NodR) (W0:World) (hN:DN base L k0 gv rows W0) (hD:DB base L bv xs W0) (hz:SzOk L xs) (i:Nat) (hi:i<L.length) :
  Calls Tryz.prog 42 #[gv,bv,.int .i64 i] W0 fun e w'=>∃ v,e=.returned v∧w'.ownsRow W0.heap.size 106 4 v ((bodyG L[i]).routers.filterMap (edgeN L L[i].1.id)).length (((bodyG L[i]).routers.filterMap (edgeN L L[i].1.id)).flatMap edgeC)∧Below W0.heap.size W0 w':=by
 have hlx:=hD.len
 have hlr:=hN.len
 have hix:i<xs.length:=by omega
 have hir:i<rows.length:=by omega
 have hxb:=hD.body hix hi
 have hid:=hN.id_ hir hi
 have hfind:=fun r=>find_rows hN false r
 have hxl:xs.length≤100000:=by have:=hz.n;omega
 have hrl:rows.length≤1000000:=by have:=hz.n;omega
 obtain ⟨gb,gc,hgv,-,hgb,hgr⟩:=hN.row hir
 obtain ⟨bb,bc,hbv,-,hbb,hbr⟩:=hD.row hix
 have hgi:=hgr 1 _ rfl
 have hbi:=hbr 3 _ rfl
 have hrS:=Sl.of_own (hD.rou _ (List.getElem_mem hix))
 have hrn:=hz.routers _ (List.getElem_mem hix)
 have hNS:=Sl.of_own hN.nods
 rw[hid] at hgi
 rw[hxb] at hbi hrS hrn
 have hbody:=fun (tj:Nat) (h:tj<xs.length)=>hD.row h
 have hlink:=fun (tj:Nat) (h:tj<xs.length)=>hD.lnk _ (List.getElem_mem h)
 have hbeq:=fun (tj:Nat) (h:tj<xs.length) (h2:tj<L.length)=>hD.body h h2
 obtain ⟨nid,hidd⟩:∃ x,x=L[i].1.id:=⟨_,rfl⟩
 rw[←hidd] at hgi ⊢
 obtain ⟨rs,hrs⟩:∃ x,x=(bodyG L[i]).routers:=⟨_,rfl⟩
 rw[←hrs] at hbi hrS hrn ⊢
 obtain ⟨bx,hbx⟩:∃ x,x=xs[i]:=⟨_,rfl⟩
 rw[←hbx] at hbi hrS
 subst hgv
 subst hbv
 obtain ⟨xA,xc⟩:∃ x:Option Addr × Nat,x=(bx.A2,bx.c2):=⟨_,rfl⟩
 generalize bx.A2=rA at hbi hrS
 generalize bx.c2=rc at hbi hrS
 clear hgr hbr hxb hidd hrs hbx
 replace hN:=h'd hN
 replace hD:=h'd hD
 replace hz:=h'd hz
 replace hfind:=h'd hfind
 replace hbody:=h'd hbody
 replace hlink:=h'd hlink
 replace hbeq:=h'd hbeq
 replace hid:=h'd hid
 replace hlx:=h'd hlx
 replace hlr:=h'd hlr
 replace hNS:=h'd hNS
 have hmix:(Tryz.prog).follows .mixedOrders=true:=by kernel_rfl
 have ix:(i:Int)<(xs.length:Int):=by omega
 have ir:(i:Int)<(rows.length:Int):=by omega
 go_enter Tryz.func42,Tryz.ntmps42
 go_upto_region 3 with fail
 go_loopg [7,8] rs.length (fun m v u wr=>∃ k:Nat,k≤rs.length∧m=rs.length-k∧u=.int .i64 k∧wr.ownsRow W0.heap.size 106 4 v ((rs.take k).filterMap (edgeN L nid)).length (((rs.take k).filterMap (edgeN L nid)).flatMap edgeC)∧Below W0.heap.size W0 wr)
 case atStart=>exact ⟨0,Nat.zero_le _,rfl,rfl,World.ownsRow_nil _ _ _ _,Below.refl _ _⟩
 case round =>
  obtain ⟨k,hk,rfl,rfl,ho,hB3⟩:=hrel
  obtain ⟨w3,rfl⟩:∃ x:World,x=wr:=⟨_,rfl⟩
  have b3:=(hB3.cell (p:=⟨bb,i*9+3,none⟩) hbb).trans hbi
  have hz3:=hB3.size
  by_cases hkl:k<rs.length
  ·obtain ⟨rb,ro,hrA,hrb,hrr⟩:=(show ∃ b off,rA=some ⟨b,off,none⟩∧b<W0.heap.size∧∀ j u,(rs.map u32c)[j]?=some u→W0.cell? ⟨b,off+j,none⟩=some u by
    obtain ⟨-,A',c',hv,-,-,hat⟩:=hrS
    simp only[Value.slice.injEq,true_and] at hv
    obtain ⟨rfl,rfl⟩:=hv
    exact hat (by omega))
   subst hrA
   have r0:=(hB3.cell (p:=⟨rb,ro+k,none⟩) hrb).trans (hrr k (u32c rs[k]) (by simp[hkl]))
   rw[show u32c rs[k]=.int .u32 rs[k] from rfl] at r0
   have ik:(k:Int)<(rs.length:Int):=by omega
   have CF:=rfind_any false rs[k] W0.heap.size (.slice (some ⟨gb,0,none⟩) rows.length gc) rows w3 (hNS.out.below hB3) hrl
   rw[hfind.out rs[k]] at CF
   have hsuc:=h'd (take_filterMap (f:=edgeN L nid) hkl)
   have hlen:=h'd (show ((rs.take k).filterMap (edgeN L nid)).length≤1000000 from Nat.le_trans (List.length_filterMap_le _ _) (by rw[List.length_take];omega))
   have hgb4:gb<w3.heap.size:=Nat.lt_of_lt_of_le hgb hz3
   have hid4:=h'd ((hB3.cell (p:=⟨gb,i*7+1,none⟩) hgb).trans hgi)
   generalize rs[k]=r at *
   clear hrr hrS
   cases hat:atN L (false,r) with
   | none =>
    have hed:=redgeN_no (id:=nid) hat
    rw[hat] at CF
    dsimp only[idxI] at CF
    replace CF:=h'd CF
    replace hat:=h'd hat
    have e1:decide ((0:Int) ≤ -1)=false:=by decide
    go_upto_region 6 with (go_at_call 16;refine Calls.mono CF.out ?_;rintro e w3 ⟨rfl,rfl⟩)
    refine wp_region_vals [some 30,some 31,some 32,some 33,some 34,some 35,some 36,some 37,some 38,some 39,some 40,some 41,some 42,some 43] (fun W=>Below w3.heap.size w3 W) (fun W W'=>Below W.heap.size W W') id (ValV [.int .i64 (-1),.bool false,.bool false,undef,undef,undef,undef,undef,undef,undef,undef,undef,undef,.bool false]) hmix (by kernel_rfl) rfl (by decide) (by kernel_rfl) (fun _ _ _ _ _ _ h=>h) (Below.refl _ _).drew ?_ ?_
    ·intro t w' a' hI' ha j' hlt' hd
     simp only[putFrom,Act.put,Nat.reduceAdd,s'a,s'z,s's] at ha
     subst ha
     replace hlt':j'<14:=hlt'
     have hzw:=hI'.size
     rcases lt_cases14 j' hlt' with rfl | rfl | rfl | rfl | rfl | rfl | rfl | rfl | rfl | rfl | rfl | rfl | rfl | rfl
     ·refine w'k rfl fun K' hK => ?_
      go_wp2
      exact hK.out _ _ ⟨_,rfl,hI',Below.refl _ _,rfl⟩
     ·rw[←o'i (hd 0 (by kernel_rfl))]
      refine w'k rfl fun K' hK => ?_
      go_wp2
      exact hK.out _ _ ⟨_,rfl,hI',Below.refl _ _,rfl⟩
     ·rw[←o'i (hd 1 (by kernel_rfl))]
      refine w'k rfl fun K' hK => ?_
      go_wp2
      exact hK.out _ _ ⟨_,rfl,hI',Below.refl _ _,rfl⟩
     ·rw[←o'i (hd 2 (by kernel_rfl))]
      refine w'k rfl fun K' hK => ?_
      go_wp2
      exact hK.out _ _ ⟨_,rfl,hI',Below.refl _ _,rfl⟩
     ·rw[←o'i (hd 2 (by kernel_rfl))]
      refine w'k rfl fun K' hK => ?_
      go_wp2
      exact hK.out _ _ ⟨_,rfl,hI',Below.refl _ _,rfl⟩
     ·rw[←o'i (hd 2 (by kernel_rfl))]
      refine w'k rfl fun K' hK => ?_
      go_wp2
      exact hK.out _ _ ⟨_,rfl,hI',Below.refl _ _,rfl⟩
     ·rw[←o'i (hd 2 (by kernel_rfl))]
      refine w'k rfl fun K' hK => ?_
      go_wp2
      exact hK.out _ _ ⟨_,rfl,hI',Below.refl _ _,rfl⟩
     ·rw[←o'i (hd 2 (by kernel_rfl))]
      refine w'k rfl fun K' hK => ?_
      go_wp2
      exact hK.out _ _ ⟨_,rfl,hI',Below.refl _ _,rfl⟩
     ·rw[←o'i (hd 2 (by kernel_rfl))]
      refine w'k rfl fun K' hK => ?_
      go_wp2
      exact hK.out _ _ ⟨_,rfl,hI',Below.refl _ _,rfl⟩
     ·rw[←o'i (hd 2 (by kernel_rfl))]
      refine w'k rfl fun K' hK => ?_
      go_wp2
      exact hK.out _ _ ⟨_,rfl,hI',Below.refl _ _,rfl⟩
     ·rw[←o'i (hd 2 (by kernel_rfl))]
      refine w'k rfl fun K' hK => ?_
      go_wp2
      exact hK.out _ _ ⟨_,rfl,hI',Below.refl _ _,rfl⟩
     ·rw[←o'i (hd 2 (by kernel_rfl))]
      refine w'k rfl fun K' hK => ?_
      go_wp2
      exact hK.out _ _ ⟨_,rfl,hI',Below.refl _ _,rfl⟩
     ·rw[←o'i (hd 2 (by kernel_rfl))]
      refine w'k rfl fun K' hK => ?_
      go_wp2
      exact hK.out _ _ ⟨_,rfl,hI',Below.refl _ _,rfl⟩
     ·rw[←o'i (hd 2 (by kernel_rfl))]
      rw[←o'i (hd 12 (by kernel_rfl))]
      refine w'k rfl fun K' hK => ?_
      go_wp2
      exact hK.out _ _ ⟨_,rfl,hI',Below.refl _ _,rfl⟩
    ·intro t w' a' hI' ha hv
     simp only[putFrom,Act.put,Nat.reduceAdd,s'a,s'z,s's] at ha
     subst ha
     have dl:t 13=.bool false:=(o'i (hv 13 (by decide))).symm
     rw[dl]
     clear hv dl
     have hB5:=hB3.trans (hI'.mono hz3)
     have ho5:=own_below ho hI'
     replace hed:=h'd hed
     clear ho
     go_wp2
     go_roundg (rs.length-(k+1))
     case measure=>omega
     case rel=>exact ⟨k+1,by omega,rfl,by go_num,by rw[hsuc.out,hed.out];simpa using ho5,hB5⟩
   | some tj =>
    obtain ⟨htL,-⟩:=atN_some hat
    have hed:=redgeN_is (id:=nid) hat
    rw[hat] at CF
    dsimp only[idxI] at CF
    have htx:tj<xs.length:=by have:=hlx.out;omega
    have it:(tj:Int)<(xs.length:Int):=by omega
    have it0:decide ((0:Int)≤(tj:Int))=true:=decide_eq_true (Int.natCast_nonneg tj)
    obtain ⟨bb',bc',hv',-,-,hyr⟩:=hbody.out tj htx
    simp only[Value.slice.injEq,Option.some.injEq,Addr.mk.injEq,true_and,and_true] at hv'
    obtain ⟨rfl,rfl⟩:=hv'
    have hyl:=hlink.out tj htx
    have hyb:=hbeq.out tj htx htL
    have hyn:=hz.out.links _ (List.getElem_mem htx)
    rw[bodyOf_get htL] at hed
    obtain ⟨y,hy⟩:∃ y,y=xs[tj]:=⟨_,rfl⟩
    rw[←hy] at hyr hyl hyb hyn
    rw[←hyb] at hed
    clear hy
    have CL:=h'd (fun (W:World) (h:Below w3.heap.size w3 W)=>rlinked_any W0.heap.size y 2 nid W ((Sl.of_own hyl).below (hB3.trans (h.mono hz3))) (Nat.le_trans hz3 h.size) hyn)
    generalize linksP y.b 2 nid=q at CL hed
    replace hyr:=h'd (fun j u hu=>(hB3.cell (p:=⟨bb,tj*9+j,none⟩) hbb).trans (hyr j u hu))
    replace CF:=h'd CF
    replace hat:=h'd hat
    replace hed:=h'd hed
    have hbb4:bb<w3.heap.size:=Nat.lt_of_lt_of_le hbb hz3
    clear hyl hyb hyn
    go_upto_region 6 with (go_at_call 16;refine Calls.mono CF.out ?_;rintro e w3 ⟨rfl,rfl⟩)
    replace hed:=hed.out
    refine wp_region_vals [some 30,some 31,some 32,some 33,some 34,some 35,some 36,some 37,some 38,some 39,some 40,some 41,some 42,some 43] (fun W=>Below w3.heap.size w3 W) (fun W W'=>Below W.heap.size W W') id (ValV [.int .i64 tj,.bool true,.bool true,.slice (some ⟨bb,0,none⟩) xs.length bc,.int .i64 tj,.pointer (some ⟨bb,tj*9,none⟩),.agg #[.int .u8 y.b.flags,.slice y.A1 y.b.links.length y.c1,.int .u32 y.b.mask,.slice y.A2 y.b.routers.length y.c2,.int .u32 y.b.metric,.bool y.b.t2,.int .u32 y.b.fw,.int .u32 y.b.tg,.slice y.A3 y.b.data.length y.c3],.slice (some ⟨gb,0,none⟩) rows.length gc,.int .i64 i,.pointer (some ⟨gb,i*7,none⟩),.pointer (some ⟨gb,i*7+1,none⟩),.int .u32 nid,.bool q,.bool q]) hmix (by kernel_rfl) rfl (by decide) (by kernel_rfl) (fun _ _ _ _ _ _ h=>h) (Below.refl _ _).drew ?_ ?_
    ·intro t w' a' hI' ha j' hlt' hd
     simp only[putFrom,Act.put,Nat.reduceAdd,s'a,s'z,s's] at ha
     subst ha
     replace hlt':j'<14:=hlt'
     have hzw:=hI'.size
     rcases lt_cases14 j' hlt' with rfl | rfl | rfl | rfl | rfl | rfl | rfl | rfl | rfl | rfl | rfl | rfl | rfl | rfl
     ·refine w'k rfl fun K' hK => ?_
      go_wp2
      exact hK.out _ _ ⟨_,rfl,hI',Below.refl _ _,rfl⟩
     ·rw[←o'i (hd 0 (by kernel_rfl))]
      refine w'k rfl fun K' hK => ?_
      go_wp2
      exact hK.out _ _ ⟨_,rfl,hI',Below.refl _ _,rfl⟩
     ·rw[←o'i (hd 1 (by kernel_rfl))]
      refine w'k rfl fun K' hK => ?_
      go_wp2
      exact hK.out _ _ ⟨_,rfl,hI',Below.refl _ _,rfl⟩
     ·rw[←o'i (hd 2 (by kernel_rfl))]
      refine w'k rfl fun K' hK => ?_
      go_wp2
      exact hK.out _ _ ⟨_,rfl,hI',Below.refl _ _,rfl⟩
     ·rw[←o'i (hd 2 (by kernel_rfl))]
      refine w'k rfl fun K' hK => ?_
      go_wp2
      exact hK.out _ _ ⟨_,rfl,hI',Below.refl _ _,rfl⟩
     ·rw[←o'i (hd 3 (by kernel_rfl))]
      rw[←o'i (hd 4 (by kernel_rfl))]
      rw[←o'i (hd 2 (by kernel_rfl))]
      refine w'k rfl fun K' hK => ?_
      go_wp2
      exact hK.out _ _ ⟨_,rfl,hI',Below.refl _ _,rfl⟩
     ·rw[←o'i (hd 5 (by kernel_rfl))]
      rw[←o'i (hd 2 (by kernel_rfl))]
      have f0:w'.cell? ⟨bb,tj*9,none⟩=some (.int .u8 y.b.flags):=(hI'.cell (p:=⟨bb,tj*9+0,none⟩) hbb4).trans (hyr.out 0 _ rfl)
      have f1:w'.cell? ⟨bb,tj*9+1,none⟩=some (.slice y.A1 y.b.links.length y.c1):=(hI'.cell (p:=⟨bb,tj*9+1,none⟩) hbb4).trans (hyr.out 1 _ rfl)
      have f2:w'.cell? ⟨bb,tj*9+2,none⟩=some (.int .u32 y.b.mask):=(hI'.cell (p:=⟨bb,tj*9+2,none⟩) hbb4).trans (hyr.out 2 _ rfl)
      have f3:w'.cell? ⟨bb,tj*9+3,none⟩=some (.slice y.A2 y.b.routers.length y.c2):=(hI'.cell (p:=⟨bb,tj*9+3,none⟩) hbb4).trans (hyr.out 3 _ rfl)
      have f4:w'.cell? ⟨bb,tj*9+4,none⟩=some (.int .u32 y.b.metric):=(hI'.cell (p:=⟨bb,tj*9+4,none⟩) hbb4).trans (hyr.out 4 _ rfl)
      have f5:w'.cell? ⟨bb,tj*9+5,none⟩=some (.bool y.b.t2):=(hI'.cell (p:=⟨bb,tj*9+5,none⟩) hbb4).trans (hyr.out 5 _ rfl)
      have f6:w'.cell? ⟨bb,tj*9+6,none⟩=some (.int .u32 y.b.fw):=(hI'.cell (p:=⟨bb,tj*9+6,none⟩) hbb4).trans (hyr.out 6 _ rfl)
      have f7:w'.cell? ⟨bb,tj*9+7,none⟩=some (.int .u32 y.b.tg):=(hI'.cell (p:=⟨bb,tj*9+7,none⟩) hbb4).trans (hyr.out 7 _ rfl)
      have f8:w'.cell? ⟨bb,tj*9+8,none⟩=some (.slice y.A3 y.b.data.length y.c3):=(hI'.cell (p:=⟨bb,tj*9+8,none⟩) hbb4).trans (hyr.out 8 _ rfl)
      refine w'k rfl fun K' hK => ?_
      go_wp2
      exact hK.out _ _ ⟨_,rfl,hI',Below.refl _ _,rfl⟩
     ·rw[←o'i (hd 2 (by kernel_rfl))]
      refine w'k rfl fun K' hK => ?_
      go_wp2
      exact hK.out _ _ ⟨_,rfl,hI',Below.refl _ _,rfl⟩
     ·rw[←o'i (hd 2 (by kernel_rfl))]
      refine w'k rfl fun K' hK => ?_
      go_wp2
      exact hK.out _ _ ⟨_,rfl,hI',Below.refl _ _,rfl⟩
     ·rw[←o'i (hd 7 (by kernel_rfl))]
      rw[←o'i (hd 8 (by kernel_rfl))]
      rw[←o'i (hd 2 (by kernel_rfl))]
      refine w'k rfl fun K' hK => ?_
      go_wp2
      exact hK.out _ _ ⟨_,rfl,hI',Below.refl _ _,rfl⟩
     ·rw[←o'i (hd 9 (by kernel_rfl))]
      rw[←o'i (hd 2 (by kernel_rfl))]
      refine w'k rfl fun K' hK => ?_
      go_wp2
      exact hK.out _ _ ⟨_,rfl,hI',Below.refl _ _,rfl⟩
     ·rw[←o'i (hd 10 (by kernel_rfl))]
      rw[←o'i (hd 2 (by kernel_rfl))]
      have f0:w'.cell? ⟨gb,i*7+1,none⟩=some (.int .u32 nid):=(hI'.cell (p:=⟨gb,i*7+1,none⟩) hgb4).trans hid4.out
      refine w'k rfl fun K' hK => ?_
      go_wp2
      exact hK.out _ _ ⟨_,rfl,hI',Below.refl _ _,rfl⟩
     ·rw[←o'i (hd 6 (by kernel_rfl))]
      rw[←o'i (hd 11 (by kernel_rfl))]
      rw[←o'i (hd 2 (by kernel_rfl))]
      have CC:=CL.out w' hI'
      replace CC:=h'd CC
      refine w'k rfl fun K' hK => ?_
      go_wp2_with (go_at_call 45;refine Calls.mono CC.out ?_;rintro e w4 ⟨rfl,hB4⟩)
      exact hK.out _ _ ⟨_,rfl,hI'.trans (hB4.mono hzw),hB4,rfl⟩
     ·rw[←o'i (hd 2 (by kernel_rfl))]
      rw[←o'i (hd 12 (by kernel_rfl))]
      refine w'k rfl fun K' hK => ?_
      go_wp2
      exact hK.out _ _ ⟨_,rfl,hI',Below.refl _ _,rfl⟩
    ·intro t w' a' hI' ha hv
     simp only[putFrom,Act.put,Nat.reduceAdd,s'a,s'z,s's] at ha
     subst ha
     have dl:t 13=.bool q:=(o'i (hv 13 (by decide))).symm
     rw[dl]
     clear hv dl
     obtain ⟨w5,rfl⟩:∃ x:World,x=w':=⟨_,rfl⟩
     have hB5:=hB3.trans (hI'.mono hz3)
     have ho5:=own_below ho hI'
     replace hed:=h'd hed
     clear ho CL
     cases q with
     | false =>
      go_wp2
      go_roundg (rs.length-(k+1))
      case measure=>omega
      case rel=>exact ⟨k+1,by omega,rfl,by go_num,by rw[hsuc.out,hed.out];simpa using ho5,hB5⟩
     | true =>
      obtain ⟨-,vA,vc,rfl,-⟩:=id (Sl.of_own ho5)
      have hel:=hlen.out
      have hz5:=hB5.size
      generalize hES:(rs.take k).filterMap (edgeN L nid)=es at *
      replace hES:=h'd hES
      go_wp2_with (at_builtin;refine wpList_append rfl (.tmp 44) (.tmp 47) 92 rfl W0.heap.size redgT _ _ _ rfl (own_alloc ho5 _) _ _ 1 [.int .i64 tj,.int .u32 0,.int .u32 0,.bool false] rfl (Sl.lit w5 #[.int .i64 tj,.int .u32 0,.int .u32 0,.bool false] 106 (by simp[maxLen]) rfl) (by simp[Value.oneCell']) (by simp only[maxLen];omega) (by omega) (by simp;omega) ?_;intro v6 w6 ho6 hg6 hob6)
      go_roundg (rs.length-(k+1))
      case measure=>omega
      case rel=>exact ⟨k+1,by omega,rfl,by go_num,by rw[hsuc.out,hed.out];simpa[edgeC] using ho6,(hB5.alloc hz5 _).trans (below_of_grown hg6 (by simp;omega) (fun g hg=>(ho5.lt g hg).1))⟩
  ·obtain rfl:k=rs.length:=by omega
   go_wp2
   go_ret
   rw[List.take_length] at ho
   exact ⟨_,rfl,ho,hB3⟩
def rowN (L:List StG) (i:Nat) (z:StG) (k:Nat):NodG:={ bare z with edges:=((bodyG z).links.take k).filterMap (edgeP L i z.1.id),stubs:=((bodyG z).links.take k).filterMap stubP }
theorem rowN_zero (L:List StG) (i:Nat) (z:StG):rowN L i z 0=bare z:=by
 unfold rowN bare
 split <;> rfl
theorem rowN_all {L:List StG} {i k:Nat} {z:StG} (hk:k=(bodyG z).links.length) (h:¬ z.1.type=2):rowN L i z k=nodeG L i z:=by
 rw[nodeG_bare,if_neg h]
 unfold rowN
 rw[hk,List.take_length]
theorem take_fm {α β:Type} {l:List α} {f:α→Option β} {k:Nat} (h:k<l.length):(l.take (k+1)).filterMap f=(l.take k).filterMap f++(f l[k]).toList:=by
 rw[List.take_succ_eq_append_getElem h,List.filterMap_append]
 congr 1
structure RJ (base:Nat) (L:List StG) (i:Nat) (z:StG) (gv:Value) (rows:List NodR) (w4:World) (k:Nat) (ev sv:Value) (W:World):Prop where
 nods:W.ownsRow base 95 7 gv L.length ((rows.set i ⟨rowN L i z k,ev,sv⟩).flatMap nodC)
 edges:W.ownsRow w4.heap.size 106 4 ev (rowN L i z k).edges.length ((rowN L i z k).edges.flatMap edgeC)
 stubs:W.ownsRow w4.heap.size 103 3 sv (rowN L i z k).stubs.length ((rowN L i z k).stubs.flatMap stubC)
 grown:w4.grownBy W gv.ownBlock
theorem grown_of_below {W W':World} (hb:Below W.heap.size W W') (row:Option Nat):W.grownBy W' row:=⟨hb.os,hb.tape,hb.output,hb.size,fun k hk _=>hb.block k hk⟩
section
variable {base:Nat} {L:List StG} {i:Nat} {z:StG} {gv:Value} {rows:List NodR} {w4:World} {k:Nat} {ev sv:Value} {W W':World}
theorem RJ.start (h:DN base L i gv rows w4) (hr:i<rows.length) (hb:rows[i]=bareR z):RJ base L i z gv rows w4 0 (.slice none 0 0) (.slice none 0 0) w4:=by
 have e:rows.set i ⟨rowN L i z 0,.slice none 0 0,.slice none 0 0⟩=rows:=by
  rw[rowN_zero]
  have:(⟨bare z,.slice none 0 0,.slice none 0 0⟩:NodR)=rows[i]:=hb.symm
  rw[this,List.set_getElem_self]
 refine ⟨?_,World.ownsRow_nil _ _ _ _,World.ownsRow_nil _ _ _ _,World.grownBy.refl _ _⟩
 rw[e,←h.len]
 exact h.nods
theorem RJ.call (h:RJ base L i z gv rows w4 k ev sv W) (hb:Below W.heap.size W W'):RJ base L i z gv rows w4 k ev sv W':=
 ⟨own_below h.nods hb,own_below h.edges hb,own_below h.stubs hb,h.grown.trans (grown_of_below hb _)⟩
theorem RJ.skip (h:RJ base L i z gv rows w4 k ev sv W) (hk:k<(bodyG z).links.length) (he:edgeP L i z.1.id (bodyG z).links[k]=none) (hs:stubP (bodyG z).links[k]=none):RJ base L i z gv rows w4 (k+1) ev sv W:=by
 have e:rowN L i z (k+1)=rowN L i z k:=by
  unfold rowN
  rw[take_fm hk,take_fm hk,he,hs]
  simp
 exact ⟨by rw[e];exact h.nods,by rw[e];exact h.edges,by rw[e];exact h.stubs,h.grown⟩
theorem set_cell {j:Nat} {u:Value} {y y':NodR} (hi:i<rows.length) (hj:j<7) (he:splice (nodC y) j [u]=nodC y'):splice ((rows.set i y).flatMap nodC) (i*7+j) [u]=(rows.set i y').flatMap nodC:=by
 have h1:=splice_in nodC_len j u hj (rows.set i y) i (by simpa using hi) y' (by rw[List.getElem_set_self];exact he)
 rw[h1,List.set_set]
theorem splice_set {l:List Value} {k:Nat} {u:Value} (h:k<l.length):splice l k [u]=l.set k u:=by
 unfold splice
 simp only[List.length_singleton,List.set_eq_take_append_cons_drop,if_pos h,List.singleton_append]
theorem nodes_len (l:List NodR):(l.flatMap nodC).length=l.length*7:=by
 induction l with
 | nil=>rfl
 | cons x r ih=>rw[List.flatMap_cons,List.length_append,ih,nodC_len,List.length_cons];omega
theorem RJ.edge (h:RJ base L i z gv rows w4 k ev sv W) (hk:k<(bodyG z).links.length) (hir:i<rows.length) {e:GEdge} (he:edgeP L i z.1.id (bodyG z).links[k]=some e) (hs:stubP (bodyG z).links[k]=none) {ev':Value} {W1 Wz:World} {g cap:Nat} (hgv:gv=.slice (some ⟨g,0,none⟩) L.length cap)
  (hb:Below W.heap.size W W1) (ho:Wz.ownsRow w4.heap.size 106 4 ev' ((rowN L i z k).edges.length+1) ((rowN L i z k).edges.flatMap edgeC++edgeC e)) (hg:W1.grownBy Wz ev.ownBlock):RJ base L i z gv rows w4 (k+1) ev' sv (Wz.setCell ⟨g,i*7+5,none⟩ ev'):=by
 have hc:=h.call hb
 have hnz:=own_grown hc.edges hc.nods hg (by decide)
 have hsz:=own_grown hc.edges hc.stubs hg (by decide)
 have hgz:=hc.grown.andThen hg fun j hj=>.inl (hc.edges.lt j hj).1
 have en:(rowN L i z (k+1)).edges=(rowN L i z k).edges++[e]:=by
  unfold rowN
  simp only
  rw[take_fm hk,he]
  rfl
 have es:(rowN L i z (k+1)).stubs=(rowN L i z k).stubs:=by
  unfold rowN
  simp only
  rw[take_fm hk,hs]
  simp
 subst hgv
 obtain ⟨hn,hg2⟩:=hnz.stored (i*7+5) ev'
 have hlt:i*7+5<((rows.set i ⟨rowN L i z k,ev,sv⟩).flatMap nodC).length:=by rw[nodes_len,List.length_set];omega
 rw[←splice_set hlt,set_cell (y':=⟨rowN L i z (k+1),ev',sv⟩) hir (by omega) rfl] at hn
 refine ⟨hn,?_,?_,hgz.trans hg2⟩
 ·rw[en,List.length_append,List.flatMap_append]
  have:=own_grown hnz ho hg2 (by decide)
  simpa using this
 ·rw[es]
  exact own_grown hnz hsz hg2 (by decide)
theorem RJ.stub (h:RJ base L i z gv rows w4 k ev sv W) (hk:k<(bodyG z).links.length) (hir:i<rows.length) {e:Int × Int × Int} (he:edgeP L i z.1.id (bodyG z).links[k]=none) (hs:stubP (bodyG z).links[k]=some e) {sv':Value} {W1 Wz:World} {g cap:Nat} (hgv:gv=.slice (some ⟨g,0,none⟩) L.length cap)
  (hb:Below W.heap.size W W1) (ho:Wz.ownsRow w4.heap.size 103 3 sv' ((rowN L i z k).stubs.length+1) ((rowN L i z k).stubs.flatMap stubC++stubC e)) (hg:W1.grownBy Wz sv.ownBlock):RJ base L i z gv rows w4 (k+1) ev sv' (Wz.setCell ⟨g,i*7+6,none⟩ sv'):=by
 have hc:=h.call hb
 have hnz:=own_grown hc.stubs hc.nods hg (by decide)
 have hez:=own_grown hc.stubs hc.edges hg (by decide)
 have hgz:=hc.grown.andThen hg fun j hj=>.inl (hc.stubs.lt j hj).1
 have en:(rowN L i z (k+1)).edges=(rowN L i z k).edges:=by
  unfold rowN
  simp only
  rw[take_fm hk,he]
  simp
 have es:(rowN L i z (k+1)).stubs=(rowN L i z k).stubs++[e]:=by
  unfold rowN
  simp only
  rw[take_fm hk,hs]
  rfl
 subst hgv
 obtain ⟨hn,hg2⟩:=hnz.stored (i*7+6) sv'
 have hlt:i*7+6<((rows.set i ⟨rowN L i z k,ev,sv⟩).flatMap nodC).length:=by rw[nodes_len,List.length_set];omega
 rw[←splice_set hlt,set_cell (y':=⟨rowN L i z (k+1),ev,sv'⟩) hir (by omega) rfl] at hn
 refine ⟨hn,?_,?_,hgz.trans hg2⟩
 ·rw[en]
  exact own_grown hnz hez hg2 (by decide)
 ·rw[es,List.length_append,List.flatMap_append]
  have:=own_grown hnz ho hg2 (by decide)
  simpa using this
theorem RJ.turn (h:RJ base L i z gv rows w4 k ev sv W) (hN:DN base L i gv rows w4) (hiL:i<L.length) (hz:z=L[i]) (hk:k=(bodyG z).links.length) (ht:¬ z.1.type=2) (hb:base≤w4.heap.size):DN base L (i+1) gv (rows.set i ⟨rowN L i z k,ev,sv⟩) W:=
 hN.turn hiL (by rw[hN.len];exact h.nods) h.grown (by rw[←hz];exact rowN_all hk ht) (own_less h.edges hb) (own_less h.stubs hb)
end
theorem own_apart {w:World} {b1 b2 s1 s2 n1 n2:Nat} {e1 e2:TypeId} {v1 v2:Value} {xs1 xs2:List Value} (h1:w.ownsRow b1 e1 s1 v1 n1 xs1) (h2:w.ownsRow b2 e2 s2 v2 n2 xs2) (hne:e1≠e2) {q:Nat} (hq1:v1.ownBlock=some q) (hq2:v2.ownBlock=some q):False:=by
 rcases h1.2 with h' | ⟨g,cap,cur,rfl,_,hh,_⟩
 ·rw[h'.1] at hq1
  cases hq1
 ·obtain rfl:g=q:=o'i hq1
  rcases h2.2 with h'' | ⟨g',cap',cur',rfl,_,hh',_⟩
  ·rw[h''.1] at hq2
   cases hq2
  ·obtain rfl:g'=g:=o'i hq2
   have h4:=hh.symm.trans hh'
   simp only[Option.some.injEq,Obj.cells.injEq] at h4
   exact hne h4.2.1
theorem find_set {rows:List NodR} {i:Nat} {y:NodR} (hi:i<rows.length) (h1:y.n.network=rows[i].n.network) (h2:y.n.id=rows[i].n.id) (net:Bool) (id:Int):(rows.set i y).findIdx? (isN_ net id)=rows.findIdx? (isN_ net id):=by
 induction rows generalizing i with
 | nil=>cases hi
 | cons r R ih =>
  cases i with
  | zero =>
   simp only[List.getElem_cons_zero] at h1 h2
   rw[s'z,List.findIdx?_cons,List.findIdx?_cons]
   unfold isN_
   rw[h1,h2]
  | succ i =>
   simp only[List.getElem_cons_succ] at h1 h2
   rw[s's,List.findIdx?_cons,List.findIdx?_cons,ih (by simpa using hi) h1 h2]
end Go.Proofs.YtcknpofnpabkiaaGreat
