/- layer 18's eqWays: ways that are the same answer yes. Conditions: the ways and their hops lie in memory. -/
import Derived.Test.YtcknpofnpabkiaaGreatRpBU
import Derived.Test.YtcknpofnpabkiaaGreatRpAY
set_option maxRecDepth 100000
namespace Go.Proofs.YtcknpofnpabkiaaGreat
open Go.RowKit Go.Lo
set_option maxHeartbeats 4000000 in
theorem eqWays18_any (B:Nat) (R:List WayG) (la lb:List WayV) (av bv:Value) (w:World) (hA:WaysIn w B av R la) (hBb:WaysIn w B bv R lb) (hB:B≤w.heap.size) (hh:∀ r∈R,r.2.length≤2000000) (hn:R.length≤2000000) :
  Calls Tryz.prog 23 #[av,bv] w fun e w'=>e=.returned (.bool true)∧Below w.heap.size w w':=by
 obtain ⟨-,aA,ac,rfl,-⟩:=id hA.sl
 obtain ⟨-,bA,bc,rfl,-⟩:=id hBb.sl
 have hlA:=hA.len
 have hlB:=hBb.len
 obtain ⟨m,hm⟩:∃ m,m=R.length:=⟨_,rfl⟩
 have hla:la.length=m:=by omega
 have hlb:lb.length=m:=by omega
 have hmn:m≤2000000:=by omega
 rw[hla,hlb]
 replace hA:=h'd hA
 replace hBb:=h'd hBb
 replace hla:=h'd hla
 replace hlb:=h'd hlb
 replace hlA:=h'd hlA
 replace hlB:=h'd hlB
 replace hm:=h'd hm
 replace hh:=h'd hh
 replace hn:=h'd hn
 have hmix:(Tryz.prog).follows .mixedOrders=true:=by kernel_rfl
 have hne:((m:Int) != (m:Int))=false:=by simp
 go_enter Tryz.func23,Tryz.ntmps23
 go_wp2_with fail
 go_loopg [5] m (fun c iv wr=>∃ k:Nat,k≤m∧c=m-k∧iv=.int .i64 k∧Below w.heap.size w wr)
 case atStart=>exact ⟨0,Nat.zero_le _,rfl,rfl,b'r _ _⟩
 case round =>
  obtain ⟨k,hk,rfl,rfl,hBr⟩:=hrel
  obtain ⟨w2,rfl⟩:∃ x:World,x=wr:=⟨_,rfl⟩
  have hz2:=hBr.size
  by_cases hkm:k<m
  ·have hkA:k<la.length:=by have:=hla.out;omega
   have hkB:k<lb.length:=by have:=hlb.out;omega
   have hkR:k<R.length:=by have:=hm.out;omega
   obtain ⟨b1,o1,hv1,hb1,hr1⟩:=Sl.row wayL_len hA.out.sl hkA
   subst hv1
   obtain ⟨b2,o2,hv2,hb2,hr2⟩:=Sl.row wayL_len hBb.out.sl hkB
   subst hv2
   have hs1:=hA.out.hops k hkA hkR
   have hs2:=hBb.out.hops k hkB hkR
   have hn1:=hA.out.n k hkA hkR
   have hn2:=hBb.out.n k hkB hkR
   have hgl:=hh.out _ (g'm hkR)
   obtain ⟨x,hx⟩:∃ x,x=la[k]:=⟨_,rfl⟩
   rw[←hx] at hr1 hs1 hn1
   clear hx
   obtain ⟨y,hy⟩:∃ y,y=lb[k]:=⟨_,rfl⟩
   rw[←hy] at hr2 hs2 hn2
   clear hy
   obtain ⟨g,hg⟩:∃ g,g=R[k]:=⟨_,rfl⟩
   rw[←hg] at hs1 hs2 hn1 hn2 hgl
   clear hg
   obtain ⟨⟨x0,x1,x2,x3,x4,x5,x6,x7,x8⟩,xh⟩:=g
   obtain ⟨_,xA,xn,xc⟩:=x
   obtain ⟨_,yA,yn,yc⟩:=y
   dsimp only at hn1 hn2 hs1 hs2 hgl
   subst hn1
   subst hn2
   obtain rfl:xn=xh.length:=sl_lenW hs1
   obtain rfl:yn=xh.length:=sl_lenW hs2
   have hb1w:b1<w.heap.size:=by omega
   have hb2w:b2<w.heap.size:=by omega
   have c1:=h'd (fun (W:World) (h:Below w.heap.size w W) (q:Nat) (u:Value) (hu:(wayL ⟨⟨x0,x1,x2,x3,x4,x5,x6,x7,x8⟩,xA,xh.length,xc⟩)[q]?=some u)=>(h.cell (p:=⟨b1,o1+k*10+q,none⟩) hb1w).trans (hr1 q u hu))
   have c2:=h'd (fun (W:World) (h:Below w.heap.size w W) (q:Nat) (u:Value) (hu:(wayL ⟨⟨x0,x1,x2,x3,x4,x5,x6,x7,x8⟩,yA,xh.length,yc⟩)[q]?=some u)=>(h.cell (p:=⟨b2,o2+k*10+q,none⟩) hb2w).trans (hr2 q u hu))
   have CE:=h'd (fun (W:World) (h:Below w.heap.size w W)=>eqWay18_any ⟨x0,x1,x2,x3,x4,x5,x6,x7,x8⟩ xA yA xc yc xh B W (hs1.keep fun p hp=>h.cell (by omega)) (hs2.keep fun p hp=>h.cell (by omega)) (n't hB h.size) hgl)
   clear hr1 hr2 hs1 hs2
   have ik:(k:Int)<(m:Int):=by omega
   go_upto_region 6 with fail
   refine wp_region_vals [some 17,some 18,some 19,some 20,some 21,some 22,some 23,some 24,some 25,some 26] (fun W=>Below w2.heap.size w2 W) (fun W W'=>Below W.heap.size W W') id (ValV [.slice (some ⟨b1,o1,none⟩) m ac,.int .i64 k,.pointer (some ⟨b1,o1+k*10,none⟩),.agg #[.int .u32 x0,.int .u8 x1,.int .u32 x2,.int .u8 x3,.int .u8 x4,.int .u32 x5,.int .u32 x6,.int .u32 x7,.int .u32 x8,.slice xA xh.length xc],.slice (some ⟨b2,o2,none⟩) m bc,.int .i64 k,.pointer (some ⟨b2,o2+k*10,none⟩),.agg #[.int .u32 x0,.int .u8 x1,.int .u32 x2,.int .u8 x3,.int .u8 x4,.int .u32 x5,.int .u32 x6,.int .u32 x7,.int .u32 x8,.slice yA xh.length yc],.bool true,.bool false]) hmix (by kernel_rfl) rfl (by decide) (by kernel_rfl) (fun _ _ _ _ _ _ h=>h) (b'r _ _).drew ?_ ?_
   ·intro t w' a' hI' ha j' hlt' hd
    simp only[putFrom,Act.put,Nat.reduceAdd,s'a,s'z,s's] at ha
    subst ha
    replace hlt':j'<10:=hlt'
    have hzw:=hI'.size
    have hJ:=hBr.trans (hI'.mono hz2)
    rcases (show j'=0∨j'=1∨j'=2∨j'=3∨j'=4∨j'=5∨j'=6∨j'=7∨j'=8∨j'=9 by omega) with rfl | rfl | rfl | rfl | rfl | rfl | rfl | rfl | rfl | rfl
    ·refine w'k rfl fun K' hK => ?_
     go_wp2
     exact hK.out _ _ ⟨_,rfl,hI',b'r _ _,rfl⟩
    ·refine w'k rfl fun K' hK => ?_
     go_wp2
     exact hK.out _ _ ⟨_,rfl,hI',b'r _ _,rfl⟩
    ·rw[←o'i (hd 0 (by kernel_rfl))]
     rw[←o'i (hd 1 (by kernel_rfl))]
     refine w'k rfl fun K' hK => ?_
     go_wp2
     exact hK.out _ _ ⟨_,rfl,hI',b'r _ _,rfl⟩
    ·rw[←o'i (hd 2 (by kernel_rfl))]
     have f0:w'.cell? ⟨b1,o1+k*10,none⟩=some (.int .u32 x0):=c1.out w' hJ 0 _ rfl
     have f1:w'.cell? ⟨b1,o1+k*10+1,none⟩=some (.int .u8 x1):=c1.out w' hJ 1 _ rfl
     have f2:w'.cell? ⟨b1,o1+k*10+2,none⟩=some (.int .u32 x2):=c1.out w' hJ 2 _ rfl
     have f3:w'.cell? ⟨b1,o1+k*10+3,none⟩=some (.int .u8 x3):=c1.out w' hJ 3 _ rfl
     have f4:w'.cell? ⟨b1,o1+k*10+4,none⟩=some (.int .u8 x4):=c1.out w' hJ 4 _ rfl
     have f5:w'.cell? ⟨b1,o1+k*10+5,none⟩=some (.int .u32 x5):=c1.out w' hJ 5 _ rfl
     have f6:w'.cell? ⟨b1,o1+k*10+6,none⟩=some (.int .u32 x6):=c1.out w' hJ 6 _ rfl
     have f7:w'.cell? ⟨b1,o1+k*10+7,none⟩=some (.int .u32 x7):=c1.out w' hJ 7 _ rfl
     have f8:w'.cell? ⟨b1,o1+k*10+8,none⟩=some (.int .u32 x8):=c1.out w' hJ 8 _ rfl
     have f9:w'.cell? ⟨b1,o1+k*10+9,none⟩=some (.slice xA xh.length xc):=c1.out w' hJ 9 _ rfl
     refine w'k rfl fun K' hK => ?_
     go_wp2
     exact hK.out _ _ ⟨_,rfl,hI',b'r _ _,rfl⟩
    ·refine w'k rfl fun K' hK => ?_
     go_wp2
     exact hK.out _ _ ⟨_,rfl,hI',b'r _ _,rfl⟩
    ·refine w'k rfl fun K' hK => ?_
     go_wp2
     exact hK.out _ _ ⟨_,rfl,hI',b'r _ _,rfl⟩
    ·rw[←o'i (hd 4 (by kernel_rfl))]
     rw[←o'i (hd 5 (by kernel_rfl))]
     refine w'k rfl fun K' hK => ?_
     go_wp2
     exact hK.out _ _ ⟨_,rfl,hI',b'r _ _,rfl⟩
    ·rw[←o'i (hd 6 (by kernel_rfl))]
     have f0:w'.cell? ⟨b2,o2+k*10,none⟩=some (.int .u32 x0):=c2.out w' hJ 0 _ rfl
     have f1:w'.cell? ⟨b2,o2+k*10+1,none⟩=some (.int .u8 x1):=c2.out w' hJ 1 _ rfl
     have f2:w'.cell? ⟨b2,o2+k*10+2,none⟩=some (.int .u32 x2):=c2.out w' hJ 2 _ rfl
     have f3:w'.cell? ⟨b2,o2+k*10+3,none⟩=some (.int .u8 x3):=c2.out w' hJ 3 _ rfl
     have f4:w'.cell? ⟨b2,o2+k*10+4,none⟩=some (.int .u8 x4):=c2.out w' hJ 4 _ rfl
     have f5:w'.cell? ⟨b2,o2+k*10+5,none⟩=some (.int .u32 x5):=c2.out w' hJ 5 _ rfl
     have f6:w'.cell? ⟨b2,o2+k*10+6,none⟩=some (.int .u32 x6):=c2.out w' hJ 6 _ rfl
     have f7:w'.cell? ⟨b2,o2+k*10+7,none⟩=some (.int .u32 x7):=c2.out w' hJ 7 _ rfl
     have f8:w'.cell? ⟨b2,o2+k*10+8,none⟩=some (.int .u32 x8):=c2.out w' hJ 8 _ rfl
     have f9:w'.cell? ⟨b2,o2+k*10+9,none⟩=some (.slice yA xh.length yc):=c2.out w' hJ 9 _ rfl
     refine w'k rfl fun K' hK => ?_
     go_wp2
     exact hK.out _ _ ⟨_,rfl,hI',b'r _ _,rfl⟩
    ·rw[←o'i (hd 3 (by kernel_rfl))]
     rw[←o'i (hd 7 (by kernel_rfl))]
     have CC:=CE.out w' hJ
     dsimp only[wayC] at CC
     replace CC:=h'd CC
     refine w'k rfl fun K' hK => ?_
     go_wp2_with (go_at_call 56;refine c'm CC.out ?_;rintro e w4 ⟨rfl,hB4⟩)
     exact hK.out _ _ ⟨_,rfl,hI'.trans (hB4.mono hzw),hB4,rfl⟩
    ·rw[←o'i (hd 8 (by kernel_rfl))]
     refine w'k rfl fun K' hK => ?_
     go_wp2
     exact hK.out _ _ ⟨_,rfl,hI',b'r _ _,rfl⟩
   ·intro t w' a' hI' ha hv
    simp only[putFrom,Act.put,Nat.reduceAdd,s'a,s'z,s's] at ha
    subst ha
    have dl:t 9=.bool false:=(o'i (hv 9 (by decide))).symm
    rw[dl]
    clear hv dl
    go_wp2_with fail
    go_roundg (m-(k+1))
    case measure=>omega
    case rel=>exact ⟨k+1,by omega,rfl,by go_num,hBr.trans (hI'.mono hz2)⟩
  ·have ik:¬ (k:Int)<(m:Int):=by omega
   go_wp2_with fail
   go_ret
   exact ⟨rfl,hBr⟩
end Go.Proofs.YtcknpofnpabkiaaGreat
