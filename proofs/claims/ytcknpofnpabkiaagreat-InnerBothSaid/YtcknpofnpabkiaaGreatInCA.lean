/- lodestarlaw18's InnerBoth answers true. Conditions: the states lie in memory. -/
import Derived.Test.YtcknpofnpabkiaaGreatInBU
import Derived.Test.YtcknpofnpabkiaaGreatInBT
import Derived.Test.YtcknpofnpabkiaaGreatInAY
import Derived.Test.YtcknpofnpabkiaaGreatInBV
set_option maxRecDepth 100000
namespace Go.Proofs.YtcknpofnpabkiaaGreat
open Go.RowKit Go.Lo
theorem yb_len (x:WayY):(yL x).length=10:=rfl
def AtB (r:List WayY) (b:Int) (ai:Int):Prop:=ai = -1∨∃ j,∃ hj:j<r.length,ai=(j:Int)∧r[j].1.n.router=b
set_option maxHeartbeats 8000000 in
theorem innerBoth_any (B:Nat) (sv:Value) (S:List StG) (ls:List StV) (a b:Int) (_ha:0≤a∧a<4294967296) (_hb:0≤b∧b<4294967296) (w:World) (hS:StatesIn w B sv S ls) (hB:B≤w.heap.size) (hok:∀ s∈S,HeadOk s.1∧∀ b∈s.2,0≤b∧b<256) (hh:∀ s∈S,s.2.length≤140737488355328) (hn:ls.length≤140737488355328) :
  Calls Tryz.prog 6 #[sv,.int .u32 a,.int .u32 b] w fun e w'=>e=.returned (.bool true)∧Below w.heap.size w w':=by
 have CH:=heavy18_any ls sv B w hS.sl hn (states_len hS hh)
 have CW:=fun W=>works18_any W
 have CC:=fun W (hW:Below w.heap.size w W) h1 h2=>copystates_any B sv S ls W (hS.below (hW.mono hB)) (Nat.le_trans hB hW.size) h1 h2
 have LS:∀ m,(∀ x∈ls,x.len≤m)→∀ s∈S,s.2.length≤m:=fun m h=>lens_states hS h
 replace LS:=h'd LS
 replace CH:=h'd CH
 replace CW:=h'd CW
 replace CC:=h'd CC
 have hsl:=h'd hS.len
 obtain ⟨-,lA,lc,rfl,-⟩:=_root_.id hS.sl
 replace hS:=h'd hS
 go_enter Tryz.func6,Tryz.ntmps6
 go_upto_if 17 with (go_at_call 19;refine Calls.mono CH.out ?_;rintro e w1 ⟨q,rfl,rfl,hq⟩)
 cases q with
 | true =>
  go_wp2_with (go_at_call 20;refine Calls.mono (CW.out _) ?_;rintro e w2 ⟨rfl,hB2⟩)
  go_ret
  exact ⟨rfl,hB2⟩
 | false =>
  obtain ⟨h40,h8⟩:=hq rfl
  have hsz:=LS.out _ h8
  have hso:∀ s∈S,StOk s:=fun s hs=>⟨(hok s hs).1,Nat.le_trans (hsz s hs) (by omega),(hok s hs).2⟩
  have hs60:Hid (S.length≤60):=by have:=hsl.out;show S.length≤60;omega
  have CC:=fun W hW=>CC.out W hW (fun s hs=>Nat.le_trans (hsz s hs) (by omega)) (by omega)
  have CR:Hid (∀ (W:World) (v:Value) (l2:List StV) (root:Int),StatesIn W W.heap.size v S l2→Calls Tryz.prog 21 #[v,.int .u32 0,.int .u32 root] W (RoutesPost S 0 root W)):=fun W v l2 root h=>routes18_any W.heap.size v S l2 W 0 root h (Nat.le_refl _) hso hsz hs60.out
  replace CC:=h'd CC
  replace hso:=h'd hso
  replace hsz:=h'd hsz
  clear CH hq h8 LS hok hh
  go_upto_region 4 with (first
   | (go_at_call 24;refine Calls.mono (CC.out w1 (Below.refl _ _)) ?_;rintro e w2 ⟨v,ys,rfl,hys,hW⟩)
   | (go_at_call 21;refine Calls.mono (CR.out w2 v (ys.map (·.1)) a (by rw[←hys];exact hW.states)) ?_;rintro e w3 ⟨v1,v2,n,r,rfl,hn,hnh,hr,hrh,hi,hnl,hrl,hB3⟩;obtain ⟨-,rA,rc,rfl,-⟩:=_root_.id (Sl.of_own hr)))
  have hbw3:=hW.below.trans (hB3.mono hW.below.size)
  have hxs:=Sl.of_own hr
  clear hn hnh hr hrh hnl hW hys
  go_upto_region 5 with (first
   | (go_at_call 24;refine Calls.mono (CC.out w3 hbw3) ?_;rintro e w4 ⟨vB,ys2,rfl,hys,hW⟩)
   | (go_at_call 21;refine Calls.mono (CR.out w4 vB (ys2.map (·.1)) b (by rw[←hys];exact hW.states)) ?_;rintro e w5 ⟨v3,v4,n2,r2,rfl,hn,hnh,hr,hrh,hi2,hnl,hrl2,hB5⟩;obtain ⟨-,sA,sc,rfl,-⟩:=_root_.id (Sl.of_own hr)))
  have hb35:=hW.below.trans (hB5.mono hW.below.size)
  have hbw5:=hbw3.trans (hb35.mono hbw3.size)
  have hxs5:=(hxs.below hb35).more hb35.size
  have hys5:=Sl.of_own hr
  have hP:=h'd (inner_both hso.out hsz.out hi hi2)
  have memX:∀ x∈r,((x.1.n,x.2):WayG)∈gOf r:=fun x hx=>List.mem_map.2 ⟨x,hx,rfl⟩
  have memY:∀ x∈r2,((x.1.n,x.2):WayG)∈gOf r2:=fun x hx=>List.mem_map.2 ⟨x,hx,rfl⟩
  have cX:Hid (∀ x∈r,0≤x.1.n.cost∧x.1.n.cost<4294967296):=fun x hx=>hP.out.cx _ (memX x hx)
  have cY:Hid (∀ x∈r2,0≤x.1.n.cost∧x.1.n.cost<4294967296):=fun x hx=>hP.out.cy _ (memY x hx)
  have leP:Hid (∀ u∈r,u.1.n.router=b→∀ y∈r2,y.1.n.router≠a→∀ x∈r,x.1.n.router=y.1.n.router→x.1.n.cost≤u.1.n.cost+y.1.n.cost):=fun u hu h y hy hya x hx hxy=>hP.out.le _ (memX u hu) h _ (memY y hy) hya _ (memX x hx) hxy
  have farP:Hid (∀ u∈r,u.1.n.router=b→∀ y∈r2,y.1.n.router≠a→(∀ x∈r,x.1.n.router≠y.1.n.router)→4294967296≤u.1.n.cost+y.1.n.cost):=fun u hu h y hy hya hno=>hP.out.far_ _ (memX u hu) h _ (memY y hy) hya (fun z hz=>by
   obtain ⟨x,hx,rfl⟩:=List.mem_map.1 hz
   exact hno x hx)
  clear hn hnh hr hrh hnl hW hys hi hi2 hB3 hB5 hxs hP memX memY CC CR hso hsz hs60 hb35 hbw3
  go_upto_region 7 with fail
  go_loopg [11,12] r.length (fun m va v wr=>∃ (k:Nat) (ki ai:Int),k≤r.length∧m=r.length-k∧va=.int .i64 ai∧v=.int .i64 ki∧ki=k∧AtB r b ai∧Below w5.heap.size w5 wr)
  case atStart=>exact ⟨0,0,-1,Nat.zero_le _,rfl,rfl,rfl,rfl,.inl rfl,Below.refl _ _⟩
  case round =>
   obtain ⟨k,ki,ai,hk,rfl,rfl,rfl,hki,hat,hb6⟩:=hrel
   obtain ⟨w6,rfl⟩:∃ x:World,x=wr:=⟨_,rfl⟩
   have hx6:=hxs5.below hb6
   obtain rfl:=hki
   replace hat:=h'd hat
   by_cases hkl:k<r.length
   ·obtain ⟨bg,og,rfl,hbg,hrow⟩:=Sl.row yb_len hx6 hkl
    have r2_:=hrow 2 _ rfl
    obtain ⟨xr,hxr⟩:∃ xr,xr=r[k].1.n.router:=⟨_,rfl⟩
    rw[←hxr] at r2_
    replace hxr:=h'd hxr
    clear hrow
    by_cases hq:xr=b
    ·have hqb:(xr==b)=true:=beq_iff_eq.2 hq
     replace hq:=h'd hq
     go_wp2_with fail
     go_roundg (r.length-(k+1))
     case measure=>omega
     case rel=>exact ⟨k+1,_,(k:Int),by omega,rfl,rfl,rfl,by first | (rw[Int.natCast_succ];exact (IntWalk.i64_in _ (by omega))) | rw[Int.natCast_succ],.inr ⟨k,hkl,rfl,by rw[←hxr.out];exact hq.out⟩,hb6⟩
    ·have hqb:(xr==b)=false:=beq_eq_false_iff_ne.2 hq
     replace hq:=h'd hq
     go_wp2_with fail
     go_roundg (r.length-(k+1))
     case measure=>omega
     case rel=>exact ⟨k+1,_,ai,by omega,rfl,rfl,rfl,by first | (rw[Int.natCast_succ];exact (IntWalk.i64_in _ (by omega))) | rw[Int.natCast_succ],hat.out,hb6⟩
   ·obtain rfl:k=r.length:=by omega
    rcases hat.out with rfl | ⟨j,hj,rfl,hjb⟩
    ·go_wp2_with (go_at_call 20;refine Calls.mono (CW.out _) ?_;rintro e w9 ⟨rfl,hB9⟩)
     go_ret
     have h9:=hB9.mono hb6.size
     exact ⟨rfl,hbw5.trans ((hb6.trans h9).mono hbw5.size)⟩
    ·clear hat
     have hju:=List.getElem_mem hj
     have cu:=cX.out _ hju
     have leU:Hid (∀ y∈r2,y.1.n.router≠a→∀ x∈r,x.1.n.router=y.1.n.router→x.1.n.cost≤r[j].1.n.cost+y.1.n.cost):=fun y hy hya x hx h=>leP.out _ hju hjb y hy hya x hx h
     have farU:Hid (∀ y∈r2,y.1.n.router≠a→(∀ x∈r,x.1.n.router≠y.1.n.router)→4294967296≤r[j].1.n.cost+y.1.n.cost):=fun y hy hya h=>farP.out _ hju hjb y hy hya h
     obtain ⟨uc,huc⟩:∃ uc,uc=r[j].1.n.cost:=⟨_,rfl⟩
     rw[←huc] at cu
     replace huc:=h'd huc
     replace hjb:=h'd hjb
     clear hju leP farP hx6
     have hj0:¬ (j:Int)<0:=by omega
     go_upto_region 14 with fail
     go_loopg [13] r2.length (fun m v wr=>∃ (k:Nat),k≤r2.length∧m=r2.length-k∧v=.int .i64 k∧Below w5.heap.size w5 wr)
     case atStart=>exact ⟨0,Nat.zero_le _,rfl,rfl,hb6⟩
     case round =>
      obtain ⟨k,hk2,rfl,rfl,hb7⟩:=hrel
      obtain ⟨w7,rfl⟩:∃ x:World,x=wr:=⟨_,rfl⟩
      by_cases hkl2:k<r2.length
      ·have hy7:=hys5.below hb7
       obtain ⟨bh,oh,rfl,hbh,hrow⟩:=Sl.row yb_len hy7 hkl2
       have y2:=hrow 2 _ rfl
       have y6:=hrow 6 _ rfl
       have cy:=cY.out _ (List.getElem_mem hkl2)
       have leK:Hid (r2[k].1.n.router≠a→∀ x∈r,x.1.n.router=r2[k].1.n.router→x.1.n.cost≤r[j].1.n.cost+r2[k].1.n.cost):=fun h x hx e=>leU.out _ (List.getElem_mem hkl2) h x hx e
       have farK:Hid (r2[k].1.n.router≠a→(∀ x∈r,x.1.n.router≠r2[k].1.n.router)→4294967296≤r[j].1.n.cost+r2[k].1.n.cost):=fun h e=>farU.out _ (List.getElem_mem hkl2) h e
       rw[←huc.out] at leK farK
       generalize r2[k].1.n.router=yr at y2 leK farK
       generalize r2[k].1.n.cost=yc at y6 cy leK farK
       clear hrow hy7
       by_cases hq:yr=a
       ·have hqb:(yr==a)=true:=beq_iff_eq.2 hq
        replace hq:=h'd hq
        go_wp2_with fail
        go_roundg (r2.length-(k+1))
        case measure=>omega
        case rel=>exact ⟨k+1,by omega,rfl,by go_num,hb7⟩
       ·have hqb:(yr==a)=false:=beq_eq_false_iff_ne.2 hq
        have leN:Hid (∀ x∈r,x.1.n.router=yr→x.1.n.cost≤uc+yc):=leK.out hq
        have farN:Hid ((∀ x∈r,x.1.n.router≠yr)→4294967296≤uc+yc):=farK.out hq
        replace hq:=h'd hq
        have q1:IntKind.u64.wrap uc=uc:=by rw[IntKind.wrap_u64];omega
        have q2:IntKind.u64.wrap yc=yc:=by rw[IntKind.wrap_u64];omega
        have q3:IntKind.u64.wrap (uc+yc)=uc+yc:=by rw[IntKind.wrap_u64];omega
        clear leK farK
        go_upto_region 19 with fail
        go_loopg [14,15] r.length (fun m vf v wr=>∃ (l:Nat) (fd:Bool),l≤r.length∧m=r.length-l∧vf=.bool fd∧v=.int .i64 l∧(fd=false→∀ i (hi:i<r.length),i<l→r[i].1.n.router≠yr)∧Below w5.heap.size w5 wr)
        case atStart=>exact ⟨0,false,Nat.zero_le _,rfl,rfl,rfl,fun _ _ _ h=>absurd h (by omega),hb7⟩
        case round =>
         obtain ⟨l,fd,hl,rfl,rfl,rfl,hno,hb8⟩:=hrel
         obtain ⟨w8,rfl⟩:∃ x:World,x=wr:=⟨_,rfl⟩
         have hx8:=hxs5.below hb8
         have z2:=(show w8.cell? ⟨bh,oh+k*10+2,none⟩=some (.int .u32 yr) from (hb8.cell hbh).trans ((hb7.cell hbh).symm.trans y2))
         have z6:=(show w8.cell? ⟨bh,oh+k*10+6,none⟩=some (.int .u32 yc) from (hb8.cell hbh).trans ((hb7.cell hbh).symm.trans y6))
         replace hno:=h'd hno
         obtain ⟨bj,oj,hjA,-,hjrow⟩:=Sl.row yb_len hx8 hj
         have u6:=hjrow 6 _ rfl
         rw[←huc.out] at u6
         clear hjrow
         by_cases hll:l<r.length
         ·obtain ⟨bg,og,hlA,hbg,hrow⟩:=Sl.row yb_len hx8 hll
          rw[hjA] at hlA
          simp only[Option.some.injEq,Addr.mk.injEq,and_true] at hlA
          obtain ⟨rfl,rfl⟩:=hlA
          subst hjA
          have x2:=hrow 2 _ rfl
          have x6:=hrow 6 _ rfl
          have cx:=cX.out _ (List.getElem_mem hll)
          have leX:=fun h=>leN.out _ (List.getElem_mem hll) h
          obtain ⟨xr,hxr⟩:∃ xr,xr=r[l].1.n.router:=⟨_,rfl⟩
          rw[←hxr] at x2 leX
          generalize r[l].1.n.cost=xc at x6 cx leX
          replace hxr:=h'd hxr
          clear hrow hx8
          by_cases he:xr=yr
          ·have heb:(xr==yr)=true:=beq_iff_eq.2 he
           have hle:=leX he
           have hgt:decide (uc+yc<xc)=false:=decide_eq_false (by omega)
           have q4:IntKind.u64.wrap xc=xc:=by rw[IntKind.wrap_u64];omega
           replace hle:=h'd hle
           replace he:=h'd he
           clear leX
           go_upto_region 21 with fail
           go_quiet (fail)
           go_upto_region 23 with fail
           go_quiet (fail)
           go_wp2_with fail
           go_roundg (r.length-(l+1))
           case measure=>omega
           case rel=>exact ⟨l+1,true,by omega,rfl,rfl,by go_num,fun h=>(by cases h),below_drewN hb8 _⟩
          ·have heb:(xr==yr)=false:=beq_eq_false_iff_ne.2 he
           replace he:=h'd he
           clear leX
           go_upto_region 21 with fail
           go_quiet (fail)
           go_wp2_with fail
           go_roundg (r.length-(l+1))
           case measure=>omega
           case rel=>exact ⟨l+1,fd,by omega,rfl,rfl,by go_num,fun h i hi hil=>(by
            by_cases e:i=l
            ·subst e;rw[←hxr.out];exact he.out
            ·exact hno.out h i hi (by omega)),below_drewN hb8 _⟩
         ·obtain rfl:l=r.length:=by omega
          subst hjA
          clear hx8
          cases fd with
          | true =>
           go_upto_region 25 with fail
           go_quiet (fail)
           go_wp2_with fail
           go_roundg (r2.length-(k+1))
           case measure=>omega
           case rel=>exact ⟨k+1,by omega,rfl,by go_num,below_drewN hb8 _⟩
          | false =>
           have hfar:=farN.out fun x hx=>by
            obtain ⟨i,hi,rfl⟩:=List.getElem_of_mem hx
            exact hno.out rfl i hi hi
           have hlt:decide (uc+yc<4294967296)=false:=decide_eq_false (by omega)
           replace hfar:=h'd hfar
           go_upto_region 25 with fail
           go_quiet (fail)
           go_wp2_with fail
           go_roundg (r2.length-(k+1))
           case measure=>omega
           case rel=>exact ⟨k+1,by omega,rfl,by go_num,below_drewN hb8 _⟩
      ·obtain rfl:k=r2.length:=by omega
       go_wp2_with (go_at_call 20;refine Calls.mono (CW.out _) ?_;rintro e w9 ⟨rfl,hB9⟩)
       go_ret
       have h9:=hB9.mono hb7.size
       exact ⟨rfl,hbw5.trans ((hb7.trans h9).mono hbw5.size)⟩
end Go.Proofs.YtcknpofnpabkiaaGreat
