/- lodestarlaw18's InnerRises answers true. Conditions: the states lie in memory. -/
import Derived.Test.YtcknpofnpabkiaaGreatInBU
import Derived.Test.YtcknpofnpabkiaaGreatInBT
import Derived.Test.YtcknpofnpabkiaaGreatInAY
import Derived.Test.YtcknpofnpabkiaaGreatInBV
set_option maxRecDepth 100000
namespace Go.Proofs.YtcknpofnpabkiaaGreat
open Go.RowKit Go.Lo
theorem neq_preI (w:World):(binOp .neq 45 (.agg #[.int .u32 0,.int .u8 0]) (.agg #[.int .u32 0,.int .u8 0])).run Tryz.prog w=.ok (.bool false) w:=by kernel_rfl
theorem yw_len (x:WayY):(yL x).length=10:=rfl
structure FewS (S:List StG):Prop where
 ok:∀ s∈S,StOk s
 small:∀ s∈S,s.2.length≤8192
 few:S.length≤60
set_option maxHeartbeats 8000000 in
theorem innerRises_any (B:Nat) (sv:Value) (S:List StG) (ls:List StV) (area root:Int) (w:World) (hS:StatesIn w B sv S ls) (hB:B≤w.heap.size) (hok:∀ s∈S,HeadOk s.1∧∀ b∈s.2,0≤b∧b<256) (hh:∀ s∈S,s.2.length≤140737488355328) (hn:ls.length≤140737488355328) :
  Calls Tryz.prog 5 #[sv,.int .u32 area,.int .u32 root] w fun e w'=>e=.returned (.bool true)∧Below w.heap.size w w':=by
 have CH:=heavy18_any ls sv B w hS.sl hn (states_len hS hh)
 have CW:=fun W=>works18_any W
 have CC:=fun h1 h2=>copystates_any B sv S ls w hS hB h1 h2
 have LS:∀ m,(∀ x∈ls,x.len≤m)→∀ s∈S,s.2.length≤m:=fun m h=>lens_states hS h
 replace LS:=h'd LS
 replace CH:=h'd CH
 replace CW:=h'd CW
 replace CC:=h'd CC
 have hsl:=h'd hS.len
 obtain ⟨-,lA,lc,rfl,-⟩:=_root_.id hS.sl
 replace hS:=h'd hS
 go_enter Tryz.func5,Tryz.ntmps5
 go_upto_if 12 with (go_at_call 19;refine Calls.mono CH.out ?_;rintro e w1 ⟨q,rfl,rfl,hq⟩)
 cases q with
 | true =>
  go_wp2_with (go_at_call 20;refine Calls.mono (CW.out _) ?_;rintro e w2 ⟨rfl,hB2⟩)
  go_ret
  exact ⟨rfl,hB2⟩
 | false =>
  obtain ⟨h40,h8⟩:=hq rfl
  have hsz:=LS.out _ h8
  have hfew:FewS S:=⟨fun s hs=>⟨(hok s hs).1,Nat.le_trans (hsz s hs) (by omega),(hok s hs).2⟩,hsz,by have:=hsl.out;omega⟩
  have CC:=h'd (CC.out (fun s hs=>Nat.le_trans (hsz s hs) (by omega)) (by omega))
  replace hfew:=h'd hfew
  clear CH hq h8 LS hsz hok hh
  go_upto_region 5 with (first
   | (go_at_call 24;refine Calls.mono CC.out ?_;rintro e w2 ⟨v,ys,rfl,hys,hW⟩)
   | (go_at_call 21;refine Calls.mono (routes18_any w2.heap.size v S (ys.map (·.1)) w2 area root (by rw[←hys];exact hW.states) (Nat.le_refl _) hfew.out.ok hfew.out.small hfew.out.few) ?_;rintro e w3 ⟨v1,v2,n,r,rfl,hn,hnh,hr,hrh,hi,hnl,hrl,hB3⟩))
  have hbw:=hW.below.trans (hB3.mono hW.below.size)
  have hR:=inner_rises hfew.out.ok hfew.out.small hi
  have hns:=Sl.of_own hn
  have hrs:=Sl.of_own hr
  obtain ⟨-,nA,nc,rfl,-⟩:=_root_.id hns
  obtain ⟨-,rA,rc,rfl,-⟩:=_root_.id hrs
  have hrv:∀ x∈r,x.2.length=x.1.len:=fun x hx=>by
   obtain ⟨-,A,c,he,-⟩:=(hrh x hx).sl
   simp only[Value.slice.injEq] at he
   omega
  have hn1:Hid (∀ x∈n,x.1.n.kind=1∧x.1.n.area=area∧x.1.n.router=0):=fun x hx=>hR.nets (x.1.n,x.2) (List.mem_map.2 ⟨x,hx,rfl⟩)
  have hr1:Hid (∀ x∈r,x.1.n.kind=1∧x.1.n.area=area∧x.1.n.router≠root∧x.1.n.router≠0∧x.1.n.addr=0∧x.1.n.bits=0∧x.1.len≠0):=fun x hx=>by
   obtain ⟨h1,h2,h3,h4,h5,h6,h7⟩:=hR.routers (x.1.n,x.2) (List.mem_map.2 ⟨x,hx,rfl⟩)
   refine ⟨h1,h2,h3,h4,h5,h6,fun h0=>h7 ?_⟩
   have h8:=hrv x hx
   exact List.eq_nil_of_length_eq_zero (by show x.2.length=0;omega)
  have hn2:Hid (∀ j (hj:j+1<n.length),n[j].1.n.addr<n[j+1].1.n.addr∨(n[j].1.n.addr=n[j+1].1.n.addr∧n[j].1.n.bits<n[j+1].1.n.bits)):=fun j hj=>by
   have h1:=List.pairwise_iff_getElem.1 hR.netsUp j (j+1) (by simp[gOf];omega) (by simp[gOf];omega) (by omega)
   simp only[gOf,List.getElem_map] at h1
   have h2:=(ltG_iff _ _).1 h1
   have h3:=(hn1.out _ (List.getElem_mem (l:=n) (n:=j) (by omega))).2.2
   have h4:=(hn1.out _ (List.getElem_mem (l:=n) (n:=j+1) hj)).2.2
   simp only at h2
   omega
  have hr2:Hid (∀ j (hj:j+1<r.length),r[j].1.n.router<r[j+1].1.n.router):=fun j hj=>by
   have h1:=List.pairwise_iff_getElem.1 hR.routersUp j (j+1) (by simp[gOf];omega) (by simp[gOf];omega) (by omega)
   simp only[gOf,List.getElem_map] at h1
   have h2:=(ltG_iff _ _).1 h1
   have h3:=(hr1.out _ (List.getElem_mem (l:=r) (n:=j) (by omega))).2.2.2.2
   have h4:=(hr1.out _ (List.getElem_mem (l:=r) (n:=j+1) hj)).2.2.2.2
   simp only at h2
   omega
  have qpre:=neq_preI
  clear hn hnh hr hrh hi hR hrv CC hfew hW hB3 hys
  go_loopg [9] n.length (fun m v wr=>∃ (k:Nat) (ki:Int),k≤n.length∧m=n.length-k∧v=.int .i64 ki∧ki=k∧Below w3.heap.size w3 wr)
  case atStart=>exact ⟨0,0,Nat.zero_le _,rfl,rfl,rfl,Below.refl _ _⟩
  case round =>
   obtain ⟨k,ki,hk,rfl,rfl,hki,hb4⟩:=hrel
   obtain ⟨w4,rfl⟩:∃ x:World,x=wr:=⟨_,rfl⟩
   have hns4:=hns.below hb4
   by_cases hkl:k<n.length
   ·obtain ⟨b,off,rfl,hb,hrow⟩:=Sl.row yw_len hns4 hkl
    obtain ⟨p1,p2,p3⟩:=hn1.out _ (List.getElem_mem hkl)
    have r0:=hrow 0 _ rfl
    have r1:=hrow 1 _ rfl
    have r2:=hrow 2 _ rfl
    have r4:=hrow 4 _ rfl
    have r5:=hrow 5 _ rfl
    rw[p3] at r2
    rw[p1] at r4
    rw[p2] at r5
    simp only[Nat.add_zero] at r0
    cases k with
    | zero =>
     obtain rfl:ki=0:=by omega
     clear hki
     generalize n[0].1.n.addr=a at r0
     generalize n[0].1.n.bits=bb at r1
     have hl0:decide ((0:Int)<(n.length:Int))=true:=decide_eq_true (by omega)
     simp only[Nat.zero_mul,Nat.add_zero] at r0 r1 r2 r4 r5
     clear hrow p1 p2 p3
     as_aux_lemma =>
      go_upto_region 7 with fail
      dsimp only[List.append]
      go_quiet (fail)
      go_wp2_with fail
      go_roundg (n.length-1)
      case measure=>omega
      case rel=>exact ⟨1,1,by omega,rfl,by go_num,rfl,hb4.trans (below_drewN (Below.refl _ _) _ |>.mono hb4.size)⟩
    | succ j =>
     obtain rfl:ki=(j:Int)+1:=by omega
     clear hki
     have hst:=hn2.out j hkl
     obtain ⟨b',off',he,-,hrow'⟩:=Sl.row yw_len hns4 (show j<n.length by omega)
     simp only[Option.some.injEq,Addr.mk.injEq,and_true] at he
     obtain ⟨rfl,rfl⟩:=he
     have s0:=hrow' 0 _ rfl
     have s1:=hrow' 1 _ rfl
     simp only[Nat.add_zero] at s0
     generalize n[j+1].1.n.addr=a at r0 hst
     generalize n[j+1].1.n.bits=bb at r1 hst
     generalize n[j].1.n.addr=pa at s0 hst
     generalize n[j].1.n.bits=pb at s1 hst
     have i1:decide ((j:Int)+1<(n.length:Int))=true:=decide_eq_true (by omega)
     have i2:(0:Int)≤(j:Int)+1:=by omega
     have i3:(j:Int)<(n.length:Int):=by omega
     have i4:(0:Int)<(j:Int)+1:=by omega
     clear hrow hrow' p1 p2 p3
     rcases hst with hst | ⟨hst,hst2⟩
     ·have hd:decide (pa<a)=true:=decide_eq_true hst
      replace hst:=h'd hst
      as_aux_lemma =>
       go_upto_region 7 with fail
       dsimp only[List.append]
       go_quiet (fail)
       go_wp2_with fail
       go_roundg (n.length-(j+1+1))
       case measure=>omega
       case rel=>exact ⟨j+1+1,(j:Int)+1+1,by omega,rfl,by go_num,rfl,hb4.trans (below_drewN (Below.refl _ _) _ |>.mono hb4.size)⟩
     ·subst hst
      have hd:decide (pb<bb)=true:=decide_eq_true hst2
      have hd2:decide (pa<pa)=false:=decide_eq_false (Int.lt_irrefl _)
      replace hst2:=h'd hst2
      as_aux_lemma =>
       go_upto_region 7 with fail
       dsimp only[List.append]
       go_quiet (fail)
       go_wp2_with fail
       go_roundg (n.length-(j+1+1))
       case measure=>omega
       case rel=>exact ⟨j+1+1,(j:Int)+1+1,by omega,rfl,by go_num,rfl,hb4.trans (below_drewN (Below.refl _ _) _ |>.mono hb4.size)⟩
   ·obtain rfl:k=n.length:=by omega
    obtain rfl:=hki
    clear hns hns4 hn1 hn2
    have i1:¬ (n.length:Int)<(n.length:Int):=by omega
    go_upto_region 10 with fail
    go_loopg [10] r.length (fun m v wr=>∃ (k:Nat) (ki:Int),k≤r.length∧m=r.length-k∧v=.int .i64 ki∧ki=k∧Below w3.heap.size w3 wr)
    case atStart=>exact ⟨0,0,Nat.zero_le _,rfl,rfl,rfl,hb4⟩
    case round =>
     obtain ⟨k,ki,hk2,rfl,rfl,hki,hb5⟩:=hrel
     obtain ⟨w5,rfl⟩:∃ x:World,x=wr:=⟨_,rfl⟩
     have hrs5:=hrs.below hb5
     by_cases hkl:k<r.length
     ·obtain ⟨b,off,rfl,hb,hrow⟩:=Sl.row yw_len hrs5 hkl
      obtain ⟨p1,p2,p3,p4,p5,p6,p7⟩:=hr1.out _ (List.getElem_mem hkl)
      have r0:=hrow 0 _ rfl
      have r1:=hrow 1 _ rfl
      have r2:=hrow 2 _ rfl
      have r4:=hrow 4 _ rfl
      have r5:=hrow 5 _ rfl
      have r9:=hrow 9 _ rfl
      rw[p5] at r0
      rw[p6] at r1
      rw[p1] at r4
      rw[p2] at r5
      simp only[Nat.add_zero] at r0
      cases k with
      | zero =>
       obtain rfl:ki=0:=by omega
       clear hki
       generalize r[0].1.n.router=a at r2 p3 p4
       generalize r[0].1.len=ln at r9 p7
       generalize r[0].1.A=xA at r9
       generalize r[0].1.cap=xc at r9
       have hl0:(0:Int)<(r.length:Int):=by omega
       simp only[Nat.zero_mul,Nat.add_zero] at r0 r1 r2 r4 r5 r9
       have e1:(a==root)=false:=beq_eq_false_iff_ne.2 p3
       have e2:(a==0)=false:=beq_eq_false_iff_ne.2 p4
       have e3:((ln:Int)==0)=false:=beq_eq_false_iff_ne.2 (by omega)
       have e4:¬ (ln:Int)=0:=by omega
       clear hrow p1 p2 p3 p4 p5 p6 p7
       as_aux_lemma =>
        go_upto_region 12 with fail
        go_quiet (fail)
        go_wp2_with fail
        go_roundg (r.length-1)
        case measure=>omega
        case rel=>exact ⟨1,1,by omega,rfl,by go_num,rfl,hb5.trans (below_drewN (Below.refl _ _) _ |>.mono hb5.size)⟩
      | succ j =>
       obtain rfl:ki=(j:Int)+1:=by omega
       clear hki
       have hst:=hr2.out j hkl
       obtain ⟨b',off',he,-,hrow'⟩:=Sl.row yw_len hrs5 (show j<r.length by omega)
       simp only[Option.some.injEq,Addr.mk.injEq,and_true] at he
       obtain ⟨rfl,rfl⟩:=he
       have s2:=hrow' 2 _ rfl
       generalize r[j+1].1.n.router=a at r2 p3 p4 hst
       generalize r[j+1].1.len=ln at r9 p7
       generalize r[j+1].1.A=xA at r9
       generalize r[j+1].1.cap=xc at r9
       generalize r[j].1.n.router=pa at s2 hst
       have e1:(a==root)=false:=beq_eq_false_iff_ne.2 p3
       have e2:(a==0)=false:=beq_eq_false_iff_ne.2 p4
       have e3:((ln:Int)==0)=false:=beq_eq_false_iff_ne.2 (by omega)
       have e4:¬ (ln:Int)=0:=by omega
       have e5:decide (a≤pa)=false:=decide_eq_false (by omega)
       have i2:(j:Int)+1<(r.length:Int):=by omega
       have i3:(0:Int)≤(j:Int)+1:=by omega
       have i4:(j:Int)<(r.length:Int):=by omega
       have i5:(0:Int)<(j:Int)+1:=by omega
       replace hst:=h'd hst
       clear hrow hrow' p1 p2 p3 p4 p5 p6 p7
       as_aux_lemma =>
        go_upto_region 12 with fail
        go_quiet (fail)
        go_wp2_with fail
        go_roundg (r.length-(j+1+1))
        case measure=>omega
        case rel=>exact ⟨j+1+1,(j:Int)+1+1,by omega,rfl,by go_num,rfl,hb5.trans (below_drewN (Below.refl _ _) _ |>.mono hb5.size)⟩
     ·obtain rfl:k=r.length:=by omega
      obtain rfl:=hki
      have i2:¬ (r.length:Int)<(r.length:Int):=by omega
      go_wp2_with (go_at_call 20;refine Calls.mono (CW.out _) ?_;rintro e w9 ⟨rfl,hB9⟩)
      go_ret
      have h9:=hB9.mono hb5.size
      exact ⟨rfl,hbw.trans ((hb5.trans h9).mono hbw.size)⟩
end Go.Proofs.YtcknpofnpabkiaaGreat
