/- slices.partialInsertionSortCmpFunc at ways. Conditions: the row is the call's own block, of fewer than 2^40 ways; the comparison answers. -/
import Derived.Test.YtcknpofnpabkiaaGreatRpBC
set_option maxRecDepth 100000
namespace Go.Proofs.YtcknpofnpabkiaaGreat
open Go.RowKit Go.Lo
namespace StS
section
variable {α:Type} [Inhabited α] {enc:α→List Value} (E:RowE enc 9) {lt:α→α→Bool} {F:FuncId} (HC:CmpF enc lt F)
theorem sizeC_shiftDown (j:Nat):∀ d:Array α,(Sort.shiftDown lt j d).size=d.size:=by
 induction j with
 | zero=>intro d;rfl
 | succ j ih =>
  intro d
  unfold Sort.shiftDown
  split
  ·rfl
  ·rw[ih,Sort.size_swp]
theorem sizeC_shiftUp (b:Nat):∀ (f j:Nat) (d:Array α),b-j≤f→(Sort.shiftUp lt b j d).size=d.size:=by
 intro f
 induction f with
 | zero =>
  intro j d hf
  unfold Sort.shiftUp
  rw[if_neg (by omega)]
 | succ f ih =>
  intro j d hf
  unfold Sort.shiftUp
  split
  ·split
   ·rfl
   ·rw[ih _ _ (by omega),Sort.size_swp]
  ·rfl
include E HC
set_option maxHeartbeats 4000000 in
theorem pinsC_any (g n cap:Nat) (rest:List Value) (d:Array α) (a b:Nat) (w:World) (h:RowC enc 71 w g rest d w) (hd:d.size=n) (hab:a<b) (hb:b≤n) (hn:n≤1099511627776) :
  Calls Tryz.prog 146 #[.slice (some ⟨g,0,none⟩) n cap,.int .i64 a,.int .i64 b,.func (.func F) #[] #[]] w fun e w' =>
   e=.returned (.bool (Sort.partialInsertionSort lt d a b).2)∧RowC enc 71 w g rest (Sort.partialInsertionSort lt d a b).1 w':=by
 obtain ⟨R,hRR⟩:∃ R,R=Sort.partialInsertionSort lt d a b:=⟨_,rfl⟩
 rw[←hRR]
 unfold Sort.partialInsertionSort at hRR
 replace hRR:=h'd hRR
 have hEF:=HC.enters
 replace HC:=h'd HC.call
 replace E:=h'd E
 go_enter Tryz.func146,Tryz.ntmps146
 go_wp2_with fail
 go_loopg [9,10] 5 (fun m v u wr=>∃ (s i0:Nat) (D:Array α),s≤5∧s=m∧a<i0∧i0≤b∧v=.int .i64 i0∧u=.int .i64 (5-(s:Int))∧D.size=n∧R=Sort.partialIns lt a b s i0 D∧RowC enc 71 w g rest D wr)
 case atStart=>exact ⟨5,a+1,d,by omega,rfl,by omega,by omega,by go_num,rfl,hd,hRR.out,h⟩
 case round =>
  clear h hRR
  obtain ⟨s,i0,D,hs5,hsm,hai,hib,rfl,rfl,hD,hRl,hR⟩:=hrel
  obtain ⟨w1,rfl⟩:∃ x:World,x=wr:=⟨_,rfl⟩
  cases s with
  | zero =>
   have hRe:R=(D,false):=hRl
   replace hRe:=h'd hRe
   replace hR:=h'd hR
   clear hRl
   go_wp2_with fail
   go_ret
   rw[hRe.out]
   exact ⟨rfl,hR.out⟩
  | succ s =>
   rw[Sort.partialIns_succ] at hRl
   replace hRl:=h'd hRl
   replace hR:=h'd hR
   replace hsm:=h'd hsm
   have s5:(5:Int)-((s+1:Nat):Int)<5:=by omega
   have s6:(5:Int)-((s:Int)+1)<5:=by omega
   have s7:decide ((5:Int)-((s:Int)+1)<5)=true:=d't s6
   go_wp2_with fail
   go_loopg [9] (b-i0) (fun m v wr=>∃ i1:Nat,(i0≤i1∧i1≤b)∧m=b-i1∧v=.int .i64 i1∧Sort.scanSorted lt D b i1=Sort.scanSorted lt D b i0∧RowC enc 71 w g rest D wr)
   case atStart=>exact ⟨i0,by omega,rfl,rfl,rfl,hR.out⟩
   case round =>
    clear hR
    obtain ⟨i1,hv,hm,rfl,hs,hR⟩:=hrel
    obtain ⟨w2,rfl⟩:∃ x:World,x=wr:=⟨_,rfl⟩
    replace hm:=h'd hm
    replace hs:=h'd hs
    replace hR:=h'd hR
    go_upto_region 5 with fail
    go_cut [36] (fun v wx=>v=.bool (decide (i1<b) && !lt D[i1]! D[i1-1]!)∧RowC enc 71 w g rest D wx)
    case first =>
     by_cases hg:i1<b
     ·have dg:decide ((i1:Int)<(b:Int))=true:=d't (by omega)
      have dg':decide (i1<b)=true:=d't hg
      have iw1:IntKind.i64.wrap ((i1:Int)-1)=(i1:Int)-1:=IntWalk.i64_in _ (by omega)
      have im:(0:Int)≤(i1:Int)-1:=by omega
      have ip1:(1:Int)≤(i1:Int):=by omega
      have ip2:1≤i1:=by omega
      have im2:(i1:Int)-1<(n:Int):=by omega
      have im3:(i1:Int)<(n:Int):=by omega
      have tn:((i1:Int)-1).toNat=i1-1:=by omega
      have c1:=hR.out.load E.out wRowT (i:=i1) (by omega)
      have c0:=hR.out.load E.out wRowT (i:=i1-1) (by omega)
      obtain ⟨x,hx⟩:∃ x,x=D[i1]!:=⟨_,rfl⟩
      obtain ⟨y,hy⟩:∃ y,y=D[i1-1]!:=⟨_,rfl⟩
      rw[←hx] at c1
      rw[←hy] at c0
      replace hx:=h'd hx
      replace hy:=h'd hy
      refine wp_region_still_tail 14 (by kernel_rfl) (by kernel_rfl) ?_
      simp only[List.take_succ_cons,List.take_zero,List.drop_succ_cons,List.drop_zero]
      repeat (first | (refine wpStill_load rfl 71 _ rfl _ (c1 _ rfl) ?_;try simp only[Act.put,s'a,s'z,s's]) | (refine wpStill_load rfl 71 _ rfl _ (c0 _ rfl) ?_;try simp only[Act.put,s'a,s'z,s's]) | still_step)
      refine wpStill_nil ?_
      go_wp2_with (refine c'm (HC.out _ _ _) ?_;rintro e w3 ⟨c,rfl,hc,hB3⟩;have hr3:=hR.out.drew.call hB3)
      go_meet
      case rel=>exact ⟨by rw[←hx.out,←hy.out,←hc];simp[hg],hr3⟩
     ·have dg:decide ((i1:Int)<(b:Int))=false:=d'f (by omega)
      have dg':decide (i1<b)=false:=d'f hg
      go_quiet (fail)
      go_wp2_with fail
      go_meet
      case rel=>exact ⟨by simp[hg],hR.out.drewN nq⟩
    case rest =>
     obtain ⟨rfl,hR2⟩:=hcut
     clear hR
     have hR:=h'd hR2
     clear hR2
     cases hc:(decide (i1<b) && !lt D[i1]! D[i1-1]!) with
     | true =>
      have hb':i1<b:=by
       simp only[Bool.and_eq_true,decide_eq_true_eq] at hc
       exact hc.1
      have hs2:Sort.scanSorted lt D b (i1+1)=Sort.scanSorted lt D b i0:=by
       rw[←hs.out]
       conv=>rhs;unfold Sort.scanSorted
       rw[if_pos hc]
      replace hs2:=h'd hs2
      clear hc
      go_wp2_with fail
      go_roundg (b-(i1+1))
      case measure=>have:=hm.out;omega
      case rel=>exact ⟨i1+1,by omega,rfl,by go_num,hs2.out,hR.out⟩
     | false =>
      have hfin:i1=Sort.scanSorted lt D b i0:=by
       rw[←hs.out]
       unfold Sort.scanSorted
       rw[if_neg (fun h'=>b'n (hc.symm.trans h'))]
      replace hRl:=hRl.out
      simp only[←hfin] at hRl
      obtain ⟨hv1,hv2⟩:=hv
      clear hc hm hs hfin
      by_cases hib2:i1=b
      ·rw[if_pos hib2] at hRl
       have q1:((i1:Int)==(b:Int))=true:=by simp;omega
       subst hib2
       replace hRl:=h'd hRl
       go_wp2_with fail
       go_ret
       rw[hRl.out]
       exact ⟨rfl,hR.out⟩
      ·rw[if_neg hib2] at hRl
       have q1:((i1:Int)==(b:Int))=false:=by simp;omega
       have q1':¬ (i1:Int)=(b:Int):=by omega
       by_cases h50:b-a<50
       ·rw[if_pos h50] at hRl
        have q2:(b:Int)-(a:Int)<50:=by omega
        replace hRl:=h'd hRl
        go_wp2_with fail
        go_ret
        rw[hRl.out]
        exact ⟨rfl,hR.out⟩
       ·rw[if_neg h50] at hRl
        have q2:¬ (b:Int)-(a:Int)<50:=by omega
        replace hRl:=h'd hRl
        have hin:i1<n:=by omega
        have h:=hR.out
        have iw1:IntKind.i64.wrap ((i1:Int)-1)=(i1:Int)-1:=IntWalk.i64_in _ (by omega)
        have im:(0:Int)≤(i1:Int)-1:=by omega
        have im2:(i1:Int)-1<(n:Int):=by omega
        have im3:(i1:Int)<(n:Int):=by omega
        have im4:(1:Int)≤(i1:Int):=by omega
        have tn:((i1:Int)-1).toNat=i1-1:=by omega
        go_upto_region 11 with fail
        obtain ⟨W1,W2,s1,s2,hsw⟩:=h.drew.swp E.out wRowT (i:=i1) (j:=i1-1) (by omega) (by omega)
        have e1:=h.drew.load E.out wRowT (i:=i1-1) (by omega) _ rfl
        have e0:=h.drew.load E.out wRowT (i:=i1) (by omega) _ rfl
        have hsz:=Sort.size_swp D i1 (i1-1)
        replace hsw:=h'd hsw
        replace hsz:=h'd hsz
        clear h
        generalize (enc D[i1]!).toArray=xa at *
        generalize (enc D[i1-1]!).toArray=xb at *
        refine wp_region_swp 15 17 [some 46,some 47,some 48,some 49,some 50,some 51,some 52,some 53,some 54,some 55,some 56,some 57,some 58,some 59,some 60,none,some 61,none] [.slice (some ⟨g,0,none⟩) n cap,.int .i64 i1,.slice (some ⟨g,0,none⟩) n cap,.int .i64 i1,.int .i64 ((i1:Int)-1),.slice (some ⟨g,0,none⟩) n cap,.int .i64 i1,.int .i64 ((i1:Int)-1),.pointer (some ⟨g,(i1-1)*9,none⟩),.agg xb,.slice (some ⟨g,0,none⟩) n cap,.int .i64 i1,.pointer (some ⟨g,i1*9,none⟩),.agg xa,.pointer (some ⟨g,i1*9,none⟩),undef,.pointer (some ⟨g,(i1-1)*9,none⟩),undef] W1 W2 ?A3 ?hA3 (by kernel_rfl) rfl (by kernel_rfl) (by kernel_rfl) (by kernel_rfl) ?hrun3 71 71 (.tmp 60) (.tmp 55) (.tmp 61) (.tmp 59) rfl rfl ?hs3 ?ht3 ?hf3
        case hA3=>simp only[putL,Act.put,s'a,s'z,s's];rfl
        case hs3=>exact s1
        case ht3=>exact s2
        case hrun3 =>
         simp only[RunL,RunOp]
         clear hsw
         have hbA:((i1:Nat):Int)<(n:Int):=by omega
         have hbB:((i1-1:Nat):Int)<(n:Int):=by omega
         clear hsz
         refine ⟨fun W=>rfl,fun W=>rfl,fun W=>rfl,fun W=>rfl,?_,fun W=>rfl,fun W=>rfl,?_,?_,e1,fun W=>rfl,fun W=>rfl,?_,e0,?_,trivial,?_,trivial,trivial⟩
         all_goals (intro W;go_simp)
        clear s1 s2 e0 e1 W1
        replace hsz:=hsz.out.trans hD
        have hR:=h'd hsw.out
        replace hRl:=hRl.out
        generalize W2=w4 at *
        generalize Sort.swp D i1 (i1-1)=D2 at *
        replace hRl:=h'd hRl
        clear hsw
        have hz3:(Sort.fixDown lt a i1 D2).size=n:=by
         unfold Sort.fixDown
         split
         ·rw[sizeC_shiftDown];exact hsz
         ·exact hsz
        have hz4:(Sort.fixUp lt b i1 (Sort.fixDown lt a i1 D2)).size=n:=by
         unfold Sort.fixUp
         split
         ·rw[sizeC_shiftUp (lt:=lt) b b _ _ (by omega)];exact hz3
         ·exact hz3
        go_upto_if 65 with fail
        go_cut [11] (fun _ wx=>RowC enc 71 w g rest (Sort.fixDown lt a i1 D2) wx)
        case first =>
         by_cases h2:i1-a≥2
         ·have hfd:Sort.fixDown lt a i1 D2=Sort.shiftDown lt (i1-1) D2:=if_pos h2
          have q3:(2:Int)≤(i1:Int)-(a:Int):=by omega
          replace hfd:=h'd hfd
          go_wp2_with fail
          go_loopg [11] (i1-1) (fun m v wr=>∃ (j:Nat) (D9:Array α),j≤i1-1∧j=m∧v=.int .i64 j∧D9.size=n∧Sort.shiftDown lt j D9=Sort.shiftDown lt (i1-1) D2∧RowC enc 71 w g rest D9 wr)
          case atStart=>exact ⟨i1-1,D2,n'r _,rfl,congrArg (Value.int .i64) (by omega),hsz,rfl,hR.out⟩
          case round =>
           clear hR
           obtain ⟨j,D9,hj,hjm,rfl,hE,hse,hR⟩:=hrel
           obtain ⟨w5,rfl⟩:∃ x:World,x=wr:=⟨_,rfl⟩
           replace hjm:=h'd hjm
           cases j with
           | zero =>
            have hse':D9=Sort.shiftDown lt (i1-1) D2:=hse
            replace hse':=h'd hse'
            clear hse
            replace hR:=h'd hR
            go_wp2_with fail
            go_meet
            case rel=>rw[hfd.out,←hse'.out];exact hR.out
           | succ k =>
            have c1:=hR.load E.out wRowT (i:=k+1) (by omega)
            have c0:=hR.load E.out wRowT (i:=k) (by omega)
            have hsz2:=(Sort.size_swp D9 (k+1) k).trans hE
            have k1:(k:Int)+1<(n:Int):=by omega
            have k2:(0:Int)≤(k:Int)+1:=by omega
            have k3:(k:Int)<(n:Int):=by omega
            have iw:IntKind.i64.wrap (k:Int)=(k:Int):=IntWalk.i64_in _ (by omega)
            rcases hlt:lt D9[k+1]! D9[k]! with _ | _
            ·have hse':D9=Sort.shiftDown lt (i1-1) D2:=by
              rw[←hse]
              unfold Sort.shiftDown
              rw[if_pos (by simp[hlt])]
             replace hse':=h'd hse'
             replace hlt:=h'd hlt
             replace hR:=h'd hR
             clear hse hsz2
             generalize D9[k+1]! = x1 at *
             generalize D9[k]! = x0 at *
             go_wp2_with fail
             refine wp_region_still_tail 10 (by kernel_rfl) (by kernel_rfl) ?_
             simp only[List.take_succ_cons,List.take_zero,List.drop_succ_cons,List.drop_zero]
             repeat (first | (refine wpStill_load rfl 71 _ rfl _ (c1 _ rfl) ?_;try simp only[Act.put,s'a,s'z,s's]) | (refine wpStill_load rfl 71 _ rfl _ (c0 _ rfl) ?_;try simp only[Act.put,s'a,s'z,s's]) | still_step)
             refine wpStill_nil ?_
             go_wp2_with (refine c'm (HC.out _ _ _) ?_;rintro e w3 ⟨c,rfl,hc,hB3⟩;rw[hlt.out] at hc;have hcp:¬ c<0:=of_decide_eq_false hc;have hr3:=hR.out.drew.call hB3)
             go_meet
             case rel=>rw[hfd.out,←hse'.out];exact hr3
            ·have hse':Sort.shiftDown lt k (Sort.swp D9 (k+1) k)=Sort.shiftDown lt (i1-1) D2:=by
              rw[←hse]
              conv=>rhs;unfold Sort.shiftDown
              rw[if_neg (by simp[hlt])]
             replace hse':=h'd hse'
             replace hlt:=h'd hlt
             replace hsz2:=h'd hsz2
             replace hR:=h'd hR;clear hse
             generalize D9[k+1]! = x1 at *
             generalize D9[k]! = x0 at *
             go_wp2_with fail
             refine wp_region_still_tail 10 (by kernel_rfl) (by kernel_rfl) ?_
             simp only[List.take_succ_cons,List.take_zero,List.drop_succ_cons,List.drop_zero]
             repeat (first | (refine wpStill_load rfl 71 _ rfl _ (c1 _ rfl) ?_;try simp only[Act.put,s'a,s'z,s's]) | (refine wpStill_load rfl 71 _ rfl _ (c0 _ rfl) ?_;try simp only[Act.put,s'a,s'z,s's]) | still_step)
             refine wpStill_nil ?_
             go_upto_region 17 with (refine c'm (HC.out _ _ _) ?_;rintro e w3 ⟨c,rfl,hc,hB3⟩;rw[hlt.out] at hc;have hcp:c<0:=of_decide_eq_true hc;have hr3:=hR.out.drew.call hB3)
             clear c1 c0 hc hcp hB3
             obtain ⟨W1,W2,s1,s2,hsw⟩:=hr3.drew.swp E.out wRowT (i:=k+1) (j:=k) (by omega) (by omega)
             have e1:=hr3.drew.load E.out wRowT (i:=k) (by omega) _ rfl
             have e0:=hr3.drew.load E.out wRowT (i:=k+1) (by omega) _ rfl
             replace hsw:=h'd hsw
             clear hr3
             generalize (enc D9[k+1]!).toArray=xa at *
             generalize (enc D9[k]!).toArray=xb at *
             refine wp_region_swp 15 17 [some 85,some 86,some 87,some 88,some 89,some 90,some 91,some 92,some 93,some 94,some 95,some 96,some 97,some 98,some 99,none,some 100,none] [.slice (some ⟨g,0,none⟩) n cap,.int .i64 ((k:Int)+1),.slice (some ⟨g,0,none⟩) n cap,.int .i64 ((k:Int)+1),.int .i64 k,.slice (some ⟨g,0,none⟩) n cap,.int .i64 ((k:Int)+1),.int .i64 k,.pointer (some ⟨g,k*9,none⟩),.agg xb,.slice (some ⟨g,0,none⟩) n cap,.int .i64 ((k:Int)+1),.pointer (some ⟨g,(k+1)*9,none⟩),.agg xa,.pointer (some ⟨g,(k+1)*9,none⟩),undef,.pointer (some ⟨g,k*9,none⟩),undef] W1 W2 ?A1 ?hA1 (by kernel_rfl) rfl (by kernel_rfl) (by kernel_rfl) (by kernel_rfl) ?hrun1 71 71 (.tmp 99) (.tmp 94) (.tmp 100) (.tmp 98) rfl rfl ?hs1 ?ht1 ?hf1
             case hA1=>simp only[putL,Act.put,s'a,s'z,s's];rfl
             case hs1=>exact s1
             case ht1=>exact s2
             case hrun1 =>
              simp only[RunL,RunOp]
              clear hsw
              have hbA:((k+1:Nat):Int)<(n:Int):=by omega
              have hbB:((k:Nat):Int)<(n:Int):=by omega
              refine ⟨fun W=>rfl,?_,fun W=>rfl,?_,?_,fun W=>rfl,?_,?_,?_,e1,fun W=>rfl,?_,?_,e0,?_,trivial,?_,trivial,trivial⟩
              all_goals (intro W;go_simp)
             clear s1 s2 e0 e1 W1
             go_wp2_with fail
             go_roundg k
             case measure=>have:=hjm.out;omega
             case rel=>exact ⟨k,Sort.swp D9 (k+1) k,by omega,rfl,by go_num,hsz2.out,hse'.out,hsw.out⟩
         ·have hfd:Sort.fixDown lt a i1 D2=D2:=if_neg h2
          have q3:¬ (2:Int)≤(i1:Int)-(a:Int):=by omega
          replace hfd:=h'd hfd
          go_wp2_with fail
          go_meet
          case rel=>rw[hfd.out];exact hR.out
        case rest =>
         clear hR
         have hR:=h'd hcut
         clear hcut
         replace hRl:=hRl.out
         generalize Sort.fixDown lt a i1 D2=D3 at *
         replace hRl:=h'd hRl
         go_upto_if 104 with fail
         by_cases h2:b-i1≥2
         ·have hfd:Sort.fixUp lt b i1 D3=Sort.shiftUp lt b (i1+1) D3:=if_pos h2
          have q3:(2:Int)≤(b:Int)-(i1:Int):=by omega
          replace hfd:=h'd hfd
          go_wp2_with fail
          go_loopg [12] (b-(i1+1)) (fun m v wr=>∃ (j:Nat) (D9:Array α),i1+1≤j∧j≤b∧m=b-j∧v=.int .i64 j∧D9.size=n∧Sort.shiftUp lt b j D9=Sort.shiftUp lt b (i1+1) D3∧RowC enc 71 w g rest D9 wr)
          case atStart=>exact ⟨i1+1,D3,n'r _,by omega,rfl,by go_num,hz3,rfl,hR.out⟩
          case round =>
           clear hR
           obtain ⟨j,D9,hj,hjb,hjm,rfl,hE,hse,hR⟩:=hrel
           obtain ⟨w5,rfl⟩:∃ x:World,x=wr:=⟨_,rfl⟩
           replace hjm:=h'd hjm
           by_cases hjl:j<b
           ·have c1:=hR.load E.out wRowT (i:=j) (by omega)
            have c0:=hR.load E.out wRowT (i:=j-1) (by omega)
            have hsz2:=(Sort.size_swp D9 j (j-1)).trans hE
            have k1:(j:Int)<(n:Int):=by omega
            have k2:(1:Int)≤(j:Int):=by omega
            have k3:(j:Int)-1<(n:Int):=by omega
            have k4:1≤j:=by omega
            have k5:(0:Int)≤(j:Int)-1:=by omega
            have k6:((j:Int)-1).toNat=j-1:=by omega
            have k7:(j:Int)<(b:Int):=by omega
            have hne:j≠j-1:=by omega
            have iw:IntKind.i64.wrap ((j:Int)-1)=(j:Int)-1:=IntWalk.i64_in _ (by omega)
            rcases hlt:lt D9[j]! D9[j-1]! with _ | _
            ·have hse':D9=Sort.shiftUp lt b (i1+1) D3:=by
              rw[←hse]
              unfold Sort.shiftUp
              rw[if_pos hjl,if_pos (by simp[hlt])]
             replace hse':=h'd hse'
             replace hlt:=h'd hlt
             replace hR:=h'd hR
             clear hse hsz2
             generalize D9[j]! = x1 at *
             generalize D9[j-1]! = x0 at *
             go_wp2_with fail
             refine wp_region_still_tail 10 (by kernel_rfl) (by kernel_rfl) ?_
             simp only[List.take_succ_cons,List.take_zero,List.drop_succ_cons,List.drop_zero]
             repeat (first | (refine wpStill_load rfl 71 _ rfl _ (c1 _ rfl) ?_;try simp only[Act.put,s'a,s'z,s's]) | (refine wpStill_load rfl 71 _ rfl _ (c0 _ rfl) ?_;try simp only[Act.put,s'a,s'z,s's]) | still_step)
             refine wpStill_nil ?_
             go_wp2_with (refine c'm (HC.out _ _ _) ?_;rintro e w3 ⟨c,rfl,hc,hB3⟩;rw[hlt.out] at hc;have hcp:¬ c<0:=of_decide_eq_false hc;have hr3:=hR.out.drew.call hB3)
             go_roundg s
             case measure=>have:=hsm.out;omega
             case rel=>exact ⟨s,i1,Sort.fixUp lt b i1 D3,by omega,rfl,by omega,by omega,rfl,congrArg (Value.int .i64) (by omega),hz4,hRl.out,by rw[hfd.out,←hse'.out];exact hr3⟩
            ·have hse':Sort.shiftUp lt b (j+1) (Sort.swp D9 j (j-1))=Sort.shiftUp lt b (i1+1) D3:=by
              rw[←hse]
              conv=>rhs;unfold Sort.shiftUp
              rw[if_pos hjl,if_neg (by simp[hlt])]
             replace hse':=h'd hse'
             replace hlt:=h'd hlt
             replace hsz2:=h'd hsz2
             replace hR:=h'd hR;clear hse
             generalize D9[j]! = x1 at *
             generalize D9[j-1]! = x0 at *
             go_wp2_with fail
             refine wp_region_still_tail 10 (by kernel_rfl) (by kernel_rfl) ?_
             simp only[List.take_succ_cons,List.take_zero,List.drop_succ_cons,List.drop_zero]
             repeat (first | (refine wpStill_load rfl 71 _ rfl _ (c1 _ rfl) ?_;try simp only[Act.put,s'a,s'z,s's]) | (refine wpStill_load rfl 71 _ rfl _ (c0 _ rfl) ?_;try simp only[Act.put,s'a,s'z,s's]) | still_step)
             refine wpStill_nil ?_
             go_upto_region 23 with (refine c'm (HC.out _ _ _) ?_;rintro e w3 ⟨c,rfl,hc,hB3⟩;rw[hlt.out] at hc;have hcp:c<0:=of_decide_eq_true hc;have hr3:=hR.out.drew.call hB3)
             clear c1 c0 hc hcp hB3
             obtain ⟨W1,W2,s1,s2,hsw⟩:=hr3.drew.swp E.out wRowT (i:=j) (j:=j-1) (by omega) (by omega)
             have e1:=hr3.drew.load E.out wRowT (i:=j-1) (by omega) _ rfl
             have e0:=hr3.drew.load E.out wRowT (i:=j) (by omega) _ rfl
             replace hsw:=h'd hsw
             clear hr3
             generalize (enc D9[j]!).toArray=xa at *
             generalize (enc D9[j-1]!).toArray=xb at *
             refine wp_region_swp 15 17 [some 125,some 126,some 127,some 128,some 129,some 130,some 131,some 132,some 133,some 134,some 135,some 136,some 137,some 138,some 139,none,some 140,none] [.slice (some ⟨g,0,none⟩) n cap,.int .i64 j,.slice (some ⟨g,0,none⟩) n cap,.int .i64 j,.int .i64 ((j:Int)-1),.slice (some ⟨g,0,none⟩) n cap,.int .i64 j,.int .i64 ((j:Int)-1),.pointer (some ⟨g,(j-1)*9,none⟩),.agg xb,.slice (some ⟨g,0,none⟩) n cap,.int .i64 j,.pointer (some ⟨g,j*9,none⟩),.agg xa,.pointer (some ⟨g,j*9,none⟩),undef,.pointer (some ⟨g,(j-1)*9,none⟩),undef] W1 W2 ?A2 ?hA2 (by kernel_rfl) rfl (by kernel_rfl) (by kernel_rfl) (by kernel_rfl) ?hrun2 71 71 (.tmp 139) (.tmp 134) (.tmp 140) (.tmp 138) rfl rfl ?hs2 ?ht2 ?hf2
             case hA2=>simp only[putL,Act.put,s'a,s'z,s's];rfl
             case hs2=>exact s1
             case ht2=>exact s2
             case hrun2 =>
              simp only[RunL,RunOp]
              clear hsw
              have hbA:((j:Nat):Int)<(n:Int):=by omega
              have hbB:((j-1:Nat):Int)<(n:Int):=by omega
              refine ⟨fun W=>rfl,?_,fun W=>rfl,?_,?_,fun W=>rfl,?_,?_,?_,e1,fun W=>rfl,?_,?_,e0,?_,trivial,?_,trivial,trivial⟩
              all_goals (intro W;go_simp)
             clear s1 s2 e0 e1 W1
             go_wp2_with fail
             go_roundg (b-(j+1))
             case measure=>have:=hjm.out;omega
             case rel=>exact ⟨j+1,Sort.swp D9 j (j-1),by omega,by omega,rfl,by go_num,hsz2.out,hse'.out,hsw.out⟩
           ·have hse':D9=Sort.shiftUp lt b (i1+1) D3:=by
             rw[←hse]
             unfold Sort.shiftUp
             rw[if_neg hjl]
            have k7:¬ (j:Int)<(b:Int):=by omega
            replace hse':=h'd hse'
            clear hse
            replace hR:=h'd hR
            go_wp2_with fail
            go_roundg s
            case measure=>have:=hsm.out;omega
            case rel=>exact ⟨s,i1,Sort.fixUp lt b i1 D3,by omega,rfl,by omega,by omega,rfl,congrArg (Value.int .i64) (by omega),hz4,hRl.out,by rw[hfd.out,←hse'.out];exact hR.out⟩
         ·have hfd:Sort.fixUp lt b i1 D3=D3:=if_neg h2
          have q3:¬ (2:Int)≤(b:Int)-(i1:Int):=by omega
          replace hfd:=h'd hfd
          go_wp2_with fail
          go_roundg s
          case measure=>have:=hsm.out;omega
          case rel=>exact ⟨s,i1,Sort.fixUp lt b i1 D3,by omega,rfl,by omega,by omega,rfl,congrArg (Value.int .i64) (by omega),hz4,hRl.out,by rw[hfd.out];exact hR.out⟩
end
end StS
end Go.Proofs.YtcknpofnpabkiaaGreat
