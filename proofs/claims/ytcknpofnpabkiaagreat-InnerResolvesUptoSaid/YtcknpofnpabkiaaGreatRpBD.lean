/- slices.partitionCmpFunc at ways. Conditions: the row is the call's own block, of fewer than 2^40 ways; the comparison answers. -/
import Derived.Test.YtcknpofnpabkiaaGreatRpBC
set_option maxRecDepth 100000
namespace Go.Proofs.YtcknpofnpabkiaaGreat
open Go.RowKit Go.Lo
namespace StS
section
variable {α:Type} [Inhabited α] {enc:α→List Value} (E:RowE enc 9) {lt:α→α→Bool} {F:FuncId} (HC:CmpF enc lt F)
theorem partition_eq (d D:Array α) (a b pivot J i j:Nat) (hD:D=Sort.swp d a pivot) (hJ:J=b-1) (hi:i=Sort.scanUp (fun x=>lt x D[a]!) D J (a+1)) (hj:j=Sort.scanDown (fun x => !lt x D[a]!) D i J) :
  Sort.partition lt d a b pivot=if i>j then (j,true,Sort.swp D j a) else ((Sort.partLoop lt a (i+1) (j-1) (Sort.swp D i j)).1,false,Sort.swp (Sort.partLoop lt a (i+1) (j-1) (Sort.swp D i j)).2 (Sort.partLoop lt a (i+1) (j-1) (Sort.swp D i j)).1 a):=by
 subst hJ hD hi hj
 rfl
theorem partLoop_eq (D:Array α) (a I J i j:Nat) (hi:i=Sort.scanUp (fun x=>lt x D[a]!) D J I) (hj:j=Sort.scanDown (fun x => !lt x D[a]!) D i J) :
  Sort.partLoop lt a I J D=if i>j then (j,D) else if (j-1)+1-(i+1)<J+1-I then Sort.partLoop lt a (i+1) (j-1) (Sort.swp D i j) else (j,D):=by
 subst hi hj
 conv=>lhs;unfold Sort.partLoop
 rfl
include E HC
set_option maxHeartbeats 4000000 in
theorem partC_any (g n cap:Nat) (rest:List Value) (d:Array α) (a b pivot:Nat) (w:World) (h:RowC enc 71 w g rest d w) (hd:d.size=n) (hap:a≤pivot) (hpb:pivot<b) (hb:b≤n) (hn:n≤1099511627776) :
  Calls Tryz.prog 148 #[.slice (some ⟨g,0,none⟩) n cap,.int .i64 a,.int .i64 b,.int .i64 pivot,.func (.func F) #[] #[]] w fun e w' =>
   e=.returned (.tuple #[.int .i64 (Sort.partition lt d a b pivot).1,.bool (Sort.partition lt d a b pivot).2.1])∧RowC enc 71 w g rest (Sort.partition lt d a b pivot).2.2 w':=by
 obtain ⟨T,hT⟩:∃ T,T=Sort.partition lt d a b pivot:=⟨_,rfl⟩
 rw[←hT]
 obtain ⟨J,hJ⟩:∃ J,J=b-1:=⟨_,rfl⟩
 have eJ:(b:Int)-1=(J:Int):=by omega
 have ia:(a:Int)<(n:Int):=by omega
 have ip:(pivot:Int)<(n:Int):=by omega
 have hJ1:J<b:=by omega
 have hJ2:b≤J+1:=by omega
 replace hJ:=h'd hJ
 replace hT:=h'd hT
 have hEF:=HC.enters
 replace HC:=h'd HC.call
 replace E:=h'd E
 go_enter Tryz.func148,Tryz.ntmps148
 go_upto_region 1 with fail
 obtain ⟨W1,W2,s1,s2,hsw⟩:=h.drew.swp E.out wRowT (i:=a) (j:=pivot) (by omega) (by omega)
 have e1:=h.drew.load E.out wRowT (i:=pivot) (by omega) _ rfl
 have e0:=h.drew.load E.out wRowT (i:=a) (by omega) _ rfl
 have hsz:=Sort.size_swp d a pivot
 replace hsw:=h'd hsw
 replace hsz:=h'd hsz
 clear h
 generalize (enc d[a]!).toArray=xa at *
 generalize (enc d[pivot]!).toArray=xb at *
 refine wp_region_swp 13 15 [some 14,some 15,some 16,some 17,some 18,some 19,some 20,some 21,some 22,some 23,some 24,some 25,some 26,none,some 27,none] [.slice (some ⟨g,0,none⟩) n cap,.int .i64 a,.slice (some ⟨g,0,none⟩) n cap,.int .i64 pivot,.slice (some ⟨g,0,none⟩) n cap,.int .i64 pivot,.pointer (some ⟨g,pivot*9,none⟩),.agg xb,.slice (some ⟨g,0,none⟩) n cap,.int .i64 a,.pointer (some ⟨g,a*9,none⟩),.agg xa,.pointer (some ⟨g,a*9,none⟩),undef,.pointer (some ⟨g,pivot*9,none⟩),undef] W1 W2 ?A1 ?hA1 (by kernel_rfl) rfl (by kernel_rfl) (by kernel_rfl) (by kernel_rfl) ?hrun1 71 71 (.tmp 26) (.tmp 21) (.tmp 27) (.tmp 25) rfl rfl ?hs1 ?ht1 ?hf1
 case hA1=>simp only[putL,Act.put,s'a,s'z,s's];rfl
 case hs1=>exact s1
 case ht1=>exact s2
 case hrun1 =>
  simp only[RunL,RunOp]
  clear hsw
  have hbA:((a:Nat):Int)<(n:Int):=by omega
  have hbB:((pivot:Nat):Int)<(n:Int):=by omega
  clear hsz
  refine ⟨fun W=>rfl,fun W=>rfl,fun W=>rfl,fun W=>rfl,fun W=>rfl,fun W=>rfl,?_,e1,fun W=>rfl,fun W=>rfl,?_,e0,?_,trivial,?_,trivial,trivial⟩
  all_goals (intro W;go_simp)
 clear s1 s2 e0 e1 W1
 replace hT:=hT.out
 replace hsz:=hsz.out.trans hd
 have hR:=hsw.out
 generalize W2=w1 at *
 clear hsw
 obtain ⟨D,hD⟩:∃ D,D=Sort.swp d a pivot:=⟨_,rfl⟩
 rw[←hD] at hR hsz
 replace hD:=h'd hD
 replace hT:=h'd hT
 replace hR:=h'd hR
 go_wp2_with fail
 go_loopg [12] (J+1-(a+1)) (fun m v wr=>∃ i1:Nat,((a+1)≤i1∧i1≤n)∧m=J+1-i1∧v=.int .i64 i1∧Sort.scanUp (fun x=>lt x D[a]!) D J i1=Sort.scanUp (fun x=>lt x D[a]!) D J (a+1)∧RowC enc 71 w g rest D wr)
 case atStart=>exact ⟨(a+1),by omega,rfl,by first | rfl | go_num,rfl,hR.out⟩
 case round =>
  clear hR
  obtain ⟨i1,hv,hm,rfl,hs,hR⟩:=hrel
  obtain ⟨w2,rfl⟩:∃ x:World,x=wr:=⟨_,rfl⟩
  replace hm:=h'd hm
  replace hs:=h'd hs
  replace hR:=h'd hR
  go_upto_region 3 with fail
  go_cut [47] (fun v wx=>v=.bool (decide (i1≤J) && lt D[i1]! D[a]!)∧RowC enc 71 w g rest D wx)
  case first =>
   by_cases hg:i1≤J
   ·have dg:decide (((i1:Nat):Int)≤((J:Nat):Int))=true:=d't (by omega)
    have dg':decide (i1≤J)=true:=d't hg
    have c1:=hR.out.load E.out wRowT (i:=i1) (by omega)
    have c0:=hR.out.load E.out wRowT (i:=a) (by omega)
    have i1':(i1:Int)<(n:Int):=by omega
    have i0':(a:Int)<(n:Int):=by omega
    obtain ⟨x,hx⟩:∃ x,x=D[i1]!:=⟨_,rfl⟩
    obtain ⟨y,hy⟩:∃ y,y=D[a]!:=⟨_,rfl⟩
    rw[←hx] at c1
    rw[←hy] at c0
    replace hx:=h'd hx
    replace hy:=h'd hy
    refine wp_region_still_tail 13 (by kernel_rfl) (by kernel_rfl) ?_
    simp only[List.take_succ_cons,List.take_zero,List.drop_succ_cons,List.drop_zero]
    repeat (first | (refine wpStill_load rfl 71 _ rfl _ (c1 _ rfl) ?_;try simp only[Act.put,s'a,s'z,s's]) | (refine wpStill_load rfl 71 _ rfl _ (c0 _ rfl) ?_;try simp only[Act.put,s'a,s'z,s's]) | still_step)
    refine wpStill_nil ?_
    go_wp2_with (refine c'm (HC.out _ _ _) ?_;rintro e w3 ⟨c,rfl,hc,hB3⟩;have hr3:=hR.out.drew.call hB3)
    go_meet
    case rel=>exact ⟨by rw[←hx.out,←hy.out,←hc];simp[hg],hr3⟩
   ·have dg:decide (((i1:Nat):Int)≤((J:Nat):Int))=false:=d'f (by omega)
    have dg':decide (i1≤J)=false:=d'f hg
    go_quiet (fail)
    go_wp2_with fail
    go_meet
    case rel=>exact ⟨by simp[hg],hR.out.drewN nq⟩
  case rest =>
   obtain ⟨rfl,hR2⟩:=hcut
   clear hR
   have hR:=h'd hR2
   clear hR2
   cases hc:(decide (i1≤J) && lt D[i1]! D[a]!) with
   | true =>
    have hb':i1≤J:=by
     simp only[Bool.and_eq_true,decide_eq_true_eq] at hc
     exact hc.1
    have hs2:Sort.scanUp (fun x=>lt x D[a]!) D J (i1+1)=Sort.scanUp (fun x=>lt x D[a]!) D J (a+1):=by
     rw[←hs.out]
     conv=>rhs;unfold Sort.scanUp
     rw[if_pos hc]
    replace hs2:=h'd hs2
    clear hc
    go_wp2_with fail
    go_roundg (J+1-(i1+1))
    case measure=>have:=hm.out;omega
    case rel=>exact ⟨i1+1,by omega,rfl,by go_num,hs2.out,hR.out⟩
   | false =>
    have hfin:i1=Sort.scanUp (fun x=>lt x D[a]!) D J (a+1):=by
     rw[←hs.out]
     unfold Sort.scanUp
     rw[if_neg (fun h'=>b'n (hc.symm.trans h'))]
    clear hc hm hs
    have hi1:=hv.1
    have hi1n:=hv.2
    have hup:=h'd hfin
    clear hfin hv
    go_wp2_with fail
    go_loopg [13] (J) (fun m v wr=>∃ j1:Nat,(j1≤J)∧m=j1∧v=.int .i64 j1∧Sort.scanDown (fun x => !lt x D[a]!) D i1 j1=Sort.scanDown (fun x => !lt x D[a]!) D i1 J∧RowC enc 71 w g rest D wr)
    case atStart=>exact ⟨J,by omega,rfl,by first | rfl | go_num,rfl,hR.out⟩
    case round =>
     clear hR
     obtain ⟨j1,hv,hm,rfl,hs,hR⟩:=hrel
     obtain ⟨w2,rfl⟩:∃ x:World,x=wr:=⟨_,rfl⟩
     replace hm:=h'd hm
     replace hs:=h'd hs
     replace hR:=h'd hR
     go_upto_region 5 with fail
     go_cut [66] (fun v wx=>v=.bool (decide (i1≤j1) && !lt D[j1]! D[a]!)∧RowC enc 71 w g rest D wx)
     case first =>
      by_cases hg:i1≤j1
      ·have dg:decide (((i1:Nat):Int)≤((j1:Nat):Int))=true:=d't (by omega)
       have dg':decide (i1≤j1)=true:=d't hg
       have c1:=hR.out.load E.out wRowT (i:=j1) (by omega)
       have c0:=hR.out.load E.out wRowT (i:=a) (by omega)
       have i1':(j1:Int)<(n:Int):=by omega
       have i0':(a:Int)<(n:Int):=by omega
       obtain ⟨x,hx⟩:∃ x,x=D[j1]!:=⟨_,rfl⟩
       obtain ⟨y,hy⟩:∃ y,y=D[a]!:=⟨_,rfl⟩
       rw[←hx] at c1
       rw[←hy] at c0
       replace hx:=h'd hx
       replace hy:=h'd hy
       refine wp_region_still_tail 13 (by kernel_rfl) (by kernel_rfl) ?_
       simp only[List.take_succ_cons,List.take_zero,List.drop_succ_cons,List.drop_zero]
       repeat (first | (refine wpStill_load rfl 71 _ rfl _ (c1 _ rfl) ?_;try simp only[Act.put,s'a,s'z,s's]) | (refine wpStill_load rfl 71 _ rfl _ (c0 _ rfl) ?_;try simp only[Act.put,s'a,s'z,s's]) | still_step)
       refine wpStill_nil ?_
       go_wp2_with (refine c'm (HC.out _ _ _) ?_;rintro e w3 ⟨c,rfl,hc,hB3⟩;have hr3:=hR.out.drew.call hB3)
       go_meet
       case rel=>exact ⟨by rw[←hx.out,←hy.out,←hc];simp[hg],hr3⟩
      ·have dg:decide (((i1:Nat):Int)≤((j1:Nat):Int))=false:=d'f (by omega)
       have dg':decide (i1≤j1)=false:=d'f hg
       go_quiet (fail)
       go_wp2_with fail
       go_meet
       case rel=>exact ⟨by simp[hg],hR.out.drewN nq⟩
     case rest =>
      obtain ⟨rfl,hR2⟩:=hcut
      clear hR
      have hR:=h'd hR2
      clear hR2
      cases hc:(decide (i1≤j1) && !lt D[j1]! D[a]!) with
      | true =>
       have hb':i1≤j1:=by
        simp only[Bool.and_eq_true,decide_eq_true_eq] at hc
        exact hc.1
       have hs2:Sort.scanDown (fun x => !lt x D[a]!) D i1 (j1-1)=Sort.scanDown (fun x => !lt x D[a]!) D i1 J:=by
        rw[←hs.out]
        obtain ⟨k,rfl⟩:∃ k,j1=k+1:=⟨j1-1,by omega⟩
        conv=>rhs;unfold Sort.scanDown
        rw[if_pos hc]
        rfl
       replace hs2:=h'd hs2
       clear hc
       go_wp2_with fail
       go_roundg ((j1-1))
       case measure=>have:=hm.out;omega
       case rel=>exact ⟨j1-1,by omega,rfl,congrArg (Value.int .i64) (by omega),hs2.out,hR.out⟩
      | false =>
       have hfin:j1=Sort.scanDown (fun x => !lt x D[a]!) D i1 J:=by
        rw[←hs.out]
        cases j1 with
        | zero=>rfl
        | succ k =>
         unfold Sort.scanDown
         rw[if_neg (fun h'=>b'n (hc.symm.trans h'))]
       clear hc hm hs
       have hT2:T=_:=hT.out.trans (partition_eq d D a b pivot J i1 j1 hD.out hJ.out hup.out hfin)
       replace hfin:=h'd hfin
       clear hT hup hfin
       have hjn:j1<n:=by omega
       have h:=hR.out
       by_cases hij:i1>j1
       ·rw[if_pos hij] at hT2
        replace hT2:=h'd hT2
        have q1:(j1:Int)<(i1:Int):=by omega
        go_upto_region 8 with fail
        obtain ⟨W1,W2,s1,s2,hsw⟩:=h.drew.swp E.out wRowT (i:=j1) (j:=a) (by omega) (by omega)
        have e1:=h.drew.load E.out wRowT (i:=a) (by omega) _ rfl
        have e0:=h.drew.load E.out wRowT (i:=j1) (by omega) _ rfl
        have hsz:=Sort.size_swp D j1 a
        replace hsw:=h'd hsw
        replace hsz:=h'd hsz
        clear h
        generalize (enc D[j1]!).toArray=xa at *
        generalize (enc D[a]!).toArray=xb at *
        refine wp_region_swp 13 15 [some 72,some 73,some 74,some 75,some 76,some 77,some 78,some 79,some 80,some 81,some 82,some 83,some 84,none,some 85,none] [.slice (some ⟨g,0,none⟩) n cap,.int .i64 j1,.slice (some ⟨g,0,none⟩) n cap,.int .i64 a,.slice (some ⟨g,0,none⟩) n cap,.int .i64 a,.pointer (some ⟨g,a*9,none⟩),.agg xb,.slice (some ⟨g,0,none⟩) n cap,.int .i64 j1,.pointer (some ⟨g,j1*9,none⟩),.agg xa,.pointer (some ⟨g,j1*9,none⟩),undef,.pointer (some ⟨g,a*9,none⟩),undef] W1 W2 ?A2 ?hA2 (by kernel_rfl) rfl (by kernel_rfl) (by kernel_rfl) (by kernel_rfl) ?hrun2 71 71 (.tmp 84) (.tmp 79) (.tmp 85) (.tmp 83) rfl rfl ?hs2 ?ht2 ?hf2
        case hA2=>simp only[putL,Act.put,s'a,s'z,s's];rfl
        case hs2=>exact s1
        case ht2=>exact s2
        case hrun2 =>
         simp only[RunL,RunOp]
         clear hsw
         have hbA:((j1:Nat):Int)<(n:Int):=by omega
         have hbB:((a:Nat):Int)<(n:Int):=by omega
         clear hsz
         refine ⟨fun W=>rfl,fun W=>rfl,fun W=>rfl,fun W=>rfl,fun W=>rfl,fun W=>rfl,?_,e1,fun W=>rfl,fun W=>rfl,?_,e0,?_,trivial,?_,trivial,trivial⟩
         all_goals (intro W;go_simp)
        clear s1 s2 e0 e1 W1
        go_wp2_with fail
        refine bodyPost_ret (results_tmp2 rfl _ _ _) rfl ?_
        rw[hT2.out]
        exact ⟨rfl,hsw.out⟩
       ·rw[if_neg hij] at hT2
        have q1:¬ (j1:Int)<(i1:Int):=by omega
        obtain ⟨R,hRR⟩:∃ R,R=Sort.partLoop lt a (i1+1) (j1-1) (Sort.swp D i1 j1):=⟨_,rfl⟩
        rw[←hRR] at hT2
        replace hT2:=h'd hT2
        replace hRR:=h'd hRR
        go_upto_region 10 with fail
        obtain ⟨W1,W2,s1,s2,hsw⟩:=h.drew.swp E.out wRowT (i:=i1) (j:=j1) (by omega) (by omega)
        have e1:=h.drew.load E.out wRowT (i:=j1) (by omega) _ rfl
        have e0:=h.drew.load E.out wRowT (i:=i1) (by omega) _ rfl
        have hsz:=Sort.size_swp D i1 j1
        replace hsw:=h'd hsw
        replace hsz:=h'd hsz
        clear h
        generalize (enc D[i1]!).toArray=xa at *
        generalize (enc D[j1]!).toArray=xb at *
        refine wp_region_swp 13 15 [some 87,some 88,some 89,some 90,some 91,some 92,some 93,some 94,some 95,some 96,some 97,some 98,some 99,none,some 100,none] [.slice (some ⟨g,0,none⟩) n cap,.int .i64 i1,.slice (some ⟨g,0,none⟩) n cap,.int .i64 j1,.slice (some ⟨g,0,none⟩) n cap,.int .i64 j1,.pointer (some ⟨g,j1*9,none⟩),.agg xb,.slice (some ⟨g,0,none⟩) n cap,.int .i64 i1,.pointer (some ⟨g,i1*9,none⟩),.agg xa,.pointer (some ⟨g,i1*9,none⟩),undef,.pointer (some ⟨g,j1*9,none⟩),undef] W1 W2 ?A3 ?hA3 (by kernel_rfl) rfl (by kernel_rfl) (by kernel_rfl) (by kernel_rfl) ?hrun3 71 71 (.tmp 99) (.tmp 94) (.tmp 100) (.tmp 98) rfl rfl ?hs3 ?ht3 ?hf3
        case hA3=>simp only[putL,Act.put,s'a,s'z,s's];rfl
        case hs3=>exact s1
        case ht3=>exact s2
        case hrun3 =>
         simp only[RunL,RunOp]
         clear hsw
         have hbA:((i1:Nat):Int)<(n:Int):=by omega
         have hbB:((j1:Nat):Int)<(n:Int):=by omega
         clear hsz
         refine ⟨fun W=>rfl,fun W=>rfl,fun W=>rfl,fun W=>rfl,fun W=>rfl,fun W=>rfl,?_,e1,fun W=>rfl,fun W=>rfl,?_,e0,?_,trivial,?_,trivial,trivial⟩
         all_goals (intro W;go_simp)
        clear s1 s2 e0 e1 W1
        have hR:=hsw.out
        replace hsz:=hsz.out.trans ‹D.size=n›
        generalize W2=w4 at *
        clear hsw
        replace hRR:=hRR.out
        generalize Sort.swp D i1 j1=D0 at *
        replace hRR:=h'd hRR
        replace hR:=h'd hR
        go_wp2_with fail
        go_loopg [12,13] ((j1-1)+1-(i1+1)) (fun m v u wr=>∃ (i0 j0:Nat) (D9:Array α),a<i0∧i0≤n∧j0<n∧m=j0+1-i0∧v=.int .i64 i0∧u=.int .i64 j0∧D9.size=n∧R=Sort.partLoop lt a i0 j0 D9∧RowC enc 71 w g rest D9 wr)
        case atStart=>exact ⟨i1+1,j1-1,D0,by omega,by omega,by omega,rfl,by go_num,congrArg (Value.int .i64) (by omega),hsz,hRR.out,hR.out⟩
        case round =>
         clear hR hRR hsz
         obtain ⟨i0,j0,D9,hai,hin0,hjn0,hm0,rfl,rfl,hE,hRl,hR⟩:=hrel
         obtain ⟨w5,rfl⟩:∃ x:World,x=wr:=⟨_,rfl⟩
         replace hm0:=h'd hm0
         replace hRl:=h'd hRl
         replace hR:=h'd hR
         go_wp2_with fail
         go_loopg [12] (j0+1-i0) (fun m v wr=>∃ i1:Nat,(i0≤i1∧i1≤n)∧m=j0+1-i1∧v=.int .i64 i1∧Sort.scanUp (fun x=>lt x D9[a]!) D9 j0 i1=Sort.scanUp (fun x=>lt x D9[a]!) D9 j0 i0∧RowC enc 71 w g rest D9 wr)
         case atStart=>exact ⟨i0,by omega,rfl,by first | rfl | go_num,rfl,hR.out⟩
         case round =>
          clear hR
          obtain ⟨i1,hv,hm,rfl,hs,hR⟩:=hrel
          obtain ⟨w2,rfl⟩:∃ x:World,x=wr:=⟨_,rfl⟩
          replace hm:=h'd hm
          replace hs:=h'd hs
          replace hR:=h'd hR
          go_upto_region 13 with fail
          go_cut [120] (fun v wx=>v=.bool (decide (i1≤j0) && lt D9[i1]! D9[a]!)∧RowC enc 71 w g rest D9 wx)
          case first =>
           by_cases hg:i1≤j0
           ·have dg:decide (((i1:Nat):Int)≤((j0:Nat):Int))=true:=d't (by omega)
            have dg':decide (i1≤j0)=true:=d't hg
            have c1:=hR.out.load E.out wRowT (i:=i1) (by omega)
            have c0:=hR.out.load E.out wRowT (i:=a) (by omega)
            have i1':(i1:Int)<(n:Int):=by omega
            have i0':(a:Int)<(n:Int):=by omega
            obtain ⟨x,hx⟩:∃ x,x=D9[i1]!:=⟨_,rfl⟩
            obtain ⟨y,hy⟩:∃ y,y=D9[a]!:=⟨_,rfl⟩
            rw[←hx] at c1
            rw[←hy] at c0
            replace hx:=h'd hx
            replace hy:=h'd hy
            refine wp_region_still_tail 13 (by kernel_rfl) (by kernel_rfl) ?_
            simp only[List.take_succ_cons,List.take_zero,List.drop_succ_cons,List.drop_zero]
            repeat (first | (refine wpStill_load rfl 71 _ rfl _ (c1 _ rfl) ?_;try simp only[Act.put,s'a,s'z,s's]) | (refine wpStill_load rfl 71 _ rfl _ (c0 _ rfl) ?_;try simp only[Act.put,s'a,s'z,s's]) | still_step)
            refine wpStill_nil ?_
            go_wp2_with (refine c'm (HC.out _ _ _) ?_;rintro e w3 ⟨c,rfl,hc,hB3⟩;have hr3:=hR.out.drew.call hB3)
            go_meet
            case rel=>exact ⟨by rw[←hx.out,←hy.out,←hc];simp[hg],hr3⟩
           ·have dg:decide (((i1:Nat):Int)≤((j0:Nat):Int))=false:=d'f (by omega)
            have dg':decide (i1≤j0)=false:=d'f hg
            go_quiet (fail)
            go_wp2_with fail
            go_meet
            case rel=>exact ⟨by simp[hg],hR.out.drewN nq⟩
          case rest =>
           obtain ⟨rfl,hR2⟩:=hcut
           clear hR
           have hR:=h'd hR2
           clear hR2
           cases hc:(decide (i1≤j0) && lt D9[i1]! D9[a]!) with
           | true =>
            have hb':i1≤j0:=by
             simp only[Bool.and_eq_true,decide_eq_true_eq] at hc
             exact hc.1
            have hs2:Sort.scanUp (fun x=>lt x D9[a]!) D9 j0 (i1+1)=Sort.scanUp (fun x=>lt x D9[a]!) D9 j0 i0:=by
             rw[←hs.out]
             conv=>rhs;unfold Sort.scanUp
             rw[if_pos hc]
            replace hs2:=h'd hs2
            clear hc
            go_wp2_with fail
            go_roundg (j0+1-(i1+1))
            case measure=>have:=hm.out;omega
            case rel=>exact ⟨i1+1,by omega,rfl,by go_num,hs2.out,hR.out⟩
           | false =>
            have hfin:i1=Sort.scanUp (fun x=>lt x D9[a]!) D9 j0 i0:=by
             rw[←hs.out]
             unfold Sort.scanUp
             rw[if_neg (fun h'=>b'n (hc.symm.trans h'))]
            clear hc hm hs
            have hi1:=hv.1
            have hi1n:=hv.2
            have hup:=h'd hfin
            clear hfin hv
            go_wp2_with fail
            go_loopg [13] (j0) (fun m v wr=>∃ j1:Nat,(j1≤j0)∧m=j1∧v=.int .i64 j1∧Sort.scanDown (fun x => !lt x D9[a]!) D9 i1 j1=Sort.scanDown (fun x => !lt x D9[a]!) D9 i1 j0∧RowC enc 71 w g rest D9 wr)
            case atStart=>exact ⟨j0,by omega,rfl,by first | rfl | go_num,rfl,hR.out⟩
            case round =>
             clear hR
             obtain ⟨j1,hv,hm,rfl,hs,hR⟩:=hrel
             obtain ⟨w2,rfl⟩:∃ x:World,x=wr:=⟨_,rfl⟩
             replace hm:=h'd hm
             replace hs:=h'd hs
             replace hR:=h'd hR
             go_upto_region 15 with fail
             go_cut [139] (fun v wx=>v=.bool (decide (i1≤j1) && !lt D9[j1]! D9[a]!)∧RowC enc 71 w g rest D9 wx)
             case first =>
              by_cases hg:i1≤j1
              ·have dg:decide (((i1:Nat):Int)≤((j1:Nat):Int))=true:=d't (by omega)
               have dg':decide (i1≤j1)=true:=d't hg
               have c1:=hR.out.load E.out wRowT (i:=j1) (by omega)
               have c0:=hR.out.load E.out wRowT (i:=a) (by omega)
               have i1':(j1:Int)<(n:Int):=by omega
               have i0':(a:Int)<(n:Int):=by omega
               obtain ⟨x,hx⟩:∃ x,x=D9[j1]!:=⟨_,rfl⟩
               obtain ⟨y,hy⟩:∃ y,y=D9[a]!:=⟨_,rfl⟩
               rw[←hx] at c1
               rw[←hy] at c0
               replace hx:=h'd hx
               replace hy:=h'd hy
               refine wp_region_still_tail 13 (by kernel_rfl) (by kernel_rfl) ?_
               simp only[List.take_succ_cons,List.take_zero,List.drop_succ_cons,List.drop_zero]
               repeat (first | (refine wpStill_load rfl 71 _ rfl _ (c1 _ rfl) ?_;try simp only[Act.put,s'a,s'z,s's]) | (refine wpStill_load rfl 71 _ rfl _ (c0 _ rfl) ?_;try simp only[Act.put,s'a,s'z,s's]) | still_step)
               refine wpStill_nil ?_
               go_wp2_with (refine c'm (HC.out _ _ _) ?_;rintro e w3 ⟨c,rfl,hc,hB3⟩;have hr3:=hR.out.drew.call hB3)
               go_meet
               case rel=>exact ⟨by rw[←hx.out,←hy.out,←hc];simp[hg],hr3⟩
              ·have dg:decide (((i1:Nat):Int)≤((j1:Nat):Int))=false:=d'f (by omega)
               have dg':decide (i1≤j1)=false:=d'f hg
               go_quiet (fail)
               go_wp2_with fail
               go_meet
               case rel=>exact ⟨by simp[hg],hR.out.drewN nq⟩
             case rest =>
              obtain ⟨rfl,hR2⟩:=hcut
              clear hR
              have hR:=h'd hR2
              clear hR2
              cases hc:(decide (i1≤j1) && !lt D9[j1]! D9[a]!) with
              | true =>
               have hb':i1≤j1:=by
                simp only[Bool.and_eq_true,decide_eq_true_eq] at hc
                exact hc.1
               have hs2:Sort.scanDown (fun x => !lt x D9[a]!) D9 i1 (j1-1)=Sort.scanDown (fun x => !lt x D9[a]!) D9 i1 j0:=by
                rw[←hs.out]
                obtain ⟨k,rfl⟩:∃ k,j1=k+1:=⟨j1-1,by omega⟩
                conv=>rhs;unfold Sort.scanDown
                rw[if_pos hc]
                rfl
               replace hs2:=h'd hs2
               clear hc
               go_wp2_with fail
               go_roundg ((j1-1))
               case measure=>have:=hm.out;omega
               case rel=>exact ⟨j1-1,by omega,rfl,congrArg (Value.int .i64) (by omega),hs2.out,hR.out⟩
              | false =>
               have hfin:j1=Sort.scanDown (fun x => !lt x D9[a]!) D9 i1 j0:=by
                rw[←hs.out]
                cases j1 with
                | zero=>rfl
                | succ k =>
                 unfold Sort.scanDown
                 rw[if_neg (fun h'=>b'n (hc.symm.trans h'))]
               clear hc hm hs
               have hRe:R=_:=hRl.out.trans (partLoop_eq D9 a i0 j0 i1 j1 hup.out hfin)
               replace hfin:=h'd hfin
               clear hup hfin hRl
               have hjn:j1<n:=by omega
               have h:=hR.out
               by_cases hij:i1>j1
               ·rw[if_pos hij] at hRe
                replace hRe:=h'd hRe
                have q1:(j1:Int)<(i1:Int):=by omega
                go_upto_region 21 with fail
                obtain ⟨W1,W2,s1,s2,hsw⟩:=h.drew.swp E.out wRowT (i:=j1) (j:=a) (by omega) (by omega)
                have e1:=h.drew.load E.out wRowT (i:=a) (by omega) _ rfl
                have e0:=h.drew.load E.out wRowT (i:=j1) (by omega) _ rfl
                have hsz:=Sort.size_swp D9 j1 a
                replace hsw:=h'd hsw
                replace hsz:=h'd hsz
                clear h
                generalize (enc D9[j1]!).toArray=xa at *
                generalize (enc D9[a]!).toArray=xb at *
                refine wp_region_swp 13 15 [some 163,some 164,some 165,some 166,some 167,some 168,some 169,some 170,some 171,some 172,some 173,some 174,some 175,none,some 176,none] [.slice (some ⟨g,0,none⟩) n cap,.int .i64 j1,.slice (some ⟨g,0,none⟩) n cap,.int .i64 a,.slice (some ⟨g,0,none⟩) n cap,.int .i64 a,.pointer (some ⟨g,a*9,none⟩),.agg xb,.slice (some ⟨g,0,none⟩) n cap,.int .i64 j1,.pointer (some ⟨g,j1*9,none⟩),.agg xa,.pointer (some ⟨g,j1*9,none⟩),undef,.pointer (some ⟨g,a*9,none⟩),undef] W1 W2 ?A4 ?hA4 (by kernel_rfl) rfl (by kernel_rfl) (by kernel_rfl) (by kernel_rfl) ?hrun4 71 71 (.tmp 175) (.tmp 170) (.tmp 176) (.tmp 174) rfl rfl ?hs4 ?ht4 ?hf4
                case hA4=>simp only[putL,Act.put,s'a,s'z,s's];rfl
                case hs4=>exact s1
                case ht4=>exact s2
                case hrun4 =>
                 simp only[RunL,RunOp]
                 clear hsw
                 have hbA:((j1:Nat):Int)<(n:Int):=by omega
                 have hbB:((a:Nat):Int)<(n:Int):=by omega
                 clear hsz
                 refine ⟨fun W=>rfl,fun W=>rfl,fun W=>rfl,fun W=>rfl,fun W=>rfl,fun W=>rfl,?_,e1,fun W=>rfl,fun W=>rfl,?_,e0,?_,trivial,?_,trivial,trivial⟩
                 all_goals (intro W;go_simp)
                clear s1 s2 e0 e1 W1
                go_wp2_with fail
                refine bodyPost_ret (results_tmp2 rfl _ _ _) rfl ?_
                rw[hT2.out,hRe.out]
                exact ⟨rfl,hsw.out⟩
               ·rw[if_neg hij,if_pos (by omega)] at hRe
                have q1:¬ (j1:Int)<(i1:Int):=by omega
                replace hRe:=h'd hRe
                go_upto_region 18 with fail
                obtain ⟨W1,W2,s1,s2,hsw⟩:=h.drew.swp E.out wRowT (i:=i1) (j:=j1) (by omega) (by omega)
                have e1:=h.drew.load E.out wRowT (i:=j1) (by omega) _ rfl
                have e0:=h.drew.load E.out wRowT (i:=i1) (by omega) _ rfl
                have hsz:=Sort.size_swp D9 i1 j1
                replace hsw:=h'd hsw
                replace hsz:=h'd hsz
                clear h
                generalize (enc D9[i1]!).toArray=xa at *
                generalize (enc D9[j1]!).toArray=xb at *
                refine wp_region_swp 13 15 [some 145,some 146,some 147,some 148,some 149,some 150,some 151,some 152,some 153,some 154,some 155,some 156,some 157,none,some 158,none] [.slice (some ⟨g,0,none⟩) n cap,.int .i64 i1,.slice (some ⟨g,0,none⟩) n cap,.int .i64 j1,.slice (some ⟨g,0,none⟩) n cap,.int .i64 j1,.pointer (some ⟨g,j1*9,none⟩),.agg xb,.slice (some ⟨g,0,none⟩) n cap,.int .i64 i1,.pointer (some ⟨g,i1*9,none⟩),.agg xa,.pointer (some ⟨g,i1*9,none⟩),undef,.pointer (some ⟨g,j1*9,none⟩),undef] W1 W2 ?A5 ?hA5 (by kernel_rfl) rfl (by kernel_rfl) (by kernel_rfl) (by kernel_rfl) ?hrun5 71 71 (.tmp 157) (.tmp 152) (.tmp 158) (.tmp 156) rfl rfl ?hs5 ?ht5 ?hf5
                case hA5=>simp only[putL,Act.put,s'a,s'z,s's];rfl
                case hs5=>exact s1
                case ht5=>exact s2
                case hrun5 =>
                 simp only[RunL,RunOp]
                 clear hsw
                 have hbA:((i1:Nat):Int)<(n:Int):=by omega
                 have hbB:((j1:Nat):Int)<(n:Int):=by omega
                 clear hsz
                 refine ⟨fun W=>rfl,fun W=>rfl,fun W=>rfl,fun W=>rfl,fun W=>rfl,fun W=>rfl,?_,e1,fun W=>rfl,fun W=>rfl,?_,e0,?_,trivial,?_,trivial,trivial⟩
                 all_goals (intro W;go_simp)
                clear s1 s2 e0 e1 W1
                go_wp2_with fail
                go_roundg ((j1-1)+1-(i1+1))
                case measure=>have:=hm0.out;omega
                case rel=>exact ⟨i1+1,j1-1,Sort.swp D9 i1 j1,by omega,by omega,by omega,rfl,by go_num,congrArg (Value.int .i64) (by omega),hsz.out.trans hE,hRe.out,hsw.out⟩
end
end StS
end Go.Proofs.YtcknpofnpabkiaaGreat
