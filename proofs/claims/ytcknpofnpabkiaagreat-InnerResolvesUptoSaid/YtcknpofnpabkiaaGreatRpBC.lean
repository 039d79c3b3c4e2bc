/- slices.siftDownCmpFunc, heapSortCmpFunc at ways. Conditions: the row is the call's own block, of fewer than 2^40 ways; the comparison answers. -/
import Derived.BigRegion
import Derived.Test.YtcknpofnpabkiaaGreatRpBB
set_option maxRecDepth 100000
namespace Go.Proofs.YtcknpofnpabkiaaGreat
open Go.RowKit Go.Lo
namespace StS
section
variable {α:Type} [Inhabited α] {enc:α→List Value} (E:RowE enc 9) {lt:α→α→Bool} {F:FuncId} (HC:CmpF enc lt F)
omit [Inhabited α] in
theorem sift_ex [Inhabited α] (hi first r ch:Nat) (d1:Array α) (cb:Bool) (h:¬ hi≤2*r+1) (hcb:cb=(decide (2*r+1+1<hi) && lt d1[first+(2*r+1)]! d1[first+(2*r+2)]!)) (hch:ch=if cb then 2*r+2 else 2*r+1) :
  ch<hi∧Sort.siftDown lt hi first r d1=if lt d1[first+r]! d1[first+ch]! then Sort.siftDown lt hi first ch (Sort.swp d1 (first+r) (first+ch)) else d1:=by
 have e:Sort.siftDown lt hi first r d1=if decide (2*r+1+1<hi) && lt d1[first+(2*r+1)]! d1[first+(2*r+2)]! then
   if !lt d1[first+r]! d1[first+(2*r+2)]! then d1 else if 2*r+2<hi then Sort.siftDown lt hi first (2*r+2) (Sort.swp d1 (first+r) (first+(2*r+2))) else d1
   else if !lt d1[first+r]! d1[first+(2*r+1)]! then d1 else Sort.siftDown lt hi first (2*r+1) (Sort.swp d1 (first+r) (first+(2*r+1))):=by
  conv=>lhs;unfold Sort.siftDown
  rw[dif_neg (by omega)]
  rfl
 rw[e,←hcb]
 cases cb with
 | true =>
  have h2:2*r+2<hi:=by
   have:=hcb.symm
   simp only[Bool.and_eq_true,decide_eq_true_eq] at this
   omega
  simp only[if_true] at hch
  subst hch
  refine ⟨h2,?_⟩
  rw[if_pos rfl,if_pos h2]
  cases lt d1[first+r]! d1[first+(2*r+2)]! <;> simp
 | false =>
  simp only[Bool.false_eq_true,if_false] at hch
  subst hch
  refine ⟨by omega,?_⟩
  rw[if_neg (by simp)]
  cases lt d1[first+r]! d1[first+(2*r+1)]! <;> simp
include E HC
set_option maxHeartbeats 2000000 in
theorem siftC_any (g n cap:Nat) (rest:List Value) (d:Array α) (lo hi first:Nat) (w:World) (h:RowC enc 71 w g rest d w) (hd:d.size=n) (hlo:lo≤n) (hb:first+hi≤n) (hn:n≤1099511627776) :
  Calls Tryz.prog 179 #[.slice (some ⟨g,0,none⟩) n cap,.int .i64 lo,.int .i64 hi,.int .i64 first,.func (.func F) #[] #[]] w (RowPC enc w g rest (Sort.siftDown lt hi first lo d)):=by
 have hEF:=HC.enters
 replace HC:=h'd HC.call
 replace E:=h'd E
 go_enter Tryz.func179,Tryz.ntmps179
 go_wp2_with fail
 go_loopg [10] (hi-lo) (fun m v wr=>∃ (r:Nat) (d1:Array α),r≤n∧m=hi-r∧v=.int .i64 r∧d1.size=n∧Sort.siftDown lt hi first r d1=Sort.siftDown lt hi first lo d∧RowC enc 71 w g rest d1 wr)
 case atStart=>exact ⟨lo,d,hlo,rfl,rfl,hd,rfl,h⟩
 case round =>
  obtain ⟨r,d1,hr,rfl,rfl,hd1,he,hR⟩:=hrel
  obtain ⟨w1,rfl⟩:∃ x:World,x=wr:=⟨_,rfl⟩
  clear h
  by_cases hch:hi≤2*r+1
  ·have he':d1=Sort.siftDown lt hi first lo d:=by
    rw[←he]
    unfold Sort.siftDown
    rw[dif_pos (by omega)]
   have j1:(hi:Int)≤2*(r:Int)+1:=by omega
   replace he':=h'd he'
   replace hR:=h'd hR
   clear he
   go_wp2_with fail
   go_end0
   exact ⟨rfl,by rw[←he'.out];exact hR.out⟩
  ·have j1:¬ (hi:Int)≤2*(r:Int)+1:=by omega
   obtain ⟨cb,hcb⟩:∃ cb:Bool,cb=(decide (2*r+1+1<hi) && lt d1[first+(2*r+1)]! d1[first+(2*r+2)]!):=⟨_,rfl⟩
   obtain ⟨ch,hch2⟩:∃ ch,ch=if cb then 2*r+2 else 2*r+1:=⟨_,rfl⟩
   obtain ⟨hchi,hex⟩:=sift_ex hi first r ch d1 cb hch hcb hch2
   rw[hex] at he
   replace he:=h'd he
   replace hR:=h'd hR
   replace hcb:=h'd hcb
   replace hch2:=h'd hch2
   clear hex
   have wA:IntKind.i64.wrap (2*(r:Int)+1+1)=2*(r:Int)+1+1:=IntWalk.i64_in _ (by omega)
   have wB:IntKind.i64.wrap ((first:Int)+(2*(r:Int)+1))=(first:Int)+(2*(r:Int)+1):=IntWalk.i64_in _ (by omega)
   have wC:IntKind.i64.wrap ((first:Int)+(2*(r:Int)+1)+1)=(first:Int)+(2*(r:Int)+1)+1:=IntWalk.i64_in _ (by omega)
   have wE:IntKind.i64.wrap ((first:Int)+(ch:Int))=(first:Int)+(ch:Int):=IntWalk.i64_in _ (by omega)
   have wD:IntKind.i64.wrap ((first:Int)+(r:Int))=(first:Int)+(r:Int):=IntWalk.i64_in _ (by omega)
   have z1:(0:Int)≤(first:Int)+(2*(r:Int)+1):=by omega
   have z2:(0:Int)≤(first:Int)+(2*(r:Int)+1)+1:=by omega
   have z3:(0:Int)≤(first:Int)+(ch:Int):=by omega
   have z0:(0:Int)≤(first:Int)+(r:Int):=by omega
   have t1:((first:Int)+(2*(r:Int)+1)).toNat=first+(2*r+1):=by omega
   have t2:((first:Int)+(2*(r:Int)+1)+1).toNat=first+(2*r+2):=by omega
   have t3:((first:Int)+(ch:Int)).toNat=first+ch:=by omega
   have t0:((first:Int)+(r:Int)).toNat=first+r:=by omega
   have k1:(first:Int)+(2*(r:Int)+1)<(n:Int):=by omega
   have k3:(first:Int)+(ch:Int)<(n:Int):=by omega
   have k0:(first:Int)+(r:Int)<(n:Int):=by omega
   go_upto_region 3 with fail
   go_cut [40] (fun v wx=>v=.bool cb∧RowC enc 71 w g rest d1 wx)
   case first =>
    by_cases hc2:2*r+1+1<hi
    ·have i2:2*(r:Int)+1+1<(hi:Int):=by omega
     have di:decide (2*(r:Int)+1+1<(hi:Int))=true:=d't i2
     have k2:(first:Int)+(2*(r:Int)+1)+1<(n:Int):=by omega
     have c1:=hR.out.load E.out wRowT (i:=first+(2*r+1)) (by omega)
     have c2:=hR.out.load E.out wRowT (i:=first+(2*r+2)) (by omega)
     have hcb2:=h'd (hcb.out.trans (by rw[d't hc2,Bool.true_and]))
     clear hcb
     generalize d1[first+(2*r+1)]! = x1 at *
     generalize d1[first+(2*r+2)]! = x2 at *
     refine wp_region_still_tail 19 (by kernel_rfl) (by kernel_rfl) ?_
     simp only[List.take_succ_cons,List.take_zero,List.drop_succ_cons,List.drop_zero]
     repeat (first | (refine wpStill_load rfl 71 _ rfl _ (c1 _ rfl) ?_;try simp only[Act.put,s'a,s'z,s's]) | (refine wpStill_load rfl 71 _ rfl _ (c2 _ rfl) ?_;try simp only[Act.put,s'a,s'z,s's]) | still_step)
     refine wpStill_nil ?_
     go_wp2_with (refine c'm (HC.out _ _ _) ?_;rintro e w3 ⟨c,rfl,hc,hB3⟩;have hr3:=hR.out.drew.call hB3)
     go_meet
     case rel=>exact ⟨by rw[hcb2.out,←hc],hr3⟩
    ·have di:decide (2*(r:Int)+1+1<(hi:Int))=false:=d'f (by omega)
     have i2:¬ 2*(r:Int)+1+1<(hi:Int):=by omega
     have hcb2:=h'd (hcb.out.trans (by rw[d'f hc2,Bool.false_and]))
     clear hcb
     go_quiet (fail)
     go_wp2_with fail
     go_meet
     case rel=>exact ⟨by rw[hcb2.out],hR.out.drewN nq⟩
   case rest =>
    obtain ⟨rfl,hR2⟩:=hcut
    clear hR
    have hR:=h'd hR2
    clear hR2
    go_upto_if 40 with fail
    go_cut [11] (fun v wx=>v=.int .i64 ch∧RowC enc 71 w g rest d1 wx)
    case first =>
     have hc3:=hch2.out
     clear hcb
     cases cb with
     | true =>
      simp only[if_true] at hc3
      replace hc3:=h'd hc3
      go_wp2_with fail
      go_meet
      case rel=>exact ⟨congrArg (Value.int .i64) (by have:=hc3.out;omega),hR.out⟩
     | false =>
      simp only[Bool.false_eq_true,if_false] at hc3
      replace hc3:=h'd hc3
      go_wp2_with fail
      go_meet
      case rel=>exact ⟨congrArg (Value.int .i64) (by have:=hc3.out;omega),hR.out⟩
    case rest =>
     obtain ⟨rfl,hR2⟩:=hcut
     clear hR
     have hR:=h'd hR2
     have hcr:r<ch:=by
      have:=hch2.out
      split at this <;> omega
     clear hR2 hcb hch2 wA wB wC z1 z2 t1 t2 k1
     have hf1:first+r<d1.size:=by omega
     have hf2:first+ch<d1.size:=by omega
     have c0:=hR.out.load E.out wRowT (i:=first+r) hf1
     have cc:=hR.out.load E.out wRowT (i:=first+ch) hf2
     replace hf1:=h'd hf1
     replace hf2:=h'd hf2
     go_upto_region 5 with fail
     cases hlt:lt d1[first+r]! d1[first+ch]! with
     | false =>
      have he':d1=Sort.siftDown lt hi first lo d:=by
       have:=he.out
       rw[if_neg (by simp[hlt])] at this
       exact this
      replace he':=h'd he'
      replace hlt:=h'd hlt
      clear he
      generalize d1[first+r]! = x1 at *
      generalize d1[first+ch]! = x2 at *
      refine wp_region_still_tail 13 (by kernel_rfl) (by kernel_rfl) ?_
      simp only[List.take_succ_cons,List.take_zero,List.drop_succ_cons,List.drop_zero]
      repeat (first | (refine wpStill_load rfl 71 _ rfl _ (c0 _ rfl) ?_;try simp only[Act.put,s'a,s'z,s's]) | (refine wpStill_load rfl 71 _ rfl _ (cc _ rfl) ?_;try simp only[Act.put,s'a,s'z,s's]) | still_step)
      refine wpStill_nil ?_
      go_wp2_with (refine c'm (HC.out _ _ _) ?_;rintro e w3 ⟨c,rfl,hc,hB3⟩;rw[hlt.out] at hc;have hcp:¬ c<0:=of_decide_eq_false hc;have hr3:=h'd (hR.out.drew.call hB3))
      go_end0
      exact ⟨rfl,by rw[←he'.out];exact hr3.out⟩
     | true =>
      have he':Sort.siftDown lt hi first ch (Sort.swp d1 (first+r) (first+ch))=Sort.siftDown lt hi first lo d:=by
       have:=he.out
       rw[if_pos hlt] at this
       exact this
      replace he':=h'd he'
      replace hlt:=h'd hlt
      clear he
      obtain ⟨x1,hx1⟩:∃ x,x=d1[first+r]!:=⟨_,rfl⟩
      obtain ⟨x2,hx2⟩:∃ x,x=d1[first+ch]!:=⟨_,rfl⟩
      rw[←hx1] at c0 hlt
      rw[←hx2] at cc hlt
      replace hx1:=h'd hx1
      replace hx2:=h'd hx2
      refine wp_region_still_tail 13 (by kernel_rfl) (by kernel_rfl) ?_
      simp only[List.take_succ_cons,List.take_zero,List.drop_succ_cons,List.drop_zero]
      repeat (first | (refine wpStill_load rfl 71 _ rfl _ (c0 _ rfl) ?_;try simp only[Act.put,s'a,s'z,s's]) | (refine wpStill_load rfl 71 _ rfl _ (cc _ rfl) ?_;try simp only[Act.put,s'a,s'z,s's]) | still_step)
      refine wpStill_nil ?_
      go_upto_region 6 with (refine c'm (HC.out _ _ _) ?_;rintro e w3 ⟨c,rfl,hc,hB3⟩;rw[hlt.out] at hc;have hcp:c<0:=of_decide_eq_true hc;have h:=hR.out.drew.call hB3)
      clear c0 cc hc hcp hB3
      obtain ⟨W1,W2,s1,s2,hsw⟩:=h.drew.swp E.out wRowT (i:=first+r) (j:=first+ch) (by omega) (by omega)
      have e1:=h.drew.load E.out wRowT (i:=first+ch) (by omega) _ rfl
      have e0:=h.drew.load E.out wRowT (i:=first+r) (by omega) _ rfl
      have hsz:=Sort.size_swp d1 (first+r) (first+ch)
      replace hsw:=h'd hsw
      replace hsz:=h'd hsz
      clear h
      generalize (enc d1[first+r]!).toArray=xa at *
      generalize (enc d1[first+ch]!).toArray=xb at *
      refine wp_region_swp 21 23 [some 59,some 60,some 61,some 62,some 63,some 64,some 65,some 66,some 67,some 68,some 69,some 70,some 71,some 72,some 73,some 74,some 75,some 76,some 77,some 78,some 79,none,some 80,none] [.slice (some ⟨g,0,none⟩) n cap,.int .i64 first,.int .i64 r,.int .i64 ((first:Int)+(r:Int)),.slice (some ⟨g,0,none⟩) n cap,.int .i64 first,.int .i64 ch,.int .i64 ((first:Int)+(ch:Int)),.slice (some ⟨g,0,none⟩) n cap,.int .i64 first,.int .i64 ch,.int .i64 ((first:Int)+(ch:Int)),.pointer (some ⟨g,(first+ch)*9,none⟩),.agg xb,.slice (some ⟨g,0,none⟩) n cap,.int .i64 first,.int .i64 r,.int .i64 ((first:Int)+(r:Int)),.pointer (some ⟨g,(first+r)*9,none⟩),.agg xa,.pointer (some ⟨g,(first+r)*9,none⟩),undef,.pointer (some ⟨g,(first+ch)*9,none⟩),undef] W1 W2 ?A ?hA (by kernel_rfl) rfl (by kernel_rfl) (by kernel_rfl) (by kernel_rfl) ?hrun 71 71 (.tmp 79) (.tmp 72) (.tmp 80) (.tmp 78) rfl rfl ?h1 ?h2 ?hf
      case hA=>simp only[putL,Act.put,s'a,s'z,s's];rfl
      case h1=>exact s1
      case h2=>exact s2
      case hrun =>
       simp only[RunL,RunOp]
       clear hsw hsz
       refine ⟨fun W=>rfl,fun W=>rfl,fun W=>rfl,?_,fun W=>rfl,fun W=>rfl,fun W=>rfl,?_,fun W=>rfl,fun W=>rfl,fun W=>rfl,?_,?_,e1,fun W=>rfl,fun W=>rfl,fun W=>rfl,?_,?_,e0,?_,trivial,?_,trivial,trivial⟩
       all_goals (intro W;go_simp)
      clear s1 s2 e0 e1
      go_wp2
      go_roundg (hi-ch)
      case measure=>have:=hch;omega
      case rel=>exact ⟨ch,Sort.swp d1 (first+r) (first+ch),by omega,rfl,by go_num,by rw[hsz.out];exact hd1,he'.out,hsw.out⟩
end
end StS
set_option maxRecDepth 100000
namespace StS
section
variable {α:Type} [Inhabited α] {enc:α→List Value} (E:RowE enc 9) {lt:α→α→Bool} {F:FuncId} (HC:CmpF enc lt F)
theorem sizeC_sift (hi first:Nat):∀ (f root:Nat) (d:Array α),hi-root≤f→(Sort.siftDown lt hi first root d).size=d.size:=by
 intro f
 induction f with
 | zero =>
  intro root d hf
  unfold Sort.siftDown
  rw[dif_pos (by omega)]
 | succ f ih =>
  intro root d hf
  unfold Sort.siftDown
  split
  ·rfl
  ·split
   ·split
    ·rfl
    ·split
     ·rw[ih _ _ (by omega),Sort.size_swp]
     ·rfl
   ·split
    ·rfl
    ·rw[ih _ _ (by omega),Sort.size_swp]
include E HC
set_option maxHeartbeats 1000000 in
theorem heapC_any (g n cap:Nat) (rest:List Value) (d:Array α) (a b:Nat) (w:World) (h:RowC enc 71 w g rest d w) (hd:d.size=n) (hab:a<b) (hb:b≤n) (hn:n≤1099511627776) :
  Calls Tryz.prog 142 #[.slice (some ⟨g,0,none⟩) n cap,.int .i64 a,.int .i64 b,.func (.func F) #[] #[]] w (RowPC enc w g rest (Sort.heapSort lt d a b)):=by
 obtain ⟨hi,hhi⟩:∃ hi,hi=b-a:=⟨_,rfl⟩
 obtain ⟨q,hq⟩:∃ q,q=(hi-1) / 2:=⟨_,rfl⟩
 have e1:(b:Int)-(a:Int)=(hi:Int):=by omega
 have e2:Int.tdiv ((hi:Int)-1) 2=(q:Int):=by rw[hq,Int.tdiv_eq_ediv_of_nonneg (by omega)];omega
 have hh1:1≤hi:=by omega
 have hhn:a+hi≤n:=by omega
 have hqn:q≤n:=by omega
 have hE:Sort.heapSort lt d a b=Sort.heapPop lt a hi (Sort.heapBuild lt hi a (q+1) d):=by
  unfold Sort.heapSort
  rw[←hhi,←hq]
 obtain ⟨T,hT⟩:∃ T,T=Sort.heapSort lt d a b:=⟨_,rfl⟩
 rw[←hT] at hE
 rw[←hT]
 clear hT hhi hq
 have SI:=fun d lo hi first w h h1 h2 h3=>siftC_any E HC g n cap rest d lo hi first w h h1 h2 h3 hn
 replace SI:=h'd SI
 replace E:=h'd E
 clear HC
 go_enter Tryz.func142,Tryz.ntmps142
 go_wp2_with fail
 clear e2
 go_loopg [11] (q+1) (fun m v wr=>∃ (k:Nat) (d1:Array α),k≤q+1∧k=m∧v=.int .i64 ((k:Int)-1)∧d1.size=n∧T=Sort.heapPop lt a hi (Sort.heapBuild lt hi a k d1)∧RowC enc 71 w g rest d1 wr)
 case atStart=>exact ⟨q+1,d,n'r _,rfl,by go_num,hd,hE,h⟩
 case round =>
  obtain ⟨k,d1,hk,hkm,rfl,hd1,he,hR⟩:=hrel
  obtain ⟨w1,rfl⟩:∃ x:World,x=wr:=⟨_,rfl⟩
  clear h
  cases k with
  | zero =>
   have he':T=Sort.heapPop lt a hi d1:=he
   replace he':=h'd he'
   clear he hkm hE
   replace hR:=h'd hR
   go_wp2_with fail
   go_loopg [12] hi (fun m v wr=>∃ (k:Nat) (d2:Array α),k≤hi∧k=m∧v=.int .i64 ((k:Int)-1)∧d2.size=n∧T=Sort.heapPop lt a k d2∧RowC enc 71 w g rest d2 wr)
   case atStart=>exact ⟨hi,d1,n'r _,rfl,by go_num,hd1,he'.out,hR.out⟩
   case round =>
    obtain ⟨k,d2,hk,hkm,rfl,hd2,he,hR2⟩:=hrel
    obtain ⟨w2,rfl⟩:∃ x:World,x=wr:=⟨_,rfl⟩
    cases k with
    | zero =>
     have he2:T=d2:=he
     replace he2:=h'd he2
     clear he
     go_wp2_with fail
     go_end0
     exact ⟨rfl,by rw[he2.out];exact hR2⟩
    | succ j =>
     have he2:T=Sort.heapPop lt a j (Sort.siftDown lt j a 0 (Sort.swp d2 a (a+j))):=he
     have hsz:=(Sort.size_swp d2 a (a+j)).trans hd2
     have i0:(a:Int)<(n:Int):=by omega
     have i1:(a:Int)+(j:Int)<(n:Int):=by omega
     have i2:(0:Int)≤(a:Int)+(j:Int):=by omega
     have t1:((a:Int)+(j:Int)).toNat=a+j:=by omega
     have wA:IntKind.i64.wrap ((a:Int)+(j:Int))=(a:Int)+(j:Int):=IntWalk.i64_in _ (by omega)
     have CS:=fun w h=>SI.out (Sort.swp d2 a (a+j)) 0 j a w h hsz (by omega) (by omega)
     have hs2:=sizeC_sift (lt:=lt) j a j 0 (Sort.swp d2 a (a+j)) (by omega)
     replace hs2:=h'd (hs2.trans hsz)
     replace CS:=h'd CS
     replace he2:=h'd he2
     clear he
     replace hkm:=h'd hkm
     replace hsz:=h'd hsz
     go_upto_region 10 with fail
     obtain ⟨W1,W2,s1,s2,hsw⟩:=hR2.drew.swp E.out wRowT (i:=a) (j:=a+j) (by omega) (by omega)
     have e1:=hR2.drew.load E.out wRowT (i:=a+j) (by omega) _ rfl
     have e0:=hR2.drew.load E.out wRowT (i:=a) (by omega) _ rfl
     replace hsw:=h'd hsw
     clear hR2
     generalize (enc d2[a]!).toArray=xa at *
     generalize (enc d2[a+j]!).toArray=xb at *
     refine wp_region_swp 17 19 [some 36,some 37,some 38,some 39,some 40,some 41,some 42,some 43,some 44,some 45,some 46,some 47,some 48,some 49,some 50,some 51,some 52,none,some 53,none] [.slice (some ⟨g,0,none⟩) n cap,.int .i64 a,.slice (some ⟨g,0,none⟩) n cap,.int .i64 a,.int .i64 j,.int .i64 ((a:Int)+(j:Int)),.slice (some ⟨g,0,none⟩) n cap,.int .i64 a,.int .i64 j,.int .i64 ((a:Int)+(j:Int)),.pointer (some ⟨g,(a+j)*9,none⟩),.agg xb,.slice (some ⟨g,0,none⟩) n cap,.int .i64 a,.pointer (some ⟨g,a*9,none⟩),.agg xa,.pointer (some ⟨g,a*9,none⟩),undef,.pointer (some ⟨g,(a+j)*9,none⟩),undef] W1 W2 ?A ?hA (by kernel_rfl) rfl (by kernel_rfl) (by kernel_rfl) (by kernel_rfl) ?hrun 71 71 (.tmp 52) (.tmp 47) (.tmp 53) (.tmp 51) rfl rfl ?h1 ?h2 ?hf
     case hA=>simp only[putL,Act.put,s'a,s'z,s's];rfl
     case h1=>exact s1
     case h2=>exact s2
     case hrun =>
      simp only[RunL,RunOp]
      clear hsw hsz
      refine ⟨fun W=>rfl,fun W=>rfl,fun W=>rfl,fun W=>rfl,?_,?_,fun W=>rfl,fun W=>rfl,?_,?_,?_,e1,fun W=>rfl,fun W=>rfl,?_,e0,?_,trivial,?_,trivial,trivial⟩
      all_goals (intro W;go_simp)
     clear s1 s2 e0 e1
     go_wp2_with (go_at_call 179;refine c'm (CS.out _ hsw.out.self) ?_;rintro e w3 ⟨rfl,hR3⟩)
     go_roundg j
     case measure=>have:=hkm.out;omega
     case rel=>exact ⟨j,Sort.siftDown lt j a 0 (Sort.swp d2 a (a+j)),by omega,rfl,by go_num,hs2.out,he2.out,hsw.out.trans hR3⟩
  | succ j =>
   have he2:T=Sort.heapPop lt a hi (Sort.heapBuild lt hi a j (Sort.siftDown lt hi a j d1)):=he
   have CS:=SI.out d1 j hi a w1 hR.self hd1 (by omega) (by omega)
   have hs2:=sizeC_sift (lt:=lt) hi a hi j d1 (by omega)
   replace hs2:=h'd (hs2.trans hd1)
   replace CS:=h'd CS
   replace he2:=h'd he2
   replace hR:=h'd hR
   clear he hE
   replace hkm:=h'd hkm
   go_wp2_with (go_at_call 179;refine c'm CS.out ?_;rintro e w3 ⟨rfl,hR3⟩)
   go_roundg j
   case measure=>have:=hkm.out;omega
   case rel=>exact ⟨j,Sort.siftDown lt hi a j d1,by omega,rfl,by go_num,hs2.out,he2.out,hR.out.trans hR3⟩
end
end StS
end Go.Proofs.YtcknpofnpabkiaaGreat
