/- slices.insertionSortCmpFunc at ways. Conditions: the row is the call's own block, of fewer than 2^40 ways; the comparison answers. -/
import Derived.Test.YtcknpofnpabkiaaGreatProg
import Derived.BigQuiet
import Derived.Test.YtcknpofnpabkiaaGreatRpAC
set_option maxRecDepth 100000
namespace Go.Proofs.YtcknpofnpabkiaaGreat
open Go.RowKit Go.Lo
namespace StS
structure CmpF {α:Type} (enc:α→List Value) (lt:α→α→Bool) (F:FuncId):Prop where
 enters:∀ args w,(callFunc F args).run Tryz.prog w=.ok (.enter F args) w
 call:∀ (x y:α) (W:World),Calls Tryz.prog F #[.agg (enc x).toArray,.agg (enc y).toArray] W fun e W'=>∃ c:Int,e=.returned (.int .i64 c)∧decide (c<0)=lt x y∧Below W.heap.size W W'
theorem wRowT:RowT Tryz.prog 71 9:=⟨⟨_,Tryz.underlying71,rfl⟩,by kernel_rfl⟩
section
variable {α:Type} [Inhabited α] {enc:α→List Value} (E:RowE enc 9) {lt:α→α→Bool} {F:FuncId} (HC:CmpF enc lt F)
def RowPC (enc:α→List Value) (w:World) (g:Nat) (rest:List Value) (d:Array α) (e:Ending) (w':World):Prop:=e=.returned (.tuple #[])∧RowC enc 71 w g rest d w'
include E HC
set_option maxHeartbeats 1000000 in
theorem insC_any (g n cap:Nat) (rest:List Value) (d:Array α) (a b:Nat) (w:World) (h:RowC enc 71 w g rest d w) (hd:d.size=n) (hab:a≤b) (hb:b≤n) (hn:n≤1099511627776) :
  Calls Tryz.prog 141 #[.slice (some ⟨g,0,none⟩) n cap,.int .i64 a,.int .i64 b,.func (.func F) #[] #[]] w (RowPC enc w g rest (Sort.insertionSort lt d a b)):=by
 have hEF:=HC.enters
 replace HC:=h'd HC.call
 replace E:=h'd E
 go_enter Tryz.func141,Tryz.ntmps141
 go_wp2_with fail
 go_loopg [8] (b-(a+1)) (fun m v wr=>∃ (i:Nat) (d1:Array α),a+1≤i∧m=b-i∧v=.int .i64 i∧d1.size=n∧Sort.insOuter lt a b i d1=Sort.insertionSort lt d a b∧RowC enc 71 w g rest d1 wr)
 case atStart=>exact ⟨a+1,d,n'r _,by omega,by go_num,hd,rfl,h⟩
 case round =>
  obtain ⟨i,d1,hi,rfl,rfl,hd1,he,hr⟩:=hrel
  obtain ⟨w1,rfl⟩:∃ x:World,x=wr:=⟨_,rfl⟩
  by_cases hib:i<b
  ·have he':Sort.insOuter lt a b (i+1) (Sort.insInner lt a i d1)=Sort.insertionSort lt d a b:=by
    rw[←he]
    conv=>rhs;unfold Sort.insOuter
    rw[if_pos hib]
   replace he':=h'd he'
   replace hr:=h'd hr
   clear he h
   go_wp2_with fail
   go_loopg [9] i (fun m v wr=>∃ (j:Nat) (d2:Array α),j≤i∧m=j∧v=.int .i64 j∧d2.size=n∧Sort.insInner lt a j d2=Sort.insInner lt a i d1∧RowC enc 71 w g rest d2 wr)
   case atStart=>exact ⟨i,d1,n'r _,rfl,rfl,hd1,rfl,hr.out⟩
   case round =>
    obtain ⟨j,d2,hj,hmj,rfl,hd2,he2,hr2⟩:=hrel
    obtain ⟨w2,rfl⟩:∃ x:World,x=wr:=⟨_,rfl⟩
    replace hmj:=h'd hmj
    by_cases hja:a<j
    ·obtain ⟨k,rfl⟩:∃ k,j=k+1:=⟨j-1,by omega⟩
     have dja:decide ((a:Int)<(k:Int)+1)=true:=d't (by omega)
     have i1:(k:Int)+1<(n:Int):=by omega
     have i2:(0:Int)≤(k:Int)+1:=by omega
     have i3:(k:Int)<(n:Int):=by omega
     have iw:IntKind.i64.wrap (k:Int)=(k:Int):=IntWalk.i64_in _ (by omega)
     have c1:=hr2.load E.out wRowT (i:=k+1) (by omega)
     have c0:=hr2.load E.out wRowT (i:=k) (by omega)
     replace hr2:=h'd hr2
     cases hlt:lt d2[k+1]! d2[k]! with
     | true =>
      have he3:Sort.insInner lt a k (Sort.swp d2 (k+1) k)=Sort.insInner lt a i d1:=by
       rw[←he2]
       conv=>rhs;unfold Sort.insInner
       rw[if_pos (by simp[hlt];omega)]
      replace he3:=h'd he3
      replace hlt:=h'd hlt
      clear he2
      go_wp2_with fail
      refine wp_region_still_tail 14 (by kernel_rfl) (by kernel_rfl) ?_
      simp only[List.take_succ_cons,List.take_zero,List.drop_succ_cons,List.drop_zero]
      repeat (first | (refine wpStill_load rfl 71 _ rfl _ (c1 _ rfl) ?_;try simp only[Act.put,s'a,s'z,s's]) | (refine wpStill_load rfl 71 _ rfl _ (c0 _ rfl) ?_;try simp only[Act.put,s'a,s'z,s's]) | still_step)
      refine wpStill_nil ?_
      go_upto_region 6 with (refine c'm (HC.out _ _ _) ?_;rintro e w3 ⟨c,rfl,hc,hB3⟩;rw[hlt.out] at hc;have hcp:c<0:=of_decide_eq_true hc)
      have hr3:=hr2.out.drew.call hB3
      have hsz:=h'd ((Sort.size_swp d2 (k+1) k).trans hd2)
      clear c1 c0 hc hcp hB3 dja
      have c1:=hr3.drew.load E.out wRowT (i:=k+1) (by omega)
      have c0:=hr3.drew.load E.out wRowT (i:=k) (by omega)
      obtain ⟨W1,W2,s1,s2,hsw⟩:=hr3.drew.swp E.out wRowT (i:=k+1) (j:=k) (by omega) (by omega)
      replace hsw:=h'd hsw
      clear hr3
      have e1:=c1 _ rfl
      have e0:=c0 _ rfl
      clear c1 c0
      generalize (enc d2[k+1]!).toArray=x1 at *
      generalize (enc d2[k]!).toArray=x0 at *
      refine wp_region_swp 15 17 [some 37,some 38,some 39,some 40,some 41,some 42,some 43,some 44,some 45,some 46,some 47,some 48,some 49,some 50,some 51,none,some 52,none] [.slice (some ⟨g,0,none⟩) n cap,.int .i64 ((k:Int)+1),.slice (some ⟨g,0,none⟩) n cap,.int .i64 ((k:Int)+1),.int .i64 k,.slice (some ⟨g,0,none⟩) n cap,.int .i64 ((k:Int)+1),.int .i64 k,.pointer (some ⟨g,k*9,none⟩),.agg x0,.slice (some ⟨g,0,none⟩) n cap,.int .i64 ((k:Int)+1),.pointer (some ⟨g,(k+1)*9,none⟩),.agg x1,.pointer (some ⟨g,(k+1)*9,none⟩),undef,.pointer (some ⟨g,k*9,none⟩),undef] W1 W2 ?A ?hA (by kernel_rfl) rfl (by kernel_rfl) (by kernel_rfl) (by kernel_rfl) ?hrun 71 71 (.tmp 51) (.tmp 46) (.tmp 52) (.tmp 50) rfl rfl ?h1 ?h2 ?hf
      case hA=>simp only[putL,Act.put,s'a,s'z,s's];rfl
      case h1=>exact s1
      case h2=>exact s2
      case hrun =>
       simp only[RunL,RunOp]
       refine ⟨?_,?_,?_,?_,?_,?_,?_,?_,?_,?_,?_,?_,?_,?_,?_,?_,?_,?_,?_⟩
       all_goals first | exact e0 | exact e1 | trivial | (intro W;go_simp)
      go_wp2
      go_roundg k
      case measure=>have:=hmj.out;omega
      case rel=>exact ⟨k,Sort.swp d2 (k+1) k,by omega,rfl,by go_num,hsz.out,he3.out,hsw.out⟩
     | false =>
      have he3:d2=Sort.insInner lt a i d1:=by
       rw[←he2]
       unfold Sort.insInner
       rw[if_neg (by simp[hlt])]
      replace he3:=h'd he3
      replace hlt:=h'd hlt
      clear he2
      go_wp2_with fail
      refine wp_region_still_tail 14 (by kernel_rfl) (by kernel_rfl) ?_
      simp only[List.take_succ_cons,List.take_zero,List.drop_succ_cons,List.drop_zero]
      repeat (first | (refine wpStill_load rfl 71 _ rfl _ (c1 _ rfl) ?_;try simp only[Act.put,s'a,s'z,s's]) | (refine wpStill_load rfl 71 _ rfl _ (c0 _ rfl) ?_;try simp only[Act.put,s'a,s'z,s's]) | still_step)
      refine wpStill_nil ?_
      go_wp2_with (refine c'm (HC.out _ _ _) ?_;rintro e w3 ⟨c,rfl,hc,hB3⟩;rw[hlt.out] at hc;have hcp:¬ c<0:=of_decide_eq_false hc;have hr3:=hr2.out.drew.call hB3)
      go_roundg (b-(i+1))
      case measure=>omega
      case rel=>exact ⟨i+1,d2,by omega,rfl,by go_num,hd2,by rw[←he'.out,←he3.out],hr3⟩
    ·have dja:decide ((a:Int)<(j:Int))=false:=d'f (by omega)
     have he3:d2=Sort.insInner lt a i d1:=by
      rw[←he2]
      cases j with
      | zero=>rfl
      | succ k =>
       unfold Sort.insInner
       rw[if_neg (by simp;omega)]
     replace he3:=h'd he3
     replace hr2:=h'd hr2
     clear he2
     go_wp2_with fail
     go_quiet (fail)
     go_wp2_with fail
     go_roundg (b-(i+1))
     case measure=>omega
     case rel=>exact ⟨i+1,d2,by omega,rfl,by go_num,hd2,by rw[←he'.out,←he3.out],hr2.out.drewN nq⟩
  ·have he':d1=Sort.insertionSort lt d a b:=by
    rw[←he]
    unfold Sort.insOuter
    rw[if_neg hib]
   subst he'
   go_wp2
   go_end0
   exact ⟨rfl,hr⟩
end
end StS
set_option maxRecDepth 100000
namespace StS
section
variable {α:Type} [Inhabited α] {enc:α→List Value} (E:RowE enc 9) {lt:α→α→Bool} {F:FuncId} (HC:CmpF enc lt F)
include E
set_option maxHeartbeats 1000000 in
theorem revC_any (g n cap:Nat) (rest:List Value) (d:Array α) (a b:Nat) (w:World) (h:RowC enc 71 w g rest d w) (hd:d.size=n) (hb1:1≤b) (hb:b≤n) (hn:n≤1099511627776) :
  Calls Tryz.prog 145 #[.slice (some ⟨g,0,none⟩) n cap,.int .i64 a,.int .i64 b,.func (.func F) #[] #[]] w (RowPC enc w g rest (Sort.reverseRange d a b)):=by
 replace E:=h'd E
 have e1:((b:Int)-1)=((b-1:Nat):Int):=by omega
 have e2:IntKind.i64.wrap ((b:Int)-1)=((b-1:Nat):Int):=by rw[e1];exact IntWalk.i64_in _ (by omega)
 go_enter Tryz.func145,Tryz.ntmps145
 go_wp2_with fail
 clear e2
 go_loopg [8,9] (b-1-a) (fun m v u wr=>∃ (i j:Nat) (d1:Array α),a≤i∧j≤b-1∧m=j-i∧v=.int .i64 i∧u=.int .i64 j∧d1.size=n∧Sort.reverseLoop i j d1=Sort.reverseRange d a b∧RowC enc 71 w g rest d1 wr)
 case atStart=>exact ⟨a,b-1,d,n'r _,n'r _,rfl,rfl,rfl,hd,rfl,h⟩
 case round =>
  obtain ⟨i,j,d1,hi,hj,hm,rfl,rfl,hd1,he,hr⟩:=hrel
  obtain ⟨w1,rfl⟩:∃ x:World,x=wr:=⟨_,rfl⟩
  replace hm:=h'd hm
  clear h e1
  by_cases hij:i<j
  ·have he':Sort.reverseLoop (i+1) (j-1) (Sort.swp d1 i j)=Sort.reverseRange d a b:=by
    rw[←he]
    conv=>rhs;unfold Sort.reverseLoop
    rw[if_pos hij]
   have i1:(i:Int)<(n:Int):=by omega
   have i2:(j:Int)<(n:Int):=by omega
   have i3:(i:Int)<(j:Int):=by omega
   have ej:((j:Int)-1)=((j-1:Nat):Int):=by omega
   replace he':=h'd he'
   replace ej:=h'd ej
   clear he
   go_upto_region 3 with fail
   obtain ⟨W1,W2,s1,s2,hsw⟩:=hr.drew.swp E.out wRowT (i:=i) (j:=j) (by omega) (by omega)
   have e1:=hr.drew.load E.out wRowT (i:=j) (by omega) _ rfl
   have e0:=hr.drew.load E.out wRowT (i:=i) (by omega) _ rfl
   have hsz:=Sort.size_swp d1 i j
   replace hsw:=h'd hsw
   replace hsz:=h'd hsz
   clear hr
   generalize (enc d1[i]!).toArray=xa at *
   generalize (enc d1[j]!).toArray=xb at *
   refine wp_region_swp 13 15 [some 16,some 17,some 18,some 19,some 20,some 21,some 22,some 23,some 24,some 25,some 26,some 27,some 28,none,some 29,none] [.slice (some ⟨g,0,none⟩) n cap,.int .i64 i,.slice (some ⟨g,0,none⟩) n cap,.int .i64 j,.slice (some ⟨g,0,none⟩) n cap,.int .i64 j,.pointer (some ⟨g,j*9,none⟩),.agg xb,.slice (some ⟨g,0,none⟩) n cap,.int .i64 i,.pointer (some ⟨g,i*9,none⟩),.agg xa,.pointer (some ⟨g,i*9,none⟩),undef,.pointer (some ⟨g,j*9,none⟩),undef] W1 W2 ?A ?hA (by kernel_rfl) rfl (by kernel_rfl) (by kernel_rfl) (by kernel_rfl) ?hrun 71 71 (.tmp 28) (.tmp 23) (.tmp 29) (.tmp 27) rfl rfl ?h1 ?h2 ?hf
   case hA=>simp only[putL,Act.put,s'a,s'z,s's];rfl
   case h1=>exact s1
   case h2=>exact s2
   case hrun =>
    simp only[RunL,RunOp]
    refine ⟨?_,?_,?_,?_,?_,?_,?_,?_,?_,?_,?_,?_,?_,?_,?_,?_,?_⟩
    all_goals first | exact e0 | exact e1 | trivial | (intro W;go_simp)
   clear s1 s2 e0 e1
   go_wp2
   go_roundg (j-1-(i+1))
   case measure=>have:=hm.out;omega
   case rel=>exact ⟨i+1,j-1,Sort.swp d1 i j,by omega,by omega,rfl,by go_num,by rw[←ej.out],by rw[hsz.out];exact hd1,he'.out,hsw.out⟩
  ·have he':d1=Sort.reverseRange d a b:=by
    rw[←he]
    unfold Sort.reverseLoop
    rw[if_neg hij]
   have i3:¬ (i:Int)<(j:Int):=by omega
   subst he'
   go_wp2
   go_end0
   exact ⟨rfl,hr⟩
structure SwC (enc:α→List Value) (w0:World) (g:Nat) (rest:List Value) (d:Array α) (sb s:Nat) (w:World):Prop where
 row:RowC enc 71 w0 g rest d w
 cnt:Blk w sb 3 #[.int .i64 s]
omit E [Inhabited α] in
theorem SwC.drew {w0 w:World} {g sb s:Nat} {rest:List Value} {d:Array α} (h:SwC enc w0 g rest d sb s w):SwC enc w0 g rest d sb s w.drew:=⟨h.row.drew,h.cnt⟩
omit E [Inhabited α] in
theorem SwC.call {w0 w w':World} {g sb s:Nat} {rest:List Value} {d:Array α} (h:SwC enc w0 g rest d sb s w) (hb:Below w.heap.size w w'):SwC enc w0 g rest d sb s w':=⟨h.row.call hb,h.cnt.below hb h.cnt.lt⟩
include HC
theorem order2C_any (w0:World) (g n cap:Nat) (rest:List Value) (d:Array α) (sb s a b:Nat) (w:World) (h:SwC enc w0 g rest d sb s w) (hg:g<w0.heap.size) (hsb:w0.heap.size≤sb) (hd:d.size=n) (ha:a<n) (hb:b<n) (_hn:n≤1099511627776) (hs:s≤1000) :
  Calls Tryz.prog 191 #[.slice (some ⟨g,0,none⟩) n cap,.int .i64 a,.int .i64 b,.pointer (some ⟨sb,0,none⟩),.func (.func F) #[] #[]] w fun e w' =>
   e=.returned (.tuple #[.int .i64 (Sort.order2 lt d a b s).1,.int .i64 (Sort.order2 lt d a b s).2.1])∧SwC enc w0 g rest d sb (Sort.order2 lt d a b s).2.2 w':=by
 have hEF:=HC.enters
 replace HC:=h'd HC.call
 have ca:=h.row.load E wRowT (i:=a) (by omega)
 have cb:=h.row.load E wRowT (i:=b) (by omega)
 have i1:(a:Int)<(n:Int):=by omega
 have i2:(b:Int)<(n:Int):=by omega
 replace h:=h'd h
 cases hlt:lt d[b]! d[a]! with
 | true =>
  rw[show Sort.order2 lt d a b s=(b,a,s+1) by unfold Sort.order2;rw[if_pos hlt]]
  replace hlt:=h'd hlt
  generalize d[b]! = x1 at *
  generalize d[a]! = x0 at *
  go_enter Tryz.func191,Tryz.ntmps191
  go_wp2_with fail
  refine wp_region_still_tail 9 (by kernel_rfl) (by kernel_rfl) ?_
  simp only[List.take_succ_cons,List.take_zero,List.drop_succ_cons,List.drop_zero]
  repeat (first | (refine wpStill_load rfl 71 _ rfl _ (cb _ rfl) ?_;try simp only[Act.put,s'a,s'z,s's]) | (refine wpStill_load rfl 71 _ rfl _ (ca _ rfl) ?_;try simp only[Act.put,s'a,s'z,s's]) | still_step)
  refine wpStill_nil ?_
  go_wp2_with (refine c'm (HC.out _ _ _) ?_;rintro e w3 ⟨c,rfl,hc,hB3⟩;rw[hlt.out] at hc;have hcp:c<0:=of_decide_eq_true hc;have h3:=h.out.drew.call hB3;have s0:=h3.cnt.cell 0;have t0:=h3.cnt.free 0;simp only[q'a,q'z] at s0;have hfar:=h'd (h3.row.far (p:=⟨sb,0,none⟩) hsb hg (.int .i64 ((s:Int)+1)));have hset:=h'd (h3.cnt.set_ 0 (.int .i64 ((s:Int)+1))))
  refine bodyPost_ret (results_tmp2 rfl _ _ _) rfl ?_
  exact ⟨rfl,⟨hfar.out,hset.out⟩⟩
 | false =>
  rw[show Sort.order2 lt d a b s=(a,b,s) by unfold Sort.order2;rw[if_neg (by simp[hlt])]]
  replace hlt:=h'd hlt
  generalize d[b]! = x1 at *
  generalize d[a]! = x0 at *
  go_enter Tryz.func191,Tryz.ntmps191
  go_wp2_with fail
  refine wp_region_still_tail 9 (by kernel_rfl) (by kernel_rfl) ?_
  simp only[List.take_succ_cons,List.take_zero,List.drop_succ_cons,List.drop_zero]
  repeat (first | (refine wpStill_load rfl 71 _ rfl _ (cb _ rfl) ?_;try simp only[Act.put,s'a,s'z,s's]) | (refine wpStill_load rfl 71 _ rfl _ (ca _ rfl) ?_;try simp only[Act.put,s'a,s'z,s's]) | still_step)
  refine wpStill_nil ?_
  go_wp2_with (refine c'm (HC.out _ _ _) ?_;rintro e w3 ⟨c,rfl,hc,hB3⟩;rw[hlt.out] at hc;have hcp:¬ c<0:=of_decide_eq_false hc;have h3:=h'd (h.out.drew.call hB3))
  refine bodyPost_ret (results_tmp2 rfl _ _ _) rfl ?_
  exact ⟨rfl,h3.out⟩
omit E HC in
theorem order2C_in {d:Array α} {a b s n:Nat} (ha:a<n) (hb:b<n):(Sort.order2 lt d a b s).1<n∧(Sort.order2 lt d a b s).2.1<n∧(Sort.order2 lt d a b s).2.2≤s+1:=by
 unfold Sort.order2
 split <;> simp <;> omega
theorem medianC_any (w0:World) (g n cap:Nat) (rest:List Value) (d:Array α) (sb s a b c:Nat) (w:World) (h:SwC enc w0 g rest d sb s w) (hg:g<w0.heap.size) (hsb:w0.heap.size≤sb) (hd:d.size=n) (ha:a<n) (hb:b<n) (hc:c<n) (hn:n≤1099511627776) (hs:s≤900) :
  Calls Tryz.prog 183 #[.slice (some ⟨g,0,none⟩) n cap,.int .i64 a,.int .i64 b,.int .i64 c,.pointer (some ⟨sb,0,none⟩),.func (.func F) #[] #[]] w fun e w' =>
   e=.returned (.int .i64 (Sort.median lt d a b c s).1)∧SwC enc w0 g rest d sb (Sort.median lt d a b c s).2 w':=by
 obtain ⟨r1,hr1⟩:∃ r,r=Sort.order2 lt d a b s:=⟨_,rfl⟩
 obtain ⟨r2,hr2⟩:∃ r,r=Sort.order2 lt d r1.2.1 c r1.2.2:=⟨_,rfl⟩
 obtain ⟨r3,hr3⟩:∃ r,r=Sort.order2 lt d r1.1 r2.1 r2.2.2:=⟨_,rfl⟩
 have hm:Sort.median lt d a b c s=(r3.2.1,r3.2.2):=by
  rw[hr3,hr2,hr1]
  rfl
 rw[hm]
 obtain ⟨l1,l2,l3⟩:=order2C_in (lt:=lt) (d:=d) (s:=s) ha hb
 rw[←hr1] at l1 l2 l3
 obtain ⟨m1,m2,m3⟩:=order2C_in (lt:=lt) (d:=d) (s:=r1.2.2) l2 hc
 rw[←hr2] at m1 m2 m3
 have C1:=order2C_any E HC w0 g n cap rest d sb s a b w h hg hsb hd ha hb hn (by omega)
 rw[←hr1] at C1
 have C2:=fun w h=>order2C_any E HC w0 g n cap rest d sb r1.2.2 r1.2.1 c w h hg hsb hd l2 hc hn (by omega)
 rw[←hr2] at C2
 have C3:=fun w h=>order2C_any E HC w0 g n cap rest d sb r2.2.2 r1.1 r2.1 w h hg hsb hd l1 m1 hn (by omega)
 rw[←hr3] at C3
 replace C1:=h'd C1
 replace C2:=h'd C2
 replace C3:=h'd C3
 clear hr1 hr2 hr3 hm h E HC
 obtain ⟨r11,r12,r13⟩:=r1
 obtain ⟨r21,r22,r23⟩:=r2
 obtain ⟨r31,r32,r33⟩:=r3
 go_enter Tryz.func183,Tryz.ntmps183
 go_upto_region 2 with (go_at_call 191;refine c'm C1.out ?_;rintro e w1 ⟨rfl,h1⟩)
 go_upto_region 3 with (go_at_call 191;refine c'm (C2.out w1 h1) ?_;rintro e w2 ⟨rfl,h2⟩)
 go_wp2_with (go_at_call 191;refine c'm (C3.out w2 h2) ?_;rintro e w3 ⟨rfl,h3⟩)
 go_ret
 exact ⟨rfl,h3⟩
omit E HC in
theorem medianC_in {d:Array α} {a b c s n:Nat} (ha:a<n) (hb:b<n) (hc:c<n):(Sort.median lt d a b c s).1<n∧(Sort.median lt d a b c s).2≤s+3:=by
 unfold Sort.median
 obtain ⟨l1,l2,l3⟩:=order2C_in (lt:=lt) (d:=d) (s:=s) ha hb
 obtain ⟨m1,m2,m3⟩:=order2C_in (lt:=lt) (d:=d) (s:=(Sort.order2 lt d a b s).2.2) l2 hc
 obtain ⟨n1,n2,n3⟩:=order2C_in (lt:=lt) (d:=d) (s:=(Sort.order2 lt d (Sort.order2 lt d a b s).2.1 c (Sort.order2 lt d a b s).2.2).2.2) l1 m1
 exact ⟨n2,by simp only;omega⟩
theorem medadjC_any (w0:World) (g n cap:Nat) (rest:List Value) (d:Array α) (sb s a:Nat) (w:World) (h:SwC enc w0 g rest d sb s w) (hg:g<w0.heap.size) (hsb:w0.heap.size≤sb) (hd:d.size=n) (ha:1≤a) (hb:a+1<n) (hn:n≤1099511627776) (hs:s≤900) :
  Calls Tryz.prog 182 #[.slice (some ⟨g,0,none⟩) n cap,.int .i64 a,.pointer (some ⟨sb,0,none⟩),.func (.func F) #[] #[]] w fun e w' =>
   e=.returned (.int .i64 (Sort.medianAdjacent lt d a s).1)∧SwC enc w0 g rest d sb (Sort.medianAdjacent lt d a s).2 w':=by
 have C:=medianC_any E HC w0 g n cap rest d sb s (a-1) a (a+1) w h hg hsb hd (by omega) (by omega) hb hn hs
 rw[show ((a-1:Nat):Int)=(a:Int)-1 by omega,show ((a+1:Nat):Int)=(a:Int)+1 by omega] at C
 replace C:=h'd C
 clear E HC h
 have iw:IntKind.i64.wrap ((a:Int)-1)=(a:Int)-1:=IntWalk.i64_in _ (by omega)
 go_enter Tryz.func182,Tryz.ntmps182
 go_wp2_with (go_at_call 183;refine c'm C.out ?_;rintro e w1 ⟨rfl,h1⟩)
 go_ret
 exact ⟨rfl,h1⟩
end
end StS
set_option maxRecDepth 100000
namespace StS
theorem wrap64_in (z:Int) (h:-9223372036854775808≤z∧z<9223372036854775808):wrap64 z=z:=by
 unfold wrap64
 omega
theorem wrap64_nat (x:Nat) (h:x<4611686018427387904):wrap64 (x:Int)=(x:Int):=wrap64_in _ (by omega)
def hintC:Sort.Hint→Int
 | .unknown=>0
 | .increasing=>1
 | .decreasing=>2
section
variable {α:Type} [Inhabited α] {enc:α→List Value} (E:RowE enc 9) {lt:α→α→Bool} {F:FuncId} (HC:CmpF enc lt F)
include E HC
set_option maxHeartbeats 1000000 in
theorem chooseC_any (g n cap:Nat) (rest:List Value) (d:Array α) (a b:Nat) (w:World) (h:RowC enc 71 w g rest d w) (hd:d.size=n) (hl:12<b-a) (hb:b≤n) (hn:n≤1099511627776) :
  Calls Tryz.prog 144 #[.slice (some ⟨g,0,none⟩) n cap,.int .i64 a,.int .i64 b,.func (.func F) #[] #[]] w fun e w' =>
   e=.returned (.tuple #[.int .i64 (Sort.choosePivot lt d a b).1,.int .i64 (hintC (Sort.choosePivot lt d a b).2)])∧RowC enc 71 w g rest d w':=by
 have hg:g<w.heap.size:=h.blk.lt
 have h1:SwC enc w g rest d w.heap.size 0 (w.alloc (.cells #[.int .i64 0] 3)):=⟨h.alloc _,Blk.new _ _ _⟩
 obtain ⟨l,hle⟩:∃ l,l=b-a:=⟨_,rfl⟩
 obtain ⟨q,hq⟩:∃ q,q=l / 4:=⟨_,rfl⟩
 have el:(b:Int)-(a:Int)=(l:Int):=by omega
 have ew:IntKind.i64.wrap (l:Int)=(l:Int):=IntWalk.i64_in _ (by omega)
 have eq4:Int.tdiv (l:Int) 4=(q:Int):=by rw[hq,Int.tdiv_eq_ediv_of_nonneg (by omega)];omega
 have ei:Sort.choosePivot lt d a b=(let r:=(if l≥50 then
    let ri:=Sort.medianAdjacent lt d (a+q*1) 0
    let rj:=Sort.medianAdjacent lt d (a+q*2) ri.2
    let rk:=Sort.medianAdjacent lt d (a+q*3) rj.2
    Sort.median lt d ri.1 rj.1 rk.1 rk.2
   else Sort.median lt d (a+q*1) (a+q*2) (a+q*3) 0);(r.1,if r.2=0 then Sort.Hint.increasing else if r.2=12 then .decreasing else .unknown)):=by
  unfold Sort.choosePivot
  simp only
  rw[←hle,←hq,if_pos (show l≥8 by omega)]
 rw[ei]
 clear ei
 obtain ⟨x1,hx1⟩:∃ x,x=a+q*1:=⟨_,rfl⟩
 obtain ⟨x2,hx2⟩:∃ x,x=a+q*2:=⟨_,rfl⟩
 obtain ⟨x3,hx3⟩:∃ x,x=a+q*3:=⟨_,rfl⟩
 rw[←hx1,←hx2,←hx3]
 have lx:a≤x1∧x1+1<n∧x2+1<n∧x3+1<n∧(50≤l→1≤x1∧1≤x2∧1≤x3):=by omega
 have s1:(a:Int)+(q:Int)=(x1:Int):=by omega
 have s2:(a:Int)+(q:Int)*2=(x2:Int):=by omega
 have s3:(a:Int)+(q:Int)*3=(x3:Int):=by omega
 have bx1:x1<4611686018427387904:=by omega
 have bx2:x2<4611686018427387904:=by omega
 have bx3:x3<4611686018427387904:=by omega
 have bq0:q<4611686018427387904:=by omega
 have bq2:-9223372036854775808≤(q:Int)*2∧(q:Int)*2<9223372036854775808:=by omega
 have bq3:-9223372036854775808≤(q:Int)*3∧(q:Int)*3<9223372036854775808:=by omega
 have p0:wrap64 (q:Int)=(q:Int):=wrap64_nat q bq0
 have p1:wrap64 ((a:Int)+(q:Int))=(x1:Int):=by rw[s1];exact wrap64_nat x1 bx1
 have p22:wrap64 ((q:Int)*2)=(q:Int)*2:=wrap64_in _ bq2
 have p2:wrap64 ((a:Int)+(q:Int)*2)=(x2:Int):=by rw[s2];exact wrap64_nat x2 bx2
 have p33:wrap64 ((q:Int)*3)=(q:Int)*3:=wrap64_in _ bq3
 have p3:wrap64 ((a:Int)+(q:Int)*3)=(x3:Int):=by rw[s3];exact wrap64_nat x3 bx3
 clear s1 s2 s3 bx1 bx2 bx3 bq0 bq2 bq3
 clear hx1 hx2 hx3 hq
 by_cases h50:50≤l
 ·rw[if_pos h50]
  obtain ⟨_,b1,b2,b3,b4⟩:=lx
  obtain ⟨b5,b6,b7⟩:=b4 h50
  have i1:(50:Int)≤(l:Int):=by clear p0 p1 p2 p3 p22 p33;omega
  have i2:(8:Int)≤(l:Int):=by clear p0 p1 p2 p3 p22 p33;omega
  replace p0:=h'd p0
  replace p1:=h'd p1
  replace p2:=h'd p2
  replace p3:=h'd p3
  replace p22:=h'd p22
  replace p33:=h'd p33
  obtain ⟨r1,hr1⟩:∃ r,r=Sort.medianAdjacent lt d x1 0:=⟨_,rfl⟩
  obtain ⟨r2,hr2⟩:∃ r,r=Sort.medianAdjacent lt d x2 r1.2:=⟨_,rfl⟩
  obtain ⟨r3,hr3⟩:∃ r,r=Sort.medianAdjacent lt d x3 r2.2:=⟨_,rfl⟩
  obtain ⟨R,hR⟩:∃ r,r=Sort.median lt d r1.1 r2.1 r3.1 r3.2:=⟨_,rfl⟩
  have hm:(let ri:=Sort.medianAdjacent lt d x1 0
    let rj:=Sort.medianAdjacent lt d x2 ri.2
    let rk:=Sort.medianAdjacent lt d x3 rj.2
    Sort.median lt d ri.1 rj.1 rk.1 rk.2)=R:=by rw[hR,hr3,hr2,hr1]
  rw[hm]
  have l1:=medianC_in (lt:=lt) (d:=d) (a:=x1-1) (b:=x1) (c:=x1+1) (s:=0) (n:=n) (by omega) (by omega) (by omega)
  have e1:Sort.medianAdjacent lt d x1 0=Sort.median lt d (x1-1) x1 (x1+1) 0:=rfl
  rw[←e1,←hr1] at l1
  have l2:=medianC_in (lt:=lt) (d:=d) (a:=x2-1) (b:=x2) (c:=x2+1) (s:=r1.2) (n:=n) (by omega) (by omega) (by omega)
  have e2:Sort.medianAdjacent lt d x2 r1.2=Sort.median lt d (x2-1) x2 (x2+1) r1.2:=rfl
  rw[←e2,←hr2] at l2
  have l3:=medianC_in (lt:=lt) (d:=d) (a:=x3-1) (b:=x3) (c:=x3+1) (s:=r2.2) (n:=n) (by omega) (by omega) (by omega)
  have e3:Sort.medianAdjacent lt d x3 r2.2=Sort.median lt d (x3-1) x3 (x3+1) r2.2:=rfl
  rw[←e3,←hr3] at l3
  have C1:=medadjC_any E HC w g n cap rest d w.heap.size 0 x1 _ h1 hg (n'r _) hd b5 b1 hn (by omega)
  rw[←hr1] at C1
  have C2:=fun w1 h=>medadjC_any E HC w g n cap rest d w.heap.size r1.2 x2 w1 h hg (n'r _) hd b6 b2 hn (by omega)
  rw[←hr2] at C2
  have C3:=fun w1 h=>medadjC_any E HC w g n cap rest d w.heap.size r2.2 x3 w1 h hg (n'r _) hd b7 b3 hn (by omega)
  rw[←hr3] at C3
  have C4:=fun w1 h=>medianC_any E HC w g n cap rest d w.heap.size r3.2 r1.1 r2.1 r3.1 w1 h hg (n'r _) hd l1.1 l2.1 l3.1 hn (by omega)
  rw[←hR] at C4
  replace C1:=h'd C1
  replace C2:=h'd C2
  replace C3:=h'd C3
  replace C4:=h'd C4
  clear E HC hr1 hr2 hr3 hR hm hle h h1 e1 e2 e3 l1 l2 l3
  obtain ⟨r11,r12⟩:=r1
  obtain ⟨r21,r22⟩:=r2
  obtain ⟨r31,r32⟩:=r3
  replace p0:=p0.out
  replace p1:=p1.out
  replace p2:=p2.out
  replace p3:=p3.out
  replace p22:=p22.out
  replace p33:=p33.out
  go_enter Tryz.func144,Tryz.ntmps144
  go_upto_region 9 with (go_at_call 182;refine c'm C1.out ?_;rintro e w1 ⟨rfl,h1⟩)
  clear p0 p1 p2 p3 p22 p33
  go_upto_region 10 with (go_at_call 182;refine c'm (C2.out w1 h1) ?_;rintro e w2 ⟨rfl,h2⟩)
  go_upto_region 11 with (go_at_call 182;refine c'm (C3.out w2 h2) ?_;rintro e w3 ⟨rfl,h3⟩)
  go_upto_region 12 with (go_at_call 183;refine c'm (C4.out w3 h3) ?_;rintro e w4 ⟨rfl,h4⟩)
  clear C1 C2 C3 C4
  obtain ⟨m1,m2⟩:=R
  have s0:=h4.cnt.cell 0
  simp only[q'a,q'z] at s0
  have hrow:=h'd h4.row
  clear h4
  by_cases h0:m2=0
  ·subst h0
   go_wp2_with fail
   refine bodyPost_ret (results_tmp2 rfl _ _ _) rfl ?_
   exact ⟨rfl,hrow.out⟩
  ·by_cases h12:m2=12
   ·subst h12
    go_wp2_with fail
    refine bodyPost_ret (results_tmp2 rfl _ _ _) rfl ?_
    exact ⟨rfl,hrow.out⟩
   ·have n0:((m2:Int)==0)=false:=by simpa using h0
    have n12:((m2:Int)==12)=false:=by simp;omega
    go_wp2_with fail
    refine bodyPost_ret (results_tmp2 rfl _ _ _) rfl ?_
    exact ⟨by simp[hintC],hrow.out⟩
 ·rw[if_neg h50]
  obtain ⟨_,b1,b2,b3,_⟩:=lx
  have i1:¬ (50:Int)≤(l:Int):=by clear p0 p1 p2 p3 p22 p33;omega
  have i2:(8:Int)≤(l:Int):=by clear p0 p1 p2 p3 p22 p33;omega
  obtain ⟨R,hR⟩:∃ r,r=Sort.median lt d x1 x2 x3 0:=⟨_,rfl⟩
  have C:=medianC_any E HC w g n cap rest d w.heap.size 0 x1 x2 x3 _ h1 hg (n'r _) hd (by clear p0 p1 p2 p3 p22 p33;omega) (by clear p0 p1 p2 p3 p22 p33;omega) (by clear p0 p1 p2 p3 p22 p33;omega) hn (by omega)
  rw[←hR] at C
  rw[←hR]
  replace C:=h'd C
  clear E HC hR hle h h1
  go_enter Tryz.func144,Tryz.ntmps144
  go_upto_region 12 with (go_at_call 183;refine c'm C.out ?_;rintro e w1 ⟨rfl,h2⟩)
  clear p0 p1 p2 p3 p22 p33 C
  obtain ⟨m1,m2⟩:=R
  have s0:=h2.cnt.cell 0
  simp only[q'a,q'z] at s0
  have hrow:=h'd h2.row
  clear h2
  by_cases h0:m2=0
  ·subst h0
   go_wp2_with fail
   refine bodyPost_ret (results_tmp2 rfl _ _ _) rfl ?_
   exact ⟨rfl,hrow.out⟩
  ·by_cases h12:m2=12
   ·subst h12
    go_wp2_with fail
    refine bodyPost_ret (results_tmp2 rfl _ _ _) rfl ?_
    exact ⟨rfl,hrow.out⟩
   ·have n0:((m2:Int)==0)=false:=by simpa using h0
    have n12:((m2:Int)==12)=false:=by simp;omega
    go_wp2_with fail
    refine bodyPost_ret (results_tmp2 rfl _ _ _) rfl ?_
    exact ⟨by simp[hintC],hrow.out⟩
end
end StS
end Go.Proofs.YtcknpofnpabkiaaGreat
