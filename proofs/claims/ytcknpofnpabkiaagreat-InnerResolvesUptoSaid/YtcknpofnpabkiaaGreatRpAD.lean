/- Rows of structs are sorted (first part). -/
import Derived.Test.YtcknpofnpabkiaaGreatProg
import Derived.BigQuiet
import Derived.BigRegion
import Derived.Test.YtcknpofnpabkiaaGreatRpAC
set_option maxRecDepth 100000
namespace Go.Proofs.YtcknpofnpabkiaaGreat
open Go.RowKit Go.Lo
structure CmpF {α:Type} (enc:α→List Value) (lt:α→α→Bool) (F:FuncId):Prop where
 enters:∀ args w,(callFunc F args).run Tryz.prog w=.ok (.enter F args) w
 call:∀ (x y:α) (W:World),Calls Tryz.prog F #[.agg (enc x).toArray,.agg (enc y).toArray] W fun e W'=>∃ c:Int,e=.returned (.int .i64 c)∧decide (c<0)=lt x y∧Below W.heap.size W W'
theorem wRowT:RowT Tryz.prog 48 10:=⟨⟨_,Tryz.underlying48,rfl⟩,by kernel_rfl⟩
section
variable {α:Type} [Inhabited α] {enc:α→List Value} (E:RowE enc 10) {lt:α→α→Bool} {F:FuncId} (HC:CmpF enc lt F)
def RowPC (enc:α→List Value) (w:World) (g:Nat) (rest:List Value) (d:Array α) (e:Ending) (w':World):Prop:=e=.returned (.tuple #[])∧RowC enc 48 w g rest d w'
include E HC
set_option maxHeartbeats 1000000 in
theorem insC_any (g n cap:Nat) (rest:List Value) (d:Array α) (a b:Nat) (w:World) (h:RowC enc 48 w g rest d w) (hd:d.size=n) (hab:a≤b) (hb:b≤n) (hn:n≤1099511627776) :
  Calls Tryz.prog 166 #[.slice (some ⟨g,0,none⟩) n cap,.int .i64 a,.int .i64 b,.func (.func F) #[] #[]] w (RowPC enc w g rest (Sort.insertionSort lt d a b)):=by
 have hEF:=HC.enters
 replace HC:=h'd HC.call
 replace E:=h'd E
 go_enter Tryz.func166,Tryz.ntmps166
 go_wp2_with fail
 go_loopg [8] (b-(a+1)) (fun m v wr=>∃ (i:Nat) (d1:Array α),a+1≤i∧m=b-i∧v=.int .i64 i∧d1.size=n∧Sort.insOuter lt a b i d1=Sort.insertionSort lt d a b∧RowC enc 48 w g rest d1 wr)
 case atStart=>exact ⟨a+1,d,n'r _,by omega,by go_num,hd,rfl,h⟩
 case round =>
  obtain ⟨i,d1,hi,rfl,rfl,hd1,he,hr⟩:=hrel
  obtain ⟨w1,rfl⟩:∃ x:World,x=wr:=⟨_,rfl⟩
  by_cases hib:i<b
  ·have he':Sort.insOuter lt a b (i+1) (Sort.insInner lt a i d1)=Sort.insertionSort lt d a b:=by
    rw[←he]
    conv=>rhs;unfold Sort.insOuter
    rw[if_pos hib]
   replace he':=h'd he'
   replace hr:=h'd hr
   clear he h
   go_wp2_with fail
   go_loopg [9] i (fun m v wr=>∃ (j:Nat) (d2:Array α),j≤i∧m=j∧v=.int .i64 j∧d2.size=n∧Sort.insInner lt a j d2=Sort.insInner lt a i d1∧RowC enc 48 w g rest d2 wr)
   case atStart=>exact ⟨i,d1,n'r _,rfl,rfl,hd1,rfl,hr.out⟩
   case round =>
    obtain ⟨j,d2,hj,hmj,rfl,hd2,he2,hr2⟩:=hrel
    obtain ⟨w2,rfl⟩:∃ x:World,x=wr:=⟨_,rfl⟩
    replace hmj:=h'd hmj
    by_cases hja:a<j
    ·obtain ⟨k,rfl⟩:∃ k,j=k+1:=⟨j-1,by omega⟩
     have dja:decide ((a:Int)<(k:Int)+1)=true:=d't (by omega)
     have i1:(k:Int)+1<(n:Int):=by omega
     have i2:(0:Int)≤(k:Int)+1:=by omega
     have i3:(k:Int)<(n:Int):=by omega
     have iw:IntKind.i64.wrap (k:Int)=(k:Int):=IntWalk.i64_in _ (by omega)
     have c1:=hr2.load E.out wRowT (i:=k+1) (by omega)
     have c0:=hr2.load E.out wRowT (i:=k) (by omega)
     replace hr2:=h'd hr2
     cases hlt:lt d2[k+1]! d2[k]! with
     | true =>
      have he3:Sort.insInner lt a k (Sort.swp d2 (k+1) k)=Sort.insInner lt a i d1:=by
       rw[←he2]
       conv=>rhs;unfold Sort.insInner
       rw[if_pos (by simp[hlt];omega)]
      replace he3:=h'd he3
      replace hlt:=h'd hlt
      clear he2
      go_wp2_with fail
      refine wp_region_still_tail 14 (by kernel_rfl) (by kernel_rfl) ?_
      simp only[List.take_succ_cons,List.take_zero,List.drop_succ_cons,List.drop_zero]
      repeat (first | (refine wpStill_load rfl 48 _ rfl _ (c1 _ rfl) ?_;try simp only[Act.put,s'a,s'z,s's]) | (refine wpStill_load rfl 48 _ rfl _ (c0 _ rfl) ?_;try simp only[Act.put,s'a,s'z,s's]) | still_step)
      refine wpStill_nil ?_
      go_upto_region 6 with (refine c'm (HC.out _ _ _) ?_;rintro e w3 ⟨c,rfl,hc,hB3⟩;rw[hlt.out] at hc;have hcp:c<0:=of_decide_eq_true hc)
      have hr3:=hr2.out.drew.call hB3
      have hsz:=h'd ((Sort.size_swp d2 (k+1) k).trans hd2)
      clear c1 c0 hc hcp hB3 dja
      have c1:=hr3.drew.load E.out wRowT (i:=k+1) (by omega)
      have c0:=hr3.drew.load E.out wRowT (i:=k) (by omega)
      obtain ⟨W1,W2,s1,s2,hsw⟩:=hr3.drew.swp E.out wRowT (i:=k+1) (j:=k) (by omega) (by omega)
      replace hsw:=h'd hsw
      clear hr3
      have e1:=c1 _ rfl
      have e0:=c0 _ rfl
      clear c1 c0
      generalize (enc d2[k+1]!).toArray=x1 at *
      generalize (enc d2[k]!).toArray=x0 at *
      refine wp_region_swp 15 17 [some 37,some 38,some 39,some 40,some 41,some 42,some 43,some 44,some 45,some 46,some 47,some 48,some 49,some 50,some 51,none,some 52,none] [.slice (some ⟨g,0,none⟩) n cap,.int .i64 ((k:Int)+1),.slice (some ⟨g,0,none⟩) n cap,.int .i64 ((k:Int)+1),.int .i64 k,.slice (some ⟨g,0,none⟩) n cap,.int .i64 ((k:Int)+1),.int .i64 k,.pointer (some ⟨g,k*10,none⟩),.agg x0,.slice (some ⟨g,0,none⟩) n cap,.int .i64 ((k:Int)+1),.pointer (some ⟨g,(k+1)*10,none⟩),.agg x1,.pointer (some ⟨g,(k+1)*10,none⟩),undef,.pointer (some ⟨g,k*10,none⟩),undef] W1 W2 ?A ?hA (by kernel_rfl) rfl (by kernel_rfl) (by kernel_rfl) (by kernel_rfl) ?hrun 48 48 (.tmp 51) (.tmp 46) (.tmp 52) (.tmp 50) rfl rfl ?h1 ?h2 ?hf
      case hA=>simp only[putL,Act.put,s'a,s'z,s's];rfl
      case h1=>exact s1
      case h2=>exact s2
      case hrun =>
       simp only[RunL,RunOp]
       refine ⟨?_,?_,?_,?_,?_,?_,?_,?_,?_,?_,?_,?_,?_,?_,?_,?_,?_,?_,?_⟩
       all_goals first | exact e0 | exact e1 | trivial | (intro W;go_simp)
      go_wp2
      go_roundg k
      case measure=>have:=hmj.out;omega
      case rel=>exact ⟨k,Sort.swp d2 (k+1) k,by omega,rfl,by go_num,hsz.out,he3.out,hsw.out⟩
     | false =>
      have he3:d2=Sort.insInner lt a i d1:=by
       rw[←he2]
       unfold Sort.insInner
       rw[if_neg (by simp[hlt])]
      replace he3:=h'd he3
      replace hlt:=h'd hlt
      clear he2
      go_wp2_with fail
      refine wp_region_still_tail 14 (by kernel_rfl) (by kernel_rfl) ?_
      simp only[List.take_succ_cons,List.take_zero,List.drop_succ_cons,List.drop_zero]
      repeat (first | (refine wpStill_load rfl 48 _ rfl _ (c1 _ rfl) ?_;try simp only[Act.put,s'a,s'z,s's]) | (refine wpStill_load rfl 48 _ rfl _ (c0 _ rfl) ?_;try simp only[Act.put,s'a,s'z,s's]) | still_step)
      refine wpStill_nil ?_
      go_wp2_with (refine c'm (HC.out _ _ _) ?_;rintro e w3 ⟨c,rfl,hc,hB3⟩;rw[hlt.out] at hc;have hcp:¬ c<0:=of_decide_eq_false hc;have hr3:=hr2.out.drew.call hB3)
      go_roundg (b-(i+1))
      case measure=>omega
      case rel=>exact ⟨i+1,d2,by omega,rfl,by go_num,hd2,by rw[←he'.out,←he3.out],hr3⟩
    ·have dja:decide ((a:Int)<(j:Int))=false:=d'f (by omega)
     have he3:d2=Sort.insInner lt a i d1:=by
      rw[←he2]
      cases j with
      | zero=>rfl
      | succ k =>
       unfold Sort.insInner
       rw[if_neg (by simp;omega)]
     replace he3:=h'd he3
     replace hr2:=h'd hr2
     clear he2
     go_wp2_with fail
     go_quiet (fail)
     go_wp2_with fail
     go_roundg (b-(i+1))
     case measure=>omega
     case rel=>exact ⟨i+1,d2,by omega,rfl,by go_num,hd2,by rw[←he'.out,←he3.out],hr2.out.drewN nq⟩
  ·have he':d1=Sort.insertionSort lt d a b:=by
    rw[←he]
    unfold Sort.insOuter
    rw[if_neg hib]
   subst he'
   go_wp2
   go_end0
   exact ⟨rfl,hr⟩
end
section
variable {α:Type} [Inhabited α] {enc:α→List Value} (E:RowE enc 10) {lt:α→α→Bool} {F:FuncId} (HC:CmpF enc lt F)
include E
set_option maxHeartbeats 1000000 in
theorem revC_any (g n cap:Nat) (rest:List Value) (d:Array α) (a b:Nat) (w:World) (h:RowC enc 48 w g rest d w) (hd:d.size=n) (hb1:1≤b) (hb:b≤n) (hn:n≤1099511627776) :
  Calls Tryz.prog 170 #[.slice (some ⟨g,0,none⟩) n cap,.int .i64 a,.int .i64 b,.func (.func F) #[] #[]] w (RowPC enc w g rest (Sort.reverseRange d a b)):=by
 replace E:=h'd E
 have e1:((b:Int)-1)=((b-1:Nat):Int):=by omega
 have e2:IntKind.i64.wrap ((b:Int)-1)=((b-1:Nat):Int):=by rw[e1];exact IntWalk.i64_in _ (by omega)
 go_enter Tryz.func170,Tryz.ntmps170
 go_wp2_with fail
 clear e2
 go_loopg [8,9] (b-1-a) (fun m v u wr=>∃ (i j:Nat) (d1:Array α),a≤i∧j≤b-1∧m=j-i∧v=.int .i64 i∧u=.int .i64 j∧d1.size=n∧Sort.reverseLoop i j d1=Sort.reverseRange d a b∧RowC enc 48 w g rest d1 wr)
 case atStart=>exact ⟨a,b-1,d,n'r _,n'r _,rfl,rfl,rfl,hd,rfl,h⟩
 case round =>
  obtain ⟨i,j,d1,hi,hj,hm,rfl,rfl,hd1,he,hr⟩:=hrel
  obtain ⟨w1,rfl⟩:∃ x:World,x=wr:=⟨_,rfl⟩
  replace hm:=h'd hm
  clear h e1
  by_cases hij:i<j
  ·have he':Sort.reverseLoop (i+1) (j-1) (Sort.swp d1 i j)=Sort.reverseRange d a b:=by
    rw[←he]
    conv=>rhs;unfold Sort.reverseLoop
    rw[if_pos hij]
   have i1:(i:Int)<(n:Int):=by omega
   have i2:(j:Int)<(n:Int):=by omega
   have i3:(i:Int)<(j:Int):=by omega
   have ej:((j:Int)-1)=((j-1:Nat):Int):=by omega
   replace he':=h'd he'
   replace ej:=h'd ej
   clear he
   go_upto_region 3 with fail
   obtain ⟨W1,W2,s1,s2,hsw⟩:=hr.drew.swp E.out wRowT (i:=i) (j:=j) (by omega) (by omega)
   have e1:=hr.drew.load E.out wRowT (i:=j) (by omega) _ rfl
   have e0:=hr.drew.load E.out wRowT (i:=i) (by omega) _ rfl
   have hsz:=Sort.size_swp d1 i j
   replace hsw:=h'd hsw
   replace hsz:=h'd hsz
   clear hr
   generalize (enc d1[i]!).toArray=xa at *
   generalize (enc d1[j]!).toArray=xb at *
   refine wp_region_swp 13 15 [some 16,some 17,some 18,some 19,some 20,some 21,some 22,some 23,some 24,some 25,some 26,some 27,some 28,none,some 29,none] [.slice (some ⟨g,0,none⟩) n cap,.int .i64 i,.slice (some ⟨g,0,none⟩) n cap,.int .i64 j,.slice (some ⟨g,0,none⟩) n cap,.int .i64 j,.pointer (some ⟨g,j*10,none⟩),.agg xb,.slice (some ⟨g,0,none⟩) n cap,.int .i64 i,.pointer (some ⟨g,i*10,none⟩),.agg xa,.pointer (some ⟨g,i*10,none⟩),undef,.pointer (some ⟨g,j*10,none⟩),undef] W1 W2 ?A ?hA (by kernel_rfl) rfl (by kernel_rfl) (by kernel_rfl) (by kernel_rfl) ?hrun 48 48 (.tmp 28) (.tmp 23) (.tmp 29) (.tmp 27) rfl rfl ?h1 ?h2 ?hf
   case hA=>simp only[putL,Act.put,s'a,s'z,s's];rfl
   case h1=>exact s1
   case h2=>exact s2
   case hrun =>
    simp only[RunL,RunOp]
    refine ⟨?_,?_,?_,?_,?_,?_,?_,?_,?_,?_,?_,?_,?_,?_,?_,?_,?_⟩
    all_goals first | exact e0 | exact e1 | trivial | (intro W;go_simp)
   clear s1 s2 e0 e1
   go_wp2
   go_roundg (j-1-(i+1))
   case measure=>have:=hm.out;omega
   case rel=>exact ⟨i+1,j-1,Sort.swp d1 i j,by omega,by omega,rfl,by go_num,by rw[←ej.out],by rw[hsz.out];exact hd1,he'.out,hsw.out⟩
  ·have he':d1=Sort.reverseRange d a b:=by
    rw[←he]
    unfold Sort.reverseLoop
    rw[if_neg hij]
   have i3:¬ (i:Int)<(j:Int):=by omega
   subst he'
   go_wp2
   go_end0
   exact ⟨rfl,hr⟩
structure SwC (enc:α→List Value) (w0:World) (g:Nat) (rest:List Value) (d:Array α) (sb s:Nat) (w:World):Prop where
 row:RowC enc 48 w0 g rest d w
 cnt:Blk w sb 3 #[.int .i64 s]
omit E [Inhabited α] in
theorem SwC.drew {w0 w:World} {g sb s:Nat} {rest:List Value} {d:Array α} (h:SwC enc w0 g rest d sb s w):SwC enc w0 g rest d sb s w.drew:=⟨h.row.drew,h.cnt⟩
omit E [Inhabited α] in
theorem SwC.call {w0 w w':World} {g sb s:Nat} {rest:List Value} {d:Array α} (h:SwC enc w0 g rest d sb s w) (hb:Below w.heap.size w w'):SwC enc w0 g rest d sb s w':=⟨h.row.call hb,h.cnt.below hb h.cnt.lt⟩
include HC
theorem order2C_any (w0:World) (g n cap:Nat) (rest:List Value) (d:Array α) (sb s a b:Nat) (w:World) (h:SwC enc w0 g rest d sb s w) (hg:g<w0.heap.size) (hsb:w0.heap.size≤sb) (hd:d.size=n) (ha:a<n) (hb:b<n) (_hn:n≤1099511627776) (hs:s≤1000) :
  Calls Tryz.prog 194 #[.slice (some ⟨g,0,none⟩) n cap,.int .i64 a,.int .i64 b,.pointer (some ⟨sb,0,none⟩),.func (.func F) #[] #[]] w fun e w' =>
   e=.returned (.tuple #[.int .i64 (Sort.order2 lt d a b s).1,.int .i64 (Sort.order2 lt d a b s).2.1])∧SwC enc w0 g rest d sb (Sort.order2 lt d a b s).2.2 w':=by
 have hEF:=HC.enters
 replace HC:=h'd HC.call
 have ca:=h.row.load E wRowT (i:=a) (by omega)
 have cb:=h.row.load E wRowT (i:=b) (by omega)
 have i1:(a:Int)<(n:Int):=by omega
 have i2:(b:Int)<(n:Int):=by omega
 replace h:=h'd h
 cases hlt:lt d[b]! d[a]! with
 | true =>
  rw[show Sort.order2 lt d a b s=(b,a,s+1) by unfold Sort.order2;rw[if_pos hlt]]
  replace hlt:=h'd hlt
  generalize d[b]! = x1 at *
  generalize d[a]! = x0 at *
  go_enter Tryz.func194,Tryz.ntmps194
  go_wp2_with fail
  refine wp_region_still_tail 9 (by kernel_rfl) (by kernel_rfl) ?_
  simp only[List.take_succ_cons,List.take_zero,List.drop_succ_cons,List.drop_zero]
  repeat (first | (refine wpStill_load rfl 48 _ rfl _ (cb _ rfl) ?_;try simp only[Act.put,s'a,s'z,s's]) | (refine wpStill_load rfl 48 _ rfl _ (ca _ rfl) ?_;try simp only[Act.put,s'a,s'z,s's]) | still_step)
  refine wpStill_nil ?_
  go_wp2_with (refine c'm (HC.out _ _ _) ?_;rintro e w3 ⟨c,rfl,hc,hB3⟩;rw[hlt.out] at hc;have hcp:c<0:=of_decide_eq_true hc;have h3:=h.out.drew.call hB3;have s0:=h3.cnt.cell 0;have t0:=h3.cnt.free 0;simp only[q'a,q'z] at s0;have hfar:=h'd (h3.row.far (p:=⟨sb,0,none⟩) hsb hg (.int .i64 ((s:Int)+1)));have hset:=h'd (h3.cnt.set_ 0 (.int .i64 ((s:Int)+1))))
  refine bodyPost_ret (results_tmp2 rfl _ _ _) rfl ?_
  exact ⟨rfl,⟨hfar.out,hset.out⟩⟩
 | false =>
  rw[show Sort.order2 lt d a b s=(a,b,s) by unfold Sort.order2;rw[if_neg (by simp[hlt])]]
  replace hlt:=h'd hlt
  generalize d[b]! = x1 at *
  generalize d[a]! = x0 at *
  go_enter Tryz.func194,Tryz.ntmps194
  go_wp2_with fail
  refine wp_region_still_tail 9 (by kernel_rfl) (by kernel_rfl) ?_
  simp only[List.take_succ_cons,List.take_zero,List.drop_succ_cons,List.drop_zero]
  repeat (first | (refine wpStill_load rfl 48 _ rfl _ (cb _ rfl) ?_;try simp only[Act.put,s'a,s'z,s's]) | (refine wpStill_load rfl 48 _ rfl _ (ca _ rfl) ?_;try simp only[Act.put,s'a,s'z,s's]) | still_step)
  refine wpStill_nil ?_
  go_wp2_with (refine c'm (HC.out _ _ _) ?_;rintro e w3 ⟨c,rfl,hc,hB3⟩;rw[hlt.out] at hc;have hcp:¬ c<0:=of_decide_eq_false hc;have h3:=h'd (h.out.drew.call hB3))
  refine bodyPost_ret (results_tmp2 rfl _ _ _) rfl ?_
  exact ⟨rfl,h3.out⟩
omit E HC in
theorem order2C_in {d:Array α} {a b s n:Nat} (ha:a<n) (hb:b<n):(Sort.order2 lt d a b s).1<n∧(Sort.order2 lt d a b s).2.1<n∧(Sort.order2 lt d a b s).2.2≤s+1:=by
 unfold Sort.order2
 split <;> simp <;> omega
theorem medianC_any (w0:World) (g n cap:Nat) (rest:List Value) (d:Array α) (sb s a b c:Nat) (w:World) (h:SwC enc w0 g rest d sb s w) (hg:g<w0.heap.size) (hsb:w0.heap.size≤sb) (hd:d.size=n) (ha:a<n) (hb:b<n) (hc:c<n) (hn:n≤1099511627776) (hs:s≤900) :
  Calls Tryz.prog 189 #[.slice (some ⟨g,0,none⟩) n cap,.int .i64 a,.int .i64 b,.int .i64 c,.pointer (some ⟨sb,0,none⟩),.func (.func F) #[] #[]] w fun e w' =>
   e=.returned (.int .i64 (Sort.median lt d a b c s).1)∧SwC enc w0 g rest d sb (Sort.median lt d a b c s).2 w':=by
 obtain ⟨r1,hr1⟩:∃ r,r=Sort.order2 lt d a b s:=⟨_,rfl⟩
 obtain ⟨r2,hr2⟩:∃ r,r=Sort.order2 lt d r1.2.1 c r1.2.2:=⟨_,rfl⟩
 obtain ⟨r3,hr3⟩:∃ r,r=Sort.order2 lt d r1.1 r2.1 r2.2.2:=⟨_,rfl⟩
 have hm:Sort.median lt d a b c s=(r3.2.1,r3.2.2):=by
  rw[hr3,hr2,hr1]
  rfl
 rw[hm]
 obtain ⟨l1,l2,l3⟩:=order2C_in (lt:=lt) (d:=d) (s:=s) ha hb
 rw[←hr1] at l1 l2 l3
 obtain ⟨m1,m2,m3⟩:=order2C_in (lt:=lt) (d:=d) (s:=r1.2.2) l2 hc
 rw[←hr2] at m1 m2 m3
 have C1:=order2C_any E HC w0 g n cap rest d sb s a b w h hg hsb hd ha hb hn (by omega)
 rw[←hr1] at C1
 have C2:=fun w h=>order2C_any E HC w0 g n cap rest d sb r1.2.2 r1.2.1 c w h hg hsb hd l2 hc hn (by omega)
 rw[←hr2] at C2
 have C3:=fun w h=>order2C_any E HC w0 g n cap rest d sb r2.2.2 r1.1 r2.1 w h hg hsb hd l1 m1 hn (by omega)
 rw[←hr3] at C3
 replace C1:=h'd C1
 replace C2:=h'd C2
 replace C3:=h'd C3
 clear hr1 hr2 hr3 hm h E HC
 obtain ⟨r11,r12,r13⟩:=r1
 obtain ⟨r21,r22,r23⟩:=r2
 obtain ⟨r31,r32,r33⟩:=r3
 go_enter Tryz.func189,Tryz.ntmps189
 go_upto_region 2 with (go_at_call 194;refine c'm C1.out ?_;rintro e w1 ⟨rfl,h1⟩)
 go_upto_region 3 with (go_at_call 194;refine c'm (C2.out w1 h1) ?_;rintro e w2 ⟨rfl,h2⟩)
 go_wp2_with (go_at_call 194;refine c'm (C3.out w2 h2) ?_;rintro e w3 ⟨rfl,h3⟩)
 go_ret
 exact ⟨rfl,h3⟩
omit E HC in
theorem medianC_in {d:Array α} {a b c s n:Nat} (ha:a<n) (hb:b<n) (hc:c<n):(Sort.median lt d a b c s).1<n∧(Sort.median lt d a b c s).2≤s+3:=by
 unfold Sort.median
 obtain ⟨l1,l2,l3⟩:=order2C_in (lt:=lt) (d:=d) (s:=s) ha hb
 obtain ⟨m1,m2,m3⟩:=order2C_in (lt:=lt) (d:=d) (s:=(Sort.order2 lt d a b s).2.2) l2 hc
 obtain ⟨n1,n2,n3⟩:=order2C_in (lt:=lt) (d:=d) (s:=(Sort.order2 lt d (Sort.order2 lt d a b s).2.1 c (Sort.order2 lt d a b s).2.2).2.2) l1 m1
 exact ⟨n2,by simp only;omega⟩
theorem medadjC_any (w0:World) (g n cap:Nat) (rest:List Value) (d:Array α) (sb s a:Nat) (w:World) (h:SwC enc w0 g rest d sb s w) (hg:g<w0.heap.size) (hsb:w0.heap.size≤sb) (hd:d.size=n) (ha:1≤a) (hb:a+1<n) (hn:n≤1099511627776) (hs:s≤900) :
  Calls Tryz.prog 188 #[.slice (some ⟨g,0,none⟩) n cap,.int .i64 a,.pointer (some ⟨sb,0,none⟩),.func (.func F) #[] #[]] w fun e w' =>
   e=.returned (.int .i64 (Sort.medianAdjacent lt d a s).1)∧SwC enc w0 g rest d sb (Sort.medianAdjacent lt d a s).2 w':=by
 have C:=medianC_any E HC w0 g n cap rest d sb s (a-1) a (a+1) w h hg hsb hd (by omega) (by omega) hb hn hs
 rw[show ((a-1:Nat):Int)=(a:Int)-1 by omega,show ((a+1:Nat):Int)=(a:Int)+1 by omega] at C
 replace C:=h'd C
 clear E HC h
 have iw:IntKind.i64.wrap ((a:Int)-1)=(a:Int)-1:=IntWalk.i64_in _ (by omega)
 go_enter Tryz.func188,Tryz.ntmps188
 go_wp2_with (go_at_call 189;refine c'm C.out ?_;rintro e w1 ⟨rfl,h1⟩)
 go_ret
 exact ⟨rfl,h1⟩
end
theorem wrap64_in (z:Int) (h:-9223372036854775808≤z∧z<9223372036854775808):wrap64 z=z:=by
 unfold wrap64
 omega
theorem wrap64_nat (x:Nat) (h:x<4611686018427387904):wrap64 (x:Int)=(x:Int):=wrap64_in _ (by omega)
def hintC:Sort.Hint→Int
 | .unknown=>0
 | .increasing=>1
 | .decreasing=>2
section
variable {α:Type} [Inhabited α] {enc:α→List Value} (E:RowE enc 10) {lt:α→α→Bool} {F:FuncId} (HC:CmpF enc lt F)
include E HC
set_option maxHeartbeats 1000000 in
theorem chooseC_any (g n cap:Nat) (rest:List Value) (d:Array α) (a b:Nat) (w:World) (h:RowC enc 48 w g rest d w) (hd:d.size=n) (hl:12<b-a) (hb:b≤n) (hn:n≤1099511627776) :
  Calls Tryz.prog 169 #[.slice (some ⟨g,0,none⟩) n cap,.int .i64 a,.int .i64 b,.func (.func F) #[] #[]] w fun e w' =>
   e=.returned (.tuple #[.int .i64 (Sort.choosePivot lt d a b).1,.int .i64 (hintC (Sort.choosePivot lt d a b).2)])∧RowC enc 48 w g rest d w':=by
 have hg:g<w.heap.size:=h.blk.lt
 have h1:SwC enc w g rest d w.heap.size 0 (w.alloc (.cells #[.int .i64 0] 3)):=⟨h.alloc _,Blk.new _ _ _⟩
 obtain ⟨l,hle⟩:∃ l,l=b-a:=⟨_,rfl⟩
 obtain ⟨q,hq⟩:∃ q,q=l / 4:=⟨_,rfl⟩
 have el:(b:Int)-(a:Int)=(l:Int):=by omega
 have ew:IntKind.i64.wrap (l:Int)=(l:Int):=IntWalk.i64_in _ (by omega)
 have eq4:Int.tdiv (l:Int) 4=(q:Int):=by rw[hq,Int.tdiv_eq_ediv_of_nonneg (by omega)];omega
 have ei:Sort.choosePivot lt d a b=(let r:=(if l≥50 then
    let ri:=Sort.medianAdjacent lt d (a+q*1) 0
    let rj:=Sort.medianAdjacent lt d (a+q*2) ri.2
    let rk:=Sort.medianAdjacent lt d (a+q*3) rj.2
    Sort.median lt d ri.1 rj.1 rk.1 rk.2
   else Sort.median lt d (a+q*1) (a+q*2) (a+q*3) 0);(r.1,if r.2=0 then Sort.Hint.increasing else if r.2=12 then .decreasing else .unknown)):=by
  unfold Sort.choosePivot
  simp only
  rw[←hle,←hq,if_pos (show l≥8 by omega)]
 rw[ei]
 clear ei
 obtain ⟨x1,hx1⟩:∃ x,x=a+q*1:=⟨_,rfl⟩
 obtain ⟨x2,hx2⟩:∃ x,x=a+q*2:=⟨_,rfl⟩
 obtain ⟨x3,hx3⟩:∃ x,x=a+q*3:=⟨_,rfl⟩
 rw[←hx1,←hx2,←hx3]
 have lx:a≤x1∧x1+1<n∧x2+1<n∧x3+1<n∧(50≤l→1≤x1∧1≤x2∧1≤x3):=by omega
 have s1:(a:Int)+(q:Int)=(x1:Int):=by omega
 have s2:(a:Int)+(q:Int)*2=(x2:Int):=by omega
 have s3:(a:Int)+(q:Int)*3=(x3:Int):=by omega
 have bx1:x1<4611686018427387904:=by omega
 have bx2:x2<4611686018427387904:=by omega
 have bx3:x3<4611686018427387904:=by omega
 have bq0:q<4611686018427387904:=by omega
 have bq2:-9223372036854775808≤(q:Int)*2∧(q:Int)*2<9223372036854775808:=by omega
 have bq3:-9223372036854775808≤(q:Int)*3∧(q:Int)*3<9223372036854775808:=by omega
 have p0:wrap64 (q:Int)=(q:Int):=wrap64_nat q bq0
 have p1:wrap64 ((a:Int)+(q:Int))=(x1:Int):=by rw[s1];exact wrap64_nat x1 bx1
 have p22:wrap64 ((q:Int)*2)=(q:Int)*2:=wrap64_in _ bq2
 have p2:wrap64 ((a:Int)+(q:Int)*2)=(x2:Int):=by rw[s2];exact wrap64_nat x2 bx2
 have p33:wrap64 ((q:Int)*3)=(q:Int)*3:=wrap64_in _ bq3
 have p3:wrap64 ((a:Int)+(q:Int)*3)=(x3:Int):=by rw[s3];exact wrap64_nat x3 bx3
 clear s1 s2 s3 bx1 bx2 bx3 bq0 bq2 bq3
 clear hx1 hx2 hx3 hq
 by_cases h50:50≤l
 ·rw[if_pos h50]
  obtain ⟨_,b1,b2,b3,b4⟩:=lx
  obtain ⟨b5,b6,b7⟩:=b4 h50
  have i1:(50:Int)≤(l:Int):=by clear p0 p1 p2 p3 p22 p33;omega
  have i2:(8:Int)≤(l:Int):=by clear p0 p1 p2 p3 p22 p33;omega
  replace p0:=h'd p0
  replace p1:=h'd p1
  replace p2:=h'd p2
  replace p3:=h'd p3
  replace p22:=h'd p22
  replace p33:=h'd p33
  obtain ⟨r1,hr1⟩:∃ r,r=Sort.medianAdjacent lt d x1 0:=⟨_,rfl⟩
  obtain ⟨r2,hr2⟩:∃ r,r=Sort.medianAdjacent lt d x2 r1.2:=⟨_,rfl⟩
  obtain ⟨r3,hr3⟩:∃ r,r=Sort.medianAdjacent lt d x3 r2.2:=⟨_,rfl⟩
  obtain ⟨R,hR⟩:∃ r,r=Sort.median lt d r1.1 r2.1 r3.1 r3.2:=⟨_,rfl⟩
  have hm:(let ri:=Sort.medianAdjacent lt d x1 0
    let rj:=Sort.medianAdjacent lt d x2 ri.2
    let rk:=Sort.medianAdjacent lt d x3 rj.2
    Sort.median lt d ri.1 rj.1 rk.1 rk.2)=R:=by rw[hR,hr3,hr2,hr1]
  rw[hm]
  have l1:=medianC_in (lt:=lt) (d:=d) (a:=x1-1) (b:=x1) (c:=x1+1) (s:=0) (n:=n) (by omega) (by omega) (by omega)
  have e1:Sort.medianAdjacent lt d x1 0=Sort.median lt d (x1-1) x1 (x1+1) 0:=rfl
  rw[←e1,←hr1] at l1
  have l2:=medianC_in (lt:=lt) (d:=d) (a:=x2-1) (b:=x2) (c:=x2+1) (s:=r1.2) (n:=n) (by omega) (by omega) (by omega)
  have e2:Sort.medianAdjacent lt d x2 r1.2=Sort.median lt d (x2-1) x2 (x2+1) r1.2:=rfl
  rw[←e2,←hr2] at l2
  have l3:=medianC_in (lt:=lt) (d:=d) (a:=x3-1) (b:=x3) (c:=x3+1) (s:=r2.2) (n:=n) (by omega) (by omega) (by omega)
  have e3:Sort.medianAdjacent lt d x3 r2.2=Sort.median lt d (x3-1) x3 (x3+1) r2.2:=rfl
  rw[←e3,←hr3] at l3
  have C1:=medadjC_any E HC w g n cap rest d w.heap.size 0 x1 _ h1 hg (n'r _) hd b5 b1 hn (by omega)
  rw[←hr1] at C1
  have C2:=fun w1 h=>medadjC_any E HC w g n cap rest d w.heap.size r1.2 x2 w1 h hg (n'r _) hd b6 b2 hn (by omega)
  rw[←hr2] at C2
  have C3:=fun w1 h=>medadjC_any E HC w g n cap rest d w.heap.size r2.2 x3 w1 h hg (n'r _) hd b7 b3 hn (by omega)
  rw[←hr3] at C3
  have C4:=fun w1 h=>medianC_any E HC w g n cap rest d w.heap.size r3.2 r1.1 r2.1 r3.1 w1 h hg (n'r _) hd l1.1 l2.1 l3.1 hn (by omega)
  rw[←hR] at C4
  replace C1:=h'd C1
  replace C2:=h'd C2
  replace C3:=h'd C3
  replace C4:=h'd C4
  clear E HC hr1 hr2 hr3 hR hm hle h h1 e1 e2 e3 l1 l2 l3
  obtain ⟨r11,r12⟩:=r1
  obtain ⟨r21,r22⟩:=r2
  obtain ⟨r31,r32⟩:=r3
  replace p0:=p0.out
  replace p1:=p1.out
  replace p2:=p2.out
  replace p3:=p3.out
  replace p22:=p22.out
  replace p33:=p33.out
  go_enter Tryz.func169,Tryz.ntmps169
  go_upto_region 9 with (go_at_call 188;refine c'm C1.out ?_;rintro e w1 ⟨rfl,h1⟩)
  clear p0 p1 p2 p3 p22 p33
  go_upto_region 10 with (go_at_call 188;refine c'm (C2.out w1 h1) ?_;rintro e w2 ⟨rfl,h2⟩)
  go_upto_region 11 with (go_at_call 188;refine c'm (C3.out w2 h2) ?_;rintro e w3 ⟨rfl,h3⟩)
  go_upto_region 12 with (go_at_call 189;refine c'm (C4.out w3 h3) ?_;rintro e w4 ⟨rfl,h4⟩)
  clear C1 C2 C3 C4
  obtain ⟨m1,m2⟩:=R
  have s0:=h4.cnt.cell 0
  simp only[q'a,q'z] at s0
  have hrow:=h'd h4.row
  clear h4
  by_cases h0:m2=0
  ·subst h0
   go_wp2_with fail
   refine bodyPost_ret (results_tmp2 rfl _ _ _) rfl ?_
   exact ⟨rfl,hrow.out⟩
  ·by_cases h12:m2=12
   ·subst h12
    go_wp2_with fail
    refine bodyPost_ret (results_tmp2 rfl _ _ _) rfl ?_
    exact ⟨rfl,hrow.out⟩
   ·have n0:((m2:Int)==0)=false:=by simpa using h0
    have n12:((m2:Int)==12)=false:=by simp;omega
    go_wp2_with fail
    refine bodyPost_ret (results_tmp2 rfl _ _ _) rfl ?_
    exact ⟨by simp[hintC],hrow.out⟩
 ·rw[if_neg h50]
  obtain ⟨_,b1,b2,b3,_⟩:=lx
  have i1:¬ (50:Int)≤(l:Int):=by clear p0 p1 p2 p3 p22 p33;omega
  have i2:(8:Int)≤(l:Int):=by clear p0 p1 p2 p3 p22 p33;omega
  obtain ⟨R,hR⟩:∃ r,r=Sort.median lt d x1 x2 x3 0:=⟨_,rfl⟩
  have C:=medianC_any E HC w g n cap rest d w.heap.size 0 x1 x2 x3 _ h1 hg (n'r _) hd (by clear p0 p1 p2 p3 p22 p33;omega) (by clear p0 p1 p2 p3 p22 p33;omega) (by clear p0 p1 p2 p3 p22 p33;omega) hn (by omega)
  rw[←hR] at C
  rw[←hR]
  replace C:=h'd C
  clear E HC hR hle h h1
  go_enter Tryz.func169,Tryz.ntmps169
  go_upto_region 12 with (go_at_call 189;refine c'm C.out ?_;rintro e w1 ⟨rfl,h2⟩)
  clear p0 p1 p2 p3 p22 p33 C
  obtain ⟨m1,m2⟩:=R
  have s0:=h2.cnt.cell 0
  simp only[q'a,q'z] at s0
  have hrow:=h'd h2.row
  clear h2
  by_cases h0:m2=0
  ·subst h0
   go_wp2_with fail
   refine bodyPost_ret (results_tmp2 rfl _ _ _) rfl ?_
   exact ⟨rfl,hrow.out⟩
  ·by_cases h12:m2=12
   ·subst h12
    go_wp2_with fail
    refine bodyPost_ret (results_tmp2 rfl _ _ _) rfl ?_
    exact ⟨rfl,hrow.out⟩
   ·have n0:((m2:Int)==0)=false:=by simpa using h0
    have n12:((m2:Int)==12)=false:=by simp;omega
    go_wp2_with fail
    refine bodyPost_ret (results_tmp2 rfl _ _ _) rfl ?_
    exact ⟨by simp[hintC],hrow.out⟩
end
section
variable {α:Type} [Inhabited α] {enc:α→List Value} (E:RowE enc 10) {lt:α→α→Bool} {F:FuncId} (HC:CmpF enc lt F)
omit [Inhabited α] in
theorem sift_ex [Inhabited α] (hi first r ch:Nat) (d1:Array α) (cb:Bool) (h:¬ hi≤2*r+1) (hcb:cb=(decide (2*r+1+1<hi) && lt d1[first+(2*r+1)]! d1[first+(2*r+2)]!)) (hch:ch=if cb then 2*r+2 else 2*r+1) :
  ch<hi∧Sort.siftDown lt hi first r d1=if lt d1[first+r]! d1[first+ch]! then Sort.siftDown lt hi first ch (Sort.swp d1 (first+r) (first+ch)) else d1:=by
 have e:Sort.siftDown lt hi first r d1=if decide (2*r+1+1<hi) && lt d1[first+(2*r+1)]! d1[first+(2*r+2)]! then
   if !lt d1[first+r]! d1[first+(2*r+2)]! then d1 else if 2*r+2<hi then Sort.siftDown lt hi first (2*r+2) (Sort.swp d1 (first+r) (first+(2*r+2))) else d1
   else if !lt d1[first+r]! d1[first+(2*r+1)]! then d1 else Sort.siftDown lt hi first (2*r+1) (Sort.swp d1 (first+r) (first+(2*r+1))):=by
  conv=>lhs;unfold Sort.siftDown
  rw[dif_neg (by omega)]
  rfl
 rw[e,←hcb]
 cases cb with
 | true =>
  have h2:2*r+2<hi:=by
   have:=hcb.symm
   simp only[Bool.and_eq_true,decide_eq_true_eq] at this
   omega
  simp only[if_true] at hch
  subst hch
  refine ⟨h2,?_⟩
  rw[if_pos rfl,if_pos h2]
  cases lt d1[first+r]! d1[first+(2*r+2)]! <;> simp
 | false =>
  simp only[Bool.false_eq_true,if_false] at hch
  subst hch
  refine ⟨by omega,?_⟩
  rw[if_neg (by simp)]
  cases lt d1[first+r]! d1[first+(2*r+1)]! <;> simp
include E HC
set_option maxHeartbeats 2000000 in
theorem siftC_any (g n cap:Nat) (rest:List Value) (d:Array α) (lo hi first:Nat) (w:World) (h:RowC enc 48 w g rest d w) (hd:d.size=n) (hlo:lo≤n) (hb:first+hi≤n) (hn:n≤1099511627776) :
  Calls Tryz.prog 187 #[.slice (some ⟨g,0,none⟩) n cap,.int .i64 lo,.int .i64 hi,.int .i64 first,.func (.func F) #[] #[]] w (RowPC enc w g rest (Sort.siftDown lt hi first lo d)):=by
 have hEF:=HC.enters
 replace HC:=h'd HC.call
 replace E:=h'd E
 go_enter Tryz.func187,Tryz.ntmps187
 go_wp2_with fail
 go_loopg [10] (hi-lo) (fun m v wr=>∃ (r:Nat) (d1:Array α),r≤n∧m=hi-r∧v=.int .i64 r∧d1.size=n∧Sort.siftDown lt hi first r d1=Sort.siftDown lt hi first lo d∧RowC enc 48 w g rest d1 wr)
 case atStart=>exact ⟨lo,d,hlo,rfl,rfl,hd,rfl,h⟩
 case round =>
  obtain ⟨r,d1,hr,rfl,rfl,hd1,he,hR⟩:=hrel
  obtain ⟨w1,rfl⟩:∃ x:World,x=wr:=⟨_,rfl⟩
  clear h
  by_cases hch:hi≤2*r+1
  ·have he':d1=Sort.siftDown lt hi first lo d:=by
    rw[←he]
    unfold Sort.siftDown
    rw[dif_pos (by omega)]
   have j1:(hi:Int)≤2*(r:Int)+1:=by omega
   replace he':=h'd he'
   replace hR:=h'd hR
   clear he
   go_wp2_with fail
   go_end0
   exact ⟨rfl,by rw[←he'.out];exact hR.out⟩
  ·have j1:¬ (hi:Int)≤2*(r:Int)+1:=by omega
   obtain ⟨cb,hcb⟩:∃ cb:Bool,cb=(decide (2*r+1+1<hi) && lt d1[first+(2*r+1)]! d1[first+(2*r+2)]!):=⟨_,rfl⟩
   obtain ⟨ch,hch2⟩:∃ ch,ch=if cb then 2*r+2 else 2*r+1:=⟨_,rfl⟩
   obtain ⟨hchi,hex⟩:=sift_ex hi first r ch d1 cb hch hcb hch2
   rw[hex] at he
   replace he:=h'd he
   replace hR:=h'd hR
   replace hcb:=h'd hcb
   replace hch2:=h'd hch2
   clear hex
   have wA:IntKind.i64.wrap (2*(r:Int)+1+1)=2*(r:Int)+1+1:=IntWalk.i64_in _ (by omega)
   have wB:IntKind.i64.wrap ((first:Int)+(2*(r:Int)+1))=(first:Int)+(2*(r:Int)+1):=IntWalk.i64_in _ (by omega)
   have wC:IntKind.i64.wrap ((first:Int)+(2*(r:Int)+1)+1)=(first:Int)+(2*(r:Int)+1)+1:=IntWalk.i64_in _ (by omega)
   have wE:IntKind.i64.wrap ((first:Int)+(ch:Int))=(first:Int)+(ch:Int):=IntWalk.i64_in _ (by omega)
   have wD:IntKind.i64.wrap ((first:Int)+(r:Int))=(first:Int)+(r:Int):=IntWalk.i64_in _ (by omega)
   have z1:(0:Int)≤(first:Int)+(2*(r:Int)+1):=by omega
   have z2:(0:Int)≤(first:Int)+(2*(r:Int)+1)+1:=by omega
   have z3:(0:Int)≤(first:Int)+(ch:Int):=by omega
   have z0:(0:Int)≤(first:Int)+(r:Int):=by omega
   have t1:((first:Int)+(2*(r:Int)+1)).toNat=first+(2*r+1):=by omega
   have t2:((first:Int)+(2*(r:Int)+1)+1).toNat=first+(2*r+2):=by omega
   have t3:((first:Int)+(ch:Int)).toNat=first+ch:=by omega
   have t0:((first:Int)+(r:Int)).toNat=first+r:=by omega
   have k1:(first:Int)+(2*(r:Int)+1)<(n:Int):=by omega
   have k3:(first:Int)+(ch:Int)<(n:Int):=by omega
   have k0:(first:Int)+(r:Int)<(n:Int):=by omega
   go_upto_region 3 with fail
   go_cut [40] (fun v wx=>v=.bool cb∧RowC enc 48 w g rest d1 wx)
   case first =>
    by_cases hc2:2*r+1+1<hi
    ·have i2:2*(r:Int)+1+1<(hi:Int):=by omega
     have di:decide (2*(r:Int)+1+1<(hi:Int))=true:=d't i2
     have k2:(first:Int)+(2*(r:Int)+1)+1<(n:Int):=by omega
     have c1:=hR.out.load E.out wRowT (i:=first+(2*r+1)) (by omega)
     have c2:=hR.out.load E.out wRowT (i:=first+(2*r+2)) (by omega)
     have hcb2:=h'd (hcb.out.trans (by rw[d't hc2,Bool.true_and]))
     clear hcb
     generalize d1[first+(2*r+1)]! = x1 at *
     generalize d1[first+(2*r+2)]! = x2 at *
     refine wp_region_still_tail 19 (by kernel_rfl) (by kernel_rfl) ?_
     simp only[List.take_succ_cons,List.take_zero,List.drop_succ_cons,List.drop_zero]
     repeat (first | (refine wpStill_load rfl 48 _ rfl _ (c1 _ rfl) ?_;try simp only[Act.put,s'a,s'z,s's]) | (refine wpStill_load rfl 48 _ rfl _ (c2 _ rfl) ?_;try simp only[Act.put,s'a,s'z,s's]) | still_step)
     refine wpStill_nil ?_
     go_wp2_with (refine c'm (HC.out _ _ _) ?_;rintro e w3 ⟨c,rfl,hc,hB3⟩;have hr3:=hR.out.drew.call hB3)
     go_meet
     case rel=>exact ⟨by rw[hcb2.out,←hc],hr3⟩
    ·have di:decide (2*(r:Int)+1+1<(hi:Int))=false:=d'f (by omega)
     have i2:¬ 2*(r:Int)+1+1<(hi:Int):=by omega
     have hcb2:=h'd (hcb.out.trans (by rw[d'f hc2,Bool.false_and]))
     clear hcb
     go_quiet (fail)
     go_wp2_with fail
     go_meet
     case rel=>exact ⟨by rw[hcb2.out],hR.out.drewN nq⟩
   case rest =>
    obtain ⟨rfl,hR2⟩:=hcut
    clear hR
    have hR:=h'd hR2
    clear hR2
    go_upto_if 40 with fail
    go_cut [11] (fun v wx=>v=.int .i64 ch∧RowC enc 48 w g rest d1 wx)
    case first =>
     have hc3:=hch2.out
     clear hcb
     cases cb with
     | true =>
      simp only[if_true] at hc3
      replace hc3:=h'd hc3
      go_wp2_with fail
      go_meet
      case rel=>exact ⟨congrArg (Value.int .i64) (by have:=hc3.out;omega),hR.out⟩
     | false =>
      simp only[Bool.false_eq_true,if_false] at hc3
      replace hc3:=h'd hc3
      go_wp2_with fail
      go_meet
      case rel=>exact ⟨congrArg (Value.int .i64) (by have:=hc3.out;omega),hR.out⟩
    case rest =>
     obtain ⟨rfl,hR2⟩:=hcut
     clear hR
     have hR:=h'd hR2
     have hcr:r<ch:=by
      have:=hch2.out
      split at this <;> omega
     clear hR2 hcb hch2 wA wB wC z1 z2 t1 t2 k1
     have hf1:first+r<d1.size:=by omega
     have hf2:first+ch<d1.size:=by omega
     have c0:=hR.out.load E.out wRowT (i:=first+r) hf1
     have cc:=hR.out.load E.out wRowT (i:=first+ch) hf2
     replace hf1:=h'd hf1
     replace hf2:=h'd hf2
     go_upto_region 5 with fail
     cases hlt:lt d1[first+r]! d1[first+ch]! with
     | false =>
      have he':d1=Sort.siftDown lt hi first lo d:=by
       have:=he.out
       rw[if_neg (by simp[hlt])] at this
       exact this
      replace he':=h'd he'
      replace hlt:=h'd hlt
      clear he
      generalize d1[first+r]! = x1 at *
      generalize d1[first+ch]! = x2 at *
      refine wp_region_still_tail 13 (by kernel_rfl) (by kernel_rfl) ?_
      simp only[List.take_succ_cons,List.take_zero,List.drop_succ_cons,List.drop_zero]
      repeat (first | (refine wpStill_load rfl 48 _ rfl _ (c0 _ rfl) ?_;try simp only[Act.put,s'a,s'z,s's]) | (refine wpStill_load rfl 48 _ rfl _ (cc _ rfl) ?_;try simp only[Act.put,s'a,s'z,s's]) | still_step)
      refine wpStill_nil ?_
      go_wp2_with (refine c'm (HC.out _ _ _) ?_;rintro e w3 ⟨c,rfl,hc,hB3⟩;rw[hlt.out] at hc;have hcp:¬ c<0:=of_decide_eq_false hc;have hr3:=h'd (hR.out.drew.call hB3))
      go_end0
      exact ⟨rfl,by rw[←he'.out];exact hr3.out⟩
     | true =>
      have he':Sort.siftDown lt hi first ch (Sort.swp d1 (first+r) (first+ch))=Sort.siftDown lt hi first lo d:=by
       have:=he.out
       rw[if_pos hlt] at this
       exact this
      replace he':=h'd he'
      replace hlt:=h'd hlt
      clear he
      obtain ⟨x1,hx1⟩:∃ x,x=d1[first+r]!:=⟨_,rfl⟩
      obtain ⟨x2,hx2⟩:∃ x,x=d1[first+ch]!:=⟨_,rfl⟩
      rw[←hx1] at c0 hlt
      rw[←hx2] at cc hlt
      replace hx1:=h'd hx1
      replace hx2:=h'd hx2
      refine wp_region_still_tail 13 (by kernel_rfl) (by kernel_rfl) ?_
      simp only[List.take_succ_cons,List.take_zero,List.drop_succ_cons,List.drop_zero]
      repeat (first | (refine wpStill_load rfl 48 _ rfl _ (c0 _ rfl) ?_;try simp only[Act.put,s'a,s'z,s's]) | (refine wpStill_load rfl 48 _ rfl _ (cc _ rfl) ?_;try simp only[Act.put,s'a,s'z,s's]) | still_step)
      refine wpStill_nil ?_
      go_upto_region 6 with (refine c'm (HC.out _ _ _) ?_;rintro e w3 ⟨c,rfl,hc,hB3⟩;rw[hlt.out] at hc;have hcp:c<0:=of_decide_eq_true hc;have h:=hR.out.drew.call hB3)
      clear c0 cc hc hcp hB3
      obtain ⟨W1,W2,s1,s2,hsw⟩:=h.drew.swp E.out wRowT (i:=first+r) (j:=first+ch) (by omega) (by omega)
      have e1:=h.drew.load E.out wRowT (i:=first+ch) (by omega) _ rfl
      have e0:=h.drew.load E.out wRowT (i:=first+r) (by omega) _ rfl
      have hsz:=Sort.size_swp d1 (first+r) (first+ch)
      replace hsw:=h'd hsw
      replace hsz:=h'd hsz
      clear h
      generalize (enc d1[first+r]!).toArray=xa at *
      generalize (enc d1[first+ch]!).toArray=xb at *
      refine wp_region_swp 21 23 [some 59,some 60,some 61,some 62,some 63,some 64,some 65,some 66,some 67,some 68,some 69,some 70,some 71,some 72,some 73,some 74,some 75,some 76,some 77,some 78,some 79,none,some 80,none] [.slice (some ⟨g,0,none⟩) n cap,.int .i64 first,.int .i64 r,.int .i64 ((first:Int)+(r:Int)),.slice (some ⟨g,0,none⟩) n cap,.int .i64 first,.int .i64 ch,.int .i64 ((first:Int)+(ch:Int)),.slice (some ⟨g,0,none⟩) n cap,.int .i64 first,.int .i64 ch,.int .i64 ((first:Int)+(ch:Int)),.pointer (some ⟨g,(first+ch)*10,none⟩),.agg xb,.slice (some ⟨g,0,none⟩) n cap,.int .i64 first,.int .i64 r,.int .i64 ((first:Int)+(r:Int)),.pointer (some ⟨g,(first+r)*10,none⟩),.agg xa,.pointer (some ⟨g,(first+r)*10,none⟩),undef,.pointer (some ⟨g,(first+ch)*10,none⟩),undef] W1 W2 ?A ?hA (by kernel_rfl) rfl (by kernel_rfl) (by kernel_rfl) (by kernel_rfl) ?hrun 48 48 (.tmp 79) (.tmp 72) (.tmp 80) (.tmp 78) rfl rfl ?h1 ?h2 ?hf
      case hA=>simp only[putL,Act.put,s'a,s'z,s's];rfl
      case h1=>exact s1
      case h2=>exact s2
      case hrun =>
       simp only[RunL,RunOp]
       clear hsw hsz
       refine ⟨fun W=>rfl,fun W=>rfl,fun W=>rfl,?_,fun W=>rfl,fun W=>rfl,fun W=>rfl,?_,fun W=>rfl,fun W=>rfl,fun W=>rfl,?_,?_,e1,fun W=>rfl,fun W=>rfl,fun W=>rfl,?_,?_,e0,?_,trivial,?_,trivial,trivial⟩
       all_goals (intro W;go_simp)
      clear s1 s2 e0 e1
      go_wp2
      go_roundg (hi-ch)
      case measure=>have:=hch;omega
      case rel=>exact ⟨ch,Sort.swp d1 (first+r) (first+ch),by omega,rfl,by go_num,by rw[hsz.out];exact hd1,he'.out,hsw.out⟩
end
set_option maxRecDepth 100000
section
variable {α:Type} [Inhabited α] {enc:α→List Value} (E:RowE enc 10) {lt:α→α→Bool} {F:FuncId} (HC:CmpF enc lt F)
theorem sizeC_sift (hi first:Nat):∀ (f root:Nat) (d:Array α),hi-root≤f→(Sort.siftDown lt hi first root d).size=d.size:=by
 intro f
 induction f with
 | zero =>
  intro root d hf
  unfold Sort.siftDown
  rw[dif_pos (by omega)]
 | succ f ih =>
  intro root d hf
  unfold Sort.siftDown
  split
  ·rfl
  ·split
   ·split
    ·rfl
    ·split
     ·rw[ih _ _ (by omega),Sort.size_swp]
     ·rfl
   ·split
    ·rfl
    ·rw[ih _ _ (by omega),Sort.size_swp]
include E HC
set_option maxHeartbeats 1000000 in
theorem heapC_any (g n cap:Nat) (rest:List Value) (d:Array α) (a b:Nat) (w:World) (h:RowC enc 48 w g rest d w) (hd:d.size=n) (hab:a<b) (hb:b≤n) (hn:n≤1099511627776) :
  Calls Tryz.prog 167 #[.slice (some ⟨g,0,none⟩) n cap,.int .i64 a,.int .i64 b,.func (.func F) #[] #[]] w (RowPC enc w g rest (Sort.heapSort lt d a b)):=by
 obtain ⟨hi,hhi⟩:∃ hi,hi=b-a:=⟨_,rfl⟩
 obtain ⟨q,hq⟩:∃ q,q=(hi-1) / 2:=⟨_,rfl⟩
 have e1:(b:Int)-(a:Int)=(hi:Int):=by omega
 have e2:Int.tdiv ((hi:Int)-1) 2=(q:Int):=by rw[hq,Int.tdiv_eq_ediv_of_nonneg (by omega)];omega
 have hh1:1≤hi:=by omega
 have hhn:a+hi≤n:=by omega
 have hqn:q≤n:=by omega
 have hE:Sort.heapSort lt d a b=Sort.heapPop lt a hi (Sort.heapBuild lt hi a (q+1) d):=by
  unfold Sort.heapSort
  rw[←hhi,←hq]
 obtain ⟨T,hT⟩:∃ T,T=Sort.heapSort lt d a b:=⟨_,rfl⟩
 rw[←hT] at hE
 rw[←hT]
 clear hT hhi hq
 have SI:=fun d lo hi first w h h1 h2 h3=>siftC_any E HC g n cap rest d lo hi first w h h1 h2 h3 hn
 replace SI:=h'd SI
 replace E:=h'd E
 clear HC
 go_enter Tryz.func167,Tryz.ntmps167
 go_wp2_with fail
 clear e2
 go_loopg [11] (q+1) (fun m v wr=>∃ (k:Nat) (d1:Array α),k≤q+1∧k=m∧v=.int .i64 ((k:Int)-1)∧d1.size=n∧T=Sort.heapPop lt a hi (Sort.heapBuild lt hi a k d1)∧RowC enc 48 w g rest d1 wr)
 case atStart=>exact ⟨q+1,d,n'r _,rfl,by go_num,hd,hE,h⟩
 case round =>
  obtain ⟨k,d1,hk,hkm,rfl,hd1,he,hR⟩:=hrel
  obtain ⟨w1,rfl⟩:∃ x:World,x=wr:=⟨_,rfl⟩
  clear h
  cases k with
  | zero =>
   have he':T=Sort.heapPop lt a hi d1:=he
   replace he':=h'd he'
   clear he hkm hE
   replace hR:=h'd hR
   go_wp2_with fail
   go_loopg [12] hi (fun m v wr=>∃ (k:Nat) (d2:Array α),k≤hi∧k=m∧v=.int .i64 ((k:Int)-1)∧d2.size=n∧T=Sort.heapPop lt a k d2∧RowC enc 48 w g rest d2 wr)
   case atStart=>exact ⟨hi,d1,n'r _,rfl,by go_num,hd1,he'.out,hR.out⟩
   case round =>
    obtain ⟨k,d2,hk,hkm,rfl,hd2,he,hR2⟩:=hrel
    obtain ⟨w2,rfl⟩:∃ x:World,x=wr:=⟨_,rfl⟩
    cases k with
    | zero =>
     have he2:T=d2:=he
     replace he2:=h'd he2
     clear he
     go_wp2_with fail
     go_end0
     exact ⟨rfl,by rw[he2.out];exact hR2⟩
    | succ j =>
     have he2:T=Sort.heapPop lt a j (Sort.siftDown lt j a 0 (Sort.swp d2 a (a+j))):=he
     have hsz:=(Sort.size_swp d2 a (a+j)).trans hd2
     have i0:(a:Int)<(n:Int):=by omega
     have i1:(a:Int)+(j:Int)<(n:Int):=by omega
     have i2:(0:Int)≤(a:Int)+(j:Int):=by omega
     have t1:((a:Int)+(j:Int)).toNat=a+j:=by omega
     have wA:IntKind.i64.wrap ((a:Int)+(j:Int))=(a:Int)+(j:Int):=IntWalk.i64_in _ (by omega)
     have CS:=fun w h=>SI.out (Sort.swp d2 a (a+j)) 0 j a w h hsz (by omega) (by omega)
     have hs2:=sizeC_sift (lt:=lt) j a j 0 (Sort.swp d2 a (a+j)) (by omega)
     replace hs2:=h'd (hs2.trans hsz)
     replace CS:=h'd CS
     replace he2:=h'd he2
     clear he
     replace hkm:=h'd hkm
     replace hsz:=h'd hsz
     go_upto_region 10 with fail
     obtain ⟨W1,W2,s1,s2,hsw⟩:=hR2.drew.swp E.out wRowT (i:=a) (j:=a+j) (by omega) (by omega)
     have e1:=hR2.drew.load E.out wRowT (i:=a+j) (by omega) _ rfl
     have e0:=hR2.drew.load E.out wRowT (i:=a) (by omega) _ rfl
     replace hsw:=h'd hsw
     clear hR2
     generalize (enc d2[a]!).toArray=xa at *
     generalize (enc d2[a+j]!).toArray=xb at *
     refine wp_region_swp 17 19 [some 36,some 37,some 38,some 39,some 40,some 41,some 42,some 43,some 44,some 45,some 46,some 47,some 48,some 49,some 50,some 51,some 52,none,some 53,none] [.slice (some ⟨g,0,none⟩) n cap,.int .i64 a,.slice (some ⟨g,0,none⟩) n cap,.int .i64 a,.int .i64 j,.int .i64 ((a:Int)+(j:Int)),.slice (some ⟨g,0,none⟩) n cap,.int .i64 a,.int .i64 j,.int .i64 ((a:Int)+(j:Int)),.pointer (some ⟨g,(a+j)*10,none⟩),.agg xb,.slice (some ⟨g,0,none⟩) n cap,.int .i64 a,.pointer (some ⟨g,a*10,none⟩),.agg xa,.pointer (some ⟨g,a*10,none⟩),undef,.pointer (some ⟨g,(a+j)*10,none⟩),undef] W1 W2 ?A ?hA (by kernel_rfl) rfl (by kernel_rfl) (by kernel_rfl) (by kernel_rfl) ?hrun 48 48 (.tmp 52) (.tmp 47) (.tmp 53) (.tmp 51) rfl rfl ?h1 ?h2 ?hf
     case hA=>simp only[putL,Act.put,s'a,s'z,s's];rfl
     case h1=>exact s1
     case h2=>exact s2
     case hrun =>
      simp only[RunL,RunOp]
      clear hsw hsz
      refine ⟨fun W=>rfl,fun W=>rfl,fun W=>rfl,fun W=>rfl,?_,?_,fun W=>rfl,fun W=>rfl,?_,?_,?_,e1,fun W=>rfl,fun W=>rfl,?_,e0,?_,trivial,?_,trivial,trivial⟩
      all_goals (intro W;go_simp)
     clear s1 s2 e0 e1
     go_wp2_with (go_at_call 187;refine c'm (CS.out _ hsw.out.self) ?_;rintro e w3 ⟨rfl,hR3⟩)
     go_roundg j
     case measure=>have:=hkm.out;omega
     case rel=>exact ⟨j,Sort.siftDown lt j a 0 (Sort.swp d2 a (a+j)),by omega,rfl,by go_num,hs2.out,he2.out,hsw.out.trans hR3⟩
  | succ j =>
   have he2:T=Sort.heapPop lt a hi (Sort.heapBuild lt hi a j (Sort.siftDown lt hi a j d1)):=he
   have CS:=SI.out d1 j hi a w1 hR.self hd1 (by omega) (by omega)
   have hs2:=sizeC_sift (lt:=lt) hi a hi j d1 (by omega)
   replace hs2:=h'd (hs2.trans hd1)
   replace CS:=h'd CS
   replace he2:=h'd he2
   replace hR:=h'd hR
   clear he hE
   replace hkm:=h'd hkm
   go_wp2_with (go_at_call 187;refine c'm CS.out ?_;rintro e w3 ⟨rfl,hR3⟩)
   go_roundg j
   case measure=>have:=hkm.out;omega
   case rel=>exact ⟨j,Sort.siftDown lt hi a j d1,by omega,rfl,by go_num,hs2.out,he2.out,hR.out.trans hR3⟩
end
section
variable {α:Type} [Inhabited α] {enc:α→List Value} (E:RowE enc 10) {lt:α→α→Bool} {F:FuncId} (HC:CmpF enc lt F)
theorem partition_eq (d D:Array α) (a b pivot J i j:Nat) (hD:D=Sort.swp d a pivot) (hJ:J=b-1) (hi:i=Sort.scanUp (fun x=>lt x D[a]!) D J (a+1)) (hj:j=Sort.scanDown (fun x => !lt x D[a]!) D i J) :
  Sort.partition lt d a b pivot=if i>j then (j,true,Sort.swp D j a) else ((Sort.partLoop lt a (i+1) (j-1) (Sort.swp D i j)).1,false,Sort.swp (Sort.partLoop lt a (i+1) (j-1) (Sort.swp D i j)).2 (Sort.partLoop lt a (i+1) (j-1) (Sort.swp D i j)).1 a):=by
 subst hJ hD hi hj
 rfl
theorem partLoop_eq (D:Array α) (a I J i j:Nat) (hi:i=Sort.scanUp (fun x=>lt x D[a]!) D J I) (hj:j=Sort.scanDown (fun x => !lt x D[a]!) D i J) :
  Sort.partLoop lt a I J D=if i>j then (j,D) else if (j-1)+1-(i+1)<J+1-I then Sort.partLoop lt a (i+1) (j-1) (Sort.swp D i j) else (j,D):=by
 subst hi hj
 conv=>lhs;unfold Sort.partLoop
 rfl
include E HC
set_option maxHeartbeats 4000000 in
theorem partC_any (g n cap:Nat) (rest:List Value) (d:Array α) (a b pivot:Nat) (w:World) (h:RowC enc 48 w g rest d w) (hd:d.size=n) (hap:a≤pivot) (hpb:pivot<b) (hb:b≤n) (hn:n≤1099511627776) :
  Calls Tryz.prog 173 #[.slice (some ⟨g,0,none⟩) n cap,.int .i64 a,.int .i64 b,.int .i64 pivot,.func (.func F) #[] #[]] w fun e w' =>
   e=.returned (.tuple #[.int .i64 (Sort.partition lt d a b pivot).1,.bool (Sort.partition lt d a b pivot).2.1])∧RowC enc 48 w g rest (Sort.partition lt d a b pivot).2.2 w':=by
 obtain ⟨T,hT⟩:∃ T,T=Sort.partition lt d a b pivot:=⟨_,rfl⟩
 rw[←hT]
 obtain ⟨J,hJ⟩:∃ J,J=b-1:=⟨_,rfl⟩
 have eJ:(b:Int)-1=(J:Int):=by omega
 have ia:(a:Int)<(n:Int):=by omega
 have ip:(pivot:Int)<(n:Int):=by omega
 have hJ1:J<b:=by omega
 have hJ2:b≤J+1:=by omega
 replace hJ:=h'd hJ
 replace hT:=h'd hT
 have hEF:=HC.enters
 replace HC:=h'd HC.call
 replace E:=h'd E
 go_enter Tryz.func173,Tryz.ntmps173
 go_upto_region 1 with fail
 obtain ⟨W1,W2,s1,s2,hsw⟩:=h.drew.swp E.out wRowT (i:=a) (j:=pivot) (by omega) (by omega)
 have e1:=h.drew.load E.out wRowT (i:=pivot) (by omega) _ rfl
 have e0:=h.drew.load E.out wRowT (i:=a) (by omega) _ rfl
 have hsz:=Sort.size_swp d a pivot
 replace hsw:=h'd hsw
 replace hsz:=h'd hsz
 clear h
 generalize (enc d[a]!).toArray=xa at *
 generalize (enc d[pivot]!).toArray=xb at *
 refine wp_region_swp 13 15 [some 14,some 15,some 16,some 17,some 18,some 19,some 20,some 21,some 22,some 23,some 24,some 25,some 26,none,some 27,none] [.slice (some ⟨g,0,none⟩) n cap,.int .i64 a,.slice (some ⟨g,0,none⟩) n cap,.int .i64 pivot,.slice (some ⟨g,0,none⟩) n cap,.int .i64 pivot,.pointer (some ⟨g,pivot*10,none⟩),.agg xb,.slice (some ⟨g,0,none⟩) n cap,.int .i64 a,.pointer (some ⟨g,a*10,none⟩),.agg xa,.pointer (some ⟨g,a*10,none⟩),undef,.pointer (some ⟨g,pivot*10,none⟩),undef] W1 W2 ?A1 ?hA1 (by kernel_rfl) rfl (by kernel_rfl) (by kernel_rfl) (by kernel_rfl) ?hrun1 48 48 (.tmp 26) (.tmp 21) (.tmp 27) (.tmp 25) rfl rfl ?hs1 ?ht1 ?hf1
 case hA1=>simp only[putL,Act.put,s'a,s'z,s's];rfl
 case hs1=>exact s1
 case ht1=>exact s2
 case hrun1 =>
  simp only[RunL,RunOp]
  clear hsw
  have hbA:((a:Nat):Int)<(n:Int):=by omega
  have hbB:((pivot:Nat):Int)<(n:Int):=by omega
  clear hsz
  refine ⟨fun W=>rfl,fun W=>rfl,fun W=>rfl,fun W=>rfl,fun W=>rfl,fun W=>rfl,?_,e1,fun W=>rfl,fun W=>rfl,?_,e0,?_,trivial,?_,trivial,trivial⟩
  all_goals (intro W;go_simp)
 clear s1 s2 e0 e1 W1
 replace hT:=hT.out
 replace hsz:=hsz.out.trans hd
 have hR:=hsw.out
 generalize W2=w1 at *
 clear hsw
 obtain ⟨D,hD⟩:∃ D,D=Sort.swp d a pivot:=⟨_,rfl⟩
 rw[←hD] at hR hsz
 replace hD:=h'd hD
 replace hT:=h'd hT
 replace hR:=h'd hR
 go_wp2_with fail
 go_loopg [12] (J+1-(a+1)) (fun m v wr=>∃ i1:Nat,((a+1)≤i1∧i1≤n)∧m=J+1-i1∧v=.int .i64 i1∧Sort.scanUp (fun x=>lt x D[a]!) D J i1=Sort.scanUp (fun x=>lt x D[a]!) D J (a+1)∧RowC enc 48 w g rest D wr)
 case atStart=>exact ⟨(a+1),by omega,rfl,by first | rfl | go_num,rfl,hR.out⟩
 case round =>
  clear hR
  obtain ⟨i1,hv,hm,rfl,hs,hR⟩:=hrel
  obtain ⟨w2,rfl⟩:∃ x:World,x=wr:=⟨_,rfl⟩
  replace hm:=h'd hm
  replace hs:=h'd hs
  replace hR:=h'd hR
  go_upto_region 3 with fail
  go_cut [47] (fun v wx=>v=.bool (decide (i1≤J) && lt D[i1]! D[a]!)∧RowC enc 48 w g rest D wx)
  case first =>
   by_cases hg:i1≤J
   ·have dg:decide (((i1:Nat):Int)≤((J:Nat):Int))=true:=d't (by omega)
    have dg':decide (i1≤J)=true:=d't hg
    have c1:=hR.out.load E.out wRowT (i:=i1) (by omega)
    have c0:=hR.out.load E.out wRowT (i:=a) (by omega)
    have i1':(i1:Int)<(n:Int):=by omega
    have i0':(a:Int)<(n:Int):=by omega
    obtain ⟨x,hx⟩:∃ x,x=D[i1]!:=⟨_,rfl⟩
    obtain ⟨y,hy⟩:∃ y,y=D[a]!:=⟨_,rfl⟩
    rw[←hx] at c1
    rw[←hy] at c0
    replace hx:=h'd hx
    replace hy:=h'd hy
    refine wp_region_still_tail 13 (by kernel_rfl) (by kernel_rfl) ?_
    simp only[List.take_succ_cons,List.take_zero,List.drop_succ_cons,List.drop_zero]
    repeat (first | (refine wpStill_load rfl 48 _ rfl _ (c1 _ rfl) ?_;try simp only[Act.put,s'a,s'z,s's]) | (refine wpStill_load rfl 48 _ rfl _ (c0 _ rfl) ?_;try simp only[Act.put,s'a,s'z,s's]) | still_step)
    refine wpStill_nil ?_
    go_wp2_with (refine c'm (HC.out _ _ _) ?_;rintro e w3 ⟨c,rfl,hc,hB3⟩;have hr3:=hR.out.drew.call hB3)
    go_meet
    case rel=>exact ⟨by rw[←hx.out,←hy.out,←hc];simp[hg],hr3⟩
   ·have dg:decide (((i1:Nat):Int)≤((J:Nat):Int))=false:=d'f (by omega)
    have dg':decide (i1≤J)=false:=d'f hg
    go_quiet (fail)
    go_wp2_with fail
    go_meet
    case rel=>exact ⟨by simp[hg],hR.out.drewN nq⟩
  case rest =>
   obtain ⟨rfl,hR2⟩:=hcut
   clear hR
   have hR:=h'd hR2
   clear hR2
   cases hc:(decide (i1≤J) && lt D[i1]! D[a]!) with
   | true =>
    have hb':i1≤J:=by
     simp only[Bool.and_eq_true,decide_eq_true_eq] at hc
     exact hc.1
    have hs2:Sort.scanUp (fun x=>lt x D[a]!) D J (i1+1)=Sort.scanUp (fun x=>lt x D[a]!) D J (a+1):=by
     rw[←hs.out]
     conv=>rhs;unfold Sort.scanUp
     rw[if_pos hc]
    replace hs2:=h'd hs2
    clear hc
    go_wp2_with fail
    go_roundg (J+1-(i1+1))
    case measure=>have:=hm.out;omega
    case rel=>exact ⟨i1+1,by omega,rfl,by go_num,hs2.out,hR.out⟩
   | false =>
    have hfin:i1=Sort.scanUp (fun x=>lt x D[a]!) D J (a+1):=by
     rw[←hs.out]
     unfold Sort.scanUp
     rw[if_neg (fun h'=>b'n (hc.symm.trans h'))]
    clear hc hm hs
    have hi1:=hv.1
    have hi1n:=hv.2
    have hup:=h'd hfin
    clear hfin hv
    go_wp2_with fail
    go_loopg [13] (J) (fun m v wr=>∃ j1:Nat,(j1≤J)∧m=j1∧v=.int .i64 j1∧Sort.scanDown (fun x => !lt x D[a]!) D i1 j1=Sort.scanDown (fun x => !lt x D[a]!) D i1 J∧RowC enc 48 w g rest D wr)
    case atStart=>exact ⟨J,by omega,rfl,by first | rfl | go_num,rfl,hR.out⟩
    case round =>
     clear hR
     obtain ⟨j1,hv,hm,rfl,hs,hR⟩:=hrel
     obtain ⟨w2,rfl⟩:∃ x:World,x=wr:=⟨_,rfl⟩
     replace hm:=h'd hm
     replace hs:=h'd hs
     replace hR:=h'd hR
     go_upto_region 5 with fail
     go_cut [66] (fun v wx=>v=.bool (decide (i1≤j1) && !lt D[j1]! D[a]!)∧RowC enc 48 w g rest D wx)
     case first =>
      by_cases hg:i1≤j1
      ·have dg:decide (((i1:Nat):Int)≤((j1:Nat):Int))=true:=d't (by omega)
       have dg':decide (i1≤j1)=true:=d't hg
       have c1:=hR.out.load E.out wRowT (i:=j1) (by omega)
       have c0:=hR.out.load E.out wRowT (i:=a) (by omega)
       have i1':(j1:Int)<(n:Int):=by omega
       have i0':(a:Int)<(n:Int):=by omega
       obtain ⟨x,hx⟩:∃ x,x=D[j1]!:=⟨_,rfl⟩
       obtain ⟨y,hy⟩:∃ y,y=D[a]!:=⟨_,rfl⟩
       rw[←hx] at c1
       rw[←hy] at c0
       replace hx:=h'd hx
       replace hy:=h'd hy
       refine wp_region_still_tail 13 (by kernel_rfl) (by kernel_rfl) ?_
       simp only[List.take_succ_cons,List.take_zero,List.drop_succ_cons,List.drop_zero]
       repeat (first | (refine wpStill_load rfl 48 _ rfl _ (c1 _ rfl) ?_;try simp only[Act.put,s'a,s'z,s's]) | (refine wpStill_load rfl 48 _ rfl _ (c0 _ rfl) ?_;try simp only[Act.put,s'a,s'z,s's]) | still_step)
       refine wpStill_nil ?_
       go_wp2_with (refine c'm (HC.out _ _ _) ?_;rintro e w3 ⟨c,rfl,hc,hB3⟩;have hr3:=hR.out.drew.call hB3)
       go_meet
       case rel=>exact ⟨by rw[←hx.out,←hy.out,←hc];simp[hg],hr3⟩
      ·have dg:decide (((i1:Nat):Int)≤((j1:Nat):Int))=false:=d'f (by omega)
       have dg':decide (i1≤j1)=false:=d'f hg
       go_quiet (fail)
       go_wp2_with fail
       go_meet
       case rel=>exact ⟨by simp[hg],hR.out.drewN nq⟩
     case rest =>
      obtain ⟨rfl,hR2⟩:=hcut
      clear hR
      have hR:=h'd hR2
      clear hR2
      cases hc:(decide (i1≤j1) && !lt D[j1]! D[a]!) with
      | true =>
       have hb':i1≤j1:=by
        simp only[Bool.and_eq_true,decide_eq_true_eq] at hc
        exact hc.1
       have hs2:Sort.scanDown (fun x => !lt x D[a]!) D i1 (j1-1)=Sort.scanDown (fun x => !lt x D[a]!) D i1 J:=by
        rw[←hs.out]
        obtain ⟨k,rfl⟩:∃ k,j1=k+1:=⟨j1-1,by omega⟩
        conv=>rhs;unfold Sort.scanDown
        rw[if_pos hc]
        rfl
       replace hs2:=h'd hs2
       clear hc
       go_wp2_with fail
       go_roundg ((j1-1))
       case measure=>have:=hm.out;omega
       case rel=>exact ⟨j1-1,by omega,rfl,congrArg (Value.int .i64) (by omega),hs2.out,hR.out⟩
      | false =>
       have hfin:j1=Sort.scanDown (fun x => !lt x D[a]!) D i1 J:=by
        rw[←hs.out]
        cases j1 with
        | zero=>rfl
        | succ k =>
         unfold Sort.scanDown
         rw[if_neg (fun h'=>b'n (hc.symm.trans h'))]
       clear hc hm hs
       have hT2:T=_:=hT.out.trans (partition_eq d D a b pivot J i1 j1 hD.out hJ.out hup.out hfin)
       replace hfin:=h'd hfin
       clear hT hup hfin
       have hjn:j1<n:=by omega
       have h:=hR.out
       by_cases hij:i1>j1
       ·rw[if_pos hij] at hT2
        replace hT2:=h'd hT2
        have q1:(j1:Int)<(i1:Int):=by omega
        go_upto_region 8 with fail
        obtain ⟨W1,W2,s1,s2,hsw⟩:=h.drew.swp E.out wRowT (i:=j1) (j:=a) (by omega) (by omega)
        have e1:=h.drew.load E.out wRowT (i:=a) (by omega) _ rfl
        have e0:=h.drew.load E.out wRowT (i:=j1) (by omega) _ rfl
        have hsz:=Sort.size_swp D j1 a
        replace hsw:=h'd hsw
        replace hsz:=h'd hsz
        clear h
        generalize (enc D[j1]!).toArray=xa at *
        generalize (enc D[a]!).toArray=xb at *
        refine wp_region_swp 13 15 [some 72,some 73,some 74,some 75,some 76,some 77,some 78,some 79,some 80,some 81,some 82,some 83,some 84,none,some 85,none] [.slice (some ⟨g,0,none⟩) n cap,.int .i64 j1,.slice (some ⟨g,0,none⟩) n cap,.int .i64 a,.slice (some ⟨g,0,none⟩) n cap,.int .i64 a,.pointer (some ⟨g,a*10,none⟩),.agg xb,.slice (some ⟨g,0,none⟩) n cap,.int .i64 j1,.pointer (some ⟨g,j1*10,none⟩),.agg xa,.pointer (some ⟨g,j1*10,none⟩),undef,.pointer (some ⟨g,a*10,none⟩),undef] W1 W2 ?A2 ?hA2 (by kernel_rfl) rfl (by kernel_rfl) (by kernel_rfl) (by kernel_rfl) ?hrun2 48 48 (.tmp 84) (.tmp 79) (.tmp 85) (.tmp 83) rfl rfl ?hs2 ?ht2 ?hf2
        case hA2=>simp only[putL,Act.put,s'a,s'z,s's];rfl
        case hs2=>exact s1
        case ht2=>exact s2
        case hrun2 =>
         simp only[RunL,RunOp]
         clear hsw
         have hbA:((j1:Nat):Int)<(n:Int):=by omega
         have hbB:((a:Nat):Int)<(n:Int):=by omega
         clear hsz
         refine ⟨fun W=>rfl,fun W=>rfl,fun W=>rfl,fun W=>rfl,fun W=>rfl,fun W=>rfl,?_,e1,fun W=>rfl,fun W=>rfl,?_,e0,?_,trivial,?_,trivial,trivial⟩
         all_goals (intro W;go_simp)
        clear s1 s2 e0 e1 W1
        go_wp2_with fail
        refine bodyPost_ret (results_tmp2 rfl _ _ _) rfl ?_
        rw[hT2.out]
        exact ⟨rfl,hsw.out⟩
       ·rw[if_neg hij] at hT2
        have q1:¬ (j1:Int)<(i1:Int):=by omega
        obtain ⟨R,hRR⟩:∃ R,R=Sort.partLoop lt a (i1+1) (j1-1) (Sort.swp D i1 j1):=⟨_,rfl⟩
        rw[←hRR] at hT2
        replace hT2:=h'd hT2
        replace hRR:=h'd hRR
        go_upto_region 10 with fail
        obtain ⟨W1,W2,s1,s2,hsw⟩:=h.drew.swp E.out wRowT (i:=i1) (j:=j1) (by omega) (by omega)
        have e1:=h.drew.load E.out wRowT (i:=j1) (by omega) _ rfl
        have e0:=h.drew.load E.out wRowT (i:=i1) (by omega) _ rfl
        have hsz:=Sort.size_swp D i1 j1
        replace hsw:=h'd hsw
        replace hsz:=h'd hsz
        clear h
        generalize (enc D[i1]!).toArray=xa at *
        generalize (enc D[j1]!).toArray=xb at *
        refine wp_region_swp 13 15 [some 87,some 88,some 89,some 90,some 91,some 92,some 93,some 94,some 95,some 96,some 97,some 98,some 99,none,some 100,none] [.slice (some ⟨g,0,none⟩) n cap,.int .i64 i1,.slice (some ⟨g,0,none⟩) n cap,.int .i64 j1,.slice (some ⟨g,0,none⟩) n cap,.int .i64 j1,.pointer (some ⟨g,j1*10,none⟩),.agg xb,.slice (some ⟨g,0,none⟩) n cap,.int .i64 i1,.pointer (some ⟨g,i1*10,none⟩),.agg xa,.pointer (some ⟨g,i1*10,none⟩),undef,.pointer (some ⟨g,j1*10,none⟩),undef] W1 W2 ?A3 ?hA3 (by kernel_rfl) rfl (by kernel_rfl) (by kernel_rfl) (by kernel_rfl) ?hrun3 48 48 (.tmp 99) (.tmp 94) (.tmp 100) (.tmp 98) rfl rfl ?hs3 ?ht3 ?hf3
        case hA3=>simp only[putL,Act.put,s'a,s'z,s's];rfl
        case hs3=>exact s1
        case ht3=>exact s2
        case hrun3 =>
         simp only[RunL,RunOp]
         clear hsw
         have hbA:((i1:Nat):Int)<(n:Int):=by omega
         have hbB:((j1:Nat):Int)<(n:Int):=by omega
         clear hsz
         refine ⟨fun W=>rfl,fun W=>rfl,fun W=>rfl,fun W=>rfl,fun W=>rfl,fun W=>rfl,?_,e1,fun W=>rfl,fun W=>rfl,?_,e0,?_,trivial,?_,trivial,trivial⟩
         all_goals (intro W;go_simp)
        clear s1 s2 e0 e1 W1
        have hR:=hsw.out
        replace hsz:=hsz.out.trans ‹D.size=n›
        generalize W2=w4 at *
        clear hsw
        replace hRR:=hRR.out
        generalize Sort.swp D i1 j1=D0 at *
        replace hRR:=h'd hRR
        replace hR:=h'd hR
        go_wp2_with fail
        go_loopg [12,13] ((j1-1)+1-(i1+1)) (fun m v u wr=>∃ (i0 j0:Nat) (D9:Array α),a<i0∧i0≤n∧j0<n∧m=j0+1-i0∧v=.int .i64 i0∧u=.int .i64 j0∧D9.size=n∧R=Sort.partLoop lt a i0 j0 D9∧RowC enc 48 w g rest D9 wr)
        case atStart=>exact ⟨i1+1,j1-1,D0,by omega,by omega,by omega,rfl,by go_num,congrArg (Value.int .i64) (by omega),hsz,hRR.out,hR.out⟩
        case round =>
         clear hR hRR hsz
         obtain ⟨i0,j0,D9,hai,hin0,hjn0,hm0,rfl,rfl,hE,hRl,hR⟩:=hrel
         obtain ⟨w5,rfl⟩:∃ x:World,x=wr:=⟨_,rfl⟩
         replace hm0:=h'd hm0
         replace hRl:=h'd hRl
         replace hR:=h'd hR
         go_wp2_with fail
         go_loopg [12] (j0+1-i0) (fun m v wr=>∃ i1:Nat,(i0≤i1∧i1≤n)∧m=j0+1-i1∧v=.int .i64 i1∧Sort.scanUp (fun x=>lt x D9[a]!) D9 j0 i1=Sort.scanUp (fun x=>lt x D9[a]!) D9 j0 i0∧RowC enc 48 w g rest D9 wr)
         case atStart=>exact ⟨i0,by omega,rfl,by first | rfl | go_num,rfl,hR.out⟩
         case round =>
          clear hR
          obtain ⟨i1,hv,hm,rfl,hs,hR⟩:=hrel
          obtain ⟨w2,rfl⟩:∃ x:World,x=wr:=⟨_,rfl⟩
          replace hm:=h'd hm
          replace hs:=h'd hs
          replace hR:=h'd hR
          go_upto_region 13 with fail
          go_cut [120] (fun v wx=>v=.bool (decide (i1≤j0) && lt D9[i1]! D9[a]!)∧RowC enc 48 w g rest D9 wx)
          case first =>
           by_cases hg:i1≤j0
           ·have dg:decide (((i1:Nat):Int)≤((j0:Nat):Int))=true:=d't (by omega)
            have dg':decide (i1≤j0)=true:=d't hg
            have c1:=hR.out.load E.out wRowT (i:=i1) (by omega)
            have c0:=hR.out.load E.out wRowT (i:=a) (by omega)
            have i1':(i1:Int)<(n:Int):=by omega
            have i0':(a:Int)<(n:Int):=by omega
            obtain ⟨x,hx⟩:∃ x,x=D9[i1]!:=⟨_,rfl⟩
            obtain ⟨y,hy⟩:∃ y,y=D9[a]!:=⟨_,rfl⟩
            rw[←hx] at c1
            rw[←hy] at c0
            replace hx:=h'd hx
            replace hy:=h'd hy
            refine wp_region_still_tail 13 (by kernel_rfl) (by kernel_rfl) ?_
            simp only[List.take_succ_cons,List.take_zero,List.drop_succ_cons,List.drop_zero]
            repeat (first | (refine wpStill_load rfl 48 _ rfl _ (c1 _ rfl) ?_;try simp only[Act.put,s'a,s'z,s's]) | (refine wpStill_load rfl 48 _ rfl _ (c0 _ rfl) ?_;try simp only[Act.put,s'a,s'z,s's]) | still_step)
            refine wpStill_nil ?_
            go_wp2_with (refine c'm (HC.out _ _ _) ?_;rintro e w3 ⟨c,rfl,hc,hB3⟩;have hr3:=hR.out.drew.call hB3)
            go_meet
            case rel=>exact ⟨by rw[←hx.out,←hy.out,←hc];simp[hg],hr3⟩
           ·have dg:decide (((i1:Nat):Int)≤((j0:Nat):Int))=false:=d'f (by omega)
            have dg':decide (i1≤j0)=false:=d'f hg
            go_quiet (fail)
            go_wp2_with fail
            go_meet
            case rel=>exact ⟨by simp[hg],hR.out.drewN nq⟩
          case rest =>
           obtain ⟨rfl,hR2⟩:=hcut
           clear hR
           have hR:=h'd hR2
           clear hR2
           cases hc:(decide (i1≤j0) && lt D9[i1]! D9[a]!) with
           | true =>
            have hb':i1≤j0:=by
             simp only[Bool.and_eq_true,decide_eq_true_eq] at hc
             exact hc.1
            have hs2:Sort.scanUp (fun x=>lt x D9[a]!) D9 j0 (i1+1)=Sort.scanUp (fun x=>lt x D9[a]!) D9 j0 i0:=by
             rw[←hs.out]
             conv=>rhs;unfold Sort.scanUp
             rw[if_pos hc]
            replace hs2:=h'd hs2
            clear hc
            go_wp2_with fail
            go_roundg (j0+1-(i1+1))
            case measure=>have:=hm.out;omega
            case rel=>exact ⟨i1+1,by omega,rfl,by go_num,hs2.out,hR.out⟩
           | false =>
            have hfin:i1=Sort.scanUp (fun x=>lt x D9[a]!) D9 j0 i0:=by
             rw[←hs.out]
             unfold Sort.scanUp
             rw[if_neg (fun h'=>b'n (hc.symm.trans h'))]
            clear hc hm hs
            have hi1:=hv.1
            have hi1n:=hv.2
            have hup:=h'd hfin
            clear hfin hv
            go_wp2_with fail
            go_loopg [13] (j0) (fun m v wr=>∃ j1:Nat,(j1≤j0)∧m=j1∧v=.int .i64 j1∧Sort.scanDown (fun x => !lt x D9[a]!) D9 i1 j1=Sort.scanDown (fun x => !lt x D9[a]!) D9 i1 j0∧RowC enc 48 w g rest D9 wr)
            case atStart=>exact ⟨j0,by omega,rfl,by first | rfl | go_num,rfl,hR.out⟩
            case round =>
             clear hR
             obtain ⟨j1,hv,hm,rfl,hs,hR⟩:=hrel
             obtain ⟨w2,rfl⟩:∃ x:World,x=wr:=⟨_,rfl⟩
             replace hm:=h'd hm
             replace hs:=h'd hs
             replace hR:=h'd hR
             go_upto_region 15 with fail
             go_cut [139] (fun v wx=>v=.bool (decide (i1≤j1) && !lt D9[j1]! D9[a]!)∧RowC enc 48 w g rest D9 wx)
             case first =>
              by_cases hg:i1≤j1
              ·have dg:decide (((i1:Nat):Int)≤((j1:Nat):Int))=true:=d't (by omega)
               have dg':decide (i1≤j1)=true:=d't hg
               have c1:=hR.out.load E.out wRowT (i:=j1) (by omega)
               have c0:=hR.out.load E.out wRowT (i:=a) (by omega)
               have i1':(j1:Int)<(n:Int):=by omega
               have i0':(a:Int)<(n:Int):=by omega
               obtain ⟨x,hx⟩:∃ x,x=D9[j1]!:=⟨_,rfl⟩
               obtain ⟨y,hy⟩:∃ y,y=D9[a]!:=⟨_,rfl⟩
               rw[←hx] at c1
               rw[←hy] at c0
               replace hx:=h'd hx
               replace hy:=h'd hy
               refine wp_region_still_tail 13 (by kernel_rfl) (by kernel_rfl) ?_
               simp only[List.take_succ_cons,List.take_zero,List.drop_succ_cons,List.drop_zero]
               repeat (first | (refine wpStill_load rfl 48 _ rfl _ (c1 _ rfl) ?_;try simp only[Act.put,s'a,s'z,s's]) | (refine wpStill_load rfl 48 _ rfl _ (c0 _ rfl) ?_;try simp only[Act.put,s'a,s'z,s's]) | still_step)
               refine wpStill_nil ?_
               go_wp2_with (refine c'm (HC.out _ _ _) ?_;rintro e w3 ⟨c,rfl,hc,hB3⟩;have hr3:=hR.out.drew.call hB3)
               go_meet
               case rel=>exact ⟨by rw[←hx.out,←hy.out,←hc];simp[hg],hr3⟩
              ·have dg:decide (((i1:Nat):Int)≤((j1:Nat):Int))=false:=d'f (by omega)
               have dg':decide (i1≤j1)=false:=d'f hg
               go_quiet (fail)
               go_wp2_with fail
               go_meet
               case rel=>exact ⟨by simp[hg],hR.out.drewN nq⟩
             case rest =>
              obtain ⟨rfl,hR2⟩:=hcut
              clear hR
              have hR:=h'd hR2
              clear hR2
              cases hc:(decide (i1≤j1) && !lt D9[j1]! D9[a]!) with
              | true =>
               have hb':i1≤j1:=by
                simp only[Bool.and_eq_true,decide_eq_true_eq] at hc
                exact hc.1
               have hs2:Sort.scanDown (fun x => !lt x D9[a]!) D9 i1 (j1-1)=Sort.scanDown (fun x => !lt x D9[a]!) D9 i1 j0:=by
                rw[←hs.out]
                obtain ⟨k,rfl⟩:∃ k,j1=k+1:=⟨j1-1,by omega⟩
                conv=>rhs;unfold Sort.scanDown
                rw[if_pos hc]
                rfl
               replace hs2:=h'd hs2
               clear hc
               go_wp2_with fail
               go_roundg ((j1-1))
               case measure=>have:=hm.out;omega
               case rel=>exact ⟨j1-1,by omega,rfl,congrArg (Value.int .i64) (by omega),hs2.out,hR.out⟩
              | false =>
               have hfin:j1=Sort.scanDown (fun x => !lt x D9[a]!) D9 i1 j0:=by
                rw[←hs.out]
                cases j1 with
                | zero=>rfl
                | succ k =>
                 unfold Sort.scanDown
                 rw[if_neg (fun h'=>b'n (hc.symm.trans h'))]
               clear hc hm hs
               have hRe:R=_:=hRl.out.trans (partLoop_eq D9 a i0 j0 i1 j1 hup.out hfin)
               replace hfin:=h'd hfin
               clear hup hfin hRl
               have hjn:j1<n:=by omega
               have h:=hR.out
               by_cases hij:i1>j1
               ·rw[if_pos hij] at hRe
                replace hRe:=h'd hRe
                have q1:(j1:Int)<(i1:Int):=by omega
                go_upto_region 21 with fail
                obtain ⟨W1,W2,s1,s2,hsw⟩:=h.drew.swp E.out wRowT (i:=j1) (j:=a) (by omega) (by omega)
                have e1:=h.drew.load E.out wRowT (i:=a) (by omega) _ rfl
                have e0:=h.drew.load E.out wRowT (i:=j1) (by omega) _ rfl
                have hsz:=Sort.size_swp D9 j1 a
                replace hsw:=h'd hsw
                replace hsz:=h'd hsz
                clear h
                generalize (enc D9[j1]!).toArray=xa at *
                generalize (enc D9[a]!).toArray=xb at *
                refine wp_region_swp 13 15 [some 163,some 164,some 165,some 166,some 167,some 168,some 169,some 170,some 171,some 172,some 173,some 174,some 175,none,some 176,none] [.slice (some ⟨g,0,none⟩) n cap,.int .i64 j1,.slice (some ⟨g,0,none⟩) n cap,.int .i64 a,.slice (some ⟨g,0,none⟩) n cap,.int .i64 a,.pointer (some ⟨g,a*10,none⟩),.agg xb,.slice (some ⟨g,0,none⟩) n cap,.int .i64 j1,.pointer (some ⟨g,j1*10,none⟩),.agg xa,.pointer (some ⟨g,j1*10,none⟩),undef,.pointer (some ⟨g,a*10,none⟩),undef] W1 W2 ?A4 ?hA4 (by kernel_rfl) rfl (by kernel_rfl) (by kernel_rfl) (by kernel_rfl) ?hrun4 48 48 (.tmp 175) (.tmp 170) (.tmp 176) (.tmp 174) rfl rfl ?hs4 ?ht4 ?hf4
                case hA4=>simp only[putL,Act.put,s'a,s'z,s's];rfl
                case hs4=>exact s1
                case ht4=>exact s2
                case hrun4 =>
                 simp only[RunL,RunOp]
                 clear hsw
                 have hbA:((j1:Nat):Int)<(n:Int):=by omega
                 have hbB:((a:Nat):Int)<(n:Int):=by omega
                 clear hsz
                 refine ⟨fun W=>rfl,fun W=>rfl,fun W=>rfl,fun W=>rfl,fun W=>rfl,fun W=>rfl,?_,e1,fun W=>rfl,fun W=>rfl,?_,e0,?_,trivial,?_,trivial,trivial⟩
                 all_goals (intro W;go_simp)
                clear s1 s2 e0 e1 W1
                go_wp2_with fail
                refine bodyPost_ret (results_tmp2 rfl _ _ _) rfl ?_
                rw[hT2.out,hRe.out]
                exact ⟨rfl,hsw.out⟩
               ·rw[if_neg hij,if_pos (by omega)] at hRe
                have q1:¬ (j1:Int)<(i1:Int):=by omega
                replace hRe:=h'd hRe
                go_upto_region 18 with fail
                obtain ⟨W1,W2,s1,s2,hsw⟩:=h.drew.swp E.out wRowT (i:=i1) (j:=j1) (by omega) (by omega)
                have e1:=h.drew.load E.out wRowT (i:=j1) (by omega) _ rfl
                have e0:=h.drew.load E.out wRowT (i:=i1) (by omega) _ rfl
                have hsz:=Sort.size_swp D9 i1 j1
                replace hsw:=h'd hsw
                replace hsz:=h'd hsz
                clear h
                generalize (enc D9[i1]!).toArray=xa at *
                generalize (enc D9[j1]!).toArray=xb at *
                refine wp_region_swp 13 15 [some 145,some 146,some 147,some 148,some 149,some 150,some 151,some 152,some 153,some 154,some 155,some 156,some 157,none,some 158,none] [.slice (some ⟨g,0,none⟩) n cap,.int .i64 i1,.slice (some ⟨g,0,none⟩) n cap,.int .i64 j1,.slice (some ⟨g,0,none⟩) n cap,.int .i64 j1,.pointer (some ⟨g,j1*10,none⟩),.agg xb,.slice (some ⟨g,0,none⟩) n cap,.int .i64 i1,.pointer (some ⟨g,i1*10,none⟩),.agg xa,.pointer (some ⟨g,i1*10,none⟩),undef,.pointer (some ⟨g,j1*10,none⟩),undef] W1 W2 ?A5 ?hA5 (by kernel_rfl) rfl (by kernel_rfl) (by kernel_rfl) (by kernel_rfl) ?hrun5 48 48 (.tmp 157) (.tmp 152) (.tmp 158) (.tmp 156) rfl rfl ?hs5 ?ht5 ?hf5
                case hA5=>simp only[putL,Act.put,s'a,s'z,s's];rfl
                case hs5=>exact s1
                case ht5=>exact s2
                case hrun5 =>
                 simp only[RunL,RunOp]
                 clear hsw
                 have hbA:((i1:Nat):Int)<(n:Int):=by omega
                 have hbB:((j1:Nat):Int)<(n:Int):=by omega
                 clear hsz
                 refine ⟨fun W=>rfl,fun W=>rfl,fun W=>rfl,fun W=>rfl,fun W=>rfl,fun W=>rfl,?_,e1,fun W=>rfl,fun W=>rfl,?_,e0,?_,trivial,?_,trivial,trivial⟩
                 all_goals (intro W;go_simp)
                clear s1 s2 e0 e1 W1
                go_wp2_with fail
                go_roundg ((j1-1)+1-(i1+1))
                case measure=>have:=hm0.out;omega
                case rel=>exact ⟨i1+1,j1-1,Sort.swp D9 i1 j1,by omega,by omega,by omega,rfl,by go_num,congrArg (Value.int .i64) (by omega),hsz.out.trans hE,hRe.out,hsw.out⟩
end
section
variable {α:Type} [Inhabited α] {enc:α→List Value} (E:RowE enc 10) {lt:α→α→Bool} {F:FuncId} (HC:CmpF enc lt F)
theorem partEqLoop_eq (D:Array α) (a I J i j:Nat) (hi:i=Sort.scanUp (fun x => !lt D[a]! x) D J I) (hj:j=Sort.scanDown (fun x=>lt D[a]! x) D i J) :
  Sort.partEqLoop lt a I J D=if i>j then (i,D) else if (j-1)+1-(i+1)<J+1-I then Sort.partEqLoop lt a (i+1) (j-1) (Sort.swp D i j) else (i,D):=by
 subst hi hj
 conv=>lhs;unfold Sort.partEqLoop
 rfl
include E HC
set_option maxHeartbeats 4000000 in
theorem parteqC_any (g n cap:Nat) (rest:List Value) (d:Array α) (a b pivot:Nat) (w:World) (h:RowC enc 48 w g rest d w) (hd:d.size=n) (hap:a≤pivot) (hpb:pivot<b) (hb:b≤n) (hn:n≤1099511627776) :
  Calls Tryz.prog 172 #[.slice (some ⟨g,0,none⟩) n cap,.int .i64 a,.int .i64 b,.int .i64 pivot,.func (.func F) #[] #[]] w fun e w' =>
   e=.returned (.int .i64 (Sort.partitionEqual lt d a b pivot).1)∧RowC enc 48 w g rest (Sort.partitionEqual lt d a b pivot).2 w':=by
 obtain ⟨R,hRR⟩:∃ R,R=Sort.partitionEqual lt d a b pivot:=⟨_,rfl⟩
 rw[←hRR]
 unfold Sort.partitionEqual at hRR
 have eJ:(b:Int)-1=((b-1:Nat):Int):=by omega
 have ia:(a:Int)<(n:Int):=by omega
 have ip:(pivot:Int)<(n:Int):=by omega
 replace hRR:=h'd hRR
 replace eJ:=h'd eJ
 have hEF:=HC.enters
 replace HC:=h'd HC.call
 replace E:=h'd E
 go_enter Tryz.func172,Tryz.ntmps172
 go_upto_region 1 with fail
 obtain ⟨W1,W2,s1,s2,hsw⟩:=h.drew.swp E.out wRowT (i:=a) (j:=pivot) (by omega) (by omega)
 have e1:=h.drew.load E.out wRowT (i:=pivot) (by omega) _ rfl
 have e0:=h.drew.load E.out wRowT (i:=a) (by omega) _ rfl
 have hsz:=Sort.size_swp d a pivot
 replace hsw:=h'd hsw
 replace hsz:=h'd hsz
 clear h
 generalize (enc d[a]!).toArray=xa at *
 generalize (enc d[pivot]!).toArray=xb at *
 refine wp_region_swp 13 15 [some 13,some 14,some 15,some 16,some 17,some 18,some 19,some 20,some 21,some 22,some 23,some 24,some 25,none,some 26,none] [.slice (some ⟨g,0,none⟩) n cap,.int .i64 a,.slice (some ⟨g,0,none⟩) n cap,.int .i64 pivot,.slice (some ⟨g,0,none⟩) n cap,.int .i64 pivot,.pointer (some ⟨g,pivot*10,none⟩),.agg xb,.slice (some ⟨g,0,none⟩) n cap,.int .i64 a,.pointer (some ⟨g,a*10,none⟩),.agg xa,.pointer (some ⟨g,a*10,none⟩),undef,.pointer (some ⟨g,pivot*10,none⟩),undef] W1 W2 ?A1 ?hA1 (by kernel_rfl) rfl (by kernel_rfl) (by kernel_rfl) (by kernel_rfl) ?hrun1 48 48 (.tmp 25) (.tmp 20) (.tmp 26) (.tmp 24) rfl rfl ?hs1 ?ht1 ?hf1
 case hA1=>simp only[putL,Act.put,s'a,s'z,s's];rfl
 case hs1=>exact s1
 case ht1=>exact s2
 case hrun1 =>
  simp only[RunL,RunOp]
  clear hsw
  have hbA:((a:Nat):Int)<(n:Int):=by omega
  have hbB:((pivot:Nat):Int)<(n:Int):=by omega
  clear hsz
  refine ⟨fun W=>rfl,fun W=>rfl,fun W=>rfl,fun W=>rfl,fun W=>rfl,fun W=>rfl,?_,e1,fun W=>rfl,fun W=>rfl,?_,e0,?_,trivial,?_,trivial,trivial⟩
  all_goals (intro W;go_simp)
 clear s1 s2 e0 e1 W1
 replace hsz:=hsz.out.trans hd
 have hR:=hsw.out
 generalize W2=w1 at *
 clear hsw
 replace hRR:=hRR.out
 generalize Sort.swp d a pivot=D at *
 replace hRR:=h'd hRR
 replace hR:=h'd hR
 go_wp2_with fail
 go_loopg [11,12] ((b-1)+1-(a+1)) (fun m v u wr=>∃ (i0 j0:Nat) (D9:Array α),a<i0∧i0≤n∧j0<n∧m=j0+1-i0∧v=.int .i64 i0∧u=.int .i64 j0∧D9.size=n∧R=Sort.partEqLoop lt a i0 j0 D9∧RowC enc 48 w g rest D9 wr)
 case atStart=>exact ⟨a+1,b-1,D,by omega,by omega,by omega,rfl,by go_num,congrArg (Value.int .i64) eJ.out,hsz,hRR.out,hR.out⟩
 case round =>
  clear hR hRR hsz
  obtain ⟨i0,j0,D9,hai,hin0,hjn0,hm0,rfl,rfl,hE,hRl,hR⟩:=hrel
  obtain ⟨w5,rfl⟩:∃ x:World,x=wr:=⟨_,rfl⟩
  replace hm0:=h'd hm0
  replace hRl:=h'd hRl
  replace hR:=h'd hR
  go_wp2_with fail
  go_loopg [11] (j0+1-i0) (fun m v wr=>∃ i1:Nat,(i0≤i1∧i1≤n)∧m=j0+1-i1∧v=.int .i64 i1∧Sort.scanUp (fun x => !lt D9[a]! x) D9 j0 i1=Sort.scanUp (fun x => !lt D9[a]! x) D9 j0 i0∧RowC enc 48 w g rest D9 wr)
  case atStart=>exact ⟨i0,by omega,rfl,by first | rfl | go_num,rfl,hR.out⟩
  case round =>
   clear hR
   obtain ⟨i1,hv,hm,rfl,hs,hR⟩:=hrel
   obtain ⟨w2,rfl⟩:∃ x:World,x=wr:=⟨_,rfl⟩
   replace hm:=h'd hm
   replace hs:=h'd hs
   replace hR:=h'd hR
   go_upto_region 3 with fail
   go_cut [47] (fun v wx=>v=.bool (decide (i1≤j0) && !lt D9[a]! D9[i1]!)∧RowC enc 48 w g rest D9 wx)
   case first =>
    by_cases hg:i1≤j0
    ·have dg:decide (((i1:Nat):Int)≤((j0:Nat):Int))=true:=d't (by omega)
     have dg':decide (i1≤j0)=true:=d't hg
     have c1:=hR.out.load E.out wRowT (i:=i1) (by omega)
     have c0:=hR.out.load E.out wRowT (i:=a) (by omega)
     have i1':(i1:Int)<(n:Int):=by omega
     have i0':(a:Int)<(n:Int):=by omega
     obtain ⟨x,hx⟩:∃ x,x=D9[i1]!:=⟨_,rfl⟩
     obtain ⟨y,hy⟩:∃ y,y=D9[a]!:=⟨_,rfl⟩
     rw[←hx] at c1
     rw[←hy] at c0
     replace hx:=h'd hx
     replace hy:=h'd hy
     refine wp_region_still_tail 13 (by kernel_rfl) (by kernel_rfl) ?_
     simp only[List.take_succ_cons,List.take_zero,List.drop_succ_cons,List.drop_zero]
     repeat (first | (refine wpStill_load rfl 48 _ rfl _ (c1 _ rfl) ?_;try simp only[Act.put,s'a,s'z,s's]) | (refine wpStill_load rfl 48 _ rfl _ (c0 _ rfl) ?_;try simp only[Act.put,s'a,s'z,s's]) | still_step)
     refine wpStill_nil ?_
     go_wp2_with (refine c'm (HC.out _ _ _) ?_;rintro e w3 ⟨c,rfl,hc,hB3⟩;have hr3:=hR.out.drew.call hB3)
     go_meet
     case rel=>exact ⟨by rw[←hx.out,←hy.out,←hc];simp[hg],hr3⟩
    ·have dg:decide (((i1:Nat):Int)≤((j0:Nat):Int))=false:=d'f (by omega)
     have dg':decide (i1≤j0)=false:=d'f hg
     go_quiet (fail)
     go_wp2_with fail
     go_meet
     case rel=>exact ⟨by simp[hg],hR.out.drewN nq⟩
   case rest =>
    obtain ⟨rfl,hR2⟩:=hcut
    clear hR
    have hR:=h'd hR2
    clear hR2
    cases hc:(decide (i1≤j0) && !lt D9[a]! D9[i1]!) with
    | true =>
     have hb':i1≤j0:=by
      simp only[Bool.and_eq_true,decide_eq_true_eq] at hc
      exact hc.1
     have hs2:Sort.scanUp (fun x => !lt D9[a]! x) D9 j0 (i1+1)=Sort.scanUp (fun x => !lt D9[a]! x) D9 j0 i0:=by
      rw[←hs.out]
      conv=>rhs;unfold Sort.scanUp
      rw[if_pos hc]
     replace hs2:=h'd hs2
     clear hc
     go_wp2_with fail
     go_roundg (j0+1-(i1+1))
     case measure=>have:=hm.out;omega
     case rel=>exact ⟨i1+1,by omega,rfl,by go_num,hs2.out,hR.out⟩
    | false =>
     have hfin:i1=Sort.scanUp (fun x => !lt D9[a]! x) D9 j0 i0:=by
      rw[←hs.out]
      unfold Sort.scanUp
      rw[if_neg (fun h'=>b'n (hc.symm.trans h'))]
     clear hc hm hs
     have hi1:=hv.1
     have hi1n:=hv.2
     have hup:=h'd hfin
     clear hfin hv
     go_wp2_with fail
     go_loopg [12] (j0) (fun m v wr=>∃ j1:Nat,(j1≤j0)∧m=j1∧v=.int .i64 j1∧Sort.scanDown (fun x=>lt D9[a]! x) D9 i1 j1=Sort.scanDown (fun x=>lt D9[a]! x) D9 i1 j0∧RowC enc 48 w g rest D9 wr)
     case atStart=>exact ⟨j0,by omega,rfl,by first | rfl | go_num,rfl,hR.out⟩
     case round =>
      clear hR
      obtain ⟨j1,hv,hm,rfl,hs,hR⟩:=hrel
      obtain ⟨w2,rfl⟩:∃ x:World,x=wr:=⟨_,rfl⟩
      replace hm:=h'd hm
      replace hs:=h'd hs
      replace hR:=h'd hR
      go_upto_region 5 with fail
      go_cut [65] (fun v wx=>v=.bool (decide (i1≤j1) && lt D9[a]! D9[j1]!)∧RowC enc 48 w g rest D9 wx)
      case first =>
       by_cases hg:i1≤j1
       ·have dg:decide (((i1:Nat):Int)≤((j1:Nat):Int))=true:=d't (by omega)
        have dg':decide (i1≤j1)=true:=d't hg
        have c1:=hR.out.load E.out wRowT (i:=j1) (by omega)
        have c0:=hR.out.load E.out wRowT (i:=a) (by omega)
        have i1':(j1:Int)<(n:Int):=by omega
        have i0':(a:Int)<(n:Int):=by omega
        obtain ⟨x,hx⟩:∃ x,x=D9[j1]!:=⟨_,rfl⟩
        obtain ⟨y,hy⟩:∃ y,y=D9[a]!:=⟨_,rfl⟩
        rw[←hx] at c1
        rw[←hy] at c0
        replace hx:=h'd hx
        replace hy:=h'd hy
        refine wp_region_still_tail 13 (by kernel_rfl) (by kernel_rfl) ?_
        simp only[List.take_succ_cons,List.take_zero,List.drop_succ_cons,List.drop_zero]
        repeat (first | (refine wpStill_load rfl 48 _ rfl _ (c1 _ rfl) ?_;try simp only[Act.put,s'a,s'z,s's]) | (refine wpStill_load rfl 48 _ rfl _ (c0 _ rfl) ?_;try simp only[Act.put,s'a,s'z,s's]) | still_step)
        refine wpStill_nil ?_
        go_wp2_with (refine c'm (HC.out _ _ _) ?_;rintro e w3 ⟨c,rfl,hc,hB3⟩;have hr3:=hR.out.drew.call hB3)
        go_meet
        case rel=>exact ⟨by rw[←hx.out,←hy.out,←hc];simp[hg],hr3⟩
       ·have dg:decide (((i1:Nat):Int)≤((j1:Nat):Int))=false:=d'f (by omega)
        have dg':decide (i1≤j1)=false:=d'f hg
        go_quiet (fail)
        go_wp2_with fail
        go_meet
        case rel=>exact ⟨by simp[hg],hR.out.drewN nq⟩
      case rest =>
       obtain ⟨rfl,hR2⟩:=hcut
       clear hR
       have hR:=h'd hR2
       clear hR2
       cases hc:(decide (i1≤j1) && lt D9[a]! D9[j1]!) with
       | true =>
        have hb':i1≤j1:=by
         simp only[Bool.and_eq_true,decide_eq_true_eq] at hc
         exact hc.1
        have hs2:Sort.scanDown (fun x=>lt D9[a]! x) D9 i1 (j1-1)=Sort.scanDown (fun x=>lt D9[a]! x) D9 i1 j0:=by
         rw[←hs.out]
         obtain ⟨k,rfl⟩:∃ k,j1=k+1:=⟨j1-1,by omega⟩
         conv=>rhs;unfold Sort.scanDown
         rw[if_pos hc]
         rfl
        replace hs2:=h'd hs2
        clear hc
        go_wp2_with fail
        go_roundg ((j1-1))
        case measure=>have:=hm.out;omega
        case rel=>exact ⟨j1-1,by omega,rfl,congrArg (Value.int .i64) (by omega),hs2.out,hR.out⟩
       | false =>
        have hfin:j1=Sort.scanDown (fun x=>lt D9[a]! x) D9 i1 j0:=by
         rw[←hs.out]
         cases j1 with
         | zero=>rfl
         | succ k =>
          unfold Sort.scanDown
          rw[if_neg (fun h'=>b'n (hc.symm.trans h'))]
        clear hc hm hs
        have hRe:R=_:=hRl.out.trans (partEqLoop_eq D9 a i0 j0 i1 j1 hup.out hfin)
        replace hfin:=h'd hfin
        clear hup hfin hRl
        have hjn:j1<n:=by omega
        have h:=hR.out
        by_cases hij:i1>j1
        ·rw[if_pos hij] at hRe
         replace hRe:=h'd hRe
         have q1:(j1:Int)<(i1:Int):=by omega
         clear h
         go_wp2_with fail
         go_ret
         rw[hRe.out]
         exact ⟨rfl,hR.out⟩
        ·rw[if_neg hij,if_pos (by omega)] at hRe
         have q1:¬ (j1:Int)<(i1:Int):=by omega
         replace hRe:=h'd hRe
         go_upto_region 8 with fail
         obtain ⟨W1,W2,s1,s2,hsw⟩:=h.drew.swp E.out wRowT (i:=i1) (j:=j1) (by omega) (by omega)
         have e1:=h.drew.load E.out wRowT (i:=j1) (by omega) _ rfl
         have e0:=h.drew.load E.out wRowT (i:=i1) (by omega) _ rfl
         have hsz:=Sort.size_swp D9 i1 j1
         replace hsw:=h'd hsw
         replace hsz:=h'd hsz
         clear h
         generalize (enc D9[i1]!).toArray=xa at *
         generalize (enc D9[j1]!).toArray=xb at *
         refine wp_region_swp 13 15 [some 71,some 72,some 73,some 74,some 75,some 76,some 77,some 78,some 79,some 80,some 81,some 82,some 83,none,some 84,none] [.slice (some ⟨g,0,none⟩) n cap,.int .i64 i1,.slice (some ⟨g,0,none⟩) n cap,.int .i64 j1,.slice (some ⟨g,0,none⟩) n cap,.int .i64 j1,.pointer (some ⟨g,j1*10,none⟩),.agg xb,.slice (some ⟨g,0,none⟩) n cap,.int .i64 i1,.pointer (some ⟨g,i1*10,none⟩),.agg xa,.pointer (some ⟨g,i1*10,none⟩),undef,.pointer (some ⟨g,j1*10,none⟩),undef] W1 W2 ?A2 ?hA2 (by kernel_rfl) rfl (by kernel_rfl) (by kernel_rfl) (by kernel_rfl) ?hrun2 48 48 (.tmp 83) (.tmp 78) (.tmp 84) (.tmp 82) rfl rfl ?hs2 ?ht2 ?hf2
         case hA2=>simp only[putL,Act.put,s'a,s'z,s's];rfl
         case hs2=>exact s1
         case ht2=>exact s2
         case hrun2 =>
          simp only[RunL,RunOp]
          clear hsw
          have hbA:((i1:Nat):Int)<(n:Int):=by omega
          have hbB:((j1:Nat):Int)<(n:Int):=by omega
          clear hsz
          refine ⟨fun W=>rfl,fun W=>rfl,fun W=>rfl,fun W=>rfl,fun W=>rfl,fun W=>rfl,?_,e1,fun W=>rfl,fun W=>rfl,?_,e0,?_,trivial,?_,trivial,trivial⟩
          all_goals (intro W;go_simp)
         clear s1 s2 e0 e1 W1
         go_wp2_with fail
         go_roundg ((j1-1)+1-(i1+1))
         case measure=>have:=hm0.out;omega
         case rel=>exact ⟨i1+1,j1-1,Sort.swp D9 i1 j1,by omega,by omega,by omega,rfl,by go_num,congrArg (Value.int .i64) (by omega),hsz.out.trans hE,hRe.out,hsw.out⟩
end
section
variable {α:Type} [Inhabited α] {enc:α→List Value} (E:RowE enc 10) {lt:α→α→Bool} {F:FuncId} (HC:CmpF enc lt F)
theorem sizeC_shiftDown (j:Nat):∀ d:Array α,(Sort.shiftDown lt j d).size=d.size:=by
 induction j with
 | zero=>intro d;rfl
 | succ j ih =>
  intro d
  unfold Sort.shiftDown
  split
  ·rfl
  ·rw[ih,Sort.size_swp]
theorem sizeC_shiftUp (b:Nat):∀ (f j:Nat) (d:Array α),b-j≤f→(Sort.shiftUp lt b j d).size=d.size:=by
 intro f
 induction f with
 | zero =>
  intro j d hf
  unfold Sort.shiftUp
  rw[if_neg (by omega)]
 | succ f ih =>
  intro j d hf
  unfold Sort.shiftUp
  split
  ·split
   ·rfl
   ·rw[ih _ _ (by omega),Sort.size_swp]
  ·rfl
include E HC
set_option maxHeartbeats 4000000 in
theorem pinsC_any (g n cap:Nat) (rest:List Value) (d:Array α) (a b:Nat) (w:World) (h:RowC enc 48 w g rest d w) (hd:d.size=n) (hab:a<b) (hb:b≤n) (hn:n≤1099511627776) :
  Calls Tryz.prog 171 #[.slice (some ⟨g,0,none⟩) n cap,.int .i64 a,.int .i64 b,.func (.func F) #[] #[]] w fun e w' =>
   e=.returned (.bool (Sort.partialInsertionSort lt d a b).2)∧RowC enc 48 w g rest (Sort.partialInsertionSort lt d a b).1 w':=by
 obtain ⟨R,hRR⟩:∃ R,R=Sort.partialInsertionSort lt d a b:=⟨_,rfl⟩
 rw[←hRR]
 unfold Sort.partialInsertionSort at hRR
 replace hRR:=h'd hRR
 have hEF:=HC.enters
 replace HC:=h'd HC.call
 replace E:=h'd E
 go_enter Tryz.func171,Tryz.ntmps171
 go_wp2_with fail
 go_loopg [9,10] 5 (fun m v u wr=>∃ (s i0:Nat) (D:Array α),s≤5∧s=m∧a<i0∧i0≤b∧v=.int .i64 i0∧u=.int .i64 (5-(s:Int))∧D.size=n∧R=Sort.partialIns lt a b s i0 D∧RowC enc 48 w g rest D wr)
 case atStart=>exact ⟨5,a+1,d,by omega,rfl,by omega,by omega,by go_num,rfl,hd,hRR.out,h⟩
 case round =>
  clear h hRR
  obtain ⟨s,i0,D,hs5,hsm,hai,hib,rfl,rfl,hD,hRl,hR⟩:=hrel
  obtain ⟨w1,rfl⟩:∃ x:World,x=wr:=⟨_,rfl⟩
  cases s with
  | zero =>
   have hRe:R=(D,false):=hRl
   replace hRe:=h'd hRe
   replace hR:=h'd hR
   clear hRl
   go_wp2_with fail
   go_ret
   rw[hRe.out]
   exact ⟨rfl,hR.out⟩
  | succ s =>
   rw[Sort.partialIns_succ] at hRl
   replace hRl:=h'd hRl
   replace hR:=h'd hR
   replace hsm:=h'd hsm
   have s5:(5:Int)-((s+1:Nat):Int)<5:=by omega
   have s6:(5:Int)-((s:Int)+1)<5:=by omega
   have s7:decide ((5:Int)-((s:Int)+1)<5)=true:=d't s6
   go_wp2_with fail
   go_loopg [9] (b-i0) (fun m v wr=>∃ i1:Nat,(i0≤i1∧i1≤b)∧m=b-i1∧v=.int .i64 i1∧Sort.scanSorted lt D b i1=Sort.scanSorted lt D b i0∧RowC enc 48 w g rest D wr)
   case atStart=>exact ⟨i0,by omega,rfl,rfl,rfl,hR.out⟩
   case round =>
    clear hR
    obtain ⟨i1,hv,hm,rfl,hs,hR⟩:=hrel
    obtain ⟨w2,rfl⟩:∃ x:World,x=wr:=⟨_,rfl⟩
    replace hm:=h'd hm
    replace hs:=h'd hs
    replace hR:=h'd hR
    go_upto_region 5 with fail
    go_cut [36] (fun v wx=>v=.bool (decide (i1<b) && !lt D[i1]! D[i1-1]!)∧RowC enc 48 w g rest D wx)
    case first =>
     by_cases hg:i1<b
     ·have dg:decide ((i1:Int)<(b:Int))=true:=d't (by omega)
      have dg':decide (i1<b)=true:=d't hg
      have iw1:IntKind.i64.wrap ((i1:Int)-1)=(i1:Int)-1:=IntWalk.i64_in _ (by omega)
      have im:(0:Int)≤(i1:Int)-1:=by omega
      have ip1:(1:Int)≤(i1:Int):=by omega
      have ip2:1≤i1:=by omega
      have im2:(i1:Int)-1<(n:Int):=by omega
      have im3:(i1:Int)<(n:Int):=by omega
      have tn:((i1:Int)-1).toNat=i1-1:=by omega
      have c1:=hR.out.load E.out wRowT (i:=i1) (by omega)
      have c0:=hR.out.load E.out wRowT (i:=i1-1) (by omega)
      obtain ⟨x,hx⟩:∃ x,x=D[i1]!:=⟨_,rfl⟩
      obtain ⟨y,hy⟩:∃ y,y=D[i1-1]!:=⟨_,rfl⟩
      rw[←hx] at c1
      rw[←hy] at c0
      replace hx:=h'd hx
      replace hy:=h'd hy
      refine wp_region_still_tail 14 (by kernel_rfl) (by kernel_rfl) ?_
      simp only[List.take_succ_cons,List.take_zero,List.drop_succ_cons,List.drop_zero]
      repeat (first | (refine wpStill_load rfl 48 _ rfl _ (c1 _ rfl) ?_;try simp only[Act.put,s'a,s'z,s's]) | (refine wpStill_load rfl 48 _ rfl _ (c0 _ rfl) ?_;try simp only[Act.put,s'a,s'z,s's]) | still_step)
      refine wpStill_nil ?_
      go_wp2_with (refine c'm (HC.out _ _ _) ?_;rintro e w3 ⟨c,rfl,hc,hB3⟩;have hr3:=hR.out.drew.call hB3)
      go_meet
      case rel=>exact ⟨by rw[←hx.out,←hy.out,←hc];simp[hg],hr3⟩
     ·have dg:decide ((i1:Int)<(b:Int))=false:=d'f (by omega)
      have dg':decide (i1<b)=false:=d'f hg
      go_quiet (fail)
      go_wp2_with fail
      go_meet
      case rel=>exact ⟨by simp[hg],hR.out.drewN nq⟩
    case rest =>
     obtain ⟨rfl,hR2⟩:=hcut
     clear hR
     have hR:=h'd hR2
     clear hR2
     cases hc:(decide (i1<b) && !lt D[i1]! D[i1-1]!) with
     | true =>
      have hb':i1<b:=by
       simp only[Bool.and_eq_true,decide_eq_true_eq] at hc
       exact hc.1
      have hs2:Sort.scanSorted lt D b (i1+1)=Sort.scanSorted lt D b i0:=by
       rw[←hs.out]
       conv=>rhs;unfold Sort.scanSorted
       rw[if_pos hc]
      replace hs2:=h'd hs2
      clear hc
      go_wp2_with fail
      go_roundg (b-(i1+1))
      case measure=>have:=hm.out;omega
      case rel=>exact ⟨i1+1,by omega,rfl,by go_num,hs2.out,hR.out⟩
     | false =>
      have hfin:i1=Sort.scanSorted lt D b i0:=by
       rw[←hs.out]
       unfold Sort.scanSorted
       rw[if_neg (fun h'=>b'n (hc.symm.trans h'))]
      replace hRl:=hRl.out
      simp only[←hfin] at hRl
      obtain ⟨hv1,hv2⟩:=hv
      clear hc hm hs hfin
      by_cases hib2:i1=b
      ·rw[if_pos hib2] at hRl
       have q1:((i1:Int)==(b:Int))=true:=by simp;omega
       subst hib2
       replace hRl:=h'd hRl
       go_wp2_with fail
       go_ret
       rw[hRl.out]
       exact ⟨rfl,hR.out⟩
      ·rw[if_neg hib2] at hRl
       have q1:((i1:Int)==(b:Int))=false:=by simp;omega
       have q1':¬ (i1:Int)=(b:Int):=by omega
       by_cases h50:b-a<50
       ·rw[if_pos h50] at hRl
        have q2:(b:Int)-(a:Int)<50:=by omega
        replace hRl:=h'd hRl
        go_wp2_with fail
        go_ret
        rw[hRl.out]
        exact ⟨rfl,hR.out⟩
       ·rw[if_neg h50] at hRl
        have q2:¬ (b:Int)-(a:Int)<50:=by omega
        replace hRl:=h'd hRl
        have hin:i1<n:=by omega
        have h:=hR.out
        have iw1:IntKind.i64.wrap ((i1:Int)-1)=(i1:Int)-1:=IntWalk.i64_in _ (by omega)
        have im:(0:Int)≤(i1:Int)-1:=by omega
        have im2:(i1:Int)-1<(n:Int):=by omega
        have im3:(i1:Int)<(n:Int):=by omega
        have im4:(1:Int)≤(i1:Int):=by omega
        have tn:((i1:Int)-1).toNat=i1-1:=by omega
        go_upto_region 11 with fail
        obtain ⟨W1,W2,s1,s2,hsw⟩:=h.drew.swp E.out wRowT (i:=i1) (j:=i1-1) (by omega) (by omega)
        have e1:=h.drew.load E.out wRowT (i:=i1-1) (by omega) _ rfl
        have e0:=h.drew.load E.out wRowT (i:=i1) (by omega) _ rfl
        have hsz:=Sort.size_swp D i1 (i1-1)
        replace hsw:=h'd hsw
        replace hsz:=h'd hsz
        clear h
        generalize (enc D[i1]!).toArray=xa at *
        generalize (enc D[i1-1]!).toArray=xb at *
        refine wp_region_swp 15 17 [some 46,some 47,some 48,some 49,some 50,some 51,some 52,some 53,some 54,some 55,some 56,some 57,some 58,some 59,some 60,none,some 61,none] [.slice (some ⟨g,0,none⟩) n cap,.int .i64 i1,.slice (some ⟨g,0,none⟩) n cap,.int .i64 i1,.int .i64 ((i1:Int)-1),.slice (some ⟨g,0,none⟩) n cap,.int .i64 i1,.int .i64 ((i1:Int)-1),.pointer (some ⟨g,(i1-1)*10,none⟩),.agg xb,.slice (some ⟨g,0,none⟩) n cap,.int .i64 i1,.pointer (some ⟨g,i1*10,none⟩),.agg xa,.pointer (some ⟨g,i1*10,none⟩),undef,.pointer (some ⟨g,(i1-1)*10,none⟩),undef] W1 W2 ?A3 ?hA3 (by kernel_rfl) rfl (by kernel_rfl) (by kernel_rfl) (by kernel_rfl) ?hrun3 48 48 (.tmp 60) (.tmp 55) (.tmp 61) (.tmp 59) rfl rfl ?hs3 ?ht3 ?hf3
        case hA3=>simp only[putL,Act.put,s'a,s'z,s's];rfl
        case hs3=>exact s1
        case ht3=>exact s2
        case hrun3 =>
         simp only[RunL,RunOp]
         clear hsw
         have hbA:((i1:Nat):Int)<(n:Int):=by omega
         have hbB:((i1-1:Nat):Int)<(n:Int):=by omega
         clear hsz
         refine ⟨fun W=>rfl,fun W=>rfl,fun W=>rfl,fun W=>rfl,?_,fun W=>rfl,fun W=>rfl,?_,?_,e1,fun W=>rfl,fun W=>rfl,?_,e0,?_,trivial,?_,trivial,trivial⟩
         all_goals (intro W;go_simp)
        clear s1 s2 e0 e1 W1
        replace hsz:=hsz.out.trans hD
        have hR:=h'd hsw.out
        replace hRl:=hRl.out
        generalize W2=w4 at *
        generalize Sort.swp D i1 (i1-1)=D2 at *
        replace hRl:=h'd hRl
        clear hsw
        have hz3:(Sort.fixDown lt a i1 D2).size=n:=by
         unfold Sort.fixDown
         split
         ·rw[sizeC_shiftDown];exact hsz
         ·exact hsz
        have hz4:(Sort.fixUp lt b i1 (Sort.fixDown lt a i1 D2)).size=n:=by
         unfold Sort.fixUp
         split
         ·rw[sizeC_shiftUp (lt:=lt) b b _ _ (by omega)];exact hz3
         ·exact hz3
        go_upto_if 65 with fail
        go_cut [11] (fun _ wx=>RowC enc 48 w g rest (Sort.fixDown lt a i1 D2) wx)
        case first =>
         by_cases h2:i1-a≥2
         ·have hfd:Sort.fixDown lt a i1 D2=Sort.shiftDown lt (i1-1) D2:=if_pos h2
          have q3:(2:Int)≤(i1:Int)-(a:Int):=by omega
          replace hfd:=h'd hfd
          go_wp2_with fail
          go_loopg [11] (i1-1) (fun m v wr=>∃ (j:Nat) (D9:Array α),j≤i1-1∧j=m∧v=.int .i64 j∧D9.size=n∧Sort.shiftDown lt j D9=Sort.shiftDown lt (i1-1) D2∧RowC enc 48 w g rest D9 wr)
          case atStart=>exact ⟨i1-1,D2,n'r _,rfl,congrArg (Value.int .i64) (by omega),hsz,rfl,hR.out⟩
          case round =>
           clear hR
           obtain ⟨j,D9,hj,hjm,rfl,hE,hse,hR⟩:=hrel
           obtain ⟨w5,rfl⟩:∃ x:World,x=wr:=⟨_,rfl⟩
           replace hjm:=h'd hjm
           cases j with
           | zero =>
            have hse':D9=Sort.shiftDown lt (i1-1) D2:=hse
            replace hse':=h'd hse'
            clear hse
            replace hR:=h'd hR
            go_wp2_with fail
            go_meet
            case rel=>rw[hfd.out,←hse'.out];exact hR.out
           | succ k =>
            have c1:=hR.load E.out wRowT (i:=k+1) (by omega)
            have c0:=hR.load E.out wRowT (i:=k) (by omega)
            have hsz2:=(Sort.size_swp D9 (k+1) k).trans hE
            have k1:(k:Int)+1<(n:Int):=by omega
            have k2:(0:Int)≤(k:Int)+1:=by omega
            have k3:(k:Int)<(n:Int):=by omega
            have iw:IntKind.i64.wrap (k:Int)=(k:Int):=IntWalk.i64_in _ (by omega)
            rcases hlt:lt D9[k+1]! D9[k]! with _ | _
            ·have hse':D9=Sort.shiftDown lt (i1-1) D2:=by
              rw[←hse]
              unfold Sort.shiftDown
              rw[if_pos (by simp[hlt])]
             replace hse':=h'd hse'
             replace hlt:=h'd hlt
             replace hR:=h'd hR
             clear hse hsz2
             generalize D9[k+1]! = x1 at *
             generalize D9[k]! = x0 at *
             go_wp2_with fail
             refine wp_region_still_tail 10 (by kernel_rfl) (by kernel_rfl) ?_
             simp only[List.take_succ_cons,List.take_zero,List.drop_succ_cons,List.drop_zero]
             repeat (first | (refine wpStill_load rfl 48 _ rfl _ (c1 _ rfl) ?_;try simp only[Act.put,s'a,s'z,s's]) | (refine wpStill_load rfl 48 _ rfl _ (c0 _ rfl) ?_;try simp only[Act.put,s'a,s'z,s's]) | still_step)
             refine wpStill_nil ?_
             go_wp2_with (refine c'm (HC.out _ _ _) ?_;rintro e w3 ⟨c,rfl,hc,hB3⟩;rw[hlt.out] at hc;have hcp:¬ c<0:=of_decide_eq_false hc;have hr3:=hR.out.drew.call hB3)
             go_meet
             case rel=>rw[hfd.out,←hse'.out];exact hr3
            ·have hse':Sort.shiftDown lt k (Sort.swp D9 (k+1) k)=Sort.shiftDown lt (i1-1) D2:=by
              rw[←hse]
              conv=>rhs;unfold Sort.shiftDown
              rw[if_neg (by simp[hlt])]
             replace hse':=h'd hse'
             replace hlt:=h'd hlt
             replace hsz2:=h'd hsz2
             replace hR:=h'd hR;clear hse
             generalize D9[k+1]! = x1 at *
             generalize D9[k]! = x0 at *
             go_wp2_with fail
             refine wp_region_still_tail 10 (by kernel_rfl) (by kernel_rfl) ?_
             simp only[List.take_succ_cons,List.take_zero,List.drop_succ_cons,List.drop_zero]
             repeat (first | (refine wpStill_load rfl 48 _ rfl _ (c1 _ rfl) ?_;try simp only[Act.put,s'a,s'z,s's]) | (refine wpStill_load rfl 48 _ rfl _ (c0 _ rfl) ?_;try simp only[Act.put,s'a,s'z,s's]) | still_step)
             refine wpStill_nil ?_
             go_upto_region 17 with (refine c'm (HC.out _ _ _) ?_;rintro e w3 ⟨c,rfl,hc,hB3⟩;rw[hlt.out] at hc;have hcp:c<0:=of_decide_eq_true hc;have hr3:=hR.out.drew.call hB3)
             clear c1 c0 hc hcp hB3
             obtain ⟨W1,W2,s1,s2,hsw⟩:=hr3.drew.swp E.out wRowT (i:=k+1) (j:=k) (by omega) (by omega)
             have e1:=hr3.drew.load E.out wRowT (i:=k) (by omega) _ rfl
             have e0:=hr3.drew.load E.out wRowT (i:=k+1) (by omega) _ rfl
             replace hsw:=h'd hsw
             clear hr3
             generalize (enc D9[k+1]!).toArray=xa at *
             generalize (enc D9[k]!).toArray=xb at *
             refine wp_region_swp 15 17 [some 85,some 86,some 87,some 88,some 89,some 90,some 91,some 92,some 93,some 94,some 95,some 96,some 97,some 98,some 99,none,some 100,none] [.slice (some ⟨g,0,none⟩) n cap,.int .i64 ((k:Int)+1),.slice (some ⟨g,0,none⟩) n cap,.int .i64 ((k:Int)+1),.int .i64 k,.slice (some ⟨g,0,none⟩) n cap,.int .i64 ((k:Int)+1),.int .i64 k,.pointer (some ⟨g,k*10,none⟩),.agg xb,.slice (some ⟨g,0,none⟩) n cap,.int .i64 ((k:Int)+1),.pointer (some ⟨g,(k+1)*10,none⟩),.agg xa,.pointer (some ⟨g,(k+1)*10,none⟩),undef,.pointer (some ⟨g,k*10,none⟩),undef] W1 W2 ?A1 ?hA1 (by kernel_rfl) rfl (by kernel_rfl) (by kernel_rfl) (by kernel_rfl) ?hrun1 48 48 (.tmp 99) (.tmp 94) (.tmp 100) (.tmp 98) rfl rfl ?hs1 ?ht1 ?hf1
             case hA1=>simp only[putL,Act.put,s'a,s'z,s's];rfl
             case hs1=>exact s1
             case ht1=>exact s2
             case hrun1 =>
              simp only[RunL,RunOp]
              clear hsw
              have hbA:((k+1:Nat):Int)<(n:Int):=by omega
              have hbB:((k:Nat):Int)<(n:Int):=by omega
              refine ⟨fun W=>rfl,?_,fun W=>rfl,?_,?_,fun W=>rfl,?_,?_,?_,e1,fun W=>rfl,?_,?_,e0,?_,trivial,?_,trivial,trivial⟩
              all_goals (intro W;go_simp)
             clear s1 s2 e0 e1 W1
             go_wp2_with fail
             go_roundg k
             case measure=>have:=hjm.out;omega
             case rel=>exact ⟨k,Sort.swp D9 (k+1) k,by omega,rfl,by go_num,hsz2.out,hse'.out,hsw.out⟩
         ·have hfd:Sort.fixDown lt a i1 D2=D2:=if_neg h2
          have q3:¬ (2:Int)≤(i1:Int)-(a:Int):=by omega
          replace hfd:=h'd hfd
          go_wp2_with fail
          go_meet
          case rel=>rw[hfd.out];exact hR.out
        case rest =>
         clear hR
         have hR:=h'd hcut
         clear hcut
         replace hRl:=hRl.out
         generalize Sort.fixDown lt a i1 D2=D3 at *
         replace hRl:=h'd hRl
         go_upto_if 104 with fail
         by_cases h2:b-i1≥2
         ·have hfd:Sort.fixUp lt b i1 D3=Sort.shiftUp lt b (i1+1) D3:=if_pos h2
          have q3:(2:Int)≤(b:Int)-(i1:Int):=by omega
          replace hfd:=h'd hfd
          go_wp2_with fail
          go_loopg [12] (b-(i1+1)) (fun m v wr=>∃ (j:Nat) (D9:Array α),i1+1≤j∧j≤b∧m=b-j∧v=.int .i64 j∧D9.size=n∧Sort.shiftUp lt b j D9=Sort.shiftUp lt b (i1+1) D3∧RowC enc 48 w g rest D9 wr)
          case atStart=>exact ⟨i1+1,D3,n'r _,by omega,rfl,by go_num,hz3,rfl,hR.out⟩
          case round =>
           clear hR
           obtain ⟨j,D9,hj,hjb,hjm,rfl,hE,hse,hR⟩:=hrel
           obtain ⟨w5,rfl⟩:∃ x:World,x=wr:=⟨_,rfl⟩
           replace hjm:=h'd hjm
           by_cases hjl:j<b
           ·have c1:=hR.load E.out wRowT (i:=j) (by omega)
            have c0:=hR.load E.out wRowT (i:=j-1) (by omega)
            have hsz2:=(Sort.size_swp D9 j (j-1)).trans hE
            have k1:(j:Int)<(n:Int):=by omega
            have k2:(1:Int)≤(j:Int):=by omega
            have k3:(j:Int)-1<(n:Int):=by omega
            have k4:1≤j:=by omega
            have k5:(0:Int)≤(j:Int)-1:=by omega
            have k6:((j:Int)-1).toNat=j-1:=by omega
            have k7:(j:Int)<(b:Int):=by omega
            have hne:j≠j-1:=by omega
            have iw:IntKind.i64.wrap ((j:Int)-1)=(j:Int)-1:=IntWalk.i64_in _ (by omega)
            rcases hlt:lt D9[j]! D9[j-1]! with _ | _
            ·have hse':D9=Sort.shiftUp lt b (i1+1) D3:=by
              rw[←hse]
              unfold Sort.shiftUp
              rw[if_pos hjl,if_pos (by simp[hlt])]
             replace hse':=h'd hse'
             replace hlt:=h'd hlt
             replace hR:=h'd hR
             clear hse hsz2
             generalize D9[j]! = x1 at *
             generalize D9[j-1]! = x0 at *
             go_wp2_with fail
             refine wp_region_still_tail 10 (by kernel_rfl) (by kernel_rfl) ?_
             simp only[List.take_succ_cons,List.take_zero,List.drop_succ_cons,List.drop_zero]
             repeat (first | (refine wpStill_load rfl 48 _ rfl _ (c1 _ rfl) ?_;try simp only[Act.put,s'a,s'z,s's]) | (refine wpStill_load rfl 48 _ rfl _ (c0 _ rfl) ?_;try simp only[Act.put,s'a,s'z,s's]) | still_step)
             refine wpStill_nil ?_
             go_wp2_with (refine c'm (HC.out _ _ _) ?_;rintro e w3 ⟨c,rfl,hc,hB3⟩;rw[hlt.out] at hc;have hcp:¬ c<0:=of_decide_eq_false hc;have hr3:=hR.out.drew.call hB3)
             go_roundg s
             case measure=>have:=hsm.out;omega
             case rel=>exact ⟨s,i1,Sort.fixUp lt b i1 D3,by omega,rfl,by omega,by omega,rfl,congrArg (Value.int .i64) (by omega),hz4,hRl.out,by rw[hfd.out,←hse'.out];exact hr3⟩
            ·have hse':Sort.shiftUp lt b (j+1) (Sort.swp D9 j (j-1))=Sort.shiftUp lt b (i1+1) D3:=by
              rw[←hse]
              conv=>rhs;unfold Sort.shiftUp
              rw[if_pos hjl,if_neg (by simp[hlt])]
             replace hse':=h'd hse'
             replace hlt:=h'd hlt
             replace hsz2:=h'd hsz2
             replace hR:=h'd hR;clear hse
             generalize D9[j]! = x1 at *
             generalize D9[j-1]! = x0 at *
             go_wp2_with fail
             refine wp_region_still_tail 10 (by kernel_rfl) (by kernel_rfl) ?_
             simp only[List.take_succ_cons,List.take_zero,List.drop_succ_cons,List.drop_zero]
             repeat (first | (refine wpStill_load rfl 48 _ rfl _ (c1 _ rfl) ?_;try simp only[Act.put,s'a,s'z,s's]) | (refine wpStill_load rfl 48 _ rfl _ (c0 _ rfl) ?_;try simp only[Act.put,s'a,s'z,s's]) | still_step)
             refine wpStill_nil ?_
             go_upto_region 23 with (refine c'm (HC.out _ _ _) ?_;rintro e w3 ⟨c,rfl,hc,hB3⟩;rw[hlt.out] at hc;have hcp:c<0:=of_decide_eq_true hc;have hr3:=hR.out.drew.call hB3)
             clear c1 c0 hc hcp hB3
             obtain ⟨W1,W2,s1,s2,hsw⟩:=hr3.drew.swp E.out wRowT (i:=j) (j:=j-1) (by omega) (by omega)
             have e1:=hr3.drew.load E.out wRowT (i:=j-1) (by omega) _ rfl
             have e0:=hr3.drew.load E.out wRowT (i:=j) (by omega) _ rfl
             replace hsw:=h'd hsw
             clear hr3
             generalize (enc D9[j]!).toArray=xa at *
             generalize (enc D9[j-1]!).toArray=xb at *
             refine wp_region_swp 15 17 [some 125,some 126,some 127,some 128,some 129,some 130,some 131,some 132,some 133,some 134,some 135,some 136,some 137,some 138,some 139,none,some 140,none] [.slice (some ⟨g,0,none⟩) n cap,.int .i64 j,.slice (some ⟨g,0,none⟩) n cap,.int .i64 j,.int .i64 ((j:Int)-1),.slice (some ⟨g,0,none⟩) n cap,.int .i64 j,.int .i64 ((j:Int)-1),.pointer (some ⟨g,(j-1)*10,none⟩),.agg xb,.slice (some ⟨g,0,none⟩) n cap,.int .i64 j,.pointer (some ⟨g,j*10,none⟩),.agg xa,.pointer (some ⟨g,j*10,none⟩),undef,.pointer (some ⟨g,(j-1)*10,none⟩),undef] W1 W2 ?A2 ?hA2 (by kernel_rfl) rfl (by kernel_rfl) (by kernel_rfl) (by kernel_rfl) ?hrun2 48 48 (.tmp 139) (.tmp 134) (.tmp 140) (.tmp 138) rfl rfl ?hs2 ?ht2 ?hf2
             case hA2=>simp only[putL,Act.put,s'a,s'z,s's];rfl
             case hs2=>exact s1
             case ht2=>exact s2
             case hrun2 =>
              simp only[RunL,RunOp]
              clear hsw
              have hbA:((j:Nat):Int)<(n:Int):=by omega
              have hbB:((j-1:Nat):Int)<(n:Int):=by omega
              refine ⟨fun W=>rfl,?_,fun W=>rfl,?_,?_,fun W=>rfl,?_,?_,?_,e1,fun W=>rfl,?_,?_,e0,?_,trivial,?_,trivial,trivial⟩
              all_goals (intro W;go_simp)
             clear s1 s2 e0 e1 W1
             go_wp2_with fail
             go_roundg (b-(j+1))
             case measure=>have:=hjm.out;omega
             case rel=>exact ⟨j+1,Sort.swp D9 j (j-1),by omega,by omega,rfl,by go_num,hsz2.out,hse'.out,hsw.out⟩
           ·have hse':D9=Sort.shiftUp lt b (i1+1) D3:=by
             rw[←hse]
             unfold Sort.shiftUp
             rw[if_neg hjl]
            have k7:¬ (j:Int)<(b:Int):=by omega
            replace hse':=h'd hse'
            clear hse
            replace hR:=h'd hR
            go_wp2_with fail
            go_roundg s
            case measure=>have:=hsm.out;omega
            case rel=>exact ⟨s,i1,Sort.fixUp lt b i1 D3,by omega,rfl,by omega,by omega,rfl,congrArg (Value.int .i64) (by omega),hz4,hRl.out,by rw[hfd.out,←hse'.out];exact hR.out⟩
         ·have hfd:Sort.fixUp lt b i1 D3=D3:=if_neg h2
          have q3:¬ (2:Int)≤(b:Int)-(i1:Int):=by omega
          replace hfd:=h'd hfd
          go_wp2_with fail
          go_roundg s
          case measure=>have:=hsm.out;omega
          case rel=>exact ⟨s,i1,Sort.fixUp lt b i1 D3,by omega,rfl,by omega,by omega,rfl,congrArg (Value.int .i64) (by omega),hz4,hRl.out,by rw[hfd.out];exact hR.out⟩
end
end Go.Proofs.YtcknpofnpabkiaaGreat
