/- The document's Check: lodestarref03.Sums of all bytes, Whole, lodestarref06.Check. Conditions: the head's numbers are of their kinds, the body lies in memory. -/
import Derived.Test.YtcknpofnpabkiaaGreatGzAO
import Derived.Test.YtcknpofnpabkiaaGreatGzAR
set_option maxRecDepth 100000
namespace Go.Proofs.YtcknpofnpabkiaaGreat
open Go.RowKit Go.Lo
def sumsA (b:List Int):Nat→Int × Int
 | 0=>(0,0)
 | k+1=>(((sumsA b k).1+b.getD k 0)%255,((sumsA b k).2+((b.length:Int)-k)%255*b.getD k 0)%255)
theorem sumsA_range (b:List Int) (k:Nat):0≤(sumsA b k).1∧(sumsA b k).1<255∧0≤(sumsA b k).2∧(sumsA b k).2<255:=by
 cases k with
 | zero=>exact ⟨by simp[sumsA],by simp[sumsA],by simp[sumsA],by simp[sumsA]⟩
 | succ k =>
  unfold sumsA
  simp only
  omega
theorem sumsA_is (b:List Int):∀ k,k≤b.length→(sumsA b k).1=(addL (b.take k) (0,0)).1%255∧(sumsA b k).2=((addL (b.take k) (0,0)).2+((b.length:Int)-k)*(addL (b.take k) (0,0)).1)%255
 | 0,_=>by simp[sumsA,addL]
 | k+1,h=>by
  obtain ⟨h1,h2⟩:=sumsA_is b k (by omega)
  have hk:k<b.length:=by omega
  have e:b.getD k 0=b[k]:=by simp[List.getD_eq_getElem?_getD,List.getElem?_eq_getElem hk]
  rw[List.take_succ_eq_append_getElem hk,addL_snoc]
  generalize addL (b.take k) (0,0)=T at h1 h2 ⊢
  unfold sumsA
  rw[h1,h2,e]
  generalize b[k]=x
  obtain ⟨T1,T2⟩:=T
  simp only
  refine ⟨by rw[Int.emod_add_emod],?_⟩
  obtain ⟨d,hd⟩:∃ d:Int,d=(b.length:Int)-k:=⟨_,rfl⟩
  have hd1:(b.length:Int)-((k+1:Nat):Int)=d-1:=by omega
  rw[hd1,←hd,Int.emod_add_emod]
  have h3:(d%255*x)%255=(d*x)%255:=by rw[Int.mul_emod,Int.emod_emod_of_dvd _ (Int.dvd_refl _),←Int.mul_emod]
  rw[Int.add_emod,h3,←Int.add_emod]
  congr 1
  rw[Int.sub_mul,Int.mul_add,Int.one_mul]
  omega
theorem addL_mod (l:List Int):∀ c d:Int × Int,c.1%255=d.1%255→c.2%255=d.2%255→modC (addL l c)=modC (addL l d):=by
 induction l with
 | nil=>intro c d h1 h2;simp[addL,modC,h1,h2]
 | cons x l ih =>
  intro c d h1 h2
  show modC (addL l (c.1+x,c.2+(c.1+x)))=modC (addL l (d.1+x,d.2+(d.1+x)))
  exact ih _ _ (by simp only;omega) (by simp only;omega)
theorem addP_mod (n:Nat):∀ (bs:List Int) (c:Int × Int),bs.length≤n→modC (addP bs c)=modC (addL bs c):=by
 induction n with
 | zero =>
  intro bs c h
  rw[List.length_eq_zero_iff.1 (by omega:bs.length=0),addP_nil]
  rfl
 | succ n ih =>
  intro bs c h
  by_cases h0:bs.length=0
  ·rw[List.length_eq_zero_iff.1 h0,addP_nil]
   rfl
  ·rw[addP_step bs c (by omega),ih _ _ (by rw[List.length_drop];omega)]
   conv=>rhs;rw[←List.take_append_drop 4000 bs]
   rw[show addL (bs.take 4000++bs.drop 4000) c=addL (bs.drop 4000) (addL (bs.take 4000) c) by unfold addL;rw[List.foldl_append]]
   exact addL_mod _ _ _ (by simp[modC]) (by simp[modC])
theorem addP_in (n:Nat):∀ (bs:List Int) (c:Int × Int),bs.length≤n→modC c=c→modC (addP bs c)=addP bs c:=by
 induction n with
 | zero =>
  intro bs c h hc
  rw[List.length_eq_zero_iff.1 (by omega:bs.length=0),addP_nil]
  exact hc
 | succ n ih =>
  intro bs c h hc
  by_cases h0:bs.length=0
  ·rw[List.length_eq_zero_iff.1 h0,addP_nil]
   exact hc
  ·rw[addP_step bs c (by omega)]
   exact ih _ _ (by rw[List.length_drop];omega) (by simp[modC])
theorem sumsA_whole (b:List Int):((sumsA b b.length).1==0 && (sumsA b b.length).2==0)=wholeB b:=by
 obtain ⟨h1,h2⟩:=sumsA_is b b.length (Nat.le_refl _)
 rw[List.take_length] at h1 h2
 have e:=(addP_in b.length b (0,0) (Nat.le_refl _) rfl).symm.trans (addP_mod b.length b (0,0) (Nat.le_refl _))
 unfold wholeB
 rw[e,h1,h2]
 simp[modC]
set_option maxHeartbeats 1000000 in
theorem rsums_any (B:Nat) (bv:Value) (b:List Int) (w:World) (hb:Sl w B 1 bv b.length (b.map u8c)) (hn:b.length≤1099511627776) (hl8:∀ x∈b,0≤x∧x<256) :
  Calls Tryz.prog 175 #[bv,.int .i64 (-1)] w fun x w'=>x=.returned (.tuple #[.int .i64 (sumsA b b.length).1,.int .i64 (sumsA b b.length).2])∧w'=w:=by
 obtain ⟨-,A,c,rfl,hc,-,hat⟩:=hb
 go_enter Tryz.func175,Tryz.ntmps175
 go_wp2
 go_loopg [6,7,8] b.length (fun m c0 c1 i wr=>∃ j:Nat,j≤b.length∧m=b.length-j∧c0=.int .i64 (sumsA b j).1∧c1=.int .i64 (sumsA b j).2∧i=.int .i64 (j:Int)∧wr=w)
 case atStart =>
  exact ⟨0,Nat.zero_le _,rfl,rfl,rfl,rfl,rfl⟩
 case round =>
  obtain ⟨j,hj,hm,rfl,rfl,rfl,rfl⟩:=hrel
  have hr:=sumsA_range b j
  by_cases hjn:j<b.length
  ·obtain ⟨g,off,rfl,hg,hcell⟩:=hat (by omega)
   have cj:=hcell j (u8c (b[j])) (by simp[hjn])
   rw[show u8c b[j]=.int .u8 b[j] from rfl] at cj
   have h8:=hl8 b[j] (List.getElem_mem hjn)
   have hs:sumsA b (j+1)=(((sumsA b j).1+b[j])%255,((sumsA b j).2+((b.length:Int)-j)%255*b[j])%255):=by
    conv=>lhs;unfold sumsA
    simp only[List.getD_eq_getElem?_getD,List.getElem?_eq_getElem hjn,o'g]
   have hq0:0≤((b.length:Int)-j)%255∧((b.length:Int)-j)%255<255:=by omega
   have hmul:0≤((b.length:Int)-j)%255*b[j]∧((b.length:Int)-j)%255*b[j]≤254*255:=⟨Int.mul_nonneg hq0.1 h8.1,by
    have h1:=Int.mul_le_mul_of_nonneg_right (show ((b.length:Int)-j)%255≤254 by omega) h8.1
    have h2:=Int.mul_le_mul_of_nonneg_left (show b[j]≤255 by omega) (show (0:Int)≤254 by omega)
    omega⟩
   have hs0:=h'd hs
   clear hs hcell hat
   generalize b[j]=x at *
   go_wp2
   go_roundg (b.length-(j+1))
   case measure=>omega
   case rel=>exact ⟨j+1,by omega,rfl,by rw[hs0.out],by rw[hs0.out],by simp,rfl⟩
  ·obtain rfl:j=b.length:=by omega
   go_wp2
   refine bodyPost_ret (results_tmp2 rfl _ _ _) rfl ?_
   exact ⟨rfl,rfl⟩
theorem rwhole_any (B:Nat) (bv:Value) (b:List Int) (w:World) (hb:Sl w B 1 bv b.length (b.map u8c)) (hn:b.length≤1099511627776) (hl8:∀ x∈b,0≤x∧x<256) :
  Calls Tryz.prog 162 #[bv] w fun x w'=>x=.returned (.bool (wholeB b))∧w'=w:=by
 have C:=rsums_any B bv b w hb hn hl8
 have e:=sumsA_whole b
 generalize sumsA b b.length=s at C e
 obtain ⟨s1,s2⟩:=s
 obtain ⟨q,hq⟩:∃ q,q=wholeB b:=⟨_,rfl⟩
 rw[←hq] at e ⊢
 clear hq
 obtain ⟨-,A,c,rfl,-⟩:=hb
 simp only at C e
 replace C:=h'd C
 cases e1:(s1==0) <;> cases e2:(s2==0)
 all_goals
  rw[e1,e2] at e
  subst e
  go_enter Tryz.func162,Tryz.ntmps162
  go_wp2_with (go_at_call 175;refine Calls.mono C.out ?_;rintro x w1 ⟨rfl,rfl⟩)
  go_ret
  exact ⟨rfl,rfl⟩
set_option maxRecDepth 100000
theorem not16:∀ m:Nat,m<65536→(BitVec.ofNat 16 m &&& ~~~ BitVec.ofNat 16 32768).toNat=m%32768:=by
 intro m hm
 rw[show ~~~ BitVec.ofNat 16 32768=BitVec.ofNat 16 32767 by decide,BitVec.toNat_and,BitVec.toNat_ofNat,BitVec.toNat_ofNat,Nat.mod_eq_of_lt (by omega:m<2 ^ 16)]
 exact Nat.and_two_pow_sub_one_eq_mod m 15
theorem ageP_mod (a:Int) (h:0≤a∧a<65536):ageP a=a%32768:=by
 obtain ⟨m,rfl⟩:=Int.eq_ofNat_of_zero_le h.1
 have e1:BitVec.ofInt 16 (m:Int)=BitVec.ofNat 16 m:=by rw[BitVec.ofInt_natCast]
 have h2:=not16 m (by omega)
 unfold ageP
 show IntKind.u16.wrap ((BitVec.ofInt 16 (m:Int) &&& ~~~ BitVec.ofInt 16 32768).toNat:Int)=_
 rw[e1,show BitVec.ofInt 16 32768=BitVec.ofNat 16 32768 by decide,h2,IntKind.wrap_u16]
 omega
theorem decQ_known (t:Nat) (l:List Int):(knownB t=false→(decQ t l).2=21)∧(knownB t=true→(decQ t l).2≠21):=by
 unfold decQ
 refine ⟨fun h=>by rw[if_pos h],fun h => ?_⟩
 rw[if_neg (by rw[h];decide)]
 split
 ·decide
 split
 ·decide
 split
 ·decide
 ·show (0:Int)≠21
  decide
set_option maxHeartbeats 2000000 in
theorem rcheck_any (t:Nat) (h8:t<256) (h:OHead) (ok:HeadOk h) (B:Nat) (bv:Value) (body:List Int) (w:World) (hb:Sl w B 1 bv body.length (body.map u8c)) (hB:B≤w.heap.size) (hn:body.length≤1099511627776) (hl8:∀ x∈body,0≤x∧x<256) (hty:h.type=t) :
  Calls Tryz.prog 126 #[stateVal h bv] w fun x w'=>x=.returned (.int .i64 (chkP h body (decQ t body).2))∧Below w.heap.size w w':=by
 have hb0:=hb
 have hlr:=ok.len
 have hh8:∀ x∈(headB h++body).drop 2,0≤x∧x<256:=fun x hx=>by
  rcases List.mem_append.1 (List.mem_of_mem_drop hx) with h1 | h1
  ·exact headB_byte h ok x h1
  ·exact hl8 x h1
 have CW:=fun W hs hz=>rbytes_any h ok B bv body W hs hz hn
 have CD:=fun W hs hz=>rdecode_any t h8 h B bv body W hs hz hn hl8 hty hlr
 have CK:=fun W=>rknown_any t W
 have hLn:(headB h++body).length=20+body.length:=by rw[List.length_append,headB_len]
 have hP:chkP h body (decQ t body).2=if h.len≠20+(body.length:Int) then 22 else if h.sum=0∨wholeB ((headB h++body).drop 2)=false then 23 else if (decQ t body).2≠21∧(h.seq = -2147483648∨3600<ageP h.age) then 24 else (decQ t body).2:=rfl
 rw[ageP_mod h.age ok.age] at hP
 have hdd:h.len=20+(body.length:Int)→(decD h.len t body).2=(decQ t body).2:=fun e=>by
  unfold decD
  rw[if_pos e,dec_same t body (by omega)]
 obtain ⟨hk1,hk2⟩:=decQ_known t body
 generalize headB h++body=L at CW hh8 hLn hP
 generalize (decQ t body).2=e at hP hdd hk1 hk2 ⊢
 generalize chkP h body e=r at hP ⊢
 unfold RDecPost at CD
 obtain ⟨-,A,c,rfl,-⟩:=hb
 replace CW:=h'd CW
 replace CD:=h'd CD
 replace hdd:=h'd hdd
 replace hLn:=h'd hLn
 have hhl:=h'd hh8
 clear hl8 hh8
 have wl:wrap64 (20+(body.length:Int))=20+(body.length:Int):=by unfold wrap64;omega
 have wq:wrap64 h.len=h.len:=by unfold wrap64;omega
 have hage:=ok.age
 clear ok
 obtain ⟨age,opts,type,id,adv,seq,sum,len⟩:=h
 dsimp only[stateVal] at *
 subst hty
 have q0:Blk (w.alloc (.cells #[.int .u16 age,.int .u8 opts,.int .u8 (t:Int),.int .u32 id,.int .u32 adv,.int .i32 seq,.int .u16 sum,.int .u16 len,.slice A body.length c] 71)) w.heap.size 71 #[.int .u16 age,.int .u8 opts,.int .u8 (t:Int),.int .u32 id,.int .u32 adv,.int .i32 seq,.int .u16 sum,.int .u16 len,.slice A body.length c]:=Blk.new _ _ _
 have qB:Below w.heap.size w (w.alloc (.cells #[.int .u16 age,.int .u8 opts,.int .u8 (t:Int),.int .u32 id,.int .u32 adv,.int .i32 seq,.int .u16 sum,.int .u16 len,.slice A body.length c] 71)):=(Below.refl _ _).alloc (Nat.le_refl _) _
 by_cases h1:len=20+(body.length:Int)
 ·have e1:(len != 20+(body.length:Int))=false:=by simp[h1]
  rw[if_neg (by simp[h1])] at hP
  have hl1:=h'd h1
  have hLe:=h'd (show L.length≤1099511627776 by have:=hLn.out;omega)
  clear h1
  have hb1:=hb0.below (qB.mono hB)
  have hz1:=qB.size
  have CB:=h'd (CW.out _ hb1 (Nat.le_trans hB hz1))
  by_cases h2:sum=0
  ·have e2:(sum==0)=true:=by simp[h2]
   rw[if_pos (.inl h2)] at hP
   subst hP
   clear h2
   go_enter Tryz.func126,Tryz.ntmps126
   go_upto_region 4 with (go_at_call 136;refine Calls.mono CB.out ?_;rintro x w2 ⟨v,rfl,ho2,k2⟩)
   have q2:=q0.below k2 q0.lt
   have x6:=q2.cell 6
   simp only[q'a,q'z,q's] at x6
   go_wp2
   go_ret
   exact ⟨rfl,qB.trans (k2.mono hz1)⟩
  ·have e2:(sum==0)=false:=by simp[h2]
   cases hwh:wholeB (L.drop 2)
   ·rw[if_pos (.inr hwh)] at hP
    subst hP
    go_enter Tryz.func126,Tryz.ntmps126
    go_upto_region 4 with (go_at_call 136;refine Calls.mono CB.out ?_;rintro x w2 ⟨v,rfl,ho2,k2⟩)
    have q2:=q0.below k2 q0.lt
    have x6:=q2.cell 6
    simp only[q'a,q'z,q's] at x6
    obtain ⟨-,Ab,cb,rfl,hcc,-⟩:=Sl.of_own ho2
    obtain ⟨v2,hd0,hd2⟩:=drop_ex u8T Ab L.length cb 2 (by have:=hLn.out;omega) hcc
    have hd:∀ W,(Instr.sliceAt 69 (.slice Ab L.length cb) (some (.int .i64 2)) none none).run Tryz.prog W=.ok v2 W:=hd0
    clear hd0
    have hs2:=hd2 _ _ _ (Sl.of_own ho2)
    have CC:=h'd (rwhole_any _ v2 (L.drop 2) w2 (by rw[List.length_drop,List.map_drop];simpa using hs2) (by have:=hLe.out;rw[List.length_drop];omega) hhl.out)
    clear hs2
    rw[hwh] at CC
    go_wp2_with (go_at_call 162;with_reducible refine Calls.mono CC.out ?_;rintro x w3 ⟨rfl,rfl⟩)
    go_ret
    exact ⟨rfl,qB.trans (k2.mono hz1)⟩
   ·rw[if_neg (by simp[h2,hwh])] at hP
    replace hP:=h'd hP
    replace h2:=h'd h2
    go_enter Tryz.func126,Tryz.ntmps126
    go_upto_region 4 with (go_at_call 136;refine Calls.mono CB.out ?_;rintro x w2 ⟨v,rfl,ho2,k2⟩)
    have q2:=q0.below k2 q0.lt
    have x6:=q2.cell 6
    have x2:=q2.cell 2
    have x5:=q2.cell 5
    have x0:=q2.cell 0
    simp only[q'a,q'z,q's] at x6 x2 x5 x0
    obtain ⟨-,Ab,cb,rfl,hcc,-⟩:=Sl.of_own ho2
    obtain ⟨v2,hd0,hd2⟩:=drop_ex u8T Ab L.length cb 2 (by have:=hLn.out;omega) hcc
    have hd:∀ W,(Instr.sliceAt 69 (.slice Ab L.length cb) (some (.int .i64 2)) none none).run Tryz.prog W=.ok v2 W:=hd0
    clear hd0
    have hs2:=hd2 _ _ _ (Sl.of_own ho2)
    have CC:=h'd (rwhole_any _ v2 (L.drop 2) w2 (by rw[List.length_drop,List.map_drop];simpa using hs2) (by have:=hLe.out;rw[List.length_drop];omega) hhl.out)
    clear hs2
    rw[hwh] at CC
    go_upto_region 6 with (go_at_call 162;with_reducible refine Calls.mono CC.out ?_;rintro x w3 ⟨rfl,rfl⟩)
    have B2:Below w.heap.size w w3:=qB.trans (k2.mono hz1)
    have hb3:=hb0.below (B2.mono hB)
    have CE:=h'd (CD.out w3 hb3 (Nat.le_trans hB B2.size))
    have CK2:=CK w3
    clear CC CB hd hd2 ho2 hb1 CW hcc CD CK q0
    cases hkn:knownB t with
    | false =>
     have he:=hk1 hkn
     rw[hkn] at CK2
     obtain rfl:r=e:=by rw[hP.out,if_neg (fun x=>x.1 he)]
     clear hk1 hk2 hkn
     obtain rfl:=he
     replace CK2:=h'd CK2
     go_wp2_with (go_at_call 88;refine Calls.mono CK2.out ?_;rintro x w4 ⟨rfl,rfl⟩)
     go_ret
     exact ⟨rfl,B2⟩
    | true =>
     have he:=hk2 hkn
     rw[hkn] at CK2
     replace CK2:=h'd CK2
     clear hk1 hk2 hkn
     by_cases hs:seq = -2147483648
     ·have e4:(seq == -2147483648)=true:=by simp[hs]
      obtain rfl:r=24:=by rw[hP.out,if_pos ⟨he,.inl hs⟩]
      clear he hs
      go_wp2_with (go_at_call 88;refine Calls.mono CK2.out ?_;rintro x w4 ⟨rfl,rfl⟩)
      go_ret
      exact ⟨rfl,B2⟩
     ·have e4:(seq == -2147483648)=false:=by simp[hs]
      by_cases ha:3600<age%32768
      ·obtain rfl:r=24:=by rw[hP.out,if_pos ⟨he,.inr ha⟩]
       have e5:=decide_eq_true ha
       clear he hs
       go_wp2_with (go_at_call 88;refine Calls.mono CK2.out ?_;rintro x w4 ⟨rfl,rfl⟩)
       go_ret
       exact ⟨rfl,B2⟩
      ·obtain rfl:r=e:=by rw[hP.out,if_neg (by simp[hs,ha])]
       have e5:=decide_eq_false ha
       have hde:=hdd.out hl1.out
       rw[hde] at CE
       replace hde:=h'd hde
       replace hs:=h'd hs
       replace he:=h'd he
       go_wp2_with (first
        | (go_at_call 88;refine Calls.mono CK2.out ?_;rintro x w4 ⟨rfl,rfl⟩)
        | (refine wpList_load_row rfl 71 (.tmp 1) rfl w.heap.size rfl 71 #[.int .u16 age,.int .u8 opts,.int .u8 (t:Int),.int .u32 id,.int .u32 adv,.int .i32 seq,.int .u16 sum,.int .u16 len,.slice A body.length c] (0,0) _ q2 Tryz.underlying71 rfl (by kernel_rfl) ?_)
        | (go_at_call 40;refine Calls.mono CE.out ?_;rintro x w5 ⟨cs,rfl,hBA,k5⟩;obtain ⟨A1,c1,A2,c2,A3,c3,rfl,-⟩:=hBA;dsimp only[bodyC]))
       go_ret
       exact ⟨rfl,(B2.trans (k5.mono B2.size)).alloc (Nat.le_trans B2.size k5.size) _⟩
 ·have e1:(len != 20+(body.length:Int))=true:=by simp[h1]
  rw[if_pos h1] at hP
  subst hP
  clear h1
  go_enter Tryz.func126,Tryz.ntmps126
  go_wp2
  go_ret
  exact ⟨rfl,qB⟩
end Go.Proofs.YtcknpofnpabkiaaGreat
