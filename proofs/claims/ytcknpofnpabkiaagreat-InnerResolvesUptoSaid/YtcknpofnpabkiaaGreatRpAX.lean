/- lodestarref06.number, lodestarref02.Bits at any mask, lodestarref06.alone and May of a body that was read. Conditions: the bytes and the links lie in memory. -/
import Derived.Test.YtcknpofnpabkiaaGreatRpAS
import Derived.Test.YtcknpofnpabkiaaGreatRpAW
set_option maxRecDepth 100000
namespace Go.Proofs.YtcknpofnpabkiaaGreat
open Go.RowKit Go.Lo
set_option maxHeartbeats 1000000 in
theorem rnumber_any (B:Nat) (bv:Value) (bs:List Int) (w:World) (hb:Sl w B 1 bv bs.length (bs.map u8c)) (h4:bs.length≤4) (h8:∀ x∈bs,0≤x∧x<256):Calls Tryz.prog 127 #[bv] w fun x w'=>x=.returned (.int .u32 (numB bs))∧w'=w:=by
 obtain ⟨r,hr⟩:∃ r,r=numB bs:=⟨_,rfl⟩
 rw[←hr]
 rw[numB_eq bs h4 h8] at hr
 replace hr:=h'd hr
 have hb0:=h'd hb
 obtain ⟨-,A,c,rfl,-⟩:=hb
 go_enter Tryz.func127,Tryz.ntmps127
 go_wp2_with fail
 go_loopg [3,4] bs.length (fun m v iv wr=>∃ k:Nat,k≤bs.length∧m=bs.length-k∧v=.int .u32 (numL (bs.take k))∧iv=.int .i64 k∧wr=w)
 case atStart=>exact ⟨0,Nat.zero_le _,rfl,rfl,rfl,rfl⟩
 case round =>
  obtain ⟨k,hk,rfl,rfl,rfl,rfl⟩:=hrel
  obtain ⟨w1,rfl⟩:∃ x:World,x=wr:=⟨_,rfl⟩
  by_cases hkl:k<bs.length
  ·have hs:=hb0.out
   obtain ⟨-,A',c',hv,-,-,hA⟩:=hs
   simp only[Value.slice.injEq] at hv
   obtain ⟨rfl,-,rfl⟩:=hv
   obtain ⟨b2,o2,rfl,hb2,hc⟩:=hA (by omega)
   have ck:=hc k _ (by rw[List.getElem?_map,List.getElem?_eq_getElem hkl];rfl)
   simp only[u8c] at ck
   have hx:=h8 _ (g'm hkl)
   have hsn:=numL_snoc (bs.take k) bs[k]
   rw[←t'k hkl] at hsn
   have hrg:=numL_range k (bs.take k) (by rw[List.length_take];omega) fun y hy=>h8 y (List.mem_of_mem_take hy)
   have hrg2:=numL_range (k+1) (bs.take (k+1)) (by rw[List.length_take];omega) fun y hy=>h8 y (List.mem_of_mem_take hy)
   have hp:(256:Int) ^ (k+1)≤256 ^ 4:=by
    have h7:=Nat.pow_le_pow_right (n:=256) (by omega) (show k+1≤4 by omega)
    have h9:(((256:Nat) ^ (k+1):Nat):Int)≤((256 ^ 4:Nat):Int):=Int.ofNat_le.2 h7
    rw[Int.natCast_pow,Int.natCast_pow] at h9
    exact h9
   have hq:(256:Int) ^ 4=4294967296:=by decide
   have ik:(k:Int)<(bs.length:Int):=by omega
   generalize bs[k]=x at ck hx hsn
   obtain ⟨z,hz⟩:∃ z,z=numL (bs.take (k+1)):=⟨_,rfl⟩
   rw[←hz] at hsn hrg2
   replace hz:=h'd hz
   generalize numL (bs.take k)=y at hsn hrg ⊢
   generalize (256:Int) ^ (k+1)=p1 at hp hrg2
   generalize (256:Int) ^ k=p2 at hrg
   have w1':IntKind.u32.wrap (256*y)=256*y:=by rw[IntKind.wrap_u32];omega
   have w2':IntKind.u32.wrap x=x:=by rw[IntKind.wrap_u32];omega
   have w3':IntKind.u32.wrap (256*y+x)=z:=by rw[IntKind.wrap_u32];omega
   clear hc hA hrg hrg2 hp hq h8
   replace hsn:=h'd hsn
   go_wp2_with fail
   go_roundg (bs.length-(k+1))
   case measure=>omega
   case rel=>exact ⟨k+1,by omega,rfl,by rw[←hz.out,hsn.out],by go_num,rfl⟩
  ·obtain rfl:k=bs.length:=by omega
   rw[List.take_length] at *
   have hr2:=hr.out
   subst hr2
   clear h8
   go_wp2_with fail
   go_ret
   exact ⟨rfl,rfl⟩
theorem masks33:(List.range 33).all (fun k=>bitsN (maskR k)==(k:Int) && maskI (k:Int)==maskR k)=true:=by kernel_rfl
theorem mask_of (k:Nat) (hk:k≤32):bitsN (maskR k)=k∧maskI k=maskR k:=by
 have:=List.all_eq_true.1 masks33 k (List.mem_range.2 (by omega))
 simpa using this
theorem bits_yes (k:Nat) (hk:k≤32):bitsB (maskR k)=true∧bitsV (maskR k)=k:=by
 obtain ⟨h1,h2⟩:=mask_of k hk
 have h3:bitsB (maskR k)=true:=by
  unfold bitsB
  rw[h1,h2]
  exact beq_self_eq_true _
 exact ⟨h3,by unfold bitsV;rw[if_pos h3,h1]⟩
theorem bits_no (m:Int) (h:∀ j,j≤32→maskR j≠m):bitsB m=false∧bitsV m=0:=by
 have h3:bitsB m=false:=by
  refine Bool.eq_false_iff.2 fun hb => ?_
  unfold bitsB at hb
  have he:maskI (bitsN m)=m:=eq_of_beq hb
  have hr:0≤bitsN m:=by unfold bitsN;omega
  by_cases hz:bitsN m≤32
  ·obtain ⟨n,hn⟩:∃ n:Nat,bitsN m=n:=⟨(bitsN m).toNat,by omega⟩
   rw[hn] at he hz
   exact h n (by omega) ((mask_of n (by omega)).2 ▸ he)
  ·have:maskI (bitsN m)=0:=by unfold maskI;rw[if_pos (by omega)]
   rw[this] at he
   exact h 0 (by omega) he
 exact ⟨h3,by unfold bitsV;rw[h3];rfl⟩
set_option maxHeartbeats 1000000 in
theorem rbits_gen (m:Int) (w:World):Calls Tryz.prog 43 #[.int .u32 m] w fun x w'=>x=.returned (.tuple #[.int .u8 (bitsV m),.bool (bitsB m)])∧w'=w:=by
 obtain ⟨r1,hr1⟩:∃ r,r=bitsV m:=⟨_,rfl⟩
 obtain ⟨r2,hr2⟩:∃ r,r=bitsB m:=⟨_,rfl⟩
 rw[←hr1,←hr2]
 replace hr1:=h'd hr1
 replace hr2:=h'd hr2
 go_enter Tryz.func43,Tryz.ntmps43
 go_wp2
 go_loopg [4] 33 (fun mm i wr=>∃ j:Nat,j≤33∧mm=33-j∧i=.int .u8 (j:Int)∧(∀ q,q<j→maskR q≠m)∧wr=w)
 case atStart=>exact ⟨0,by omega,rfl,rfl,fun _ h=>absurd h (Nat.not_lt_zero _),rfl⟩
 case round =>
  obtain ⟨j,hj,rfl,rfl,hall,rfl⟩:=hrel
  obtain ⟨w1,rfl⟩:∃ x:World,x=wr:=⟨_,rfl⟩
  replace hall:=h'd hall
  by_cases hj3:j≤32
  ·have C:=h'd (rmask_any j hj3 w1)
   have hd2:decide ((j:Int)≤32)=true:=d't (by omega)
   by_cases hjm:maskR j=m
   ·have e1:(maskR j==m)=true:=beq_iff_eq.2 hjm
    obtain ⟨b1,b2⟩:=bits_yes j hj3
    rw[hjm] at b1 b2
    obtain rfl:r1=j:=hr1.out.trans b2
    obtain rfl:r2=true:=hr2.out.trans b1
    clear hjm b1 b2
    go_wp2_with (go_at_call 92;refine c'm C.out ?_;rintro x w2 ⟨rfl,rfl⟩)
    refine bodyPost_ret (results_tmp2 rfl _ _ _) rfl ?_
    exact ⟨rfl,rfl⟩
   ·have e1:(maskR j==m)=false:=beq_eq_false_iff_ne.2 hjm
    have hu:IntKind.u8.wrap ((j:Int)+1)=(j:Int)+1:=by rw[IntKind.wrap_u8];omega
    replace hjm:=h'd hjm
    go_wp2_with (go_at_call 92;refine c'm C.out ?_;rintro x w2 ⟨rfl,rfl⟩)
    go_roundg (33-(j+1))
    case measure=>omega
    case rel=>exact ⟨j+1,by omega,rfl,by simp,fun q hq=>by
     by_cases hqj:q<j
     ·exact hall.out q hqj
     ·obtain rfl:q=j:=by omega
      exact hjm.out,rfl⟩
  ·have hd2:decide ((j:Int)≤32)=false:=d'f (by omega)
   obtain ⟨b1,b2⟩:=bits_no m fun q hq=>hall.out q (by omega)
   obtain rfl:r1=0:=hr1.out.trans b2
   obtain rfl:r2=false:=hr2.out.trans b1
   clear b1 b2
   go_wp2
   refine bodyPost_ret (results_tmp2 rfl _ _ _) rfl ?_
   exact ⟨rfl,rfl⟩
set_option maxHeartbeats 1000000 in
theorem ralone1 (fl:Int) (ls:List LinkV) (A1:Option Addr) (c1:Nat) (A2:Option Addr) (c2:Nat) (A3:Option Addr) (c3:Nat) (w:World):Calls Tryz.prog 128 #[.int .u8 1,.agg (bodyC fl A1 ls.length c1 0 A2 0 c2 0 false 0 0 A3 0 c3)] w fun x w'=>x=.returned (.bool (true))∧Below w.heap.size w w':=by
 have hB:Below w.heap.size w (w.alloc (.cells #[.int .u8 fl,.slice A1 ls.length c1,.int .u32 0,.slice A2 0 c2,.int .u32 0,.bool false,.int .u32 0,.int .u32 0,.slice A3 0 c3] 81)):=(b'r _ _).alloc (n'r _) _
 go_enter Tryz.func128,Tryz.ntmps128
 go_wp2
 go_ret
 exact ⟨rfl,hB⟩
set_option maxHeartbeats 1000000 in
theorem rmay1_any (fl:Int) (ls:List LinkV) (A1:Option Addr) (c1:Nat) (A2:Option Addr) (c2:Nat) (A3:Option Addr) (c3:Nat) (w:World) (hln:ls.length≤1000000) (B:Nat) (hs:Sl w B 4 (.slice A1 ls.length c1) ls.length (ls.flatMap linkC)) (hBz:B≤w.heap.size):Calls Tryz.prog 90 #[.int .u8 1,.agg (bodyC fl A1 ls.length c1 0 A2 0 c2 0 false 0 0 A3 0 c3)] w fun x w'=>x=.returned (.bool (ls.all fun x=>decide (1≤x.type) && decide (x.type≤4)))∧Below w.heap.size w w':=by
 have CB:=h'd (fun W=>rbits_gen 0 W)
 have CA:=h'd (fun W=>ralone1 fl ls A1 c1 A2 c2 A3 c3 W)
 have hb:=bitsB_zero
 obtain ⟨r,hr⟩:∃ r,r=(ls.all fun x=>decide (1≤x.type) && decide (x.type≤4)):=⟨_,rfl⟩
 rw[←hr]
 replace hr:=h'd hr
 have hs0:=h'd hs
 clear hs
 have hB:Below w.heap.size w (w.alloc (.cells #[.int .u8 fl,.slice A1 ls.length c1,.int .u32 0,.slice A2 0 c2,.int .u32 0,.bool false,.int .u32 0,.int .u32 0,.slice A3 0 c3] 81)):=(b'r _ _).alloc (n'r _) _
 have q0:Blk (w.alloc (.cells #[.int .u8 fl,.slice A1 ls.length c1,.int .u32 0,.slice A2 0 c2,.int .u32 0,.bool false,.int .u32 0,.int .u32 0,.slice A3 0 c3] 81)) w.heap.size 81 #[.int .u8 fl,.slice A1 ls.length c1,.int .u32 0,.slice A2 0 c2,.int .u32 0,.bool false,.int .u32 0,.int .u32 0,.slice A3 0 c3]:=Blk.new _ _ _
 go_enter Tryz.func90,Tryz.ntmps90
 go_upto_region 1 with fail
 generalize w.alloc (.cells #[.int .u8 fl,.slice A1 ls.length c1,.int .u32 0,.slice A2 0 c2,.int .u32 0,.bool false,.int .u32 0,.int .u32 0,.slice A3 0 c3] 81)=w0 at hB q0 ⊢
 have x2:=q0.cell 2
 simp only[q'a,q'z,q's] at x2
 have hz0:=hB.size
 go_upto_region 2 with (go_at_call 43;refine c'm (CB.out _) ?_;rintro x w1 ⟨rfl,rfl⟩)
 clear x2
 go_wp2_with (first
  | (refine wpList_load_row rfl 81 (.tmp 3) rfl w.heap.size rfl 81 #[.int .u8 fl,.slice A1 ls.length c1,.int .u32 0,.slice A2 0 c2,.int .u32 0,.bool false,.int .u32 0,.int .u32 0,.slice A3 0 c3] (0,0) _ q0 Tryz.underlying81 rfl (by kernel_rfl) ?_)
  | (go_at_call 128;refine c'm (CA.out _) ?_;rintro x w2 ⟨rfl,k1⟩;have q1:=q0.below k1 q0.lt;have x4:=q1.cell 4;have x8:=q1.cell 8;have x3:=q1.cell 3;have x1:=q1.cell 1;simp only[q'a,q'z,q's] at x4 x8 x3 x1;have B1:=hB.trans (k1.mono hz0)))
 clear x4 x8 x3
 go_loopg [7] ls.length (fun m i wr=>∃ k:Nat,k≤ls.length∧m=ls.length-k∧i=.int .i64 k∧(∀ j (h:j<ls.length),j<k→1≤ls[j].type∧ls[j].type≤4)∧wr=w2)
 case atStart=>exact ⟨0,Nat.zero_le _,rfl,rfl,fun _ _ h=>absurd h (Nat.not_lt_zero _),rfl⟩
 case round =>
  obtain ⟨k,hk,rfl,rfl,hall,rfl⟩:=hrel
  obtain ⟨w3,rfl⟩:∃ x:World,x=wr:=⟨_,rfl⟩
  have hal:=h'd hall
  clear hall
  by_cases hkl:k<ls.length
  ·obtain ⟨b,off,rfl,hb4,hrow⟩:=Sl.row linkC_len (hs0.out.below (B1.mono hBz)) hkl
   have ik:(k:Int)<(ls.length:Int):=by omega
   have hx:ls[k]∈ls:=g'm hkl
   obtain ⟨xx,hxx⟩:∃ x,x=ls[k]:=⟨_,rfl⟩
   have y2:w3.cell? ⟨b,off+k*4+2,none⟩=some (.int .u8 xx.type):=by rw[hxx];exact hrow 2 _ rfl
   rw[←hxx] at hx
   replace hxx:=h'd hxx
   clear hrow hb4
   by_cases h1:xx.type<1
   ·have hrr:r=false:=by
     rw[hr.out]
     refine Bool.eq_false_iff.2 fun h => ?_
     have:=List.all_eq_true.1 h xx hx
     simp at this
     omega
    subst hrr
    go_wp2_with fail
    go_ret
    exact ⟨rfl,B1⟩
   ·by_cases h2:4<xx.type
    ·have hrr:r=false:=by
      rw[hr.out]
      refine Bool.eq_false_iff.2 fun h => ?_
      have:=List.all_eq_true.1 h xx hx
      simp at this
      omega
     subst hrr
     go_wp2_with fail
     go_ret
     exact ⟨rfl,B1⟩
    ·go_wp2_with fail
     go_roundg (ls.length-(k+1))
     case measure=>omega
     case rel=>exact ⟨k+1,by omega,rfl,by go_num,fun j hj hjk=>by
      by_cases hjj:j<k
      ·exact hal.out j hj hjj
      ·obtain rfl:j=k:=by omega
       rw[←hxx.out]
       omega,rfl⟩
  ·obtain rfl:k=ls.length:=by omega
   have hrr:r=true:=by
    rw[hr.out]
    refine List.all_eq_true.2 fun x hx => ?_
    obtain ⟨j,hj,rfl⟩:=List.getElem_of_mem hx
    have:=hal.out j hj hj
    simp
    omega
   subst hrr
   go_wp2_with fail
   go_ret
   exact ⟨rfl,B1⟩
end Go.Proofs.YtcknpofnpabkiaaGreat
