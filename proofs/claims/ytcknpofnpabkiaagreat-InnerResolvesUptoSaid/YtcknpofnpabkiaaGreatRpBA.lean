/- lodestarref06.lay at every type. Conditions: the numbers are of their kinds, the lists lie in memory. -/
import Derived.Test.YtcknpofnpabkiaaGreatRpAX
import Derived.Test.YtcknpofnpabkiaaGreatRpAZ
import Derived.Test.YtcknpofnpabkiaaGreatRpAY
set_option maxRecDepth 100000
namespace Go.Proofs.YtcknpofnpabkiaaGreat
open Go.RowKit Go.Lo
set_option maxHeartbeats 4000000 in
theorem rlay1_any (fl:Int) (ls:List LinkV) (hln:ls.length<65536) (hok:∀ x∈ls,LinkOk x) (B:Nat) (A1:Option Addr) (c1:Nat) (A2:Option Addr) (c2:Nat) (A3:Option Addr) (c3:Nat) (w:World) (hs:Sl w B 4 (.slice A1 ls.length c1) ls.length (ls.flatMap linkC)) (hB:B≤w.heap.size):Calls Tryz.prog 91 #[.int .u8 1,.agg #[.int .u8 fl,.slice A1 ls.length c1,.int .u32 0,.slice A2 0 c2,.int .u32 0,.bool false,.int .u32 0,.int .u32 0,.slice A3 0 c3]] w fun x w'=>∃ s,x=.returned s∧w'.ownsRow w.heap.size 5 1 s ([fl,0]++(beN (ls.length:Int) 2++ls.flatMap linkB)).length (([fl,0]++(beN (ls.length:Int) 2++ls.flatMap linkB)).map u8c)∧Below w.heap.size w w':=by
 have h28:0≤(ls.length:Int)∧(ls.length:Int)<65536:=⟨by omega,by omega⟩
 have wcl:IntKind.u16.wrap (ls.length:Int)=ls.length:=by rw[IntKind.wrap_u16];omega
 have hwz:=n'r w.heap.size
 have S:BS w (w.alloc (.cells #[.int .u8 fl,.slice A1 ls.length c1,.int .u32 0,.slice A2 0 c2,.int .u32 0,.bool false,.int .u32 0,.int .u32 0,.slice A3 0 c3] 81)) w.heap.size 81 #[.int .u8 fl,.slice A1 ls.length c1,.int .u32 0,.slice A2 0 c2,.int .u32 0,.bool false,.int .u32 0,.int .u32 0,.slice A3 0 c3] (.slice none 0 0) []:=⟨Blk.new _ _ _,World.ownsRow_nil _ _ _ _,(b'r _ _).alloc (n'r _) _⟩
 go_enter Tryz.func91,Tryz.ntmps91
 go_upto_region 1 with fail
 generalize w.alloc (.cells (#[.int .u8 fl,.slice A1 ls.length c1,.int .u32 0,.slice A2 0 c2,.int .u32 0,.bool false,.int .u32 0,.int .u32 0,.slice A3 0 c3]:Array Value) 81)=W0 at S ⊢
 have hlL:(([]:List Int)).length=0:=rfl
 have O26:=S.own
 rw[hlL] at O26
 obtain ⟨-,A26z,c26z,hv26,-⟩:=Sl.of_own O26
 first | subst hv26 | clear hv26
 replace O26:=h'd O26
 have Z26:=S.blk.lt
 have x0_26:=S.blk.cell 0
 simp only[q'a,q'z] at x0_26
 replace S:=h'd S
 go_upto_region 6 with (at_builtin;refine wpList_append rfl (.tmp 17) (.tmp 20) 69 rfl (w.heap.size+1) u8T _ (0) _ rfl (own_alloc O26.out _) _ _ 2 _ rfl (Sl.lit W0 #[.int .u8 fl,.int .u8 0] 5 (by simp[maxLen]) rfl) (by simp[Value.oneCell']) (by simp only[maxLen];omega) (by omega) (by simp;omega) ?_;intro v26 W26 ho hg hob)
 have S:=S.out.step (M:=[fl,0]) hwz ((b'r W0.heap.size W0).alloc (n'r _) (.cells #[.int .u8 fl,.int .u8 0] 5)) hg (by rw[hlL];exact ho)
 clear ho hg hob
 clear O26 hlL x0_26
 rw[List.nil_append] at S
 have hlL:([fl,0]).length=2:=rfl
 have O27:=S.own
 rw[hlL] at O27
 obtain ⟨-,A27z,c27z,hv27,-⟩:=Sl.of_own O27
 first | subst hv27 | clear hv27
 replace O27:=h'd O27
 have Z27:=S.blk.lt
 have x1_27:=S.blk.cell 1
 simp only[q'a,q'z,q's] at x1_27
 replace S:=h'd S
 have C:=h'd (two_any ((ls.length:Int)) h28 W26)
 go_upto_region 7 with (first
  | (go_at_call 129;refine c'm C.out ?_;rintro x Y27 ⟨s,rfl,hs,kk⟩;obtain ⟨-,As,cs,rfl,-⟩:=Sl.of_own hs;have hs2:=h'd hs;clear hs;have kz:=kk.size)
  | (at_builtin;refine wpList_append rfl (.tmp 22) (.tmp 27) 69 rfl (w.heap.size+1) u8T _ (2) _ rfl (own_below O27.out kk) _ _ 2 _ rfl (Sl.of_own hs2.out) (u8s_oneCell _) (by simp only[maxLen];omega) (by omega) (by omega) ?_;intro v27 W27 ho hg hob))
 have S:=S.out.step (M:=beN (ls.length:Int) 2) hwz kk hg (by rw[hlL,beN_len _ _ (by omega)];exact ho)
 clear C hs2 kk ho hg hob
 clear O27 hlL x1_27
 have hlL:(([fl,0]++beN (ls.length:Int) 2)).length=4:=by simp[beN_len]
 go_upto_region 8 with fail
 have SS:=h'd S
 go_loopg [5,6] ls.length (fun mm lv iv wr=>∃ k:Nat,k≤ls.length∧mm=ls.length-k∧iv=.int .i64 k∧BS w wr w.heap.size 81 #[.int .u8 fl,.slice A1 ls.length c1,.int .u32 0,.slice A2 0 c2,.int .u32 0,.bool false,.int .u32 0,.int .u32 0,.slice A3 0 c3] lv (([fl,0]++beN (ls.length:Int) 2)++(ls.take k).flatMap linkB))
 case atStart=>exact ⟨0,Nat.zero_le _,rfl,rfl,by rw[List.take_zero,List.flatMap_nil,List.append_nil];exact SS.out⟩
 case round =>
  clear S hlL SS
  obtain ⟨k,hk,rfl,rfl,S⟩:=hrel
  obtain ⟨w3,rfl⟩:∃ x:World,x=wr:=⟨_,rfl⟩
  have hlL:(([fl,0]++beN (ls.length:Int) 2)++(ls.take k).flatMap linkB).length=4+12*k:=by
   rw[l'a,links_len,List.length_take,l'a,beN_len _ _ (by omega)]
   simp only[List.length_cons,List.length_nil]
   omega
  by_cases hkl:k<ls.length
  ·obtain ⟨bq,off,rfl,hb4,hrow⟩:=Sl.row linkC_len (hs.below (S.far.mono hB)) hkl
   have ik:(k:Int)<(ls.length:Int):=by omega
   have hrg:w3.rangeAt bq (off+k*4) (linkC ls[k]):=hrow
   have hxo:=hok _ (g'm hkl)
   have htk:ls.take (k+1)=ls.take k++[ls[k]]:=t'k hkl
   generalize ls[k]=xx at hrg hxo htk
   have hcn:([fl,0]++beN (ls.length:Int) 2)++(ls.take (k+1)).flatMap linkB=(([fl,0]++beN (ls.length:Int) 2)++(ls.take k).flatMap linkB)++linkB xx:=by rw[htk,List.flatMap_append,List.append_assoc];simp
   replace hcn:=h'd hcn
   replace htk:=h'd htk
   generalize ([fl,0]++beN (ls.length:Int) 2)++(ls.take k).flatMap linkB=cont at S hlL hcn
   have hcl0:=hlL
   replace hrow:=h'd hrow
   obtain ⟨hi1,hi2,hi3,hi4⟩:=hxo
   obtain ⟨x1,x2,x3,x4⟩:=xx
   dsimp only[linkC] at hi1 hi2 hi3 hi4 hrg
   have x1_0:=S.blk.cell 1
   simp only[q'a,q'z,q's] at x1_0
   have S2:BS w (w3.alloc (.cells #[.int .u32 x1,.int .u32 x2,.int .u8 x3,.int .u16 x4] 99)) w.heap.size 81 _ _ cont:=⟨S.blk.alloc _,own_alloc S.own _,below_alloc S.far (n'r _) _⟩
   have jx:Blk (w3.alloc (.cells #[.int .u32 x1,.int .u32 x2,.int .u8 x3,.int .u16 x4] 99)) w3.heap.size 99 #[.int .u32 x1,.int .u32 x2,.int .u8 x3,.int .u16 x4]:=Blk.new _ _ _
   have zx:=S.blk.lt
   go_upto_region 11 with (refine wpList_load_mid rfl 99 (.tmp 39) rfl bq (off+k*4) rfl [.int .u32 x1,.int .u32 x2,.int .u8 x3,.int .u16 x4] _ hrg Tryz.underlying99 rfl (by kernel_rfl) ?_)
   clear S hrg x1_0 hb4
   obtain ⟨gx,hgx⟩:∃ g,g=w3.heap.size:=⟨_,rfl⟩
   rw[←hgx] at jx zx ⊢
   clear hgx
   generalize w3.alloc (.cells #[.int .u32 x1,.int .u32 x2,.int .u8 x3,.int .u16 x4] 99)=wx at S2 jx ⊢
   have S:=S2
   clear S2
   have O28:=S.own
   rw[hlL] at O28
   obtain ⟨-,A28z,c28z,hv28,-⟩:=Sl.of_own O28
   first | subst hv28 | clear hv28
   replace O28:=h'd O28
   have Z28:=S.blk.lt
   have xx0:=jx.cell 0
   simp only[q'a,q'z] at xx0
   replace S:=h'd S
   have C:=h'd (four_any (x1) hi1 wx)
   go_upto_region 12 with (first
    | (go_at_call 130;refine c'm C.out ?_;rintro x Y28 ⟨s,rfl,hs,kk⟩;obtain ⟨-,As,cs,rfl,-⟩:=Sl.of_own hs;have hs2:=h'd hs;clear hs;have kz:=kk.size)
    | (at_builtin;refine wpList_append rfl (.tmp 41) (.tmp 44) 69 rfl (w.heap.size+1) u8T _ (4+12*k) _ rfl (own_below O28.out kk) _ _ 4 _ rfl (Sl.of_own hs2.out) (u8s_oneCell _) (by simp only[maxLen];omega) (by omega) (by omega) ?_;intro v28 W28 ho hg hob))
   have jx:=(jx.below kk jx.lt).same (hg.block gx (by have:=(jx.below kk jx.lt).lt;exact this) fun e=>own_ne8 (own_below S.out.own kk) (jx.below kk jx.lt) (by decide) gx e.symm rfl)
   have S:=S.out.step (M:=beN x1 4) hwz kk hg (by rw[hlL,beN_len _ _ (by omega)];exact ho)
   clear C hs2 kk ho hg hob
   clear O28 hlL
   clear xx0
   have hlL:((cont++beN x1 4)).length=4+12*k+4:=by
    have:=hcl0
    simp only[l'a,beN_len _ _ (show 4≤4 by omega),this]
   have O29:=S.own
   rw[hlL] at O29
   obtain ⟨-,A29z,c29z,hv29,-⟩:=Sl.of_own O29
   first | subst hv29 | clear hv29
   replace O29:=h'd O29
   have Z29:=S.blk.lt
   have xx1:=jx.cell 1
   simp only[q'a,q'z,q's] at xx1
   replace S:=h'd S
   have C:=h'd (four_any (x2) hi2 W28)
   go_upto_region 13 with (first
    | (go_at_call 130;refine c'm C.out ?_;rintro x Y29 ⟨s,rfl,hs,kk⟩;obtain ⟨-,As,cs,rfl,-⟩:=Sl.of_own hs;have hs2:=h'd hs;clear hs;have kz:=kk.size)
    | (at_builtin;refine wpList_append rfl (.tmp 46) (.tmp 49) 69 rfl (w.heap.size+1) u8T _ (4+12*k+4) _ rfl (own_below O29.out kk) _ _ 4 _ rfl (Sl.of_own hs2.out) (u8s_oneCell _) (by simp only[maxLen];omega) (by omega) (by omega) ?_;intro v29 W29 ho hg hob))
   have jx:=(jx.below kk jx.lt).same (hg.block gx (by have:=(jx.below kk jx.lt).lt;exact this) fun e=>own_ne8 (own_below S.out.own kk) (jx.below kk jx.lt) (by decide) gx e.symm rfl)
   have S:=S.out.step (M:=beN x2 4) hwz kk hg (by rw[hlL,beN_len _ _ (by omega)];exact ho)
   clear C hs2 kk ho hg hob
   clear O29 hlL
   clear xx1
   have hlL:(((cont++beN x1 4)++beN x2 4)).length=4+12*k+4+4:=by
    have:=hcl0
    simp only[l'a,beN_len _ _ (show 4≤4 by omega),this]
   have O30:=S.own
   rw[hlL] at O30
   obtain ⟨-,A30z,c30z,hv30,-⟩:=Sl.of_own O30
   first | subst hv30 | clear hv30
   replace O30:=h'd O30
   have Z30:=S.blk.lt
   have xx2:=jx.cell 2
   simp only[q'a,q'z,q's] at xx2
   replace S:=h'd S
   go_upto_region 14 with (at_builtin;refine wpList_append rfl (.tmp 51) (.tmp 54) 69 rfl (w.heap.size+1) u8T _ (4+12*k+4+4) _ rfl (own_alloc O30.out _) _ _ 2 _ rfl (Sl.lit W29 #[.int .u8 x3,.int .u8 0] 5 (by simp[maxLen]) rfl) (by simp[Value.oneCell']) (by simp only[maxLen];omega) (by omega) (by simp;omega) ?_;intro v30 W30 ho hg hob)
   have jx:=(jx.below ((b'r W29.heap.size W29).alloc (n'r _) (.cells #[.int .u8 x3,.int .u8 0] 5)) jx.lt).same (hg.block gx (by have:=(jx.below ((b'r W29.heap.size W29).alloc (n'r _) (.cells #[.int .u8 x3,.int .u8 0] 5)) jx.lt).lt;exact this) fun e=>own_ne8 (own_below S.out.own ((b'r W29.heap.size W29).alloc (n'r _) (.cells #[.int .u8 x3,.int .u8 0] 5))) (jx.below ((b'r W29.heap.size W29).alloc (n'r _) (.cells #[.int .u8 x3,.int .u8 0] 5)) jx.lt) (by decide) gx e.symm rfl)
   have S:=S.out.step (M:=[x3,0]) hwz ((b'r W29.heap.size W29).alloc (n'r _) (.cells #[.int .u8 x3,.int .u8 0] 5)) hg (by rw[hlL];exact ho)
   clear ho hg hob
   clear O30 hlL
   clear xx2
   have hlL:((((cont++beN x1 4)++beN x2 4)++[x3,0])).length=4+12*k+4+4+2:=by
    have:=hcl0
    simp only[l'a,List.length_cons,List.length_nil,beN_len _ _ (show 4≤4 by omega),this]
   have O31:=S.own
   rw[hlL] at O31
   obtain ⟨-,A31z,c31z,hv31,-⟩:=Sl.of_own O31
   first | subst hv31 | clear hv31
   replace O31:=h'd O31
   have Z31:=S.blk.lt
   have xx3:=jx.cell 3
   simp only[q'a,q'z,q's] at xx3
   replace S:=h'd S
   have C:=h'd (two_any (x4) hi4 W30)
   go_upto_region 9 with (first
    | (go_at_call 129;refine c'm C.out ?_;rintro x Y31 ⟨s,rfl,hs,kk⟩;obtain ⟨-,As,cs,rfl,-⟩:=Sl.of_own hs;have hs2:=h'd hs;clear hs;have kz:=kk.size)
    | (at_builtin;refine wpList_append rfl (.tmp 56) (.tmp 59) 69 rfl (w.heap.size+1) u8T _ (4+12*k+4+4+2) _ rfl (own_below O31.out kk) _ _ 2 _ rfl (Sl.of_own hs2.out) (u8s_oneCell _) (by simp only[maxLen];omega) (by omega) (by omega) ?_;intro v31 W31 ho hg hob))
   have jx:=(jx.below kk jx.lt).same (hg.block gx (by have:=(jx.below kk jx.lt).lt;exact this) fun e=>own_ne8 (own_below S.out.own kk) (jx.below kk jx.lt) (by decide) gx e.symm rfl)
   have S:=S.out.step (M:=beN x4 2) hwz kk hg (by rw[hlL,beN_len _ _ (by omega)];exact ho)
   clear C hs2 kk ho hg hob
   clear O31 hlL
   clear xx3
   replace S:=h'd S
   go_wp2_with fail
   go_roundg (ls.length-(k+1))
   case measure=>omega
   case rel =>
    refine ⟨k+1,by omega,rfl,by go_num,?_⟩
    rw[hcn.out]
    have h:=S.out
    rw[List.append_assoc,List.append_assoc,List.append_assoc] at h
    exact h
  ·obtain rfl:k=ls.length:=by omega
   rw[List.take_length] at S hlL
   have O:=S.own
   rw[hlL] at O
   have x1_0:=S.blk.cell 1
   simp only[q'a,q'z,q's] at x1_0
   have S0:=S
   replace S:=h'd S
   have O3:=S0.own
   rw[List.append_assoc] at O3
   replace O3:=h'd O3
   clear S0
   replace O:=h'd O
   go_wp2_with fail
   go_ret
   exact ⟨_,rfl,own_less O3.out (by omega),S.out.far⟩
set_option maxRecDepth 100000
theorem rknown_any (t:Nat) (w:World):Calls Tryz.prog 88 #[.int .u8 t] w fun x w'=>x=.returned (.bool (knownB t))∧w'=w:=by
 have hc:t=0∨(1≤t∧t≤5)∨t=6∨t=7∨t=8∨(9≤t∧t≤11)∨12≤t:=by omega
 rcases hc with rfl | ⟨h1,h2⟩ | rfl | rfl | rfl | ⟨h1,h2⟩ | h1
 ·go_enter Tryz.func88,Tryz.ntmps88
  go_wp2
  go_ret
  exact ⟨rfl,rfl⟩
 ·have e:knownB t=true:=by simp[knownB];omega
  have i1:(1:Int)≤(t:Int):=by omega
  have i2:(t:Int)≤5:=by omega
  rw[e]
  clear e
  go_enter Tryz.func88,Tryz.ntmps88
  go_wp2
  go_ret
  exact ⟨rfl,rfl⟩
 ·go_enter Tryz.func88,Tryz.ntmps88
  go_wp2
  go_ret
  exact ⟨rfl,rfl⟩
 ·go_enter Tryz.func88,Tryz.ntmps88
  go_wp2
  go_ret
  exact ⟨rfl,rfl⟩
 ·go_enter Tryz.func88,Tryz.ntmps88
  go_wp2
  go_ret
  exact ⟨rfl,rfl⟩
 ·have e:knownB t=true:=by simp[knownB];omega
  have i1:(1:Int)≤(t:Int):=by omega
  have i2:¬ (t:Int)≤5:=by omega
  have i3:((t:Int)==7)=false:=by simp;omega
  have i4:(9:Int)≤(t:Int):=by omega
  have i5:(t:Int)≤11:=by omega
  rw[e]
  clear e
  go_enter Tryz.func88,Tryz.ntmps88
  go_wp2
  go_ret
  exact ⟨rfl,rfl⟩
 ·have e:knownB t=false:=by simp[knownB];omega
  have i1:(1:Int)≤(t:Int):=by omega
  have i2:¬ (t:Int)≤5:=by omega
  have i3:((t:Int)==7)=false:=by simp;omega
  have i4:(9:Int)≤(t:Int):=by omega
  have i5:¬ (t:Int)≤11:=by omega
  rw[e]
  clear e
  go_enter Tryz.func88,Tryz.ntmps88
  go_wp2
  go_ret
  exact ⟨rfl,rfl⟩
set_option maxRecDepth 100000
set_option maxHeartbeats 2000000 in
theorem encodeK_any (t:Nat) (ht:knownB t=true) (age opts id adv seq:Int) (ok:HeadOk ⟨age,opts,t,id,adv,seq,0,0⟩) (fl:Int) (A1:Option Addr) (n1 c1:Nat) (m:Int) (A2:Option Addr) (n2 c2:Nat) (k:Int) (t2:Bool) (fw tg:Int) (A3:Option Addr) (n3 c3:Nat) (L:List Int) (hL:L.length≤65515) (hb8:∀ x∈L,0≤x∧x<256) (w:World)
  (CM:∀ W,Below w.heap.size w W→Calls Tryz.prog 90 #[.int .u8 t,.agg #[.int .u8 fl,.slice A1 n1 c1,.int .u32 m,.slice A2 n2 c2,.int .u32 k,.bool t2,.int .u32 fw,.int .u32 tg,.slice A3 n3 c3]] W fun x W'=>x=.returned (.bool true)∧Below W.heap.size W W')
  (CZ:∀ W,Below w.heap.size w W→Calls Tryz.prog 107 #[.int .u8 t,.agg #[.int .u8 fl,.slice A1 n1 c1,.int .u32 m,.slice A2 n2 c2,.int .u32 k,.bool t2,.int .u32 fw,.int .u32 tg,.slice A3 n3 c3]] W fun x W'=>x=.returned (.int .i64 L.length)∧Below W.heap.size W W')
  (CL:∀ W,Below w.heap.size w W→Calls Tryz.prog 91 #[.int .u8 t,.agg #[.int .u8 fl,.slice A1 n1 c1,.int .u32 m,.slice A2 n2 c2,.int .u32 k,.bool t2,.int .u32 fw,.int .u32 tg,.slice A3 n3 c3]] W fun x W'=>∃ s,x=.returned s∧W'.ownsRow W.heap.size 5 1 s L.length (L.map u8c)∧Below W.heap.size W W') :
  Calls Tryz.prog 66 #[.agg #[.int .u16 age,.int .u8 opts,.int .u8 t,.int .u32 id,.int .u32 adv,.int .i32 seq,.int .u16 0,.int .u16 0],.agg #[.int .u8 fl,.slice A1 n1 c1,.int .u32 m,.slice A2 n2 c2,.int .u32 k,.bool t2,.int .u32 fw,.int .u32 tg,.slice A3 n3 c3]] w fun x w'=>∃ v r,x=.returned (.tuple #[stateVal ⟨age,opts,t,id,adv,seq,r,20+L.length⟩ v,.int .i64 0])∧sealR ⟨age,opts,t,id,adv,seq,0,0⟩ L r∧w'.ownsRow w.heap.size 5 1 v L.length (L.map u8c)∧Below w.heap.size w w':=by
 have g0:Blk (((w.alloc (.cells #[.int .u16 age,.int .u8 opts,.int .u8 (t:Int),.int .u32 id,.int .u32 adv,.int .i32 seq,.int .u16 0,.int .u16 0] 68)).alloc (.cells #[.int .u8 fl,.slice A1 n1 c1,.int .u32 m,.slice A2 n2 c2,.int .u32 k,.bool t2,.int .u32 fw,.int .u32 tg,.slice A3 n3 c3] 81)).alloc (.cells #[.int .u16 0,.int .u8 0,.int .u8 0,.int .u32 0,.int .u32 0,.int .i32 0,.int .u16 0,.int .u16 0,.slice none 0 0] 71)) w.heap.size 68 #[.int .u16 age,.int .u8 opts,.int .u8 (t:Int),.int .u32 id,.int .u32 adv,.int .i32 seq,.int .u16 0,.int .u16 0]:=((Blk.new _ _ _).alloc _).alloc _
 have g1:Blk (((w.alloc (.cells #[.int .u16 age,.int .u8 opts,.int .u8 (t:Int),.int .u32 id,.int .u32 adv,.int .i32 seq,.int .u16 0,.int .u16 0] 68)).alloc (.cells #[.int .u8 fl,.slice A1 n1 c1,.int .u32 m,.slice A2 n2 c2,.int .u32 k,.bool t2,.int .u32 fw,.int .u32 tg,.slice A3 n3 c3] 81)).alloc (.cells #[.int .u16 0,.int .u8 0,.int .u8 0,.int .u32 0,.int .u32 0,.int .i32 0,.int .u16 0,.int .u16 0,.slice none 0 0] 71)) (w.heap.size+1) 81 #[.int .u8 fl,.slice A1 n1 c1,.int .u32 m,.slice A2 n2 c2,.int .u32 k,.bool t2,.int .u32 fw,.int .u32 tg,.slice A3 n3 c3]:=(Blk.new_ _ (by simp)).alloc _
 have g2:Blk (((w.alloc (.cells #[.int .u16 age,.int .u8 opts,.int .u8 (t:Int),.int .u32 id,.int .u32 adv,.int .i32 seq,.int .u16 0,.int .u16 0] 68)).alloc (.cells #[.int .u8 fl,.slice A1 n1 c1,.int .u32 m,.slice A2 n2 c2,.int .u32 k,.bool t2,.int .u32 fw,.int .u32 tg,.slice A3 n3 c3] 81)).alloc (.cells #[.int .u16 0,.int .u8 0,.int .u8 0,.int .u32 0,.int .u32 0,.int .i32 0,.int .u16 0,.int .u16 0,.slice none 0 0] 71)) (w.heap.size+1+1) 71 #[.int .u16 0,.int .u8 0,.int .u8 0,.int .u32 0,.int .u32 0,.int .i32 0,.int .u16 0,.int .u16 0,.slice none 0 0]:=Blk.new_ _ (by simp)
 have gB:Below w.heap.size w (((w.alloc (.cells #[.int .u16 age,.int .u8 opts,.int .u8 (t:Int),.int .u32 id,.int .u32 adv,.int .i32 seq,.int .u16 0,.int .u16 0] 68)).alloc (.cells #[.int .u8 fl,.slice A1 n1 c1,.int .u32 m,.slice A2 n2 c2,.int .u32 k,.bool t2,.int .u32 fw,.int .u32 tg,.slice A3 n3 c3] 81)).alloc (.cells #[.int .u16 0,.int .u8 0,.int .u8 0,.int .u32 0,.int .u32 0,.int .i32 0,.int .u16 0,.int .u16 0,.slice none 0 0] 71)):=(((b'r _ _).alloc (n'r _) _).alloc (by simp) _).alloc (by simp;omega) _
 have CK:=h'd (fun W=>rknown_any t W)
 have CS:=fun (A:Option Addr) (c:Nat) W (ho:W.ownsRow (w.heap.size+1+1+1) 5 1 (.slice A L.length c) L.length (L.map u8c))=>seal_any ⟨age,opts,t,id,adv,seq,0,0⟩ ok W.heap.size (.slice A L.length c) L W (Sl.of_own ho) (n'r _) hL hb8
 dsimp only[stateVal] at CS ⊢
 have hl1:(L.length:Int)+20≤65535:=by omega
 obtain ⟨n,hn⟩:∃ n,n=L.length:=⟨_,rfl⟩
 rw[←hn] at CL CS CZ hl1 ⊢
 have hl2:wrap64 ((n:Int)+20)=(n:Int)+20:=by unfold wrap64;omega
 have hl3:¬ (65535:Int)<(n:Int)+20:=by omega
 have hn0:0≤(n:Int):=by omega
 obtain ⟨z,hz0⟩:∃ z:Int,z=n:=⟨_,rfl⟩
 rw[←hz0] at hl1 hl2 hl3 hn0 CZ
 replace hl1:=h'd hl1
 replace hn0:=h'd hn0
 replace hz0:=h'd hz0
 replace hn:=h'd hn
 rw[ht] at CK
 replace CS:=h'd CS
 replace CL:=h'd CL
 replace CM:=h'd CM
 replace CZ:=h'd CZ
 clear hb8 hL ok ht
 go_enter Tryz.func66,Tryz.ntmps66
 go_upto_region 1 with fail
 generalize ((w.alloc (.cells #[.int .u16 age,.int .u8 opts,.int .u8 (t:Int),.int .u32 id,.int .u32 adv,.int .i32 seq,.int .u16 0,.int .u16 0] 68)).alloc (.cells #[.int .u8 fl,.slice A1 n1 c1,.int .u32 m,.slice A2 n2 c2,.int .u32 k,.bool t2,.int .u32 fw,.int .u32 tg,.slice A3 n3 c3] 81)).alloc (.cells #[.int .u16 0,.int .u8 0,.int .u8 0,.int .u32 0,.int .u32 0,.int .i32 0,.int .u16 0,.int .u16 0,.slice none 0 0] 71)=w0 at g0 g1 g2 gB ⊢
 have x2:=g0.cell 2
 simp only[q'a,q'z,q's] at x2
 go_upto_region 3 with (go_at_call 88;refine c'm (CK.out _) ?_;rintro x w1 ⟨rfl,rfl⟩)
 go_upto_region 5 with (first
  | (refine wpList_load_row rfl 81 (.tmp 3) rfl (w.heap.size+1) rfl 81 #[.int .u8 fl,.slice A1 n1 c1,.int .u32 m,.slice A2 n2 c2,.int .u32 k,.bool t2,.int .u32 fw,.int .u32 tg,.slice A3 n3 c3] (0,0) _ g1 Tryz.underlying81 rfl (by kernel_rfl) ?_)
  | (go_at_call 90;refine c'm (CM.out _ (gB.mono (n'r _))) ?_;rintro x w2 ⟨rfl,k2⟩))
 have p0:=g0.below k2 g0.lt
 have p1:=g1.below k2 g1.lt
 have p2:=g2.below k2 g2.lt
 have pB:=gB.trans (k2.mono gB.size)
 clear g0 g1 g2 gB k2 x2
 have x2:=p0.cell 2
 simp only[q'a,q'z,q's] at x2
 go_upto_region 7 with (first
  | (refine wpList_load_row rfl 81 (.tmp 3) rfl (w.heap.size+1) rfl 81 #[.int .u8 fl,.slice A1 n1 c1,.int .u32 m,.slice A2 n2 c2,.int .u32 k,.bool t2,.int .u32 fw,.int .u32 tg,.slice A3 n3 c3] (0,0) _ p1 Tryz.underlying81 rfl (by kernel_rfl) ?_)
  | (go_at_call 107;refine c'm (CZ.out _ pB) ?_;rintro x w3 ⟨rfl,k3⟩))
 have q0:=p0.below k3 p0.lt
 have q1:=p1.below k3 p1.lt
 have q2:=p2.below k3 p2.lt
 have qB:=pB.trans (k3.mono pB.size)
 clear p0 p1 p2 pB k3 x2
 have a0:∀ W,Below (w.heap.size+1+1) w3 W→W.cell? ⟨w.heap.size,0,none⟩=some (.int .u16 age):=fun W h=>(h.cell (p:=⟨w.heap.size,0,none⟩) (by show w.heap.size<w.heap.size+1+1;omega)).trans (q0.cell 0)
 have a1:∀ W,Below (w.heap.size+1+1) w3 W→W.cell? ⟨w.heap.size,1,none⟩=some (.int .u8 opts):=fun W h=>(h.cell (p:=⟨w.heap.size,1,none⟩) (by show w.heap.size<w.heap.size+1+1;omega)).trans (q0.cell 1)
 have a2:∀ W,Below (w.heap.size+1+1) w3 W→W.cell? ⟨w.heap.size,2,none⟩=some (.int .u8 (t:Int)):=fun W h=>(h.cell (p:=⟨w.heap.size,2,none⟩) (by show w.heap.size<w.heap.size+1+1;omega)).trans (q0.cell 2)
 have a3:∀ W,Below (w.heap.size+1+1) w3 W→W.cell? ⟨w.heap.size,3,none⟩=some (.int .u32 id):=fun W h=>(h.cell (p:=⟨w.heap.size,3,none⟩) (by show w.heap.size<w.heap.size+1+1;omega)).trans (q0.cell 3)
 have a4:∀ W,Below (w.heap.size+1+1) w3 W→W.cell? ⟨w.heap.size,4,none⟩=some (.int .u32 adv):=fun W h=>(h.cell (p:=⟨w.heap.size,4,none⟩) (by show w.heap.size<w.heap.size+1+1;omega)).trans (q0.cell 4)
 have a5:∀ W,Below (w.heap.size+1+1) w3 W→W.cell? ⟨w.heap.size,5,none⟩=some (.int .i32 seq):=fun W h=>(h.cell (p:=⟨w.heap.size,5,none⟩) (by show w.heap.size<w.heap.size+1+1;omega)).trans (q0.cell 5)
 have a6:∀ W,Below (w.heap.size+1+1) w3 W→W.cell? ⟨w.heap.size,6,none⟩=some (.int .u16 0):=fun W h=>(h.cell (p:=⟨w.heap.size,6,none⟩) (by show w.heap.size<w.heap.size+1+1;omega)).trans (q0.cell 6)
 have a7:∀ W,Below (w.heap.size+1+1) w3 W→W.cell? ⟨w.heap.size,7,none⟩=some (.int .u16 0):=fun W h=>(h.cell (p:=⟨w.heap.size,7,none⟩) (by show w.heap.size<w.heap.size+1+1;omega)).trans (q0.cell 7)
 have b0:∀ W,Below (w.heap.size+1+1) w3 W→W.cell? ⟨w.heap.size+1,0,none⟩=some (.int .u8 fl):=fun W h=>(h.cell (p:=⟨w.heap.size+1,0,none⟩) (by show w.heap.size+1<w.heap.size+1+1;omega)).trans (q1.cell 0)
 have b1:∀ W,Below (w.heap.size+1+1) w3 W→W.cell? ⟨w.heap.size+1,1,none⟩=some (.slice A1 n1 c1):=fun W h=>(h.cell (p:=⟨w.heap.size+1,1,none⟩) (by show w.heap.size+1<w.heap.size+1+1;omega)).trans (q1.cell 1)
 have b2:∀ W,Below (w.heap.size+1+1) w3 W→W.cell? ⟨w.heap.size+1,2,none⟩=some (.int .u32 m):=fun W h=>(h.cell (p:=⟨w.heap.size+1,2,none⟩) (by show w.heap.size+1<w.heap.size+1+1;omega)).trans (q1.cell 2)
 have b3:∀ W,Below (w.heap.size+1+1) w3 W→W.cell? ⟨w.heap.size+1,3,none⟩=some (.slice A2 n2 c2):=fun W h=>(h.cell (p:=⟨w.heap.size+1,3,none⟩) (by show w.heap.size+1<w.heap.size+1+1;omega)).trans (q1.cell 3)
 have b4:∀ W,Below (w.heap.size+1+1) w3 W→W.cell? ⟨w.heap.size+1,4,none⟩=some (.int .u32 k):=fun W h=>(h.cell (p:=⟨w.heap.size+1,4,none⟩) (by show w.heap.size+1<w.heap.size+1+1;omega)).trans (q1.cell 4)
 have b5:∀ W,Below (w.heap.size+1+1) w3 W→W.cell? ⟨w.heap.size+1,5,none⟩=some (.bool t2):=fun W h=>(h.cell (p:=⟨w.heap.size+1,5,none⟩) (by show w.heap.size+1<w.heap.size+1+1;omega)).trans (q1.cell 5)
 have b6:∀ W,Below (w.heap.size+1+1) w3 W→W.cell? ⟨w.heap.size+1,6,none⟩=some (.int .u32 fw):=fun W h=>(h.cell (p:=⟨w.heap.size+1,6,none⟩) (by show w.heap.size+1<w.heap.size+1+1;omega)).trans (q1.cell 6)
 have b7:∀ W,Below (w.heap.size+1+1) w3 W→W.cell? ⟨w.heap.size+1,7,none⟩=some (.int .u32 tg):=fun W h=>(h.cell (p:=⟨w.heap.size+1,7,none⟩) (by show w.heap.size+1<w.heap.size+1+1;omega)).trans (q1.cell 7)
 have b8:∀ W,Below (w.heap.size+1+1) w3 W→W.cell? ⟨w.heap.size+1,8,none⟩=some (.slice A3 n3 c3):=fun W h=>(h.cell (p:=⟨w.heap.size+1,8,none⟩) (by show w.heap.size+1<w.heap.size+1+1;omega)).trans (q1.cell 8)
 have hz:=q2.lt
 have Q2:=h'd q2
 have QB:=h'd qB
 clear q0 q1 q2 qB
 go_region_held3 (fun W=>Below (w.heap.size+1+1) w3 W) (first | assumption | exact (b'r _ _).drew | exact b'r _ _ | exact HS4.mono (by omega) | exact HS5.mono (by omega) | exact pW6.below (HS5.mono (by omega)) (by omega) | fail)
  (first
   | (go_at_call 91;have C:=CL.out w3.drew QB.out.drew;(with_reducible refine c'm C ?_);clear C;rintro x w4 ⟨s,rfl,ho4,k4⟩;have HS4:=below_call (B:=w.heap.size+1+1+1) (a:=w3) (by first | assumption | exact (b'r _ _).drew | exact b'r _ _) k4 (by omega);have HO4:=own_less ho4 (show w.heap.size+1+1+1≤w3.drew.heap.size by show _≤w3.heap.size;omega);obtain ⟨-,A4,c4,rfl,-⟩:=Sl.of_own HO4;replace HO4:=h'd HO4;clear ho4 k4)
   | (go_at_call 108;have C:=CS.out _ _ _ HO4.out;(with_reducible refine c'm C ?_);clear C;rintro x w5 ⟨v,r,rfl,hr,ho5,k5⟩;obtain ⟨-,A5,c5,rfl,-⟩:=Sl.of_own ho5;have HS5:=below_call HS4 k5 (by omega);have HZ4:=HS4.size;replace HO5:=h'd (own_less ho5 (show w.heap.size+1+1+1≤_ by omega));clear ho5 k5 a0 a1 a2 a3 a4 a5 a6 a7 b0 b1 b2 b3 b4 b5 b6 b7 b8)
   | (have _q:=HO5;refine upon9 (t:=71) (x0:=.int .u16 0) (x1:=.int .u8 0) (x2:=.int .u8 0) (x3:=.int .u32 0) (x4:=.int .u32 0) (x5:=.int .i32 0) (x6:=.int .u16 0) (x7:=.int .u16 0) (x8:=.slice none 0 0) ?_ _ _ _ _ _ _ _ _ _ ?_;(focus (exact Q2.out.below HS5 (by omega)));intro W6 kW6 pW6)
   | fail)
 all_goals
  go_wp2
  have QZ:=QB.out
  have HZ5:=HS5.size
  refine bodyPost_ret (results_cell_tmp_row rfl _ _ (w.heap.size+1+1) 71 _ (0,0) _ rfl kW6 Tryz.underlying71 rfl (by kernel_rfl)) rfl ?_
  exact ⟨_,r,rfl,hr,own_put pW6 (own_less HO5.out (by omega)) (by decide),pW6.below (QZ.trans (HS5.mono (by omega))) (by omega)⟩
end Go.Proofs.YtcknpofnpabkiaaGreat
