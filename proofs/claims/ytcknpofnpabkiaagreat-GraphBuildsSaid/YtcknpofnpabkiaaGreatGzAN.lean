/- lodestarref06.lay at every type. Conditions: the numbers are of their kinds, the lists lie in memory. -/
import Derived.Test.YtcknpofnpabkiaaGreatGzAK
import Derived.Test.YtcknpofnpabkiaaGreatGzAL
set_option maxRecDepth 100000
namespace Go.Proofs.YtcknpofnpabkiaaGreat
open Go.RowKit Go.Lo
theorem be_t2 (k:Int) (hk:0≤k∧k<16777216):beN (k+2147483648) 4=[128]++beN k 3:=by
 simp only[beN,be4,Nat.sub_self,List.drop_zero,Nat.reduceSub,List.drop_succ_cons,List.cons_append,List.nil_append,List.cons.injEq,and_true]
 omega
theorem be_t0 (k:Int) (hk:0≤k∧k<16777216):beN k 4=[0]++beN k 3:=by
 simp only[beN,be4,Nat.sub_self,List.drop_zero,Nat.reduceSub,List.drop_succ_cons,List.cons_append,List.nil_append,List.cons.injEq,and_true]
 omega
set_option maxHeartbeats 4000000 in
theorem rlay3_any (m k:Int) (hm:0≤m∧m<4294967296) (hk:0≤k∧k<4294967296) (A1:Option Addr) (c1:Nat) (A2:Option Addr) (c2:Nat) (A3:Option Addr) (c3:Nat) (w:World):Calls Tryz.prog 91 #[.int .u8 3,.agg #[.int .u8 0,.slice A1 0 c1,.int .u32 m,.slice A2 0 c2,.int .u32 k,.bool false,.int .u32 0,.int .u32 0,.slice A3 0 c3]] w fun x w'=>∃ s,x=.returned s∧w'.ownsRow w.heap.size 5 1 s (beN m 4++beN k 4).length ((beN m 4++beN k 4).map u8c)∧Below w.heap.size w w':=by
 have hwz:=Nat.le_refl w.heap.size
 have S:BS w (w.alloc (.cells #[.int .u8 0,.slice A1 0 c1,.int .u32 m,.slice A2 0 c2,.int .u32 k,.bool false,.int .u32 0,.int .u32 0,.slice A3 0 c3] 81)) w.heap.size 81 #[.int .u8 0,.slice A1 0 c1,.int .u32 m,.slice A2 0 c2,.int .u32 k,.bool false,.int .u32 0,.int .u32 0,.slice A3 0 c3] (.slice none 0 0) []:=⟨Blk.new _ _ _,World.ownsRow_nil _ _ _ _,(Below.refl _ _).alloc (Nat.le_refl _) _⟩
 go_enter Tryz.func91,Tryz.ntmps91
 go_upto_region 1 with fail
 generalize w.alloc (.cells (#[.int .u8 0,.slice A1 0 c1,.int .u32 m,.slice A2 0 c2,.int .u32 k,.bool false,.int .u32 0,.int .u32 0,.slice A3 0 c3]:Array Value) 81)=W0 at S ⊢
 have hlL:(([]:List Int)).length=0:=rfl
 have O1:=S.own
 rw[hlL] at O1
 obtain ⟨-,A1z,c1z,hv1,-⟩:=Sl.of_own O1
 first | subst hv1 | clear hv1
 replace O1:=h'd O1
 have Z1:=S.blk.lt
 have x2_1:=S.blk.cell 2
 simp only[q'a,q'z,q's] at x2_1
 replace S:=h'd S
 have C:=h'd (four_any (m) hm W0)
 go_upto_region 24 with (first
  | (go_at_call 130;refine Calls.mono C.out ?_;rintro x Y1 ⟨s,rfl,hs,kk⟩;obtain ⟨-,As,cs,rfl,-⟩:=Sl.of_own hs;have hs2:=h'd hs;clear hs;have kz:=kk.size)
  | (at_builtin;refine wpList_append rfl (.tmp 86) (.tmp 89) 69 rfl (w.heap.size+1) u8T _ (0) _ rfl (own_below O1.out kk) _ _ 4 _ rfl (Sl.of_own hs2.out) (u8s_oneCell _) (by simp only[maxLen];omega) (by omega) (by omega) ?_;intro v1 W1 ho hg hob))
 have S:=S.out.step (M:=beN m 4) hwz kk hg (by rw[hlL,beN_len _ _ (by omega)];exact ho)
 clear C hs2 kk ho hg hob
 clear O1 hlL x2_1
 rw[List.nil_append] at S
 have hlL:(beN m 4).length=4:=by simp[beN_len]
 have O2:=S.own
 rw[hlL] at O2
 obtain ⟨-,A2z,c2z,hv2,-⟩:=Sl.of_own O2
 first | subst hv2 | clear hv2
 replace O2:=h'd O2
 have Z2:=S.blk.lt
 have x4_2:=S.blk.cell 4
 simp only[q'a,q'z,q's] at x4_2
 replace S:=h'd S
 have C:=h'd (four_any (k) hk W1)
 go_upto_region 34 with (first
  | (go_at_call 130;refine Calls.mono C.out ?_;rintro x Y2 ⟨s,rfl,hs,kk⟩;obtain ⟨-,As,cs,rfl,-⟩:=Sl.of_own hs;have hs2:=h'd hs;clear hs;have kz:=kk.size)
  | (at_builtin;refine wpList_append rfl (.tmp 91) (.tmp 94) 69 rfl (w.heap.size+1) u8T _ (4) _ rfl (own_below O2.out kk) _ _ 4 _ rfl (Sl.of_own hs2.out) (u8s_oneCell _) (by simp only[maxLen];omega) (by omega) (by omega) ?_;intro v2 W2 ho hg hob))
 have S:=S.out.step (M:=beN k 4) hwz kk hg (by rw[hlL,beN_len _ _ (by omega)];exact ho)
 clear C hs2 kk ho hg hob
 clear O2 hlL x4_2
 have hlL:((beN m 4++beN k 4)).length=8:=by simp[beN_len]
 have O:=S.own
 rw[hlL] at O
 go_wp2
 go_ret
 exact ⟨_,rfl,by rw[hlL];exact own_less O (by omega),S.far⟩
set_option maxHeartbeats 4000000 in
theorem rlay4_any (m k:Int) (hm:0≤m∧m<4294967296) (hk:0≤k∧k<4294967296) (A1:Option Addr) (c1:Nat) (A2:Option Addr) (c2:Nat) (A3:Option Addr) (c3:Nat) (w:World):Calls Tryz.prog 91 #[.int .u8 4,.agg #[.int .u8 0,.slice A1 0 c1,.int .u32 m,.slice A2 0 c2,.int .u32 k,.bool false,.int .u32 0,.int .u32 0,.slice A3 0 c3]] w fun x w'=>∃ s,x=.returned s∧w'.ownsRow w.heap.size 5 1 s (beN m 4++beN k 4).length ((beN m 4++beN k 4).map u8c)∧Below w.heap.size w w':=by
 have hwz:=Nat.le_refl w.heap.size
 have S:BS w (w.alloc (.cells #[.int .u8 0,.slice A1 0 c1,.int .u32 m,.slice A2 0 c2,.int .u32 k,.bool false,.int .u32 0,.int .u32 0,.slice A3 0 c3] 81)) w.heap.size 81 #[.int .u8 0,.slice A1 0 c1,.int .u32 m,.slice A2 0 c2,.int .u32 k,.bool false,.int .u32 0,.int .u32 0,.slice A3 0 c3] (.slice none 0 0) []:=⟨Blk.new _ _ _,World.ownsRow_nil _ _ _ _,(Below.refl _ _).alloc (Nat.le_refl _) _⟩
 go_enter Tryz.func91,Tryz.ntmps91
 go_upto_region 1 with fail
 generalize w.alloc (.cells (#[.int .u8 0,.slice A1 0 c1,.int .u32 m,.slice A2 0 c2,.int .u32 k,.bool false,.int .u32 0,.int .u32 0,.slice A3 0 c3]:Array Value) 81)=W0 at S ⊢
 have hlL:(([]:List Int)).length=0:=rfl
 have O3:=S.own
 rw[hlL] at O3
 obtain ⟨-,A3z,c3z,hv3,-⟩:=Sl.of_own O3
 first | subst hv3 | clear hv3
 replace O3:=h'd O3
 have Z3:=S.blk.lt
 have x2_3:=S.blk.cell 2
 simp only[q'a,q'z,q's] at x2_3
 replace S:=h'd S
 have C:=h'd (four_any (m) hm W0)
 go_upto_region 24 with (first
  | (go_at_call 130;refine Calls.mono C.out ?_;rintro x Y3 ⟨s,rfl,hs,kk⟩;obtain ⟨-,As,cs,rfl,-⟩:=Sl.of_own hs;have hs2:=h'd hs;clear hs;have kz:=kk.size)
  | (at_builtin;refine wpList_append rfl (.tmp 86) (.tmp 89) 69 rfl (w.heap.size+1) u8T _ (0) _ rfl (own_below O3.out kk) _ _ 4 _ rfl (Sl.of_own hs2.out) (u8s_oneCell _) (by simp only[maxLen];omega) (by omega) (by omega) ?_;intro v3 W3 ho hg hob))
 have S:=S.out.step (M:=beN m 4) hwz kk hg (by rw[hlL,beN_len _ _ (by omega)];exact ho)
 clear C hs2 kk ho hg hob
 clear O3 hlL x2_3
 rw[List.nil_append] at S
 have hlL:(beN m 4).length=4:=by simp[beN_len]
 have O4:=S.own
 rw[hlL] at O4
 obtain ⟨-,A4z,c4z,hv4,-⟩:=Sl.of_own O4
 first | subst hv4 | clear hv4
 replace O4:=h'd O4
 have Z4:=S.blk.lt
 have x4_4:=S.blk.cell 4
 simp only[q'a,q'z,q's] at x4_4
 replace S:=h'd S
 have C:=h'd (four_any (k) hk W3)
 go_upto_region 34 with (first
  | (go_at_call 130;refine Calls.mono C.out ?_;rintro x Y4 ⟨s,rfl,hs,kk⟩;obtain ⟨-,As,cs,rfl,-⟩:=Sl.of_own hs;have hs2:=h'd hs;clear hs;have kz:=kk.size)
  | (at_builtin;refine wpList_append rfl (.tmp 91) (.tmp 94) 69 rfl (w.heap.size+1) u8T _ (4) _ rfl (own_below O4.out kk) _ _ 4 _ rfl (Sl.of_own hs2.out) (u8s_oneCell _) (by simp only[maxLen];omega) (by omega) (by omega) ?_;intro v4 W4 ho hg hob))
 have S:=S.out.step (M:=beN k 4) hwz kk hg (by rw[hlL,beN_len _ _ (by omega)];exact ho)
 clear C hs2 kk ho hg hob
 clear O4 hlL x4_4
 have hlL:((beN m 4++beN k 4)).length=8:=by simp[beN_len]
 have O:=S.own
 rw[hlL] at O
 go_wp2
 go_ret
 exact ⟨_,rfl,by rw[hlL];exact own_less O (by omega),S.far⟩
set_option maxHeartbeats 4000000 in
theorem rlay5_any (m k:Int) (t2:Bool) (fw tg:Int) (hm:0≤m∧m<4294967296) (hk:0≤k∧k<16777216) (hfw:0≤fw∧fw<4294967296) (htg:0≤tg∧tg<4294967296) (A1:Option Addr) (c1:Nat) (A2:Option Addr) (c2:Nat) (A3:Option Addr) (c3:Nat) (w:World):Calls Tryz.prog 91 #[.int .u8 5,.agg #[.int .u8 0,.slice A1 0 c1,.int .u32 m,.slice A2 0 c2,.int .u32 k,.bool t2,.int .u32 fw,.int .u32 tg,.slice A3 0 c3]] w fun x w'=>∃ s,x=.returned s∧w'.ownsRow w.heap.size 5 1 s (beN m 4++([if t2 then 128 else 0]++(beN k 3++(beN fw 4++beN tg 4)))).length ((beN m 4++([if t2 then 128 else 0]++(beN k 3++(beN fw 4++beN tg 4)))).map u8c)∧Below w.heap.size w w':=by
 cases t2
 ·have hk4:0≤k∧k<4294967296:=by omega
  have wk:IntKind.u32.wrap (k+2147483648)=k+2147483648:=by rw[IntKind.wrap_u32];omega
  have hwz:=Nat.le_refl w.heap.size
  have S:BS w (w.alloc (.cells #[.int .u8 0,.slice A1 0 c1,.int .u32 m,.slice A2 0 c2,.int .u32 k,.bool false,.int .u32 fw,.int .u32 tg,.slice A3 0 c3] 81)) w.heap.size 81 #[.int .u8 0,.slice A1 0 c1,.int .u32 m,.slice A2 0 c2,.int .u32 k,.bool false,.int .u32 fw,.int .u32 tg,.slice A3 0 c3] (.slice none 0 0) []:=⟨Blk.new _ _ _,World.ownsRow_nil _ _ _ _,(Below.refl _ _).alloc (Nat.le_refl _) _⟩
  go_enter Tryz.func91,Tryz.ntmps91
  go_upto_region 1 with fail
  generalize w.alloc (.cells (#[.int .u8 0,.slice A1 0 c1,.int .u32 m,.slice A2 0 c2,.int .u32 k,.bool false,.int .u32 fw,.int .u32 tg,.slice A3 0 c3]:Array Value) 81)=W0 at S ⊢
  have hlL:(([]:List Int)).length=0:=rfl
  have O5:=S.own
  rw[hlL] at O5
  obtain ⟨-,A5z,c5z,hv5,-⟩:=Sl.of_own O5
  first | subst hv5 | clear hv5
  replace O5:=h'd O5
  have Z5:=S.blk.lt
  have x2_5:=S.blk.cell 2
  simp only[q'a,q'z,q's] at x2_5
  replace S:=h'd S
  have C:=h'd (four_any (m) hm W0)
  go_upto_region 28 with (first
   | (go_at_call 130;refine Calls.mono C.out ?_;rintro x Y5 ⟨s,rfl,hs,kk⟩;obtain ⟨-,As,cs,rfl,-⟩:=Sl.of_own hs;have hs2:=h'd hs;clear hs;have kz:=kk.size)
   | (at_builtin;refine wpList_append rfl (.tmp 99) (.tmp 102) 69 rfl (w.heap.size+1) u8T _ (0) _ rfl (own_below O5.out kk) _ _ 4 _ rfl (Sl.of_own hs2.out) (u8s_oneCell _) (by simp only[maxLen];omega) (by omega) (by omega) ?_;intro v5 W5 ho hg hob))
  have S:=S.out.step (M:=beN m 4) hwz kk hg (by rw[hlL,beN_len _ _ (by omega)];exact ho)
  clear C hs2 kk ho hg hob
  clear O5 hlL x2_5
  rw[List.nil_append] at S
  have hlL:(beN m 4).length=4:=by simp[beN_len]
  have x4:=S.blk.cell 4
  have x5:=S.blk.cell 5
  simp only[q'a,q'z,q's] at x4 x5
  go_upto_region 31 with fail
  clear x4 x5
  have O6:=S.own
  rw[hlL] at O6
  obtain ⟨-,A6z,c6z,hv6,-⟩:=Sl.of_own O6
  first | subst hv6 | clear hv6
  replace O6:=h'd O6
  have Z6:=S.blk.lt
  replace S:=h'd S
  have C:=h'd (four_any (k) hk4 W5)
  go_upto_region 32 with (first
   | (go_at_call 130;refine Calls.mono C.out ?_;rintro x Y6 ⟨s,rfl,hs,kk⟩;obtain ⟨-,As,cs,rfl,-⟩:=Sl.of_own hs;have hs2:=h'd hs;clear hs;have kz:=kk.size)
   | (at_builtin;refine wpList_append rfl (.tmp 110) (.tmp 112) 69 rfl (w.heap.size+1) u8T _ (4) _ rfl (own_below O6.out kk) _ _ 4 _ rfl (Sl.of_own hs2.out) (u8s_oneCell _) (by simp only[maxLen];omega) (by omega) (by omega) ?_;intro v6 W6 ho hg hob))
  have S:=S.out.step (M:=beN (k) 4) hwz kk hg (by rw[hlL,beN_len _ _ (by omega)];exact ho)
  clear C hs2 kk ho hg hob
  clear O6 hlL
  have hlL:((beN m 4++beN (k) 4)).length=8:=by simp[beN_len]
  have O7:=S.own
  rw[hlL] at O7
  obtain ⟨-,A7z,c7z,hv7,-⟩:=Sl.of_own O7
  first | subst hv7 | clear hv7
  replace O7:=h'd O7
  have Z7:=S.blk.lt
  have x6_7:=S.blk.cell 6
  simp only[q'a,q'z,q's] at x6_7
  replace S:=h'd S
  have C:=h'd (four_any (fw) hfw W6)
  go_upto_region 33 with (first
   | (go_at_call 130;refine Calls.mono C.out ?_;rintro x Y7 ⟨s,rfl,hs,kk⟩;obtain ⟨-,As,cs,rfl,-⟩:=Sl.of_own hs;have hs2:=h'd hs;clear hs;have kz:=kk.size)
   | (at_builtin;refine wpList_append rfl (.tmp 114) (.tmp 117) 69 rfl (w.heap.size+1) u8T _ (8) _ rfl (own_below O7.out kk) _ _ 4 _ rfl (Sl.of_own hs2.out) (u8s_oneCell _) (by simp only[maxLen];omega) (by omega) (by omega) ?_;intro v7 W7 ho hg hob))
  have S:=S.out.step (M:=beN fw 4) hwz kk hg (by rw[hlL,beN_len _ _ (by omega)];exact ho)
  clear C hs2 kk ho hg hob
  clear O7 hlL x6_7
  have hlL:(((beN m 4++beN (k) 4)++beN fw 4)).length=12:=by simp[beN_len]
  have O8:=S.own
  rw[hlL] at O8
  obtain ⟨-,A8z,c8z,hv8,-⟩:=Sl.of_own O8
  first | subst hv8 | clear hv8
  replace O8:=h'd O8
  have Z8:=S.blk.lt
  have x7_8:=S.blk.cell 7
  simp only[q'a,q'z,q's] at x7_8
  replace S:=h'd S
  have C:=h'd (four_any (tg) htg W7)
  go_upto_region 34 with (first
   | (go_at_call 130;refine Calls.mono C.out ?_;rintro x Y8 ⟨s,rfl,hs,kk⟩;obtain ⟨-,As,cs,rfl,-⟩:=Sl.of_own hs;have hs2:=h'd hs;clear hs;have kz:=kk.size)
   | (at_builtin;refine wpList_append rfl (.tmp 119) (.tmp 122) 69 rfl (w.heap.size+1) u8T _ (12) _ rfl (own_below O8.out kk) _ _ 4 _ rfl (Sl.of_own hs2.out) (u8s_oneCell _) (by simp only[maxLen];omega) (by omega) (by omega) ?_;intro v8 W8 ho hg hob))
  have S:=S.out.step (M:=beN tg 4) hwz kk hg (by rw[hlL,beN_len _ _ (by omega)];exact ho)
  clear C hs2 kk ho hg hob
  clear O8 hlL x7_8
  have hlL:((((beN m 4++beN (k) 4)++beN fw 4)++beN tg 4)).length=16:=by simp[beN_len]
  rw[be_t0 k hk] at S hlL
  have e16:(beN m 4++([if false then 128 else 0]++(beN k 3++(beN fw 4++beN tg 4))))=beN m 4++([0]++beN k 3)++beN fw 4++beN tg 4:=by simp
  have O:=S.own
  rw[←e16] at O
  clear e16
  have Oh:=h'd O
  have O2:=S.own
  rw[hlL] at O2
  clear O
  replace S:=h'd S
  go_wp2
  go_ret
  exact ⟨_,rfl,own_less Oh.out (by omega),S.out.far⟩
 ·have hk4:0≤k+2147483648∧k+2147483648<4294967296:=by omega
  have wk:IntKind.u32.wrap (k+2147483648)=k+2147483648:=by rw[IntKind.wrap_u32];omega
  have hwz:=Nat.le_refl w.heap.size
  have S:BS w (w.alloc (.cells #[.int .u8 0,.slice A1 0 c1,.int .u32 m,.slice A2 0 c2,.int .u32 k,.bool true,.int .u32 fw,.int .u32 tg,.slice A3 0 c3] 81)) w.heap.size 81 #[.int .u8 0,.slice A1 0 c1,.int .u32 m,.slice A2 0 c2,.int .u32 k,.bool true,.int .u32 fw,.int .u32 tg,.slice A3 0 c3] (.slice none 0 0) []:=⟨Blk.new _ _ _,World.ownsRow_nil _ _ _ _,(Below.refl _ _).alloc (Nat.le_refl _) _⟩
  go_enter Tryz.func91,Tryz.ntmps91
  go_upto_region 1 with fail
  generalize w.alloc (.cells (#[.int .u8 0,.slice A1 0 c1,.int .u32 m,.slice A2 0 c2,.int .u32 k,.bool true,.int .u32 fw,.int .u32 tg,.slice A3 0 c3]:Array Value) 81)=W0 at S ⊢
  have hlL:(([]:List Int)).length=0:=rfl
  have O9:=S.own
  rw[hlL] at O9
  obtain ⟨-,A9z,c9z,hv9,-⟩:=Sl.of_own O9
  first | subst hv9 | clear hv9
  replace O9:=h'd O9
  have Z9:=S.blk.lt
  have x2_9:=S.blk.cell 2
  simp only[q'a,q'z,q's] at x2_9
  replace S:=h'd S
  have C:=h'd (four_any (m) hm W0)
  go_upto_region 28 with (first
   | (go_at_call 130;refine Calls.mono C.out ?_;rintro x Y9 ⟨s,rfl,hs,kk⟩;obtain ⟨-,As,cs,rfl,-⟩:=Sl.of_own hs;have hs2:=h'd hs;clear hs;have kz:=kk.size)
   | (at_builtin;refine wpList_append rfl (.tmp 99) (.tmp 102) 69 rfl (w.heap.size+1) u8T _ (0) _ rfl (own_below O9.out kk) _ _ 4 _ rfl (Sl.of_own hs2.out) (u8s_oneCell _) (by simp only[maxLen];omega) (by omega) (by omega) ?_;intro v9 W9 ho hg hob))
  have S:=S.out.step (M:=beN m 4) hwz kk hg (by rw[hlL,beN_len _ _ (by omega)];exact ho)
  clear C hs2 kk ho hg hob
  clear O9 hlL x2_9
  rw[List.nil_append] at S
  have hlL:(beN m 4).length=4:=by simp[beN_len]
  have x4:=S.blk.cell 4
  have x5:=S.blk.cell 5
  simp only[q'a,q'z,q's] at x4 x5
  go_upto_region 31 with fail
  clear x4 x5
  have O10:=S.own
  rw[hlL] at O10
  obtain ⟨-,A10z,c10z,hv10,-⟩:=Sl.of_own O10
  first | subst hv10 | clear hv10
  replace O10:=h'd O10
  have Z10:=S.blk.lt
  replace S:=h'd S
  have C:=h'd (four_any (k+2147483648) hk4 W9)
  go_upto_region 32 with (first
   | (go_at_call 130;refine Calls.mono C.out ?_;rintro x Y10 ⟨s,rfl,hs,kk⟩;obtain ⟨-,As,cs,rfl,-⟩:=Sl.of_own hs;have hs2:=h'd hs;clear hs;have kz:=kk.size)
   | (at_builtin;refine wpList_append rfl (.tmp 110) (.tmp 112) 69 rfl (w.heap.size+1) u8T _ (4) _ rfl (own_below O10.out kk) _ _ 4 _ rfl (Sl.of_own hs2.out) (u8s_oneCell _) (by simp only[maxLen];omega) (by omega) (by omega) ?_;intro v10 W10 ho hg hob))
  have S:=S.out.step (M:=beN (k+2147483648) 4) hwz kk hg (by rw[hlL,beN_len _ _ (by omega)];exact ho)
  clear C hs2 kk ho hg hob
  clear O10 hlL
  have hlL:((beN m 4++beN (k+2147483648) 4)).length=8:=by simp[beN_len]
  have O11:=S.own
  rw[hlL] at O11
  obtain ⟨-,A11z,c11z,hv11,-⟩:=Sl.of_own O11
  first | subst hv11 | clear hv11
  replace O11:=h'd O11
  have Z11:=S.blk.lt
  have x6_11:=S.blk.cell 6
  simp only[q'a,q'z,q's] at x6_11
  replace S:=h'd S
  have C:=h'd (four_any (fw) hfw W10)
  go_upto_region 33 with (first
   | (go_at_call 130;refine Calls.mono C.out ?_;rintro x Y11 ⟨s,rfl,hs,kk⟩;obtain ⟨-,As,cs,rfl,-⟩:=Sl.of_own hs;have hs2:=h'd hs;clear hs;have kz:=kk.size)
   | (at_builtin;refine wpList_append rfl (.tmp 114) (.tmp 117) 69 rfl (w.heap.size+1) u8T _ (8) _ rfl (own_below O11.out kk) _ _ 4 _ rfl (Sl.of_own hs2.out) (u8s_oneCell _) (by simp only[maxLen];omega) (by omega) (by omega) ?_;intro v11 W11 ho hg hob))
  have S:=S.out.step (M:=beN fw 4) hwz kk hg (by rw[hlL,beN_len _ _ (by omega)];exact ho)
  clear C hs2 kk ho hg hob
  clear O11 hlL x6_11
  have hlL:(((beN m 4++beN (k+2147483648) 4)++beN fw 4)).length=12:=by simp[beN_len]
  have O12:=S.own
  rw[hlL] at O12
  obtain ⟨-,A12z,c12z,hv12,-⟩:=Sl.of_own O12
  first | subst hv12 | clear hv12
  replace O12:=h'd O12
  have Z12:=S.blk.lt
  have x7_12:=S.blk.cell 7
  simp only[q'a,q'z,q's] at x7_12
  replace S:=h'd S
  have C:=h'd (four_any (tg) htg W11)
  go_upto_region 34 with (first
   | (go_at_call 130;refine Calls.mono C.out ?_;rintro x Y12 ⟨s,rfl,hs,kk⟩;obtain ⟨-,As,cs,rfl,-⟩:=Sl.of_own hs;have hs2:=h'd hs;clear hs;have kz:=kk.size)
   | (at_builtin;refine wpList_append rfl (.tmp 119) (.tmp 122) 69 rfl (w.heap.size+1) u8T _ (12) _ rfl (own_below O12.out kk) _ _ 4 _ rfl (Sl.of_own hs2.out) (u8s_oneCell _) (by simp only[maxLen];omega) (by omega) (by omega) ?_;intro v12 W12 ho hg hob))
  have S:=S.out.step (M:=beN tg 4) hwz kk hg (by rw[hlL,beN_len _ _ (by omega)];exact ho)
  clear C hs2 kk ho hg hob
  clear O12 hlL x7_12
  have hlL:((((beN m 4++beN (k+2147483648) 4)++beN fw 4)++beN tg 4)).length=16:=by simp[beN_len]
  rw[be_t2 k hk] at S hlL
  have e16:(beN m 4++([if true then 128 else 0]++(beN k 3++(beN fw 4++beN tg 4))))=beN m 4++([128]++beN k 3)++beN fw 4++beN tg 4:=by simp
  have O:=S.own
  rw[←e16] at O
  clear e16
  have Oh:=h'd O
  have O2:=S.own
  rw[hlL] at O2
  clear O
  replace S:=h'd S
  go_wp2
  go_ret
  exact ⟨_,rfl,own_less Oh.out (by omega),S.out.far⟩
set_option maxHeartbeats 4000000 in
theorem rlay7_any (m k:Int) (t2:Bool) (fw tg:Int) (hm:0≤m∧m<4294967296) (hk:0≤k∧k<16777216) (hfw:0≤fw∧fw<4294967296) (htg:0≤tg∧tg<4294967296) (A1:Option Addr) (c1:Nat) (A2:Option Addr) (c2:Nat) (A3:Option Addr) (c3:Nat) (w:World):Calls Tryz.prog 91 #[.int .u8 7,.agg #[.int .u8 0,.slice A1 0 c1,.int .u32 m,.slice A2 0 c2,.int .u32 k,.bool t2,.int .u32 fw,.int .u32 tg,.slice A3 0 c3]] w fun x w'=>∃ s,x=.returned s∧w'.ownsRow w.heap.size 5 1 s (beN m 4++([if t2 then 128 else 0]++(beN k 3++(beN fw 4++beN tg 4)))).length ((beN m 4++([if t2 then 128 else 0]++(beN k 3++(beN fw 4++beN tg 4)))).map u8c)∧Below w.heap.size w w':=by
 cases t2
 ·have hk4:0≤k∧k<4294967296:=by omega
  have wk:IntKind.u32.wrap (k+2147483648)=k+2147483648:=by rw[IntKind.wrap_u32];omega
  have hwz:=Nat.le_refl w.heap.size
  have S:BS w (w.alloc (.cells #[.int .u8 0,.slice A1 0 c1,.int .u32 m,.slice A2 0 c2,.int .u32 k,.bool false,.int .u32 fw,.int .u32 tg,.slice A3 0 c3] 81)) w.heap.size 81 #[.int .u8 0,.slice A1 0 c1,.int .u32 m,.slice A2 0 c2,.int .u32 k,.bool false,.int .u32 fw,.int .u32 tg,.slice A3 0 c3] (.slice none 0 0) []:=⟨Blk.new _ _ _,World.ownsRow_nil _ _ _ _,(Below.refl _ _).alloc (Nat.le_refl _) _⟩
  go_enter Tryz.func91,Tryz.ntmps91
  go_upto_region 1 with fail
  generalize w.alloc (.cells (#[.int .u8 0,.slice A1 0 c1,.int .u32 m,.slice A2 0 c2,.int .u32 k,.bool false,.int .u32 fw,.int .u32 tg,.slice A3 0 c3]:Array Value) 81)=W0 at S ⊢
  have hlL:(([]:List Int)).length=0:=rfl
  have O13:=S.own
  rw[hlL] at O13
  obtain ⟨-,A13z,c13z,hv13,-⟩:=Sl.of_own O13
  first | subst hv13 | clear hv13
  replace O13:=h'd O13
  have Z13:=S.blk.lt
  have x2_13:=S.blk.cell 2
  simp only[q'a,q'z,q's] at x2_13
  replace S:=h'd S
  have C:=h'd (four_any (m) hm W0)
  go_upto_region 28 with (first
   | (go_at_call 130;refine Calls.mono C.out ?_;rintro x Y13 ⟨s,rfl,hs,kk⟩;obtain ⟨-,As,cs,rfl,-⟩:=Sl.of_own hs;have hs2:=h'd hs;clear hs;have kz:=kk.size)
   | (at_builtin;refine wpList_append rfl (.tmp 99) (.tmp 102) 69 rfl (w.heap.size+1) u8T _ (0) _ rfl (own_below O13.out kk) _ _ 4 _ rfl (Sl.of_own hs2.out) (u8s_oneCell _) (by simp only[maxLen];omega) (by omega) (by omega) ?_;intro v13 W13 ho hg hob))
  have S:=S.out.step (M:=beN m 4) hwz kk hg (by rw[hlL,beN_len _ _ (by omega)];exact ho)
  clear C hs2 kk ho hg hob
  clear O13 hlL x2_13
  rw[List.nil_append] at S
  have hlL:(beN m 4).length=4:=by simp[beN_len]
  have x4:=S.blk.cell 4
  have x5:=S.blk.cell 5
  simp only[q'a,q'z,q's] at x4 x5
  go_upto_region 31 with fail
  clear x4 x5
  have O14:=S.own
  rw[hlL] at O14
  obtain ⟨-,A14z,c14z,hv14,-⟩:=Sl.of_own O14
  first | subst hv14 | clear hv14
  replace O14:=h'd O14
  have Z14:=S.blk.lt
  replace S:=h'd S
  have C:=h'd (four_any (k) hk4 W13)
  go_upto_region 32 with (first
   | (go_at_call 130;refine Calls.mono C.out ?_;rintro x Y14 ⟨s,rfl,hs,kk⟩;obtain ⟨-,As,cs,rfl,-⟩:=Sl.of_own hs;have hs2:=h'd hs;clear hs;have kz:=kk.size)
   | (at_builtin;refine wpList_append rfl (.tmp 110) (.tmp 112) 69 rfl (w.heap.size+1) u8T _ (4) _ rfl (own_below O14.out kk) _ _ 4 _ rfl (Sl.of_own hs2.out) (u8s_oneCell _) (by simp only[maxLen];omega) (by omega) (by omega) ?_;intro v14 W14 ho hg hob))
  have S:=S.out.step (M:=beN (k) 4) hwz kk hg (by rw[hlL,beN_len _ _ (by omega)];exact ho)
  clear C hs2 kk ho hg hob
  clear O14 hlL
  have hlL:((beN m 4++beN (k) 4)).length=8:=by simp[beN_len]
  have O15:=S.own
  rw[hlL] at O15
  obtain ⟨-,A15z,c15z,hv15,-⟩:=Sl.of_own O15
  first | subst hv15 | clear hv15
  replace O15:=h'd O15
  have Z15:=S.blk.lt
  have x6_15:=S.blk.cell 6
  simp only[q'a,q'z,q's] at x6_15
  replace S:=h'd S
  have C:=h'd (four_any (fw) hfw W14)
  go_upto_region 33 with (first
   | (go_at_call 130;refine Calls.mono C.out ?_;rintro x Y15 ⟨s,rfl,hs,kk⟩;obtain ⟨-,As,cs,rfl,-⟩:=Sl.of_own hs;have hs2:=h'd hs;clear hs;have kz:=kk.size)
   | (at_builtin;refine wpList_append rfl (.tmp 114) (.tmp 117) 69 rfl (w.heap.size+1) u8T _ (8) _ rfl (own_below O15.out kk) _ _ 4 _ rfl (Sl.of_own hs2.out) (u8s_oneCell _) (by simp only[maxLen];omega) (by omega) (by omega) ?_;intro v15 W15 ho hg hob))
  have S:=S.out.step (M:=beN fw 4) hwz kk hg (by rw[hlL,beN_len _ _ (by omega)];exact ho)
  clear C hs2 kk ho hg hob
  clear O15 hlL x6_15
  have hlL:(((beN m 4++beN (k) 4)++beN fw 4)).length=12:=by simp[beN_len]
  have O16:=S.own
  rw[hlL] at O16
  obtain ⟨-,A16z,c16z,hv16,-⟩:=Sl.of_own O16
  first | subst hv16 | clear hv16
  replace O16:=h'd O16
  have Z16:=S.blk.lt
  have x7_16:=S.blk.cell 7
  simp only[q'a,q'z,q's] at x7_16
  replace S:=h'd S
  have C:=h'd (four_any (tg) htg W15)
  go_upto_region 34 with (first
   | (go_at_call 130;refine Calls.mono C.out ?_;rintro x Y16 ⟨s,rfl,hs,kk⟩;obtain ⟨-,As,cs,rfl,-⟩:=Sl.of_own hs;have hs2:=h'd hs;clear hs;have kz:=kk.size)
   | (at_builtin;refine wpList_append rfl (.tmp 119) (.tmp 122) 69 rfl (w.heap.size+1) u8T _ (12) _ rfl (own_below O16.out kk) _ _ 4 _ rfl (Sl.of_own hs2.out) (u8s_oneCell _) (by simp only[maxLen];omega) (by omega) (by omega) ?_;intro v16 W16 ho hg hob))
  have S:=S.out.step (M:=beN tg 4) hwz kk hg (by rw[hlL,beN_len _ _ (by omega)];exact ho)
  clear C hs2 kk ho hg hob
  clear O16 hlL x7_16
  have hlL:((((beN m 4++beN (k) 4)++beN fw 4)++beN tg 4)).length=16:=by simp[beN_len]
  rw[be_t0 k hk] at S hlL
  have e16:(beN m 4++([if false then 128 else 0]++(beN k 3++(beN fw 4++beN tg 4))))=beN m 4++([0]++beN k 3)++beN fw 4++beN tg 4:=by simp
  have O:=S.own
  rw[←e16] at O
  clear e16
  have Oh:=h'd O
  have O2:=S.own
  rw[hlL] at O2
  clear O
  replace S:=h'd S
  go_wp2
  go_ret
  exact ⟨_,rfl,own_less Oh.out (by omega),S.out.far⟩
 ·have hk4:0≤k+2147483648∧k+2147483648<4294967296:=by omega
  have wk:IntKind.u32.wrap (k+2147483648)=k+2147483648:=by rw[IntKind.wrap_u32];omega
  have hwz:=Nat.le_refl w.heap.size
  have S:BS w (w.alloc (.cells #[.int .u8 0,.slice A1 0 c1,.int .u32 m,.slice A2 0 c2,.int .u32 k,.bool true,.int .u32 fw,.int .u32 tg,.slice A3 0 c3] 81)) w.heap.size 81 #[.int .u8 0,.slice A1 0 c1,.int .u32 m,.slice A2 0 c2,.int .u32 k,.bool true,.int .u32 fw,.int .u32 tg,.slice A3 0 c3] (.slice none 0 0) []:=⟨Blk.new _ _ _,World.ownsRow_nil _ _ _ _,(Below.refl _ _).alloc (Nat.le_refl _) _⟩
  go_enter Tryz.func91,Tryz.ntmps91
  go_upto_region 1 with fail
  generalize w.alloc (.cells (#[.int .u8 0,.slice A1 0 c1,.int .u32 m,.slice A2 0 c2,.int .u32 k,.bool true,.int .u32 fw,.int .u32 tg,.slice A3 0 c3]:Array Value) 81)=W0 at S ⊢
  have hlL:(([]:List Int)).length=0:=rfl
  have O17:=S.own
  rw[hlL] at O17
  obtain ⟨-,A17z,c17z,hv17,-⟩:=Sl.of_own O17
  first | subst hv17 | clear hv17
  replace O17:=h'd O17
  have Z17:=S.blk.lt
  have x2_17:=S.blk.cell 2
  simp only[q'a,q'z,q's] at x2_17
  replace S:=h'd S
  have C:=h'd (four_any (m) hm W0)
  go_upto_region 28 with (first
   | (go_at_call 130;refine Calls.mono C.out ?_;rintro x Y17 ⟨s,rfl,hs,kk⟩;obtain ⟨-,As,cs,rfl,-⟩:=Sl.of_own hs;have hs2:=h'd hs;clear hs;have kz:=kk.size)
   | (at_builtin;refine wpList_append rfl (.tmp 99) (.tmp 102) 69 rfl (w.heap.size+1) u8T _ (0) _ rfl (own_below O17.out kk) _ _ 4 _ rfl (Sl.of_own hs2.out) (u8s_oneCell _) (by simp only[maxLen];omega) (by omega) (by omega) ?_;intro v17 W17 ho hg hob))
  have S:=S.out.step (M:=beN m 4) hwz kk hg (by rw[hlL,beN_len _ _ (by omega)];exact ho)
  clear C hs2 kk ho hg hob
  clear O17 hlL x2_17
  rw[List.nil_append] at S
  have hlL:(beN m 4).length=4:=by simp[beN_len]
  have x4:=S.blk.cell 4
  have x5:=S.blk.cell 5
  simp only[q'a,q'z,q's] at x4 x5
  go_upto_region 31 with fail
  clear x4 x5
  have O18:=S.own
  rw[hlL] at O18
  obtain ⟨-,A18z,c18z,hv18,-⟩:=Sl.of_own O18
  first | subst hv18 | clear hv18
  replace O18:=h'd O18
  have Z18:=S.blk.lt
  replace S:=h'd S
  have C:=h'd (four_any (k+2147483648) hk4 W17)
  go_upto_region 32 with (first
   | (go_at_call 130;refine Calls.mono C.out ?_;rintro x Y18 ⟨s,rfl,hs,kk⟩;obtain ⟨-,As,cs,rfl,-⟩:=Sl.of_own hs;have hs2:=h'd hs;clear hs;have kz:=kk.size)
   | (at_builtin;refine wpList_append rfl (.tmp 110) (.tmp 112) 69 rfl (w.heap.size+1) u8T _ (4) _ rfl (own_below O18.out kk) _ _ 4 _ rfl (Sl.of_own hs2.out) (u8s_oneCell _) (by simp only[maxLen];omega) (by omega) (by omega) ?_;intro v18 W18 ho hg hob))
  have S:=S.out.step (M:=beN (k+2147483648) 4) hwz kk hg (by rw[hlL,beN_len _ _ (by omega)];exact ho)
  clear C hs2 kk ho hg hob
  clear O18 hlL
  have hlL:((beN m 4++beN (k+2147483648) 4)).length=8:=by simp[beN_len]
  have O19:=S.own
  rw[hlL] at O19
  obtain ⟨-,A19z,c19z,hv19,-⟩:=Sl.of_own O19
  first | subst hv19 | clear hv19
  replace O19:=h'd O19
  have Z19:=S.blk.lt
  have x6_19:=S.blk.cell 6
  simp only[q'a,q'z,q's] at x6_19
  replace S:=h'd S
  have C:=h'd (four_any (fw) hfw W18)
  go_upto_region 33 with (first
   | (go_at_call 130;refine Calls.mono C.out ?_;rintro x Y19 ⟨s,rfl,hs,kk⟩;obtain ⟨-,As,cs,rfl,-⟩:=Sl.of_own hs;have hs2:=h'd hs;clear hs;have kz:=kk.size)
   | (at_builtin;refine wpList_append rfl (.tmp 114) (.tmp 117) 69 rfl (w.heap.size+1) u8T _ (8) _ rfl (own_below O19.out kk) _ _ 4 _ rfl (Sl.of_own hs2.out) (u8s_oneCell _) (by simp only[maxLen];omega) (by omega) (by omega) ?_;intro v19 W19 ho hg hob))
  have S:=S.out.step (M:=beN fw 4) hwz kk hg (by rw[hlL,beN_len _ _ (by omega)];exact ho)
  clear C hs2 kk ho hg hob
  clear O19 hlL x6_19
  have hlL:(((beN m 4++beN (k+2147483648) 4)++beN fw 4)).length=12:=by simp[beN_len]
  have O20:=S.own
  rw[hlL] at O20
  obtain ⟨-,A20z,c20z,hv20,-⟩:=Sl.of_own O20
  first | subst hv20 | clear hv20
  replace O20:=h'd O20
  have Z20:=S.blk.lt
  have x7_20:=S.blk.cell 7
  simp only[q'a,q'z,q's] at x7_20
  replace S:=h'd S
  have C:=h'd (four_any (tg) htg W19)
  go_upto_region 34 with (first
   | (go_at_call 130;refine Calls.mono C.out ?_;rintro x Y20 ⟨s,rfl,hs,kk⟩;obtain ⟨-,As,cs,rfl,-⟩:=Sl.of_own hs;have hs2:=h'd hs;clear hs;have kz:=kk.size)
   | (at_builtin;refine wpList_append rfl (.tmp 119) (.tmp 122) 69 rfl (w.heap.size+1) u8T _ (12) _ rfl (own_below O20.out kk) _ _ 4 _ rfl (Sl.of_own hs2.out) (u8s_oneCell _) (by simp only[maxLen];omega) (by omega) (by omega) ?_;intro v20 W20 ho hg hob))
  have S:=S.out.step (M:=beN tg 4) hwz kk hg (by rw[hlL,beN_len _ _ (by omega)];exact ho)
  clear C hs2 kk ho hg hob
  clear O20 hlL x7_20
  have hlL:((((beN m 4++beN (k+2147483648) 4)++beN fw 4)++beN tg 4)).length=16:=by simp[beN_len]
  rw[be_t2 k hk] at S hlL
  have e16:(beN m 4++([if true then 128 else 0]++(beN k 3++(beN fw 4++beN tg 4))))=beN m 4++([128]++beN k 3)++beN fw 4++beN tg 4:=by simp
  have O:=S.own
  rw[←e16] at O
  clear e16
  have Oh:=h'd O
  have O2:=S.own
  rw[hlL] at O2
  clear O
  replace S:=h'd S
  go_wp2
  go_ret
  exact ⟨_,rfl,own_less Oh.out (by omega),S.out.far⟩
set_option maxHeartbeats 4000000 in
theorem rlay9_any (ds:List Int) (hd:ds.length≤1000000) (B:Nat)  (A1:Option Addr) (c1:Nat) (A2:Option Addr) (c2:Nat) (A3:Option Addr) (c3:Nat) (w:World) (hs:Sl w B 1 (.slice A3 ds.length c3) ds.length (ds.map u8c)) (hB:B≤w.heap.size):Calls Tryz.prog 91 #[.int .u8 9,.agg #[.int .u8 0,.slice A1 0 c1,.int .u32 0,.slice A2 0 c2,.int .u32 0,.bool false,.int .u32 0,.int .u32 0,.slice A3 ds.length c3]] w fun x w'=>∃ s,x=.returned s∧w'.ownsRow w.heap.size 5 1 s (ds).length ((ds).map u8c)∧Below w.heap.size w w':=by
 have hwz:=Nat.le_refl w.heap.size
 have S:BS w (w.alloc (.cells #[.int .u8 0,.slice A1 0 c1,.int .u32 0,.slice A2 0 c2,.int .u32 0,.bool false,.int .u32 0,.int .u32 0,.slice A3 ds.length c3] 81)) w.heap.size 81 #[.int .u8 0,.slice A1 0 c1,.int .u32 0,.slice A2 0 c2,.int .u32 0,.bool false,.int .u32 0,.int .u32 0,.slice A3 ds.length c3] (.slice none 0 0) []:=⟨Blk.new _ _ _,World.ownsRow_nil _ _ _ _,(Below.refl _ _).alloc (Nat.le_refl _) _⟩
 go_enter Tryz.func91,Tryz.ntmps91
 go_upto_region 1 with fail
 generalize w.alloc (.cells (#[.int .u8 0,.slice A1 0 c1,.int .u32 0,.slice A2 0 c2,.int .u32 0,.bool false,.int .u32 0,.int .u32 0,.slice A3 ds.length c3]:Array Value) 81)=W0 at S ⊢
 have hlL:(([]:List Int)).length=0:=rfl
 have hdat:=hs.below (S.far.mono hB)
 have O21:=S.own
 rw[hlL] at O21
 obtain ⟨-,A21z,c21z,hv21,-⟩:=Sl.of_own O21
 first | subst hv21 | clear hv21
 replace O21:=h'd O21
 have Z21:=S.blk.lt
 have x8_21:=S.blk.cell 8
 simp only[q'a,q'z,q's] at x8_21
 replace S:=h'd S
 go_upto_region 34 with (at_builtin;refine wpList_append rfl (.tmp 11) (.tmp 13) 69 rfl (w.heap.size+1) u8T _ (0) _ rfl O21.out B _ ds.length _ rfl hdat (u8s_oneCell _) (by simp only[maxLen];omega) (by omega) (by omega) ?_;intro v21 W21 ho hg hob)
 have S:=S.out.step (M:=ds) hwz (Below.refl W0.heap.size W0) hg (by rw[hlL];exact ho)
 clear ho hg hob
 clear O21 hlL x8_21
 rw[List.nil_append] at S
 have O:=h'd S.own
 have f:=h'd S.far
 clear S
 go_wp2
 go_ret
 exact ⟨_,rfl,own_less O.out (by omega),f.out⟩
set_option maxHeartbeats 4000000 in
theorem rlay10_any (ds:List Int) (hd:ds.length≤1000000) (B:Nat)  (A1:Option Addr) (c1:Nat) (A2:Option Addr) (c2:Nat) (A3:Option Addr) (c3:Nat) (w:World) (hs:Sl w B 1 (.slice A3 ds.length c3) ds.length (ds.map u8c)) (hB:B≤w.heap.size):Calls Tryz.prog 91 #[.int .u8 10,.agg #[.int .u8 0,.slice A1 0 c1,.int .u32 0,.slice A2 0 c2,.int .u32 0,.bool false,.int .u32 0,.int .u32 0,.slice A3 ds.length c3]] w fun x w'=>∃ s,x=.returned s∧w'.ownsRow w.heap.size 5 1 s (ds).length ((ds).map u8c)∧Below w.heap.size w w':=by
 have hwz:=Nat.le_refl w.heap.size
 have S:BS w (w.alloc (.cells #[.int .u8 0,.slice A1 0 c1,.int .u32 0,.slice A2 0 c2,.int .u32 0,.bool false,.int .u32 0,.int .u32 0,.slice A3 ds.length c3] 81)) w.heap.size 81 #[.int .u8 0,.slice A1 0 c1,.int .u32 0,.slice A2 0 c2,.int .u32 0,.bool false,.int .u32 0,.int .u32 0,.slice A3 ds.length c3] (.slice none 0 0) []:=⟨Blk.new _ _ _,World.ownsRow_nil _ _ _ _,(Below.refl _ _).alloc (Nat.le_refl _) _⟩
 go_enter Tryz.func91,Tryz.ntmps91
 go_upto_region 1 with fail
 generalize w.alloc (.cells (#[.int .u8 0,.slice A1 0 c1,.int .u32 0,.slice A2 0 c2,.int .u32 0,.bool false,.int .u32 0,.int .u32 0,.slice A3 ds.length c3]:Array Value) 81)=W0 at S ⊢
 have hlL:(([]:List Int)).length=0:=rfl
 have hdat:=hs.below (S.far.mono hB)
 have O22:=S.own
 rw[hlL] at O22
 obtain ⟨-,A22z,c22z,hv22,-⟩:=Sl.of_own O22
 first | subst hv22 | clear hv22
 replace O22:=h'd O22
 have Z22:=S.blk.lt
 have x8_22:=S.blk.cell 8
 simp only[q'a,q'z,q's] at x8_22
 replace S:=h'd S
 go_upto_region 34 with (at_builtin;refine wpList_append rfl (.tmp 11) (.tmp 13) 69 rfl (w.heap.size+1) u8T _ (0) _ rfl O22.out B _ ds.length _ rfl hdat (u8s_oneCell _) (by simp only[maxLen];omega) (by omega) (by omega) ?_;intro v22 W22 ho hg hob)
 have S:=S.out.step (M:=ds) hwz (Below.refl W0.heap.size W0) hg (by rw[hlL];exact ho)
 clear ho hg hob
 clear O22 hlL x8_22
 rw[List.nil_append] at S
 have O:=h'd S.own
 have f:=h'd S.far
 clear S
 go_wp2
 go_ret
 exact ⟨_,rfl,own_less O.out (by omega),f.out⟩
set_option maxHeartbeats 4000000 in
theorem rlay11_any (ds:List Int) (hd:ds.length≤1000000) (B:Nat)  (A1:Option Addr) (c1:Nat) (A2:Option Addr) (c2:Nat) (A3:Option Addr) (c3:Nat) (w:World) (hs:Sl w B 1 (.slice A3 ds.length c3) ds.length (ds.map u8c)) (hB:B≤w.heap.size):Calls Tryz.prog 91 #[.int .u8 11,.agg #[.int .u8 0,.slice A1 0 c1,.int .u32 0,.slice A2 0 c2,.int .u32 0,.bool false,.int .u32 0,.int .u32 0,.slice A3 ds.length c3]] w fun x w'=>∃ s,x=.returned s∧w'.ownsRow w.heap.size 5 1 s (ds).length ((ds).map u8c)∧Below w.heap.size w w':=by
 have hwz:=Nat.le_refl w.heap.size
 have S:BS w (w.alloc (.cells #[.int .u8 0,.slice A1 0 c1,.int .u32 0,.slice A2 0 c2,.int .u32 0,.bool false,.int .u32 0,.int .u32 0,.slice A3 ds.length c3] 81)) w.heap.size 81 #[.int .u8 0,.slice A1 0 c1,.int .u32 0,.slice A2 0 c2,.int .u32 0,.bool false,.int .u32 0,.int .u32 0,.slice A3 ds.length c3] (.slice none 0 0) []:=⟨Blk.new _ _ _,World.ownsRow_nil _ _ _ _,(Below.refl _ _).alloc (Nat.le_refl _) _⟩
 go_enter Tryz.func91,Tryz.ntmps91
 go_upto_region 1 with fail
 generalize w.alloc (.cells (#[.int .u8 0,.slice A1 0 c1,.int .u32 0,.slice A2 0 c2,.int .u32 0,.bool false,.int .u32 0,.int .u32 0,.slice A3 ds.length c3]:Array Value) 81)=W0 at S ⊢
 have hlL:(([]:List Int)).length=0:=rfl
 have hdat:=hs.below (S.far.mono hB)
 have O23:=S.own
 rw[hlL] at O23
 obtain ⟨-,A23z,c23z,hv23,-⟩:=Sl.of_own O23
 first | subst hv23 | clear hv23
 replace O23:=h'd O23
 have Z23:=S.blk.lt
 have x8_23:=S.blk.cell 8
 simp only[q'a,q'z,q's] at x8_23
 replace S:=h'd S
 go_upto_region 34 with (at_builtin;refine wpList_append rfl (.tmp 11) (.tmp 13) 69 rfl (w.heap.size+1) u8T _ (0) _ rfl O23.out B _ ds.length _ rfl hdat (u8s_oneCell _) (by simp only[maxLen];omega) (by omega) (by omega) ?_;intro v23 W23 ho hg hob)
 have S:=S.out.step (M:=ds) hwz (Below.refl W0.heap.size W0) hg (by rw[hlL];exact ho)
 clear ho hg hob
 clear O23 hlL x8_23
 rw[List.nil_append] at S
 have O:=h'd S.own
 have f:=h'd S.far
 clear S
 go_wp2
 go_ret
 exact ⟨_,rfl,own_less O.out (by omega),f.out⟩
set_option maxHeartbeats 4000000 in
theorem rlay2_any (m:Int) (hm:0≤m∧m<4294967296) (ls:List Int) (hln:ls.length≤1000000) (hok:∀ x∈ls,0≤x∧x<4294967296) (B:Nat) (A1:Option Addr) (c1:Nat) (A2:Option Addr) (c2:Nat) (A3:Option Addr) (c3:Nat) (w:World) (hs:Sl w B 1 (.slice A2 ls.length c2) ls.length (ls.map u32c)) (hB:B≤w.heap.size):Calls Tryz.prog 91 #[.int .u8 2,.agg #[.int .u8 0,.slice A1 0 c1,.int .u32 m,.slice A2 ls.length c2,.int .u32 0,.bool false,.int .u32 0,.int .u32 0,.slice A3 0 c3]] w fun x w'=>∃ s,x=.returned s∧w'.ownsRow w.heap.size 5 1 s (beN m 4++ls.flatMap fun x=>beN x 4).length ((beN m 4++ls.flatMap fun x=>beN x 4).map u8c)∧Below w.heap.size w w':=by
 have hwz:=Nat.le_refl w.heap.size
 have S:BS w (w.alloc (.cells #[.int .u8 0,.slice A1 0 c1,.int .u32 m,.slice A2 ls.length c2,.int .u32 0,.bool false,.int .u32 0,.int .u32 0,.slice A3 0 c3] 81)) w.heap.size 81 #[.int .u8 0,.slice A1 0 c1,.int .u32 m,.slice A2 ls.length c2,.int .u32 0,.bool false,.int .u32 0,.int .u32 0,.slice A3 0 c3] (.slice none 0 0) []:=⟨Blk.new _ _ _,World.ownsRow_nil _ _ _ _,(Below.refl _ _).alloc (Nat.le_refl _) _⟩
 go_enter Tryz.func91,Tryz.ntmps91
 go_upto_region 1 with fail
 generalize w.alloc (.cells (#[.int .u8 0,.slice A1 0 c1,.int .u32 m,.slice A2 ls.length c2,.int .u32 0,.bool false,.int .u32 0,.int .u32 0,.slice A3 0 c3]:Array Value) 81)=W0 at S ⊢
 have hlL:(([]:List Int)).length=0:=rfl
 have O24:=S.own
 rw[hlL] at O24
 obtain ⟨-,A24z,c24z,hv24,-⟩:=Sl.of_own O24
 first | subst hv24 | clear hv24
 replace O24:=h'd O24
 have Z24:=S.blk.lt
 have x2_24:=S.blk.cell 2
 simp only[q'a,q'z,q's] at x2_24
 replace S:=h'd S
 have C:=h'd (four_any (m) hm W0)
 go_upto_region 17 with (first
  | (go_at_call 130;refine Calls.mono C.out ?_;rintro x Y24 ⟨s,rfl,hs,kk⟩;obtain ⟨-,As,cs,rfl,-⟩:=Sl.of_own hs;have hs2:=h'd hs;clear hs;have kz:=kk.size)
  | (at_builtin;refine wpList_append rfl (.tmp 63) (.tmp 66) 69 rfl (w.heap.size+1) u8T _ (0) _ rfl (own_below O24.out kk) _ _ 4 _ rfl (Sl.of_own hs2.out) (u8s_oneCell _) (by simp only[maxLen];omega) (by omega) (by omega) ?_;intro v24 W24 ho hg hob))
 have S:=S.out.step (M:=beN m 4) hwz kk hg (by rw[hlL,beN_len _ _ (by omega)];exact ho)
 clear C hs2 kk ho hg hob
 clear O24 hlL x2_24
 rw[List.nil_append] at S
 have hlL:(beN m 4).length=4:=by simp[beN_len]
 go_upto_region 18 with fail
 have SS:=h'd S
 go_loopg [5,8] ls.length (fun mm lv iv wr=>∃ k:Nat,k≤ls.length∧mm=ls.length-k∧iv=.int .i64 k∧BS w wr w.heap.size 81 #[.int .u8 0,.slice A1 0 c1,.int .u32 m,.slice A2 ls.length c2,.int .u32 0,.bool false,.int .u32 0,.int .u32 0,.slice A3 0 c3] lv (beN m 4++(ls.take k).flatMap fun x=>beN x 4))
 case atStart=>exact ⟨0,Nat.zero_le _,rfl,rfl,by rw[List.take_zero,List.flatMap_nil,List.append_nil];exact SS.out⟩
 case round =>
  clear S hlL SS
  obtain ⟨k,hk,rfl,rfl,S⟩:=hrel
  obtain ⟨w3,rfl⟩:∃ x:World,x=wr:=⟨_,rfl⟩
  have hlL:(beN m 4++(ls.take k).flatMap fun x=>beN x 4).length=4+4*k:=by
   rw[List.length_append,words_len,List.length_take,beN_len _ _ (by omega)]
   omega
  by_cases hkl:k<ls.length
  ·obtain ⟨bq,off,rfl,hb4,hrow⟩:=Sl.row (f:=fun x=>[u32c x]) (s:=1) (fun _=>rfl) (by rw[flatMap_one];exact hs.below (S.far.mono hB)) hkl
   have ik:(k:Int)<(ls.length:Int):=by omega
   have y7:w3.cell? ⟨bq,off+k,none⟩=some (u32c ls[k]):=by
    have:=hrow 0 _ rfl
    rw[Nat.mul_one] at this
    exact this
   have hxo:=hok _ (List.getElem_mem hkl)
   have htk:ls.take (k+1)=ls.take k++[ls[k]]:=List.take_succ_eq_append_getElem hkl
   generalize ls[k]=xx at y7 hxo htk
   have hcn:(beN m 4++(ls.take (k+1)).flatMap fun x=>beN x 4)=(beN m 4++(ls.take k).flatMap fun x=>beN x 4)++beN xx 4:=by rw[htk,List.flatMap_append,List.append_assoc];simp
   replace hcn:=h'd hcn
   replace htk:=h'd htk
   unfold u32c at y7
   generalize (beN m 4++(ls.take k).flatMap fun x=>beN x 4)=cont at S hlL hcn
   replace hrow:=h'd hrow
   clear hb4
   have O25:=S.own
   rw[hlL] at O25
   obtain ⟨-,A25z,c25z,hv25,-⟩:=Sl.of_own O25
   first | subst hv25 | clear hv25
   replace O25:=h'd O25
   have Z25:=S.blk.lt
   have x3_25:=S.blk.cell 3
   simp only[q'a,q'z,q's] at x3_25
   replace S:=h'd S
   have C:=h'd (four_any (xx) hxo w3)
   go_upto_region 19 with (first
    | (go_at_call 130;refine Calls.mono C.out ?_;rintro x Y25 ⟨s,rfl,hs,kk⟩;obtain ⟨-,As,cs,rfl,-⟩:=Sl.of_own hs;have hs2:=h'd hs;clear hs;have kz:=kk.size)
    | (at_builtin;refine wpList_append rfl (.tmp 75) (.tmp 81) 69 rfl (w.heap.size+1) u8T _ (4+4*k) _ rfl (own_below O25.out kk) _ _ 4 _ rfl (Sl.of_own hs2.out) (u8s_oneCell _) (by simp only[maxLen];omega) (by omega) (by omega) ?_;intro v25 W25 ho hg hob))
   have S:=S.out.step (M:=beN xx 4) hwz kk hg (by rw[hlL,beN_len _ _ (by omega)];exact ho)
   clear C hs2 kk ho hg hob
   clear O25 hlL x3_25
   replace S:=h'd S
   go_wp2_with fail
   go_roundg (ls.length-(k+1))
   case measure=>omega
   case rel =>
    refine ⟨k+1,by omega,rfl,by go_num,?_⟩
    rw[hcn.out]
    exact S.out
  ·obtain rfl:k=ls.length:=by omega
   rw[List.take_length] at S hlL
   have O:=S.own
   rw[hlL] at O
   have x3:=S.blk.cell 3
   simp only[q'a,q'z,q's] at x3
   replace S:=h'd S
   replace O:=h'd O
   go_wp2_with fail
   go_ret
   exact ⟨_,rfl,by rw[hlL];exact own_less O.out (by omega),S.out.far⟩
set_option maxHeartbeats 4000000 in
theorem rlay1_any (fl:Int) (ls:List LinkV) (hln:ls.length<65536) (hok:∀ x∈ls,LinkOk x) (B:Nat) (A1:Option Addr) (c1:Nat) (A2:Option Addr) (c2:Nat) (A3:Option Addr) (c3:Nat) (w:World) (hs:Sl w B 4 (.slice A1 ls.length c1) ls.length (ls.flatMap linkC)) (hB:B≤w.heap.size):Calls Tryz.prog 91 #[.int .u8 1,.agg #[.int .u8 fl,.slice A1 ls.length c1,.int .u32 0,.slice A2 0 c2,.int .u32 0,.bool false,.int .u32 0,.int .u32 0,.slice A3 0 c3]] w fun x w'=>∃ s,x=.returned s∧w'.ownsRow w.heap.size 5 1 s ([fl,0]++(beN (ls.length:Int) 2++ls.flatMap linkB)).length (([fl,0]++(beN (ls.length:Int) 2++ls.flatMap linkB)).map u8c)∧Below w.heap.size w w':=by
 have h28:0≤(ls.length:Int)∧(ls.length:Int)<65536:=⟨by omega,by omega⟩
 have wcl:IntKind.u16.wrap (ls.length:Int)=ls.length:=by rw[IntKind.wrap_u16];omega
 have hwz:=Nat.le_refl w.heap.size
 have S:BS w (w.alloc (.cells #[.int .u8 fl,.slice A1 ls.length c1,.int .u32 0,.slice A2 0 c2,.int .u32 0,.bool false,.int .u32 0,.int .u32 0,.slice A3 0 c3] 81)) w.heap.size 81 #[.int .u8 fl,.slice A1 ls.length c1,.int .u32 0,.slice A2 0 c2,.int .u32 0,.bool false,.int .u32 0,.int .u32 0,.slice A3 0 c3] (.slice none 0 0) []:=⟨Blk.new _ _ _,World.ownsRow_nil _ _ _ _,(Below.refl _ _).alloc (Nat.le_refl _) _⟩
 go_enter Tryz.func91,Tryz.ntmps91
 go_upto_region 1 with fail
 generalize w.alloc (.cells (#[.int .u8 fl,.slice A1 ls.length c1,.int .u32 0,.slice A2 0 c2,.int .u32 0,.bool false,.int .u32 0,.int .u32 0,.slice A3 0 c3]:Array Value) 81)=W0 at S ⊢
 have hlL:(([]:List Int)).length=0:=rfl
 have O26:=S.own
 rw[hlL] at O26
 obtain ⟨-,A26z,c26z,hv26,-⟩:=Sl.of_own O26
 first | subst hv26 | clear hv26
 replace O26:=h'd O26
 have Z26:=S.blk.lt
 have x0_26:=S.blk.cell 0
 simp only[q'a,q'z] at x0_26
 replace S:=h'd S
 go_upto_region 6 with (at_builtin;refine wpList_append rfl (.tmp 17) (.tmp 20) 69 rfl (w.heap.size+1) u8T _ (0) _ rfl (own_alloc O26.out _) _ _ 2 _ rfl (Sl.lit W0 #[.int .u8 fl,.int .u8 0] 5 (by simp[maxLen]) rfl) (by simp[Value.oneCell']) (by simp only[maxLen];omega) (by omega) (by simp;omega) ?_;intro v26 W26 ho hg hob)
 have S:=S.out.step (M:=[fl,0]) hwz ((Below.refl W0.heap.size W0).alloc (Nat.le_refl _) (.cells #[.int .u8 fl,.int .u8 0] 5)) hg (by rw[hlL];exact ho)
 clear ho hg hob
 clear O26 hlL x0_26
 rw[List.nil_append] at S
 have hlL:([fl,0]).length=2:=rfl
 have O27:=S.own
 rw[hlL] at O27
 obtain ⟨-,A27z,c27z,hv27,-⟩:=Sl.of_own O27
 first | subst hv27 | clear hv27
 replace O27:=h'd O27
 have Z27:=S.blk.lt
 have x1_27:=S.blk.cell 1
 simp only[q'a,q'z,q's] at x1_27
 replace S:=h'd S
 have C:=h'd (two_any ((ls.length:Int)) h28 W26)
 go_upto_region 7 with (first
  | (go_at_call 129;refine Calls.mono C.out ?_;rintro x Y27 ⟨s,rfl,hs,kk⟩;obtain ⟨-,As,cs,rfl,-⟩:=Sl.of_own hs;have hs2:=h'd hs;clear hs;have kz:=kk.size)
  | (at_builtin;refine wpList_append rfl (.tmp 22) (.tmp 27) 69 rfl (w.heap.size+1) u8T _ (2) _ rfl (own_below O27.out kk) _ _ 2 _ rfl (Sl.of_own hs2.out) (u8s_oneCell _) (by simp only[maxLen];omega) (by omega) (by omega) ?_;intro v27 W27 ho hg hob))
 have S:=S.out.step (M:=beN (ls.length:Int) 2) hwz kk hg (by rw[hlL,beN_len _ _ (by omega)];exact ho)
 clear C hs2 kk ho hg hob
 clear O27 hlL x1_27
 have hlL:(([fl,0]++beN (ls.length:Int) 2)).length=4:=by simp[beN_len]
 go_upto_region 8 with fail
 have SS:=h'd S
 go_loopg [5,6] ls.length (fun mm lv iv wr=>∃ k:Nat,k≤ls.length∧mm=ls.length-k∧iv=.int .i64 k∧BS w wr w.heap.size 81 #[.int .u8 fl,.slice A1 ls.length c1,.int .u32 0,.slice A2 0 c2,.int .u32 0,.bool false,.int .u32 0,.int .u32 0,.slice A3 0 c3] lv (([fl,0]++beN (ls.length:Int) 2)++(ls.take k).flatMap linkB))
 case atStart=>exact ⟨0,Nat.zero_le _,rfl,rfl,by rw[List.take_zero,List.flatMap_nil,List.append_nil];exact SS.out⟩
 case round =>
  clear S hlL SS
  obtain ⟨k,hk,rfl,rfl,S⟩:=hrel
  obtain ⟨w3,rfl⟩:∃ x:World,x=wr:=⟨_,rfl⟩
  have hlL:(([fl,0]++beN (ls.length:Int) 2)++(ls.take k).flatMap linkB).length=4+12*k:=by
   rw[List.length_append,links_len,List.length_take,List.length_append,beN_len _ _ (by omega)]
   simp only[List.length_cons,List.length_nil]
   omega
  by_cases hkl:k<ls.length
  ·obtain ⟨bq,off,rfl,hb4,hrow⟩:=Sl.row linkC_len (hs.below (S.far.mono hB)) hkl
   have ik:(k:Int)<(ls.length:Int):=by omega
   have hrg:w3.rangeAt bq (off+k*4) (linkC ls[k]):=hrow
   have hxo:=hok _ (List.getElem_mem hkl)
   have htk:ls.take (k+1)=ls.take k++[ls[k]]:=List.take_succ_eq_append_getElem hkl
   generalize ls[k]=xx at hrg hxo htk
   have hcn:([fl,0]++beN (ls.length:Int) 2)++(ls.take (k+1)).flatMap linkB=(([fl,0]++beN (ls.length:Int) 2)++(ls.take k).flatMap linkB)++linkB xx:=by rw[htk,List.flatMap_append,List.append_assoc];simp
   replace hcn:=h'd hcn
   replace htk:=h'd htk
   generalize ([fl,0]++beN (ls.length:Int) 2)++(ls.take k).flatMap linkB=cont at S hlL hcn
   have hcl0:=hlL
   replace hrow:=h'd hrow
   obtain ⟨hi1,hi2,hi3,hi4⟩:=hxo
   obtain ⟨x1,x2,x3,x4⟩:=xx
   dsimp only[linkC] at hi1 hi2 hi3 hi4 hrg
   have x1_0:=S.blk.cell 1
   simp only[q'a,q'z,q's] at x1_0
   have S2:BS w (w3.alloc (.cells #[.int .u32 x1,.int .u32 x2,.int .u8 x3,.int .u16 x4] 99)) w.heap.size 81 _ _ cont:=⟨S.blk.alloc _,own_alloc S.own _,below_alloc S.far (Nat.le_refl _) _⟩
   have jx:Blk (w3.alloc (.cells #[.int .u32 x1,.int .u32 x2,.int .u8 x3,.int .u16 x4] 99)) w3.heap.size 99 #[.int .u32 x1,.int .u32 x2,.int .u8 x3,.int .u16 x4]:=Blk.new _ _ _
   have zx:=S.blk.lt
   go_upto_region 11 with (refine wpList_load_mid rfl 99 (.tmp 39) rfl bq (off+k*4) rfl [.int .u32 x1,.int .u32 x2,.int .u8 x3,.int .u16 x4] _ hrg Tryz.underlying99 rfl (by kernel_rfl) ?_)
   clear S hrg x1_0 hb4
   obtain ⟨gx,hgx⟩:∃ g,g=w3.heap.size:=⟨_,rfl⟩
   rw[←hgx] at jx zx ⊢
   clear hgx
   generalize w3.alloc (.cells #[.int .u32 x1,.int .u32 x2,.int .u8 x3,.int .u16 x4] 99)=wx at S2 jx ⊢
   have S:=S2
   clear S2
   have O28:=S.own
   rw[hlL] at O28
   obtain ⟨-,A28z,c28z,hv28,-⟩:=Sl.of_own O28
   first | subst hv28 | clear hv28
   replace O28:=h'd O28
   have Z28:=S.blk.lt
   have xx0:=jx.cell 0
   simp only[q'a,q'z] at xx0
   replace S:=h'd S
   have C:=h'd (four_any (x1) hi1 wx)
   go_upto_region 12 with (first
    | (go_at_call 130;refine Calls.mono C.out ?_;rintro x Y28 ⟨s,rfl,hs,kk⟩;obtain ⟨-,As,cs,rfl,-⟩:=Sl.of_own hs;have hs2:=h'd hs;clear hs;have kz:=kk.size)
    | (at_builtin;refine wpList_append rfl (.tmp 41) (.tmp 44) 69 rfl (w.heap.size+1) u8T _ (4+12*k) _ rfl (own_below O28.out kk) _ _ 4 _ rfl (Sl.of_own hs2.out) (u8s_oneCell _) (by simp only[maxLen];omega) (by omega) (by omega) ?_;intro v28 W28 ho hg hob))
   have jx:=(jx.below kk jx.lt).same (hg.block gx (by have:=(jx.below kk jx.lt).lt;exact this) fun e=>own_ne8 (own_below S.out.own kk) (jx.below kk jx.lt) (by decide) gx e.symm rfl)
   have S:=S.out.step (M:=beN x1 4) hwz kk hg (by rw[hlL,beN_len _ _ (by omega)];exact ho)
   clear C hs2 kk ho hg hob
   clear O28 hlL
   clear xx0
   have hlL:((cont++beN x1 4)).length=4+12*k+4:=by
    have:=hcl0
    simp only[List.length_append,beN_len _ _ (show 4≤4 by omega),this]
   have O29:=S.own
   rw[hlL] at O29
   obtain ⟨-,A29z,c29z,hv29,-⟩:=Sl.of_own O29
   first | subst hv29 | clear hv29
   replace O29:=h'd O29
   have Z29:=S.blk.lt
   have xx1:=jx.cell 1
   simp only[q'a,q'z,q's] at xx1
   replace S:=h'd S
   have C:=h'd (four_any (x2) hi2 W28)
   go_upto_region 13 with (first
    | (go_at_call 130;refine Calls.mono C.out ?_;rintro x Y29 ⟨s,rfl,hs,kk⟩;obtain ⟨-,As,cs,rfl,-⟩:=Sl.of_own hs;have hs2:=h'd hs;clear hs;have kz:=kk.size)
    | (at_builtin;refine wpList_append rfl (.tmp 46) (.tmp 49) 69 rfl (w.heap.size+1) u8T _ (4+12*k+4) _ rfl (own_below O29.out kk) _ _ 4 _ rfl (Sl.of_own hs2.out) (u8s_oneCell _) (by simp only[maxLen];omega) (by omega) (by omega) ?_;intro v29 W29 ho hg hob))
   have jx:=(jx.below kk jx.lt).same (hg.block gx (by have:=(jx.below kk jx.lt).lt;exact this) fun e=>own_ne8 (own_below S.out.own kk) (jx.below kk jx.lt) (by decide) gx e.symm rfl)
   have S:=S.out.step (M:=beN x2 4) hwz kk hg (by rw[hlL,beN_len _ _ (by omega)];exact ho)
   clear C hs2 kk ho hg hob
   clear O29 hlL
   clear xx1
   have hlL:(((cont++beN x1 4)++beN x2 4)).length=4+12*k+4+4:=by
    have:=hcl0
    simp only[List.length_append,beN_len _ _ (show 4≤4 by omega),this]
   have O30:=S.own
   rw[hlL] at O30
   obtain ⟨-,A30z,c30z,hv30,-⟩:=Sl.of_own O30
   first | subst hv30 | clear hv30
   replace O30:=h'd O30
   have Z30:=S.blk.lt
   have xx2:=jx.cell 2
   simp only[q'a,q'z,q's] at xx2
   replace S:=h'd S
   go_upto_region 14 with (at_builtin;refine wpList_append rfl (.tmp 51) (.tmp 54) 69 rfl (w.heap.size+1) u8T _ (4+12*k+4+4) _ rfl (own_alloc O30.out _) _ _ 2 _ rfl (Sl.lit W29 #[.int .u8 x3,.int .u8 0] 5 (by simp[maxLen]) rfl) (by simp[Value.oneCell']) (by simp only[maxLen];omega) (by omega) (by simp;omega) ?_;intro v30 W30 ho hg hob)
   have jx:=(jx.below ((Below.refl W29.heap.size W29).alloc (Nat.le_refl _) (.cells #[.int .u8 x3,.int .u8 0] 5)) jx.lt).same (hg.block gx (by have:=(jx.below ((Below.refl W29.heap.size W29).alloc (Nat.le_refl _) (.cells #[.int .u8 x3,.int .u8 0] 5)) jx.lt).lt;exact this) fun e=>own_ne8 (own_below S.out.own ((Below.refl W29.heap.size W29).alloc (Nat.le_refl _) (.cells #[.int .u8 x3,.int .u8 0] 5))) (jx.below ((Below.refl W29.heap.size W29).alloc (Nat.le_refl _) (.cells #[.int .u8 x3,.int .u8 0] 5)) jx.lt) (by decide) gx e.symm rfl)
   have S:=S.out.step (M:=[x3,0]) hwz ((Below.refl W29.heap.size W29).alloc (Nat.le_refl _) (.cells #[.int .u8 x3,.int .u8 0] 5)) hg (by rw[hlL];exact ho)
   clear ho hg hob
   clear O30 hlL
   clear xx2
   have hlL:((((cont++beN x1 4)++beN x2 4)++[x3,0])).length=4+12*k+4+4+2:=by
    have:=hcl0
    simp only[List.length_append,List.length_cons,List.length_nil,beN_len _ _ (show 4≤4 by omega),this]
   have O31:=S.own
   rw[hlL] at O31
   obtain ⟨-,A31z,c31z,hv31,-⟩:=Sl.of_own O31
   first | subst hv31 | clear hv31
   replace O31:=h'd O31
   have Z31:=S.blk.lt
   have xx3:=jx.cell 3
   simp only[q'a,q'z,q's] at xx3
   replace S:=h'd S
   have C:=h'd (two_any (x4) hi4 W30)
   go_upto_region 9 with (first
    | (go_at_call 129;refine Calls.mono C.out ?_;rintro x Y31 ⟨s,rfl,hs,kk⟩;obtain ⟨-,As,cs,rfl,-⟩:=Sl.of_own hs;have hs2:=h'd hs;clear hs;have kz:=kk.size)
    | (at_builtin;refine wpList_append rfl (.tmp 56) (.tmp 59) 69 rfl (w.heap.size+1) u8T _ (4+12*k+4+4+2) _ rfl (own_below O31.out kk) _ _ 2 _ rfl (Sl.of_own hs2.out) (u8s_oneCell _) (by simp only[maxLen];omega) (by omega) (by omega) ?_;intro v31 W31 ho hg hob))
   have jx:=(jx.below kk jx.lt).same (hg.block gx (by have:=(jx.below kk jx.lt).lt;exact this) fun e=>own_ne8 (own_below S.out.own kk) (jx.below kk jx.lt) (by decide) gx e.symm rfl)
   have S:=S.out.step (M:=beN x4 2) hwz kk hg (by rw[hlL,beN_len _ _ (by omega)];exact ho)
   clear C hs2 kk ho hg hob
   clear O31 hlL
   clear xx3
   replace S:=h'd S
   go_wp2_with fail
   go_roundg (ls.length-(k+1))
   case measure=>omega
   case rel =>
    refine ⟨k+1,by omega,rfl,by go_num,?_⟩
    rw[hcn.out]
    have h:=S.out
    rw[List.append_assoc,List.append_assoc,List.append_assoc] at h
    exact h
  ·obtain rfl:k=ls.length:=by omega
   rw[List.take_length] at S hlL
   have O:=S.own
   rw[hlL] at O
   have x1_0:=S.blk.cell 1
   simp only[q'a,q'z,q's] at x1_0
   have S0:=S
   replace S:=h'd S
   have O3:=S0.own
   rw[List.append_assoc] at O3
   replace O3:=h'd O3
   clear S0
   replace O:=h'd O
   go_wp2_with fail
   go_ret
   exact ⟨_,rfl,own_less O3.out (by omega),S.out.far⟩
end Go.Proofs.YtcknpofnpabkiaaGreat
