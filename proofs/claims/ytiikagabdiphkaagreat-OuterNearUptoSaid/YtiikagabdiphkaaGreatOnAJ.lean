/- The document writes numbers and states. -/
import Derived.Test.YtiikagabdiphkaaGreatOnAB
set_option maxRecDepth 100000
namespace Go.Proofs.YtiikagabdiphkaaGreat
open Go.RowKit Go.Lo
theorem be4_take (v:Int) (n k:Nat) (hn:n≤4) (hk:k<n):(beN v n).take (k+1)=(beN v n).take k++[(be4 v)[4-n+k]'(by simp[be4];omega)]:=by
 rw[List.take_succ_eq_append_getElem (by rw[beN_len _ _ hn];omega)]
 simp[beN]
set_option maxHeartbeats 1000000 in
theorem rfour_any (v:Int) (n:Nat) (hn:n=2∨n=4) (hv:0≤v∧v<4294967296) (w:World):Calls Tryz.prog 153 #[.int .u32 v,.int .i64 n] w fun x w'=>∃ s,x=.returned s∧w'.ownsRow w.heap.size 5 1 s n ((beN v n).map u8c)∧Below w.heap.size w w':=by
 have hw:wrap64 ((n:Int)-1)=(n:Int)-1:=by unfold wrap64;omega
 go_enter Tryz.func153,Tryz.ntmps153
 go_wp2
 go_loopg [5,6] n (fun m s i wr=>∃ (j:Nat) (u:Value),j≤n∧m=n-j∧s=u∧i=.int .i64 ((n:Int)-1-(j:Int))∧wr.ownsRow w.heap.size 5 1 u j (((beN v n).take j).map u8c)∧Below w.heap.size w wr)
 case atStart =>
  exact ⟨0,_,Nat.zero_le _,rfl,rfl,by simp,World.ownsRow_nil _ _ _ _,Below.refl _ _⟩
 case round =>
  obtain ⟨j,u,hj,hm,rfl,rfl,ho,hB⟩:=hrel
  obtain ⟨w1,rfl⟩:∃ x:World,x=wr:=⟨_,rfl⟩
  obtain ⟨-,A,c,rfl,-⟩:=Sl.of_own ho
  by_cases hjn:j<n
  ·have ht:=be4_take v n j (by omega) hjn
   rcases hn with rfl | rfl
   ·rcases (show j=0∨j=1 by omega) with rfl | rfl
    ·go_wp2_with (at_builtin;refine wpList_append rfl (.tmp 13) (.tmp 19) 52 rfl w.heap.size u8T (.slice A 0 c) 0 _ rfl (own_alloc ho _) _ _ 1 [.int .u8 (v / 256%256)] rfl (Sl.lit _ #[.int .u8 (v / 256%256)] 5 (by simp[maxLen]) rfl) (by simp[Value.oneCell']) (by simp only[maxLen];omega) (by omega) (by have:=hB.size;simp;omega) ?_;intro v3 w3 ho3 hg3 hob3)
     go_roundg (2-(0+1))
     case measure=>omega
     case rel =>
      refine ⟨0+1,v3,by omega,rfl,rfl,by simp,?_,(below_alloc hB (Nat.le_refl _) _).trans (below_of_grown hg3 (by have:=hB.size;simp;omega) (fun g hg=>(ho.lt g hg).1))⟩
      rw[ht,List.map_append]
      exact ho3
    ·go_wp2_with (at_builtin;refine wpList_append rfl (.tmp 13) (.tmp 19) 52 rfl w.heap.size u8T (.slice A 1 c) 1 _ rfl (own_alloc ho _) _ _ 1 [.int .u8 (v%256)] rfl (Sl.lit _ #[.int .u8 (v%256)] 5 (by simp[maxLen]) rfl) (by simp[Value.oneCell']) (by simp only[maxLen];omega) (by omega) (by have:=hB.size;simp;omega) ?_;intro v3 w3 ho3 hg3 hob3)
     go_roundg (2-(1+1))
     case measure=>omega
     case rel =>
      refine ⟨1+1,v3,by omega,rfl,rfl,by simp,?_,(below_alloc hB (Nat.le_refl _) _).trans (below_of_grown hg3 (by have:=hB.size;simp;omega) (fun g hg=>(ho.lt g hg).1))⟩
      rw[ht,List.map_append]
      exact ho3
   ·rcases (show j=0∨j=1∨j=2∨j=3 by omega) with rfl | rfl | rfl | rfl
    ·go_wp2_with (at_builtin;refine wpList_append rfl (.tmp 13) (.tmp 19) 52 rfl w.heap.size u8T (.slice A 0 c) 0 _ rfl (own_alloc ho _) _ _ 1 [.int .u8 (v / 16777216)] rfl (Sl.lit _ #[.int .u8 (v / 16777216)] 5 (by simp[maxLen]) rfl) (by simp[Value.oneCell']) (by simp only[maxLen];omega) (by omega) (by have:=hB.size;simp;omega) ?_;intro v3 w3 ho3 hg3 hob3)
     go_roundg (4-(0+1))
     case measure=>omega
     case rel =>
      refine ⟨0+1,v3,by omega,rfl,rfl,by simp,?_,(below_alloc hB (Nat.le_refl _) _).trans (below_of_grown hg3 (by have:=hB.size;simp;omega) (fun g hg=>(ho.lt g hg).1))⟩
      rw[ht,List.map_append]
      rw[show (be4 v)[4-4+0]=v / 16777216 from by simp[be4];omega]
      exact ho3
    ·go_wp2_with (at_builtin;refine wpList_append rfl (.tmp 13) (.tmp 19) 52 rfl w.heap.size u8T (.slice A 1 c) 1 _ rfl (own_alloc ho _) _ _ 1 [.int .u8 (v / 65536%256)] rfl (Sl.lit _ #[.int .u8 (v / 65536%256)] 5 (by simp[maxLen]) rfl) (by simp[Value.oneCell']) (by simp only[maxLen];omega) (by omega) (by have:=hB.size;simp;omega) ?_;intro v3 w3 ho3 hg3 hob3)
     go_roundg (4-(1+1))
     case measure=>omega
     case rel =>
      refine ⟨1+1,v3,by omega,rfl,rfl,by simp,?_,(below_alloc hB (Nat.le_refl _) _).trans (below_of_grown hg3 (by have:=hB.size;simp;omega) (fun g hg=>(ho.lt g hg).1))⟩
      rw[ht,List.map_append]
      exact ho3
    ·go_wp2_with (at_builtin;refine wpList_append rfl (.tmp 13) (.tmp 19) 52 rfl w.heap.size u8T (.slice A 2 c) 2 _ rfl (own_alloc ho _) _ _ 1 [.int .u8 (v / 256%256)] rfl (Sl.lit _ #[.int .u8 (v / 256%256)] 5 (by simp[maxLen]) rfl) (by simp[Value.oneCell']) (by simp only[maxLen];omega) (by omega) (by have:=hB.size;simp;omega) ?_;intro v3 w3 ho3 hg3 hob3)
     go_roundg (4-(2+1))
     case measure=>omega
     case rel =>
      refine ⟨2+1,v3,by omega,rfl,rfl,by simp,?_,(below_alloc hB (Nat.le_refl _) _).trans (below_of_grown hg3 (by have:=hB.size;simp;omega) (fun g hg=>(ho.lt g hg).1))⟩
      rw[ht,List.map_append]
      exact ho3
    ·go_wp2_with (at_builtin;refine wpList_append rfl (.tmp 13) (.tmp 19) 52 rfl w.heap.size u8T (.slice A 3 c) 3 _ rfl (own_alloc ho _) _ _ 1 [.int .u8 (v%256)] rfl (Sl.lit _ #[.int .u8 (v%256)] 5 (by simp[maxLen]) rfl) (by simp[Value.oneCell']) (by simp only[maxLen];omega) (by omega) (by have:=hB.size;simp;omega) ?_;intro v3 w3 ho3 hg3 hob3)
     go_roundg (4-(3+1))
     case measure=>omega
     case rel =>
      refine ⟨3+1,v3,by omega,rfl,rfl,by simp,?_,(below_alloc hB (Nat.le_refl _) _).trans (below_of_grown hg3 (by have:=hB.size;simp;omega) (fun g hg=>(ho.lt g hg).1))⟩
      rw[ht,List.map_append]
      exact ho3
  ·obtain rfl:j=n:=by omega
   go_wp2
   go_ret
   refine ⟨_,rfl,?_,hB⟩
   rw[List.take_of_length_le (by rw[beN_len _ _ (by omega)];omega)] at ho
   exact ho
theorem four_any (v:Int) (hv:0≤v∧v<4294967296) (w:World):Calls Tryz.prog 129 #[.int .u32 v] w fun x w'=>∃ s,x=.returned s∧w'.ownsRow w.heap.size 5 1 s 4 ((beN v 4).map u8c)∧Below w.heap.size w w':=by
 have C:=Lib.hid (rfour_any v 4 (.inr rfl) hv w)
 go_enter Tryz.func129,Tryz.ntmps129
 go_wp2_with (go_at_call 153;refine Calls.mono C.out ?_;rintro x w1 ⟨s,rfl,ho,hB⟩)
 go_ret
 exact ⟨_,rfl,ho,hB⟩
theorem two_any (v:Int) (hv:0≤v∧v<65536) (w:World):Calls Tryz.prog 128 #[.int .u16 v] w fun x w'=>∃ s,x=.returned s∧w'.ownsRow w.heap.size 5 1 s 2 ((beN v 2).map u8c)∧Below w.heap.size w w':=by
 have C:=Lib.hid (rfour_any v 2 (.inl rfl) (by omega) w)
 go_enter Tryz.func128,Tryz.ntmps128
 go_wp2_with (go_at_call 153;refine Calls.mono C.out ?_;rintro x w1 ⟨s,rfl,ho,hB⟩)
 go_ret
 exact ⟨_,rfl,ho,hB⟩
end Go.Proofs.YtiikagabdiphkaaGreat
namespace Go.Proofs.YtiikagabdiphkaaGreat
open Go.RowKit Go.Lo
structure BS (w W:World) (g:Nat) (t:TypeId) (cs:Array Value) (v:Value) (L:List Int):Prop where
 blk:Blk W g t cs
 own:W.ownsRow (g+1) 5 1 v L.length (L.map u8c)
 far:Below g w W
theorem BS.step {w W w1 w3:World} {g:Nat} {t:TypeId} {cs:Array Value} {v v3:Value} {L M:List Int} (h:BS w W g t cs v L) (hw:g≤w.heap.size) (k:Below W.heap.size W w1) (hg:w1.grownBy w3 v.ownBlock) (ho:w3.ownsRow (g+1) 5 1 v3 (L.length+M.length) (L.map u8c++M.map u8c)):BS w w3 g t cs v3 (L++M):=by
 have h1:=h.blk.below k h.blk.lt
 refine ⟨h1.same (hg.block _ h1.lt (fun e=>by have:=(h.own.lt _ e.symm).1;omega)),?_,(h.far.trans (k.mono (Nat.le_trans hw h.far.size))).trans (below_of_grown hg (Nat.le_trans (Nat.le_of_lt h1.lt) (Nat.le_refl _)) (fun b hb=>by have:=(h.own.lt _ hb).1;omega))⟩
 rw[List.length_append,List.map_append]
 exact ho
set_option maxHeartbeats 2000000 in
theorem rhead_any (h:OHead) (ok:HeadOk h) (w:World):Calls Tryz.prog 98 #[.agg (headCells h).toArray] w fun x w'=>∃ s,x=.returned s∧w'.ownsRow w.heap.size 5 1 s 20 ((headB h).map u8c)∧Below w.heap.size w w':=by
 obtain ⟨age,opts,type,id,adv,seq,sum,len⟩:=h
 obtain ⟨o1,o2,o3,o4,o5,o6,o7,o8⟩:=ok
 simp only at o1 o2 o3 o4 o5 o6 o7 o8
 have hw:=Nat.le_refl w.heap.size
 have S0:BS w (w.alloc (.cells #[.int .u16 age,.int .u8 opts,.int .u8 type,.int .u32 id,.int .u32 adv,.int .i32 seq,.int .u16 sum,.int .u16 len] 51)) w.heap.size 51 #[.int .u16 age,.int .u8 opts,.int .u8 type,.int .u32 id,.int .u32 adv,.int .i32 seq,.int .u16 sum,.int .u16 len] (.slice none 0 0) []:=⟨Blk.new _ _ _,World.ownsRow_nil _ _ _ _,(Below.refl _ _).alloc (Nat.le_refl _) _⟩
 have ws:IntKind.u32.wrap seq=seq%4294967296:=rfl
 simp only[headCells]
 go_enter Tryz.func98,Tryz.ntmps98
 go_upto_region 1 with fail
 generalize w.alloc (.cells #[.int .u16 age,.int .u8 opts,.int .u8 type,.int .u32 id,.int .u32 adv,.int .i32 seq,.int .u16 sum,.int .u16 len] 51)=W0 at S0 ⊢
 have x0:=S0.blk.cell 0
 simp only[q'a,q'z] at x0
 have C:=Lib.hid (two_any age o1 W0)
 go_upto_region 2 with (go_at_call 128;refine Calls.mono C.out ?_;rintro x W1 ⟨s,rfl,ho,k⟩)
 have S1:BS w W1 w.heap.size 51 _ s (beN age 2):=⟨S0.blk.below k S0.blk.lt,by rw[beN_len _ _ (by omega)];exact own_less ho S0.blk.lt,S0.far.trans (k.mono S0.far.size)⟩
 clear C x0 S0 ho k
 have x1:=S1.blk.cell 1
 have x2:=S1.blk.cell 2
 simp only[q'a,q'z,q's] at x1 x2
 have hl1:(beN age 2).length=2:=beN_len _ _ (by omega)
 have O1:=S1.own
 rw[hl1] at O1
 obtain ⟨-,A1,c1,rfl,-⟩:=Sl.of_own O1
 replace O1:=Lib.hid O1
 have Z1:=S1.blk.lt
 replace S1:=Lib.hid S1
 go_upto_region 3 with (at_builtin;refine wpList_append rfl (.tmp 7) (.tmp 12) 52 rfl (w.heap.size+1) u8T _ 2 ((beN age 2).map u8c) rfl (own_alloc O1.out _) _ _ 2 [.int .u8 opts,.int .u8 type] rfl (Sl.lit _ #[.int .u8 opts,.int .u8 type] 5 (by simp[maxLen]) rfl) (by simp[Value.oneCell']) (by simp only[maxLen];omega) (by omega) (by simp;omega) ?_;intro v2 W2 ho hg hob)
 have S2:BS w W2 w.heap.size 51 _ v2 (beN age 2++[opts,type]):=S1.out.step hw ((Below.refl _ _).alloc (Nat.le_refl _) _) hg (by rw[hl1];exact ho)
 clear ho hg hob O1 x1 x2 S1 hl1
 have x3:=S2.blk.cell 3
 simp only[q'a,q'z,q's] at x3
 have hl2:(beN age 2++[opts,type]).length=4:=by simp[beN_len]
 have O2:=S2.own
 rw[hl2] at O2
 obtain ⟨-,A2,c2,rfl,-⟩:=Sl.of_own O2
 replace O2:=Lib.hid O2
 have Z2:=S2.blk.lt
 replace S2:=Lib.hid S2
 have C:=Lib.hid (four_any (id) o4 W2)
 go_upto_region 4 with (first
  | (go_at_call 129;refine Calls.mono C.out ?_;rintro x Y3 ⟨s,rfl,hs,kk⟩;obtain ⟨-,As,cs,rfl,-⟩:=Sl.of_own hs;have hs2:=Lib.hid hs;clear hs;have kz:=kk.size)
  | (at_builtin;refine wpList_append rfl (.tmp 14) (.tmp 17) 52 rfl (w.heap.size+1) u8T _ 4 _ rfl (own_below O2.out kk) _ _ 4 _ rfl (Sl.of_own hs2.out) (u8s_oneCell _) (by simp only[maxLen];omega) (by omega) (by omega) ?_;intro v3 W3 ho hg hob))
 have S3:BS w W3 w.heap.size 51 _ v3 (beN age 2++[opts,type]++beN (id) 4):=S2.out.step hw kk hg (by rw[hl2,beN_len _ _ (by omega)];exact ho)
 clear ho hg hob O2 x3 S2 hl2 C hs2 kk
 have x4:=S3.blk.cell 4
 simp only[q'a,q'z,q's] at x4
 have hl3:(beN age 2++[opts,type]++beN (id) 4).length=8:=by simp[beN_len]
 have O3:=S3.own
 rw[hl3] at O3
 obtain ⟨-,A3,c3,rfl,-⟩:=Sl.of_own O3
 replace O3:=Lib.hid O3
 have Z3:=S3.blk.lt
 replace S3:=Lib.hid S3
 have C:=Lib.hid (four_any (adv) o5 W3)
 go_upto_region 5 with (first
  | (go_at_call 129;refine Calls.mono C.out ?_;rintro x Y4 ⟨s,rfl,hs,kk⟩;obtain ⟨-,As,cs,rfl,-⟩:=Sl.of_own hs;have hs2:=Lib.hid hs;clear hs;have kz:=kk.size)
  | (at_builtin;refine wpList_append rfl (.tmp 19) (.tmp 22) 52 rfl (w.heap.size+1) u8T _ 8 _ rfl (own_below O3.out kk) _ _ 4 _ rfl (Sl.of_own hs2.out) (u8s_oneCell _) (by simp only[maxLen];omega) (by omega) (by omega) ?_;intro v4 W4 ho hg hob))
 have S4:BS w W4 w.heap.size 51 _ v4 (beN age 2++[opts,type]++beN (id) 4++beN (adv) 4):=S3.out.step hw kk hg (by rw[hl3,beN_len _ _ (by omega)];exact ho)
 clear ho hg hob O3 x4 S3 hl3 C hs2 kk
 have x5:=S4.blk.cell 5
 simp only[q'a,q'z,q's] at x5
 have hl4:(beN age 2++[opts,type]++beN (id) 4++beN (adv) 4).length=12:=by simp[beN_len]
 have O4:=S4.own
 rw[hl4] at O4
 obtain ⟨-,A4,c4,rfl,-⟩:=Sl.of_own O4
 replace O4:=Lib.hid O4
 have Z4:=S4.blk.lt
 replace S4:=Lib.hid S4
 have C:=Lib.hid (four_any (seq%4294967296) (by omega) W4)
 go_upto_region 6 with (first
  | (go_at_call 129;refine Calls.mono C.out ?_;rintro x Y5 ⟨s,rfl,hs,kk⟩;obtain ⟨-,As,cs,rfl,-⟩:=Sl.of_own hs;have hs2:=Lib.hid hs;clear hs;have kz:=kk.size)
  | (at_builtin;refine wpList_append rfl (.tmp 24) (.tmp 28) 52 rfl (w.heap.size+1) u8T _ 12 _ rfl (own_below O4.out kk) _ _ 4 _ rfl (Sl.of_own hs2.out) (u8s_oneCell _) (by simp only[maxLen];omega) (by omega) (by omega) ?_;intro v5 W5 ho hg hob))
 have S5:BS w W5 w.heap.size 51 _ v5 (beN age 2++[opts,type]++beN (id) 4++beN (adv) 4++beN (seq%4294967296) 4):=S4.out.step hw kk hg (by rw[hl4,beN_len _ _ (by omega)];exact ho)
 clear ho hg hob O4 x5 S4 hl4 C hs2 kk
 have x6:=S5.blk.cell 6
 simp only[q'a,q'z,q's] at x6
 have hl5:(beN age 2++[opts,type]++beN (id) 4++beN (adv) 4++beN (seq%4294967296) 4).length=16:=by simp[beN_len]
 have O5:=S5.own
 rw[hl5] at O5
 obtain ⟨-,A5,c5,rfl,-⟩:=Sl.of_own O5
 replace O5:=Lib.hid O5
 have Z5:=S5.blk.lt
 replace S5:=Lib.hid S5
 have C:=Lib.hid (two_any (sum) o7 W5)
 go_upto_region 7 with (first
  | (go_at_call 128;refine Calls.mono C.out ?_;rintro x Y6 ⟨s,rfl,hs,kk⟩;obtain ⟨-,As,cs,rfl,-⟩:=Sl.of_own hs;have hs2:=Lib.hid hs;clear hs;have kz:=kk.size)
  | (at_builtin;refine wpList_append rfl (.tmp 30) (.tmp 33) 52 rfl (w.heap.size+1) u8T _ 16 _ rfl (own_below O5.out kk) _ _ 2 _ rfl (Sl.of_own hs2.out) (u8s_oneCell _) (by simp only[maxLen];omega) (by omega) (by omega) ?_;intro v6 W6 ho hg hob))
 have S6:BS w W6 w.heap.size 51 _ v6 (beN age 2++[opts,type]++beN (id) 4++beN (adv) 4++beN (seq%4294967296) 4++beN (sum) 2):=S5.out.step hw kk hg (by rw[hl5,beN_len _ _ (by omega)];exact ho)
 clear ho hg hob O5 x6 S5 hl5 C hs2 kk
 have x7:=S6.blk.cell 7
 simp only[q'a,q'z,q's] at x7
 have hl6:(beN age 2++[opts,type]++beN (id) 4++beN (adv) 4++beN (seq%4294967296) 4++beN (sum) 2).length=18:=by simp[beN_len]
 have O6:=S6.own
 rw[hl6] at O6
 obtain ⟨-,A6,c6,rfl,-⟩:=Sl.of_own O6
 replace O6:=Lib.hid O6
 have Z6:=S6.blk.lt
 replace S6:=Lib.hid S6
 have C:=Lib.hid (two_any (len) o8 W6)
 go_wp2_with (first
  | (go_at_call 128;refine Calls.mono C.out ?_;rintro x Y7 ⟨s,rfl,hs,kk⟩;obtain ⟨-,As,cs,rfl,-⟩:=Sl.of_own hs;have hs2:=Lib.hid hs;clear hs;have kz:=kk.size)
  | (at_builtin;refine wpList_append rfl (.tmp 35) (.tmp 38) 52 rfl (w.heap.size+1) u8T _ 18 _ rfl (own_below O6.out kk) _ _ 2 _ rfl (Sl.of_own hs2.out) (u8s_oneCell _) (by simp only[maxLen];omega) (by omega) (by omega) ?_;intro v7 W7 ho hg hob))
 have S7:=S6.out.step (M:=beN (len) 2) hw kk hg (by rw[hl6,beN_len _ _ (by omega)];exact ho)
 go_ret
 refine ⟨_,rfl,?_,S7.far⟩
 have O:=own_less S7.own (Nat.le_succ _)
 rw[show (beN age 2++[opts,type]++beN (id) 4++beN (adv) 4++beN (seq%4294967296) 4++beN (sum) 2++beN (len) 2).length=20 from by simp[beN_len]] at O
 rw[show headB ⟨age,opts,type,id,adv,seq,sum,len⟩=beN age 2++[opts,type]++beN (id) 4++beN (adv) 4++beN (seq%4294967296) 4++beN (sum) 2++beN (len) 2 from by simp[headB]]
 exact O
set_option maxHeartbeats 1000000 in
theorem rbytes_any (h:OHead) (ok:HeadOk h) (B:Nat) (bv:Value) (body:List Int) (w:World) (hb:Sl w B 1 bv body.length (body.map u8c)) (hB:B≤w.heap.size) (hn:body.length≤1099511627776) :
  Calls Tryz.prog 56 #[stateVal h bv] w fun x w'=>∃ v,x=.returned v∧w'.ownsRow w.heap.size 5 1 v (headB h++body).length ((headB h++body).map u8c)∧Below w.heap.size w w':=by
 have hb0:=hb
 have hL:=headB_len h
 obtain ⟨-,A,c,rfl,-⟩:=hb
 have qB:Below w.heap.size w (w.alloc (.cells #[.int .u16 h.age,.int .u8 h.opts,.int .u8 h.type,.int .u32 h.id,.int .u32 h.adv,.int .i32 h.seq,.int .u16 h.sum,.int .u16 h.len,.slice A body.length c] 54)):=(Below.refl _ _).alloc (Nat.le_refl _) _
 have q0:Blk (w.alloc (.cells #[.int .u16 h.age,.int .u8 h.opts,.int .u8 h.type,.int .u32 h.id,.int .u32 h.adv,.int .i32 h.seq,.int .u16 h.sum,.int .u16 h.len,.slice A body.length c] 54)) w.heap.size 54 #[.int .u16 h.age,.int .u8 h.opts,.int .u8 h.type,.int .u32 h.id,.int .u32 h.adv,.int .i32 h.seq,.int .u16 h.sum,.int .u16 h.len,.slice A body.length c]:=Blk.new _ _ _
 have C:=fun W=>rhead_any h ok W
 simp only[headCells] at C
 generalize headB h=L at C hL ⊢
 replace C:=Lib.hid C
 have hLL:=Lib.hid hL
 clear hL
 go_enter Tryz.func56,Tryz.ntmps56
 go_upto_region 2 with (go_at_call 98;refine Calls.mono (C.out _) ?_;rintro x w1 ⟨s,rfl,ho,k⟩)
 have k1:=qB.trans (k.mono qB.size)
 have hb1:=hb0.below (k1.mono hB)
 have x8:=(q0.below k q0.lt).cell 8
 simp only[q'a,q'z,q's] at x8
 have hz:=qB.size
 have ho1:=own_less ho hz
 have hz1:=k1.size
 clear ho k q0 hb0
 obtain ⟨-,A1,c1,rfl,-⟩:=Sl.of_own ho1
 replace ho1:=Lib.hid ho1
 go_wp2_with (at_builtin;refine wpList_append rfl (.tmp 7) (.tmp 9) 52 rfl w.heap.size u8T _ 20 _ rfl ho1.out B _ body.length _ rfl hb1 (u8s_oneCell _) (by simp only[maxLen];omega) (by omega) hz1 ?_;intro v3 w3 ho3 hg3 hob3)
 go_ret
 refine ⟨_,rfl,?_,k1.trans (below_of_grown hg3 hz1 (fun b hb=>(ho1.out.lt _ hb).1))⟩
 rw[List.length_append,List.map_append,hLL.out]
 exact ho3
end Go.Proofs.YtiikagabdiphkaaGreat
namespace Go.Proofs.YtiikagabdiphkaaGreat
open Go.RowKit Go.Lo
def sumsTo (b:List Int) (at_:Nat):Nat→Int × Int
 | 0=>(0,0)
 | k+1=>if k=at_∨k=at_+1 then sumsTo b at_ k
  else (((sumsTo b at_ k).1+b.getD k 0)%255,((sumsTo b at_ k).2+((b.length:Int)-k)%255*b.getD k 0)%255)
theorem sumsTo_range (b:List Int) (at_ k:Nat):0≤(sumsTo b at_ k).1∧(sumsTo b at_ k).1<255∧0≤(sumsTo b at_ k).2∧(sumsTo b at_ k).2<255:=by
 induction k with
 | zero=>exact ⟨by simp[sumsTo],by simp[sumsTo],by simp[sumsTo],by simp[sumsTo]⟩
 | succ k ih =>
  unfold sumsTo
  split
  ·exact ih
  ·simp only
   omega
set_option maxHeartbeats 1000000 in
theorem sums_any (B:Nat) (bv:Value) (b:List Int) (at_:Nat) (w:World) (hb:Sl w B 1 bv b.length (b.map u8c)) (hn:b.length≤1099511627776) (ha:at_≤1099511627776) (hl8:∀ x∈b,0≤x∧x<256) :
  Calls Tryz.prog 99 #[bv,.int .i64 at_] w fun x w'=>x=.returned (.tuple #[.int .i64 (sumsTo b at_ b.length).1,.int .i64 (sumsTo b at_ b.length).2])∧w'=w:=by
 obtain ⟨-,A,c,rfl,hc,-,hat⟩:=hb
 go_enter Tryz.func99,Tryz.ntmps99
 go_wp2
 go_loopg [6,7,8] b.length (fun m c0 c1 i wr=>∃ j:Nat,j≤b.length∧m=b.length-j∧c0=.int .i64 (sumsTo b at_ j).1∧c1=.int .i64 (sumsTo b at_ j).2∧i=.int .i64 (j:Int)∧wr=w)
 case atStart =>
  exact ⟨0,Nat.zero_le _,rfl,rfl,rfl,rfl,rfl⟩
 case round =>
  obtain ⟨j,hj,hm,rfl,rfl,rfl,rfl⟩:=hrel
  have hr:=sumsTo_range b at_ j
  by_cases hjn:j<b.length
  ·obtain ⟨g,off,rfl,hg,hcell⟩:=hat (by omega)
   have cj:=hcell j (u8c (b[j])) (by simp[hjn])
   rw[show u8c b[j]=.int .u8 b[j] from rfl] at cj
   have h8:=hl8 b[j] (List.getElem_mem hjn)
   have hs:sumsTo b at_ (j+1)=if j=at_∨j=at_+1 then sumsTo b at_ j else (((sumsTo b at_ j).1+b[j])%255,((sumsTo b at_ j).2+((b.length:Int)-j)%255*b[j])%255):=by
    conv=>lhs;unfold sumsTo
    simp only[List.getD_eq_getElem?_getD,List.getElem?_eq_getElem hjn,o'g]
   have hq0:0≤((b.length:Int)-j)%255∧((b.length:Int)-j)%255<255:=by omega
   have hmul:0≤((b.length:Int)-j)%255*b[j]∧((b.length:Int)-j)%255*b[j]≤254*255:=⟨Int.mul_nonneg hq0.1 h8.1,by
    have h1:=Int.mul_le_mul_of_nonneg_right (show ((b.length:Int)-j)%255≤254 by omega) h8.1
    have h2:=Int.mul_le_mul_of_nonneg_left (show b[j]≤255 by omega) (show (0:Int)≤254 by omega)
    omega⟩
   by_cases h1:j=at_
   ·rw[if_pos (.inl h1)] at hs
    have e1:((j:Int)==(at_:Int))=true:=by simp[h1]
    have hs0:=Lib.hid hs
    have h10:=Lib.hid h1
    clear hs h1 hcell hat
    go_wp2
    go_roundg (b.length-(j+1))
    case measure=>omega
    case rel=>exact ⟨j+1,by omega,rfl,by rw[hs0.out],by rw[hs0.out],by simp,rfl⟩
   ·have e1:((j:Int)==(at_:Int))=false:=by simp;omega
    by_cases h2:j=at_+1
    ·rw[if_pos (.inr h2)] at hs
     have e2:((j:Int)==(at_:Int)+1)=true:=by simp;omega
     have hs0:=Lib.hid hs
     have h10:=Lib.hid h1
     have h20:=Lib.hid h2
     clear hs h1 h2 hcell hat
     go_wp2
     go_roundg (b.length-(j+1))
     case measure=>omega
     case rel=>exact ⟨j+1,by omega,rfl,by rw[hs0.out],by rw[hs0.out],by simp,rfl⟩
    ·rw[if_neg (by omega)] at hs
     have e2:((j:Int)==(at_:Int)+1)=false:=by simp;omega
     have hs0:=Lib.hid hs
     have h10:=Lib.hid h1
     have h20:=Lib.hid h2
     clear hs h1 h2 hcell hat
     generalize b[j]=x at *
     go_wp2
     go_roundg (b.length-(j+1))
     case measure=>omega
     case rel=>exact ⟨j+1,by omega,rfl,by rw[hs0.out],by rw[hs0.out],by simp,rfl⟩
  ·obtain rfl:j=b.length:=by omega
   go_wp2
   refine bodyPost_ret (results_tmp2 rfl _ _ _) rfl ?_
   exact ⟨rfl,rfl⟩
def hitP (c:Int × Int) (n x y:Int):Prop:=(c.1+x+y)%255=0∧(c.2+n*x+(n+254)%255*y)%255=0
theorem mul255 {a b:Int} (ha:0≤a∧a<255) (hb:0≤b∧b≤255):0≤a*b∧a*b≤64770:=⟨Int.mul_nonneg ha.1 hb.1,by
 have h1:=Int.mul_le_mul_of_nonneg_right (show a≤254 by omega) hb.1
 have h2:=Int.mul_le_mul_of_nonneg_left (show b≤255 by omega) (show (0:Int)≤254 by omega)
 omega⟩
def FlR (c:Int × Int) (n r:Int):Prop:=
 (∃ x y:Int,1≤x∧x≤255∧1≤y∧y≤255∧hitP c n x y∧r=256*x+y)∨(r=0∧∀ x y:Int,1≤x→x≤255→1≤y→y≤255→¬ hitP c n x y)
set_option maxHeartbeats 1000000 in
theorem fletcher_any (B:Nat) (bv:Value) (b:List Int) (w:World) (hb:Sl w B 1 bv b.length (b.map u8c)) (hn:b.length≤1099511627776) (h16:16≤b.length) (hl8:∀ x∈b,0≤x∧x<256) :
  Calls Tryz.prog 57 #[bv,.int .i64 14] w fun x w'=>∃ r,x=.returned (.tuple #[.int .u16 r,.int .i64 0])∧FlR (sumsTo b 14 b.length) (((b.length:Int)-14)%255) r∧w'=w:=by
 have C:=Lib.hid (sums_any B bv b 14 w hb hn (by omega) hl8)
 have hr:=sumsTo_range b 14 b.length
 have hq:∃ n:Int,n=((b.length:Int)-14)%255:=⟨_,rfl⟩
 obtain ⟨n,hq⟩:=hq
 rw[←hq]
 have hnr:0≤n∧n<255:=by omega
 have hq2:((b.length:Int)-14)%255=n:=hq.symm
 have hm1:0≤(n+254)%255∧(n+254)%255<255:=by omega
 clear hq
 obtain ⟨-,A,c,rfl,hc,-,-⟩:=hb
 go_enter Tryz.func57,Tryz.ntmps57
 generalize sumsTo b 14 b.length=cc at *
 go_wp2_with (go_at_call 99;refine Calls.mono C.out ?_;rintro x w1 ⟨rfl,rfl⟩)
 go_loopg [9,10] 255 (fun m x y wr=>∃ j:Nat,j≤255∧m=255-j∧x=.int .i64 ((j:Int)+1)∧(∀ x y:Int,1≤x→x≤j→1≤y→y≤255→¬ hitP cc n x y)∧wr=w1)
 case atStart=>exact ⟨0,by omega,rfl,rfl,fun x y h1 h2=>by omega,rfl⟩
 case round =>
  obtain ⟨j,hj,hm,rfl,hno,rfl⟩:=hrel
  have hnoh:=Lib.hid hno
  clear hno
  by_cases hj5:j<255
  ·have hm2:=mul255 hnr (b:=(j:Int)+1) (by omega)
   go_wp2
   go_loopg [10] 255 (fun m y wr2=>∃ k:Nat,k≤255∧m=255-k∧y=.int .i64 ((k:Int)+1)∧(∀ y:Int,1≤y→y≤k→¬ hitP cc n ((j:Int)+1) y)∧wr2=wr)
   case atStart=>exact ⟨0,by omega,rfl,rfl,fun y h1 h2=>by omega,rfl⟩
   case round =>
    obtain ⟨k,hk,hmk,rfl,hnk,rfl⟩:=hrel
    have hnkh:=Lib.hid hnk
    clear hnk
    by_cases hk5:k<255
    ·have hm3:=mul255 hm1 (b:=(k:Int)+1) (by omega)
     by_cases ha:(cc.1+((j:Int)+1)+((k:Int)+1))%255=0
     ·by_cases hb:(cc.2+n*((j:Int)+1)+(n+254)%255*((k:Int)+1))%255=0
      ·have e1:=beq_iff_eq.2 ha
       have e2:=beq_iff_eq.2 hb
       have hh:hitP cc n ((j:Int)+1) ((k:Int)+1):=⟨ha,hb⟩
       clear ha hb
       go_wp2
       refine bodyPost_ret (results_tmp2 rfl _ _ _) rfl ?_
       exact ⟨_,rfl,.inl ⟨(j:Int)+1,(k:Int)+1,by omega,by omega,by omega,by omega,hh,rfl⟩,rfl⟩
      ·have e1:=beq_iff_eq.2 ha
       have e2:=beq_eq_false_iff_ne.2 hb
       have hh:¬ hitP cc n ((j:Int)+1) ((k:Int)+1):=fun h=>hb h.2
       clear ha hb
       go_wp2
       go_roundg (255-(k+1))
       case measure=>omega
       case rel =>
        refine ⟨k+1,by omega,rfl,by simp,fun y h1 h2 => ?_,rfl⟩
        by_cases hy:y=(k:Int)+1
        ·subst hy;exact hh
        ·exact hnkh.out y h1 (by omega)
     ·have e1:=beq_eq_false_iff_ne.2 ha
      have hh:¬ hitP cc n ((j:Int)+1) ((k:Int)+1):=fun h=>ha h.1
      clear ha
      go_wp2
      go_roundg (255-(k+1))
      case measure=>omega
      case rel =>
       refine ⟨k+1,by omega,rfl,by simp,fun y h1 h2 => ?_,rfl⟩
       by_cases hy:y=(k:Int)+1
       ·subst hy;exact hh
       ·exact hnkh.out y h1 (by omega)
    ·obtain rfl:k=255:=by omega
     go_wp2
     go_roundg (255-(j+1))
     case measure=>omega
     case rel =>
      refine ⟨j+1,by omega,rfl,by simp,fun x y h1 h2 h3 h4 => ?_,rfl⟩
      by_cases hx:x=(j:Int)+1
      ·subst hx;exact hnkh.out y h3 (by omega)
      ·exact hnoh.out x y h1 (by omega) h3 h4
  ·obtain rfl:j=255:=by omega
   go_wp2
   refine bodyPost_ret (results_tmp2 rfl _ _ _) rfl ?_
   exact ⟨_,rfl,.inr ⟨rfl,fun x y h1 h2 h3 h4=>hnoh.out x y h1 (by omega) h3 h4⟩,rfl⟩
end Go.Proofs.YtiikagabdiphkaaGreat
namespace Go.Proofs.YtiikagabdiphkaaGreat
open Go.RowKit Go.Lo
def maskR:Nat→Int
 | 0=>0
 | k+1=>bits BinOp.or IntKind.u32 (maskR k) (2 ^ (31-k)%4294967296)
theorem maskR_succ (k:Nat):maskR (k+1)=bits BinOp.or IntKind.u32 (maskR k) (2 ^ (31-k)%4294967296):=rfl
set_option maxHeartbeats 1000000 in
theorem rmask_any (n:Nat) (hn:n≤32) (w:World):Calls Tryz.prog 118 #[.int .u8 n] w fun x w'=>x=.returned (.int .u32 (maskR n))∧w'=w:=by
 have hd:decide ((n:Int)≤32)=true:=decide_eq_true (by omega)
 go_enter Tryz.func118,Tryz.ntmps118
 go_wp2
 go_loopg [3,4] n (fun m v i wr=>∃ j:Nat,j≤n∧m=n-j∧v=.int .u32 (maskR j)∧i=.int .u8 (j:Int)∧wr=w)
 case atStart=>exact ⟨0,by omega,rfl,rfl,rfl,rfl⟩
 case round =>
  obtain ⟨j,hj,hm,rfl,rfl,rfl⟩:=hrel
  by_cases hjn:j<n
  ·have hd2:decide ((j:Int)<n)=true:=decide_eq_true (by omega)
   have hm2:=maskR_succ j
   have hp:(2:Int) ^ (31-(j:Int)).toNat=2 ^ (31-j):=by congr 1;omega
   go_wp2
   go_roundg (n-(j+1))
   case measure=>omega
   case rel=>exact ⟨j+1,by omega,rfl,rfl,by simp,rfl⟩
  ·have hd2:decide ((j:Int)<n)=false:=decide_eq_false (by omega)
   obtain rfl:j=n:=by omega
   go_wp2
   go_ret
   exact ⟨rfl,rfl⟩
def MaskOf (m:Int) (n:Nat):Prop:=n≤32∧maskR n=m∧∀ k,k<n→maskR k≠m
set_option maxHeartbeats 1000000 in
theorem rbits_any (m:Int) (n:Nat) (hn:MaskOf m n) (w:World):Calls Tryz.prog 69 #[.int .u32 m] w fun x w'=>x=.returned (.tuple #[.int .u8 n,.bool true])∧w'=w:=by
 obtain ⟨h1,h2,h3⟩:=hn
 replace h3:=Lib.hid h3
 replace h2:=Lib.hid h2
 go_enter Tryz.func69,Tryz.ntmps69
 go_wp2
 go_loopg [4] n (fun mm i wr=>∃ j:Nat,j≤n∧mm=n-j∧i=.int .u8 (j:Int)∧wr=w)
 case atStart=>exact ⟨0,by omega,rfl,rfl,rfl⟩
 case round =>
  obtain ⟨j,hj,hm,rfl,rfl⟩:=hrel
  have C:=Lib.hid (rmask_any j (by omega) wr)
  have hd2:decide ((j:Int)≤32)=true:=decide_eq_true (by omega)
  by_cases hjn:j<n
  ·have e1:(maskR j==m)=false:=beq_eq_false_iff_ne.2 (h3.out j hjn)
   go_wp2_with (go_at_call 118;refine Calls.mono C.out ?_;rintro x w1 ⟨rfl,rfl⟩)
   go_roundg (n-(j+1))
   case measure=>omega
   case rel=>exact ⟨j+1,by omega,rfl,by simp,rfl⟩
  ·obtain rfl:j=n:=by omega
   have e1:(maskR j==m)=true:=beq_iff_eq.2 h2.out
   go_wp2_with (go_at_call 118;refine Calls.mono C.out ?_;rintro x w1 ⟨rfl,rfl⟩)
   refine bodyPost_ret (results_tmp2 rfl _ _ _) rfl ?_
   exact ⟨rfl,rfl⟩
theorem maskOf8:MaskOf 4278190080 8:=⟨by omega,by decide,by decide⟩
theorem known5 (w:World):Calls Tryz.prog 77 #[.int .u8 5] w fun x w'=>x=.returned (.bool true)∧w'=w:=by
 go_enter Tryz.func77,Tryz.ntmps77
 go_wp2
 go_ret
 exact ⟨rfl,rfl⟩
abbrev numC (m k:Int) (t2:Bool) (fw tg:Int):Array Value:=#[.int .u8 0,.slice none 0 0,.int .u32 m,.slice none 0 0,.int .u32 k,.bool t2,.int .u32 fw,.int .u32 tg,.slice none 0 0]
theorem alone3 (m k:Int) (w:World):Calls Tryz.prog 127 #[.int .u8 3,.agg (numC m k false 0 0)] w fun x w'=>x=.returned (.bool true)∧Below w.heap.size w w':=by
 have hB:Below w.heap.size w (w.alloc (.cells (numC m k false 0 0) 93)):=(Below.refl _ _).alloc (Nat.le_refl _) _
 go_enter Tryz.func127,Tryz.ntmps127
 go_wp2
 go_ret
 exact ⟨rfl,hB⟩
theorem alone5 (m k:Int) (t2:Bool) (fw tg:Int) (w:World):Calls Tryz.prog 127 #[.int .u8 5,.agg (numC m k t2 fw tg)] w fun x w'=>x=.returned (.bool true)∧Below w.heap.size w w':=by
 have hB:Below w.heap.size w (w.alloc (.cells (numC m k t2 fw tg) 93)):=(Below.refl _ _).alloc (Nat.le_refl _) _
 go_enter Tryz.func127,Tryz.ntmps127
 go_wp2
 go_ret
 exact ⟨rfl,hB⟩
theorem size5 (m k:Int) (t2:Bool) (fw tg:Int) (w:World):Calls Tryz.prog 134 #[.int .u8 5,.agg (numC m k t2 fw tg)] w fun x w'=>x=.returned (.int .i64 16)∧Below w.heap.size w w':=by
 have hB:Below w.heap.size w (w.alloc (.cells (numC m k t2 fw tg) 93)):=(Below.refl _ _).alloc (Nat.le_refl _) _
 go_enter Tryz.func134,Tryz.ntmps134
 go_wp2
 go_ret
 exact ⟨rfl,hB⟩
end Go.Proofs.YtiikagabdiphkaaGreat
