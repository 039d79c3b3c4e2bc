/- lodestarlaw16's two: two routers on one network, encoded. No condition. -/
import Derived.Test.YtcknpofnpabkiaaGreatGzAU
import Derived.Test.YtcknpofnpabkiaaGreatGzBI
namespace Go.Proofs.YtcknpofnpabkiaaGreat
open Go.RowKit Go.Lo
theorem addP_sh (bs:List Int) (c:Int × Int) (h:0<bs.length) (h2:bs.length≤4000):addP bs c=modC (addL bs c):=by
 rw[addP_step bs c h,List.drop_eq_nil_of_le h2,addP_nil,List.take_of_length_le h2]
def bodyA:List Int:=[0,0,0,1,10,0,0,2,10,0,0,1,2,0,0,3]
def bodyB:List Int:=[0,0,0,1,10,0,0,2,10,0,0,2,2,0,0,5]
def bodyN:List Int:=[255,255,255,0,0,0,0,2,0,0,0,1]
abbrev headA:OHead:=⟨0,0,1,1,1,1,22881,36⟩
abbrev headB_:OHead:=⟨0,0,1,2,2,1,31546,36⟩
abbrev headN:OHead:=⟨0,0,2,167772162,2,1,41258,32⟩
theorem headOkA:HeadOk ⟨0,0,((1:Nat):Int),1,1,1,0,0⟩:=⟨by decide,by decide,by decide,by decide,by decide,by decide,by decide,by decide⟩
theorem headOkB:HeadOk ⟨0,0,((1:Nat):Int),2,2,1,0,0⟩:=⟨by decide,by decide,by decide,by decide,by decide,by decide,by decide,by decide⟩
theorem headOkN:HeadOk ⟨0,0,((2:Nat):Int),167772162,2,1,0,0⟩:=⟨by decide,by decide,by decide,by decide,by decide,by decide,by decide,by decide⟩
theorem sealA (r:Int) (h:sealR ⟨0,0,((1:Nat):Int),1,1,1,0,0⟩ bodyA r):r=22881:=by
 unfold sealR at h
 have e1:sumsTo (sealB ⟨0,0,((1:Nat):Int),1,1,1,0,0⟩ bodyA) 14 (sealB ⟨0,0,((1:Nat):Int),1,1,1,0,0⟩ bodyA).length=(69,202):=by decide
 have e2:((((sealB ⟨0,0,((1:Nat):Int),1,1,1,0,0⟩ bodyA).length:Int)-14)%255)=20:=by decide
 rw[e1,e2] at h
 rcases h with ⟨x,y,h1,h2,h3,h4,⟨h5,h6⟩,rfl⟩ | ⟨-,hno⟩
 ·simp only at h5 h6
  omega
 ·exact absurd (show hitP (69,202) 20 89 97 from ⟨by decide,by decide⟩) (hno 89 97 (by decide) (by decide) (by decide) (by decide))
theorem sealB_ (r:Int) (h:sealR ⟨0,0,((1:Nat):Int),2,2,1,0,0⟩ bodyB r):r=31546:=by
 unfold sealR at h
 have e1:sumsTo (sealB ⟨0,0,((1:Nat):Int),2,2,1,0,0⟩ bodyB) 14 (sealB ⟨0,0,((1:Nat):Int),2,2,1,0,0⟩ bodyB).length=(74,8):=by decide
 have e2:((((sealB ⟨0,0,((1:Nat):Int),2,2,1,0,0⟩ bodyB).length:Int)-14)%255)=20:=by decide
 rw[e1,e2] at h
 rcases h with ⟨x,y,h1,h2,h3,h4,⟨h5,h6⟩,rfl⟩ | ⟨-,hno⟩
 ·simp only at h5 h6
  omega
 ·exact absurd (show hitP (74,8) 20 123 58 from ⟨by decide,by decide⟩) (hno 123 58 (by decide) (by decide) (by decide) (by decide))
theorem sealN (r:Int) (h:sealR ⟨0,0,((2:Nat):Int),167772162,2,1,0,0⟩ bodyN r):r=41258:=by
 unfold sealR at h
 have e1:sumsTo (sealB ⟨0,0,((2:Nat):Int),167772162,2,1,0,0⟩ bodyN) 14 (sealB ⟨0,0,((2:Nat):Int),167772162,2,1,0,0⟩ bodyN).length=(52,109):=by decide
 have e2:((((sealB ⟨0,0,((2:Nat):Int),167772162,2,1,0,0⟩ bodyN).length:Int)-14)%255)=16:=by decide
 rw[e1,e2] at h
 rcases h with ⟨x,y,h1,h2,h3,h4,⟨h5,h6⟩,rfl⟩ | ⟨-,hno⟩
 ·simp only at h5 h6
  omega
 ·exact absurd (show hitP (52,109) 16 161 42 from ⟨by decide,by decide⟩) (hno 161 42 (by decide) (by decide) (by decide) (by decide))
def S3:List StG:=[(headN,bodyN),(headB_,bodyB),(headA,bodyA)]
theorem wholeA:wholeB ((headB headA++bodyA).drop 2)=true:=by
 unfold wholeB
 rw[addP_sh _ _ (by decide) (by decide)]
 decide
theorem wholeB_:wholeB ((headB headB_++bodyB).drop 2)=true:=by
 unfold wholeB
 rw[addP_sh _ _ (by decide) (by decide)]
 decide
theorem wholeN:wholeB ((headB headN++bodyN).drop 2)=true:=by
 unfold wholeB
 rw[addP_sh _ _ (by decide) (by decide)]
 decide
theorem isA:isG (headA,bodyA)=true:=by
 unfold isG countsP freshP chkP
 rw[wholeA]
 decide
theorem isB_:isG (headB_,bodyB)=true:=by
 unfold isG countsP freshP chkP
 rw[wholeB_]
 decide
theorem isN:isG (headN,bodyN)=true:=by
 unfold isG countsP freshP chkP
 rw[wholeN]
 decide
theorem nodes3:nodesG S3=[(headA,bodyA),(headB_,bodyB),(headN,bodyN)]:=by
 show (if isG (headA,bodyA) then insN (if isG (headB_,bodyB) then insN (if isG (headN,bodyN) then insN [] (headN,bodyN) else []) (headB_,bodyB) else (if isG (headN,bodyN) then insN [] (headN,bodyN) else [])) (headA,bodyA) else _)=_
 rw[isA,isB_,isN]
 rfl
def G3:List NodG:=[⟨false,1,0,0,0,[⟨2,3,167772161,false⟩],[]⟩,⟨false,2,0,0,0,[⟨2,5,167772162,false⟩],[]⟩,⟨true,167772162,167772160,24,0,[⟨1,0,0,false⟩,⟨0,0,0,false⟩],[]⟩]
theorem graph3:graphG (nodesG S3)=G3:=by
 rw[nodes3]
 kernel_rfl
theorem rsize1 (A:Option Addr) (c:Nat) (m:Int) (w:World):Calls Tryz.prog 107 #[.int .u8 1,.agg #[.int .u8 0,.slice A 1 c,.int .u32 m,.slice none 0 0,.int .u32 0,.bool false,.int .u32 0,.int .u32 0,.slice none 0 0]] w fun x w'=>x=.returned (.int .i64 16)∧Below w.heap.size w w':=by
 have hB:Below w.heap.size w (w.alloc (.cells #[.int .u8 0,.slice A 1 c,.int .u32 m,.slice none 0 0,.int .u32 0,.bool false,.int .u32 0,.int .u32 0,.slice none 0 0] 81)):=(Below.refl _ _).alloc (Nat.le_refl _) _
 go_enter Tryz.func107,Tryz.ntmps107
 go_wp2
 go_ret
 exact ⟨rfl,hB⟩
theorem rsize2 (A:Option Addr) (c:Nat) (m:Int) (w:World):Calls Tryz.prog 107 #[.int .u8 2,.agg #[.int .u8 0,.slice none 0 0,.int .u32 m,.slice A 2 c,.int .u32 0,.bool false,.int .u32 0,.int .u32 0,.slice none 0 0]] w fun x w'=>x=.returned (.int .i64 12)∧Below w.heap.size w w':=by
 have hB:Below w.heap.size w (w.alloc (.cells #[.int .u8 0,.slice none 0 0,.int .u32 m,.slice A 2 c,.int .u32 0,.bool false,.int .u32 0,.int .u32 0,.slice none 0 0] 81)):=(Below.refl _ _).alloc (Nat.le_refl _) _
 go_enter Tryz.func107,Tryz.ntmps107
 go_wp2
 go_ret
 exact ⟨rfl,hB⟩
theorem encA_any (w:World):Calls Tryz.prog 66 #[.agg #[.int .u16 0,.int .u8 0,.int .u8 1,.int .u32 1,.int .u32 1,.int .i32 1,.int .u16 0,.int .u16 0],.agg #[.int .u8 0,.slice (some ⟨w.heap.size,0,none⟩) 1 1,.int .u32 0,.slice none 0 0,.int .u32 0,.bool false,.int .u32 0,.int .u32 0,.slice none 0 0]] (w.alloc (.cells #[.int .u32 167772162,.int .u32 167772161,.int .u8 2,.int .u16 3] 99)) fun x w'=>∃ v,x=.returned (.tuple #[stateVal ⟨0,0,1,1,1,1,22881,36⟩ v,.int .i64 0])∧w'.ownsRow (w.alloc (.cells #[.int .u32 167772162,.int .u32 167772161,.int .u8 2,.int .u16 3] 99)).heap.size 5 1 v 16 (bodyA.map u8c)∧Below (w.alloc (.cells #[.int .u32 167772162,.int .u32 167772161,.int .u8 2,.int .u16 3] 99)).heap.size (w.alloc (.cells #[.int .u32 167772162,.int .u32 167772161,.int .u8 2,.int .u16 3] 99)) w':=by
 have hs:Sl (w.alloc (.cells #[.int .u32 167772162,.int .u32 167772161,.int .u8 2,.int .u16 3] 99)) (w.heap.size+1) 4 (.slice (some ⟨w.heap.size,0,none⟩) 1 1) 1 ([(⟨167772162,167772161,2,3⟩:LinkV)].flatMap linkC):=Sl.lit w #[.int .u32 167772162,.int .u32 167772161,.int .u8 2,.int .u16 3] 99 (by simp[maxLen]) rfl
 have hz:w.heap.size+1=(w.alloc (.cells #[.int .u32 167772162,.int .u32 167772161,.int .u8 2,.int .u16 3] 99)).heap.size:=by simp
 rw[hz] at hs
 refine Calls.mono (encodeK_any 1 rfl 0 0 1 1 1 headOkA 0 (some ⟨w.heap.size,0,none⟩) 1 1 0 none 0 0 0 false 0 0 none 0 0 bodyA (by decide) (by decide) (w.alloc (.cells #[.int .u32 167772162,.int .u32 167772161,.int .u8 2,.int .u16 3] 99)) (fun W hW => ?_) (fun W hW=>rsize1 _ _ _ W) (fun W hW => ?_)) ?_
 ·exact rmay1_any 0 [(⟨167772162,167772161,2,3⟩:LinkV)] (some ⟨w.heap.size,0,none⟩) 1 none 0 none 0 W (by decide) _ (hs.below hW) hW.size
 ·exact rlay1_any 0 [(⟨167772162,167772161,2,3⟩:LinkV)] (by decide) (fun x hx=>by rw[List.mem_singleton.1 hx];exact ⟨by decide,by decide,by decide,by decide⟩) _ (some ⟨w.heap.size,0,none⟩) 1 none 0 none 0 W (hs.below hW) hW.size
 ·rintro x w' ⟨v,r,rfl,hr,ho,hb⟩
  obtain rfl:=sealA r hr
  exact ⟨v,rfl,ho,hb⟩
theorem encB_any (w:World):Calls Tryz.prog 66 #[.agg #[.int .u16 0,.int .u8 0,.int .u8 1,.int .u32 2,.int .u32 2,.int .i32 1,.int .u16 0,.int .u16 0],.agg #[.int .u8 0,.slice (some ⟨w.heap.size,0,none⟩) 1 1,.int .u32 0,.slice none 0 0,.int .u32 0,.bool false,.int .u32 0,.int .u32 0,.slice none 0 0]] (w.alloc (.cells #[.int .u32 167772162,.int .u32 167772162,.int .u8 2,.int .u16 5] 99)) fun x w'=>∃ v,x=.returned (.tuple #[stateVal ⟨0,0,1,2,2,1,31546,36⟩ v,.int .i64 0])∧w'.ownsRow (w.alloc (.cells #[.int .u32 167772162,.int .u32 167772162,.int .u8 2,.int .u16 5] 99)).heap.size 5 1 v 16 (bodyB.map u8c)∧Below (w.alloc (.cells #[.int .u32 167772162,.int .u32 167772162,.int .u8 2,.int .u16 5] 99)).heap.size (w.alloc (.cells #[.int .u32 167772162,.int .u32 167772162,.int .u8 2,.int .u16 5] 99)) w':=by
 have hs:Sl (w.alloc (.cells #[.int .u32 167772162,.int .u32 167772162,.int .u8 2,.int .u16 5] 99)) (w.heap.size+1) 4 (.slice (some ⟨w.heap.size,0,none⟩) 1 1) 1 ([(⟨167772162,167772162,2,5⟩:LinkV)].flatMap linkC):=Sl.lit w #[.int .u32 167772162,.int .u32 167772162,.int .u8 2,.int .u16 5] 99 (by simp[maxLen]) rfl
 have hz:w.heap.size+1=(w.alloc (.cells #[.int .u32 167772162,.int .u32 167772162,.int .u8 2,.int .u16 5] 99)).heap.size:=by simp
 rw[hz] at hs
 refine Calls.mono (encodeK_any 1 rfl 0 0 2 2 1 headOkB 0 (some ⟨w.heap.size,0,none⟩) 1 1 0 none 0 0 0 false 0 0 none 0 0 bodyB (by decide) (by decide) (w.alloc (.cells #[.int .u32 167772162,.int .u32 167772162,.int .u8 2,.int .u16 5] 99)) (fun W hW => ?_) (fun W hW=>rsize1 _ _ _ W) (fun W hW => ?_)) ?_
 ·exact rmay1_any 0 [(⟨167772162,167772162,2,5⟩:LinkV)] (some ⟨w.heap.size,0,none⟩) 1 none 0 none 0 W (by decide) _ (hs.below hW) hW.size
 ·exact rlay1_any 0 [(⟨167772162,167772162,2,5⟩:LinkV)] (by decide) (fun x hx=>by rw[List.mem_singleton.1 hx];exact ⟨by decide,by decide,by decide,by decide⟩) _ (some ⟨w.heap.size,0,none⟩) 1 none 0 none 0 W (hs.below hW) hW.size
 ·rintro x w' ⟨v,r,rfl,hr,ho,hb⟩
  obtain rfl:=sealB_ r hr
  exact ⟨v,rfl,ho,hb⟩
theorem encN_any (w:World):Calls Tryz.prog 66 #[.agg #[.int .u16 0,.int .u8 0,.int .u8 2,.int .u32 167772162,.int .u32 2,.int .i32 1,.int .u16 0,.int .u16 0],.agg #[.int .u8 0,.slice none 0 0,.int .u32 4294967040,.slice (some ⟨w.heap.size,0,none⟩) 2 2,.int .u32 0,.bool false,.int .u32 0,.int .u32 0,.slice none 0 0]] (w.alloc (.cells #[.int .u32 2,.int .u32 1] 23)) fun x w'=>∃ v,x=.returned (.tuple #[stateVal ⟨0,0,2,167772162,2,1,41258,32⟩ v,.int .i64 0])∧w'.ownsRow (w.alloc (.cells #[.int .u32 2,.int .u32 1] 23)).heap.size 5 1 v 12 (bodyN.map u8c)∧Below (w.alloc (.cells #[.int .u32 2,.int .u32 1] 23)).heap.size (w.alloc (.cells #[.int .u32 2,.int .u32 1] 23)) w':=by
 have hs:Sl (w.alloc (.cells #[.int .u32 2,.int .u32 1] 23)) (w.heap.size+1) 1 (.slice (some ⟨w.heap.size,0,none⟩) 2 2) 2 (([2,1]:List Int).map u32c):=Sl.lit w #[.int .u32 2,.int .u32 1] 23 (by simp[maxLen]) rfl
 have hz:w.heap.size+1=(w.alloc (.cells #[.int .u32 2,.int .u32 1] 23)).heap.size:=by simp
 rw[hz] at hs
 refine Calls.mono (encodeK_any 2 rfl 0 0 167772162 2 1 headOkN 0 none 0 0 4294967040 (some ⟨w.heap.size,0,none⟩) 2 2 0 false 0 0 none 0 0 bodyN (by decide) (by decide) (w.alloc (.cells #[.int .u32 2,.int .u32 1] 23)) (fun W hW => ?_) (fun W hW=>rsize2 _ _ _ W) (fun W hW => ?_)) ?_
 ·have h:=rmay2_any 4294967040 2 none 0 (some ⟨w.heap.size,0,none⟩) 2 none 0 W
  rw[show (bitsB 4294967040 && !decide ((2:Nat)=0))=true by kernel_rfl] at h
  exact h
 ·exact rlay2_any 4294967040 (by decide) [2,1] (by decide) (by decide) _ none 0 (some ⟨w.heap.size,0,none⟩) 2 none 0 W (hs.below hW) hW.size
 ·rintro x w' ⟨v,r,rfl,hr,ho,hb⟩
  obtain rfl:=sealN r hr
  exact ⟨v,rfl,ho,hb⟩
set_option maxRecDepth 100000
set_option maxHeartbeats 2000000 in
theorem two16_any (w:World):Calls Tryz.prog 31 #[] w fun e w'=>∃ v ls,e=.returned v∧StatesIn w' w'.heap.size v S3 ls∧ls.length=3∧Below w.heap.size w w':=by
 have C1:=h'd (encA_any w)
 dsimp only[stateVal] at C1
 go_enter Tryz.func31,Tryz.ntmps31
 go_upto_region 2 with (go_at_call 66;refine Calls.mono C1.out ?_;rintro x w1 ⟨v1,rfl,ho1,hB1⟩;obtain ⟨-,A1,c1,rfl,-⟩:=id (Sl.of_own ho1);dsimp only[stateVal])
 have hB1:=((Below.refl _ w).alloc (Nat.le_refl _) _).trans (hB1.mono (by simp))
 have hz1:=hB1.size
 have hA:=(Sl.of_own ho1)
 have k1:=Blk.new w1 71 #[.int .u16 0,.int .u8 0,.int .u8 1,.int .u32 1,.int .u32 1,.int .i32 1,.int .u16 22881,.int .u16 36,.slice A1 16 c1]
 have kb1:Below w1.heap.size w1 (w1.alloc (.cells #[.int .u16 0,.int .u8 0,.int .u8 1,.int .u32 1,.int .u32 1,.int .i32 1,.int .u16 22881,.int .u16 36,.slice A1 16 c1] 71)):=(Below.refl _ _).alloc (Nat.le_refl _) _
 generalize w1.alloc (.cells #[.int .u16 0,.int .u8 0,.int .u8 1,.int .u32 1,.int .u32 1,.int .i32 1,.int .u16 22881,.int .u16 36,.slice A1 16 c1] 71)=w2 at k1 kb1 ⊢
 obtain ⟨g1,hg1⟩:∃ x,x=w1.heap.size:=⟨_,rfl⟩
 rw[←hg1] at k1 ⊢
 have hA:=(hA.below kb1).more kb1.size
 have hB2:=hB1.trans (kb1.mono hz1)
 clear hg1 C1 ho1 hB1 kb1
 have C2:=h'd (encB_any w2)
 dsimp only[stateVal] at C2
 go_upto_region 3 with (go_at_call 66;refine Calls.mono C2.out ?_;rintro x w3 ⟨v2,rfl,ho2,hB3⟩;obtain ⟨-,A2,c2,rfl,-⟩:=id (Sl.of_own ho2);dsimp only[stateVal])
 have hb3:=((Below.refl _ w2).alloc (Nat.le_refl _) _).trans (hB3.mono (by simp))
 have hS2:=(Sl.of_own ho2)
 have k2:=Blk.new w3 71 #[.int .u16 0,.int .u8 0,.int .u8 1,.int .u32 2,.int .u32 2,.int .i32 1,.int .u16 31546,.int .u16 36,.slice A2 16 c2]
 have kb3:Below w3.heap.size w3 (w3.alloc (.cells #[.int .u16 0,.int .u8 0,.int .u8 1,.int .u32 2,.int .u32 2,.int .i32 1,.int .u16 31546,.int .u16 36,.slice A2 16 c2] 71)):=(Below.refl _ _).alloc (Nat.le_refl _) _
 generalize w3.alloc (.cells #[.int .u16 0,.int .u8 0,.int .u8 1,.int .u32 2,.int .u32 2,.int .i32 1,.int .u16 31546,.int .u16 36,.slice A2 16 c2] 71)=w4 at k2 kb3 ⊢
 obtain ⟨g2,hg2⟩:∃ x,x=w3.heap.size:=⟨_,rfl⟩
 rw[←hg2] at k2 ⊢
 have hb4:=hb3.trans (kb3.mono hb3.size)
 have hS2:=(hS2.below kb3).more kb3.size
 have hA:=(hA.below hb4).more hb4.size
 have k1:=k1.below hb4 k1.lt
 have hB4:=hB2.trans (hb4.mono hB2.size)
 clear hg2 C2 ho2 hB3 hb3 kb3 hb4 hB2 hz1
 have C3:=h'd (encN_any w4)
 dsimp only[stateVal] at C3
 go_upto_region 4 with (go_at_call 66;refine Calls.mono C3.out ?_;rintro x w5 ⟨v3,rfl,ho3,hB5⟩;obtain ⟨-,A3,c3,rfl,-⟩:=id (Sl.of_own ho3);dsimp only[stateVal])
 have hb5:=((Below.refl _ w4).alloc (Nat.le_refl _) _).trans (hB5.mono (by simp))
 have hS3:=(Sl.of_own ho3)
 have k3:=Blk.new w5 71 #[.int .u16 0,.int .u8 0,.int .u8 2,.int .u32 167772162,.int .u32 2,.int .i32 1,.int .u16 41258,.int .u16 32,.slice A3 12 c3]
 have kb5:Below w5.heap.size w5 (w5.alloc (.cells #[.int .u16 0,.int .u8 0,.int .u8 2,.int .u32 167772162,.int .u32 2,.int .i32 1,.int .u16 41258,.int .u16 32,.slice A3 12 c3] 71)):=(Below.refl _ _).alloc (Nat.le_refl _) _
 generalize w5.alloc (.cells #[.int .u16 0,.int .u8 0,.int .u8 2,.int .u32 167772162,.int .u32 2,.int .i32 1,.int .u16 41258,.int .u16 32,.slice A3 12 c3] 71)=w6 at k3 kb5 ⊢
 obtain ⟨g3,hg3⟩:∃ x,x=w5.heap.size:=⟨_,rfl⟩
 rw[←hg3] at k3 ⊢
 have hb6:=hb5.trans (kb5.mono hb5.size)
 have hS3:=(hS3.below kb5).more kb5.size
 have hS2:=(hS2.below hb6).more hb6.size
 have hA:=(hA.below hb6).more hb6.size
 have k1:=k1.below hb6 k1.lt
 have k2:=k2.below hb6 k2.lt
 have hB6:=hB4.trans (hb6.mono hB4.size)
 clear hg3 C3 ho3 hB5 hb5 kb5 hb6 hB4
 go_wp2_with (first
  | (refine wpList_load_row rfl 71 (.tmp 5) rfl g3 rfl 71 #[.int .u16 0,.int .u8 0,.int .u8 2,.int .u32 167772162,.int .u32 2,.int .i32 1,.int .u16 41258,.int .u16 32,.slice A3 12 c3] (0,0) _ k3 Tryz.underlying71 rfl (by kernel_rfl) ?_)
  | (refine wpList_load_row rfl 71 (.tmp 3) rfl g2 rfl 71 #[.int .u16 0,.int .u8 0,.int .u8 1,.int .u32 2,.int .u32 2,.int .i32 1,.int .u16 31546,.int .u16 36,.slice A2 16 c2] (0,0) _ k2 Tryz.underlying71 rfl (by kernel_rfl) ?_)
  | (refine wpList_load_row rfl 71 (.tmp 1) rfl g1 rfl 71 #[.int .u16 0,.int .u8 0,.int .u8 1,.int .u32 1,.int .u32 1,.int .i32 1,.int .u16 22881,.int .u16 36,.slice A1 16 c1] (0,0) _ k1 Tryz.underlying71 rfl (by kernel_rfl) ?_)
  | fail)
 go_ret
 have hl:=Sl.lit (n:=3) (s:=9) w6 #[.int .u16 0,.int .u8 0,.int .u8 2,.int .u32 167772162,.int .u32 2,.int .i32 1,.int .u16 41258,.int .u16 32,.slice A3 12 c3,.int .u16 0,.int .u8 0,.int .u8 1,.int .u32 2,.int .u32 2,.int .i32 1,.int .u16 31546,.int .u16 36,.slice A2 16 c2,.int .u16 0,.int .u8 0,.int .u8 1,.int .u32 1,.int .u32 1,.int .i32 1,.int .u16 22881,.int .u16 36,.slice A1 16 c1] 71 (by simp[maxLen]) rfl
 have hbz:Below w6.heap.size w6 (w6.alloc (.cells #[.int .u16 0,.int .u8 0,.int .u8 2,.int .u32 167772162,.int .u32 2,.int .i32 1,.int .u16 41258,.int .u16 32,.slice A3 12 c3,.int .u16 0,.int .u8 0,.int .u8 1,.int .u32 2,.int .u32 2,.int .i32 1,.int .u16 31546,.int .u16 36,.slice A2 16 c2,.int .u16 0,.int .u8 0,.int .u8 1,.int .u32 1,.int .u32 1,.int .i32 1,.int .u16 22881,.int .u16 36,.slice A1 16 c1] 71)):=(Below.refl _ _).alloc (Nat.le_refl _) _
 have hsz:(w6.alloc (.cells #[.int .u16 0,.int .u8 0,.int .u8 2,.int .u32 167772162,.int .u32 2,.int .i32 1,.int .u16 41258,.int .u16 32,.slice A3 12 c3,.int .u16 0,.int .u8 0,.int .u8 1,.int .u32 2,.int .u32 2,.int .i32 1,.int .u16 31546,.int .u16 36,.slice A2 16 c2,.int .u16 0,.int .u8 0,.int .u8 1,.int .u32 1,.int .u32 1,.int .i32 1,.int .u16 22881,.int .u16 36,.slice A1 16 c1] 71)).heap.size=w6.heap.size+1:=by simp
 refine ⟨_,[⟨headN,A3,12,c3⟩,⟨headB_,A2,16,c2⟩,⟨headA,A1,16,c1⟩],rfl,⟨by rw[hsz];exact hl,rfl,fun k h1 h2 => ?_⟩,rfl,hB6.trans (hbz.mono hB6.size)⟩
 have h3:k=0∨k=1∨k=2:=by simp at h1;omega
 rcases h3 with rfl | rfl | rfl
 ·exact (hS3.below hbz).more hbz.size
 ·exact (hS2.below hbz).more hbz.size
 ·exact (hA.below hbz).more hbz.size
set_option maxRecDepth 100000
theorem GrO.call {w w':World} {base:Nat} {nv:Value} {rows:List NodR} (h:GrO w base nv rows) (hb:Below w.heap.size w w'):GrO w' base nv rows:=⟨own_below h.nods hb,fun r hr=>own_below (h.edges r hr) hb,fun r hr=>own_below (h.stubs r hr) hb⟩
def isN_ (net:Bool) (id:Int) (r:NodR):Bool:=r.n.network==net && r.n.id==id
theorem findF_any (r:NodR) (net:Bool) (id:Int) (p q:Nat) (w:World) (hp:w.cell? ⟨p,0,none⟩=some (.bool net)) (hq:w.cell? ⟨q,0,none⟩=some (.int .u32 id)) (hpl:p<w.heap.size) (hql:q<w.heap.size) :
  Calls Tryz.prog 47 #[.agg (nodC r).toArray,.pointer (some ⟨p,0,none⟩),.pointer (some ⟨q,0,none⟩)] w fun e w'=>e=.returned (.bool (isN_ net id r))∧Below w.heap.size w w':=by
 obtain ⟨⟨x0,x1,x2,x3,x4,x5,x6⟩,ev,sv⟩:=r
 dsimp only[nodC,isN_]
 have hB:Below w.heap.size w (w.alloc (.cells #[.bool x0,.int .u32 x1,.int .u32 x2,.int .u8 x3,.int .u8 x4,ev,sv] 63)):=(Below.refl _ _).alloc (Nat.le_refl _) _
 have k0:=Blk.new w 63 #[.bool x0,.int .u32 x1,.int .u32 x2,.int .u8 x3,.int .u8 x4,ev,sv]
 have hp1:=(hB.cell (p:=⟨p,0,none⟩) hpl).trans hp
 have hq1:=(hB.cell (p:=⟨q,0,none⟩) hql).trans hq
 have c0:=k0.cell 0
 have c1:=k0.cell 1
 simp only[q'a,q'z,q's] at c0 c1
 cases e1:(x0==net) <;> cases e2:(x1==id)
 all_goals
  go_enter Tryz.func47,Tryz.ntmps47
  go_upto_region 1 with fail
  generalize w.alloc (.cells #[.bool x0,.int .u32 x1,.int .u32 x2,.int .u8 x3,.int .u8 x4,ev,sv] 63)=w1 at *
  go_wp2
  go_ret
  exact ⟨rfl,hB⟩
theorem gfind_any (net:Bool) (id:Int) (base:Nat) (nv:Value) (rows:List NodR) (w:World) (h:GrO w base nv rows) (hn:rows.length≤1000000) :
  Calls Tryz.prog 15 #[nv,.bool net,.int .u32 id] w fun e w'=>e=.returned (.int .i64 (idxI (rows.findIdx? (isN_ net id))))∧Below w.heap.size w w':=by
 obtain ⟨w1,hw1⟩:∃ w1,w1=(w.alloc (.cells #[.bool net] 4)).alloc (.cells #[.int .u32 id] 23):=⟨_,rfl⟩
 have k0:Blk w1 w.heap.size 4 #[.bool net]:=by rw[hw1];exact (Blk.new _ _ _).alloc _
 have k1:Blk w1 (w.heap.size+1) 23 #[.int .u32 id]:=by rw[hw1];exact Blk.new_ _ (by simp)
 have kB:Below w.heap.size w w1:=by rw[hw1];exact ((Below.refl _ _).alloc (Nat.le_refl _) _).alloc (by simp) _
 have c0:=k0.cell 0
 have c1:=k1.cell 0
 simp only[q'a,q'z] at c0 c1
 have C:=idxNode_any nodC nodC_len (isN_ net id) 47 (.pointer (some ⟨w.heap.size,0,none⟩)) (.pointer (some ⟨w.heap.size+1,0,none⟩)) rows nv w1.heap.size w1 (Sl.of_own (own_below h.nods kB)) (Nat.le_refl _) hn (enters_of Tryz.func47 (by kernel_rfl) rfl)
  (fun x _ W hW=>findF_any x net id _ _ W ((hW.cell (p:=⟨w.heap.size,0,none⟩) k0.lt).trans c0) ((hW.cell (p:=⟨w.heap.size+1,0,none⟩) k1.lt).trans c1) (Nat.lt_of_lt_of_le k0.lt hW.size) (Nat.lt_of_lt_of_le k1.lt hW.size))
 replace C:=h'd C
 clear k0 k1 c0 c1
 go_enter Tryz.func15,Tryz.ntmps15
 go_upto_region 1 with fail
 rw[←hw1]
 clear hw1
 go_wp2_with (go_at_call 46;refine Calls.mono C.out ?_;rintro e w2 ⟨rfl,hB2⟩)
 go_ret
 exact ⟨rfl,kB.trans (hB2.mono kB.size)⟩
set_option maxHeartbeats 4000000 in
theorem works16_any (w:World):Calls Tryz.prog 10 #[] w fun e w'=>e=.returned (.bool true)∧Below w.heap.size w w':=by
 have CT:=h'd (two16_any w)
 have hok:∀ s∈S3,StOk s:=by
  intro s hs
  simp only[S3,List.mem_cons,List.not_mem_nil,or_false] at hs
  rcases hs with rfl | rfl | rfl
  all_goals exact ⟨⟨by decide,by decide,by decide,by decide,by decide,by decide,by decide,by decide⟩,by decide,by decide⟩
 go_enter Tryz.func10,Tryz.ntmps10
 go_upto_region 2 with (first
  | (go_at_call 31;refine Calls.mono CT.out ?_;rintro e w1 ⟨v,ls,rfl,hS,hl3,hB1⟩)
  | (go_at_call 12;refine Calls.mono (build_any _ v S3 ls w1 hS (Nat.le_refl _) hok (by omega)) ?_;rintro e w2 ⟨nv,rows,rfl,hG,hgr,hB2⟩))
 rw[graph3] at hgr
 have hr3:rows.length=3:=by have:=congrArg List.length hgr;simpa[G3] using this
 obtain ⟨r0,r1,r2,rfl⟩:∃ a b c,rows=[a,b,c]:=by
  match rows,hr3 with
  | [a,b,c],_=>exact ⟨a,b,c,rfl⟩
 simp only[List.map_cons,List.map_nil,G3,List.cons.injEq,and_true] at hgr
 obtain ⟨h0,h1,h2⟩:=hgr
 have CF1:=fun W (hW:Below w2.heap.size w2 W)=>gfind_any true 167772162 _ nv _ W (hG.call hW) (by simp)
 have CF2:=fun W (hW:Below w2.heap.size w2 W)=>gfind_any false 9 _ nv _ W (hG.call hW) (by simp)
 have f1:idxI ([r0,r1,r2].findIdx? (isN_ true 167772162))=2:=by simp[List.findIdx?_cons,isN_,h0,h1,h2,idxI]
 have f2:idxI ([r0,r1,r2].findIdx? (isN_ false 9)) = -1:=by simp[List.findIdx?_cons,isN_,h0,h1,h2,idxI]
 rw[f1] at CF1
 rw[f2] at CF2
 have hE0:=hG.edges r0 (by simp)
 have hE2:=hG.edges r2 (by simp)
 have hN:=hG.nods
 obtain ⟨n0,ev0,sv0⟩:=r0
 obtain ⟨n1,ev1,sv1⟩:=r1
 obtain ⟨n2,ev2,sv2⟩:=r2
 simp only at h0 h1 h2
 subst h0 h1 h2
 simp only[List.length_cons,List.length_nil,Nat.zero_add,Nat.reduceAdd] at hE0 hE2 hN
 obtain ⟨-,eA,ec,rfl,-⟩:=id (Sl.of_own hE0)
 obtain ⟨-,fA,fc,rfl,-⟩:=id (Sl.of_own hE2)
 obtain ⟨-,nA,nc,rfl,-⟩:=id (Sl.of_own hN)
 have s0:=Sl.of_own hN
 obtain ⟨b,off,rfl,hb,hr0⟩:=Sl.row nodC_len s0 (k:=0) (by simp)
 obtain ⟨b',off',he,hb2,hr2⟩:=Sl.row nodC_len s0 (k:=2) (by simp)
 simp only[Option.some.injEq,Addr.mk.injEq,and_true] at he
 obtain ⟨rfl,rfl⟩:=he
 obtain ⟨eb,eo,rfl,heb,her⟩:=Sl.row (f:=edgeC) (fun _=>rfl) (Sl.of_own hE0) (k:=0) (by simp)
 have x1:w2.cell? ⟨b,off+1,none⟩=some (.int .u32 1):=by have:=hr0 1 _ rfl;simpa using this
 have x5:w2.cell? ⟨b,off+5,none⟩=some (.slice (some ⟨eb,eo,none⟩) 1 ec):=by have:=hr0 5 _ rfl;simpa using this
 have z0:w2.cell? ⟨b,off+14,none⟩=some (.bool true):=by have:=hr2 0 _ rfl;simpa using this
 have z5:w2.cell? ⟨b,off+14+5,none⟩=some (.slice fA 2 fc):=by have:=hr2 5 _ rfl;simpa using this
 have y0:w2.cell? ⟨eb,eo,none⟩=some (.int .i64 2):=by have:=her 0 _ rfl;simpa using this
 replace CF1:=h'd CF1
 replace CF2:=h'd CF2
 clear hr0 hr2 her hE0 hE2 hN s0 hG f1 f2 hb2
 go_wp2_with (first
  | (go_at_call 15;refine Calls.mono (CF1.out _ (Below.refl _ _)) ?_;rintro e w3 ⟨rfl,hB3⟩)
  | (go_at_call 15;refine Calls.mono (CF2.out _ hB3) ?_;rintro e w4 ⟨rfl,hB4⟩)
  | fail)
 go_ret
 have h3:=hB3.trans (hB4.mono hB3.size)
 have h2:=hB2.trans (h3.mono hB2.size)
 exact ⟨rfl,hB1.trans (h2.mono hB1.size)⟩
end Go.Proofs.YtcknpofnpabkiaaGreat
