/- Layer 18's ring: two routers that point at each other, and a stub: what it says, in plain words; each is encoded. No condition. -/
import Derived.Test.YtcknpofnpabkiaaGreatRpBM
import Derived.Test.YtcknpofnpabkiaaGreatRpBN
set_option maxRecDepth 100000
namespace Go.Proofs.YtcknpofnpabkiaaGreat
open Go.RowKit Go.Lo
def bodyR1:List Int:=[0,0,0,1,0,0,0,2,10,0,0,1,1,0,0,3]
def bodyR2:List Int:=[3,0,0,2,0,0,0,1,10,0,0,2,1,0,0,5,10,1,0,0,255,255,0,0,3,0,0,4]
abbrev headR1:OHead:=⟨0,0,1,1,1,1,1217,36⟩
abbrev headR2:OHead:=⟨0,0,1,2,2,1,57279,48⟩
theorem sealR1 (r:Int) (h:sealR ⟨0,0,((1:Nat):Int),1,1,1,0,0⟩ bodyR1 r):r=1217:=by
 unfold sealR at h
 have e1:sumsTo (sealB ⟨0,0,((1:Nat):Int),1,1,1,0,0⟩ bodyR1) 14 (sealB ⟨0,0,((1:Nat):Int),1,1,1,0,0⟩ bodyR1).length=(58,78):=by decide
 have e2:((((sealB ⟨0,0,((1:Nat):Int),1,1,1,0,0⟩ bodyR1).length:Int)-14)%255)=20:=by decide
 rw[e1,e2] at h
 rcases h with ⟨x,y,h1,h2,h3,h4,⟨h5,h6⟩,rfl⟩ | ⟨-,hno⟩
 ·simp only at h5 h6
  omega
 ·exact absurd (show hitP (58,78) 20 4 193 from ⟨by decide,by decide⟩) (hno 4 193 (by decide) (by decide) (by decide) (by decide))
theorem sealR2 (r:Int) (h:sealR ⟨0,0,((1:Nat):Int),2,2,1,0,0⟩ bodyR2 r):r=57279:=by
 unfold sealR at h
 have e1:sumsTo (sealB ⟨0,0,((1:Nat):Int),2,2,1,0,0⟩ bodyR2) 14 (sealB ⟨0,0,((1:Nat):Int),2,2,1,0,0⟩ bodyR2).length=(96,203):=by decide
 have e2:((((sealB ⟨0,0,((1:Nat):Int),2,2,1,0,0⟩ bodyR2).length:Int)-14)%255)=32:=by decide
 rw[e1,e2] at h
 rcases h with ⟨x,y,h1,h2,h3,h4,⟨h5,h6⟩,rfl⟩ | ⟨-,hno⟩
 ·simp only at h5 h6
  omega
 ·exact absurd (show hitP (96,203) 32 223 191 from ⟨by decide,by decide⟩) (hno 223 191 (by decide) (by decide) (by decide) (by decide))
def S2:List StG:=[(headR1,bodyR1),(headR2,bodyR2)]
theorem wholeR1:wholeB ((headB headR1++bodyR1).drop 2)=true:=by
 unfold wholeB
 rw[addP_sh _ _ (by decide) (by decide)]
 decide
theorem wholeR2:wholeB ((headB headR2++bodyR2).drop 2)=true:=by
 unfold wholeB
 rw[addP_sh _ _ (by decide) (by decide)]
 decide
theorem isR1:isG (headR1,bodyR1)=true:=by
 unfold isG countsP freshP chkP
 rw[wholeR1]
 decide
theorem isR2:isG (headR2,bodyR2)=true:=by
 unfold isG countsP freshP chkP
 rw[wholeR2]
 decide
theorem nodes2:nodesG S2=S2:=by
 show (if isG (headR2,bodyR2) then insN (if isG (headR1,bodyR1) then insN [] (headR1,bodyR1) else []) (headR2,bodyR2) else _)=_
 rw[isR1,isR2]
 rfl
def G2:List NodG:=[⟨false,1,0,0,0,[⟨1,3,167772161,false⟩],[]⟩,⟨false,2,0,0,3,[⟨0,5,167772162,false⟩],[(167837696,16,4)]⟩]
theorem graph2:graphG (nodesG S2)=G2:=by
 rw[nodes2]
 kernel_rfl
def hop2:Hop:=(167772161,2,false)
def net2:WayG:=(⟨167837696,16,0,0,1,7,7,0,0⟩,[hop2])
def rou2:WayG:=(⟨0,0,2,3,1,7,3,0,0⟩,[hop2])
theorem es2 {i:Nat} {e:GEdge} (he:e∈esOf (gnsOf G2) i):(i=0∧e=⟨1,3,167772161,false⟩)∨(i=1∧e=⟨0,5,167772162,false⟩):=by
 match i,he with
 | 0,he=>exact .inl ⟨rfl,by simpa[esOf,gnsOf,G2,gnOf] using he⟩
 | 1,he=>exact .inr ⟨rfl,by simpa[esOf,gnsOf,G2,gnOf] using he⟩
 | _+2,he=>exact absurd he (by simp[esOf,gnsOf,G2])
theorem ok2:okG (gnsOf G2):=by
 intro n hn e he
 simp only[gnsOf,G2,List.map_cons,List.map_nil,gnOf,List.mem_cons,List.not_mem_nil,or_false] at hn
 rcases hn with rfl | rfl
 ·simp only[List.mem_cons,List.not_mem_nil,or_false] at he
  subst he;exact ⟨by decide,by decide⟩
 ·simp only[List.mem_cons,List.not_mem_nil,or_false] at he
  subst he;exact ⟨by decide,by decide⟩
theorem way2 {i:Nat} {x:Int} (h:Go.Lo.Way (gnsOf G2) 0 i x) (hi:i=1):3≤x:=by
 cases h with
 | here=>cases hi
 | @on i' j x' e hw he hto hj =>
  subst hi
  have h0:=hw.nonneg ok2
  rcases es2 he with ⟨rfl,rfl⟩ | ⟨rfl,rfl⟩
  ·simp only;omega
  ·simp only at hto;omega
theorem hopsOf2 {c:List Int} {i:Nat} {h:Hop} (hh:HopOf (gnsOf G2) 0 c i h) (hi:i=1):h=hop2:=by
 cases hh with
 | @first e he ht =>
  rcases es2 he with ⟨-,rfl⟩ | ⟨h0,-⟩
  ·rfl
  ·cases h0
 | @on i' e y hy hir he ht =>
  rcases es2 he with ⟨rfl,rfl⟩ | ⟨rfl,rfl⟩
  ·exact absurd rfl hir
  ·cases hi
theorem ring_is {n r:List WayG} (h:InnerP S2 7 1 n r):n=[net2]∧r=[rou2]:=by
 unfold InnerP at h
 rw[graph2] at h
 have e:G2.findIdx? (fun x=>x.network==false && x.id==1)=some 0:=by decide
 rw[e] at h
 obtain ⟨c,H,hC,hH,hn,hr⟩:=h
 have hcl:c.length=2:=hC.len
 have hHl:H.length=2:=hH.len
 obtain ⟨c0,c1,rfl⟩:∃ a b,c=[a,b]:=by
  match c,hcl with
  | [a,b],_=>exact ⟨a,b,rfl⟩
 obtain ⟨H0,H1,rfl⟩:∃ a b,H=[a,b]:=by
  match H,hHl with
  | [a,b],_=>exact ⟨a,b,rfl⟩
 have h0:c0=0:=hC.root0
 subst h0
 have hle:c1≤3:=by
  have:=hC.slack 0 (by simp) (by show (0:Int)<far;decide) ⟨1,3,167772161,false⟩ (by simp[esOf,gnsOf,G2,gnOf]) 1 rfl (by simp)
  have e1:at_ [0,c1] 1=c1:=rfl
  have e0:at_ [0,c1] 0=0:=rfl
  rw[e1,e0] at this
  simp only at this
  omega
 have hge:3≤c1:=way2 (hC.way 1 (by simp) (by show c1<far;unfold far;omega)) rfl
 obtain rfl:c1=3:=by omega
 have r0:H0=[]:=hH.root_
 have r1:H1=[hop2]:=by
  have hs:Sorted H1:=hH.sorted 1
  refine hs.ext (List.pairwise_singleton _ _) fun x=>⟨fun hx => ?_,fun hx => ?_⟩
  ·rw[hopsOf2 ((hH.mem 1 x).1 hx) rfl];simp
  ·rw[List.mem_singleton.1 hx]
   refine (hH.mem 1 hop2).2 ?_
   exact HopOf.first (g:=gnsOf G2) (root:=0) (c:=[0,3]) (e:=⟨1,3,167772161,false⟩) (by simp[esOf,gnsOf,G2,gnOf]) ⟨by decide,by decide,by decide,by decide,by decide⟩
 subst r0 r1
 have en:netsTo 7 G2 [0,3] [[],[hop2]] G2.length=[net2]:=by kernel_rfl
 have er:routersTo 7 1 G2 [0,3] [[],[hop2]] G2.length=[rou2]:=by kernel_rfl
 rw[en] at hn
 rw[er] at hr
 exact ⟨hn.uniq (outOf_one _),hr.uniq (outOf_one _)⟩
theorem rsizeR (A:Option Addr) (c:Nat) (m:Int) (w:World):Calls Tryz.prog 107 #[.int .u8 1,.agg #[.int .u8 3,.slice A 2 c,.int .u32 m,.slice none 0 0,.int .u32 0,.bool false,.int .u32 0,.int .u32 0,.slice none 0 0]] w fun x w'=>x=.returned (.int .i64 28)∧Below w.heap.size w w':=by
 have hB:Below w.heap.size w (w.alloc (.cells #[.int .u8 3,.slice A 2 c,.int .u32 m,.slice none 0 0,.int .u32 0,.bool false,.int .u32 0,.int .u32 0,.slice none 0 0] 81)):=(b'r _ _).alloc (n'r _) _
 go_enter Tryz.func107,Tryz.ntmps107
 go_wp2
 go_ret
 exact ⟨rfl,hB⟩
theorem encR1_any (w:World):Calls Tryz.prog 66 #[.agg #[.int .u16 0,.int .u8 0,.int .u8 1,.int .u32 1,.int .u32 1,.int .i32 1,.int .u16 0,.int .u16 0],.agg #[.int .u8 0,.slice (some ⟨w.heap.size,0,none⟩) 1 1,.int .u32 0,.slice none 0 0,.int .u32 0,.bool false,.int .u32 0,.int .u32 0,.slice none 0 0]] (w.alloc (.cells #[.int .u32 2,.int .u32 167772161,.int .u8 1,.int .u16 3] 99)) fun x w'=>∃ v,x=.returned (.tuple #[stateVal ⟨0,0,1,1,1,1,1217,36⟩ v,.int .i64 0])∧w'.ownsRow (w.alloc (.cells #[.int .u32 2,.int .u32 167772161,.int .u8 1,.int .u16 3] 99)).heap.size 5 1 v 16 (bodyR1.map u8c)∧Below (w.alloc (.cells #[.int .u32 2,.int .u32 167772161,.int .u8 1,.int .u16 3] 99)).heap.size (w.alloc (.cells #[.int .u32 2,.int .u32 167772161,.int .u8 1,.int .u16 3] 99)) w':=by
 have hs:Sl (w.alloc (.cells #[.int .u32 2,.int .u32 167772161,.int .u8 1,.int .u16 3] 99)) (w.heap.size+1) 4 (.slice (some ⟨w.heap.size,0,none⟩) 1 1) 1 ([(⟨2,167772161,1,3⟩:LinkV)].flatMap linkC):=Sl.lit w #[.int .u32 2,.int .u32 167772161,.int .u8 1,.int .u16 3] 99 (by simp[maxLen]) rfl
 have hz:w.heap.size+1=(w.alloc (.cells #[.int .u32 2,.int .u32 167772161,.int .u8 1,.int .u16 3] 99)).heap.size:=by simp
 rw[hz] at hs
 refine c'm (encodeK_any 1 rfl 0 0 1 1 1 headOkA 0 (some ⟨w.heap.size,0,none⟩) 1 1 0 none 0 0 0 false 0 0 none 0 0 bodyR1 (by decide) (by decide) (w.alloc (.cells #[.int .u32 2,.int .u32 167772161,.int .u8 1,.int .u16 3] 99)) (fun W hW => ?_) (fun W hW=>rsize1 _ _ _ W) (fun W hW => ?_)) ?_
 ·exact rmay1_any 0 [(⟨2,167772161,1,3⟩:LinkV)] (some ⟨w.heap.size,0,none⟩) 1 none 0 none 0 W (by decide) _ (hs.below hW) hW.size
 ·exact rlay1_any 0 [(⟨2,167772161,1,3⟩:LinkV)] (by decide) (fun x hx=>by rw[List.mem_singleton.1 hx];exact ⟨by decide,by decide,by decide,by decide⟩) _ (some ⟨w.heap.size,0,none⟩) 1 none 0 none 0 W (hs.below hW) hW.size
 ·rintro x w' ⟨v,r,rfl,hr,ho,hb⟩
  obtain rfl:=sealR1 r hr
  exact ⟨v,rfl,ho,hb⟩
theorem encR2_any (w:World):Calls Tryz.prog 66 #[.agg #[.int .u16 0,.int .u8 0,.int .u8 1,.int .u32 2,.int .u32 2,.int .i32 1,.int .u16 0,.int .u16 0],.agg #[.int .u8 3,.slice (some ⟨w.heap.size,0,none⟩) 2 2,.int .u32 0,.slice none 0 0,.int .u32 0,.bool false,.int .u32 0,.int .u32 0,.slice none 0 0]] (w.alloc (.cells #[.int .u32 1,.int .u32 167772162,.int .u8 1,.int .u16 5,.int .u32 167837696,.int .u32 4294901760,.int .u8 3,.int .u16 4] 99)) fun x w'=>∃ v,x=.returned (.tuple #[stateVal ⟨0,0,1,2,2,1,57279,48⟩ v,.int .i64 0])∧w'.ownsRow (w.alloc (.cells #[.int .u32 1,.int .u32 167772162,.int .u8 1,.int .u16 5,.int .u32 167837696,.int .u32 4294901760,.int .u8 3,.int .u16 4] 99)).heap.size 5 1 v 28 (bodyR2.map u8c)∧Below (w.alloc (.cells #[.int .u32 1,.int .u32 167772162,.int .u8 1,.int .u16 5,.int .u32 167837696,.int .u32 4294901760,.int .u8 3,.int .u16 4] 99)).heap.size (w.alloc (.cells #[.int .u32 1,.int .u32 167772162,.int .u8 1,.int .u16 5,.int .u32 167837696,.int .u32 4294901760,.int .u8 3,.int .u16 4] 99)) w':=by
 have hs:Sl (w.alloc (.cells #[.int .u32 1,.int .u32 167772162,.int .u8 1,.int .u16 5,.int .u32 167837696,.int .u32 4294901760,.int .u8 3,.int .u16 4] 99)) (w.heap.size+1) 4 (.slice (some ⟨w.heap.size,0,none⟩) 2 2) 2 ([(⟨1,167772162,1,5⟩:LinkV),(⟨167837696,4294901760,3,4⟩:LinkV)].flatMap linkC):=Sl.lit w #[.int .u32 1,.int .u32 167772162,.int .u8 1,.int .u16 5,.int .u32 167837696,.int .u32 4294901760,.int .u8 3,.int .u16 4] 99 (by simp[maxLen]) rfl
 have hz:w.heap.size+1=(w.alloc (.cells #[.int .u32 1,.int .u32 167772162,.int .u8 1,.int .u16 5,.int .u32 167837696,.int .u32 4294901760,.int .u8 3,.int .u16 4] 99)).heap.size:=by simp
 rw[hz] at hs
 refine c'm (encodeK_any 1 rfl 0 0 2 2 1 headOkB 3 (some ⟨w.heap.size,0,none⟩) 2 2 0 none 0 0 0 false 0 0 none 0 0 bodyR2 (by decide) (by decide) (w.alloc (.cells #[.int .u32 1,.int .u32 167772162,.int .u8 1,.int .u16 5,.int .u32 167837696,.int .u32 4294901760,.int .u8 3,.int .u16 4] 99)) (fun W hW => ?_) (fun W hW=>rsizeR _ _ _ W) (fun W hW => ?_)) ?_
 ·exact rmay1_any 3 [(⟨1,167772162,1,5⟩:LinkV),(⟨167837696,4294901760,3,4⟩:LinkV)] (some ⟨w.heap.size,0,none⟩) 2 none 0 none 0 W (by decide) _ (hs.below hW) hW.size
 ·exact rlay1_any 3 [(⟨1,167772162,1,5⟩:LinkV),(⟨167837696,4294901760,3,4⟩:LinkV)] (by decide) (fun x hx=>by simp only[List.mem_cons,List.not_mem_nil,or_false] at hx;rcases hx with rfl | rfl <;> exact ⟨by decide,by decide,by decide,by decide⟩) _ (some ⟨w.heap.size,0,none⟩) 2 none 0 none 0 W (hs.below hW) hW.size
 ·rintro x w' ⟨v,r,rfl,hr,ho,hb⟩
  obtain rfl:=sealR2 r hr
  exact ⟨v,rfl,ho,hb⟩
set_option maxRecDepth 100000
set_option maxHeartbeats 2000000 in
theorem ring18_any (w:World):Calls Tryz.prog 50 #[] w fun e w'=>∃ v ls,e=.returned v∧StatesIn w' w'.heap.size v S2 ls∧ls.length=2∧Below w.heap.size w w':=by
 have C1:=h'd (encR1_any w)
 dsimp only[stateVal] at C1
 go_enter Tryz.func50,Tryz.ntmps50
 go_upto_region 2 with (go_at_call 66;refine c'm C1.out ?_;rintro x w1 ⟨v1,rfl,ho1,hB1⟩;obtain ⟨-,A1,c1,rfl,-⟩:=id (Sl.of_own ho1);dsimp only[stateVal])
 have hB1:=((b'r _ w).alloc (n'r _) _).trans (hB1.mono (by simp))
 have hz1:=hB1.size
 have hA:=(Sl.of_own ho1)
 have k1:=Blk.new w1 71 #[.int .u16 0,.int .u8 0,.int .u8 1,.int .u32 1,.int .u32 1,.int .i32 1,.int .u16 1217,.int .u16 36,.slice A1 16 c1]
 have kb1:Below w1.heap.size w1 (w1.alloc (.cells #[.int .u16 0,.int .u8 0,.int .u8 1,.int .u32 1,.int .u32 1,.int .i32 1,.int .u16 1217,.int .u16 36,.slice A1 16 c1] 71)):=(b'r _ _).alloc (n'r _) _
 generalize w1.alloc (.cells #[.int .u16 0,.int .u8 0,.int .u8 1,.int .u32 1,.int .u32 1,.int .i32 1,.int .u16 1217,.int .u16 36,.slice A1 16 c1] 71)=w2 at k1 kb1 ⊢
 obtain ⟨g1,hg1⟩:∃ x,x=w1.heap.size:=⟨_,rfl⟩
 rw[←hg1] at k1 ⊢
 have hA:=(hA.below kb1).more kb1.size
 have hB2:=hB1.trans (kb1.mono hz1)
 clear hg1 C1 ho1 hB1 kb1
 have C2:=h'd (encR2_any w2)
 dsimp only[stateVal] at C2
 go_upto_region 3 with (go_at_call 66;refine c'm C2.out ?_;rintro x w3 ⟨v2,rfl,ho2,hB3⟩;obtain ⟨-,A2,c2,rfl,-⟩:=id (Sl.of_own ho2);dsimp only[stateVal])
 have hb3:=((b'r _ w2).alloc (n'r _) _).trans (hB3.mono (by simp))
 have hS2:=(Sl.of_own ho2)
 have k2:=Blk.new w3 71 #[.int .u16 0,.int .u8 0,.int .u8 1,.int .u32 2,.int .u32 2,.int .i32 1,.int .u16 57279,.int .u16 48,.slice A2 28 c2]
 have kb3:Below w3.heap.size w3 (w3.alloc (.cells #[.int .u16 0,.int .u8 0,.int .u8 1,.int .u32 2,.int .u32 2,.int .i32 1,.int .u16 57279,.int .u16 48,.slice A2 28 c2] 71)):=(b'r _ _).alloc (n'r _) _
 generalize w3.alloc (.cells #[.int .u16 0,.int .u8 0,.int .u8 1,.int .u32 2,.int .u32 2,.int .i32 1,.int .u16 57279,.int .u16 48,.slice A2 28 c2] 71)=w4 at k2 kb3 ⊢
 obtain ⟨g2,hg2⟩:∃ x,x=w3.heap.size:=⟨_,rfl⟩
 rw[←hg2] at k2 ⊢
 have hb4:=hb3.trans (kb3.mono hb3.size)
 have hS2:=(hS2.below kb3).more kb3.size
 have hA:=(hA.below hb4).more hb4.size
 have k1:=k1.below hb4 k1.lt
 have hB4:=hB2.trans (hb4.mono hB2.size)
 clear hg2 C2 ho2 hB3 hb3 kb3 hb4 hB2 hz1
 go_wp2_with (first
  | (refine wpList_load_row rfl 71 (.tmp 3) rfl g2 rfl 71 #[.int .u16 0,.int .u8 0,.int .u8 1,.int .u32 2,.int .u32 2,.int .i32 1,.int .u16 57279,.int .u16 48,.slice A2 28 c2] (0,0) _ k2 Tryz.underlying71 rfl (by kernel_rfl) ?_)
  | (refine wpList_load_row rfl 71 (.tmp 1) rfl g1 rfl 71 #[.int .u16 0,.int .u8 0,.int .u8 1,.int .u32 1,.int .u32 1,.int .i32 1,.int .u16 1217,.int .u16 36,.slice A1 16 c1] (0,0) _ k1 Tryz.underlying71 rfl (by kernel_rfl) ?_)
  | fail)
 go_ret
 have hl:=Sl.lit (n:=2) (s:=9) w4 #[.int .u16 0,.int .u8 0,.int .u8 1,.int .u32 1,.int .u32 1,.int .i32 1,.int .u16 1217,.int .u16 36,.slice A1 16 c1,.int .u16 0,.int .u8 0,.int .u8 1,.int .u32 2,.int .u32 2,.int .i32 1,.int .u16 57279,.int .u16 48,.slice A2 28 c2] 71 (by simp[maxLen]) rfl
 have hbz:Below w4.heap.size w4 (w4.alloc (.cells #[.int .u16 0,.int .u8 0,.int .u8 1,.int .u32 1,.int .u32 1,.int .i32 1,.int .u16 1217,.int .u16 36,.slice A1 16 c1,.int .u16 0,.int .u8 0,.int .u8 1,.int .u32 2,.int .u32 2,.int .i32 1,.int .u16 57279,.int .u16 48,.slice A2 28 c2] 71)):=(b'r _ _).alloc (n'r _) _
 have hsz:(w4.alloc (.cells #[.int .u16 0,.int .u8 0,.int .u8 1,.int .u32 1,.int .u32 1,.int .i32 1,.int .u16 1217,.int .u16 36,.slice A1 16 c1,.int .u16 0,.int .u8 0,.int .u8 1,.int .u32 2,.int .u32 2,.int .i32 1,.int .u16 57279,.int .u16 48,.slice A2 28 c2] 71)).heap.size=w4.heap.size+1:=by simp
 refine ⟨_,[⟨headR1,A1,16,c1⟩,⟨headR2,A2,28,c2⟩],rfl,⟨by rw[hsz];exact hl,rfl,fun k h1 h2 => ?_⟩,rfl,hB4.trans (hbz.mono hB4.size)⟩
 have h3:k=0∨k=1:=by simp at h1;omega
 rcases h3 with rfl | rfl
 ·exact (hA.below hbz).more hbz.size
 ·exact (hS2.below hbz).more hbz.size
end Go.Proofs.YtcknpofnpabkiaaGreat
