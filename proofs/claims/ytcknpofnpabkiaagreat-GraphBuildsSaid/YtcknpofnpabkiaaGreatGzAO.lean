/- The document's reading, allowing and laying of a body, each type's; lodestarref06.Known. Conditions: the bytes lie in memory. -/
import Derived.Test.YtcknpofnpabkiaaGreatGzAM
import Derived.Test.YtcknpofnpabkiaaGreatGzAN
set_option maxRecDepth 100000
namespace Go.Proofs.YtcknpofnpabkiaaGreat
open Go.RowKit Go.Lo
theorem rknown_any (t:Nat) (w:World):Calls Tryz.prog 88 #[.int .u8 t] w fun x w'=>x=.returned (.bool (knownB t))∧w'=w:=by
 have hc:t=0∨(1≤t∧t≤5)∨t=6∨t=7∨t=8∨(9≤t∧t≤11)∨12≤t:=by omega
 rcases hc with rfl | ⟨h1,h2⟩ | rfl | rfl | rfl | ⟨h1,h2⟩ | h1
 ·go_enter Tryz.func88,Tryz.ntmps88
  go_wp2
  go_ret
  exact ⟨rfl,rfl⟩
 ·have e:knownB t=true:=by simp[knownB];omega
  have i1:(1:Int)≤(t:Int):=by omega
  have i2:(t:Int)≤5:=by omega
  rw[e]
  clear e
  go_enter Tryz.func88,Tryz.ntmps88
  go_wp2
  go_ret
  exact ⟨rfl,rfl⟩
 ·go_enter Tryz.func88,Tryz.ntmps88
  go_wp2
  go_ret
  exact ⟨rfl,rfl⟩
 ·go_enter Tryz.func88,Tryz.ntmps88
  go_wp2
  go_ret
  exact ⟨rfl,rfl⟩
 ·go_enter Tryz.func88,Tryz.ntmps88
  go_wp2
  go_ret
  exact ⟨rfl,rfl⟩
 ·have e:knownB t=true:=by simp[knownB];omega
  have i1:(1:Int)≤(t:Int):=by omega
  have i2:¬ (t:Int)≤5:=by omega
  have i3:((t:Int)==7)=false:=by simp;omega
  have i4:(9:Int)≤(t:Int):=by omega
  have i5:(t:Int)≤11:=by omega
  rw[e]
  clear e
  go_enter Tryz.func88,Tryz.ntmps88
  go_wp2
  go_ret
  exact ⟨rfl,rfl⟩
 ·have e:knownB t=false:=by simp[knownB];omega
  have i1:(1:Int)≤(t:Int):=by omega
  have i2:¬ (t:Int)≤5:=by omega
  have i3:((t:Int)==7)=false:=by simp;omega
  have i4:(9:Int)≤(t:Int):=by omega
  have i5:¬ (t:Int)≤11:=by omega
  rw[e]
  clear e
  go_enter Tryz.func88,Tryz.ntmps88
  go_wp2
  go_ret
  exact ⟨rfl,rfl⟩
theorem rreadT_any (t:Nat) (ht:knownB t=true) (B:Nat) (bv:Value) (bs:List Int) (w:World) (hb:Sl w B 1 bv bs.length (bs.map u8c)) (hB:B≤w.heap.size) (hn:bs.length≤1000000) (h8:∀ x∈bs,0≤x∧x<256):Calls Tryz.prog 89 #[.int .u8 t,bv] w fun x w'=>RReadPost t bs w x w':=by
 rcases known_cases ht with rfl | rfl | rfl | rfl | rfl | rfl | rfl | rfl | rfl
 ·exact rread1_any B bv bs w hb hB hn h8
 ·exact rread2_any B bv bs w hb hB hn h8
 ·exact rread3_any B bv bs w hb hB hn h8
 ·exact rread4_any B bv bs w hb hB hn h8
 ·exact rread5_any B bv bs w hb hB hn h8
 ·exact rread7_any B bv bs w hb hB hn h8
 ·exact rread9_any B bv bs w hb hB hn h8
 ·exact rread10_any B bv bs w hb hB hn h8
 ·exact rread11_any B bv bs w hb hB hn h8
theorem rmay_any (t:Nat) (ht:knownB t=true) (bs:List Int) (hn:bs.length≤1000000) (cs:Array Value) (base:Nat) (w:World) (hb:BodyAt w base cs (readP t bs)) :
  Calls Tryz.prog 90 #[.int .u8 t,.agg cs] w fun x w'=>x=.returned (.bool (mayP t (readP t bs)))∧Below w.heap.size w w':=by
 obtain ⟨A1,c1,A2,c2,A3,c3,rfl,o1,o2,o3⟩:=hb
 rcases known_cases ht with rfl | rfl | rfl | rfl | rfl | rfl | rfl | rfl | rfl
 ·have hl:(readP 1 bs).links.length=(bs.length-4) / 12:=linksOf_len _ _
  refine Calls.mono (rmay1_any (readP 1 bs).flags (readP 1 bs).links A1 c1 A2 c2 A3 c3 w (by omega) w.heap.size (Sl.of_own o1) (Nat.le_refl _)) ?_
  rintro e w' ⟨rfl,h⟩
  refine ⟨congrArg (fun z=>Ending.returned (.bool z)) ?_,h⟩
  simp[mayP,readP,zeroB,bitsB_zero]
 ·have hl:(readP 2 bs).routers.length=(bs.length-4) / 4:=wordsOf_len _ _
  refine Calls.mono (rmay2_any (readP 2 bs).mask (readP 2 bs).routers.length A1 c1 A2 c2 A3 c3 w) ?_
  rintro e w' ⟨rfl,h⟩
  refine ⟨congrArg (fun z=>Ending.returned (.bool z)) ?_,h⟩
  simp[mayP,readP,zeroB]
  cases wordsOf bs ((bs.length-4) / 4) <;> simp
 ·refine Calls.mono (rmay3_any (readP 3 bs).mask (readP 3 bs).metric A1 c1 A2 c2 A3 c3 w) ?_
  rintro e w' ⟨rfl,h⟩
  refine ⟨congrArg (fun z=>Ending.returned (.bool z)) ?_,h⟩
  simp[mayP,readP,zeroB]
 ·refine Calls.mono (rmay4_any (readP 4 bs).mask (readP 4 bs).metric A1 c1 A2 c2 A3 c3 w) ?_
  rintro e w' ⟨rfl,h⟩
  refine ⟨congrArg (fun z=>Ending.returned (.bool z)) ?_,h⟩
  simp[mayP,readP,zeroB]
 ·refine Calls.mono (rmay5_any (readP 5 bs).mask (readP 5 bs).metric (readP 5 bs).t2 (readP 5 bs).fw (readP 5 bs).tg A1 c1 A2 c2 A3 c3 w) ?_
  rintro e w' ⟨rfl,h⟩
  refine ⟨congrArg (fun z=>Ending.returned (.bool z)) ?_,h⟩
  simp[mayP,readP,zeroB]
 ·refine Calls.mono (rmay7_any (readP 7 bs).mask (readP 7 bs).metric (readP 7 bs).t2 (readP 7 bs).fw (readP 7 bs).tg A1 c1 A2 c2 A3 c3 w) ?_
  rintro e w' ⟨rfl,h⟩
  refine ⟨congrArg (fun z=>Ending.returned (.bool z)) ?_,h⟩
  simp[mayP,readP,zeroB]
 ·refine Calls.mono (rmay9_any bs.length A1 c1 A2 c2 A3 c3 w) ?_
  rintro e w' ⟨rfl,h⟩
  refine ⟨congrArg (fun z=>Ending.returned (.bool z)) ?_,h⟩
  simp[mayP,readP,zeroB,bitsB_zero]
  rfl
 ·refine Calls.mono (rmay10_any bs.length A1 c1 A2 c2 A3 c3 w) ?_
  rintro e w' ⟨rfl,h⟩
  refine ⟨congrArg (fun z=>Ending.returned (.bool z)) ?_,h⟩
  simp[mayP,readP,zeroB,bitsB_zero]
  rfl
 ·refine Calls.mono (rmay11_any bs.length A1 c1 A2 c2 A3 c3 w) ?_
  rintro e w' ⟨rfl,h⟩
  refine ⟨congrArg (fun z=>Ending.returned (.bool z)) ?_,h⟩
  simp[mayP,readP,zeroB,bitsB_zero]
  rfl
theorem rlay_any (t:Nat) (ht:knownB t=true) (bs:List Int) (h8:∀ x∈bs,0≤x∧x<256) (hn:bs.length≤65515) (cs:Array Value) (base:Nat) (w:World) (hb:BodyAt w base cs (readP t bs)) :
  Calls Tryz.prog 91 #[.int .u8 t,.agg cs] w fun x w'=>∃ s,x=.returned s∧w'.ownsRow w.heap.size 5 1 s (layP t (readP t bs)).length ((layP t (readP t bs)).map u8c)∧Below w.heap.size w w':=by
 obtain ⟨A1,c1,A2,c2,A3,c3,rfl,o1,o2,o3⟩:=hb
 have s1:=Sl.of_own o1
 have s2:=Sl.of_own o2
 have s3:=Sl.of_own o3
 rcases known_cases ht with rfl | rfl | rfl | rfl | rfl | rfl | rfl | rfl | rfl
 ·have hl:(readP 1 bs).links.length=(bs.length-4) / 12:=linksOf_len _ _
  exact rlay1_any (readP 1 bs).flags (readP 1 bs).links (by omega) (linksOf_ok h8 _) w.heap.size A1 c1 A2 c2 A3 c3 w s1 (Nat.le_refl _)
 ·have hl:(readP 2 bs).routers.length=(bs.length-4) / 4:=wordsOf_len _ _
  exact rlay2_any (readP 2 bs).mask (numB_range _) (readP 2 bs).routers (by omega) (wordsOf_ok _ _) w.heap.size A1 c1 A2 c2 A3 c3 w s2 (Nat.le_refl _)
 ·exact rlay3_any (readP 3 bs).mask (readP 3 bs).metric (numB_range _) (numB_range _) A1 c1 A2 c2 A3 c3 w
 ·exact rlay4_any (readP 4 bs).mask (readP 4 bs).metric (numB_range _) (numB_range _) A1 c1 A2 c2 A3 c3 w
 ·exact rlay5_any (readP 5 bs).mask (readP 5 bs).metric (readP 5 bs).t2 (readP 5 bs).fw (readP 5 bs).tg (numB_range _) (takes_lt h8 5 3 (by omega)) (numB_range _) (numB_range _) A1 c1 A2 c2 A3 c3 w
 ·exact rlay7_any (readP 7 bs).mask (readP 7 bs).metric (readP 7 bs).t2 (readP 7 bs).fw (readP 7 bs).tg (numB_range _) (takes_lt h8 5 3 (by omega)) (numB_range _) (numB_range _) A1 c1 A2 c2 A3 c3 w
 ·exact rlay9_any bs (by omega) w.heap.size A1 c1 A2 c2 A3 c3 w s3 (Nat.le_refl _)
 ·exact rlay10_any bs (by omega) w.heap.size A1 c1 A2 c2 A3 c3 w s3 (Nat.le_refl _)
 ·exact rlay11_any bs (by omega) w.heap.size A1 c1 A2 c2 A3 c3 w s3 (Nat.le_refl _)
set_option maxRecDepth 100000
def decD (len:Int) (t:Nat) (body:List Int):BodyV × Int:=if len=20+(body.length:Int) then decR t body else (zeroB,22)
def RDecPost (len:Int) (t:Nat) (body:List Int) (w:World) (x:Ending) (w':World):Prop:=
 ∃ cs,x=.returned (.tuple #[.agg cs,.int .i64 (decD len t body).2])∧BodyAt w' w.heap.size cs (decD len t body).1∧Below w.heap.size w w'
theorem BodyAt.oneR {W W':World} {base:Nat} {cs:Array Value} {b:BodyV} (h:BodyAt W base cs b) {g:Nat} {t:TypeId} {cs0:Array Value} (hg:Blk W g t cs0) (h1:t≠99) (h2:t≠23) (h3:t≠5) (hk:∀ k,k≠g→W'.heap[k]?=W.heap[k]?):BodyAt W' base cs b:=by
 obtain ⟨A1,c1,A2,c2,A3,c3,e,o1,o2,o3⟩:=h
 exact ⟨A1,c1,A2,c2,A3,c3,e,own_same o1 fun j hj=>hk j (own_ne8 o1 hg h1 j hj),own_same o2 fun j hj=>hk j (own_ne8 o2 hg h2 j hj),own_same o3 fun j hj=>hk j (own_ne8 o3 hg h3 j hj)⟩
set_option maxHeartbeats 4000000 in
theorem rdecode_any (t:Nat) (_h8:t<256) (h:OHead) (B:Nat) (bv:Value) (body:List Int) (w:World) (hb:Sl w B 1 bv body.length (body.map u8c)) (hB:B≤w.heap.size) (hn:body.length≤1099511627776) (hl8:∀ x∈body,0≤x∧x<256) (hty:h.type=t) (hlr:0≤h.len∧h.len<65536) :
  Calls Tryz.prog 40 #[stateVal h bv] w fun x w'=>RDecPost h.len t body w x w':=by
 obtain ⟨age,opts,type,id,adv,seq,sum,len⟩:=h
 simp only at hty hlr
 subst hty
 have hb0:=hb
 obtain ⟨-,A,c,rfl,-⟩:=hb
 dsimp only[stateVal]
 have wl:wrap64 (20+(body.length:Int))=20+(body.length:Int):=by unfold wrap64;omega
 have wq:wrap64 len=len:=by unfold wrap64;omega
 have q0:Blk ((w.alloc (.cells #[.int .u16 age,.int .u8 opts,.int .u8 (t:Int),.int .u32 id,.int .u32 adv,.int .i32 seq,.int .u16 sum,.int .u16 len,.slice A body.length c] 71)).alloc (.cells #[.int .u8 0,.slice none 0 0,.int .u32 0,.slice none 0 0,.int .u32 0,.bool false,.int .u32 0,.int .u32 0,.slice none 0 0] 81)) w.heap.size 71 #[.int .u16 age,.int .u8 opts,.int .u8 (t:Int),.int .u32 id,.int .u32 adv,.int .i32 seq,.int .u16 sum,.int .u16 len,.slice A body.length c]:=(Blk.new _ _ _).alloc _
 have q1:Blk ((w.alloc (.cells #[.int .u16 age,.int .u8 opts,.int .u8 (t:Int),.int .u32 id,.int .u32 adv,.int .i32 seq,.int .u16 sum,.int .u16 len,.slice A body.length c] 71)).alloc (.cells #[.int .u8 0,.slice none 0 0,.int .u32 0,.slice none 0 0,.int .u32 0,.bool false,.int .u32 0,.int .u32 0,.slice none 0 0] 81)) (w.heap.size+1) 81 #[.int .u8 0,.slice none 0 0,.int .u32 0,.slice none 0 0,.int .u32 0,.bool false,.int .u32 0,.int .u32 0,.slice none 0 0]:=heap_alloc2_new w _ _
 have qB:Below w.heap.size w ((w.alloc (.cells #[.int .u16 age,.int .u8 opts,.int .u8 (t:Int),.int .u32 id,.int .u32 adv,.int .i32 seq,.int .u16 sum,.int .u16 len,.slice A body.length c] 71)).alloc (.cells #[.int .u8 0,.slice none 0 0,.int .u32 0,.slice none 0 0,.int .u32 0,.bool false,.int .u32 0,.int .u32 0,.slice none 0 0] 81)):=((Below.refl _ _).alloc (Nat.le_refl _) _).alloc (by simp) _
 have CK:=h'd (fun W=>rknown_any t W)
 unfold RDecPost
 by_cases hlen:len=20+(body.length:Int)
 ·have e1:(len != 20+(body.length:Int))=false:=by simp[hlen]
  have hn5:body.length≤65515:=by omega
  have hdd:decD len t body=decR t body:=if_pos hlen
  rw[hdd]
  clear hdd hlen hlr
  go_enter Tryz.func40,Tryz.ntmps40
  go_upto_region 1 with fail
  generalize (w.alloc (.cells #[.int .u16 age,.int .u8 opts,.int .u8 (t:Int),.int .u32 id,.int .u32 adv,.int .i32 seq,.int .u16 sum,.int .u16 len,.slice A body.length c] 71)).alloc (.cells #[.int .u8 0,.slice none 0 0,.int .u32 0,.slice none 0 0,.int .u32 0,.bool false,.int .u32 0,.int .u32 0,.slice none 0 0] 81)=w1 at q0 q1 qB ⊢
  have x2:=q0.cell 2
  have x7:=q0.cell 7
  have x8:=q0.cell 8
  simp only[q'a,q'z,q's] at x2 x7 x8
  cases ht:knownB t with
  | false =>
   have hd:decR t body=(zeroB,21):=by unfold decR;rw[if_pos ht]
   rw[ht] at CK
   go_wp2_with (first
    | (go_at_call 88;refine Calls.mono (CK.out _) ?_;rintro x w2 ⟨rfl,hww⟩;subst hww)
    | (refine wpList_store_row rfl 81 (.tmp 2) (.tmp 23) rfl (w.heap.size+1) #[.int .u8 0,.slice none 0 0,.int .u32 0,.slice none 0 0,.int .u32 0,.bool false,.int .u32 0,.int .u32 0,.slice none 0 0] rfl rfl 81 #[.int .u8 0,.slice none 0 0,.int .u32 0,.slice none 0 0,.int .u32 0,.bool false,.int .u32 0,.int .u32 0,.slice none 0 0] q1 (by kernel_rfl) rfl (by simp[Value.oneCell']) ?_))
   have hset:Blk (w2.setRow (w.heap.size+1) #[.int .u8 0,.slice none 0 0,.int .u32 0,.slice none 0 0,.int .u32 0,.bool false,.int .u32 0,.int .u32 0,.slice none 0 0]) (w.heap.size+1) 81 #[.int .u8 0,.slice none 0 0,.int .u32 0,.slice none 0 0,.int .u32 0,.bool false,.int .u32 0,.int .u32 0,.slice none 0 0]:=setRow_heap w2 (w.heap.size+1) #[.int .u8 0,.slice none 0 0,.int .u32 0,.slice none 0 0,.int .u32 0,.bool false,.int .u32 0,.int .u32 0,.slice none 0 0] #[.int .u8 0,.slice none 0 0,.int .u32 0,.slice none 0 0,.int .u32 0,.bool false,.int .u32 0,.int .u32 0,.slice none 0 0] 81 (0,0) q1
   have hB3:Below w.heap.size w2 (w2.setRow (w.heap.size+1) #[.int .u8 0,.slice none 0 0,.int .u32 0,.slice none 0 0,.int .u32 0,.bool false,.int .u32 0,.int .u32 0,.slice none 0 0]):=⟨rfl,rfl,rfl,by simp[World.setRow],fun k hk=>setRow_other _ _ k _ (by omega)⟩
   refine bodyPost_ret (results_cell_tmp_row rfl _ _ (w.heap.size+1) 81 #[.int .u8 0,.slice none 0 0,.int .u32 0,.slice none 0 0,.int .u32 0,.bool false,.int .u32 0,.int .u32 0,.slice none 0 0] (0,0) _ rfl hset Tryz.underlying81 rfl (by kernel_rfl)) rfl ?_
   exact ⟨_,by first | (rw[hd];rfl) | rfl,by first | (rw[hd];exact BodyAt.zero _ _) | exact BodyAt.zero _ _,qB.trans hB3⟩
  | true =>
   rw[ht] at CK
   have hb1:=hb0.below (qB.mono hB)
   have CR:=h'd (rreadT_any t ht B (.slice A body.length c) body w1 hb1 (Nat.le_trans hB qB.size) (by omega) hl8)
   go_upto_region 6 with (first
    | (go_at_call 88;refine Calls.mono (CK.out _) ?_;rintro x w2 ⟨rfl,hww⟩;subst hww)
    | (go_at_call 89;refine Calls.mono CR.out ?_;rintro x w3 ⟨cs,q,bv,rfl,hBA,hq,hrd,k3⟩;obtain ⟨fl,ls,m,rs,k,t2,fw,tg,ds⟩:=bv;have hBAz:=hBA;obtain ⟨A1,c1,A2,c2,A3,c3,rfl,-⟩:=hBAz;dsimp only))
   have r0:Blk (w3.alloc (.cells (bodyC fl A1 ls.length c1 m A2 rs.length c2 k t2 fw tg A3 ds.length c3) 81)) w3.heap.size 81 (bodyC fl A1 ls.length c1 m A2 rs.length c2 k t2 fw tg A3 ds.length c3):=Blk.new _ _ _
   have k4:Below w2.heap.size w2 (w3.alloc (.cells (bodyC fl A1 ls.length c1 m A2 rs.length c2 k t2 fw tg A3 ds.length c3) 81)):=k3.alloc k3.size _
   have hBA4:=hBA.below ((Below.refl _ _).alloc (Nat.le_refl _) (.cells (bodyC fl A1 ls.length c1 m A2 rs.length c2 k t2 fw tg A3 ds.length c3) 81))
   dsimp only[bodyC] at r0 k4 hBA4
   generalize (w3.alloc (.cells #[.int .u8 fl,.slice A1 ls.length c1,.int .u32 m,.slice A2 rs.length c2,.int .u32 k,.bool t2,.int .u32 fw,.int .u32 tg,.slice A3 ds.length c3] 81))=w4 at r0 k4 hBA4 ⊢
   have q0:=q0.below k4 q0.lt
   have q1:=q1.below k4 q1.lt
   have hzz:=qB.size
   have qB:=qB.trans (k4.mono hzz)
   have hb4:=hb0.below (qB.mono hB)
   have hg6z:=r0.lt
   have hz3:=k3.size
   obtain ⟨g6,hg6⟩:∃ g6,g6=w3.heap.size:=⟨_,rfl⟩
   rw[←hg6] at r0 hg6z hz3 ⊢
   replace hg6:=h'd hg6
   clear x2 x7 x8 hBA k3 k4 CR CK hb1
   have x2:=q0.cell 2
   have x8:=q0.cell 8
   simp only[q'a,q'z,q's] at x2 x8
   have hzb:w.heap.size≤w2.heap.size:=hzz
   cases hfit:fitR t body with
   | false =>
    rw[hfit] at hq
    subst hq
    clear hrd
    have hd:decR t body=(zeroB,28):=by unfold decR;rw[if_neg (by rw[ht];decide),if_pos hfit]
    go_wp2_with (first
     | (refine wpList_store_row rfl 81 (.tmp 2) (.tmp 43) rfl (w.heap.size+1) #[.int .u8 0,.slice none 0 0,.int .u32 0,.slice none 0 0,.int .u32 0,.bool false,.int .u32 0,.int .u32 0,.slice none 0 0] rfl rfl 81 #[.int .u8 0,.slice none 0 0,.int .u32 0,.slice none 0 0,.int .u32 0,.bool false,.int .u32 0,.int .u32 0,.slice none 0 0] q1 (by kernel_rfl) rfl (by simp[Value.oneCell']) ?_))
    have hset:Blk (w4.setRow (w.heap.size+1) #[.int .u8 0,.slice none 0 0,.int .u32 0,.slice none 0 0,.int .u32 0,.bool false,.int .u32 0,.int .u32 0,.slice none 0 0]) (w.heap.size+1) 81 #[.int .u8 0,.slice none 0 0,.int .u32 0,.slice none 0 0,.int .u32 0,.bool false,.int .u32 0,.int .u32 0,.slice none 0 0]:=setRow_heap w4 (w.heap.size+1) #[.int .u8 0,.slice none 0 0,.int .u32 0,.slice none 0 0,.int .u32 0,.bool false,.int .u32 0,.int .u32 0,.slice none 0 0] #[.int .u8 0,.slice none 0 0,.int .u32 0,.slice none 0 0,.int .u32 0,.bool false,.int .u32 0,.int .u32 0,.slice none 0 0] 81 (0,0) q1
    have hB3:Below w.heap.size w4 (w4.setRow (w.heap.size+1) #[.int .u8 0,.slice none 0 0,.int .u32 0,.slice none 0 0,.int .u32 0,.bool false,.int .u32 0,.int .u32 0,.slice none 0 0]):=⟨rfl,rfl,rfl,by simp[World.setRow],fun k hk=>setRow_other _ _ k _ (by omega)⟩
    refine bodyPost_ret (results_cell_tmp_row rfl _ _ (w.heap.size+1) 81 #[.int .u8 0,.slice none 0 0,.int .u32 0,.slice none 0 0,.int .u32 0,.bool false,.int .u32 0,.int .u32 0,.slice none 0 0] (0,0) _ rfl hset Tryz.underlying81 rfl (by kernel_rfl)) rfl ?_
    exact ⟨_,by first | (rw[hd];rfl) | rfl,by first | (rw[hd];exact BodyAt.zero _ _) | exact BodyAt.zero _ _,qB.trans hB3⟩
   | true =>
    rw[hfit] at hq
    subst hq
    have hbv:=hrd rfl
    clear hrd
    have CM:=rmay_any t ht body (by omega) _ _ w4 (by rw[←hbv];exact hBA4)
    cases hmay:mayP t (readP t body) with
    | false =>
     rw[hmay] at CM
     replace CM:=h'd CM
     have hd:decR t body=(zeroB,28):=by unfold decR;rw[if_neg (by rw[ht];decide),if_neg (by rw[hfit];decide),if_pos hmay]
     have z0:=r0.cell 0
     have z1:=r0.cell 1
     have z2:=r0.cell 2
     have z3:=r0.cell 3
     have z4:=r0.cell 4
     have z5:=r0.cell 5
     have z6:=r0.cell 6
     have z7:=r0.cell 7
     have z8:=r0.cell 8
     simp only[q'a,q'z,q's] at z0 z1 z2 z3 z4 z5 z6 z7 z8
     go_upto_region 7 with (go_at_call 90;refine Calls.mono CM.out ?_;rintro x w5 ⟨rfl,k5⟩)
     clear z0 z1 z2 z3 z4 z5 z6 z7 z8
     have q1:=q1.below k5 q1.lt
     have qB:=qB.trans (k5.mono (Nat.le_trans hzb (Nat.le_trans hz3 (Nat.le_of_lt hg6z))))
     go_wp2_with (first
      | (refine wpList_store_row rfl 81 (.tmp 2) (.tmp 43) rfl (w.heap.size+1) #[.int .u8 0,.slice none 0 0,.int .u32 0,.slice none 0 0,.int .u32 0,.bool false,.int .u32 0,.int .u32 0,.slice none 0 0] rfl rfl 81 #[.int .u8 0,.slice none 0 0,.int .u32 0,.slice none 0 0,.int .u32 0,.bool false,.int .u32 0,.int .u32 0,.slice none 0 0] q1 (by kernel_rfl) rfl (by simp[Value.oneCell']) ?_))
     have hset:Blk (w5.setRow (w.heap.size+1) #[.int .u8 0,.slice none 0 0,.int .u32 0,.slice none 0 0,.int .u32 0,.bool false,.int .u32 0,.int .u32 0,.slice none 0 0]) (w.heap.size+1) 81 #[.int .u8 0,.slice none 0 0,.int .u32 0,.slice none 0 0,.int .u32 0,.bool false,.int .u32 0,.int .u32 0,.slice none 0 0]:=setRow_heap w5 (w.heap.size+1) #[.int .u8 0,.slice none 0 0,.int .u32 0,.slice none 0 0,.int .u32 0,.bool false,.int .u32 0,.int .u32 0,.slice none 0 0] #[.int .u8 0,.slice none 0 0,.int .u32 0,.slice none 0 0,.int .u32 0,.bool false,.int .u32 0,.int .u32 0,.slice none 0 0] 81 (0,0) q1
     have hB3:Below w.heap.size w5 (w5.setRow (w.heap.size+1) #[.int .u8 0,.slice none 0 0,.int .u32 0,.slice none 0 0,.int .u32 0,.bool false,.int .u32 0,.int .u32 0,.slice none 0 0]):=⟨rfl,rfl,rfl,by simp[World.setRow],fun k hk=>setRow_other _ _ k _ (by omega)⟩
     refine bodyPost_ret (results_cell_tmp_row rfl _ _ (w.heap.size+1) 81 #[.int .u8 0,.slice none 0 0,.int .u32 0,.slice none 0 0,.int .u32 0,.bool false,.int .u32 0,.int .u32 0,.slice none 0 0] (0,0) _ rfl hset Tryz.underlying81 rfl (by kernel_rfl)) rfl ?_
     exact ⟨_,by first | (rw[hd];rfl) | rfl,by first | (rw[hd];exact BodyAt.zero _ _) | exact BodyAt.zero _ _,qB.trans hB3⟩
    | true =>
     rw[hmay] at CM
     replace CM:=h'd CM
     have z0:=r0.cell 0
     have z1:=r0.cell 1
     have z2:=r0.cell 2
     have z3:=r0.cell 3
     have z4:=r0.cell 4
     have z5:=r0.cell 5
     have z6:=r0.cell 6
     have z7:=r0.cell 7
     have z8:=r0.cell 8
     simp only[q'a,q'z,q's] at z0 z1 z2 z3 z4 z5 z6 z7 z8
     go_upto_region 8 with (go_at_call 90;refine Calls.mono CM.out ?_;rintro x w5 ⟨rfl,k5⟩)
     clear z0 z1 z2 z3 z4 z5 z6 z7 z8
     have q0:=q0.below k5 q0.lt
     have q1:=q1.below k5 q1.lt
     have r0:=r0.below k5 r0.lt
     have hBA5:=hBA4.below k5
     have qB:=qB.trans (k5.mono (Nat.le_trans hzb (Nat.le_trans hz3 (Nat.le_of_lt hg6z))))
     have hg7:=r0.lt
     clear x2 x8 CM k5 hBA4 hb4
     have CL:=rlay_any t ht body hl8 hn5 _ _ w5 (by rw[←hbv];exact hBA5)
     obtain ⟨L,hL⟩:∃ L,L=layP t (readP t body):=⟨_,rfl⟩
     rw[←hL] at CL
     have hll:L.length≤65515+20:=by
      rw[hL,lay_read_len t body]
      split
      ·omega
      split
      ·omega
      split
      ·omega
      split
      ·omega
      ·omega
     replace CL:=h'd CL
     replace hL:=h'd hL
     have x2:=q0.cell 2
     simp only[q'a,q'z,q's] at x2
     go_upto_region 9 with (first
      | (refine wpList_load_row rfl 81 (.tmp 4) rfl g6 rfl 81 (bodyC fl A1 ls.length c1 m A2 rs.length c2 k t2 fw tg A3 ds.length c3) (0,0) _ r0 Tryz.underlying81 rfl (by kernel_rfl) ?_)
      | (go_at_call 91;refine Calls.mono CL.out ?_;rintro x w6 ⟨s,rfl,hs6,k6⟩;obtain ⟨-,As,csz,rfl,-⟩:=Sl.of_own hs6))
     have q0:=q0.below k6 q0.lt
     have q1:=q1.below k6 q1.lt
     have r0:=r0.below k6 r0.lt
     have hBA6:=hBA5.below k6
     have qB:=qB.trans (k6.mono (by omega))
     have hb6:=hb0.below (qB.mono hB)
     have hsl6:=Sl.of_own hs6
     clear x2 CL k6 hBA5 hs6
     have x8:=q0.cell 8
     simp only[q'a,q'z,q's] at x8
     have hdn:L≠body→decR t body=(zeroB,28):=fun hne=>by unfold decR;rw[if_neg (by rw[ht];decide),if_neg (by rw[hfit];decide),if_neg (by rw[hmay];decide),if_pos (by rw[←hL.out];exact hne)]
     have hdy:L=body→decR t body=((⟨fl,ls,m,rs,k,t2,fw,tg,ds⟩:BodyV),0):=fun he=>by unfold decR;rw[if_neg (by rw[ht];decide),if_neg (by rw[hfit];decide),if_neg (by rw[hmay];decide),if_neg (by rw[←hL.out,he];simp),←hbv]
     replace hdn:=h'd hdn
     replace hdy:=h'd hdy
     clear hL hbv
     by_cases hll2:L.length=body.length
     ·have e2:((L.length:Int) != (body.length:Int))=false:=by simp[hll2]
      have hll3:=h'd hll2
      rw[hll2] at hsl6
      have hB6:=Nat.le_trans hB qB.size
      have hsls:=h'd hsl6
      have hbs6:=h'd hb6
      clear hsl6 hb6 hll
      go_wp2_with fail
      clear hll2
      go_loopg [7] body.length (fun mm iv wr=>∃ j:Nat,j≤body.length∧mm=body.length-j∧iv=.int .i64 j∧(∀ i (h:i<L.length) (h':i<body.length),i<j→L[i]=body[i])∧Below w6.heap.size w6 wr)
      case atStart=>exact ⟨0,Nat.zero_le _,rfl,rfl,fun _ _ _ h=>absurd h (Nat.not_lt_zero _),Below.refl _ _⟩
      case round =>
       clear x8
       obtain ⟨j,hj,rfl,rfl,hall,hBr⟩:=hrel
       obtain ⟨w7,rfl⟩:∃ x:World,x=wr:=⟨_,rfl⟩
       have q0:=q0.below hBr q0.lt
       have q1:=q1.below hBr q1.lt
       have r0:=r0.below hBr r0.lt
       have hBA7:=hBA6.below hBr
       have hsz6:=q1.lt
       have qB:=qB.trans (hBr.mono (by have:=qB.size;omega))
       have hall2:=h'd hall
       clear hall
       by_cases hjb:j<body.length
       ·have hjl:j<L.length:=by have:=hll3.out;omega
        have ijb:(j:Int)<(body.length:Int):=by omega
        obtain ⟨-,As',cs',hv1,-,-,hA1⟩:=hsls.out.below hBr
        simp only[Value.slice.injEq] at hv1
        obtain ⟨rfl,-,rfl⟩:=hv1
        obtain ⟨b1,o1,rfl,hb1,hc1⟩:=hA1 (by omega)
        have y1:=hc1 j _ (by rw[List.getElem?_map,List.getElem?_eq_getElem hjl];rfl)
        obtain ⟨-,A',c',hv2,-,-,hA2⟩:=hbs6.out.below (hBr.mono hB6)
        simp only[Value.slice.injEq] at hv2
        obtain ⟨rfl,-,rfl⟩:=hv2
        obtain ⟨b2,o2,rfl,hb2,hc2⟩:=hA2 (by omega)
        have y2:=hc2 j _ (by rw[List.getElem?_map,List.getElem?_eq_getElem hjb];rfl)
        simp only[u8c] at y1 y2
        have x8:=q0.cell 8
        simp only[q'a,q'z,q's] at x8
        clear hc1 hc2 hA1 hA2
        by_cases heq:L[j]=body[j]
        ·have e3:(L[j] != body[j])=false:=by simp[heq]
         replace heq:=h'd heq
         go_upto_region 14 with fail
         go_quiet (fail)
         go_wp2_with fail
         go_roundg (body.length-(j+1))
         case measure=>omega
         case rel=>exact ⟨j+1,by omega,rfl,by go_num,fun i h h' hij=>by
          by_cases hi:i<j
          ·exact hall2.out i h h' hi
          ·obtain rfl:i=j:=by omega
           exact heq.out,⟨hBr.os,hBr.tape,hBr.output,hBr.size,hBr.block⟩⟩
        ·have e3:(L[j] != body[j])=true:=by simp[heq]
         have hd:=hdn.out (fun he=>heq (by subst he;rfl))
         clear heq
         go_upto_region 14 with fail
         go_quiet (fail)
         have q1n:Blk (w7.drewN nq) (w.heap.size+1) 81 #[.int .u8 0,.slice none 0 0,.int .u32 0,.slice none 0 0,.int .u32 0,.bool false,.int .u32 0,.int .u32 0,.slice none 0 0]:=q1
         have qBn:Below w.heap.size w (w7.drewN nq):=⟨qB.os,qB.tape,qB.output,qB.size,qB.block⟩
         go_wp2_with (first
          | (refine wpList_store_row rfl 81 (.tmp 2) (.tmp 72) rfl (w.heap.size+1) #[.int .u8 0,.slice none 0 0,.int .u32 0,.slice none 0 0,.int .u32 0,.bool false,.int .u32 0,.int .u32 0,.slice none 0 0] rfl rfl 81 #[.int .u8 0,.slice none 0 0,.int .u32 0,.slice none 0 0,.int .u32 0,.bool false,.int .u32 0,.int .u32 0,.slice none 0 0] q1n (by kernel_rfl) rfl (by simp[Value.oneCell']) ?_))
         have hset:Blk ((w7.drewN nq).setRow (w.heap.size+1) #[.int .u8 0,.slice none 0 0,.int .u32 0,.slice none 0 0,.int .u32 0,.bool false,.int .u32 0,.int .u32 0,.slice none 0 0]) (w.heap.size+1) 81 #[.int .u8 0,.slice none 0 0,.int .u32 0,.slice none 0 0,.int .u32 0,.bool false,.int .u32 0,.int .u32 0,.slice none 0 0]:=setRow_heap (w7.drewN nq) (w.heap.size+1) #[.int .u8 0,.slice none 0 0,.int .u32 0,.slice none 0 0,.int .u32 0,.bool false,.int .u32 0,.int .u32 0,.slice none 0 0] #[.int .u8 0,.slice none 0 0,.int .u32 0,.slice none 0 0,.int .u32 0,.bool false,.int .u32 0,.int .u32 0,.slice none 0 0] 81 (0,0) q1n
         have hB3:Below w.heap.size (w7.drewN nq) ((w7.drewN nq).setRow (w.heap.size+1) #[.int .u8 0,.slice none 0 0,.int .u32 0,.slice none 0 0,.int .u32 0,.bool false,.int .u32 0,.int .u32 0,.slice none 0 0]):=⟨rfl,rfl,rfl,by simp[World.setRow],fun k hk=>setRow_other _ _ k _ (by omega)⟩
         refine bodyPost_ret (results_cell_tmp_row rfl _ _ (w.heap.size+1) 81 #[.int .u8 0,.slice none 0 0,.int .u32 0,.slice none 0 0,.int .u32 0,.bool false,.int .u32 0,.int .u32 0,.slice none 0 0] (0,0) _ rfl hset Tryz.underlying81 rfl (by kernel_rfl)) rfl ?_
         exact ⟨_,by first | (rw[hd];rfl) | rfl,by first | (rw[hd];exact BodyAt.zero _ _) | exact BodyAt.zero _ _,qBn.trans hB3⟩
       ·have hjl2:j=body.length:=by omega
        have hd:=hdy.out (List.ext_getElem hll3.out fun i h h'=>hall2.out i h h' (by omega))
        subst hjl2
        have e5:¬ (body.length:Int)<(L.length:Int):=by have:=hll3.out;omega
        have e6:¬ (body.length:Int)<(body.length:Int):=by omega
        have hBA:=hBA7
        go_wp2_with (first
         | (refine wpList_load_row rfl 81 (.tmp 4) rfl g6 rfl 81 (bodyC fl A1 ls.length c1 m A2 rs.length c2 k t2 fw tg A3 ds.length c3) (0,0) _ r0 Tryz.underlying81 rfl (by kernel_rfl) ?_)
         | (refine wpList_store_row rfl 81 (.tmp 2) (.tmp 73) rfl (w.heap.size+1) (bodyC fl A1 ls.length c1 m A2 rs.length c2 k t2 fw tg A3 ds.length c3) rfl rfl 81 #[.int .u8 0,.slice none 0 0,.int .u32 0,.slice none 0 0,.int .u32 0,.bool false,.int .u32 0,.int .u32 0,.slice none 0 0] q1 (by kernel_rfl) rfl (by simp[Value.oneCell']) ?_))
        have hset:Blk (w7.setRow (w.heap.size+1) (bodyC fl A1 ls.length c1 m A2 rs.length c2 k t2 fw tg A3 ds.length c3)) (w.heap.size+1) 81 (bodyC fl A1 ls.length c1 m A2 rs.length c2 k t2 fw tg A3 ds.length c3):=setRow_heap w7 (w.heap.size+1) #[.int .u8 0,.slice none 0 0,.int .u32 0,.slice none 0 0,.int .u32 0,.bool false,.int .u32 0,.int .u32 0,.slice none 0 0] (bodyC fl A1 ls.length c1 m A2 rs.length c2 k t2 fw tg A3 ds.length c3) 81 (0,0) q1
        have hB3:Below w.heap.size w7 (w7.setRow (w.heap.size+1) (bodyC fl A1 ls.length c1 m A2 rs.length c2 k t2 fw tg A3 ds.length c3)):=⟨rfl,rfl,rfl,by simp[World.setRow],fun k hk=>setRow_other _ _ k _ (by omega)⟩
        refine bodyPost_ret (results_cell_tmp_row rfl _ _ (w.heap.size+1) 81 (bodyC fl A1 ls.length c1 m A2 rs.length c2 k t2 fw tg A3 ds.length c3) (0,0) _ rfl hset Tryz.underlying81 rfl (by kernel_rfl)) rfl ?_
        exact ⟨_,by first | (rw[hd];rfl) | rfl,by first | (rw[hd];exact (hBA.oneR q1 (by decide) (by decide) (by decide) (fun i hi=>setRow_other w7 (w.heap.size+1) i (bodyC fl A1 ls.length c1 m A2 rs.length c2 k t2 fw tg A3 ds.length c3) hi)).less hzb) | exact (hBA.oneR q1 (by decide) (by decide) (by decide) (fun i hi=>setRow_other w7 (w.heap.size+1) i (bodyC fl A1 ls.length c1 m A2 rs.length c2 k t2 fw tg A3 ds.length c3) hi)).less hzb,qB.trans hB3⟩
     ·have e2:((L.length:Int) != (body.length:Int))=true:=by simp;omega
      have e3:¬ (L.length:Int)=(body.length:Int):=by omega
      have hd:=hdn.out (fun he=>hll2 (by rw[he]))
      go_wp2_with (first
       | (refine wpList_store_row rfl 81 (.tmp 2) (.tmp 55) rfl (w.heap.size+1) #[.int .u8 0,.slice none 0 0,.int .u32 0,.slice none 0 0,.int .u32 0,.bool false,.int .u32 0,.int .u32 0,.slice none 0 0] rfl rfl 81 #[.int .u8 0,.slice none 0 0,.int .u32 0,.slice none 0 0,.int .u32 0,.bool false,.int .u32 0,.int .u32 0,.slice none 0 0] q1 (by kernel_rfl) rfl (by simp[Value.oneCell']) ?_))
      have hset:Blk (w6.setRow (w.heap.size+1) #[.int .u8 0,.slice none 0 0,.int .u32 0,.slice none 0 0,.int .u32 0,.bool false,.int .u32 0,.int .u32 0,.slice none 0 0]) (w.heap.size+1) 81 #[.int .u8 0,.slice none 0 0,.int .u32 0,.slice none 0 0,.int .u32 0,.bool false,.int .u32 0,.int .u32 0,.slice none 0 0]:=setRow_heap w6 (w.heap.size+1) #[.int .u8 0,.slice none 0 0,.int .u32 0,.slice none 0 0,.int .u32 0,.bool false,.int .u32 0,.int .u32 0,.slice none 0 0] #[.int .u8 0,.slice none 0 0,.int .u32 0,.slice none 0 0,.int .u32 0,.bool false,.int .u32 0,.int .u32 0,.slice none 0 0] 81 (0,0) q1
      have hB3:Below w.heap.size w6 (w6.setRow (w.heap.size+1) #[.int .u8 0,.slice none 0 0,.int .u32 0,.slice none 0 0,.int .u32 0,.bool false,.int .u32 0,.int .u32 0,.slice none 0 0]):=⟨rfl,rfl,rfl,by simp[World.setRow],fun k hk=>setRow_other _ _ k _ (by omega)⟩
      refine bodyPost_ret (results_cell_tmp_row rfl _ _ (w.heap.size+1) 81 #[.int .u8 0,.slice none 0 0,.int .u32 0,.slice none 0 0,.int .u32 0,.bool false,.int .u32 0,.int .u32 0,.slice none 0 0] (0,0) _ rfl hset Tryz.underlying81 rfl (by kernel_rfl)) rfl ?_
      exact ⟨_,by first | (rw[hd];rfl) | rfl,by first | (rw[hd];exact BodyAt.zero _ _) | exact BodyAt.zero _ _,qB.trans hB3⟩
 ·have e1:(len != 20+(body.length:Int))=true:=by simp[hlen]
  have hd:decD len t body=(zeroB,22):=if_neg hlen
  clear hlen
  go_enter Tryz.func40,Tryz.ntmps40
  go_upto_region 1 with fail
  generalize (w.alloc (.cells #[.int .u16 age,.int .u8 opts,.int .u8 (t:Int),.int .u32 id,.int .u32 adv,.int .i32 seq,.int .u16 sum,.int .u16 len,.slice A body.length c] 71)).alloc (.cells #[.int .u8 0,.slice none 0 0,.int .u32 0,.slice none 0 0,.int .u32 0,.bool false,.int .u32 0,.int .u32 0,.slice none 0 0] 81)=w1 at q0 q1 qB ⊢
  have x7:=q0.cell 7
  have x8:=q0.cell 8
  simp only[q'a,q'z,q's] at x7 x8
  go_wp2_with (first
   | (refine wpList_store_row rfl 81 (.tmp 2) (.tmp 17) rfl (w.heap.size+1) #[.int .u8 0,.slice none 0 0,.int .u32 0,.slice none 0 0,.int .u32 0,.bool false,.int .u32 0,.int .u32 0,.slice none 0 0] rfl rfl 81 #[.int .u8 0,.slice none 0 0,.int .u32 0,.slice none 0 0,.int .u32 0,.bool false,.int .u32 0,.int .u32 0,.slice none 0 0] q1 (by kernel_rfl) rfl (by simp[Value.oneCell']) ?_))
  have hset:Blk (w1.setRow (w.heap.size+1) #[.int .u8 0,.slice none 0 0,.int .u32 0,.slice none 0 0,.int .u32 0,.bool false,.int .u32 0,.int .u32 0,.slice none 0 0]) (w.heap.size+1) 81 #[.int .u8 0,.slice none 0 0,.int .u32 0,.slice none 0 0,.int .u32 0,.bool false,.int .u32 0,.int .u32 0,.slice none 0 0]:=setRow_heap w1 (w.heap.size+1) #[.int .u8 0,.slice none 0 0,.int .u32 0,.slice none 0 0,.int .u32 0,.bool false,.int .u32 0,.int .u32 0,.slice none 0 0] #[.int .u8 0,.slice none 0 0,.int .u32 0,.slice none 0 0,.int .u32 0,.bool false,.int .u32 0,.int .u32 0,.slice none 0 0] 81 (0,0) q1
  have hB3:Below w.heap.size w1 (w1.setRow (w.heap.size+1) #[.int .u8 0,.slice none 0 0,.int .u32 0,.slice none 0 0,.int .u32 0,.bool false,.int .u32 0,.int .u32 0,.slice none 0 0]):=⟨rfl,rfl,rfl,by simp[World.setRow],fun k hk=>setRow_other _ _ k _ (by omega)⟩
  refine bodyPost_ret (results_cell_tmp_row rfl _ _ (w.heap.size+1) 81 #[.int .u8 0,.slice none 0 0,.int .u32 0,.slice none 0 0,.int .u32 0,.bool false,.int .u32 0,.int .u32 0,.slice none 0 0] (0,0) _ rfl hset Tryz.underlying81 rfl (by kernel_rfl)) rfl ?_
  exact ⟨_,by first | (rw[hd];rfl) | rfl,by first | (rw[hd];exact BodyAt.zero _ _) | exact BodyAt.zero _ _,qB.trans hB3⟩
end Go.Proofs.YtcknpofnpabkiaaGreat
