/- The document encodes and checks a state. -/
import Derived.Test.YtiikagabdiphkaaGreatOnAJ
import Derived.Test.YtiikagabdiphkaaGreatOnAC
import Derived.Test.YtiikagabdiphkaaGreatOnAA
set_option maxRecDepth 100000
namespace Go.Proofs.YtiikagabdiphkaaGreat
open Go.RowKit Go.Lo
theorem four_byte (v:Int):∀ x∈be4 v,0≤x∧x<256:=by
 intro x hx
 simp only[be4,List.mem_cons,List.not_mem_nil,or_false] at hx
 omega
theorem beN_byt (v:Int) (n:Nat):∀ x∈beN v n,0≤x∧x<256:=fun x hx=>four_byte v x (List.mem_of_mem_drop hx)
theorem headB_byt (h:OHead) (ok:HeadOk h):∀ x∈headB h,0≤x∧x<256:=by
 intro x hx
 simp only[headB,List.mem_append,List.mem_cons,List.not_mem_nil,or_false] at hx
 rcases hx with h | (rfl | rfl) | h | h | h | h | h
 ·exact beN_byt _ _ x h
 ·exact ok.opts
 ·exact ok.type
 ·exact beN_byt _ _ x h
 ·exact beN_byt _ _ x h
 ·exact beN_byt _ _ x h
 ·exact beN_byt _ _ x h
 ·exact beN_byt _ _ x h
def sealB (h:OHead) (body:List Int):List Int:=(headB { h with len:=20+body.length }++body).drop 2
def sealR (h:OHead) (body:List Int) (r:Int):Prop:=FlR (sumsTo (sealB h body) 14 (sealB h body).length) ((((sealB h body).length:Int)-14)%255) r
set_option maxHeartbeats 2000000 in
theorem seal_any (h:OHead) (ok:HeadOk h) (B:Nat) (bv:Value) (body:List Int) (w:World) (hb:Sl w B 1 bv body.length (body.map u8c)) (hB:B≤w.heap.size) (hn:body.length≤65515) (hl8:∀ x∈body,0≤x∧x<256) :
  Calls Tryz.prog 22 #[stateVal h bv] w fun x w'=>∃ v r,x=.returned (.tuple #[stateVal { h with len:=20+body.length,sum:=r } v,.int .i64 0])∧sealR h body r∧w'.ownsRow w.heap.size 5 1 v body.length (body.map u8c)∧Below w.heap.size w w':=by
 have hb0:=hb
 have ok2:HeadOk { h with len:=20+body.length }:=⟨ok.age,ok.opts,ok.type,ok.id,ok.adv,ok.seq,ok.sum,by constructor <;> simp only <;> omega⟩
 have CW:=fun v W hs hz=>rbytes_any { h with len:=20+body.length } ok2 W.heap.size v body W hs hz (by omega)
 have hLn:(headB { h with len:=20+body.length }++body).length=20+body.length:=by rw[List.length_append,headB_len]
 have hh8:∀ x∈(headB { h with len:=20+body.length }++body).drop 2,0≤x∧x<256:=fun x hx=>by
  rcases List.mem_append.1 (List.mem_of_mem_drop hx) with h1 | h1
  ·exact headB_byt _ ok2 x h1
  ·exact hl8 x h1
 have hR:∀ r,sealR h body r↔FlR (sumsTo ((headB { h with len:=20+body.length }++body).drop 2) 14 ((headB { h with len:=20+body.length }++body).drop 2).length) (((((headB { h with len:=20+body.length }++body).drop 2).length:Int)-14)%255) r:=fun r=>Iff.rfl
 generalize headB { h with len:=20+body.length }++body=L at CW hh8 hLn hR
 have hRR:=Lib.hid hR
 clear hR ok2 ok
 replace CW:=Lib.hid CW
 replace hLn:=Lib.hid hLn
 have hhl:=Lib.hid hh8
 clear hh8
 obtain ⟨age,opts,type,id,adv,seq,sum,len⟩:=h
 dsimp only at CW ⊢
 obtain ⟨-,A,c,rfl,-⟩:=hb
 dsimp only[stateVal] at CW ⊢
 have wl:wrap64 ((body.length:Int)+20)=(body.length:Int)+20:=by unfold wrap64;omega
 have wl2:wrap64 (20+(body.length:Int))=20+(body.length:Int):=by unfold wrap64;omega
 have wl3:IntKind.u16.wrap (20+(body.length:Int))=20+(body.length:Int):=by show (20+(body.length:Int))%65536=_;omega
 have dl:decide (65535<(body.length:Int)+20)=false:=decide_eq_false (by omega)
 go_enter Tryz.func22,Tryz.ntmps22
 have g0:Blk (((w.alloc (.cells #[.int .u16 age,.int .u8 opts,.int .u8 type,.int .u32 id,.int .u32 adv,.int .i32 seq,.int .u16 sum,.int .u16 len,.slice A body.length c] 54)).alloc (.cells #[.int .u16 0,.int .u8 0,.int .u8 0,.int .u32 0,.int .u32 0,.int .i32 0,.int .u16 0,.int .u16 0,.slice none 0 0] 54)).alloc (.cells #[.int .u16 age,.int .u8 opts,.int .u8 type,.int .u32 id,.int .u32 adv,.int .i32 seq,.int .u16 sum,.int .u16 len,.slice none 0 0] 54)) w.heap.size 54 #[.int .u16 age,.int .u8 opts,.int .u8 type,.int .u32 id,.int .u32 adv,.int .i32 seq,.int .u16 sum,.int .u16 len,.slice A body.length c]:=((Blk.new _ _ _).alloc _).alloc _
 have g1:Blk (((w.alloc (.cells #[.int .u16 age,.int .u8 opts,.int .u8 type,.int .u32 id,.int .u32 adv,.int .i32 seq,.int .u16 sum,.int .u16 len,.slice A body.length c] 54)).alloc (.cells #[.int .u16 0,.int .u8 0,.int .u8 0,.int .u32 0,.int .u32 0,.int .i32 0,.int .u16 0,.int .u16 0,.slice none 0 0] 54)).alloc (.cells #[.int .u16 age,.int .u8 opts,.int .u8 type,.int .u32 id,.int .u32 adv,.int .i32 seq,.int .u16 sum,.int .u16 len,.slice none 0 0] 54)) (w.heap.size+1) 54 #[.int .u16 0,.int .u8 0,.int .u8 0,.int .u32 0,.int .u32 0,.int .i32 0,.int .u16 0,.int .u16 0,.slice none 0 0]:=(Blk.new_ _ (by simp)).alloc _
 have g2:Blk (((w.alloc (.cells #[.int .u16 age,.int .u8 opts,.int .u8 type,.int .u32 id,.int .u32 adv,.int .i32 seq,.int .u16 sum,.int .u16 len,.slice A body.length c] 54)).alloc (.cells #[.int .u16 0,.int .u8 0,.int .u8 0,.int .u32 0,.int .u32 0,.int .i32 0,.int .u16 0,.int .u16 0,.slice none 0 0] 54)).alloc (.cells #[.int .u16 age,.int .u8 opts,.int .u8 type,.int .u32 id,.int .u32 adv,.int .i32 seq,.int .u16 sum,.int .u16 len,.slice none 0 0] 54)) (w.heap.size+1+1) 54 #[.int .u16 age,.int .u8 opts,.int .u8 type,.int .u32 id,.int .u32 adv,.int .i32 seq,.int .u16 sum,.int .u16 len,.slice none 0 0]:=Blk.new_ _ (by simp)
 have gB:Below w.heap.size w (((w.alloc (.cells #[.int .u16 age,.int .u8 opts,.int .u8 type,.int .u32 id,.int .u32 adv,.int .i32 seq,.int .u16 sum,.int .u16 len,.slice A body.length c] 54)).alloc (.cells #[.int .u16 0,.int .u8 0,.int .u8 0,.int .u32 0,.int .u32 0,.int .i32 0,.int .u16 0,.int .u16 0,.slice none 0 0] 54)).alloc (.cells #[.int .u16 age,.int .u8 opts,.int .u8 type,.int .u32 id,.int .u32 adv,.int .i32 seq,.int .u16 sum,.int .u16 len,.slice none 0 0] 54)):=(((Below.refl _ _).alloc (Nat.le_refl _) _).alloc (by simp) _).alloc (by simp;omega) _
 have gz:(((w.alloc (.cells #[.int .u16 age,.int .u8 opts,.int .u8 type,.int .u32 id,.int .u32 adv,.int .i32 seq,.int .u16 sum,.int .u16 len,.slice A body.length c] 54)).alloc (.cells #[.int .u16 0,.int .u8 0,.int .u8 0,.int .u32 0,.int .u32 0,.int .i32 0,.int .u16 0,.int .u16 0,.slice none 0 0] 54)).alloc (.cells #[.int .u16 age,.int .u8 opts,.int .u8 type,.int .u32 id,.int .u32 adv,.int .i32 seq,.int .u16 sum,.int .u16 len,.slice none 0 0] 54)).heap.size=w.heap.size+1+1+1:=by simp
 go_upto_region 4 with fail
 generalize ((w.alloc (.cells #[.int .u16 age,.int .u8 opts,.int .u8 type,.int .u32 id,.int .u32 adv,.int .i32 seq,.int .u16 sum,.int .u16 len,.slice A body.length c] 54)).alloc (.cells #[.int .u16 0,.int .u8 0,.int .u8 0,.int .u32 0,.int .u32 0,.int .i32 0,.int .u16 0,.int .u16 0,.slice none 0 0] 54)).alloc (.cells #[.int .u16 age,.int .u8 opts,.int .u8 type,.int .u32 id,.int .u32 adv,.int .i32 seq,.int .u16 sum,.int .u16 len,.slice none 0 0] 54)=w0 at g0 g1 g2 gB gz ⊢
 have hb1:=hb0.below (gB.mono hB)
 have x8:=g0.cell 8
 have y8:=g2.cell 8
 have f8:=g2.free 8
 simp only[q'a,q'z,q's] at x8 y8
 have gzh:=Lib.hid gz
 clear gz
 go_upto_region 5 with (at_builtin;refine wpList_append rfl (.tmp 18) (.tmp 20) 52 rfl w0.heap.size u8T (.slice none 0 0) 0 [] rfl (World.ownsRow_nil _ _ _ _) B _ body.length _ rfl hb1 (u8s_oneCell _) (by simp only[maxLen];omega) (by omega) (Nat.le_refl _) ?_;intro v1 w1 ho1 hg1 hob1;have k1:Below w0.heap.size w0 w1:=below_of_grown hg1 (Nat.le_refl _) (fun g hg=>by simp[Value.ownBlock] at hg);have g21:=g2.below k1 g2.lt;have f81:=g21.free 8;have y81:=g21.cell 8;simp only[q'a,q'z,q's] at y81;simp only[Nat.zero_add,List.nil_append] at ho1;obtain ⟨-,A1,c1,rfl,-⟩:=Sl.of_own ho1)
 have g01:=g0.below k1 g0.lt
 have g11:=g1.below k1 g1.lt
 have B1:=gB.trans (k1.mono gB.size)
 have hs1:=Sl.of_own ho1
 have z1:w.heap.size+3≤w1.heap.size:=by have:=k1.size;have:=gzh.out;omega
 have G2:Blk (w1.setCell ⟨w.heap.size+1+1,8,none⟩ (.slice A1 body.length c1)) (w.heap.size+1+1) 54 #[.int .u16 age,.int .u8 opts,.int .u8 type,.int .u32 id,.int .u32 adv,.int .i32 seq,.int .u16 sum,.int .u16 len,.slice A1 body.length c1]:=g21.set_ 8 _
 have G0:=g01.far (p:=⟨w.heap.size+1+1,8,none⟩) (by simp;omega) (.slice A1 body.length c1)
 have G1:=g11.far (p:=⟨w.heap.size+1+1,8,none⟩) (by simp) (.slice A1 body.length c1)
 have GB:=B1.setCell (p:=⟨w.heap.size+1+1,8,none⟩) (by simp;omega) (.slice A1 body.length c1)
 have GO:(w1.setCell ⟨w.heap.size+1+1,8,none⟩ (.slice A1 body.length c1)).ownsRow w0.heap.size 5 1 (.slice A1 body.length c1) body.length (body.map u8c):=own_far ho1 (by have:=gzh.out;simp;omega) _
 have GZ:w.heap.size+3≤(w1.setCell ⟨w.heap.size+1+1,8,none⟩ (.slice A1 body.length c1)).heap.size:=by simpa using z1
 generalize w1.setCell ⟨w.heap.size+1+1,8,none⟩ (.slice A1 body.length c1)=w2 at G2 G0 G1 GB GO GZ ⊢
 clear g01 g11 B1 hs1 z1 g21 f81 y81 k1 ho1 hg1 hob1 x8 y8 f8 g0 g1 g2 gB hb1
 have GO2:=own_less GO (show w.heap.size+3≤w0.heap.size by have:=gzh.out;omega)
 clear GO gzh
 have x8:=G0.cell 8
 have y7:=G2.cell 7
 have f7:=G2.free 7
 simp only[q'a,q'z,q's] at x8 y7
 go_upto_region 6 with fail
 have H2:Blk (w2.setCell ⟨w.heap.size+1+1,7,none⟩ (.int .u16 (20+(body.length:Int)))) (w.heap.size+1+1) 54 #[.int .u16 age,.int .u8 opts,.int .u8 type,.int .u32 id,.int .u32 adv,.int .i32 seq,.int .u16 sum,.int .u16 (20+(body.length:Int)),.slice A1 body.length c1]:=G2.set_ 7 _
 have H1:=G1.far (p:=⟨w.heap.size+1+1,7,none⟩) (by simp) (.int .u16 (20+(body.length:Int)))
 have HB:=GB.setCell (p:=⟨w.heap.size+1+1,7,none⟩) (by simp;omega) (.int .u16 (20+(body.length:Int)))
 have HO:(w2.setCell ⟨w.heap.size+1+1,7,none⟩ (.int .u16 (20+(body.length:Int)))).ownsRow (w.heap.size+3) 5 1 (.slice A1 body.length c1) body.length (body.map u8c):=own_far GO2 (by simp) _
 have HZ:w.heap.size+3≤(w2.setCell ⟨w.heap.size+1+1,7,none⟩ (.int .u16 (20+(body.length:Int)))).heap.size:=by simpa using GZ
 generalize w2.setCell ⟨w.heap.size+1+1,7,none⟩ (.int .u16 (20+(body.length:Int)))=w3 at H2 H1 HB HO HZ ⊢
 clear G0 G1 G2 GB GO2 GZ x8 y7 f7
 have CB:=Lib.hid (CW.out _ w3 (Sl.of_own HO) (Nat.le_refl _))
 go_upto_region 7 with (first
  | (refine wpList_load_row rfl 54 (.tmp 4) rfl (w.heap.size+1+1) rfl 54 #[.int .u16 age,.int .u8 opts,.int .u8 type,.int .u32 id,.int .u32 adv,.int .i32 seq,.int .u16 sum,.int .u16 (20+(body.length:Int)),.slice A1 body.length c1] (0,0) _ H2 Tryz.underlying54 rfl (by kernel_rfl) ?_)
  | (go_at_call 56;refine Calls.mono CB.out ?_;rintro x w4 ⟨s4,rfl,ho4,k4⟩;obtain ⟨-,Ab,cb,rfl,hcc,-⟩:=Sl.of_own ho4))
 obtain ⟨v5,hd0,hd2⟩:=drop_ex u8T Ab L.length cb 2 (by have:=hLn.out;omega) hcc
 have hd:∀ W,(Instr.sliceAt 52 (.slice Ab L.length cb) (some (.int .i64 2)) none none).run Tryz.prog W=.ok v5 W:=hd0
 have hs4:=hd2 _ _ _ (Sl.of_own ho4)
 have hln:(L.drop 2).length=18+body.length:=by have:=hLn.out;rw[List.length_drop];omega
 have CF:=Lib.hid (fletcher_any _ v5 (L.drop 2) w4 (by rw[List.length_drop,List.map_drop];simpa using hs4) (by omega) (by omega) hhl.out)
 have J2:=H2.below k4 H2.lt
 have J1:=H1.below k4 H1.lt
 have JB:=HB.trans (k4.mono HB.size)
 have JO:=own_below HO k4
 have JZ:=Nat.le_trans HZ k4.size
 have j6:=J2.cell 6
 have jf6:=J2.free 6
 simp only[q'a,q'z,q's] at j6
 clear hd0 hd2 hs4 hcc CB H1 H2 HB HO HZ k4 ho4 hln
 go_upto_region 9 with (go_at_call 57;refine Calls.mono CF.out ?_;rintro x w5 ⟨r,rfl,hr,rfl⟩)
 have K2:Blk (w5.setCell ⟨w.heap.size+1+1,6,none⟩ (.int .u16 r)) (w.heap.size+1+1) 54 #[.int .u16 age,.int .u8 opts,.int .u8 type,.int .u32 id,.int .u32 adv,.int .i32 seq,.int .u16 r,.int .u16 (20+(body.length:Int)),.slice A1 body.length c1]:=J2.set_ 6 _
 have K1:=J1.far (p:=⟨w.heap.size+1+1,6,none⟩) (by simp) (.int .u16 r)
 have KB:=JB.setCell (p:=⟨w.heap.size+1+1,6,none⟩) (by simp;omega) (.int .u16 r)
 have KO:(w5.setCell ⟨w.heap.size+1+1,6,none⟩ (.int .u16 r)).ownsRow (w.heap.size+3) 5 1 (.slice A1 body.length c1) body.length (body.map u8c):=own_far JO (by simp) _
 have KZ:w.heap.size+3≤(w5.setCell ⟨w.heap.size+1+1,6,none⟩ (.int .u16 r)).heap.size:=by simpa using JZ
 generalize w5.setCell ⟨w.heap.size+1+1,6,none⟩ (.int .u16 r)=w6 at K2 K1 KB KO KZ ⊢
 clear hd CF J2 J1 JB JO JZ j6 jf6
 go_wp2_with (first
  | (refine wpList_load_row rfl 54 (.tmp 4) rfl (w.heap.size+1+1) rfl 54 #[.int .u16 age,.int .u8 opts,.int .u8 type,.int .u32 id,.int .u32 adv,.int .i32 seq,.int .u16 r,.int .u16 (20+(body.length:Int)),.slice A1 body.length c1] (0,0) _ K2 Tryz.underlying54 rfl (by kernel_rfl) ?_)
  | (refine wpList_store_row rfl 54 (.tmp 2) (.tmp 41) rfl (w.heap.size+1) #[.int .u16 age,.int .u8 opts,.int .u8 type,.int .u32 id,.int .u32 adv,.int .i32 seq,.int .u16 r,.int .u16 (20+(body.length:Int)),.slice A1 body.length c1] rfl rfl 54 #[.int .u16 0,.int .u8 0,.int .u8 0,.int .u32 0,.int .u32 0,.int .i32 0,.int .u16 0,.int .u16 0,.slice none 0 0] K1 (by kernel_rfl) rfl (by simp[Value.oneCell']) ?_))
 refine bodyPost_ret (results_cell_tmp_row rfl _ _ (w.heap.size+1) 54 #[.int .u16 age,.int .u8 opts,.int .u8 type,.int .u32 id,.int .u32 adv,.int .i32 seq,.int .u16 r,.int .u16 (20+(body.length:Int)),.slice A1 body.length c1] (0,0) _ rfl (setRow_heap _ _ #[.int .u16 0,.int .u8 0,.int .u8 0,.int .u32 0,.int .u32 0,.int .i32 0,.int .u16 0,.int .u16 0,.slice none 0 0] _ _ _ K1) Tryz.underlying54 rfl (by kernel_rfl)) rfl ?_
 have SB:Below w.heap.size w6 (w6.setRow (w.heap.size+1) #[.int .u16 age,.int .u8 opts,.int .u8 type,.int .u32 id,.int .u32 adv,.int .i32 seq,.int .u16 r,.int .u16 (20+(body.length:Int)),.slice A1 body.length c1]):=⟨rfl,rfl,rfl,by simp[World.setRow],fun k hk=>setRow_other _ _ k _ (by omega)⟩
 exact ⟨_,r,rfl,(hRR.out r).2 hr,own_same (own_less KO (by omega)) (fun k hk=>setRow_other _ _ k _ (by have:=(KO.lt k hk).1;omega)),KB.trans SB⟩
end Go.Proofs.YtiikagabdiphkaaGreat
namespace Go.Proofs.YtiikagabdiphkaaGreat
open Go.RowKit Go.Lo
set_option maxHeartbeats 1000000 in
theorem rmay3 (m k:Int) (n:Nat) (hm:MaskOf m n) (hk:k≤16777215) (w:World):Calls Tryz.prog 87 #[.int .u8 3,.agg (numC m k false 0 0)] w fun x w'=>x=.returned (.bool true)∧Below w.heap.size w w':=by
 have hB:Below w.heap.size w (w.alloc (.cells (numC m k false 0 0) 93)):=(Below.refl _ _).alloc (Nat.le_refl _) _
 have q0:Blk (w.alloc (.cells (numC m k false 0 0) 93)) w.heap.size 93 (numC m k false 0 0):=Blk.new _ _ _
 have C:=Lib.hid (fun W=>rbits_any m n hm W)
 have CA:=Lib.hid (fun W=>alone3 m k W)
 have hd:decide (16777215<k)=false:=decide_eq_false (by omega)
 go_enter Tryz.func87,Tryz.ntmps87
 go_upto_region 2 with (go_at_call 69;refine Calls.mono (C.out _) ?_;rintro x w1 ⟨rfl,rfl⟩)
 go_upto_region 4 with (go_at_call 127;refine Calls.mono (CA.out _) ?_;rintro x w1 ⟨rfl,k1⟩;have q1:=q0.below k1 q0.lt;have x4:=q1.cell 4;have x8:=q1.cell 8;have x3:=q1.cell 3;have x1:=q1.cell 1;simp only[q'a,q'z,q's] at x4 x8 x3 x1)
 have B1:=hB.trans (k1.mono hB.size)
 go_wp2
 go_loopg [7] 0 (fun mm i wr=>mm=0∧i=.int .i64 0∧wr=w1)
 case atStart=>exact ⟨rfl,rfl,rfl⟩
 case round =>
  obtain ⟨-,rfl,rfl⟩:=hrel
  go_wp2
  go_ret
  exact ⟨rfl,B1⟩
set_option maxHeartbeats 1000000 in
theorem rmay5 (m k:Int) (t2:Bool) (fw tg:Int) (n:Nat) (hm:MaskOf m n) (hk:k≤16777215) (w:World):Calls Tryz.prog 87 #[.int .u8 5,.agg (numC m k t2 fw tg)] w fun x w'=>x=.returned (.bool true)∧Below w.heap.size w w':=by
 have hB:Below w.heap.size w (w.alloc (.cells (numC m k t2 fw tg) 93)):=(Below.refl _ _).alloc (Nat.le_refl _) _
 have q0:Blk (w.alloc (.cells (numC m k t2 fw tg) 93)) w.heap.size 93 (numC m k t2 fw tg):=Blk.new _ _ _
 have C:=Lib.hid (fun W=>rbits_any m n hm W)
 have CA:=Lib.hid (fun W=>alone5 m k t2 fw tg W)
 have hd:decide (16777215<k)=false:=decide_eq_false (by omega)
 go_enter Tryz.func87,Tryz.ntmps87
 go_upto_region 2 with (go_at_call 69;refine Calls.mono (C.out _) ?_;rintro x w1 ⟨rfl,rfl⟩)
 go_upto_region 4 with (go_at_call 127;refine Calls.mono (CA.out _) ?_;rintro x w1 ⟨rfl,k1⟩;have q1:=q0.below k1 q0.lt;have x4:=q1.cell 4;have x8:=q1.cell 8;have x3:=q1.cell 3;have x1:=q1.cell 1;simp only[q'a,q'z,q's] at x4 x8 x3 x1)
 have B1:=hB.trans (k1.mono hB.size)
 go_wp2
 go_loopg [7] 0 (fun mm i wr=>mm=0∧i=.int .i64 0∧wr=w1)
 case atStart=>exact ⟨rfl,rfl,rfl⟩
 case round =>
  obtain ⟨-,rfl,rfl⟩:=hrel
  go_wp2
  go_ret
  exact ⟨rfl,B1⟩
set_option maxHeartbeats 2000000 in
theorem lay5 (m k fw tg:Int) (hm:0≤m∧m<4294967296) (hk:0≤k∧k<4294967296) (hfw:0≤fw∧fw<4294967296) (htg:0≤tg∧tg<4294967296) (w:World):Calls Tryz.prog 88 #[.int .u8 5,.agg (numC m k false fw tg)] w fun x w'=>∃ s,x=.returned s∧w'.ownsRow w.heap.size 5 1 s 16 ((beN m 4++beN k 4++beN fw 4++beN tg 4).map u8c)∧Below w.heap.size w w':=by
 have hw:=Nat.le_refl w.heap.size
 have S0:BS w (w.alloc (.cells (numC m k false fw tg) 93)) w.heap.size 93 (numC m k false fw tg) (.slice none 0 0) []:=⟨Blk.new _ _ _,World.ownsRow_nil _ _ _ _,(Below.refl _ _).alloc (Nat.le_refl _) _⟩
 go_enter Tryz.func88,Tryz.ntmps88
 go_upto_region 1 with fail
 dsimp only[numC] at S0
 generalize w.alloc (.cells (#[.int .u8 0,.slice none 0 0,.int .u32 m,.slice none 0 0,.int .u32 k,.bool false,.int .u32 fw,.int .u32 tg,.slice none 0 0]:Array Value) 93)=W0 at S0 ⊢
 have x2:=S0.blk.cell 2
 simp only[q'a,q'z,q's] at x2
 have hl0:(([]:List Int)).length=0:=rfl
 have O0:=S0.own
 rw[hl0] at O0
 obtain ⟨-,A0,c0,hv0,-⟩:=Sl.of_own O0
 clear hv0
 replace O0:=Lib.hid O0
 have Z0:=S0.blk.lt
 replace S0:=Lib.hid S0
 have C:=Lib.hid (four_any (m) hm W0)
 go_upto_region 28 with (first
  | (go_at_call 129;refine Calls.mono C.out ?_;rintro x Y1 ⟨s,rfl,hs,kk⟩;obtain ⟨-,As,cs,rfl,-⟩:=Sl.of_own hs;have hs2:=Lib.hid hs;clear hs;have kz:=kk.size)
  | (at_builtin;refine wpList_append rfl (.tmp 99) (.tmp 102) 52 rfl (w.heap.size+1) u8T _ 0 _ rfl (own_below O0.out kk) _ _ 4 _ rfl (Sl.of_own hs2.out) (u8s_oneCell _) (by simp only[maxLen];omega) (by omega) (by omega) ?_;intro v1 W1 ho hg hob))
 have S1:BS w W1 w.heap.size 93 _ v1 (beN (m) 4):=S0.out.step (M:=beN (m) 4) hw kk hg (by rw[hl0,beN_len _ _ (by omega)];exact ho)
 clear ho hg hob O0 x2 S0 hl0 C hs2 kk
 have x4:=S1.blk.cell 4
 have x5:=S1.blk.cell 5
 simp only[q'a,q'z,q's] at x4 x5
 have hl1:(beN (m) 4).length=4:=by simp[beN_len]
 have O1:=S1.own
 rw[hl1] at O1
 obtain ⟨-,A1,c1,hv1,-⟩:=Sl.of_own O1
 subst hv1
 replace O1:=Lib.hid O1
 have Z1:=S1.blk.lt
 replace S1:=Lib.hid S1
 have C:=Lib.hid (four_any (k) hk W1)
 go_upto_region 32 with (first
  | (go_at_call 129;refine Calls.mono C.out ?_;rintro x Y2 ⟨s,rfl,hs,kk⟩;obtain ⟨-,As,cs,rfl,-⟩:=Sl.of_own hs;have hs2:=Lib.hid hs;clear hs;have kz:=kk.size)
  | (at_builtin;refine wpList_append rfl (.tmp 110) (.tmp 112) 52 rfl (w.heap.size+1) u8T _ 4 _ rfl (own_below O1.out kk) _ _ 4 _ rfl (Sl.of_own hs2.out) (u8s_oneCell _) (by simp only[maxLen];omega) (by omega) (by omega) ?_;intro v2 W2 ho hg hob))
 have S2:BS w W2 w.heap.size 93 _ v2 (beN (m) 4++beN (k) 4):=S1.out.step (M:=beN (k) 4) hw kk hg (by rw[hl1,beN_len _ _ (by omega)];exact ho)
 clear ho hg hob O1 x4 x5 S1 hl1 C hs2 kk
 have x6:=S2.blk.cell 6
 simp only[q'a,q'z,q's] at x6
 have hl2:(beN (m) 4++beN (k) 4).length=8:=by simp[beN_len]
 have O2:=S2.own
 rw[hl2] at O2
 obtain ⟨-,A2,c2,hv2,-⟩:=Sl.of_own O2
 subst hv2
 replace O2:=Lib.hid O2
 have Z2:=S2.blk.lt
 replace S2:=Lib.hid S2
 have C:=Lib.hid (four_any (fw) hfw W2)
 go_upto_region 33 with (first
  | (go_at_call 129;refine Calls.mono C.out ?_;rintro x Y3 ⟨s,rfl,hs,kk⟩;obtain ⟨-,As,cs,rfl,-⟩:=Sl.of_own hs;have hs2:=Lib.hid hs;clear hs;have kz:=kk.size)
  | (at_builtin;refine wpList_append rfl (.tmp 114) (.tmp 117) 52 rfl (w.heap.size+1) u8T _ 8 _ rfl (own_below O2.out kk) _ _ 4 _ rfl (Sl.of_own hs2.out) (u8s_oneCell _) (by simp only[maxLen];omega) (by omega) (by omega) ?_;intro v3 W3 ho hg hob))
 have S3:BS w W3 w.heap.size 93 _ v3 (beN (m) 4++beN (k) 4++beN (fw) 4):=S2.out.step (M:=beN (fw) 4) hw kk hg (by rw[hl2,beN_len _ _ (by omega)];exact ho)
 clear ho hg hob O2 x6 S2 hl2 C hs2 kk
 have x7:=S3.blk.cell 7
 simp only[q'a,q'z,q's] at x7
 have hl3:(beN (m) 4++beN (k) 4++beN (fw) 4).length=12:=by simp[beN_len]
 have O3:=S3.own
 rw[hl3] at O3
 obtain ⟨-,A3,c3,hv3,-⟩:=Sl.of_own O3
 subst hv3
 replace O3:=Lib.hid O3
 have Z3:=S3.blk.lt
 replace S3:=Lib.hid S3
 have C:=Lib.hid (four_any (tg) htg W3)
 go_wp2_with (first
  | (go_at_call 129;refine Calls.mono C.out ?_;rintro x Y4 ⟨s,rfl,hs,kk⟩;obtain ⟨-,As,cs,rfl,-⟩:=Sl.of_own hs;have hs2:=Lib.hid hs;clear hs;have kz:=kk.size)
  | (at_builtin;refine wpList_append rfl (.tmp 119) (.tmp 122) 52 rfl (w.heap.size+1) u8T _ 12 _ rfl (own_below O3.out kk) _ _ 4 _ rfl (Sl.of_own hs2.out) (u8s_oneCell _) (by simp only[maxLen];omega) (by omega) (by omega) ?_;intro v4 W4 ho hg hob))
 have S4:=S3.out.step (M:=beN (tg) 4) hw kk hg (by rw[hl3,beN_len _ _ (by omega)];exact ho)
 go_ret
 refine ⟨_,rfl,?_,S4.far⟩
 have O:=own_less S4.own (Nat.le_succ _)
 rw[show (beN (m) 4++beN (k) 4++beN (fw) 4++beN (tg) 4).length=16 from by simp[beN_len]] at O
 exact O
end Go.Proofs.YtiikagabdiphkaaGreat
namespace Go.Proofs.YtiikagabdiphkaaGreat
open Go.RowKit Go.Lo
abbrev encH5 (age opts id adv seq:Int):OHead:=⟨age,opts,5,id,adv,seq,0,0⟩
set_option maxHeartbeats 400000 in
theorem encode5 (age opts id adv seq:Int) (ok:HeadOk (encH5 age opts id adv seq)) (m k fw tg:Int) (n:Nat) (hmm:MaskOf m n) (hkk:k≤16777215) (hm0:0≤m∧m<4294967296) (hk0:0≤k∧k<4294967296) (hf0:0≤fw∧fw<4294967296) (ht0:0≤tg∧tg<4294967296) (w:World) :
  Calls Tryz.prog 91 #[.agg #[.int .u16 age,.int .u8 opts,.int .u8 5,.int .u32 id,.int .u32 adv,.int .i32 seq,.int .u16 0,.int .u16 0],.agg (numC m k false fw tg)] w fun x w'=>∃ v r,x=.returned (.tuple #[stateVal { encH5 age opts id adv seq with len:=36,sum:=r } v,.int .i64 0])∧sealR (encH5 age opts id adv seq) (beN m 4++beN k 4++beN fw 4++beN tg 4) r∧w'.ownsRow w.heap.size 5 1 v 16 ((beN m 4++beN k 4++beN fw 4++beN tg 4).map u8c)∧Below w.heap.size w w':=by
 have g0:Blk (((w.alloc (.cells #[.int .u16 age,.int .u8 opts,.int .u8 5,.int .u32 id,.int .u32 adv,.int .i32 seq,.int .u16 0,.int .u16 0] 51)).alloc (.cells #[.int .u8 0,.slice none 0 0,.int .u32 m,.slice none 0 0,.int .u32 k,.bool false,.int .u32 fw,.int .u32 tg,.slice none 0 0] 93)).alloc (.cells #[.int .u16 0,.int .u8 0,.int .u8 0,.int .u32 0,.int .u32 0,.int .i32 0,.int .u16 0,.int .u16 0,.slice none 0 0] 54)) w.heap.size 51 #[.int .u16 age,.int .u8 opts,.int .u8 5,.int .u32 id,.int .u32 adv,.int .i32 seq,.int .u16 0,.int .u16 0]:=((Blk.new _ _ _).alloc _).alloc _
 have g1:Blk (((w.alloc (.cells #[.int .u16 age,.int .u8 opts,.int .u8 5,.int .u32 id,.int .u32 adv,.int .i32 seq,.int .u16 0,.int .u16 0] 51)).alloc (.cells #[.int .u8 0,.slice none 0 0,.int .u32 m,.slice none 0 0,.int .u32 k,.bool false,.int .u32 fw,.int .u32 tg,.slice none 0 0] 93)).alloc (.cells #[.int .u16 0,.int .u8 0,.int .u8 0,.int .u32 0,.int .u32 0,.int .i32 0,.int .u16 0,.int .u16 0,.slice none 0 0] 54)) (w.heap.size+1) 93 #[.int .u8 0,.slice none 0 0,.int .u32 m,.slice none 0 0,.int .u32 k,.bool false,.int .u32 fw,.int .u32 tg,.slice none 0 0]:=(Blk.new_ _ (by simp)).alloc _
 have g2:Blk (((w.alloc (.cells #[.int .u16 age,.int .u8 opts,.int .u8 5,.int .u32 id,.int .u32 adv,.int .i32 seq,.int .u16 0,.int .u16 0] 51)).alloc (.cells #[.int .u8 0,.slice none 0 0,.int .u32 m,.slice none 0 0,.int .u32 k,.bool false,.int .u32 fw,.int .u32 tg,.slice none 0 0] 93)).alloc (.cells #[.int .u16 0,.int .u8 0,.int .u8 0,.int .u32 0,.int .u32 0,.int .i32 0,.int .u16 0,.int .u16 0,.slice none 0 0] 54)) (w.heap.size+1+1) 54 #[.int .u16 0,.int .u8 0,.int .u8 0,.int .u32 0,.int .u32 0,.int .i32 0,.int .u16 0,.int .u16 0,.slice none 0 0]:=Blk.new_ _ (by simp)
 have gB:Below w.heap.size w (((w.alloc (.cells #[.int .u16 age,.int .u8 opts,.int .u8 5,.int .u32 id,.int .u32 adv,.int .i32 seq,.int .u16 0,.int .u16 0] 51)).alloc (.cells #[.int .u8 0,.slice none 0 0,.int .u32 m,.slice none 0 0,.int .u32 k,.bool false,.int .u32 fw,.int .u32 tg,.slice none 0 0] 93)).alloc (.cells #[.int .u16 0,.int .u8 0,.int .u8 0,.int .u32 0,.int .u32 0,.int .i32 0,.int .u16 0,.int .u16 0,.slice none 0 0] 54)):=(((Below.refl _ _).alloc (Nat.le_refl _) _).alloc (by simp) _).alloc (by simp;omega) _
 have hbl:(beN m 4++beN k 4++beN fw 4++beN tg 4).length=16:=rfl
 have hb8:∀ x∈beN m 4++beN k 4++beN fw 4++beN tg 4,0≤x∧x<256:=fun x hx=>by
  simp only[List.mem_append] at hx
  rcases hx with ((hx | hx) | hx) | hx
  all_goals exact beN_byt _ _ x hx
 have CL:=Lib.hid (fun W=>lay5 m k fw tg hm0 hk0 hf0 ht0 W)
 have CM:=Lib.hid (fun W=>rmay5 m k false fw tg n hmm hkk W)
 have CZ:=Lib.hid (fun W=>size5 m k false fw tg W)
 have CK:=Lib.hid (fun W=>known5 W)
 have CS:=fun (A:Option Addr) (c:Nat) W (ho:W.ownsRow (w.heap.size+1+1+1) 5 1 (.slice A 16 c) 16 ((beN m 4++beN k 4++beN fw 4++beN tg 4).map u8c))=>seal_any (encH5 age opts id adv seq) ok W.heap.size (.slice A 16 c) (beN m 4++beN k 4++beN fw 4++beN tg 4) W (Sl.of_own ho) (Nat.le_refl _) (by rw[hbl];omega) hb8
 generalize beN m 4++beN k 4++beN fw 4++beN tg 4=L at CL CS hbl ⊢
 rw[hbl] at CS
 dsimp only[stateVal,encH5] at CS ⊢
 simp only[show (20+((16:Nat):Int))=36 from rfl] at CS
 replace CS:=Lib.hid CS
 clear hb8 hbl ok hmm hkk
 dsimp only[numC] at *
 go_enter Tryz.func91,Tryz.ntmps91
 go_upto_region 1 with fail
 generalize ((w.alloc (.cells #[.int .u16 age,.int .u8 opts,.int .u8 5,.int .u32 id,.int .u32 adv,.int .i32 seq,.int .u16 0,.int .u16 0] 51)).alloc (.cells #[.int .u8 0,.slice none 0 0,.int .u32 m,.slice none 0 0,.int .u32 k,.bool false,.int .u32 fw,.int .u32 tg,.slice none 0 0] 93)).alloc (.cells #[.int .u16 0,.int .u8 0,.int .u8 0,.int .u32 0,.int .u32 0,.int .i32 0,.int .u16 0,.int .u16 0,.slice none 0 0] 54)=w0 at g0 g1 g2 gB ⊢
 have x2:=g0.cell 2
 simp only[q'a,q'z,q's] at x2
 go_upto_region 3 with (go_at_call 77;refine Calls.mono (CK.out _) ?_;rintro x w1 ⟨rfl,rfl⟩)
 go_upto_region 5 with (first
  | (refine wpList_load_row rfl 93 (.tmp 3) rfl (w.heap.size+1) rfl 93 #[.int .u8 0,.slice none 0 0,.int .u32 m,.slice none 0 0,.int .u32 k,.bool false,.int .u32 fw,.int .u32 tg,.slice none 0 0] (0,0) _ g1 Tryz.underlying93 rfl (by kernel_rfl) ?_)
  | (go_at_call 87;refine Calls.mono (CM.out _) ?_;rintro x w2 ⟨rfl,k2⟩))
 have p0:=g0.below k2 g0.lt
 have p1:=g1.below k2 g1.lt
 have p2:=g2.below k2 g2.lt
 have pB:=gB.trans (k2.mono gB.size)
 clear g0 g1 g2 gB k2 x2
 have x2:=p0.cell 2
 simp only[q'a,q'z,q's] at x2
 go_upto_region 7 with (first
  | (refine wpList_load_row rfl 93 (.tmp 3) rfl (w.heap.size+1) rfl 93 #[.int .u8 0,.slice none 0 0,.int .u32 m,.slice none 0 0,.int .u32 k,.bool false,.int .u32 fw,.int .u32 tg,.slice none 0 0] (0,0) _ p1 Tryz.underlying93 rfl (by kernel_rfl) ?_)
  | (go_at_call 134;refine Calls.mono (CZ.out _) ?_;rintro x w3 ⟨rfl,k3⟩))
 have q0:=p0.below k3 p0.lt
 have q1:=p1.below k3 p1.lt
 have q2:=p2.below k3 p2.lt
 have qB:=pB.trans (k3.mono pB.size)
 clear p0 p1 p2 pB k3 x2
 have a0:∀ W,Below (w.heap.size+1+1) w3 W→W.cell? ⟨w.heap.size,0,none⟩=some (.int .u16 age):=fun W h=>(h.cell (p:=⟨w.heap.size,0,none⟩) (by show w.heap.size<w.heap.size+1+1;omega)).trans (q0.cell 0)
 have a1:∀ W,Below (w.heap.size+1+1) w3 W→W.cell? ⟨w.heap.size,1,none⟩=some (.int .u8 opts):=fun W h=>(h.cell (p:=⟨w.heap.size,1,none⟩) (by show w.heap.size<w.heap.size+1+1;omega)).trans (q0.cell 1)
 have a2:∀ W,Below (w.heap.size+1+1) w3 W→W.cell? ⟨w.heap.size,2,none⟩=some (.int .u8 5):=fun W h=>(h.cell (p:=⟨w.heap.size,2,none⟩) (by show w.heap.size<w.heap.size+1+1;omega)).trans (q0.cell 2)
 have a3:∀ W,Below (w.heap.size+1+1) w3 W→W.cell? ⟨w.heap.size,3,none⟩=some (.int .u32 id):=fun W h=>(h.cell (p:=⟨w.heap.size,3,none⟩) (by show w.heap.size<w.heap.size+1+1;omega)).trans (q0.cell 3)
 have a4:∀ W,Below (w.heap.size+1+1) w3 W→W.cell? ⟨w.heap.size,4,none⟩=some (.int .u32 adv):=fun W h=>(h.cell (p:=⟨w.heap.size,4,none⟩) (by show w.heap.size<w.heap.size+1+1;omega)).trans (q0.cell 4)
 have a5:∀ W,Below (w.heap.size+1+1) w3 W→W.cell? ⟨w.heap.size,5,none⟩=some (.int .i32 seq):=fun W h=>(h.cell (p:=⟨w.heap.size,5,none⟩) (by show w.heap.size<w.heap.size+1+1;omega)).trans (q0.cell 5)
 have a6:∀ W,Below (w.heap.size+1+1) w3 W→W.cell? ⟨w.heap.size,6,none⟩=some (.int .u16 0):=fun W h=>(h.cell (p:=⟨w.heap.size,6,none⟩) (by show w.heap.size<w.heap.size+1+1;omega)).trans (q0.cell 6)
 have a7:∀ W,Below (w.heap.size+1+1) w3 W→W.cell? ⟨w.heap.size,7,none⟩=some (.int .u16 0):=fun W h=>(h.cell (p:=⟨w.heap.size,7,none⟩) (by show w.heap.size<w.heap.size+1+1;omega)).trans (q0.cell 7)
 have b0:∀ W,Below (w.heap.size+1+1) w3 W→W.cell? ⟨w.heap.size+1,0,none⟩=some (.int .u8 0):=fun W h=>(h.cell (p:=⟨w.heap.size+1,0,none⟩) (by show w.heap.size+1<w.heap.size+1+1;omega)).trans (q1.cell 0)
 have b1:∀ W,Below (w.heap.size+1+1) w3 W→W.cell? ⟨w.heap.size+1,1,none⟩=some (.slice none 0 0):=fun W h=>(h.cell (p:=⟨w.heap.size+1,1,none⟩) (by show w.heap.size+1<w.heap.size+1+1;omega)).trans (q1.cell 1)
 have b2:∀ W,Below (w.heap.size+1+1) w3 W→W.cell? ⟨w.heap.size+1,2,none⟩=some (.int .u32 m):=fun W h=>(h.cell (p:=⟨w.heap.size+1,2,none⟩) (by show w.heap.size+1<w.heap.size+1+1;omega)).trans (q1.cell 2)
 have b3:∀ W,Below (w.heap.size+1+1) w3 W→W.cell? ⟨w.heap.size+1,3,none⟩=some (.slice none 0 0):=fun W h=>(h.cell (p:=⟨w.heap.size+1,3,none⟩) (by show w.heap.size+1<w.heap.size+1+1;omega)).trans (q1.cell 3)
 have b4:∀ W,Below (w.heap.size+1+1) w3 W→W.cell? ⟨w.heap.size+1,4,none⟩=some (.int .u32 k):=fun W h=>(h.cell (p:=⟨w.heap.size+1,4,none⟩) (by show w.heap.size+1<w.heap.size+1+1;omega)).trans (q1.cell 4)
 have b5:∀ W,Below (w.heap.size+1+1) w3 W→W.cell? ⟨w.heap.size+1,5,none⟩=some (.bool false):=fun W h=>(h.cell (p:=⟨w.heap.size+1,5,none⟩) (by show w.heap.size+1<w.heap.size+1+1;omega)).trans (q1.cell 5)
 have b6:∀ W,Below (w.heap.size+1+1) w3 W→W.cell? ⟨w.heap.size+1,6,none⟩=some (.int .u32 fw):=fun W h=>(h.cell (p:=⟨w.heap.size+1,6,none⟩) (by show w.heap.size+1<w.heap.size+1+1;omega)).trans (q1.cell 6)
 have b7:∀ W,Below (w.heap.size+1+1) w3 W→W.cell? ⟨w.heap.size+1,7,none⟩=some (.int .u32 tg):=fun W h=>(h.cell (p:=⟨w.heap.size+1,7,none⟩) (by show w.heap.size+1<w.heap.size+1+1;omega)).trans (q1.cell 7)
 have b8:∀ W,Below (w.heap.size+1+1) w3 W→W.cell? ⟨w.heap.size+1,8,none⟩=some (.slice none 0 0):=fun W h=>(h.cell (p:=⟨w.heap.size+1,8,none⟩) (by show w.heap.size+1<w.heap.size+1+1;omega)).trans (q1.cell 8)
 have hz:=q2.lt
 have Q2:=Lib.hid q2
 have QB:=Lib.hid qB
 clear q0 q1 q2 qB
 go_region_held3 (fun W=>Below (w.heap.size+1+1) w3 W) (first | assumption | exact (Below.refl _ _).drew | exact Below.refl _ _ | exact HS4.mono (by omega) | exact HS5.mono (by omega) | exact pW6.below (HS5.mono (by omega)) (by omega) | fail)
  (first
   | (go_at_call 88;have C:=CL.out w3.drew;(with_reducible refine Calls.mono C ?_);clear C;rintro x w4 ⟨s,rfl,ho4,k4⟩;have HS4:=below_call (B:=w.heap.size+1+1+1) (a:=w3) (by first | assumption | exact (Below.refl _ _).drew | exact Below.refl _ _) k4 (by omega);have HO4:=own_less ho4 (show w.heap.size+1+1+1≤w3.drew.heap.size by show _≤w3.heap.size;omega);obtain ⟨-,A4,c4,rfl,-⟩:=Sl.of_own HO4;replace HO4:=Lib.hid HO4;clear ho4 k4)
   | (go_at_call 22;have C:=CS.out _ _ _ HO4.out;(with_reducible refine Calls.mono C ?_);clear C;rintro x w5 ⟨v,r,rfl,hr,ho5,k5⟩;obtain ⟨-,A5,c5,rfl,-⟩:=Sl.of_own ho5;have HS5:=below_call HS4 k5 (by omega);have HZ4:=HS4.size;replace HO5:=Lib.hid (own_less ho5 (show w.heap.size+1+1+1≤_ by omega));clear ho5 k5 a0 a1 a2 a3 a4 a5 a6 a7 b0 b1 b2 b3 b4 b5 b6 b7 b8)
   | (have _q:=HO5;refine upon9 (t:=54) (x0:=.int .u16 0) (x1:=.int .u8 0) (x2:=.int .u8 0) (x3:=.int .u32 0) (x4:=.int .u32 0) (x5:=.int .i32 0) (x6:=.int .u16 0) (x7:=.int .u16 0) (x8:=.slice none 0 0) ?_ _ _ _ _ _ _ _ _ _ ?_;(focus (exact Q2.out.below HS5 (by omega)));intro W6 kW6 pW6)
   | fail)
 all_goals
  go_wp2
  have QZ:=QB.out
  have HZ5:=HS5.size
  refine bodyPost_ret (results_cell_tmp_row rfl _ _ (w.heap.size+1+1) 54 _ (0,0) _ rfl kW6 Tryz.underlying54 rfl (by kernel_rfl)) rfl ?_
  exact ⟨_,r,rfl,hr,own_put pW6 (own_less HO5.out (by omega)) (by decide),pW6.below (QZ.trans (HS5.mono (by omega))) (by omega)⟩
end Go.Proofs.YtiikagabdiphkaaGreat
