/- The document encodes and checks a state. -/
import Derived.Test.YtcknpofnpabkiaaGreatRpAP
import Derived.Test.YtcknpofnpabkiaaGreatRpAR
import Derived.Test.YtcknpofnpabkiaaGreatRpAA
set_option maxRecDepth 100000
namespace Go.Proofs.YtcknpofnpabkiaaGreat
open Go.RowKit Go.Lo
theorem four_byte (v:Int):∀ x∈be4 v,0≤x∧x<256:=by
 intro x hx
 simp only[be4,List.mem_cons,List.not_mem_nil,or_false] at hx
 omega
theorem beN_byt (v:Int) (n:Nat):∀ x∈beN v n,0≤x∧x<256:=fun x hx=>four_byte v x (List.mem_of_mem_drop hx)
theorem headB_byt (h:OHead) (ok:HeadOk h):∀ x∈headB h,0≤x∧x<256:=by
 intro x hx
 simp only[headB,List.mem_append,List.mem_cons,List.not_mem_nil,or_false] at hx
 rcases hx with h | (rfl | rfl) | h | h | h | h | h
 ·exact beN_byt _ _ x h
 ·exact ok.opts
 ·exact ok.type
 ·exact beN_byt _ _ x h
 ·exact beN_byt _ _ x h
 ·exact beN_byt _ _ x h
 ·exact beN_byt _ _ x h
 ·exact beN_byt _ _ x h
def sealB (h:OHead) (body:List Int):List Int:=(headB { h with len:=20+body.length }++body).drop 2
def sealR (h:OHead) (body:List Int) (r:Int):Prop:=FlR (sumsTo (sealB h body) 14 (sealB h body).length) ((((sealB h body).length:Int)-14)%255) r
set_option maxHeartbeats 2000000 in
theorem seal_any (h:OHead) (ok:HeadOk h) (B:Nat) (bv:Value) (body:List Int) (w:World) (hb:Sl w B 1 bv body.length (body.map u8c)) (hB:B≤w.heap.size) (hn:body.length≤65515) (hl8:∀ x∈body,0≤x∧x<256) :
  Calls Tryz.prog 108 #[stateVal h bv] w fun x w'=>∃ v r,x=.returned (.tuple #[stateVal { h with len:=20+body.length,sum:=r } v,.int .i64 0])∧sealR h body r∧w'.ownsRow w.heap.size 5 1 v body.length (body.map u8c)∧Below w.heap.size w w':=by
 have hb0:=hb
 have ok2:HeadOk { h with len:=20+body.length }:=⟨ok.age,ok.opts,ok.type,ok.id,ok.adv,ok.seq,ok.sum,by constructor <;> simp only <;> omega⟩
 have CW:=fun v W hs hz=>rbytes_any { h with len:=20+body.length } ok2 W.heap.size v body W hs hz (by omega)
 have hLn:(headB { h with len:=20+body.length }++body).length=20+body.length:=by rw[l'a,headB_len]
 have hh8:∀ x∈(headB { h with len:=20+body.length }++body).drop 2,0≤x∧x<256:=fun x hx=>by
  rcases List.mem_append.1 (List.mem_of_mem_drop hx) with h1 | h1
  ·exact headB_byt _ ok2 x h1
  ·exact hl8 x h1
 have hR:∀ r,sealR h body r↔FlR (sumsTo ((headB { h with len:=20+body.length }++body).drop 2) 14 ((headB { h with len:=20+body.length }++body).drop 2).length) (((((headB { h with len:=20+body.length }++body).drop 2).length:Int)-14)%255) r:=fun r=>Iff.rfl
 generalize headB { h with len:=20+body.length }++body=L at CW hh8 hLn hR
 have hRR:=h'd hR
 clear hR ok2 ok
 replace CW:=h'd CW
 replace hLn:=h'd hLn
 have hhl:=h'd hh8
 clear hh8
 obtain ⟨age,opts,type,id,adv,seq,sum,len⟩:=h
 dsimp only at CW ⊢
 obtain ⟨-,A,c,rfl,-⟩:=hb
 dsimp only[stateVal] at CW ⊢
 have wl:wrap64 ((body.length:Int)+20)=(body.length:Int)+20:=by unfold wrap64;omega
 have wl2:wrap64 (20+(body.length:Int))=20+(body.length:Int):=by unfold wrap64;omega
 have wl3:IntKind.u16.wrap (20+(body.length:Int))=20+(body.length:Int):=by show (20+(body.length:Int))%65536=_;omega
 have dl:decide (65535<(body.length:Int)+20)=false:=d'f (by omega)
 go_enter Tryz.func108,Tryz.ntmps108
 have g0:Blk (((w.alloc (.cells #[.int .u16 age,.int .u8 opts,.int .u8 type,.int .u32 id,.int .u32 adv,.int .i32 seq,.int .u16 sum,.int .u16 len,.slice A body.length c] 71)).alloc (.cells #[.int .u16 0,.int .u8 0,.int .u8 0,.int .u32 0,.int .u32 0,.int .i32 0,.int .u16 0,.int .u16 0,.slice none 0 0] 71)).alloc (.cells #[.int .u16 age,.int .u8 opts,.int .u8 type,.int .u32 id,.int .u32 adv,.int .i32 seq,.int .u16 sum,.int .u16 len,.slice none 0 0] 71)) w.heap.size 71 #[.int .u16 age,.int .u8 opts,.int .u8 type,.int .u32 id,.int .u32 adv,.int .i32 seq,.int .u16 sum,.int .u16 len,.slice A body.length c]:=((Blk.new _ _ _).alloc _).alloc _
 have g1:Blk (((w.alloc (.cells #[.int .u16 age,.int .u8 opts,.int .u8 type,.int .u32 id,.int .u32 adv,.int .i32 seq,.int .u16 sum,.int .u16 len,.slice A body.length c] 71)).alloc (.cells #[.int .u16 0,.int .u8 0,.int .u8 0,.int .u32 0,.int .u32 0,.int .i32 0,.int .u16 0,.int .u16 0,.slice none 0 0] 71)).alloc (.cells #[.int .u16 age,.int .u8 opts,.int .u8 type,.int .u32 id,.int .u32 adv,.int .i32 seq,.int .u16 sum,.int .u16 len,.slice none 0 0] 71)) (w.heap.size+1) 71 #[.int .u16 0,.int .u8 0,.int .u8 0,.int .u32 0,.int .u32 0,.int .i32 0,.int .u16 0,.int .u16 0,.slice none 0 0]:=(Blk.new_ _ (by simp)).alloc _
 have g2:Blk (((w.alloc (.cells #[.int .u16 age,.int .u8 opts,.int .u8 type,.int .u32 id,.int .u32 adv,.int .i32 seq,.int .u16 sum,.int .u16 len,.slice A body.length c] 71)).alloc (.cells #[.int .u16 0,.int .u8 0,.int .u8 0,.int .u32 0,.int .u32 0,.int .i32 0,.int .u16 0,.int .u16 0,.slice none 0 0] 71)).alloc (.cells #[.int .u16 age,.int .u8 opts,.int .u8 type,.int .u32 id,.int .u32 adv,.int .i32 seq,.int .u16 sum,.int .u16 len,.slice none 0 0] 71)) (w.heap.size+1+1) 71 #[.int .u16 age,.int .u8 opts,.int .u8 type,.int .u32 id,.int .u32 adv,.int .i32 seq,.int .u16 sum,.int .u16 len,.slice none 0 0]:=Blk.new_ _ (by simp)
 have gB:Below w.heap.size w (((w.alloc (.cells #[.int .u16 age,.int .u8 opts,.int .u8 type,.int .u32 id,.int .u32 adv,.int .i32 seq,.int .u16 sum,.int .u16 len,.slice A body.length c] 71)).alloc (.cells #[.int .u16 0,.int .u8 0,.int .u8 0,.int .u32 0,.int .u32 0,.int .i32 0,.int .u16 0,.int .u16 0,.slice none 0 0] 71)).alloc (.cells #[.int .u16 age,.int .u8 opts,.int .u8 type,.int .u32 id,.int .u32 adv,.int .i32 seq,.int .u16 sum,.int .u16 len,.slice none 0 0] 71)):=(((b'r _ _).alloc (n'r _) _).alloc (by simp) _).alloc (by simp;omega) _
 have gz:(((w.alloc (.cells #[.int .u16 age,.int .u8 opts,.int .u8 type,.int .u32 id,.int .u32 adv,.int .i32 seq,.int .u16 sum,.int .u16 len,.slice A body.length c] 71)).alloc (.cells #[.int .u16 0,.int .u8 0,.int .u8 0,.int .u32 0,.int .u32 0,.int .i32 0,.int .u16 0,.int .u16 0,.slice none 0 0] 71)).alloc (.cells #[.int .u16 age,.int .u8 opts,.int .u8 type,.int .u32 id,.int .u32 adv,.int .i32 seq,.int .u16 sum,.int .u16 len,.slice none 0 0] 71)).heap.size=w.heap.size+1+1+1:=by simp
 go_upto_region 4 with fail
 generalize ((w.alloc (.cells #[.int .u16 age,.int .u8 opts,.int .u8 type,.int .u32 id,.int .u32 adv,.int .i32 seq,.int .u16 sum,.int .u16 len,.slice A body.length c] 71)).alloc (.cells #[.int .u16 0,.int .u8 0,.int .u8 0,.int .u32 0,.int .u32 0,.int .i32 0,.int .u16 0,.int .u16 0,.slice none 0 0] 71)).alloc (.cells #[.int .u16 age,.int .u8 opts,.int .u8 type,.int .u32 id,.int .u32 adv,.int .i32 seq,.int .u16 sum,.int .u16 len,.slice none 0 0] 71)=w0 at g0 g1 g2 gB gz ⊢
 have hb1:=hb0.below (gB.mono hB)
 have x8:=g0.cell 8
 have y8:=g2.cell 8
 have f8:=g2.free 8
 simp only[q'a,q'z,q's] at x8 y8
 have gzh:=h'd gz
 clear gz
 go_upto_region 5 with (at_builtin;refine wpList_append rfl (.tmp 18) (.tmp 20) 69 rfl w0.heap.size u8T (.slice none 0 0) 0 [] rfl (World.ownsRow_nil _ _ _ _) B _ body.length _ rfl hb1 (u8s_oneCell _) (by simp only[maxLen];omega) (by omega) (n'r _) ?_;intro v1 w1 ho1 hg1 hob1;have k1:Below w0.heap.size w0 w1:=below_of_grown hg1 (n'r _) (fun g hg=>by simp[Value.ownBlock] at hg);have g21:=g2.below k1 g2.lt;have f81:=g21.free 8;have y81:=g21.cell 8;simp only[q'a,q'z,q's] at y81;simp only[Nat.zero_add,List.nil_append] at ho1;obtain ⟨-,A1,c1,rfl,-⟩:=Sl.of_own ho1)
 have g01:=g0.below k1 g0.lt
 have g11:=g1.below k1 g1.lt
 have B1:=gB.trans (k1.mono gB.size)
 have hs1:=Sl.of_own ho1
 have z1:w.heap.size+3≤w1.heap.size:=by have:=k1.size;have:=gzh.out;omega
 have G2:Blk (w1.setCell ⟨w.heap.size+1+1,8,none⟩ (.slice A1 body.length c1)) (w.heap.size+1+1) 71 #[.int .u16 age,.int .u8 opts,.int .u8 type,.int .u32 id,.int .u32 adv,.int .i32 seq,.int .u16 sum,.int .u16 len,.slice A1 body.length c1]:=g21.set_ 8 _
 have G0:=g01.far (p:=⟨w.heap.size+1+1,8,none⟩) (by simp;omega) (.slice A1 body.length c1)
 have G1:=g11.far (p:=⟨w.heap.size+1+1,8,none⟩) (by simp) (.slice A1 body.length c1)
 have GB:=B1.setCell (p:=⟨w.heap.size+1+1,8,none⟩) (by simp;omega) (.slice A1 body.length c1)
 have GO:(w1.setCell ⟨w.heap.size+1+1,8,none⟩ (.slice A1 body.length c1)).ownsRow w0.heap.size 5 1 (.slice A1 body.length c1) body.length (body.map u8c):=own_far ho1 (by have:=gzh.out;simp;omega) _
 have GZ:w.heap.size+3≤(w1.setCell ⟨w.heap.size+1+1,8,none⟩ (.slice A1 body.length c1)).heap.size:=by simpa using z1
 generalize w1.setCell ⟨w.heap.size+1+1,8,none⟩ (.slice A1 body.length c1)=w2 at G2 G0 G1 GB GO GZ ⊢
 clear g01 g11 B1 hs1 z1 g21 f81 y81 k1 ho1 hg1 hob1 x8 y8 f8 g0 g1 g2 gB hb1
 have GO2:=own_less GO (show w.heap.size+3≤w0.heap.size by have:=gzh.out;omega)
 clear GO gzh
 have x8:=G0.cell 8
 have y7:=G2.cell 7
 have f7:=G2.free 7
 simp only[q'a,q'z,q's] at x8 y7
 go_upto_region 6 with fail
 have H2:Blk (w2.setCell ⟨w.heap.size+1+1,7,none⟩ (.int .u16 (20+(body.length:Int)))) (w.heap.size+1+1) 71 #[.int .u16 age,.int .u8 opts,.int .u8 type,.int .u32 id,.int .u32 adv,.int .i32 seq,.int .u16 sum,.int .u16 (20+(body.length:Int)),.slice A1 body.length c1]:=G2.set_ 7 _
 have H1:=G1.far (p:=⟨w.heap.size+1+1,7,none⟩) (by simp) (.int .u16 (20+(body.length:Int)))
 have HB:=GB.setCell (p:=⟨w.heap.size+1+1,7,none⟩) (by simp;omega) (.int .u16 (20+(body.length:Int)))
 have HO:(w2.setCell ⟨w.heap.size+1+1,7,none⟩ (.int .u16 (20+(body.length:Int)))).ownsRow (w.heap.size+3) 5 1 (.slice A1 body.length c1) body.length (body.map u8c):=own_far GO2 (by simp) _
 have HZ:w.heap.size+3≤(w2.setCell ⟨w.heap.size+1+1,7,none⟩ (.int .u16 (20+(body.length:Int)))).heap.size:=by simpa using GZ
 generalize w2.setCell ⟨w.heap.size+1+1,7,none⟩ (.int .u16 (20+(body.length:Int)))=w3 at H2 H1 HB HO HZ ⊢
 clear G0 G1 G2 GB GO2 GZ x8 y7 f7
 have CB:=h'd (CW.out _ w3 (Sl.of_own HO) (n'r _))
 go_upto_region 7 with (first
  | (refine wpList_load_row rfl 71 (.tmp 4) rfl (w.heap.size+1+1) rfl 71 #[.int .u16 age,.int .u8 opts,.int .u8 type,.int .u32 id,.int .u32 adv,.int .i32 seq,.int .u16 sum,.int .u16 (20+(body.length:Int)),.slice A1 body.length c1] (0,0) _ H2 Tryz.underlying71 rfl (by kernel_rfl) ?_)
  | (go_at_call 136;refine c'm CB.out ?_;rintro x w4 ⟨s4,rfl,ho4,k4⟩;obtain ⟨-,Ab,cb,rfl,hcc,-⟩:=Sl.of_own ho4))
 obtain ⟨v5,hd0,hd2⟩:=drop_ex u8T Ab L.length cb 2 (by have:=hLn.out;omega) hcc
 have hd:∀ W,(Instr.sliceAt 69 (.slice Ab L.length cb) (some (.int .i64 2)) none none).run Tryz.prog W=.ok v5 W:=hd0
 have hs4:=hd2 _ _ _ (Sl.of_own ho4)
 have hln:(L.drop 2).length=18+body.length:=by have:=hLn.out;rw[List.length_drop];omega
 have CF:=h'd (fletcher_any _ v5 (L.drop 2) w4 (by rw[List.length_drop,List.map_drop];simpa using hs4) (by omega) (by omega) hhl.out)
 have J2:=H2.below k4 H2.lt
 have J1:=H1.below k4 H1.lt
 have JB:=HB.trans (k4.mono HB.size)
 have JO:=own_below HO k4
 have JZ:=n't HZ k4.size
 have j6:=J2.cell 6
 have jf6:=J2.free 6
 simp only[q'a,q'z,q's] at j6
 clear hd0 hd2 hs4 hcc CB H1 H2 HB HO HZ k4 ho4 hln
 go_upto_region 9 with (go_at_call 137;refine c'm CF.out ?_;rintro x w5 ⟨r,rfl,hr,rfl⟩)
 have K2:Blk (w5.setCell ⟨w.heap.size+1+1,6,none⟩ (.int .u16 r)) (w.heap.size+1+1) 71 #[.int .u16 age,.int .u8 opts,.int .u8 type,.int .u32 id,.int .u32 adv,.int .i32 seq,.int .u16 r,.int .u16 (20+(body.length:Int)),.slice A1 body.length c1]:=J2.set_ 6 _
 have K1:=J1.far (p:=⟨w.heap.size+1+1,6,none⟩) (by simp) (.int .u16 r)
 have KB:=JB.setCell (p:=⟨w.heap.size+1+1,6,none⟩) (by simp;omega) (.int .u16 r)
 have KO:(w5.setCell ⟨w.heap.size+1+1,6,none⟩ (.int .u16 r)).ownsRow (w.heap.size+3) 5 1 (.slice A1 body.length c1) body.length (body.map u8c):=own_far JO (by simp) _
 have KZ:w.heap.size+3≤(w5.setCell ⟨w.heap.size+1+1,6,none⟩ (.int .u16 r)).heap.size:=by simpa using JZ
 generalize w5.setCell ⟨w.heap.size+1+1,6,none⟩ (.int .u16 r)=w6 at K2 K1 KB KO KZ ⊢
 clear hd CF J2 J1 JB JO JZ j6 jf6
 go_wp2_with (first
  | (refine wpList_load_row rfl 71 (.tmp 4) rfl (w.heap.size+1+1) rfl 71 #[.int .u16 age,.int .u8 opts,.int .u8 type,.int .u32 id,.int .u32 adv,.int .i32 seq,.int .u16 r,.int .u16 (20+(body.length:Int)),.slice A1 body.length c1] (0,0) _ K2 Tryz.underlying71 rfl (by kernel_rfl) ?_)
  | (refine wpList_store_row rfl 71 (.tmp 2) (.tmp 41) rfl (w.heap.size+1) #[.int .u16 age,.int .u8 opts,.int .u8 type,.int .u32 id,.int .u32 adv,.int .i32 seq,.int .u16 r,.int .u16 (20+(body.length:Int)),.slice A1 body.length c1] rfl rfl 71 #[.int .u16 0,.int .u8 0,.int .u8 0,.int .u32 0,.int .u32 0,.int .i32 0,.int .u16 0,.int .u16 0,.slice none 0 0] K1 (by kernel_rfl) rfl (by simp[Value.oneCell']) ?_))
 refine bodyPost_ret (results_cell_tmp_row rfl _ _ (w.heap.size+1) 71 #[.int .u16 age,.int .u8 opts,.int .u8 type,.int .u32 id,.int .u32 adv,.int .i32 seq,.int .u16 r,.int .u16 (20+(body.length:Int)),.slice A1 body.length c1] (0,0) _ rfl (setRow_heap _ _ #[.int .u16 0,.int .u8 0,.int .u8 0,.int .u32 0,.int .u32 0,.int .i32 0,.int .u16 0,.int .u16 0,.slice none 0 0] _ _ _ K1) Tryz.underlying71 rfl (by kernel_rfl)) rfl ?_
 have SB:Below w.heap.size w6 (w6.setRow (w.heap.size+1) #[.int .u16 age,.int .u8 opts,.int .u8 type,.int .u32 id,.int .u32 adv,.int .i32 seq,.int .u16 r,.int .u16 (20+(body.length:Int)),.slice A1 body.length c1]):=⟨rfl,rfl,rfl,by simp[World.setRow],fun k hk=>setRow_other _ _ k _ (by omega)⟩
 exact ⟨_,r,rfl,(hRR.out r).2 hr,own_same (own_less KO (by omega)) (fun k hk=>setRow_other _ _ k _ (by have:=(KO.lt k hk).1;omega)),KB.trans SB⟩
end Go.Proofs.YtcknpofnpabkiaaGreat
