/- The way to a router in general; the document answers about ways; the guard. -/
import Derived.Laws.EntriesVeiled
import Derived.Test.YtiikagabdiphkaaGreatOnAM
set_option maxRecDepth 100000
namespace Go.Proofs.YtiikagabdiphkaaGreat
open Go.RowKit Go.Lo
set_option maxHeartbeats 2000000 in
theorem pick_any (id:Int) (l:List WayV) (lv:Value) (B p q:Nat) (w:World) (hl:Sl w B 10 lv l.length (l.flatMap wayL)) (hB:B≤w.heap.size) (hp:w.cell? ⟨p,0,none⟩=some (.int .u32 id)) (hpl:p<w.heap.size)
  (hq:w.cell? ⟨q,0,none⟩=some (.func (.func 157) #[] #[])) (hql:q<w.heap.size) (hn:l.length≤1000000) :
  Calls Tryz.prog 158 #[lv,.func (.func 159) #[] #[.pointer (some ⟨p,0,none⟩)],.func (.func 160) #[] #[.pointer (some ⟨q,0,none⟩)]] w
   fun e w'=>e=.returned (.tuple #[.agg (pickP id l).1.cells,.bool (pickP id l).2])∧Below w.heap.size w w':=by
 obtain ⟨r,hr⟩:∃ r,r=pickP id l:=⟨_,rfl⟩
 rw[←hr]
 have hl0:=hl
 obtain ⟨-,A,c,rfl,-⟩:=hl
 have k0:Blk ((w.alloc (.cells #[.int .u32 0,.int .u8 0,.int .u32 0,.int .u8 0,.int .u8 0,.int .u32 0,.int .u32 0,.int .u32 0,.int .u32 0,.slice none 0 0] 38)).alloc (.cells #[.int .u32 0,.int .u8 0,.int .u32 0,.int .u8 0,.int .u8 0,.int .u32 0,.int .u32 0,.int .u32 0,.int .u32 0,.slice none 0 0] 38)) w.heap.size 38 #[.int .u32 0,.int .u8 0,.int .u32 0,.int .u8 0,.int .u8 0,.int .u32 0,.int .u32 0,.int .u32 0,.int .u32 0,.slice none 0 0]:=(Blk.new _ _ _).alloc _
 have k1:Blk ((w.alloc (.cells #[.int .u32 0,.int .u8 0,.int .u32 0,.int .u8 0,.int .u8 0,.int .u32 0,.int .u32 0,.int .u32 0,.int .u32 0,.slice none 0 0] 38)).alloc (.cells #[.int .u32 0,.int .u8 0,.int .u32 0,.int .u8 0,.int .u8 0,.int .u32 0,.int .u32 0,.int .u32 0,.int .u32 0,.slice none 0 0] 38)) (w.heap.size+1) 38 #[.int .u32 0,.int .u8 0,.int .u32 0,.int .u8 0,.int .u8 0,.int .u32 0,.int .u32 0,.int .u32 0,.int .u32 0,.slice none 0 0]:=heap_alloc2_new w _ _
 have kB:Below w.heap.size w ((w.alloc (.cells #[.int .u32 0,.int .u8 0,.int .u32 0,.int .u8 0,.int .u8 0,.int .u32 0,.int .u32 0,.int .u32 0,.int .u32 0,.slice none 0 0] 38)).alloc (.cells #[.int .u32 0,.int .u8 0,.int .u32 0,.int .u8 0,.int .u8 0,.int .u32 0,.int .u32 0,.int .u32 0,.int .u32 0,.slice none 0 0] 38)):=((Below.refl _ _).alloc (Nat.le_refl _) _).alloc (by simp) _
 go_enter Tryz.func158,Tryz.ntmps158
 go_upto_region 3 with fail
 generalize ((w.alloc (.cells #[.int .u32 0,.int .u8 0,.int .u32 0,.int .u8 0,.int .u8 0,.int .u32 0,.int .u32 0,.int .u32 0,.int .u32 0,.slice none 0 0] 38)).alloc (.cells #[.int .u32 0,.int .u8 0,.int .u32 0,.int .u8 0,.int .u8 0,.int .u32 0,.int .u32 0,.int .u32 0,.int .u32 0,.slice none 0 0] 38))=w0 at k0 k1 kB ⊢
 go_wp2_with fail
 go_loopg [9,14] l.length (fun m f i wr=>∃ (k:Nat) (s:WayV × Bool),k≤l.length∧m=l.length-k∧f=.bool s.2∧i=.int .i64 k∧s=pickP id (l.take k)∧Blk wr w.heap.size 38 #[.int .u32 0,.int .u8 0,.int .u32 0,.int .u8 0,.int .u8 0,.int .u32 0,.int .u32 0,.int .u32 0,.int .u32 0,.slice none 0 0]∧Blk wr (w.heap.size+1) 38 s.1.cells∧Below w.heap.size w wr)
 case atStart=>exact ⟨0,(zeroW,false),Nat.zero_le _,rfl,rfl,rfl,rfl,k0,k1,kB⟩
 case round =>
  clear k0 k1 kB
  obtain ⟨k,s,hk,rfl,rfl,rfl,hs,KZ0,KS0,hBr⟩:=hrel
  obtain ⟨w1,rfl⟩:∃ x:World,x=wr:=⟨_,rfl⟩
  have hz:=hBr.size
  have hz1:=KS0.lt
  by_cases hkl:k<l.length
  ·obtain ⟨b,off,rfl,hb,hrow⟩:=Sl.row wayL_len (hl0.below (hBr.mono hB)) hkl
   have htk:pickP id (l.take (k+1))=pickStep id s l[k]:=by
    rw[List.take_succ_eq_append_getElem hkl]
    unfold pickP at hs ⊢
    rw[List.foldl_append,←hs]
    rfl
   obtain ⟨x,hx⟩:∃ x,x=l[k]:=⟨_,rfl⟩
   rw[←hx] at hrow htk
   clear hx
   obtain ⟨s,f⟩:=s
   have hc:pickStep id (s,f) x=if countsR id x.n && (!f || nearer x.n s.n) then (x,true) else (s,f):=rfl
   have CN:=counts_any x id p
   have CB:=nearer_any x s q
   generalize countsR id x.n=cb at hc CN
   generalize nearer x.n s.n=nb at hc CB
   rw[hc] at htk
   clear hc
   obtain ⟨⟨x0,x1,x2,x3,x4,x5,x6,x7,x8⟩,xA,xn,xc⟩:=x
   obtain ⟨⟨s0,s1,s2,s3,s4,s5,s6,s7,s8⟩,sA,sn,sc⟩:=s
   dsimp only[WayV.cells,wayC] at *
   have q0:w1.cell? ⟨b,off+k*10,none⟩=some (.int .u32 x0):=hrow 0 _ rfl
   have q1:w1.cell? ⟨b,off+k*10+1,none⟩=some (.int .u8 x1):=hrow 1 _ rfl
   have q2:w1.cell? ⟨b,off+k*10+2,none⟩=some (.int .u32 x2):=hrow 2 _ rfl
   have q3:w1.cell? ⟨b,off+k*10+3,none⟩=some (.int .u8 x3):=hrow 3 _ rfl
   have q4:w1.cell? ⟨b,off+k*10+4,none⟩=some (.int .u8 x4):=hrow 4 _ rfl
   have q5:w1.cell? ⟨b,off+k*10+5,none⟩=some (.int .u32 x5):=hrow 5 _ rfl
   have q6:w1.cell? ⟨b,off+k*10+6,none⟩=some (.int .u32 x6):=hrow 6 _ rfl
   have q7:w1.cell? ⟨b,off+k*10+7,none⟩=some (.int .u32 x7):=hrow 7 _ rfl
   have q8:w1.cell? ⟨b,off+k*10+8,none⟩=some (.int .u32 x8):=hrow 8 _ rfl
   have q9:w1.cell? ⟨b,off+k*10+9,none⟩=some (.slice xA xn xc):=hrow 9 _ rfl
   have ik:(k:Int)<(l.length:Int):=by omega
   have htk:=Lib.hid htk
   have hs:=Lib.hid hs
   clear hrow
   have KX:=Blk.new w1 38 #[.int .u32 x0,.int .u8 x1,.int .u32 x2,.int .u8 x3,.int .u8 x4,.int .u32 x5,.int .u32 x6,.int .u32 x7,.int .u32 x8,.slice xA xn xc]
   have KS:=KS0.alloc (.cells #[.int .u32 x0,.int .u8 x1,.int .u32 x2,.int .u8 x3,.int .u8 x4,.int .u32 x5,.int .u32 x6,.int .u32 x7,.int .u32 x8,.slice xA xn xc] 38)
   have KZ:=KZ0.alloc (.cells #[.int .u32 x0,.int .u8 x1,.int .u32 x2,.int .u8 x3,.int .u8 x4,.int .u32 x5,.int .u32 x6,.int .u32 x7,.int .u32 x8,.slice xA xn xc] 38)
   have hB2:Below w.heap.size w (w1.alloc (.cells #[.int .u32 x0,.int .u8 x1,.int .u32 x2,.int .u8 x3,.int .u8 x4,.int .u32 x5,.int .u32 x6,.int .u32 x7,.int .u32 x8,.slice xA xn xc] 38)):=hBr.alloc hz _
   have hp2:=(hB2.cell (p:=⟨p,0,none⟩) hpl).trans hp
   have hq2:=(hB2.cell (p:=⟨q,0,none⟩) hql).trans hq
   have hz2:=hB2.size
   go_upto_region 6 with fail
   clear q0 q1 q2 q3 q4 q5 q6 q7 q8 q9 KS0 KZ0
   have hx1:=KX.lt
   generalize w1.alloc (.cells #[.int .u32 x0,.int .u8 x1,.int .u32 x2,.int .u8 x3,.int .u8 x4,.int .u32 x5,.int .u32 x6,.int .u32 x7,.int .u32 x8,.slice xA xn xc] 38)=w2 at KX KS KZ hB2 hp2 hq2 hz2 hx1 ⊢
   replace CN:=Lib.hid (CN w2 hp2 (by omega))
   replace CB:=Lib.hid fun (W:World) (hW:Below w2.heap.size w2 W)=>CB W ((hW.cell (p:=⟨q,0,none⟩) (by show q<_;omega)).trans hq2) (by have:=hW.size;omega)
   clear hp2 hq2
   cases cb
   ·go_wp2_with (first | (refine wpList_load_row rfl 38 (.tmp 11) rfl w1.heap.size rfl 38 #[.int .u32 x0,.int .u8 x1,.int .u32 x2,.int .u8 x3,.int .u8 x4,.int .u32 x5,.int .u32 x6,.int .u32 x7,.int .u32 x8,.slice xA xn xc] (0,0) _ KX Tryz.underlying38 rfl (by kernel_rfl) ?_) | (go_at_call 159;refine Calls.mono CN.out ?_;rintro e w3 ⟨rfl,hB3⟩;have KX3:=Blk.call hB3 KX;have KS3:=Blk.call hB3 KS;have KZ3:=Blk.call hB3 KZ;have CB3:=Lib.hid (CB.out w3 hB3);have c0:=KX3.cell 0;have c1:=KX3.cell 1;have c2:=KX3.cell 2;have c3:=KX3.cell 3;have c4:=KX3.cell 4;have c5:=KX3.cell 5;have c6:=KX3.cell 6;have c7:=KX3.cell 7;have c8:=KX3.cell 8;have c9:=KX3.cell 9;have d0:=KS3.cell 0;have d1:=KS3.cell 1;have d2:=KS3.cell 2;have d3:=KS3.cell 3;have d4:=KS3.cell 4;have d5:=KS3.cell 5;have d6:=KS3.cell 6;have d7:=KS3.cell 7;have d8:=KS3.cell 8;have d9:=KS3.cell 9;simp only[q'a,q'z,q's] at c0 c1 c2 c3 c4 c5 c6 c7 c8 c9 d0 d1 d2 d3 d4 d5 d6 d7 d8 d9))
    clear c0 c1 c2 c3 c4 c5 c6 c7 c8 c9 d0 d1 d2 d3 d4 d5 d6 d7 d8 d9
    go_roundg (l.length-(k+1))
    case measure=>omega
    case rel=>exact ⟨k+1,(⟨⟨s0,s1,s2,s3,s4,s5,s6,s7,s8⟩,sA,sn,sc⟩,f),by omega,rfl,rfl,by go_num,htk.out.symm,KZ3,KS3,hB2.trans (hB3.mono hz2)⟩
   ·cases f
    ·go_wp2_with (first | (refine wpList_load_row rfl 38 (.tmp 11) rfl w1.heap.size rfl 38 #[.int .u32 x0,.int .u8 x1,.int .u32 x2,.int .u8 x3,.int .u8 x4,.int .u32 x5,.int .u32 x6,.int .u32 x7,.int .u32 x8,.slice xA xn xc] (0,0) _ KX Tryz.underlying38 rfl (by kernel_rfl) ?_) | (go_at_call 159;refine Calls.mono CN.out ?_;rintro e w3 ⟨rfl,hB3⟩;have KX3:=Blk.call hB3 KX;have KS3:=Blk.call hB3 KS;have KZ3:=Blk.call hB3 KZ;have CB3:=Lib.hid (CB.out w3 hB3);have c0:=KX3.cell 0;have c1:=KX3.cell 1;have c2:=KX3.cell 2;have c3:=KX3.cell 3;have c4:=KX3.cell 4;have c5:=KX3.cell 5;have c6:=KX3.cell 6;have c7:=KX3.cell 7;have c8:=KX3.cell 8;have c9:=KX3.cell 9;have d0:=KS3.cell 0;have d1:=KS3.cell 1;have d2:=KS3.cell 2;have d3:=KS3.cell 3;have d4:=KS3.cell 4;have d5:=KS3.cell 5;have d6:=KS3.cell 6;have d7:=KS3.cell 7;have d8:=KS3.cell 8;have d9:=KS3.cell 9;simp only[q'a,q'z,q's] at c0 c1 c2 c3 c4 c5 c6 c7 c8 c9 d0 d1 d2 d3 d4 d5 d6 d7 d8 d9) | (refine wpList_load_row rfl 38 (.tmp 11) rfl w1.heap.size rfl 38 #[.int .u32 x0,.int .u8 x1,.int .u32 x2,.int .u8 x3,.int .u8 x4,.int .u32 x5,.int .u32 x6,.int .u32 x7,.int .u32 x8,.slice xA xn xc] (0,0) _ KX3 Tryz.underlying38 rfl (by kernel_rfl) ?_) | (refine wpList_store_row rfl 38 (.tmp 8) (.tmp 31) rfl (w.heap.size+1) #[.int .u32 x0,.int .u8 x1,.int .u32 x2,.int .u8 x3,.int .u8 x4,.int .u32 x5,.int .u32 x6,.int .u32 x7,.int .u32 x8,.slice xA xn xc] rfl rfl 38 #[.int .u32 s0,.int .u8 s1,.int .u32 s2,.int .u8 s3,.int .u8 s4,.int .u32 s5,.int .u32 s6,.int .u32 s7,.int .u32 s8,.slice sA sn sc] KS3 (by kernel_rfl) rfl (by simp[Value.oneCell']) ?_))
     clear c0 c1 c2 c3 c4 c5 c6 c7 c8 c9 d0 d1 d2 d3 d4 d5 d6 d7 d8 d9
     go_roundg (l.length-(k+1))
     case measure=>omega
     case rel=>exact ⟨k+1,(⟨⟨x0,x1,x2,x3,x4,x5,x6,x7,x8⟩,xA,xn,xc⟩,true),by omega,rfl,rfl,by go_num,htk.out.symm,blk_setRow_far KZ3 (by omega),blk_setRow KS3,below_setRow (hB2.trans (hB3.mono hz2)) (by omega) _⟩
    ·cases nb
     ·go_wp2_with (first | (refine wpList_load_row rfl 38 (.tmp 11) rfl w1.heap.size rfl 38 #[.int .u32 x0,.int .u8 x1,.int .u32 x2,.int .u8 x3,.int .u8 x4,.int .u32 x5,.int .u32 x6,.int .u32 x7,.int .u32 x8,.slice xA xn xc] (0,0) _ KX Tryz.underlying38 rfl (by kernel_rfl) ?_) | (go_at_call 159;refine Calls.mono CN.out ?_;rintro e w3 ⟨rfl,hB3⟩;have KX3:=Blk.call hB3 KX;have KS3:=Blk.call hB3 KS;have KZ3:=Blk.call hB3 KZ;have CB3:=Lib.hid (CB.out w3 hB3);have c0:=KX3.cell 0;have c1:=KX3.cell 1;have c2:=KX3.cell 2;have c3:=KX3.cell 3;have c4:=KX3.cell 4;have c5:=KX3.cell 5;have c6:=KX3.cell 6;have c7:=KX3.cell 7;have c8:=KX3.cell 8;have c9:=KX3.cell 9;have d0:=KS3.cell 0;have d1:=KS3.cell 1;have d2:=KS3.cell 2;have d3:=KS3.cell 3;have d4:=KS3.cell 4;have d5:=KS3.cell 5;have d6:=KS3.cell 6;have d7:=KS3.cell 7;have d8:=KS3.cell 8;have d9:=KS3.cell 9;simp only[q'a,q'z,q's] at c0 c1 c2 c3 c4 c5 c6 c7 c8 c9 d0 d1 d2 d3 d4 d5 d6 d7 d8 d9) | (go_at_call 160;refine Calls.mono CB3.out ?_;rintro e w4 ⟨rfl,hB4⟩;have KX4:=Blk.call hB4 KX3;have KS4:=Blk.call hB4 KS3;have KZ4:=Blk.call hB4 KZ3;clear c0 c1 c2 c3 c4 c5 c6 c7 c8 c9 d0 d1 d2 d3 d4 d5 d6 d7 d8 d9))
      go_roundg (l.length-(k+1))
      case measure=>omega
      case rel=>exact ⟨k+1,(⟨⟨s0,s1,s2,s3,s4,s5,s6,s7,s8⟩,sA,sn,sc⟩,true),by omega,rfl,rfl,by go_num,htk.out.symm,KZ4,KS4,(hB2.trans (hB3.mono hz2)).trans (hB4.mono (Nat.le_trans hz2 hB3.size))⟩
     ·go_wp2_with (first | (refine wpList_load_row rfl 38 (.tmp 11) rfl w1.heap.size rfl 38 #[.int .u32 x0,.int .u8 x1,.int .u32 x2,.int .u8 x3,.int .u8 x4,.int .u32 x5,.int .u32 x6,.int .u32 x7,.int .u32 x8,.slice xA xn xc] (0,0) _ KX Tryz.underlying38 rfl (by kernel_rfl) ?_) | (go_at_call 159;refine Calls.mono CN.out ?_;rintro e w3 ⟨rfl,hB3⟩;have KX3:=Blk.call hB3 KX;have KS3:=Blk.call hB3 KS;have KZ3:=Blk.call hB3 KZ;have CB3:=Lib.hid (CB.out w3 hB3);have c0:=KX3.cell 0;have c1:=KX3.cell 1;have c2:=KX3.cell 2;have c3:=KX3.cell 3;have c4:=KX3.cell 4;have c5:=KX3.cell 5;have c6:=KX3.cell 6;have c7:=KX3.cell 7;have c8:=KX3.cell 8;have c9:=KX3.cell 9;have d0:=KS3.cell 0;have d1:=KS3.cell 1;have d2:=KS3.cell 2;have d3:=KS3.cell 3;have d4:=KS3.cell 4;have d5:=KS3.cell 5;have d6:=KS3.cell 6;have d7:=KS3.cell 7;have d8:=KS3.cell 8;have d9:=KS3.cell 9;simp only[q'a,q'z,q's] at c0 c1 c2 c3 c4 c5 c6 c7 c8 c9 d0 d1 d2 d3 d4 d5 d6 d7 d8 d9) | (go_at_call 160;refine Calls.mono CB3.out ?_;rintro e w4 ⟨rfl,hB4⟩;have KX4:=Blk.call hB4 KX3;have KS4:=Blk.call hB4 KS3;have KZ4:=Blk.call hB4 KZ3;clear c0 c1 c2 c3 c4 c5 c6 c7 c8 c9 d0 d1 d2 d3 d4 d5 d6 d7 d8 d9) | (refine wpList_load_row rfl 38 (.tmp 11) rfl w1.heap.size rfl 38 #[.int .u32 x0,.int .u8 x1,.int .u32 x2,.int .u8 x3,.int .u8 x4,.int .u32 x5,.int .u32 x6,.int .u32 x7,.int .u32 x8,.slice xA xn xc] (0,0) _ KX4 Tryz.underlying38 rfl (by kernel_rfl) ?_) | (refine wpList_store_row rfl 38 (.tmp 8) (.tmp 31) rfl (w.heap.size+1) #[.int .u32 x0,.int .u8 x1,.int .u32 x2,.int .u8 x3,.int .u8 x4,.int .u32 x5,.int .u32 x6,.int .u32 x7,.int .u32 x8,.slice xA xn xc] rfl rfl 38 #[.int .u32 s0,.int .u8 s1,.int .u32 s2,.int .u8 s3,.int .u8 s4,.int .u32 s5,.int .u32 s6,.int .u32 s7,.int .u32 s8,.slice sA sn sc] KS4 (by kernel_rfl) rfl (by simp[Value.oneCell']) ?_))
      go_roundg (l.length-(k+1))
      case measure=>omega
      case rel=>exact ⟨k+1,(⟨⟨x0,x1,x2,x3,x4,x5,x6,x7,x8⟩,xA,xn,xc⟩,true),by omega,rfl,rfl,by go_num,htk.out.symm,blk_setRow_far KZ4 (by omega),blk_setRow KS4,below_setRow ((hB2.trans (hB3.mono hz2)).trans (hB4.mono (Nat.le_trans hz2 hB3.size))) (by omega) _⟩
  ·obtain rfl:k=l.length:=by omega
   rw[List.take_length,←hr] at hs
   clear hr
   subst hs
   obtain ⟨s,f⟩:=s
   obtain ⟨⟨s0,s1,s2,s3,s4,s5,s6,s7,s8⟩,sA,sn,sc⟩:=s
   dsimp only[WayV.cells,wayC] at *
   have hset:Blk (w1.setRow w.heap.size #[.int .u32 s0,.int .u8 s1,.int .u32 s2,.int .u8 s3,.int .u8 s4,.int .u32 s5,.int .u32 s6,.int .u32 s7,.int .u32 s8,.slice sA sn sc]) w.heap.size 38 #[.int .u32 s0,.int .u8 s1,.int .u32 s2,.int .u8 s3,.int .u8 s4,.int .u32 s5,.int .u32 s6,.int .u32 s7,.int .u32 s8,.slice sA sn sc]:=blk_setRow KZ0
   go_wp2_with (first
    | (refine wpList_load_row rfl 38 (.tmp 8) rfl (w.heap.size+1) rfl 38 #[.int .u32 s0,.int .u8 s1,.int .u32 s2,.int .u8 s3,.int .u8 s4,.int .u32 s5,.int .u32 s6,.int .u32 s7,.int .u32 s8,.slice sA sn sc] (0,0) _ KS0 Tryz.underlying38 rfl (by kernel_rfl) ?_)
    | (refine wpList_store_row rfl 38 (.tmp 6) (.tmp 33) rfl w.heap.size #[.int .u32 s0,.int .u8 s1,.int .u32 s2,.int .u8 s3,.int .u8 s4,.int .u32 s5,.int .u32 s6,.int .u32 s7,.int .u32 s8,.slice sA sn sc] rfl rfl 38 #[.int .u32 0,.int .u8 0,.int .u32 0,.int .u8 0,.int .u8 0,.int .u32 0,.int .u32 0,.int .u32 0,.int .u32 0,.slice none 0 0] KZ0 (by kernel_rfl) rfl (by simp[Value.oneCell']) ?_))
   refine bodyPost_ret (results_cell_tmp_row rfl _ _ w.heap.size 38 #[.int .u32 s0,.int .u8 s1,.int .u32 s2,.int .u8 s3,.int .u8 s4,.int .u32 s5,.int .u32 s6,.int .u32 s7,.int .u32 s8,.slice sA sn sc] (0,0) _ rfl hset Tryz.underlying38 rfl (by kernel_rfl)) rfl ?_
   exact ⟨rfl,below_setRow hBr (Nat.le_refl _) _⟩
set_option maxHeartbeats 1000000 in
theorem torouter_any (id:Int) (l:List WayV) (lv:Value) (B:Nat) (w:World) (hl:Sl w B 10 lv l.length (l.flatMap wayL)) (hB:B≤w.heap.size) (hn:l.length≤1000000) :
  Calls Tryz.prog 132 #[lv,.int .u32 id] w fun e w'=>e=.returned (.tuple #[.agg (pickP id l).1.cells,.bool (pickP id l).2])∧Below w.heap.size w w':=by
 obtain ⟨r,hr⟩:∃ r,r=pickP id l:=⟨_,rfl⟩
 rw[←hr]
 have k0:Blk (((w.alloc (.cells #[.int .u32 id] 24)).alloc (.cells #[.int .u32 0,.int .u8 0,.int .u32 0,.int .u8 0,.int .u8 0,.int .u32 0,.int .u32 0,.int .u32 0,.int .u32 0,.slice none 0 0] 38)).alloc (.cells #[.func (.func 157) #[] #[]] 166)) w.heap.size 24 #[.int .u32 id]:=((Blk.new _ _ _).alloc _).alloc _
 have k1:Blk (((w.alloc (.cells #[.int .u32 id] 24)).alloc (.cells #[.int .u32 0,.int .u8 0,.int .u32 0,.int .u8 0,.int .u8 0,.int .u32 0,.int .u32 0,.int .u32 0,.int .u32 0,.slice none 0 0] 38)).alloc (.cells #[.func (.func 157) #[] #[]] 166)) (w.heap.size+1) 38 #[.int .u32 0,.int .u8 0,.int .u32 0,.int .u8 0,.int .u8 0,.int .u32 0,.int .u32 0,.int .u32 0,.int .u32 0,.slice none 0 0]:=(Blk.new_ _ (by simp)).alloc _
 have k2:Blk (((w.alloc (.cells #[.int .u32 id] 24)).alloc (.cells #[.int .u32 0,.int .u8 0,.int .u32 0,.int .u8 0,.int .u8 0,.int .u32 0,.int .u32 0,.int .u32 0,.int .u32 0,.slice none 0 0] 38)).alloc (.cells #[.func (.func 157) #[] #[]] 166)) (w.heap.size+1+1) 166 #[.func (.func 157) #[] #[]]:=Blk.new_ _ (by simp)
 have kB:Below w.heap.size w (((w.alloc (.cells #[.int .u32 id] 24)).alloc (.cells #[.int .u32 0,.int .u8 0,.int .u32 0,.int .u8 0,.int .u8 0,.int .u32 0,.int .u32 0,.int .u32 0,.int .u32 0,.slice none 0 0] 38)).alloc (.cells #[.func (.func 157) #[] #[]] 166)):=(((Below.refl _ _).alloc (Nat.le_refl _) _).alloc (by simp) _).alloc (by simp;omega) _
 go_enter Tryz.func132,Tryz.ntmps132
 go_upto_region 2 with fail
 generalize (((w.alloc (.cells #[.int .u32 id] 24)).alloc (.cells #[.int .u32 0,.int .u8 0,.int .u32 0,.int .u8 0,.int .u8 0,.int .u32 0,.int .u32 0,.int .u32 0,.int .u32 0,.slice none 0 0] 38)).alloc (.cells #[.func (.func 157) #[] #[]] 166))=w1 at k0 k1 k2 kB ⊢
 have l2:=k2.lt
 have CP:=Lib.hid (pick_any id l lv B w.heap.size (w.heap.size+1+1) w1 (hl.below (kB.mono hB)) (Nat.le_trans hB kB.size) (k0.cell 0) (by omega) (k2.cell 0) l2 hn)
 rw[←hr] at CP
 clear hr k0 k2 hl
 obtain ⟨s,f⟩:=r
 obtain ⟨⟨s0,s1,s2,s3,s4,s5,s6,s7,s8⟩,sA,sn,sc⟩:=s
 dsimp only[WayV.cells,wayC] at *
 go_wp2_with (first
  | (go_at_call 158;refine Calls.mono CP.out ?_;rintro e w2 ⟨rfl,hB2⟩;have k12:=k1.below hB2 k1.lt)
  | (refine wpList_store_row rfl 38 (.tmp 4) (.tmp 11) rfl (w.heap.size+1) #[.int .u32 s0,.int .u8 s1,.int .u32 s2,.int .u8 s3,.int .u8 s4,.int .u32 s5,.int .u32 s6,.int .u32 s7,.int .u32 s8,.slice sA sn sc] rfl rfl 38 #[.int .u32 0,.int .u8 0,.int .u32 0,.int .u8 0,.int .u8 0,.int .u32 0,.int .u32 0,.int .u32 0,.int .u32 0,.slice none 0 0] k12 (by kernel_rfl) rfl (by simp[Value.oneCell']) ?_))
 refine bodyPost_ret (results_cell_tmp_row rfl _ _ (w.heap.size+1) 38 #[.int .u32 s0,.int .u8 s1,.int .u32 s2,.int .u8 s3,.int .u8 s4,.int .u32 s5,.int .u32 s6,.int .u32 s7,.int .u32 s8,.slice sA sn sc] (0,0) _ rfl (blk_setRow k12) Tryz.underlying38 rfl (by kernel_rfl)) rfl ?_
 exact ⟨rfl,below_setRow (kB.trans (hB2.mono kB.size)) (by omega) _⟩
end Go.Proofs.YtiikagabdiphkaaGreat
namespace Go.Proofs.YtiikagabdiphkaaGreat
open Go.RowKit Go.Lo
set_option maxHeartbeats 400000 in
theorem refbefore_any (a b:Hop) (w:World) :
  Calls Tryz.prog 49 #[.agg #[.int .u32 a.1,.int .u32 a.2.1,.bool a.2.2],.agg #[.int .u32 b.1,.int .u32 b.2.1,.bool b.2.2]] w
   fun e w'=>e=.returned (.bool (hopLt a b))∧Below w.heap.size w w':=by
 obtain ⟨a1,a2,a3⟩:=a
 obtain ⟨b1,b2,b3⟩:=b
 go_enter Tryz.func49,Tryz.ntmps49
 go_wp2
 all_goals go_ret
 all_goals refine ⟨?_,((Below.refl _ _).alloc (Nat.le_refl _) _).alloc (by simp) _⟩
 all_goals simp[hopLt, *]
theorem bit_any (a i:Int) (hi:0≤i∧i<32) (w:World):Calls Tryz.prog 90 #[.int .u32 a,.int .u8 i] w fun e w'=>(∃ v,e=.returned (.int .u32 v))∧w'=w:=by
 have e1:IntKind.u8.wrap (31-i)=31-i:=by show (31-i)%256=_;omega
 go_enter Tryz.func90,Tryz.ntmps90
 go_wp2
 go_ret
 exact ⟨⟨_,rfl⟩,rfl⟩
def SomeBool (w:World) (e:Ending) (w':World):Prop:=∃ q:Bool,e=.returned (.bool q)∧Below w.heap.size w w'
theorem is_any (a b:Int) (hb:0≤b∧b<256) (w:World):Calls Tryz.prog 48 #[.agg #[.int .u32 a,.int .u8 b]] w (SomeBool w):=by
 have kB:Below w.heap.size w (w.alloc (.cells #[.int .u32 a,.int .u8 b] 35)):=(Below.refl _ _).alloc (Nat.le_refl _) _
 have k0:=Blk.new w 35 #[.int .u32 a,.int .u8 b]
 go_enter Tryz.func48,Tryz.ntmps48
 go_upto_region 1 with fail
 generalize w.alloc (.cells #[.int .u32 a,.int .u8 b] 35)=w1 at k0 kB ⊢
 have c0:=k0.cell 0
 have c1:=k0.cell 1
 simp only[q'a,q'z,q's] at c0 c1
 by_cases h:32<b
 ·go_wp2
  go_ret
  exact ⟨_,rfl,kB⟩
 ·go_wp2
  go_loopg [3] (32-b).toNat (fun m v wr=>∃ i:Int,0≤i∧i≤32∧m=(32-i).toNat∧v=.int .u8 i∧wr=w1)
  case atStart=>exact ⟨b,hb.1,by omega,rfl,rfl,rfl⟩
  case round =>
   obtain ⟨i,hi0,hi1,rfl,rfl,rfl⟩:=hrel
   by_cases hi:i<32
   ·have e1:IntKind.u8.wrap (i+1)=i+1:=by show (i+1)%256=_;omega
    go_upto_if 17 with (go_at_call 90;refine Calls.mono (bit_any a i ⟨hi0,hi⟩ _) ?_;rintro e w2 ⟨⟨v,rfl⟩,rfl⟩)
    by_cases hv:v=0
    ·subst hv
     go_wp2
     go_roundg (32-(i+1)).toNat
     case measure=>omega
     case rel=>exact ⟨i+1,by omega,by omega,rfl,rfl,rfl⟩
    ·have hv':(v != 0)=true:=by simp[hv]
     go_wp2
     go_ret
     exact ⟨_,rfl,kB⟩
   ·go_wp2
    go_ret
    exact ⟨_,rfl,kB⟩
end Go.Proofs.YtiikagabdiphkaaGreat
namespace Go.Proofs.YtiikagabdiphkaaGreat
open Go.RowKit Go.Lo
theorem neq_pre0 (a b:Int) (w:World):(binOp .neq 35 (.agg #[.int .u32 a,.int .u8 b]) (.agg #[.int .u32 0,.int .u8 0])).run Tryz.prog w=.ok (.bool (!(decide (a=0) && decide (b=0)))) w:=by
 rw[run_neq_struct,run_equalIn_agg _ _ _ _ _ (by kernel_rfl) (by kernel_rfl)]
 go_simp
 by_cases h1:a=0 <;> by_cases h2:b=0 <;> simp[h1,h2]
def CondB (w:World) (v:Value) (wx:World):Prop:=∃ q:Bool,v=.bool q∧Below w.heap.size w wx
end Go.Proofs.YtiikagabdiphkaaGreat
namespace Go.Proofs.YtiikagabdiphkaaGreat
open Go.RowKit Go.Lo
def lenSum (l:List WayV):Int:=(l.map fun x=>(x.len:Int)).sum
theorem lenSum_snoc (l:List WayV) (x:WayV):lenSum (l++[x])=lenSum l+(x.len:Int):=by simp[lenSum]
theorem lenSum_le (l:List WayV):0≤lenSum l∧∀ x∈l,(x.len:Int)≤lenSum l:=by
 induction l with
 | nil=>exact ⟨by simp[lenSum],fun x hx=>by cases hx⟩
 | cons a r ih =>
  have h1:lenSum (a :: r)=(a.len:Int)+lenSum r:=by simp[lenSum]
  refine ⟨by omega,fun x hx => ?_⟩
  rcases List.mem_cons.1 hx with rfl | hx
  ·omega
  ·have:=ih.2 x hx;omega
def BigP (l:List WayV) (w:World) (e:Ending) (w':World):Prop:=∃ q:Bool,e=.returned (.bool q)∧(q=false→l.length≤60∧∀ x∈l,x.len≤400)∧Below w.heap.size w w'
end Go.Proofs.YtiikagabdiphkaaGreat
set_option maxRecDepth 100000
namespace Go.Proofs.YtiikagabdiphkaaGreat
open Go.RowKit Go.Lo
set_option maxHeartbeats 1000000 in
theorem big20_any (l:List WayV) (lv:Value) (B:Nat) (w:World) (hl:Sl w B 10 lv l.length (l.flatMap wayL)) (hB:B≤w.heap.size) (hn:l.length≤2000000)
  (hx:∀ x∈l,(0≤x.n.bits∧x.n.bits<256)∧∃ hops:List Hop,hops.length≤2000000∧Sl w B 3 (.slice x.A x.len x.cap) hops.length (hops.flatMap hopCells)) :
  Calls Tryz.prog 35 #[lv] w (BigP l w):=by
 have hl0:=hl
 obtain ⟨-,A,c,rfl,-⟩:=hl
 replace hx:=Lib.hid hx
 go_enter Tryz.func35,Tryz.ntmps35
 go_wp2_with fail
 go_loopg [3,4] l.length (fun m v i wr=>∃ (k:Nat) (nn:Int),k≤l.length∧m=l.length-k∧v=.int .i64 nn∧nn=lenSum (l.take k)∧0≤nn∧nn≤2000000*(k:Int)∧i=.int .i64 k∧Below w.heap.size w wr)
 case atStart=>exact ⟨0,0,Nat.zero_le _,rfl,rfl,rfl,by omega,by omega,rfl,Below.refl _ _⟩
 case round =>
  obtain ⟨k,nn,hk,rfl,rfl,hns,hnn,hnn2,rfl,hBr⟩:=hrel
  obtain ⟨w1,rfl⟩:∃ x:World,x=wr:=⟨_,rfl⟩
  have hz:=hBr.size
  replace hns:=Lib.hid hns
  by_cases hkl:k<l.length
  ·obtain ⟨b,off,rfl,hb,hrow⟩:=Sl.row wayL_len hl0 hkl
   obtain ⟨hbits,hops,hhn,hsl⟩:=hx.out l[k] (List.getElem_mem hkl)
   have htk:lenSum (l.take (k+1))=lenSum (l.take k)+(l[k].len:Int):=by rw[List.take_succ_eq_append_getElem hkl,lenSum_snoc]
   obtain ⟨x,hxx⟩:∃ x,x=l[k]:=⟨_,rfl⟩
   rw[←hxx] at hrow hbits hsl htk
   clear hxx
   obtain ⟨⟨x0,x1,x2,x3,x4,x5,x6,x7,x8⟩,xA,xn,xc⟩:=x
   obtain rfl:xn=hops.length:=by
    obtain ⟨-,A8,c8,h8,-⟩:=hsl
    injection h8
   dsimp only at hbits hsl htk
   replace htk:=Lib.hid htk
   have hbw:b<w.heap.size:=by omega
   have r0:∀ W,Below w.heap.size w W→W.cell? ⟨b,off+k*10,none⟩=some (.int .u32 x0):=fun W h=>(h.cell (p:=⟨b,off+k*10,none⟩) hbw).trans (hrow 0 _ rfl)
   have r1:∀ W,Below w.heap.size w W→W.cell? ⟨b,off+k*10+1,none⟩=some (.int .u8 x1):=fun W h=>(h.cell (p:=⟨b,off+k*10+1,none⟩) hbw).trans (hrow 1 _ rfl)
   have r2:∀ W,Below w.heap.size w W→W.cell? ⟨b,off+k*10+2,none⟩=some (.int .u32 x2):=fun W h=>(h.cell (p:=⟨b,off+k*10+2,none⟩) hbw).trans (hrow 2 _ rfl)
   have r9:∀ W,Below w.heap.size w W→W.cell? ⟨b,off+k*10+9,none⟩=some (.slice xA hops.length xc):=fun W h=>(h.cell (p:=⟨b,off+k*10+9,none⟩) hbw).trans (hrow 9 _ rfl)
   have R9:=Lib.hid r9
   have q0:=r0 w1 hBr
   have q1:=r1 w1 hBr
   have q2:=r2 w1 hBr
   have q9:=r9 w1 hBr
   have ik:(k:Int)<(l.length:Int):=by omega
   have iw:IntKind.i64.wrap (nn+(hops.length:Int))=nn+(hops.length:Int):=IntWalk.i64_in _ (by omega)
   have CI:=Lib.hid (is_any x0 x1 hbits w1)
   have hneq:=neq_pre0 x0 x1
   clear r0 r1 r2 r9 hrow
   go_upto_region 6 with fail
   go_cut [43] (fun v wx=>CondB w v wx)
   case first =>
    obtain ⟨z,hz0⟩:∃ z,z = !(decide (x0=0) && decide (x1=0)):=⟨_,rfl⟩
    rw[←hz0] at hneq
    clear hz0 q9 iw R9
    cases z <;> by_cases hx2:x2=0
    all_goals
     first | subst hx2 | (have hx2':(x2 != 0)=true:=by simp[hx2])
     go_wp2_with (go_at_call 48;refine Calls.mono CI.out ?_;rintro e w2 ⟨q,rfl,hB2⟩;have qq0:=(hB2.cell (p:=⟨b,off+k*10,none⟩) (by show b<_;omega)).trans q0;have qq1:=(hB2.cell (p:=⟨b,off+k*10+1,none⟩) (by show b<_;omega)).trans q1;have qq2:=(hB2.cell (p:=⟨b,off+k*10+2,none⟩) (by show b<_;omega)).trans q2)
     all_goals go_meet
     all_goals exact ⟨_,rfl,hBr.trans (hB2.mono hz)⟩
   case rest =>
    clear q0 q1 q2 q9 hneq CI
    obtain ⟨q,rfl,hBc⟩:=hcut
    cases q
    ·have hzc:=hBc.size
     go_wp2_with fail
     go_loopg [5] (hops.length-1) (fun m v wx=>∃ j:Nat,m=hops.length-(j+1)∧v=.int .i64 ((j:Int)+1)∧Below w.heap.size w wx)
     case atStart=>exact ⟨0,rfl,rfl,hBc⟩
     case round =>
      clear hBc hzc
      obtain ⟨j,rfl,rfl,hBx⟩:=hrel
      obtain ⟨w3,rfl⟩:∃ x:World,x=wr:=⟨_,rfl⟩
      have q9:=R9.out w3 hBx
      have hz3:=hBx.size
      by_cases hj:j+1<hops.length
      ·obtain ⟨bh,oh,hA,hbh,hrh⟩:=Sl.row hopCells_len hsl hj
       obtain ⟨b2,o2,hA2,-,hr2⟩:=Sl.row hopCells_len hsl (show j<hops.length by omega)
       rw[hA] at hA2
       simp only[Option.some.injEq,Addr.mk.injEq,and_true] at hA2
       obtain ⟨rfl,rfl⟩:=hA2
       subst hA
       obtain ⟨a,ha⟩:∃ a,a=hops[j]:=⟨_,rfl⟩
       obtain ⟨d,hd⟩:∃ d,d=hops[j+1]:=⟨_,rfl⟩
       rw[←ha] at hr2
       rw[←hd] at hrh
       clear ha hd
       have hbhw:bh<w.heap.size:=by omega
       have C:=Lib.hid (fun W=>refbefore_any a d W)
       have h9:=R9.out
       have e0:∀ W,Below w.heap.size w W→W.cell? ⟨bh,oh+j*3,none⟩=some (.int .u32 a.1):=fun W h=>(h.cell (p:=⟨bh,oh+j*3,none⟩) hbhw).trans (hr2 0 _ rfl)
       have e1:∀ W,Below w.heap.size w W→W.cell? ⟨bh,oh+j*3+1,none⟩=some (.int .u32 a.2.1):=fun W h=>(h.cell (p:=⟨bh,oh+j*3+1,none⟩) hbhw).trans (hr2 1 _ rfl)
       have e2:∀ W,Below w.heap.size w W→W.cell? ⟨bh,oh+j*3+2,none⟩=some (.bool a.2.2):=fun W h=>(h.cell (p:=⟨bh,oh+j*3+2,none⟩) hbhw).trans (hr2 2 _ rfl)
       have f0:∀ W,Below w.heap.size w W→W.cell? ⟨bh,oh+(j+1)*3,none⟩=some (.int .u32 d.1):=fun W h=>(h.cell (p:=⟨bh,oh+(j+1)*3,none⟩) hbhw).trans (hrh 0 _ rfl)
       have f1:∀ W,Below w.heap.size w W→W.cell? ⟨bh,oh+(j+1)*3+1,none⟩=some (.int .u32 d.2.1):=fun W h=>(h.cell (p:=⟨bh,oh+(j+1)*3+1,none⟩) hbhw).trans (hrh 1 _ rfl)
       have f2:∀ W,Below w.heap.size w W→W.cell? ⟨bh,oh+(j+1)*3+2,none⟩=some (.bool d.2.2):=fun W h=>(h.cell (p:=⟨bh,oh+(j+1)*3+2,none⟩) hbhw).trans (hrh 2 _ rfl)
       have iwj:IntKind.i64.wrap (j:Int)=(j:Int):=IntWalk.i64_in _ (by omega)
       have i1:(j:Int)+1<(hops.length:Int):=by omega
       have i2:(0:Int)≤(j:Int)+1:=by omega
       have i3:(j:Int)<(hops.length:Int):=by omega
       clear hrh hr2
       obtain ⟨r,hr⟩:∃ r,r=hopLt a d:=⟨_,rfl⟩
       rw[←hr] at C
       clear hr
       go_upto_region 11 with fail
       clear q9
       go_region_held3 (fun W=>Below w.heap.size w W) (first | assumption | exact hBx.drew | fail)
        (first
         | (go_at_call 49;with_reducible refine Calls.mono (C.out _) ?_;rintro e w4 ⟨rfl,hB4⟩;have hS4:=below_call (B:=w.heap.size) (a:=w) (by first | assumption | exact hBx.drew) hB4 (Nat.le_refl _))
         | fail)
       clear e0 e1 e2 f0 f1 f2 h9
       cases r
       ·go_wp2
        go_ret
        exact ⟨true,rfl,fun h=>(by cases h),hS4⟩
       ·go_wp2
        go_roundg (hops.length-(j+1+1))
        case measure=>omega
        case rel=>exact ⟨j+1,rfl,by go_num,hS4⟩
      ·have i1:¬ (j:Int)+1<(hops.length:Int):=by omega
       go_wp2
       go_roundg (l.length-(k+1))
       case measure=>omega
       case rel=>exact ⟨k+1,nn+(hops.length:Int),by omega,rfl,rfl,by rw[htk.out,←hns.out],by omega,by omega,by go_num,hBx⟩
    ·go_wp2
     go_ret
     exact ⟨true,rfl,fun h=>(by cases h),hBc⟩
  ·obtain rfl:k=l.length:=by omega
   have hns2:=hns.out
   rw[List.take_length] at hns2
   have hle:=lenSum_le l
   by_cases h60:60<l.length
   ·have h60':(60:Int)<(l.length:Int):=by omega
    go_wp2
    go_ret
    exact ⟨true,rfl,fun h=>(by cases h),hBr⟩
   ·have h60':¬ (60:Int)<(l.length:Int):=by omega
    go_wp2
    go_ret
    refine ⟨decide (400<lenSum l),rfl,fun h => ?_,hBr⟩
    have h4:=of_decide_eq_false h
    exact ⟨by omega,fun x hx=>by have:=hle.2 x hx;omega⟩
end Go.Proofs.YtiikagabdiphkaaGreat
