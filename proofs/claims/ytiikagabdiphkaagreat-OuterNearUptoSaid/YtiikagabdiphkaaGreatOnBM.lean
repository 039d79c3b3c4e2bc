/- outer.Routes of the known state; the known run of layer 20. -/
import Derived.Test.YtiikagabdiphkaaGreatOnAO
import Derived.Test.YtiikagabdiphkaaGreatOnBA
set_option maxRecDepth 100000
namespace Go.Proofs.YtiikagabdiphkaaGreat
open Go.RowKit Go.Lo
def route20N (near:WayN):WayN:=⟨335544320,8,0,0,3,near.area,near.cost+3,0,9⟩
def RoR (w:World) (near:WayN) (hops:List Hop) (k:Nat) (v:Value) (wr:World):Prop:=
 ((k=0∧v=.slice none 0 0)∨(k=1∧∃ x:WayV,x.n=route20N near∧wr.ownsRow w.heap.size 38 10 v 1 (wayL x)∧wr.ownsRow w.heap.size 47 3 (.slice x.A x.len x.cap) hops.length (hops.flatMap hopCells)))∧Below w.heap.size w wr
set_option maxHeartbeats 4000000 in
theorem routes20_any (l:List WayV) (lv nv bv:Value) (B g:Nat) (near:WayV) (hops:List Hop) (w:World) (hb:Sl w B 1 bv 16 (body20.map u8c)) (hl:Sl w B 10 lv l.length (l.flatMap wayL)) (hB:B≤w.heap.size) (hn:l.length≤1000000)
  (hg:Blk w g 54 (stC20 bv)) (hpick:pickP 5 l=(near,true)) (hh:Sl w B 3 (.slice near.A near.len near.cap) hops.length (hops.flatMap hopCells)) (hhn:hops.length≤1000000) (hc:0≤near.n.cost∧near.n.cost<4294967290) :
  Calls Tryz.prog 46 #[.slice (some ⟨g,0,none⟩) 1 1,.int .u32 1,.bool false,lv,nv] w
   fun e w'=>∃ g2 cap x,e=.returned (.slice (some ⟨g2,0,none⟩) 1 cap)∧x.n=route20N near.n∧w'.ownsRow w.heap.size 38 10 (.slice (some ⟨g2,0,none⟩) 1 cap) 1 (wayL x)∧Sl w' w'.heap.size 3 (.slice x.A x.len x.cap) hops.length (hops.flatMap hopCells)∧Below w.heap.size w w':=by
 have CRt:=fun (W:World) (hW:Below w.heap.size w W)=>route20_any l lv nv bv B near hops W (hb.below (hW.mono hB)) (hl.below (hW.mono hB)) (Nat.le_trans hB hW.size) hn hpick (hh.below (hW.mono hB)) hhn hc
 obtain ⟨-,bA,bc,rfl,-⟩:=id hb
 have hgl:=hg.lt
 dsimp only[stC20,wayC] at CRt hg
 obtain ⟨na,hna⟩:∃ z,z=near.n.area:=⟨_,rfl⟩
 obtain ⟨nc,hnc⟩:∃ z,z=near.n.cost:=⟨_,rfl⟩
 rw[←hna,←hnc] at CRt
 rw[←hnc] at hc
 have hN:route20N near.n=⟨335544320,8,0,0,3,na,nc+3,0,9⟩:=by rw[hna,hnc];rfl
 clear hpick hh hl hb hna hnc
 replace CRt:=Lib.hid CRt
 replace hN:=Lib.hid hN
 go_enter Tryz.func46,Tryz.ntmps46
 go_wp2_with fail
 go_loopg [11,18] 1 (fun m v i wr=>∃ (k:Nat) (ki:Int),m=1-k∧i=.int .i64 ki∧(k=0∧ki=0∨k=1∧ki=1)∧RoR w near.n hops k v wr)
 case atStart=>exact ⟨0,0,rfl,rfl,.inl ⟨rfl,rfl⟩,.inl ⟨rfl,rfl⟩,Below.refl _ _⟩
 case round =>
  obtain ⟨k,ki,rfl,rfl,hk,hR,hBr⟩:=hrel
  obtain ⟨w1,rfl⟩:∃ x:World,x=wr:=⟨_,rfl⟩
  have hz:=hBr.size
  rcases hk with ⟨rfl,rfl⟩ | ⟨rfl,rfl⟩
  ·obtain rfl:=(hR.resolve_right (fun h=>absurd h.1 (by decide))).2
   clear hR
   have hg1:=hg.below hBr hgl
   have x0:=hg1.cell 0
   have x1:=hg1.cell 1
   have x2:=hg1.cell 2
   have x3:=hg1.cell 3
   have x4:=hg1.cell 4
   have x5:=hg1.cell 5
   have x6:=hg1.cell 6
   have x7:=hg1.cell 7
   have x8:=hg1.cell 8
   simp only[q'a,q'z,q's] at x0 x1 x2 x3 x4 x5 x6 x7 x8
   have KX:=Blk.new w1 54 #[.int .u16 0,.int .u8 0,.int .u8 5,.int .u32 335544320,.int .u32 5,.int .i32 1,.int .u16 40211,.int .u16 36,.slice bA 16 bc]
   have hB2:Below w.heap.size w (w1.alloc (.cells #[.int .u16 0,.int .u8 0,.int .u8 5,.int .u32 335544320,.int .u32 5,.int .i32 1,.int .u16 40211,.int .u16 36,.slice bA 16 bc] 54)):=hBr.alloc hz _
   have hz2:(w1.alloc (.cells #[.int .u16 0,.int .u8 0,.int .u8 5,.int .u32 335544320,.int .u32 5,.int .i32 1,.int .u16 40211,.int .u16 36,.slice bA 16 bc] 54)).heap.size=w1.heap.size+1:=by simp
   go_upto_region 5 with fail
   clear x0 x1 x2 x3 x4 x5 x6 x7 x8 hg1
   generalize w1.alloc (.cells #[.int .u16 0,.int .u8 0,.int .u8 5,.int .u32 335544320,.int .u32 5,.int .i32 1,.int .u16 40211,.int .u16 36,.slice bA 16 bc] 54)=w2 at KX hB2 hz2 ⊢
   have CR2:=Lib.hid (CRt.out w2 hB2)
   have hz3:=hB2.size
   replace hz2:=Lib.hid hz2
   go_upto_region 6 with (first
    | (refine wpList_load_row rfl 54 (.tmp 13) rfl w1.heap.size rfl 54 #[.int .u16 0,.int .u8 0,.int .u8 5,.int .u32 335544320,.int .u32 5,.int .i32 1,.int .u16 40211,.int .u16 36,.slice bA 16 bc] (0,0) _ KX Tryz.underlying54 rfl (by kernel_rfl) ?_)
    | (go_at_call 89;refine Calls.mono CR2.out ?_;rintro e w3 ⟨hv,rfl,ho3,hB3⟩;obtain ⟨-,A9,c9,rfl,-⟩:=Sl.of_own ho3))
   have KW:=Blk.new w3 38 #[.int .u32 335544320,.int .u8 8,.int .u32 0,.int .u8 0,.int .u8 3,.int .u32 na,.int .u32 (nc+3),.int .u32 0,.int .u32 9,.slice A9 hops.length c9]
   have hB4:Below w.heap.size w (w3.alloc (.cells #[.int .u32 335544320,.int .u8 8,.int .u32 0,.int .u8 0,.int .u8 3,.int .u32 na,.int .u32 (nc+3),.int .u32 0,.int .u32 9,.slice A9 hops.length c9] 38)):=(hB2.trans (hB3.mono hz3)).alloc (Nat.le_trans hz3 hB3.size) _
   have ho4:=own_less (own_alloc ho3 (.cells #[.int .u32 335544320,.int .u8 8,.int .u32 0,.int .u8 0,.int .u8 3,.int .u32 na,.int .u32 (nc+3),.int .u32 0,.int .u32 9,.slice A9 hops.length c9] 38)) hz3
   clear ho3 hB3 KX hB2
   generalize w3.alloc (.cells #[.int .u32 335544320,.int .u8 8,.int .u32 0,.int .u8 0,.int .u8 3,.int .u32 na,.int .u32 (nc+3),.int .u32 0,.int .u32 9,.slice A9 hops.length c9] 38)=w4 at KW hB4 ho4 ⊢
   generalize w3.heap.size=gw at KW ⊢
   have hz4:=hB4.size
   go_wp2_with (first
    | (refine wpList_load_row rfl 38 (.tmp 14) rfl gw rfl 38 #[.int .u32 335544320,.int .u8 8,.int .u32 0,.int .u8 0,.int .u8 3,.int .u32 na,.int .u32 (nc+3),.int .u32 0,.int .u32 9,.slice A9 hops.length c9] (0,0) _ KW Tryz.underlying38 rfl (by kernel_rfl) ?_)
    | (at_builtin;refine wpList_append rfl (.tmp 32) (.tmp 34) 30 rfl w.heap.size wayT (.slice none 0 0) 0 [] rfl (World.ownsRow_nil _ _ _ _) _ _ 1 [.int .u32 335544320,.int .u8 8,.int .u32 0,.int .u8 0,.int .u8 3,.int .u32 na,.int .u32 (nc+3),.int .u32 0,.int .u32 9,.slice A9 hops.length c9] rfl (Sl.lit w4 #[.int .u32 335544320,.int .u8 8,.int .u32 0,.int .u8 0,.int .u8 3,.int .u32 na,.int .u32 (nc+3),.int .u32 0,.int .u32 9,.slice A9 hops.length c9] 38 (by simp[maxLen]) rfl) (by simp[Value.oneCell']) (by simp only[maxLen];omega) (by omega) (by simp;omega) ?_;intro v7 w7 ho7 hg7 hob7;rw[Nat.zero_add,List.nil_append] at ho7))
   have hB7:Below w.heap.size w w7:=(hB4.alloc hz4 (.cells #[.int .u32 335544320,.int .u8 8,.int .u32 0,.int .u8 0,.int .u8 3,.int .u32 na,.int .u32 (nc+3),.int .u32 0,.int .u32 9,.slice A9 hops.length c9] 38)).trans (below_of_grown hg7 (by simp;omega) (fun g hg=>by simp[Value.ownBlock] at hg))
   go_roundg 0
   case measure=>omega
   case rel=>exact ⟨1,1,rfl,rfl,.inr ⟨rfl,rfl⟩,.inr ⟨rfl,⟨⟨335544320,8,0,0,3,na,nc+3,0,9⟩,A9,hops.length,c9⟩,by rw[hN.out],ho7,own_same (own_alloc ho4 (.cells #[.int .u32 335544320,.int .u8 8,.int .u32 0,.int .u8 0,.int .u8 3,.int .u32 na,.int .u32 (nc+3),.int .u32 0,.int .u32 9,.slice A9 hops.length c9] 38)) fun g hg=>hg7.block g ((own_alloc ho4 (.cells #[.int .u32 335544320,.int .u8 8,.int .u32 0,.int .u8 0,.int .u8 3,.int .u32 na,.int .u32 (nc+3),.int .u32 0,.int .u32 9,.slice A9 hops.length c9] 38)).lt g hg).2 (by simp[Value.ownBlock])⟩,hB7⟩
  ·obtain ⟨x,hx,ho,hoh⟩:=(hR.resolve_left (fun h=>absurd h.1 (by decide))).2
   clear hR
   obtain ⟨-,Al,cl,rfl,-⟩:=Sl.of_own ho
   have CB:=Lib.hid (best20_any [x] (.slice Al 1 cl) w1.heap.size w1 (by simpa using Sl.of_own ho) (Nat.le_refl _) (by simp) (by simp) (fun k h=>by simp at h;subst h;simp only[List.getElem_cons_zero];rw[hx];exact ⟨rfl,rfl⟩) (fun k h h' hk=>by simp at h;omega))
   have hs:=Sl.of_own hoh
   replace hx:=Lib.hid hx
   clear ho hoh hg
   go_wp2_with (go_at_call 84;refine Calls.mono CB.out ?_;rintro e w3 ⟨g3,cap,hlt,rfl,ho3,hB3⟩)
   go_ret
   exact ⟨g3,cap,x,rfl,hx.out,own_less ho3 hz,(hs.below hB3).more hB3.size,hBr.trans (hB3.mono hz)⟩
end Go.Proofs.YtiikagabdiphkaaGreat
namespace Go.Proofs.YtiikagabdiphkaaGreat
open Go.RowKit Go.Lo
theorem sl_len {w:World} {B s n c m:Nat} {A:Option Addr} {xs:List Value} (h:Sl w B s (.slice A n c) m xs):n=m:=by
 obtain ⟨-,A7,c7,h7,-⟩:=h
 injection h7
theorem near20 (A:Option Addr):pickP 5 [⟨⟨0,0,5,2,1,0,10,0,0⟩,A,1,1⟩]=(⟨⟨0,0,5,2,1,0,10,0,0⟩,A,1,1⟩,true):=by
 have h:countsR 5 ⟨0,0,5,2,1,0,10,0,0⟩=true:=by decide
 simp[pickP,pickStep,h]
set_option maxHeartbeats 2000000 in
theorem works20_any (w:World):Calls Tryz.prog 36 #[] w fun e w'=>e=.returned (.bool true)∧Below w.heap.size w w':=by
 have h0:Blk ((w.alloc (.cells #[.int .u32 5,.int .u32 2,.bool false] 47)).alloc (.cells #[.int .u32 0,.int .u8 0,.int .u32 5,.int .u8 2,.int .u8 1,.int .u32 0,.int .u32 10,.int .u32 0,.int .u32 0,.slice (some ⟨w.heap.size,0,none⟩) 1 1] 38)) w.heap.size 47 #[.int .u32 5,.int .u32 2,.bool false]:=(Blk.new _ _ _).alloc _
 have h1:Blk ((w.alloc (.cells #[.int .u32 5,.int .u32 2,.bool false] 47)).alloc (.cells #[.int .u32 0,.int .u8 0,.int .u32 5,.int .u8 2,.int .u8 1,.int .u32 0,.int .u32 10,.int .u32 0,.int .u32 0,.slice (some ⟨w.heap.size,0,none⟩) 1 1] 38)) (w.heap.size+1) 38 #[.int .u32 0,.int .u8 0,.int .u32 5,.int .u8 2,.int .u8 1,.int .u32 0,.int .u32 10,.int .u32 0,.int .u32 0,.slice (some ⟨w.heap.size,0,none⟩) 1 1]:=Blk.new_ _ (by simp)
 have hB0:Below w.heap.size w ((w.alloc (.cells #[.int .u32 5,.int .u32 2,.bool false] 47)).alloc (.cells #[.int .u32 0,.int .u8 0,.int .u32 5,.int .u8 2,.int .u8 1,.int .u32 0,.int .u32 10,.int .u32 0,.int .u32 0,.slice (some ⟨w.heap.size,0,none⟩) 1 1] 38)):=((Below.refl _ _).alloc (Nat.le_refl _) _).alloc (by simp) _
 have hz0:(((w.alloc (.cells #[.int .u32 5,.int .u32 2,.bool false] 47)).alloc (.cells #[.int .u32 0,.int .u8 0,.int .u32 5,.int .u8 2,.int .u8 1,.int .u32 0,.int .u32 10,.int .u32 0,.int .u32 0,.slice (some ⟨w.heap.size,0,none⟩) 1 1] 38)):World).heap.size=w.heap.size+1+1:=by simp
 have hs0:Sl ((w.alloc (.cells #[.int .u32 5,.int .u32 2,.bool false] 47)).alloc (.cells #[.int .u32 0,.int .u8 0,.int .u32 5,.int .u8 2,.int .u8 1,.int .u32 0,.int .u32 10,.int .u32 0,.int .u32 0,.slice (some ⟨w.heap.size,0,none⟩) 1 1] 38)) (w.heap.size+1+1) 3 (.slice (some ⟨w.heap.size,0,none⟩) 1 1) 1 [.int .u32 5,.int .u32 2,.bool false]:=((Sl.lit w #[.int .u32 5,.int .u32 2,.bool false] 47 (by simp[maxLen]) rfl).alloc (by simp) _).more (by omega)
 have hs1:Sl ((w.alloc (.cells #[.int .u32 5,.int .u32 2,.bool false] 47)).alloc (.cells #[.int .u32 0,.int .u8 0,.int .u32 5,.int .u8 2,.int .u8 1,.int .u32 0,.int .u32 10,.int .u32 0,.int .u32 0,.slice (some ⟨w.heap.size,0,none⟩) 1 1] 38)) (w.heap.size+1+1) 10 (.slice (some ⟨w.heap.size+1,0,none⟩) 1 1) 1 [.int .u32 0,.int .u8 0,.int .u32 5,.int .u8 2,.int .u8 1,.int .u32 0,.int .u32 10,.int .u32 0,.int .u32 0,.slice (some ⟨w.heap.size,0,none⟩) 1 1]:=by
  have:=Sl.lit (w.alloc (.cells #[.int .u32 5,.int .u32 2,.bool false] 47)) (n:=1) (s:=10) #[.int .u32 0,.int .u8 0,.int .u32 5,.int .u8 2,.int .u8 1,.int .u32 0,.int .u32 10,.int .u32 0,.int .u32 0,.slice (some ⟨w.heap.size,0,none⟩) 1 1] 38 (by simp[maxLen]) rfl
  simpa using this
 go_enter Tryz.func36,Tryz.ntmps36
 go_upto_region 2 with fail
 generalize ((w.alloc (.cells #[.int .u32 5,.int .u32 2,.bool false] 47)).alloc (.cells #[.int .u32 0,.int .u8 0,.int .u32 5,.int .u8 2,.int .u8 1,.int .u32 0,.int .u32 10,.int .u32 0,.int .u32 0,.slice (some ⟨w.heap.size,0,none⟩) 1 1] 38))=w0 at h0 h1 hB0 hz0 hs0 hs1 ⊢
 go_upto_region 3 with (first
  | (go_at_call 78;refine Calls.mono (one20_any _) ?_;rintro e w1 ⟨gs,A,bn,bc,rfl,hgs,ks,hbs,hB1⟩;obtain rfl:=sl_len hbs;have CRo:=Lib.hid (routes20_any [⟨⟨0,0,5,2,1,0,10,0,0⟩,some ⟨w.heap.size,0,none⟩,1,1⟩] (.slice (some ⟨w.heap.size+1,0,none⟩) 1 1) (.slice none 0 0) (.slice (some ⟨A,0,none⟩) 16 bc) w1.heap.size gs ⟨⟨0,0,5,2,1,0,10,0,0⟩,some ⟨w.heap.size,0,none⟩,1,1⟩ [(5,2,false)] w1 hbs ((hs1.below (hB1.mono (by omega))).more (by have:=hB1.size;omega)) (Nat.le_refl _) (by simp) ks (near20 _) ((hs0.below (hB1.mono (by omega))).more (by have:=hB1.size;omega)) (by simp) ⟨by show (0:Int)≤10;decide,by show (10:Int)<4294967290;decide⟩))
  | (go_at_call 46;refine Calls.mono CRo.out ?_;rintro e w2 ⟨gn,capn,x,rfl,hx,hon,hhn,hB2⟩))
 rw[show route20N ⟨0,0,5,2,1,0,10,0,0⟩=⟨335544320,8,0,0,3,0,13,0,9⟩ from rfl] at hx
 obtain ⟨xn,nA,nl,nc⟩:=x
 obtain rfl:=sl_len hhn
 try dsimp only[List.length_cons,List.length_nil,Nat.zero_add] at *
 try dsimp only at hx
 subst hx
 have hz1:=hB1.size
 have hz2:=hB2.size
 have hBn:Below w.heap.size w w2:=(hB0.trans (hB1.mono hB0.size)).trans (hB2.mono (Nat.le_trans hB0.size hz1))
 clear CRo hbs ks hs0 hs1 h0 h1 hB1 hB2 hB0
 have hon2:=own_less hon (Nat.le_trans (by omega:w.heap.size≤w0.heap.size) hz1)
 have hsn:=Sl.of_own hon
 have km:Blk (w2.alloc (.cells #[.int .u32 335544320,.int .u8 8,.int .u32 0,.int .u8 0,.int .u8 2,.int .u32 0,.int .u32 99,.int .u32 0,.int .u32 0,.slice none 0 0] 38)) w2.heap.size 38 #[.int .u32 335544320,.int .u8 8,.int .u32 0,.int .u8 0,.int .u8 2,.int .u32 0,.int .u32 99,.int .u32 0,.int .u32 0,.slice none 0 0]:=Blk.new _ _ _
 have CMe:=merge20_any [⟨⟨335544320,8,0,0,3,0,13,0,9⟩,nA,1,nc⟩] [⟨⟨335544320,8,0,0,2,0,99,0,0⟩,none,0,0⟩] (.slice (some ⟨gn,0,none⟩) 1 capn) (.slice (some ⟨w2.heap.size,0,none⟩) 1 1) (w2.heap.size+1) (w2.alloc (.cells #[.int .u32 335544320,.int .u8 8,.int .u32 0,.int .u8 0,.int .u8 2,.int .u32 0,.int .u32 99,.int .u32 0,.int .u32 0,.slice none 0 0] 38)) ((hsn.alloc (Nat.le_refl _) _).more (by omega)) (Sl.lit w2 #[.int .u32 335544320,.int .u8 8,.int .u32 0,.int .u8 0,.int .u8 2,.int .u32 0,.int .u32 99,.int .u32 0,.int .u32 0,.slice none 0 0] 38 (by simp[maxLen]) rfl) (by simp)
  (fun x hx=>by
   simp only[List.cons_append,List.nil_append,List.mem_cons,List.not_mem_nil,or_false] at hx
   rcases hx with rfl | rfl
   ·exact ⟨rfl,rfl,[(5,2,false)],by simp,(hhn.alloc (Nat.le_refl _) _).more (by omega)⟩
   ·exact ⟨rfl,rfl,[],by simp,Sl.nil _ _ _⟩) (by simp) (by simp)
  (fun k h h' hk=>by
   simp only[List.cons_append,List.nil_append,List.length_cons,List.length_nil] at h
   obtain rfl:k=1:=by omega
   show betterP ⟨335544320,8,0,0,2,0,99,0,0⟩ ⟨335544320,8,0,0,3,0,13,0,9⟩ = -1
   decide)
 replace CMe:=Lib.hid CMe
 go_upto_region 4 with (go_at_call 42;refine Calls.mono CMe.out ?_;rintro e w4 ⟨gm,capm,y,hlt,rfl,hy,hom,hB4⟩)
 replace hy:y.n=⟨335544320,8,0,0,2,0,99,0,0⟩:=hy
 obtain ⟨yn,mA,ml,mc⟩:=y
 try dsimp only at hy
 subst hy
 have hz4:=hB4.size
 simp at hz4
 have hon4:w4.ownsRow w.heap.size 38 10 (.slice (some ⟨gn,0,none⟩) 1 capn) 1 (wayL ⟨⟨335544320,8,0,0,3,0,13,0,9⟩,nA,1,nc⟩):=own_below (own_alloc hon2 _) hB4
 have hB44:Below w.heap.size w w4:=(hBn.alloc hBn.size (.cells #[.int .u32 335544320,.int .u8 8,.int .u32 0,.int .u8 0,.int .u8 2,.int .u32 0,.int .u32 99,.int .u32 0,.int .u32 0,.slice none 0 0] 38)).trans (hB4.mono (by have:=hBn.size;simp;omega))
 clear CMe hsn km hon hon2 hhn hB4
 have hgn:=hon4.lt gn rfl
 have hgm:=hom.lt gm rfl
 have p0:∀ W,Below w4.heap.size w4 W→W.cell? ⟨gn,0,none⟩=some (.int .u32 335544320):=fun W h=>(h.cell (p:=⟨gn,0,none⟩) hgn.2).trans (hon4.cellAt 0 (by omega))
 have r0:∀ W,Below w4.heap.size w4 W→W.cell? ⟨gm,0,none⟩=some (.int .u32 335544320):=fun W h=>(h.cell (p:=⟨gm,0,none⟩) hgm.2).trans (hom.cellAt 0 (by omega))
 have p1:∀ W,Below w4.heap.size w4 W→W.cell? ⟨gn,1,none⟩=some (.int .u8 8):=fun W h=>(h.cell (p:=⟨gn,1,none⟩) hgn.2).trans (hon4.cellAt 1 (by omega))
 have r1:∀ W,Below w4.heap.size w4 W→W.cell? ⟨gm,1,none⟩=some (.int .u8 8):=fun W h=>(h.cell (p:=⟨gm,1,none⟩) hgm.2).trans (hom.cellAt 1 (by omega))
 have p2:∀ W,Below w4.heap.size w4 W→W.cell? ⟨gn,2,none⟩=some (.int .u32 0):=fun W h=>(h.cell (p:=⟨gn,2,none⟩) hgn.2).trans (hon4.cellAt 2 (by omega))
 have r2:∀ W,Below w4.heap.size w4 W→W.cell? ⟨gm,2,none⟩=some (.int .u32 0):=fun W h=>(h.cell (p:=⟨gm,2,none⟩) hgm.2).trans (hom.cellAt 2 (by omega))
 have p3:∀ W,Below w4.heap.size w4 W→W.cell? ⟨gn,3,none⟩=some (.int .u8 0):=fun W h=>(h.cell (p:=⟨gn,3,none⟩) hgn.2).trans (hon4.cellAt 3 (by omega))
 have r3:∀ W,Below w4.heap.size w4 W→W.cell? ⟨gm,3,none⟩=some (.int .u8 0):=fun W h=>(h.cell (p:=⟨gm,3,none⟩) hgm.2).trans (hom.cellAt 3 (by omega))
 have p4:∀ W,Below w4.heap.size w4 W→W.cell? ⟨gn,4,none⟩=some (.int .u8 3):=fun W h=>(h.cell (p:=⟨gn,4,none⟩) hgn.2).trans (hon4.cellAt 4 (by omega))
 have r4:∀ W,Below w4.heap.size w4 W→W.cell? ⟨gm,4,none⟩=some (.int .u8 2):=fun W h=>(h.cell (p:=⟨gm,4,none⟩) hgm.2).trans (hom.cellAt 4 (by omega))
 have p5:∀ W,Below w4.heap.size w4 W→W.cell? ⟨gn,5,none⟩=some (.int .u32 0):=fun W h=>(h.cell (p:=⟨gn,5,none⟩) hgn.2).trans (hon4.cellAt 5 (by omega))
 have r5:∀ W,Below w4.heap.size w4 W→W.cell? ⟨gm,5,none⟩=some (.int .u32 0):=fun W h=>(h.cell (p:=⟨gm,5,none⟩) hgm.2).trans (hom.cellAt 5 (by omega))
 have p6:∀ W,Below w4.heap.size w4 W→W.cell? ⟨gn,6,none⟩=some (.int .u32 13):=fun W h=>(h.cell (p:=⟨gn,6,none⟩) hgn.2).trans (hon4.cellAt 6 (by omega))
 have r6:∀ W,Below w4.heap.size w4 W→W.cell? ⟨gm,6,none⟩=some (.int .u32 99):=fun W h=>(h.cell (p:=⟨gm,6,none⟩) hgm.2).trans (hom.cellAt 6 (by omega))
 have p7:∀ W,Below w4.heap.size w4 W→W.cell? ⟨gn,7,none⟩=some (.int .u32 0):=fun W h=>(h.cell (p:=⟨gn,7,none⟩) hgn.2).trans (hon4.cellAt 7 (by omega))
 have r7:∀ W,Below w4.heap.size w4 W→W.cell? ⟨gm,7,none⟩=some (.int .u32 0):=fun W h=>(h.cell (p:=⟨gm,7,none⟩) hgm.2).trans (hom.cellAt 7 (by omega))
 have p8:∀ W,Below w4.heap.size w4 W→W.cell? ⟨gn,8,none⟩=some (.int .u32 9):=fun W h=>(h.cell (p:=⟨gn,8,none⟩) hgn.2).trans (hon4.cellAt 8 (by omega))
 have r8:∀ W,Below w4.heap.size w4 W→W.cell? ⟨gm,8,none⟩=some (.int .u32 0):=fun W h=>(h.cell (p:=⟨gm,8,none⟩) hgm.2).trans (hom.cellAt 8 (by omega))
 have p9:∀ W,Below w4.heap.size w4 W→W.cell? ⟨gn,9,none⟩=some (.slice nA 1 nc):=fun W h=>(h.cell (p:=⟨gn,9,none⟩) hgn.2).trans (hon4.cellAt 9 (by omega))
 have r9:∀ W,Below w4.heap.size w4 W→W.cell? ⟨gm,9,none⟩=some (.slice mA ml mc):=fun W h=>(h.cell (p:=⟨gm,9,none⟩) hgm.2).trans (hom.cellAt 9 (by omega))
 have CBt:=fun W=>better_any ⟨335544320,8,0,0,2,0,99,0,0⟩ ⟨335544320,8,0,0,3,0,13,0,9⟩ (.slice mA ml mc) (.slice nA 1 nc) W
 rw[show betterP ⟨335544320,8,0,0,2,0,99,0,0⟩ ⟨335544320,8,0,0,3,0,13,0,9⟩ = -1 from by decide] at CBt
 dsimp only[wayC] at CBt
 replace CBt:=Lib.hid CBt
 replace hz4:=Lib.hid hz4
 clear hgn hgm hon4 hom
 go_region_held3 (fun W=>Below w4.heap.size w4 W) (first | assumption | exact (Below.refl _ _).drew | exact Below.refl _ _ | fail)
  (first
   | (go_at_call 38;with_reducible refine Calls.mono (CBt.out _) ?_;rintro e w5 ⟨rfl,hB5⟩;have hS5:=below_call (B:=w4.heap.size) (a:=w4) (by first | assumption | exact (Below.refl _ _).drew) hB5 (Nat.le_refl _))
   | fail)
 all_goals
  go_wp2
  go_ret
  exact ⟨rfl,hB44.trans (hS5.mono hB44.size)⟩
end Go.Proofs.YtiikagabdiphkaaGreat
