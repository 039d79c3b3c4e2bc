/- The best at one prefix. -/
import Derived.Maps.OwnOps
import Derived.Maps.OwnSet
import Derived.DeepKeys4
import Derived.Test.YtiikagabdiphkaaGreatOnAZ
import Derived.Test.YtiikagabdiphkaaGreatOnAN
set_option maxRecDepth 100000
namespace Go.Proofs.YtiikagabdiphkaaGreat
open Go.RowKit Go.Lo Go.Maps Go.WideMaps
theorem laidOutZ:laidOutB Tryz.prog=true:=by kernel_rfl
theorem pref_keyed:Keyed Tryz.prog 35:=Keyed.of_law (deep_law_laid laidOutZ (m:=2) (by omega) (of_decide_eq_true (by kernel_rfl)) (by kernel_rfl) (by rw[Tryz.underlying35]))
theorem pref_key20:∃ kl,keyOf Tryz.prog 35 (.agg #[.int .u32 335544320,.int .u8 8])=some kl:=Option.isSome_iff_exists.1 (by kernel_rfl)
def BestR (kl:Lit) (w:World) (l:List WayV) (k:Nat) (v:Value) (wr:World):Prop:=
 ((k=0∧v=.slice none 0 0∧wr.ownsMap Tryz.prog 35 (plainElem Tryz.prog 3) w.heap.size 0 (DataW.map (H:=Unit) [])) ∨
  ∃ (h:k-1<l.length) (g cap:Nat),1≤k∧v=.slice (some ⟨g,0,none⟩) 1 cap∧wr.ownsRow (w.heap.size+1) 38 10 v 1 (wayL l[k-1])∧wr.ownsMap Tryz.prog 35 (plainElem Tryz.prog 3) w.heap.size 1 ((DataW.map (H:=Unit) []).put kl (.lit (.int .i64 0))))∧Below w.heap.size w wr
set_option maxHeartbeats 2000000 in
theorem best20_any (l:List WayV) (lv:Value) (B:Nat) (w:World) (hl:Sl w B 10 lv l.length (l.flatMap wayL)) (hB:B≤w.heap.size) (h1:1≤l.length) (hn:l.length≤1000)
  (hp:∀ k (h:k<l.length),l[k].n.addr=335544320∧l[k].n.bits=8) (hbet:∀ k (h:k<l.length) (h':k-1<l.length),1≤k→betterP l[k].n l[k-1].n = -1) :
  Calls Tryz.prog 84 #[lv] w fun e w'=>∃ g cap,∃ h:l.length-1<l.length,e=.returned (.slice (some ⟨g,0,none⟩) 1 cap)∧w'.ownsRow w.heap.size 38 10 (.slice (some ⟨g,0,none⟩) 1 cap) 1 (wayL l[l.length-1])∧Below w.heap.size w w':=by
 have hl0:=hl
 obtain ⟨-,A,c,rfl,-⟩:=hl
 obtain ⟨kl,hkl⟩:=pref_key20
 have hmm:=@run_makeMap Tryz.prog
 have hM0:=World.ownsMap_made (H:=Unit) w Tryz.prog 35 (plainElem Tryz.prog 3)
 have hI:=hM0.isMap
 have eHas:Maps.has ((DataW.map (H:=Unit) []).put kl (.lit (.int .i64 0))) kl=true:=Maps.has_put_same hI (pref_keyed.key hkl) _
 have eAt:∀ z,DataW.atKey ((DataW.map (H:=Unit) []).put kl (.lit (.int .i64 0))) kl z=.lit (.int .i64 0):=fun z=>Maps.atKey_put_same hI (pref_keyed.key hkl) _ z
 have hZI:∀ W,(zeroValue 3).run Tryz.prog W=.ok (.int .i64 0) W:=fun W=>by kernel_rfl
 have kB:Below w.heap.size w (w.alloc (.map #[] 0)):=(Below.refl _ _).alloc (Nat.le_refl _) _
 replace hM0:=Lib.hid hM0
 replace hp:=Lib.hid hp
 replace hbet:=Lib.hid hbet
 go_enter Tryz.func84,Tryz.ntmps84
 go_upto_region 3 with fail
 generalize w.alloc (.map #[] 0)=w0 at hM0 kB ⊢
 go_wp2_with fail
 go_loopg [4,12] l.length (fun m v i wr=>∃ k:Nat,k≤l.length∧m=l.length-k∧i=.int .i64 k∧BestR kl w l k v wr)
 case atStart=>exact ⟨0,Nat.zero_le _,rfl,rfl,.inl ⟨rfl,rfl,hM0.out⟩,kB⟩
 case round =>
  clear hM0 kB
  obtain ⟨k,hk,rfl,rfl,hR,hBr⟩:=hrel
  obtain ⟨w1,rfl⟩:∃ x:World,x=wr:=⟨_,rfl⟩
  have hz:=hBr.size
  by_cases hkl2:k<l.length
  ·obtain ⟨b,off,rfl,hb,hrow⟩:=Sl.row wayL_len (hl0.below (hBr.mono hB)) hkl2
   have hpk:=hp.out k hkl2
   have hbk:=hbet.out k hkl2
   obtain ⟨x,hx⟩:∃ x,x=l[k]:=⟨_,rfl⟩
   rw[←hx] at hrow hpk hbk
   replace hx:=Lib.hid hx
   obtain ⟨⟨x0,x1,x2,x3,x4,x5,x6,x7,x8⟩,xA,xn,xc⟩:=x
   dsimp only at hpk
   obtain ⟨rfl,rfl⟩:=hpk
   have q0:w1.cell? ⟨b,off+k*10,none⟩=some (.int .u32 335544320):=hrow 0 _ rfl
   have q1:w1.cell? ⟨b,off+k*10+1,none⟩=some (.int .u8 8):=hrow 1 _ rfl
   have q2:w1.cell? ⟨b,off+k*10+2,none⟩=some (.int .u32 x2):=hrow 2 _ rfl
   have q3:w1.cell? ⟨b,off+k*10+3,none⟩=some (.int .u8 x3):=hrow 3 _ rfl
   have q4:w1.cell? ⟨b,off+k*10+4,none⟩=some (.int .u8 x4):=hrow 4 _ rfl
   have q5:w1.cell? ⟨b,off+k*10+5,none⟩=some (.int .u32 x5):=hrow 5 _ rfl
   have q6:w1.cell? ⟨b,off+k*10+6,none⟩=some (.int .u32 x6):=hrow 6 _ rfl
   have q7:w1.cell? ⟨b,off+k*10+7,none⟩=some (.int .u32 x7):=hrow 7 _ rfl
   have q8:w1.cell? ⟨b,off+k*10+8,none⟩=some (.int .u32 x8):=hrow 8 _ rfl
   have q9:w1.cell? ⟨b,off+k*10+9,none⟩=some (.slice xA xn xc):=hrow 9 _ rfl
   have ik:(k:Int)<(l.length:Int):=by omega
   clear hrow
   have KX:=Blk.new w1 38 #[.int .u32 335544320,.int .u8 8,.int .u32 x2,.int .u8 x3,.int .u8 x4,.int .u32 x5,.int .u32 x6,.int .u32 x7,.int .u32 x8,.slice xA xn xc]
   have hB2:Below w.heap.size w (w1.alloc (.cells #[.int .u32 335544320,.int .u8 8,.int .u32 x2,.int .u8 x3,.int .u8 x4,.int .u32 x5,.int .u32 x6,.int .u32 x7,.int .u32 x8,.slice xA xn xc] 38)):=hBr.alloc hz _
   have hz2:(w1.alloc (.cells #[.int .u32 335544320,.int .u8 8,.int .u32 x2,.int .u8 x3,.int .u8 x4,.int .u32 x5,.int .u32 x6,.int .u32 x7,.int .u32 x8,.slice xA xn xc] 38)).heap.size=w1.heap.size+1:=by simp
   have x0:=KX.cell 0
   have x1:=KX.cell 1
   simp only[q'a,q'z,q's] at x0 x1
   replace hR:=Lib.hid hR
   go_upto_region 6 with fail
   clear q0 q1 q2 q3 q4 q5 q6 q7 q8 q9
   rcases hR.out with ⟨hk0,rfl,hM⟩ | ⟨hk1,g,cap,hk2,rfl,ho,hM⟩
   ·have hne0:=Lib.hid (show w1.heap.size≠w.heap.size from fun e=>by have:=hM.lt;omega)
    have HM:=Lib.hid (hM.alloc (.cells #[.int .u32 335544320,.int .u8 8,.int .u32 x2,.int .u8 x3,.int .u8 x4,.int .u32 x5,.int .u32 x6,.int .u32 x7,.int .u32 x8,.slice xA xn xc] 38))
    replace hk0:=Lib.hid hk0
    clear hR hM
    generalize w1.alloc (.cells #[.int .u32 335544320,.int .u8 8,.int .u32 x2,.int .u8 x3,.int .u8 x4,.int .u32 x5,.int .u32 x6,.int .u32 x7,.int .u32 x8,.slice xA xn xc] 38)=w2 at KX hB2 hz2 x0 x1 HM ⊢
    go_upto_region 7 with (at_lookup;refine wpList_lookup_own_ok_int _ rfl _ _ 204 rfl 35 3 .i64 pref_keyed Tryz.underlying204 Tryz.underlying3 (hZI _) w.heap.size 0 (.map []) rfl HM.out _ kl rfl hkl ?_;intro cc hcc hwc;rw[show Maps.has (DataW.map (H:=Unit) []) kl=false from rfl])
    clear hcc hwc
    go_upto_region 9 with (at_mapUpdate;refine wpList_mapUpdate_own _ rfl _ _ _ 204 rfl 35 3 pref_keyed Tryz.underlying204 _ w.heap.size 0 (.map []) rfl HM.out (by simp only[maxLen];omega) _ _ kl rfl rfl hkl (.lit (.int .i64 0)) [] (plainElem_int Tryz.underlying3 (by decide)) ?_;intro w6 hM6 hG6;replace hM6:=Lib.hid hM6;replace hG6:=Lib.hid hG6)
    have hmx:w1.heap.size≠w.heap.size:=hne0.out
    have KX6:=KX.same (hG6.out.block _ KX.lt (by simpa using hmx))
    have hB6:Below w.heap.size w w6:=hB2.trans (below_of_grown hG6.out hB2.size (fun g hg=>by simp at hg;omega))
    have hz6:=hB6.size
    go_wp2_with (first
     | (refine wpList_load_row rfl 38 (.tmp 6) rfl w1.heap.size rfl 38 #[.int .u32 335544320,.int .u8 8,.int .u32 x2,.int .u8 x3,.int .u8 x4,.int .u32 x5,.int .u32 x6,.int .u32 x7,.int .u32 x8,.slice xA xn xc] (0,0) _ KX6 Tryz.underlying38 rfl (by kernel_rfl) ?_)
     | (at_builtin;refine wpList_append rfl (.tmp 30) (.tmp 32) 30 rfl (w.heap.size+1) wayT (.slice none 0 0) 0 [] rfl (World.ownsRow_nil _ _ _ _) _ _ 1 [.int .u32 335544320,.int .u8 8,.int .u32 x2,.int .u8 x3,.int .u8 x4,.int .u32 x5,.int .u32 x6,.int .u32 x7,.int .u32 x8,.slice xA xn xc] rfl (Sl.lit w6 #[.int .u32 335544320,.int .u8 8,.int .u32 x2,.int .u8 x3,.int .u8 x4,.int .u32 x5,.int .u32 x6,.int .u32 x7,.int .u32 x8,.slice xA xn xc] 38 (by simp[maxLen]) rfl) (by simp[Value.oneCell']) (by simp only[maxLen];omega) (by omega) (by simp;omega) ?_;intro v7 w7 ho7 hg7 hob7;rw[Nat.zero_add,List.nil_append] at ho7;obtain ⟨g7,cap7,rfl,hbg7,hgl7⟩:=ho7.form (by omega);have hM7:=(hM6.out.alloc (.cells #[.int .u32 335544320,.int .u8 8,.int .u32 x2,.int .u8 x3,.int .u8 x4,.int .u32 x5,.int .u32 x6,.int .u32 x7,.int .u32 x8,.slice xA xn xc] 38)).kept hg7 (by simp[Value.ownBlock])))
    have hB7:Below w.heap.size w w7:=(hB6.alloc hz6 (.cells #[.int .u32 335544320,.int .u8 8,.int .u32 x2,.int .u8 x3,.int .u8 x4,.int .u32 x5,.int .u32 x6,.int .u32 x7,.int .u32 x8,.slice xA xn xc] 38)).trans (below_of_grown hg7 (by simp;omega) (fun g hg=>by simp[Value.ownBlock] at hg))
    have hxx:=hx.out
    have hk0':=hk0.out
    go_roundg (l.length-(k+1))
    case measure=>omega
    case rel=>exact ⟨k+1,by omega,rfl,by go_num,.inr ⟨by omega,g7,cap7,by omega,rfl,by simp only[Nat.add_sub_cancel];rw[←hxx];exact ho7,hM7⟩,hB7⟩
   ·obtain ⟨y,hy⟩:∃ y,y=l[k-1]:=⟨_,rfl⟩
    have hbk2:=hbk hk1 hk2
    rw[←hy] at ho hbk2
    have HM:=Lib.hid (hM.alloc (.cells #[.int .u32 335544320,.int .u8 8,.int .u32 x2,.int .u8 x3,.int .u8 x4,.int .u32 x5,.int .u32 x6,.int .u32 x7,.int .u32 x8,.slice xA xn xc] 38))
    have hgl:=ho.lt g rfl
    have ho2:=own_alloc ho (.cells #[.int .u32 335544320,.int .u8 8,.int .u32 x2,.int .u8 x3,.int .u8 x4,.int .u32 x5,.int .u32 x6,.int .u32 x7,.int .u32 x8,.slice xA xn xc] 38)
    obtain ⟨⟨y0,y1,y2,y3,y4,y5,y6,y7,y8⟩,yA,yn,yc⟩:=y
    clear hR hM hy
    have CB:=fun W=>better_any ⟨335544320,8,x2,x3,x4,x5,x6,x7,x8⟩ ⟨y0,y1,y2,y3,y4,y5,y6,y7,y8⟩ (.slice xA xn xc) (.slice yA yn yc) W
    rw[hbk2] at CB
    dsimp only[wayC] at CB
    replace CB:=Lib.hid CB
    clear hbk hbk2
    generalize w1.alloc (.cells #[.int .u32 335544320,.int .u8 8,.int .u32 x2,.int .u8 x3,.int .u8 x4,.int .u32 x5,.int .u32 x6,.int .u32 x7,.int .u32 x8,.slice xA xn xc] 38)=w2 at KX hB2 hz2 x0 x1 HM ho2 ⊢
    go_upto_region 10 with (at_lookup;refine wpList_lookup_own_ok_int _ rfl _ _ 204 rfl 35 3 .i64 pref_keyed Tryz.underlying204 Tryz.underlying3 (hZI _) w.heap.size 1 ((DataW.map (H:=Unit) []).put kl (.lit (.int .i64 0))) rfl HM.out _ kl rfl hkl ?_;intro cc hcc hwc;rw[eAt] at hcc;simp only[DataW.lit.injEq,Lit.int.injEq,true_and] at hcc;subst hcc;rw[eHas])
    have p0:∀ W,Below w2.heap.size w2 W→W.cell? ⟨w1.heap.size,0,none⟩=some (.int .u32 335544320):=fun W h=>(h.cell (p:=⟨w1.heap.size,0,none⟩) (by show w1.heap.size<w2.heap.size;omega)).trans (KX.cell 0)
    have r0:∀ W,Below w2.heap.size w2 W→W.cell? ⟨g,0,none⟩=some (.int .u32 y0):=fun W h=>(h.cell (p:=⟨g,0,none⟩) (by show g<w2.heap.size;omega)).trans (ho2.cellAt 0 (by omega))
    have p1:∀ W,Below w2.heap.size w2 W→W.cell? ⟨w1.heap.size,1,none⟩=some (.int .u8 8):=fun W h=>(h.cell (p:=⟨w1.heap.size,1,none⟩) (by show w1.heap.size<w2.heap.size;omega)).trans (KX.cell 1)
    have r1:∀ W,Below w2.heap.size w2 W→W.cell? ⟨g,1,none⟩=some (.int .u8 y1):=fun W h=>(h.cell (p:=⟨g,1,none⟩) (by show g<w2.heap.size;omega)).trans (ho2.cellAt 1 (by omega))
    have p2:∀ W,Below w2.heap.size w2 W→W.cell? ⟨w1.heap.size,2,none⟩=some (.int .u32 x2):=fun W h=>(h.cell (p:=⟨w1.heap.size,2,none⟩) (by show w1.heap.size<w2.heap.size;omega)).trans (KX.cell 2)
    have r2:∀ W,Below w2.heap.size w2 W→W.cell? ⟨g,2,none⟩=some (.int .u32 y2):=fun W h=>(h.cell (p:=⟨g,2,none⟩) (by show g<w2.heap.size;omega)).trans (ho2.cellAt 2 (by omega))
    have p3:∀ W,Below w2.heap.size w2 W→W.cell? ⟨w1.heap.size,3,none⟩=some (.int .u8 x3):=fun W h=>(h.cell (p:=⟨w1.heap.size,3,none⟩) (by show w1.heap.size<w2.heap.size;omega)).trans (KX.cell 3)
    have r3:∀ W,Below w2.heap.size w2 W→W.cell? ⟨g,3,none⟩=some (.int .u8 y3):=fun W h=>(h.cell (p:=⟨g,3,none⟩) (by show g<w2.heap.size;omega)).trans (ho2.cellAt 3 (by omega))
    have p4:∀ W,Below w2.heap.size w2 W→W.cell? ⟨w1.heap.size,4,none⟩=some (.int .u8 x4):=fun W h=>(h.cell (p:=⟨w1.heap.size,4,none⟩) (by show w1.heap.size<w2.heap.size;omega)).trans (KX.cell 4)
    have r4:∀ W,Below w2.heap.size w2 W→W.cell? ⟨g,4,none⟩=some (.int .u8 y4):=fun W h=>(h.cell (p:=⟨g,4,none⟩) (by show g<w2.heap.size;omega)).trans (ho2.cellAt 4 (by omega))
    have p5:∀ W,Below w2.heap.size w2 W→W.cell? ⟨w1.heap.size,5,none⟩=some (.int .u32 x5):=fun W h=>(h.cell (p:=⟨w1.heap.size,5,none⟩) (by show w1.heap.size<w2.heap.size;omega)).trans (KX.cell 5)
    have r5:∀ W,Below w2.heap.size w2 W→W.cell? ⟨g,5,none⟩=some (.int .u32 y5):=fun W h=>(h.cell (p:=⟨g,5,none⟩) (by show g<w2.heap.size;omega)).trans (ho2.cellAt 5 (by omega))
    have p6:∀ W,Below w2.heap.size w2 W→W.cell? ⟨w1.heap.size,6,none⟩=some (.int .u32 x6):=fun W h=>(h.cell (p:=⟨w1.heap.size,6,none⟩) (by show w1.heap.size<w2.heap.size;omega)).trans (KX.cell 6)
    have r6:∀ W,Below w2.heap.size w2 W→W.cell? ⟨g,6,none⟩=some (.int .u32 y6):=fun W h=>(h.cell (p:=⟨g,6,none⟩) (by show g<w2.heap.size;omega)).trans (ho2.cellAt 6 (by omega))
    have p7:∀ W,Below w2.heap.size w2 W→W.cell? ⟨w1.heap.size,7,none⟩=some (.int .u32 x7):=fun W h=>(h.cell (p:=⟨w1.heap.size,7,none⟩) (by show w1.heap.size<w2.heap.size;omega)).trans (KX.cell 7)
    have r7:∀ W,Below w2.heap.size w2 W→W.cell? ⟨g,7,none⟩=some (.int .u32 y7):=fun W h=>(h.cell (p:=⟨g,7,none⟩) (by show g<w2.heap.size;omega)).trans (ho2.cellAt 7 (by omega))
    have p8:∀ W,Below w2.heap.size w2 W→W.cell? ⟨w1.heap.size,8,none⟩=some (.int .u32 x8):=fun W h=>(h.cell (p:=⟨w1.heap.size,8,none⟩) (by show w1.heap.size<w2.heap.size;omega)).trans (KX.cell 8)
    have r8:∀ W,Below w2.heap.size w2 W→W.cell? ⟨g,8,none⟩=some (.int .u32 y8):=fun W h=>(h.cell (p:=⟨g,8,none⟩) (by show g<w2.heap.size;omega)).trans (ho2.cellAt 8 (by omega))
    have p9:∀ W,Below w2.heap.size w2 W→W.cell? ⟨w1.heap.size,9,none⟩=some (.slice xA xn xc):=fun W h=>(h.cell (p:=⟨w1.heap.size,9,none⟩) (by show w1.heap.size<w2.heap.size;omega)).trans (KX.cell 9)
    have r9:∀ W,Below w2.heap.size w2 W→W.cell? ⟨g,9,none⟩=some (.slice yA yn yc):=fun W h=>(h.cell (p:=⟨g,9,none⟩) (by show g<w2.heap.size;omega)).trans (ho2.cellAt 9 (by omega))
    have i1:(0:Int)<1:=by omega
    have QX:=Lib.hid KX
    have HZ:=Lib.hid hz2
    clear hz2
    have QO:=Lib.hid ho2
    clear KX ho2 ho x0 x1
    go_region_held3 (fun W=>Below w2.heap.size w2 W) (first | assumption | exact (Below.refl _ _).drew | exact Below.refl _ _ | fail)
     (first
      | (go_at_call 38;with_reducible refine Calls.mono (CB.out _) ?_;rintro e w3 ⟨rfl,hB3⟩;have hS3:=below_call (B:=w2.heap.size) (a:=w2) (by first | assumption | exact (Below.refl _ _).drew) hB3 (Nat.le_refl _))
      | fail)
    clear p0 r0 p1 r1 p2 r2 p3 r3 p4 r4 p5 r5 p6 r6 p7 r7 p8 r8 p9 r9
    have hz2:=HZ.out
    have KX3:=QX.out.below hS3 (by omega)
    have ho3:=own_below QO.out hS3
    have HM3:=Lib.hid (HM.out.kept (grown_of_below hS3 none) (by simp))
    have hB3':=hB2.trans (hS3.mono hB2.size)
    have hz3:=hS3.size
    go_wp2_with (first
     | (refine wpList_load_row rfl 38 (.tmp 6) rfl w1.heap.size rfl 38 #[.int .u32 335544320,.int .u8 8,.int .u32 x2,.int .u8 x3,.int .u8 x4,.int .u32 x5,.int .u32 x6,.int .u32 x7,.int .u32 x8,.slice xA xn xc] (0,0) _ KX3 Tryz.underlying38 rfl (by kernel_rfl) ?_)
     | (refine wpList_store_own rfl 38 (.tmp 45) (.tmp 44) rfl (k:=0) [.int .u32 335544320,.int .u8 8,.int .u32 x2,.int .u8 x3,.int .u8 x4,.int .u32 x5,.int .u32 x6,.int .u32 x7,.int .u32 x8,.slice xA xn xc] rfl rfl ho3 rfl (by kernel_rfl) (by simp[Value.oneCell']) (by simp) ?_;intro w4 ho4 hg4))
    have hM4:=HM3.out.kept hg4 (by simp;omega)
    have hB4:Below w.heap.size w w4:=hB3'.trans (below_of_grown hg4 hB3'.size (fun g' hg=>by simp at hg;omega))
    have hxx:=hx.out
    go_roundg (l.length-(k+1))
    case measure=>omega
    case rel=>exact ⟨k+1,by omega,rfl,by go_num,.inr ⟨by omega,g,cap,by omega,rfl,by simp only[Nat.add_sub_cancel];rw[←hxx];exact ho4,hM4⟩,hB4⟩
  ·obtain rfl:k=l.length:=by omega
   rcases hR with ⟨hk0,rfl,hM⟩ | ⟨hk1,g,cap,hk2,rfl,ho,hM⟩
   ·omega
   ·clear hM
    go_wp2_with (go_at_call 93;refine Calls.mono (sortwB_one (some ⟨g,0,none⟩) 1 cap _ (Nat.le_refl _) _) ?_;rintro e w3 ⟨rfl,rfl⟩)
    go_ret
    exact ⟨g,cap,hk1,rfl,own_less ho (by omega),hBr⟩
end Go.Proofs.YtiikagabdiphkaaGreat
set_option maxRecDepth 100000
namespace Go.Proofs.YtiikagabdiphkaaGreat
open Go.RowKit Go.Lo
def AllR (w:World) (done:List WayN) (v:Value) (wr:World):Prop:=
 ∃ all:List WayV,all.map (·.n)=done∧wr.ownsRow w.heap.size 38 10 v all.length (all.flatMap wayL)∧Below w.heap.size w wr
theorem neq_pre20 (W:World):(binOp .neq 35 (.agg #[.int .u32 335544320,.int .u8 8]) (.agg #[.int .u32 0,.int .u8 0])).run Tryz.prog W=.ok (.bool true) W:=by kernel_rfl
def doneN (la lb:List WayV) (j:Nat):List WayN:=if j=0 then [] else if j=1 then la.map (·.n) else (la++lb).map (·.n)
set_option maxHeartbeats 4000000 in
theorem merge20_any (la lb:List WayV) (va vb:Value) (B:Nat) (w:World) (ha:Sl w B 10 va la.length (la.flatMap wayL)) (hb:Sl w B 10 vb lb.length (lb.flatMap wayL)) (hB:B≤w.heap.size)
  (hhops:∀ x∈la++lb,x.n.addr=335544320∧x.n.bits=8∧∃ hops:List Hop,hops.length≤1000000∧Sl w B 3 (.slice x.A x.len x.cap) hops.length (hops.flatMap hopCells)) (hn:la.length+lb.length≤1000) (h1:1≤(la++lb).length)
  (hbet:∀ k (h:k<(la++lb).length) (h':k-1<(la++lb).length),1≤k→betterP (la++lb)[k].n (la++lb)[k-1].n = -1) :
  Calls Tryz.prog 42 #[va,vb] w fun e w'=>∃ g cap x,∃ h:(la++lb).length-1<(la++lb).length,e=.returned (.slice (some ⟨g,0,none⟩) 1 cap)∧x.n=(la++lb)[(la++lb).length-1].n∧w'.ownsRow w.heap.size 38 10 (.slice (some ⟨g,0,none⟩) 1 cap) 1 (wayL x)∧Below w.heap.size w w':=by
 have hneq:=neq_pre20
 replace hhops:=Lib.hid hhops
 replace hbet:=Lib.hid hbet
 obtain ⟨-,Aa,ca,rfl,-⟩:=id ha
 obtain ⟨-,Ab,cb,rfl,-⟩:=id hb
 have hix0:∀ W,(Instr.index 154 (.agg #[.slice Aa la.length ca,.slice Ab lb.length cb]) (.int .i64 0)).run Tryz.prog W=.ok (.slice Aa la.length ca) W:=fun W=>by kernel_rfl
 have hix1:∀ W,(Instr.index 154 (.agg #[.slice Aa la.length ca,.slice Ab lb.length cb]) (.int .i64 1)).run Tryz.prog W=.ok (.slice Ab lb.length cb) W:=fun W=>by kernel_rfl
 go_enter Tryz.func42,Tryz.ntmps42
 go_wp2_with fail
 go_loopg [5,13] 2 (fun m v i wr=>∃ (j:Nat) (ji:Int),m=2-j∧i=.int .i64 ji∧(j=0∧ji=0∨j=1∧ji=1∨j=2∧ji=2)∧AllR w (doneN la lb j) v wr)
 case atStart=>exact ⟨0,0,rfl,rfl,.inl ⟨rfl,rfl⟩,[],rfl,World.ownsRow_nil _ _ _ _,Below.refl _ _⟩
 case round =>
  obtain ⟨j,ji,rfl,rfl,hj,hR⟩:=hrel
  obtain ⟨w0,rfl⟩:∃ x:World,x=wr:=⟨_,rfl⟩
  replace hR:=Lib.hid hR
  rcases hj with ⟨rfl,rfl⟩ | ⟨rfl,rfl⟩ | ⟨rfl,rfl⟩
  ·rw[show doneN la lb 0=[] from rfl] at hR
   go_wp2_with fail
   go_loopg [5,18] la.length (fun m v i wr=>∃ k:Nat,k≤la.length∧m=la.length-k∧i=.int .i64 k∧AllR w (([]:List WayN)++(la.take k).map (·.n)) v wr)
   case atStart=>exact ⟨0,Nat.zero_le _,rfl,rfl,by simpa using hR.out⟩
   case round =>
    clear hR
    obtain ⟨k,hk,rfl,rfl,all,hall,ho,hBr⟩:=hrel
    obtain ⟨w1,rfl⟩:∃ x:World,x=wr:=⟨_,rfl⟩
    have hz:=hBr.size
    by_cases hkl2:k<la.length
    ·obtain ⟨b,off,rfl,hb0,hrow⟩:=Sl.row wayL_len (ha.below (hBr.mono hB)) hkl2
     have hpk:=hhops.out la[k] (by simp)
     have htk:([]:List WayN)++(la.take (k+1)).map (·.n)=all.map (·.n)++[la[k].n]:=by
      rw[hall,List.take_succ_eq_append_getElem hkl2,List.map_append,←List.append_assoc]
      rfl
     have hal:all.length≤1000:=by
      have h:=congrArg List.length hall
      simp at h
      omega
     obtain ⟨x,hx⟩:∃ x,x=la[k]:=⟨_,rfl⟩
     rw[←hx] at hrow hpk htk
     clear hx
     obtain ⟨⟨x0,x1,x2,x3,x4,x5,x6,x7,x8⟩,xA,xn,xc⟩:=x
     obtain ⟨hp1,hp2,hops,hhn,hsl⟩:=hpk
     dsimp only at hp1 hp2 hsl htk
     subst hp1 hp2
     obtain rfl:xn=hops.length:=by
      obtain ⟨-,A8,c8,h8,-⟩:=hsl
      injection h8
     have q0:w1.cell? ⟨b,off+k*10,none⟩=some (.int .u32 335544320):=hrow 0 _ rfl
     have q1:w1.cell? ⟨b,off+k*10+1,none⟩=some (.int .u8 8):=hrow 1 _ rfl
     have q2:w1.cell? ⟨b,off+k*10+2,none⟩=some (.int .u32 x2):=hrow 2 _ rfl
     have q3:w1.cell? ⟨b,off+k*10+3,none⟩=some (.int .u8 x3):=hrow 3 _ rfl
     have q4:w1.cell? ⟨b,off+k*10+4,none⟩=some (.int .u8 x4):=hrow 4 _ rfl
     have q5:w1.cell? ⟨b,off+k*10+5,none⟩=some (.int .u32 x5):=hrow 5 _ rfl
     have q6:w1.cell? ⟨b,off+k*10+6,none⟩=some (.int .u32 x6):=hrow 6 _ rfl
     have q7:w1.cell? ⟨b,off+k*10+7,none⟩=some (.int .u32 x7):=hrow 7 _ rfl
     have q8:w1.cell? ⟨b,off+k*10+8,none⟩=some (.int .u32 x8):=hrow 8 _ rfl
     have q9:w1.cell? ⟨b,off+k*10+9,none⟩=some (.slice xA hops.length xc):=hrow 9 _ rfl
     have ik:(k:Int)<(la.length:Int):=by omega
     replace htk:=Lib.hid htk
     clear hrow
     have KX:=Blk.new w1 38 #[.int .u32 335544320,.int .u8 8,.int .u32 x2,.int .u8 x3,.int .u8 x4,.int .u32 x5,.int .u32 x6,.int .u32 x7,.int .u32 x8,.slice xA hops.length xc]
     have hB2:Below w.heap.size w (w1.alloc (.cells #[.int .u32 335544320,.int .u8 8,.int .u32 x2,.int .u8 x3,.int .u8 x4,.int .u32 x5,.int .u32 x6,.int .u32 x7,.int .u32 x8,.slice xA hops.length xc] 38)):=hBr.alloc hz _
     have ho2:=own_alloc ho (.cells #[.int .u32 335544320,.int .u8 8,.int .u32 x2,.int .u8 x3,.int .u8 x4,.int .u32 x5,.int .u32 x6,.int .u32 x7,.int .u32 x8,.slice xA hops.length xc] 38)
     obtain ⟨-,Al,cl,rfl,-⟩:=Sl.of_own ho
     go_upto_region 8 with fail
     clear q0 q1 q2 q3 q4 q5 q6 q7 q8 q9
     generalize w1.alloc (.cells #[.int .u32 335544320,.int .u8 8,.int .u32 x2,.int .u8 x3,.int .u8 x4,.int .u32 x5,.int .u32 x6,.int .u32 x7,.int .u32 x8,.slice xA hops.length xc] 38)=w2 at KX hB2 ho2 ⊢
     obtain ⟨gx,hgx⟩:∃ gx,gx=w1.heap.size:=⟨_,rfl⟩
     rw[←hgx] at KX hz ⊢
     replace hgx:=Lib.hid hgx
     have x0:=KX.cell 0
     have x1:=KX.cell 1
     have x9:=KX.cell 9
     have f9:=KX.free 9
     simp only[q'a,q'z,q's] at x0 x1 x9
     have hxl:=KX.lt
     have hsl2:=hsl.below (hB2.mono hB)
     have hz2:=hB2.size
     go_upto_region 10 with (at_builtin;refine wpList_append rfl (.const (.slice none 0 0)) (.tmp 32) 36 rfl w2.heap.size hopT (.slice none 0 0) 0 [] rfl (World.ownsRow_nil _ _ _ _) B (.slice xA hops.length xc) hops.length (hops.flatMap hopCells) rfl hsl2 hops_oneCell (by simp only[maxLen];omega) (by omega) (Nat.le_refl _) ?_;intro hv w3 ho3 hg3 hob3;rw[Nat.zero_add,List.nil_append] at ho3;obtain ⟨-,A9,c9,rfl,-⟩:=Sl.of_own ho3;have hS3:=below_of_grown hg3 (Nat.le_refl _) (fun g hg=>by simp[Value.ownBlock] at hg);have KX3:=KX.below hS3 hxl;have ho23:=own_below ho2 hS3;have f93:=KX3.free 9;have x93:=KX3.cell 9;simp only[q'a,q'z,q's] at x93)
     clear x0 x1 x9 f9 f93 x93
     have KX4:=KX3.set_ 9 (.slice A9 hops.length c9)
     simp only[s'a,s'z,s's] at KX4
     have hB4:=(hB2.trans (hS3.mono hz2)).setCell (p:=⟨gx,9,none⟩) hz (.slice A9 hops.length c9)
     have ho4:(w3.setCell ⟨gx,9,none⟩ (.slice A9 hops.length c9)).ownsRow w.heap.size 38 10 (.slice Al all.length cl) all.length (all.flatMap wayL):=own_same ho23 fun g hg=>Below.heap_setCell _ _ _ g (fun e=>by have:=(ho.lt g hg).2;have e2:g=gx:=e;have:=hgx.out;omega)
     clear KX KX3 ho2 ho23 ho3 hg3 hob3 hS3 hsl2 hB2
     generalize w3.setCell ⟨gx,9,none⟩ (.slice A9 hops.length c9)=w5 at KX4 hB4 ho4 ⊢
     go_wp2_with (first
      | (refine wpList_load_row rfl 38 (.tmp 9) rfl gx rfl 38 #[.int .u32 335544320,.int .u8 8,.int .u32 x2,.int .u8 x3,.int .u8 x4,.int .u32 x5,.int .u32 x6,.int .u32 x7,.int .u32 x8,.slice A9 hops.length c9] (0,0) _ KX4 Tryz.underlying38 rfl (by kernel_rfl) ?_)
      | (at_builtin;refine wpList_append rfl (.tmp 35) (.tmp 37) 30 rfl w.heap.size wayT (.slice Al all.length cl) all.length (all.flatMap wayL) rfl (own_alloc ho4 _) _ _ 1 [.int .u32 335544320,.int .u8 8,.int .u32 x2,.int .u8 x3,.int .u8 x4,.int .u32 x5,.int .u32 x6,.int .u32 x7,.int .u32 x8,.slice A9 hops.length c9] rfl (Sl.lit w5 #[.int .u32 335544320,.int .u8 8,.int .u32 x2,.int .u8 x3,.int .u8 x4,.int .u32 x5,.int .u32 x6,.int .u32 x7,.int .u32 x8,.slice A9 hops.length c9] 38 (by simp[maxLen]) rfl) (by simp[Value.oneCell']) (by simp only[maxLen];omega) (by omega) (by have:=hB4.size;simp;omega) ?_;intro v7 w7 ho7 hg7 hob7))
     have hB7:Below w.heap.size w w7:=(hB4.alloc hB4.size (.cells #[.int .u32 335544320,.int .u8 8,.int .u32 x2,.int .u8 x3,.int .u8 x4,.int .u32 x5,.int .u32 x6,.int .u32 x7,.int .u32 x8,.slice A9 hops.length c9] 38)).trans (below_of_grown hg7 (by have:=hB4.size;simp;omega) (fun g hg=>(ho4.lt g hg).1))
     go_roundg (la.length-(k+1))
     case measure=>omega
     case rel =>
      refine ⟨k+1,by omega,rfl,by go_num,all++[⟨⟨335544320,8,x2,x3,x4,x5,x6,x7,x8⟩,A9,hops.length,c9⟩],by rw[htk.out];simp,?_,hB7⟩
      rw[List.length_append,List.flatMap_append]
      exact ho7
    ·obtain rfl:k=la.length:=by omega
     rw[List.take_length] at hall
     go_wp2_with fail
     go_roundg 1
     case measure=>omega
     case rel=>exact ⟨1,1,rfl,rfl,by simp,all,by rw[hall];simp[doneN],ho,hBr⟩
  ·rw[show doneN la lb 1=la.map (·.n) from rfl] at hR
   go_wp2_with fail
   go_loopg [5,18] lb.length (fun m v i wr=>∃ k:Nat,k≤lb.length∧m=lb.length-k∧i=.int .i64 k∧AllR w (la.map (·.n)++(lb.take k).map (·.n)) v wr)
   case atStart=>exact ⟨0,Nat.zero_le _,rfl,rfl,by simpa using hR.out⟩
   case round =>
    clear hR
    obtain ⟨k,hk,rfl,rfl,all,hall,ho,hBr⟩:=hrel
    obtain ⟨w1,rfl⟩:∃ x:World,x=wr:=⟨_,rfl⟩
    have hz:=hBr.size
    by_cases hkl2:k<lb.length
    ·obtain ⟨b,off,rfl,hb0,hrow⟩:=Sl.row wayL_len (hb.below (hBr.mono hB)) hkl2
     have hpk:=hhops.out lb[k] (by simp)
     have htk:la.map (·.n)++(lb.take (k+1)).map (·.n)=all.map (·.n)++[lb[k].n]:=by
      rw[hall,List.take_succ_eq_append_getElem hkl2,List.map_append,←List.append_assoc]
      rfl
     have hal:all.length≤1000:=by
      have h:=congrArg List.length hall
      simp at h
      omega
     obtain ⟨x,hx⟩:∃ x,x=lb[k]:=⟨_,rfl⟩
     rw[←hx] at hrow hpk htk
     clear hx
     obtain ⟨⟨x0,x1,x2,x3,x4,x5,x6,x7,x8⟩,xA,xn,xc⟩:=x
     obtain ⟨hp1,hp2,hops,hhn,hsl⟩:=hpk
     dsimp only at hp1 hp2 hsl htk
     subst hp1 hp2
     obtain rfl:xn=hops.length:=by
      obtain ⟨-,A8,c8,h8,-⟩:=hsl
      injection h8
     have q0:w1.cell? ⟨b,off+k*10,none⟩=some (.int .u32 335544320):=hrow 0 _ rfl
     have q1:w1.cell? ⟨b,off+k*10+1,none⟩=some (.int .u8 8):=hrow 1 _ rfl
     have q2:w1.cell? ⟨b,off+k*10+2,none⟩=some (.int .u32 x2):=hrow 2 _ rfl
     have q3:w1.cell? ⟨b,off+k*10+3,none⟩=some (.int .u8 x3):=hrow 3 _ rfl
     have q4:w1.cell? ⟨b,off+k*10+4,none⟩=some (.int .u8 x4):=hrow 4 _ rfl
     have q5:w1.cell? ⟨b,off+k*10+5,none⟩=some (.int .u32 x5):=hrow 5 _ rfl
     have q6:w1.cell? ⟨b,off+k*10+6,none⟩=some (.int .u32 x6):=hrow 6 _ rfl
     have q7:w1.cell? ⟨b,off+k*10+7,none⟩=some (.int .u32 x7):=hrow 7 _ rfl
     have q8:w1.cell? ⟨b,off+k*10+8,none⟩=some (.int .u32 x8):=hrow 8 _ rfl
     have q9:w1.cell? ⟨b,off+k*10+9,none⟩=some (.slice xA hops.length xc):=hrow 9 _ rfl
     have ik:(k:Int)<(lb.length:Int):=by omega
     replace htk:=Lib.hid htk
     clear hrow
     have KX:=Blk.new w1 38 #[.int .u32 335544320,.int .u8 8,.int .u32 x2,.int .u8 x3,.int .u8 x4,.int .u32 x5,.int .u32 x6,.int .u32 x7,.int .u32 x8,.slice xA hops.length xc]
     have hB2:Below w.heap.size w (w1.alloc (.cells #[.int .u32 335544320,.int .u8 8,.int .u32 x2,.int .u8 x3,.int .u8 x4,.int .u32 x5,.int .u32 x6,.int .u32 x7,.int .u32 x8,.slice xA hops.length xc] 38)):=hBr.alloc hz _
     have ho2:=own_alloc ho (.cells #[.int .u32 335544320,.int .u8 8,.int .u32 x2,.int .u8 x3,.int .u8 x4,.int .u32 x5,.int .u32 x6,.int .u32 x7,.int .u32 x8,.slice xA hops.length xc] 38)
     obtain ⟨-,Al,cl,rfl,-⟩:=Sl.of_own ho
     go_upto_region 8 with fail
     clear q0 q1 q2 q3 q4 q5 q6 q7 q8 q9
     generalize w1.alloc (.cells #[.int .u32 335544320,.int .u8 8,.int .u32 x2,.int .u8 x3,.int .u8 x4,.int .u32 x5,.int .u32 x6,.int .u32 x7,.int .u32 x8,.slice xA hops.length xc] 38)=w2 at KX hB2 ho2 ⊢
     obtain ⟨gx,hgx⟩:∃ gx,gx=w1.heap.size:=⟨_,rfl⟩
     rw[←hgx] at KX hz ⊢
     replace hgx:=Lib.hid hgx
     have x0:=KX.cell 0
     have x1:=KX.cell 1
     have x9:=KX.cell 9
     have f9:=KX.free 9
     simp only[q'a,q'z,q's] at x0 x1 x9
     have hxl:=KX.lt
     have hsl2:=hsl.below (hB2.mono hB)
     have hz2:=hB2.size
     go_upto_region 10 with (at_builtin;refine wpList_append rfl (.const (.slice none 0 0)) (.tmp 32) 36 rfl w2.heap.size hopT (.slice none 0 0) 0 [] rfl (World.ownsRow_nil _ _ _ _) B (.slice xA hops.length xc) hops.length (hops.flatMap hopCells) rfl hsl2 hops_oneCell (by simp only[maxLen];omega) (by omega) (Nat.le_refl _) ?_;intro hv w3 ho3 hg3 hob3;rw[Nat.zero_add,List.nil_append] at ho3;obtain ⟨-,A9,c9,rfl,-⟩:=Sl.of_own ho3;have hS3:=below_of_grown hg3 (Nat.le_refl _) (fun g hg=>by simp[Value.ownBlock] at hg);have KX3:=KX.below hS3 hxl;have ho23:=own_below ho2 hS3;have f93:=KX3.free 9;have x93:=KX3.cell 9;simp only[q'a,q'z,q's] at x93)
     clear x0 x1 x9 f9 f93 x93
     have KX4:=KX3.set_ 9 (.slice A9 hops.length c9)
     simp only[s'a,s'z,s's] at KX4
     have hB4:=(hB2.trans (hS3.mono hz2)).setCell (p:=⟨gx,9,none⟩) hz (.slice A9 hops.length c9)
     have ho4:(w3.setCell ⟨gx,9,none⟩ (.slice A9 hops.length c9)).ownsRow w.heap.size 38 10 (.slice Al all.length cl) all.length (all.flatMap wayL):=own_same ho23 fun g hg=>Below.heap_setCell _ _ _ g (fun e=>by have:=(ho.lt g hg).2;have e2:g=gx:=e;have:=hgx.out;omega)
     clear KX KX3 ho2 ho23 ho3 hg3 hob3 hS3 hsl2 hB2
     generalize w3.setCell ⟨gx,9,none⟩ (.slice A9 hops.length c9)=w5 at KX4 hB4 ho4 ⊢
     go_wp2_with (first
      | (refine wpList_load_row rfl 38 (.tmp 9) rfl gx rfl 38 #[.int .u32 335544320,.int .u8 8,.int .u32 x2,.int .u8 x3,.int .u8 x4,.int .u32 x5,.int .u32 x6,.int .u32 x7,.int .u32 x8,.slice A9 hops.length c9] (0,0) _ KX4 Tryz.underlying38 rfl (by kernel_rfl) ?_)
      | (at_builtin;refine wpList_append rfl (.tmp 35) (.tmp 37) 30 rfl w.heap.size wayT (.slice Al all.length cl) all.length (all.flatMap wayL) rfl (own_alloc ho4 _) _ _ 1 [.int .u32 335544320,.int .u8 8,.int .u32 x2,.int .u8 x3,.int .u8 x4,.int .u32 x5,.int .u32 x6,.int .u32 x7,.int .u32 x8,.slice A9 hops.length c9] rfl (Sl.lit w5 #[.int .u32 335544320,.int .u8 8,.int .u32 x2,.int .u8 x3,.int .u8 x4,.int .u32 x5,.int .u32 x6,.int .u32 x7,.int .u32 x8,.slice A9 hops.length c9] 38 (by simp[maxLen]) rfl) (by simp[Value.oneCell']) (by simp only[maxLen];omega) (by omega) (by have:=hB4.size;simp;omega) ?_;intro v7 w7 ho7 hg7 hob7))
     have hB7:Below w.heap.size w w7:=(hB4.alloc hB4.size (.cells #[.int .u32 335544320,.int .u8 8,.int .u32 x2,.int .u8 x3,.int .u8 x4,.int .u32 x5,.int .u32 x6,.int .u32 x7,.int .u32 x8,.slice A9 hops.length c9] 38)).trans (below_of_grown hg7 (by have:=hB4.size;simp;omega) (fun g hg=>(ho4.lt g hg).1))
     go_roundg (lb.length-(k+1))
     case measure=>omega
     case rel =>
      refine ⟨k+1,by omega,rfl,by go_num,all++[⟨⟨335544320,8,x2,x3,x4,x5,x6,x7,x8⟩,A9,hops.length,c9⟩],by rw[htk.out];simp,?_,hB7⟩
      rw[List.length_append,List.flatMap_append]
      exact ho7
    ·obtain rfl:k=lb.length:=by omega
     rw[List.take_length] at hall
     go_wp2_with fail
     go_roundg 0
     case measure=>omega
     case rel=>exact ⟨2,2,rfl,rfl,by simp,all,by rw[hall];simp[doneN],ho,hBr⟩
  ·obtain ⟨all,hall,ho,hBr⟩:=hR.out
   clear hR
   rw[show doneN la lb 2=(la++lb).map (·.n) from rfl] at hall
   have hlen:all.length=(la++lb).length:=by simpa using congrArg List.length hall
   have hget:∀ k (h:k<all.length) (h2:k<(la++lb).length),all[k].n=(la++lb)[k].n:=fun k h h2=>by
    have:=List.getElem_of_eq hall (i:=k) (by simpa using h)
    rw[List.getElem_map,List.getElem_map] at this
    exact this
   have CBst:=best20_any all _ w0.heap.size w0 (Sl.of_own ho) (Nat.le_refl _) (by omega) (by rw[hlen,List.length_append];exact hn)
    (fun k h=>by rw[hget k h (by omega)];have:=hhops.out (la++lb)[k] (List.getElem_mem _);exact ⟨this.1,this.2.1⟩)
    (fun k h h' hk=>by rw[hget k h (by omega),hget (k-1) h' (by omega)];exact hbet.out k (by omega) (by omega) hk)
   replace CBst:=Lib.hid CBst
   obtain ⟨-,Al,cl,rfl,-⟩:=Sl.of_own ho
   have hg9:=hget (all.length-1)
   replace hg9:=Lib.hid hg9
   replace hlen:=Lib.hid hlen
   clear hall ho hix0 hix1 hneq hget
   go_wp2_with (go_at_call 84;refine Calls.mono CBst.out ?_;rintro e w3 ⟨g,cap,hlt,rfl,ho3,hB3⟩)
   go_ret
   have hl:=hlen.out
   refine ⟨g,cap,all[all.length-1],by omega,rfl,?_,own_less ho3 hBr.size,hBr.trans (hB3.mono hBr.size)⟩
   rw[hg9.out hlt (by omega)]
   simp only[hl]
end Go.Proofs.YtiikagabdiphkaaGreat
