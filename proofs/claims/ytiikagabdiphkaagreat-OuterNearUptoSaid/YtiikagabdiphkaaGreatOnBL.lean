/- Layer 20's ways: the document's ways as the program's. Conditions: the ways and their hops lie in memory. -/
import Derived.Test.YtiikagabdiphkaaGreatOnBE
import Derived.Test.YtiikagabdiphkaaGreatOnAO
set_option maxRecDepth 100000
namespace Go.Proofs.YtiikagabdiphkaaGreat
open Go.RowKit Go.Lo
set_option maxHeartbeats 2000000 in
theorem ways20_any (B:Nat) (lv:Value) (R:List WayG) (lw:List WayV) (w:World) (hW:WaysIn w B lv R lw) (hB:B≤w.heap.size) (hh:∀ r∈R,r.2.length≤2000000) (hn:lw.length≤2000000) :
  Calls Tryz.prog 40 #[lv] w fun e w'=>∃ v xs,e=.returned v∧gOf xs=R∧ImpR w xs v w':=by
 obtain ⟨-,lA,lc,rfl,-⟩:=id hW.sl
 have hlw:=hW.len
 replace hW:=Lib.hid hW
 replace hh:=Lib.hid hh
 go_enter Tryz.func40,Tryz.ntmps40
 go_wp2_with fail
 go_loopg [4,3] lw.length (fun c i v wr=>∃ (k:Nat) (xs:List WayY),k≤lw.length∧c=lw.length-k∧i=.int .i64 k∧xs.length=k∧gOf xs=R.take k∧ImpR w xs v wr)
 case atStart=>exact ⟨0,[],Nat.zero_le _,rfl,rfl,rfl,rfl,⟨World.ownsRow_nil _ _ _ _,fun _ h=>(by cases h),Below.refl _ _⟩⟩
 case round =>
  obtain ⟨k,xs,hk,rfl,rfl,hxk,hgx,hI⟩:=hrel
  obtain ⟨w1,rfl⟩:∃ x:World,x=wr:=⟨_,rfl⟩
  have hz1:=hI.below.size
  by_cases hkl:k<lw.length
  ·have hkR:k<R.length:=by omega
   have hW1:=hW.out.below (hI.below.mono hB)
   obtain ⟨b,off,hwA,hb0,hrow⟩:=Sl.row wayL_len hW1.sl hkl
   subst hwA
   have hhp:=hW1.hops k hkl hkR
   have hxn:=hW1.n k hkl hkR
   have hgh:=hh.out _ (List.getElem_mem hkR)
   have htk:R.take (k+1)=R.take k++[R[k]]:=List.take_succ_eq_append_getElem hkR
   replace hlw:=Lib.hid hlw
   obtain ⟨x,hx⟩:∃ x,x=lw[k]:=⟨_,rfl⟩
   rw[←hx] at hrow hhp hxn
   clear hx
   generalize R[k]=g at *
   obtain ⟨gn,gh⟩:=g
   obtain ⟨⟨x0,x1,x2,x3,x4,x5,x6,x7,x8⟩,xA,xn,xc⟩:=x
   simp only at hxn
   subst hxn
   obtain rfl:xn=gh.length:=sl_len hhp
   replace hgh:gh.length≤2000000:=hgh
   have q0:w1.cell? ⟨b,off+k*10,none⟩=some (.int .u32 x0):=hrow 0 _ rfl
   have q1:w1.cell? ⟨b,off+k*10+1,none⟩=some (.int .u8 x1):=hrow 1 _ rfl
   have q2:w1.cell? ⟨b,off+k*10+2,none⟩=some (.int .u32 x2):=hrow 2 _ rfl
   have q3:w1.cell? ⟨b,off+k*10+3,none⟩=some (.int .u8 x3):=hrow 3 _ rfl
   have q4:w1.cell? ⟨b,off+k*10+4,none⟩=some (.int .u8 x4):=hrow 4 _ rfl
   have q5:w1.cell? ⟨b,off+k*10+5,none⟩=some (.int .u32 x5):=hrow 5 _ rfl
   have q6:w1.cell? ⟨b,off+k*10+6,none⟩=some (.int .u32 x6):=hrow 6 _ rfl
   have q7:w1.cell? ⟨b,off+k*10+7,none⟩=some (.int .u32 x7):=hrow 7 _ rfl
   have q8:w1.cell? ⟨b,off+k*10+8,none⟩=some (.int .u32 x8):=hrow 8 _ rfl
   have q9:w1.cell? ⟨b,off+k*10+9,none⟩=some (.slice xA gh.length xc):=hrow 9 _ rfl
   have ik:(k:Int)<(lw.length:Int):=by omega
   have CW:=way20_any ⟨x0,x1,x2,x3,x4,x5,x6,x7,x8⟩ xA xc gh B w1 hhp (Nat.le_trans hB hz1) hgh
   dsimp only[wayC] at CW
   replace CW:=Lib.hid CW
   clear hrow hW1
   go_wp2_with (first
    | (go_at_call 37;refine Calls.mono CW.out ?_;rintro e w4 ⟨yA,yc,rfl,hoy,hBy⟩;have hI5:=(hI.call hBy).alloc (.cells #[.int .u32 x0,.int .u8 x1,.int .u32 x2,.int .u8 x3,.int .u8 x4,.int .u32 x5,.int .u32 x6,.int .u32 x7,.int .u32 x8,.slice yA gh.length yc] 38);have hoy5:=own_alloc (own_less hoy hz1) (.cells #[.int .u32 x0,.int .u8 x1,.int .u32 x2,.int .u8 x3,.int .u8 x4,.int .u32 x5,.int .u32 x6,.int .u32 x7,.int .u32 x8,.slice yA gh.length yc] 38);have hz4:=hBy.size;dsimp only[wayC])
    | (at_builtin;refine wpList_append rfl (.tmp 11) (.tmp 17) 30 rfl w.heap.size wayT u3 xs.length (xs.flatMap yL) rfl hI5.own _ _ 1 [.int .u32 x0,.int .u8 x1,.int .u32 x2,.int .u8 x3,.int .u8 x4,.int .u32 x5,.int .u32 x6,.int .u32 x7,.int .u32 x8,.slice yA gh.length yc] rfl (Sl.lit w4 #[.int .u32 x0,.int .u8 x1,.int .u32 x2,.int .u8 x3,.int .u8 x4,.int .u32 x5,.int .u32 x6,.int .u32 x7,.int .u32 x8,.slice yA gh.length yc] 38 (by simp[maxLen]) rfl) (by simp[Value.oneCell']) (by simp only[maxLen];omega) (by omega) (by simp;omega) ?_;intro v7 w7 ho7 hg7 hob7)
    | fail)
   go_roundg (lw.length-(k+1))
   case measure=>omega
   case rel =>
    refine ⟨k+1,xs++[((⟨⟨x0,x1,x2,x3,x4,x5,x6,x7,x8⟩,yA,gh.length,yc⟩,gh):WayY)],by omega,rfl,by go_num,by simp[hxk],by rw[gOf_snoc,hgx,htk],hI5.grow rfl hoy5 ?_ hg7⟩
    rw[List.length_append,List.flatMap_append]
    exact ho7
  ·obtain rfl:k=lw.length:=by omega
   rw[hlw,List.take_length] at hgx
   go_wp2_with fail
   go_ret
   exact ⟨u3,xs,rfl,hgx,hI⟩
end Go.Proofs.YtiikagabdiphkaaGreat
