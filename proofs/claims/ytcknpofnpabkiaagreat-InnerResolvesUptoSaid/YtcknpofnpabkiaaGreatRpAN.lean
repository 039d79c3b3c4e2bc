/- Layer 18's ways: the document's ways as the program's. Conditions: the ways and their hops lie in memory. -/
import Derived.Test.YtcknpofnpabkiaaGreatRpAK
import Derived.Test.YtcknpofnpabkiaaGreatRpAM
set_option maxRecDepth 100000
namespace Go.Proofs.YtcknpofnpabkiaaGreat
open Go.RowKit Go.Lo
theorem WaysIn.n {w:World} {B:Nat} {lv:Value} {R:List WayG} {l:List WayV} (h:WaysIn w B lv R l) (k:Nat) (_h1:k<l.length) (_h2:k<R.length):l[k].n=R[k].1:=by
 have:=congrArg (fun z=>z[k]?) h.map
 simpa[_h1,_h2] using this
theorem sl_lenW {w:World} {B s n c m:Nat} {A:Option Addr} {xs:List Value} (h:Sl w B s (.slice A n c) m xs):n=m:=by
 obtain ⟨-,A8,c8,h8,-⟩:=h
 injection h8
structure ImpR (w0:World) (xs:List WayY) (v:Value) (wr:World):Prop where
 own:wr.ownsRow w0.heap.size 48 10 v xs.length (xs.flatMap yL)
 hops:∀ x∈xs,wr.ownsRow w0.heap.size 56 3 (.slice x.1.A x.1.len x.1.cap) x.2.length (x.2.flatMap hopCells)
 below:Below w0.heap.size w0 wr
theorem ImpR.grown {w0 wr w':World} {xs:List WayY} {v:Value} {row:Option Nat} (h:ImpR w0 xs v wr) (hg:wr.grownBy w' row) (hr:∀ b,row=some b→w0.heap.size≤b∧v.ownBlock≠some b∧∃ cs,Blk wr b 48 cs):ImpR w0 xs v w':=by
 refine ⟨own_same h.own fun k hk=>hg.block k (h.own.lt k hk).2 fun e=>(hr k e.symm).2.1 hk,fun x hx=>own_same (h.hops x hx) fun k hk=>hg.block k ((h.hops x hx).lt k hk).2 fun e => ?_,h.below.trans (below_of_grown hg h.below.size fun g hg=>(hr g hg).1)⟩
 obtain ⟨-,-,cs,hb⟩:=hr k e.symm
 exact own_neW (h.hops x hx) hb (by decide) k hk rfl
theorem ImpR.call {w0 wr w':World} {xs:List WayY} {v:Value} (h:ImpR w0 xs v wr) (hb:Below wr.heap.size wr w'):ImpR w0 xs v w':=h.grown (grown_of_below hb none) fun _ e=>by cases e
theorem ImpR.alloc {w0 wr:World} {xs:List WayY} {v:Value} (h:ImpR w0 xs v wr) (o:Obj):ImpR w0 xs v (wr.alloc o):=h.call ((b'r _ _).alloc (n'r _) o)
theorem ImpR.grow {w0 wr w':World} {xs xs':List WayY} {x:WayY} {v v':Value} (h:ImpR w0 xs v wr) (hx:xs'=xs++[x]) (hh:wr.ownsRow w0.heap.size 56 3 (.slice x.1.A x.1.len x.1.cap) x.2.length (x.2.flatMap hopCells)) (ho:w'.ownsRow w0.heap.size 48 10 v' xs'.length (xs'.flatMap yL)) (hg:wr.grownBy w' v.ownBlock):ImpR w0 xs' v' w':=by
 refine ⟨ho,fun z hz => ?_,h.below.trans (below_of_grown hg h.below.size fun g hg=>(h.own.lt g hg).1)⟩
 subst hx
 rcases List.mem_append.1 hz with hz | hz
 ·exact own_grown h.own (h.hops z hz) hg (by decide)
 ·rw[List.mem_singleton.1 hz]
  exact own_grown h.own hh hg (by decide)
set_option maxHeartbeats 2000000 in
theorem ways18_any (B:Nat) (lv:Value) (R:List WayG) (lw:List WayV) (w:World) (hW:WaysIn w B lv R lw) (hB:B≤w.heap.size) (hh:∀ r∈R,r.2.length≤2000000) (hn:lw.length≤2000000) :
  Calls Tryz.prog 26 #[lv] w fun e w'=>∃ v xs,e=.returned v∧gOf xs=R∧ImpR w xs v w':=by
 obtain ⟨-,lA,lc,rfl,-⟩:=id hW.sl
 have hlw:=hW.len
 replace hW:=h'd hW
 replace hh:=h'd hh
 go_enter Tryz.func26,Tryz.ntmps26
 go_wp2_with fail
 go_loopg [4,3] lw.length (fun c i v wr=>∃ (k:Nat) (xs:List WayY),k≤lw.length∧c=lw.length-k∧i=.int .i64 k∧xs.length=k∧gOf xs=R.take k∧ImpR w xs v wr)
 case atStart=>exact ⟨0,[],Nat.zero_le _,rfl,rfl,rfl,rfl,⟨World.ownsRow_nil _ _ _ _,fun _ h=>(by cases h),b'r _ _⟩⟩
 case round =>
  obtain ⟨k,xs,hk,rfl,rfl,hxk,hgx,hI⟩:=hrel
  obtain ⟨w1,rfl⟩:∃ x:World,x=wr:=⟨_,rfl⟩
  have hz1:=hI.below.size
  by_cases hkl:k<lw.length
  ·have hkR:k<R.length:=by omega
   have hW1:=hW.out.below (hI.below.mono hB)
   obtain ⟨b,off,hwA,hb0,hrow⟩:=Sl.row wayL_len hW1.sl hkl
   subst hwA
   have hhp:=hW1.hops k hkl hkR
   have hxn:=hW1.n k hkl hkR
   have hgh:=hh.out _ (g'm hkR)
   have htk:R.take (k+1)=R.take k++[R[k]]:=t'k hkR
   replace hlw:=h'd hlw
   obtain ⟨x,hx⟩:∃ x,x=lw[k]:=⟨_,rfl⟩
   rw[←hx] at hrow hhp hxn
   clear hx
   generalize R[k]=g at *
   obtain ⟨gn,gh⟩:=g
   obtain ⟨⟨x0,x1,x2,x3,x4,x5,x6,x7,x8⟩,xA,xn,xc⟩:=x
   simp only at hxn
   subst hxn
   obtain rfl:xn=gh.length:=sl_lenW hhp
   replace hgh:gh.length≤2000000:=hgh
   have q0:w1.cell? ⟨b,off+k*10,none⟩=some (.int .u32 x0):=hrow 0 _ rfl
   have q1:w1.cell? ⟨b,off+k*10+1,none⟩=some (.int .u8 x1):=hrow 1 _ rfl
   have q2:w1.cell? ⟨b,off+k*10+2,none⟩=some (.int .u32 x2):=hrow 2 _ rfl
   have q3:w1.cell? ⟨b,off+k*10+3,none⟩=some (.int .u8 x3):=hrow 3 _ rfl
   have q4:w1.cell? ⟨b,off+k*10+4,none⟩=some (.int .u8 x4):=hrow 4 _ rfl
   have q5:w1.cell? ⟨b,off+k*10+5,none⟩=some (.int .u32 x5):=hrow 5 _ rfl
   have q6:w1.cell? ⟨b,off+k*10+6,none⟩=some (.int .u32 x6):=hrow 6 _ rfl
   have q7:w1.cell? ⟨b,off+k*10+7,none⟩=some (.int .u32 x7):=hrow 7 _ rfl
   have q8:w1.cell? ⟨b,off+k*10+8,none⟩=some (.int .u32 x8):=hrow 8 _ rfl
   have q9:w1.cell? ⟨b,off+k*10+9,none⟩=some (.slice xA gh.length xc):=hrow 9 _ rfl
   have ik:(k:Int)<(lw.length:Int):=by omega
   have CW:=way18_any ⟨x0,x1,x2,x3,x4,x5,x6,x7,x8⟩ xA xc gh B w1 hhp (n't hB hz1) hgh
   dsimp only[wayC] at CW
   replace CW:=h'd CW
   clear hrow hW1
   go_wp2_with (first
    | (go_at_call 60;refine c'm CW.out ?_;rintro e w4 ⟨yA,yc,rfl,hoy,hBy⟩;have hI5:=(hI.call hBy).alloc (.cells #[.int .u32 x0,.int .u8 x1,.int .u32 x2,.int .u8 x3,.int .u8 x4,.int .u32 x5,.int .u32 x6,.int .u32 x7,.int .u32 x8,.slice yA gh.length yc] 48);have hoy5:=own_alloc (own_less hoy hz1) (.cells #[.int .u32 x0,.int .u8 x1,.int .u32 x2,.int .u8 x3,.int .u8 x4,.int .u32 x5,.int .u32 x6,.int .u32 x7,.int .u32 x8,.slice yA gh.length yc] 48);have hz4:=hBy.size;dsimp only[wayC])
    | (at_builtin;refine wpList_append rfl (.tmp 11) (.tmp 17) 36 rfl w.heap.size wayT u3 xs.length (xs.flatMap yL) rfl hI5.own _ _ 1 [.int .u32 x0,.int .u8 x1,.int .u32 x2,.int .u8 x3,.int .u8 x4,.int .u32 x5,.int .u32 x6,.int .u32 x7,.int .u32 x8,.slice yA gh.length yc] rfl (Sl.lit w4 #[.int .u32 x0,.int .u8 x1,.int .u32 x2,.int .u8 x3,.int .u8 x4,.int .u32 x5,.int .u32 x6,.int .u32 x7,.int .u32 x8,.slice yA gh.length yc] 48 (by simp[maxLen]) rfl) (by simp[Value.oneCell']) (by simp only[maxLen];omega) (by omega) (by simp;omega) ?_;intro v7 w7 ho7 hg7 hob7)
    | fail)
   go_roundg (lw.length-(k+1))
   case measure=>omega
   case rel =>
    refine ⟨k+1,xs++[((⟨⟨x0,x1,x2,x3,x4,x5,x6,x7,x8⟩,yA,gh.length,yc⟩,gh):WayY)],by omega,rfl,by go_num,by simp[hxk],by rw[gOf_snoc,hgx,htk],hI5.grow rfl hoy5 ?_ hg7⟩
    rw[l'a,List.flatMap_append]
    exact ho7
  ·obtain rfl:k=lw.length:=by omega
   rw[hlw,List.take_length] at hgx
   go_wp2_with fail
   go_ret
   exact ⟨u3,xs,rfl,hgx,hI⟩
def ArgI (R:List WayG):Prop:=∀ r∈R,(0≤r.1.bits∧r.1.bits<256)∧r.2.length≤2000000
end Go.Proofs.YtcknpofnpabkiaaGreat
