/- Copies of states. -/
import Derived.Test.YtcknpofnpabkiaaGreatInAX
import Derived.Test.YtcknpofnpabkiaaGreatInAI
import Derived.Test.YtcknpofnpabkiaaGreatInAF
import Derived.Test.YtcknpofnpabkiaaGreatInAE
set_option maxRecDepth 100000
namespace Go.Proofs.YtcknpofnpabkiaaGreat
open Go.RowKit Go.Lo
def bodySum (l:List StV):Int:=(l.map fun x=>(x.len:Int)).sum
theorem bodySum_snoc (l:List StV) (x:StV):bodySum (l++[x])=bodySum l+(x.len:Int):=by simp[bodySum]
theorem bodySum_le (l:List StV):0≤bodySum l∧∀ x∈l,(x.len:Int)≤bodySum l:=by
 induction l with
 | nil=>exact ⟨by simp[bodySum],fun x hx=>by cases hx⟩
 | cons a r ih =>
  have h1:bodySum (a :: r)=(a.len:Int)+bodySum r:=by simp[bodySum]
  refine ⟨by omega,fun x hx => ?_⟩
  rcases List.mem_cons.1 hx with rfl | hx
  ·omega
  ·have:=ih.2 x hx;omega
theorem copybytes_any (B:Nat) (bv:Value) (body:List Int) (w:World) (hb:Sl w B 1 bv body.length (body.map u8c)) (hn:body.length≤2000000) :
  Calls Tryz.prog 102 #[bv] w fun e w'=>∃ v,e=.returned v∧w'.ownsRow w.heap.size 5 1 v body.length (body.map u8c)∧Below w.heap.size w w':=by
 go_enter Tryz.func102,Tryz.ntmps102
 go_wp2_with (at_builtin;refine wpList_append rfl (.tmp 4) (.tmp 5) 69 rfl w.heap.size u8T (.slice none 0 0) 0 [] rfl (World.ownsRow_nil _ _ _ _) B _ body.length _ rfl hb (u8s_oneCell _) (by simp only[maxLen];omega) (by omega) (Nat.le_refl _) ?_;intro v1 w1 ho1 hg1 hob1;rw[Nat.zero_add,List.nil_append] at ho1)
 go_ret
 exact ⟨v1,rfl,ho1,below_of_grown hg1 (Nat.le_refl _) (fun g hg=>by simp[Value.ownBlock] at hg)⟩
set_option maxHeartbeats 1000000 in
theorem copystate_any (h:OHead) (B:Nat) (bv:Value) (body:List Int) (w:World) (hb:Sl w B 1 bv body.length (body.map u8c)) (hB:B≤w.heap.size) (hn:body.length≤2000000) :
  Calls Tryz.prog 57 #[stateVal h bv] w fun e w'=>∃ v,e=.returned (stateVal h v)∧w'.ownsRow w.heap.size 5 1 v body.length (body.map u8c)∧Below w.heap.size w w':=by
 have hb0:=hb
 obtain ⟨-,A,c,rfl,-⟩:=hb
 dsimp only[stateVal]
 have h0:Blk (((w.alloc (.cells #[.int .u16 h.age,.int .u8 h.opts,.int .u8 h.type,.int .u32 h.id,.int .u32 h.adv,.int .i32 h.seq,.int .u16 h.sum,.int .u16 h.len,.slice A body.length c] 71)).alloc (.cells #[.int .u16 0,.int .u8 0,.int .u8 0,.int .u32 0,.int .u32 0,.int .i32 0,.int .u16 0,.int .u16 0,.slice none 0 0] 71))) w.heap.size 71 #[.int .u16 h.age,.int .u8 h.opts,.int .u8 h.type,.int .u32 h.id,.int .u32 h.adv,.int .i32 h.seq,.int .u16 h.sum,.int .u16 h.len,.slice A body.length c]:=(Blk.new _ _ _).alloc _
 have h1:Blk (((w.alloc (.cells #[.int .u16 h.age,.int .u8 h.opts,.int .u8 h.type,.int .u32 h.id,.int .u32 h.adv,.int .i32 h.seq,.int .u16 h.sum,.int .u16 h.len,.slice A body.length c] 71)).alloc (.cells #[.int .u16 0,.int .u8 0,.int .u8 0,.int .u32 0,.int .u32 0,.int .i32 0,.int .u16 0,.int .u16 0,.slice none 0 0] 71))) (w.heap.size+1) 71 #[.int .u16 0,.int .u8 0,.int .u8 0,.int .u32 0,.int .u32 0,.int .i32 0,.int .u16 0,.int .u16 0,.slice none 0 0]:=Blk.new_ _ (by simp)
 have hB0:Below w.heap.size w (((w.alloc (.cells #[.int .u16 h.age,.int .u8 h.opts,.int .u8 h.type,.int .u32 h.id,.int .u32 h.adv,.int .i32 h.seq,.int .u16 h.sum,.int .u16 h.len,.slice A body.length c] 71)).alloc (.cells #[.int .u16 0,.int .u8 0,.int .u8 0,.int .u32 0,.int .u32 0,.int .i32 0,.int .u16 0,.int .u16 0,.slice none 0 0] 71))):=((Below.refl _ _).alloc (Nat.le_refl _) _).alloc (by simp) _
 go_enter Tryz.func57,Tryz.ntmps57
 go_upto_region 1 with fail
 generalize ((w.alloc (.cells #[.int .u16 h.age,.int .u8 h.opts,.int .u8 h.type,.int .u32 h.id,.int .u32 h.adv,.int .i32 h.seq,.int .u16 h.sum,.int .u16 h.len,.slice A body.length c] 71)).alloc (.cells #[.int .u16 0,.int .u8 0,.int .u8 0,.int .u32 0,.int .u32 0,.int .i32 0,.int .u16 0,.int .u16 0,.slice none 0 0] 71))=w0 at *
 have CC:=h'd (copybytes_any B (.slice A body.length c) body w0 (hb0.below (hB0.mono hB)) hn)
 have x8:=h0.cell 8
 simp only[q'a,q'z,q's] at x8
 have hl1:=h1.lt
 go_upto_region 2 with (first
  | (go_at_call 102;refine Calls.mono CC.out ?_;rintro e w1 ⟨v1,rfl,ho1,hB1⟩;obtain ⟨-,Av,cv,rfl,-⟩:=id (Sl.of_own ho1);have g0:=Blk.call hB1 h0;have f8:=g0.free 8;have y8:=g0.cell 8;simp only[q'a,q'z,q's] at y8)
  | fail)
 have k0:Blk (w1.setCell ⟨w.heap.size,8,none⟩ (.slice Av body.length cv)) w.heap.size 71 #[.int .u16 h.age,.int .u8 h.opts,.int .u8 h.type,.int .u32 h.id,.int .u32 h.adv,.int .i32 h.seq,.int .u16 h.sum,.int .u16 h.len,.slice Av body.length cv]:=g0.set_ 8 _
 have k1:Blk (w1.setCell ⟨w.heap.size,8,none⟩ (.slice Av body.length cv)) (w.heap.size+1) 71 #[.int .u16 0,.int .u8 0,.int .u8 0,.int .u32 0,.int .u32 0,.int .i32 0,.int .u16 0,.int .u16 0,.slice none 0 0]:=(Blk.call hB1 h1).far (by simp) _
 have ho2:=own_far ho1 (p:=⟨w.heap.size,8,none⟩) (by show w.heap.size<w0.heap.size;omega) (.slice Av body.length cv)
 have hB2:=(hB0.trans (hB1.mono hB0.size)).setCell (p:=⟨w.heap.size,8,none⟩) (Nat.le_refl _) (.slice Av body.length cv)
 have hz0:=hB0.size
 clear x8 y8 f8 g0 h0 h1 hB1 ho1
 generalize w1.setCell ⟨w.heap.size,8,none⟩ (.slice Av body.length cv)=w2 at *
 go_wp2_with (first
  | (refine wpList_load_row rfl 71 (.tmp 1) rfl w.heap.size rfl 71 #[.int .u16 h.age,.int .u8 h.opts,.int .u8 h.type,.int .u32 h.id,.int .u32 h.adv,.int .i32 h.seq,.int .u16 h.sum,.int .u16 h.len,.slice Av body.length cv] (0,0) _ k0 Tryz.underlying71 rfl (by kernel_rfl) ?_)
  | (refine wpList_store_row rfl 71 (.tmp 2) (.tmp 7) rfl (w.heap.size+1) #[.int .u16 h.age,.int .u8 h.opts,.int .u8 h.type,.int .u32 h.id,.int .u32 h.adv,.int .i32 h.seq,.int .u16 h.sum,.int .u16 h.len,.slice Av body.length cv] rfl rfl 71 #[.int .u16 0,.int .u8 0,.int .u8 0,.int .u32 0,.int .u32 0,.int .i32 0,.int .u16 0,.int .u16 0,.slice none 0 0] k1 (by kernel_rfl) rfl (by simp[Value.oneCell']) ?_))
 refine bodyPost_ret (results_cell_row rfl _ _ (w.heap.size+1) 71 #[.int .u16 h.age,.int .u8 h.opts,.int .u8 h.type,.int .u32 h.id,.int .u32 h.adv,.int .i32 h.seq,.int .u16 h.sum,.int .u16 h.len,.slice Av body.length cv] (0,0) _ rfl (blk_setRow k1) Tryz.underlying71 rfl (by kernel_rfl)) rfl ?_
 exact ⟨_,rfl,own_less (own_setRow ho2 (by omega) _) (by omega),below_setRow hB2 (by omega) _⟩
theorem stT:ElT Tryz.prog 22 71 9 48:=⟨by kernel_rfl,by
 obtain ⟨i,hi,h1,h2,h3⟩:=info_parts (show (Tryz.prog.info? 71).map (fun i=>(i.zero,i.size,i.bytes))=some (some (.agg #[.int .u16 0,.int .u8 0,.int .u8 0,.int .u32 0,.int .u32 0,.int .i32 0,.int .u16 0,.int .u16 0,.slice none 0 0]),9,48) by kernel_rfl)
 exact ⟨i,_,hi,h1,h2,h3,rfl⟩,by omega⟩
abbrev StY:=StV × List Int
abbrev sL (y:StY):List Value:=stL y.1
def sOf (ys:List StY):List StG:=ys.map fun y=>(y.1.h,y.2)
theorem sOf_snoc (ys:List StY) (y:StY):sOf (ys++[y])=sOf ys++[(y.1.h,y.2)]:=by simp[sOf]
structure StR (w0:World) (ys:List StY) (v:Value) (wr:World):Prop where
 own:wr.ownsRow w0.heap.size 71 9 v ys.length (ys.flatMap sL)
 bodies:∀ y∈ys,wr.ownsRow w0.heap.size 5 1 (.slice y.1.A y.1.len y.1.cap) y.2.length (y.2.map u8c)
 below:Below w0.heap.size w0 wr
theorem StR.call {w0 wr w':World} {ys:List StY} {v:Value} (h:StR w0 ys v wr) (hb:Below wr.heap.size wr w'):StR w0 ys v w':=⟨own_below h.own hb,fun y hy=>own_below (h.bodies y hy) hb,h.below.trans (hb.mono h.below.size)⟩
theorem StR.alloc {w0 wr:World} {ys:List StY} {v:Value} (h:StR w0 ys v wr) (o:Obj):StR w0 ys v (wr.alloc o):=h.call ((Below.refl _ _).alloc (Nat.le_refl _) o)
theorem StR.grow {w0 wr w':World} {ys:List StY} {y:StY} {v v':Value} (h:StR w0 ys v wr) (hh:wr.ownsRow w0.heap.size 5 1 (.slice y.1.A y.1.len y.1.cap) y.2.length (y.2.map u8c)) (ho:w'.ownsRow w0.heap.size 71 9 v' (ys++[y]).length ((ys++[y]).flatMap sL)) (hg:wr.grownBy w' v.ownBlock):StR w0 (ys++[y]) v' w':=by
 refine ⟨ho,fun z hz => ?_,h.below.trans (below_of_grown hg h.below.size fun g hg=>(h.own.lt g hg).1)⟩
 rcases List.mem_append.1 hz with hz | hz
 ·exact own_grown h.own (h.bodies z hz) hg (by decide)
 ·rw[List.mem_singleton.1 hz]
  exact own_grown h.own hh hg (by decide)
theorem StR.states {w0 wr:World} {ys:List StY} {v:Value} (h:StR w0 ys v wr):StatesIn wr wr.heap.size v (sOf ys) (ys.map (·.1)):=by
 have h1:=Sl.of_own h.own
 refine ⟨?_,?_,fun k hk hk2 => ?_⟩
 ·rw[List.length_map,List.flatMap_map]
  exact h1
 ·simp[sOf]
 ·simp only[List.getElem_map,sOf]
  exact Sl.of_own (h.bodies _ (List.getElem_mem (by simpa using hk)))
set_option maxHeartbeats 2000000 in
theorem copystates_any (B:Nat) (sv:Value) (S:List StG) (ls:List StV) (w:World) (hS:StatesIn w B sv S ls) (hB:B≤w.heap.size) (hh:∀ s∈S,s.2.length≤2000000) (hn:ls.length≤2000000) :
  Calls Tryz.prog 24 #[sv] w fun e w'=>∃ v ys,e=.returned v∧sOf ys=S∧StR w ys v w':=by
 obtain ⟨-,lA,lc,rfl,-⟩:=id hS.sl
 have hls:=hS.len
 replace hS:=h'd hS
 replace hh:=h'd hh
 go_enter Tryz.func24,Tryz.ntmps24
 go_wp2_with fail
 go_loopg [4,3] ls.length (fun c i v wr=>∃ (k:Nat) (ys:List StY),k≤ls.length∧c=ls.length-k∧i=.int .i64 k∧ys.length=k∧sOf ys=S.take k∧StR w ys v wr)
 case atStart=>exact ⟨0,[],Nat.zero_le _,rfl,rfl,rfl,rfl,⟨World.ownsRow_nil _ _ _ _,fun _ h=>(by cases h),Below.refl _ _⟩⟩
 case round =>
  obtain ⟨k,ys,hk,rfl,rfl,hyk,hgy,hI⟩:=hrel
  obtain ⟨w1,rfl⟩:∃ x:World,x=wr:=⟨_,rfl⟩
  have hz1:=hI.below.size
  by_cases hkl:k<ls.length
  ·have hkS:k<S.length:=by omega
   have hS1:=hS.out.below (hI.below.mono hB)
   obtain ⟨b,off,hwA,hb0,hrow⟩:=Sl.row stL_len hS1.sl hkl
   subst hwA
   have hbd:=hS1.bodies k hkl hkS
   have hgh:=hh.out _ (List.getElem_mem hkS)
   have htk:S.take (k+1)=S.take k++[S[k]]:=List.take_succ_eq_append_getElem hkS
   have hhd:ls[k].h=S[k].1:=by
    have:=congrArg (fun z=>z[k]?) hS1.map
    simpa[hkl,hkS] using this
   replace hls:=h'd hls
   obtain ⟨x,hx⟩:∃ x,x=ls[k]:=⟨_,rfl⟩
   rw[←hx] at hrow hbd hhd
   clear hx
   generalize S[k]=s at *
   obtain ⟨hd,body⟩:=s
   obtain ⟨⟨h0,h1,h2,h3,h4,h5,h6,h7⟩,xA,xl,xc⟩:=x
   simp only at hhd
   subst hhd
   obtain rfl:xl=body.length:=sl_len hbd
   replace hgh:body.length≤2000000:=hgh
   have q0:w1.cell? ⟨b,off+k*9,none⟩=some (.int .u16 h0):=hrow 0 _ rfl
   have q1:w1.cell? ⟨b,off+k*9+1,none⟩=some (.int .u8 h1):=hrow 1 _ rfl
   have q2:w1.cell? ⟨b,off+k*9+2,none⟩=some (.int .u8 h2):=hrow 2 _ rfl
   have q3:w1.cell? ⟨b,off+k*9+3,none⟩=some (.int .u32 h3):=hrow 3 _ rfl
   have q4:w1.cell? ⟨b,off+k*9+4,none⟩=some (.int .u32 h4):=hrow 4 _ rfl
   have q5:w1.cell? ⟨b,off+k*9+5,none⟩=some (.int .i32 h5):=hrow 5 _ rfl
   have q6:w1.cell? ⟨b,off+k*9+6,none⟩=some (.int .u16 h6):=hrow 6 _ rfl
   have q7:w1.cell? ⟨b,off+k*9+7,none⟩=some (.int .u16 h7):=hrow 7 _ rfl
   have q8:w1.cell? ⟨b,off+k*9+8,none⟩=some (.slice xA body.length xc):=hrow 8 _ rfl
   have ik:(k:Int)<(ls.length:Int):=by omega
   have CW:=copystate_any ⟨h0,h1,h2,h3,h4,h5,h6,h7⟩ B (.slice xA body.length xc) body w1 hbd (Nat.le_trans hB hz1) hgh
   dsimp only[stateVal] at CW
   replace CW:=h'd CW
   clear hrow hS1
   go_wp2_with (first
    | (go_at_call 57;refine Calls.mono CW.out ?_;rintro e w4 ⟨vv,rfl,hoy,hBy⟩;obtain ⟨-,Av,cv,rfl,-⟩:=id (Sl.of_own hoy);have hI5:=(hI.call hBy).alloc (.cells #[.int .u16 h0,.int .u8 h1,.int .u8 h2,.int .u32 h3,.int .u32 h4,.int .i32 h5,.int .u16 h6,.int .u16 h7,.slice Av body.length cv] 71);have hoy5:=own_alloc (own_less hoy hz1) (.cells #[.int .u16 h0,.int .u8 h1,.int .u8 h2,.int .u32 h3,.int .u32 h4,.int .i32 h5,.int .u16 h6,.int .u16 h7,.slice Av body.length cv] 71);have hz4:=hBy.size)
    | (at_builtin;refine wpList_append rfl (.tmp 11) (.tmp 17) 22 rfl w.heap.size stT u3 ys.length (ys.flatMap sL) rfl hI5.own _ _ 1 [.int .u16 h0,.int .u8 h1,.int .u8 h2,.int .u32 h3,.int .u32 h4,.int .i32 h5,.int .u16 h6,.int .u16 h7,.slice Av body.length cv] rfl (Sl.lit w4 #[.int .u16 h0,.int .u8 h1,.int .u8 h2,.int .u32 h3,.int .u32 h4,.int .i32 h5,.int .u16 h6,.int .u16 h7,.slice Av body.length cv] 71 (by simp[maxLen]) rfl) (by simp[Value.oneCell']) (by simp only[maxLen];omega) (by omega) (by simp;omega) ?_;intro v7 w7 ho7 hg7 hob7)
    | fail)
   go_roundg (ls.length-(k+1))
   case measure=>omega
   case rel =>
    refine ⟨k+1,ys++[((⟨⟨h0,h1,h2,h3,h4,h5,h6,h7⟩,Av,body.length,cv⟩,body):StY)],by omega,rfl,by go_num,by simp[hyk],by rw[sOf_snoc,hgy,htk],hI5.grow hoy5 ?_ hg7⟩
    rw[List.length_append,List.flatMap_append]
    exact ho7
  ·obtain rfl:k=ls.length:=by omega
   rw[hls,List.take_length] at hgy
   go_wp2_with fail
   go_ret
   exact ⟨u3,ys,rfl,hgy,hI⟩
set_option maxRecDepth 100000
set_option maxHeartbeats 1000000 in
theorem sizew_any (l:List StV) (sv:Value) (B:Nat) (w:World) (hl:Sl w B 9 sv l.length (l.flatMap stL)) (hn:l.length≤140737488355328) (hx:∀ x∈l,x.len≤140737488355328) :
  Calls Tryz.prog 30 #[sv] w fun e w'=>∃ n:Int,e=.returned (.int .i64 n)∧w'=w∧(n=20*(l.length:Int)+bodySum l∨2147483647<n):=by
 have hl0:=hl
 obtain ⟨-,A,c,rfl,-⟩:=hl
 go_enter Tryz.func30,Tryz.ntmps30
 have iw:IntKind.i64.wrap (20*(l.length:Int))=20*(l.length:Int):=IntWalk.i64_in _ (by omega)
 go_wp2_with fail
 go_loopg [3,4] l.length (fun m v i wr=>∃ (k:Nat) (nn:Int),k≤l.length∧m=l.length-k∧v=.int .i64 nn∧nn=20*(l.length:Int)+bodySum (l.take k)∧i=.int .i64 k∧wr=w)
 case atStart=>exact ⟨0,_,Nat.zero_le _,rfl,rfl,by simp[bodySum],rfl,rfl⟩
 case round =>
  obtain ⟨k,nn,hk,rfl,rfl,hns,rfl,rfl⟩:=hrel
  have h0:=(bodySum_le (l.take k)).1
  have hnn0:0≤nn:=by omega
  replace hns:=h'd hns
  by_cases hkl:k<l.length
  ·by_cases hnn:nn≤2147483647
   case neg =>
    have ik:(k:Int)<(l.length:Int):=by omega
    go_wp2_with fail
    go_ret
    exact ⟨nn,rfl,rfl,.inr (by omega)⟩
   obtain ⟨b,off,rfl,hb,hrow⟩:=Sl.row stL_len hl0 hkl
   have hxl:=hx l[k] (List.getElem_mem hkl)
   have htk:bodySum (l.take (k+1))=bodySum (l.take k)+(l[k].len:Int):=by rw[List.take_succ_eq_append_getElem hkl,bodySum_snoc]
   obtain ⟨x,hxx⟩:∃ x,x=l[k]:=⟨_,rfl⟩
   rw[←hxx] at hrow hxl htk
   clear hxx
   obtain ⟨xh,xA,xl,xc⟩:=x
   have q8:wr.cell? ⟨b,off+k*9+8,none⟩=some (.slice xA xl xc):=hrow 8 _ rfl
   replace htk:=h'd htk
   dsimp only at hxl
   have iw2:IntKind.i64.wrap (nn+(xl:Int))=nn+(xl:Int):=IntWalk.i64_in _ (by omega)
   have ik:(k:Int)<(l.length:Int):=by omega
   clear hrow h0
   go_wp2_with fail
   go_roundg (l.length-(k+1))
   case measure=>omega
   case rel=>exact ⟨k+1,nn+(xl:Int),by omega,rfl,rfl,by have h2:=htk.out;have h3:=hns.out;omega,by go_num,rfl⟩
  ·obtain rfl:k=l.length:=by omega
   have h3:=hns.out
   rw[List.take_length] at h3
   clear hns
   replace h3:=h'd h3
   have ik:¬ (l.length:Int)<(l.length:Int):=by omega
   go_wp2_with fail
   go_ret
   exact ⟨nn,rfl,rfl,.inl h3.out⟩
set_option maxRecDepth 100000
set_option maxHeartbeats 4000000 in
theorem heavy18_any (l:List StV) (sv:Value) (B:Nat) (w:World) (hl:Sl w B 9 sv l.length (l.flatMap stL)) (hn:l.length≤140737488355328) (hx:∀ x∈l,x.len≤140737488355328) :
  Calls Tryz.prog 19 #[sv] w fun e w'=>∃ q:Bool,e=.returned (.bool q)∧w'=w∧(q=false→l.length≤40∧∀ x∈l,x.len≤8192):=by
 have hl0:=hl
 obtain ⟨-,A,c,rfl,-⟩:=hl
 have hle:=bodySum_le l
 by_cases h40:40<l.length
 ·have h40':(40:Int)<(l.length:Int):=by omega
  go_enter Tryz.func19,Tryz.ntmps19
  go_wp2_with fail
  go_ret
  exact ⟨true,rfl,rfl,fun h=>by cases h⟩
 ·have h40':¬ (40:Int)<(l.length:Int):=by omega
  have CS:=h'd (sizew_any l _ B w hl0 (by omega) hx)
  go_enter Tryz.func19,Tryz.ntmps19
  go_wp2_with (go_at_call 30;refine Calls.mono CS.out ?_;rintro e w2 ⟨n,rfl,rfl,hn2⟩)
  go_ret
  refine ⟨decide (8192<n),rfl,rfl,fun h => ?_⟩
  have h4:=of_decide_eq_false h
  exact ⟨by omega,fun x hx=>by have:=hle.2 x hx;omega⟩
end Go.Proofs.YtcknpofnpabkiaaGreat
