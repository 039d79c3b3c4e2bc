/- Lists of states with marks behind them: made, looked at, compared. Conditions: they lie in memory. -/
import Derived.Test.YtcknpofnpabkiaaGreatGzBU
import Derived.Test.YtcknpofnpabkiaaGreatGzAA
set_option maxRecDepth 100000
namespace Go.Proofs.YtcknpofnpabkiaaGreat
open Go.RowKit Go.Lo
theorem lt_cas10 (j:Nat) (h:j<10):j=0∨j=1∨j=2∨j=3∨j=4∨j=5∨j=6∨j=7∨j=8∨j=9:=by omega
theorem flat_put {α:Type} {f:α→List Value} {s:Nat} (hf:∀ x,(f x).length=s) (l:List α) (k:Nat) (hk:k<l.length) (x:α):splice (l.flatMap f) (k*s) (f x)=(l.set k x).flatMap f:=by
 unfold splice
 rw[flat_take hf,hf,show k*s+s=(k+1)*s by rw[Nat.succ_mul],flat_drop hf,List.set_eq_take_append_cons_drop,if_pos hk,List.flatMap_append,List.flatMap_cons]
def zV:StV:=⟨⟨0,0,0,0,0,0,0,0⟩,none,0,0⟩
def markV (i:Nat):StV:=⟨⟨0,0,0,9437185+(i:Int),0,0,0,0⟩,none,0,0⟩
def marksV (n j:Nat):List StV:=(List.range j).map fun i=>markV (n+i)
def rowsW (ys:List StY) (n k:Nat):List StV:=ys.map (·.1)++marksV n (k-n)++List.replicate (n+64-k) zV
theorem rowsW_len {ys:List StY} {n k:Nat} (hy:ys.length=min k n) (hk:k≤n+64):(rowsW ys n k).length=n+64:=by
 simp only[rowsW,marksV,List.length_append,List.length_map,List.length_range,List.length_replicate,hy]
 omega
theorem rowsW_zero (n:Nat):rowsW [] n 0=List.replicate (n+64) zV:=by simp[rowsW,marksV]
theorem rowsW_add {ys:List StY} {n k:Nat} (hy:ys.length=k) (hk:k<n) (y:StY):(rowsW ys n k).set k y.1=rowsW (ys++[y]) n (k+1):=by
 unfold rowsW
 rw[show k-n=0 by omega,show k+1-n=0 by omega,show n+64-k=(n+64-(k+1))+1 by omega]
 simp only[marksV,List.range_zero,List.map_nil,List.append_nil,List.replicate_succ]
 rw[List.set_append_right _ _ (by simp[hy]),List.length_map,hy,Nat.sub_self,s'z]
 simp
theorem rowsW_mark {ys:List StY} {n k:Nat} (hy:ys.length=n) (hk:n≤k) (hk2:k<n+64):(rowsW ys n k).set k (markV k)=rowsW ys n (k+1):=by
 have e1:marksV n (k+1-n)=marksV n (k-n)++[markV k]:=by
  rw[show k+1-n=(k-n)+1 by omega]
  simp only[marksV,List.range_succ,List.map_append,List.map_cons,List.map_nil]
  rw[show n+(k-n)=k by omega]
 have hl:(ys.map (·.1)++marksV n (k-n)).length=k:=by simp[marksV,hy];omega
 unfold rowsW
 rw[e1,show n+64-k=(n+64-(k+1))+1 by omega,List.replicate_succ,List.set_append_right _ _ (by omega),hl,Nat.sub_self,s'z]
 simp
def WideS (W:World) (base:Nat) (v:Value) (ys:List StY):Prop:=∃ g:Nat,v=.slice (some ⟨g,0,none⟩) ys.length (ys.length+64)∧W.ownsRow base 71 9 (.slice (some ⟨g,0,none⟩) (ys.length+64) (ys.length+64)) (ys.length+64) ((rowsW ys ys.length (ys.length+64)).flatMap stL)∧∀ y∈ys,WideB W base (.slice y.1.A y.1.len y.1.cap) y.2
theorem WideS.call {W W':World} {base:Nat} {v:Value} {ys:List StY} (h:WideS W base v ys) (hb:Below W.heap.size W W'):WideS W' base v ys:=by
 obtain ⟨g,e,ho,hy⟩:=h
 exact ⟨g,e,own_below ho hb,fun y hm=>(hy y hm).call hb⟩
theorem WideS.own {W:World} {base:Nat} {v:Value} {ys:List StY} (h:WideS W base v ys):W.ownsRow base 71 9 v ys.length (ys.flatMap sL):=by
 obtain ⟨g,rfl,ho,-⟩:=h
 have h1:=own_take ho (m:=ys.length) (by omega)
 have e1:(rowsW ys ys.length (ys.length+64)).take ys.length=ys.map (·.1):=by
  unfold rowsW
  rw[List.append_assoc,List.take_append_of_le_length (by simp),List.take_of_length_le (by simp)]
 rw[flat_take stL_len,e1,List.flatMap_map] at h1
 exact h1
theorem WideS.states {W:World} {base:Nat} {v:Value} {ys:List StY} (h:WideS W base v ys):StatesIn W W.heap.size v (sOf ys) (ys.map (·.1)):=by
 have h1:=Sl.of_own h.own
 obtain ⟨g,-,-,hy⟩:=h
 refine ⟨?_,?_,fun k hk hk2 => ?_⟩
 ·rw[List.length_map,List.flatMap_map]
  exact h1
 ·simp[sOf]
 ·simp only[List.getElem_map,sOf]
  exact Sl.of_own (hy _ (List.getElem_mem (by simpa using hk))).own
theorem WideB.grown {W W':World} {base b2 n:Nat} {v v2:Value} {l:List Int} {xs:List Value} (h:WideB W base v l) (ho:W.ownsRow b2 71 9 v2 n xs) (hg:W.grownBy W' v2.ownBlock):WideB W' base v l:=by
 obtain ⟨g,e,h1⟩:=h
 exact ⟨g,e,own_grown ho h1 hg (by decide)⟩
structure WsI (w:World) (S:List StG) (n g k:Nat) (ys:List StY) (W:World):Prop where
 len:ys.length=min k n
 of:sOf ys=S.take k
 own:W.ownsRow w.heap.size 71 9 (.slice (some ⟨g,0,none⟩) (n+64) (n+64)) (n+64) ((rowsW ys n k).flatMap stL)
 bods:∀ y∈ys,WideB W w.heap.size (.slice y.1.A y.1.len y.1.cap) y.2
 below:Below w.heap.size w W
set_option maxHeartbeats 4000000 in
theorem widestates_any (B:Nat) (sv:Value) (S:List StG) (ls:List StV) (w:World) (hS:StatesIn w B sv S ls) (hB:B≤w.heap.size) (hh:∀ s∈S,s.2.length≤2000000) (hn:ls.length≤2000000) :
  Calls Tryz.prog 11 #[sv] w fun e w'=>∃ v ys,e=.returned v∧sOf ys=S∧WideS w' w.heap.size v ys∧Below w.heap.size w w':=by
 obtain ⟨-,lA,lc,rfl,-⟩:=id hS.sl
 have hls:=h'd hS.len
 replace hS:=h'd hS
 replace hh:=h'd hh
 obtain ⟨n,hn2⟩:∃ n,n=ls.length+64:=⟨_,rfl⟩
 have e64:((ls.length:Int)+64)=(n:Int):=by omega
 have hn3:n≤2000064:=by omega
 have hnb:ls.length≤n:=by omega
 replace hn2:=h'd hn2
 go_enter Tryz.func11,Tryz.ntmps11
 go_upto_region 3 with (at_make;refine wpList_make rfl (.tmp 7) (.tmp 7) 22 rfl w.heap.size stT stL stL_len zV (by kernel_rfl) .i64 .i64 _ _ n rfl rfl rfl rfl (by omega) (by simp only[maxLen];omega) (Nat.le_refl _) ?_;intro w1 hown1 hgr1)
 have hB1:Below w.heap.size w w1:=below_of_grown hgr1 (Nat.le_refl _) (by simp)
 clear hgr1 e64
 obtain ⟨g,hg⟩:∃ g,g=w.heap.size:=⟨_,rfl⟩
 rw[←hg]
 have hI0:WsI w S ls.length g 0 [] w1:=by
  refine ⟨by simp,rfl,?_,fun y hy=>(by cases hy),hB1⟩
  rw[rowsW_zero,←hn2.out,hg]
  exact hown1
 replace hg:=h'd hg
 clear hown1 hB1
 go_loopg [4] n (fun m u wr=>∃ (k:Nat) (ys:List StY),k≤n∧m=n-k∧u=.int .i64 k∧WsI w S ls.length g k ys wr)
 case atStart=>exact ⟨0,[],Nat.zero_le _,rfl,rfl,hI0⟩
 case round =>
  clear hI0
  obtain ⟨k,ys,hk,rfl,rfl,hI⟩:=hrel
  obtain ⟨w2,rfl⟩:∃ x:World,x=wr:=⟨_,rfl⟩
  by_cases hkn:k<n
  ·have kn:(k:Int)<(n:Int):=by omega
   have hz2:=hI.below.size
   have hown:=hI.own
   rw[←hn2.out] at hown
   have hrl:=rowsW_len hI.len (by rw[←hn2.out];exact hk)
   by_cases hkl:k<ls.length
   ·have hkS:k<S.length:=by rw[←hls.out];exact hkl
    have hS1:=hS.out.below (hI.below.mono hB)
    obtain ⟨b,off,hwA,hb0,hrow⟩:=Sl.row stL_len hS1.sl hkl
    subst hwA
    have hbd:=hS1.bodies k hkl hkS
    have hgh:=hh.out _ (List.getElem_mem hkS)
    have htk:S.take (k+1)=S.take k++[S[k]]:=List.take_succ_eq_append_getElem hkS
    have hhd:ls[k].h=S[k].1:=by
     have:=congrArg (fun z=>z[k]?) hS1.map
     simpa[hkl,hkS] using this
    have ik:(k:Int)<(ls.length:Int):=by omega
    have hyk:ys.length=k:=by have:=hI.len;omega
    have hset:=fun y:StY=>rowsW_add hyk hkl y
    have hflat:=fun x:StV=>flat_put stL_len (rowsW ys ls.length k) k (by rw[hrl,←hn2.out];exact hkn) x
    obtain ⟨x,hx⟩:∃ x,x=ls[k]:=⟨_,rfl⟩
    rw[←hx] at hrow hbd hhd
    obtain ⟨s,hs⟩:∃ s,s=S[k]:=⟨_,rfl⟩
    rw[←hs] at hbd hgh htk hhd
    clear hx hs
    obtain ⟨hd,body⟩:=s
    obtain ⟨⟨h0,h1,h2,h3,h4,h5,h6,h7⟩,xA,xl,xc⟩:=x
    simp only at hhd
    subst hhd
    obtain rfl:xl=body.length:=sl_len hbd
    replace hgh:body.length≤2000000:=hgh
    have q0:w2.cell? ⟨b,off+k*9,none⟩=some (.int .u16 h0):=hrow 0 _ rfl
    have q1:w2.cell? ⟨b,off+k*9+1,none⟩=some (.int .u8 h1):=hrow 1 _ rfl
    have q2:w2.cell? ⟨b,off+k*9+2,none⟩=some (.int .u8 h2):=hrow 2 _ rfl
    have q3:w2.cell? ⟨b,off+k*9+3,none⟩=some (.int .u32 h3):=hrow 3 _ rfl
    have q4:w2.cell? ⟨b,off+k*9+4,none⟩=some (.int .u32 h4):=hrow 4 _ rfl
    have q5:w2.cell? ⟨b,off+k*9+5,none⟩=some (.int .i32 h5):=hrow 5 _ rfl
    have q6:w2.cell? ⟨b,off+k*9+6,none⟩=some (.int .u16 h6):=hrow 6 _ rfl
    have q7:w2.cell? ⟨b,off+k*9+7,none⟩=some (.int .u16 h7):=hrow 7 _ rfl
    have q8:w2.cell? ⟨b,off+k*9+8,none⟩=some (.slice xA body.length xc):=hrow 8 _ rfl
    have CW:=widestate_any ⟨h0,h1,h2,h3,h4,h5,h6,h7⟩ B (.slice xA body.length xc) body w2 hbd (Nat.le_trans hB hz2) hgh
    dsimp only[stateVal] at CW
    replace CW:=h'd CW
    replace htk:=h'd htk
    replace hyk:=h'd hyk
    replace hrl:=h'd hrl
    replace hset:=h'd hset
    replace hflat:=h'd hflat
    have hI2:=h'd hI
    clear hrow hS1 hbd hI
    go_wp2_with (first
     | (go_at_call 32;refine Calls.mono CW.out ?_;rintro e w4 ⟨vv,rfl,hwb,hBy⟩;obtain ⟨gv,rfl,hov⟩:=id hwb;have hown4:=own_below hown hBy)
     | (refine wpList_store_own rfl 71 (.tmp 26) (.tmp 25) rfl (k:=k*9) [.int .u16 h0,.int .u8 h1,.int .u8 h2,.int .u32 h3,.int .u32 h4,.int .i32 h5,.int .u16 h6,.int .u16 h7,.slice (some ⟨gv,0,none⟩) body.length (body.length+64)] rfl rfl hown4 rfl (by kernel_rfl) (by simp[Value.oneCell']) (by simp;omega) ?_;intro w5 ho5 hg5))
    have e1:splice ((rowsW ys ls.length k).flatMap stL) (k*9) [.int .u16 h0,.int .u8 h1,.int .u8 h2,.int .u32 h3,.int .u32 h4,.int .i32 h5,.int .u16 h6,.int .u16 h7,.slice (some ⟨gv,0,none⟩) body.length (body.length+64)]=(rowsW (ys++[((⟨⟨h0,h1,h2,h3,h4,h5,h6,h7⟩,some ⟨gv,0,none⟩,body.length,body.length+64⟩,body):StY)]) ls.length (k+1)).flatMap stL:=by
     rw[←hset.out]
     exact hflat.out ⟨⟨h0,h1,h2,h3,h4,h5,h6,h7⟩,some ⟨gv,0,none⟩,body.length,body.length+64⟩
    rw[e1,hn2.out] at ho5
    go_roundg (n-(k+1))
    case measure=>omega
    case rel =>
     refine ⟨k+1,_,by omega,rfl,by go_num,?_,by rw[sOf_snoc,hI2.out.of,htk.out],ho5,fun y hy => ?_,hI2.out.below.trans ((hBy.mono hz2).trans (below_of_grown hg5 (Nat.le_trans hz2 hBy.size) fun q hq=>(hown4.lt q hq).1))⟩
     ·rw[List.length_append,hyk.out,List.length_singleton];omega
     ·rcases List.mem_append.1 hy with hy | hy
      ·exact ((hI2.out.bods y hy).call hBy).grown hown4 hg5
      ·rw[List.mem_singleton.1 hy]
       exact (hwb.less hz2).grown hown4 hg5
   ·have ik:¬ (k:Int)<(ls.length:Int):=by omega
    have hyk:ys.length=ls.length:=by have:=hI.len;omega
    have hset:=rowsW_mark (ys:=ys) (n:=ls.length) (k:=k) hyk (by omega) (by rw[←hn2.out];exact hkn)
    have hflat:=flat_put stL_len (rowsW ys ls.length k) k (by rw[hrl,←hn2.out];exact hkn) (markV k)
    rw[hset] at hflat
    obtain ⟨mk,hmk⟩:∃ z:Int,z=9437185+(k:Int):=⟨_,rfl⟩
    have CN:=num9_any k (by omega) w2
    rw[←hmk] at CN
    have wm:IntKind.u32.wrap mk=mk:=by rw[hmk,IntKind.wrap_u32];omega
    have hfl:splice ((rowsW ys ls.length k).flatMap stL) (k*9) [.int .u16 0,.int .u8 0,.int .u8 0,.int .u32 mk,.int .u32 0,.int .i32 0,.int .u16 0,.int .u16 0,.slice none 0 0]=(rowsW ys ls.length (k+1)).flatMap stL:=by
     rw[←hflat,hmk]
     rfl
    have htk:S.take (k+1)=S.take k:=by
     have:=hls.out
     rw[List.take_of_length_le (by omega),List.take_of_length_le (by omega)]
    replace hmk:=h'd hmk
    replace CN:=h'd CN
    replace hyk:=h'd hyk
    replace hrl:=h'd hrl
    replace hfl:=h'd hfl
    replace htk:=h'd htk
    have hI2:=h'd hI
    clear hI hset hflat
    go_wp2_with (first
     | (go_at_call 33;refine Calls.mono CN.out ?_;rintro e w4 ⟨rfl,rfl⟩)
     | (refine wpList_store_own rfl 71 (.tmp 34) (.tmp 33) rfl (k:=k*9) [.int .u16 0,.int .u8 0,.int .u8 0,.int .u32 mk,.int .u32 0,.int .i32 0,.int .u16 0,.int .u16 0,.slice none 0 0] rfl rfl hown rfl (by kernel_rfl) (by simp[Value.oneCell']) (by simp;omega) ?_;intro w5 ho5 hg5))
    rw[hfl.out,hn2.out] at ho5
    go_roundg (n-(k+1))
    case measure=>omega
    case rel =>
     refine ⟨k+1,ys,by omega,rfl,by go_num,?_,by rw[hI2.out.of,htk.out],ho5,fun y hy=>(hI2.out.bods y hy).grown hown hg5,hI2.out.below.trans (below_of_grown hg5 hz2 fun q hq=>(hown.lt q hq).1)⟩
     rw[hyk.out]
     omega
  ·obtain rfl:k=n:=by omega
   have hyk:ys.length=ls.length:=by have:=hI.len;omega
   have hv:=fun W=>hi_up (P:=Tryz.prog) stT (some ⟨g,0,none⟩) k k ls.length (by omega) (fun a ha=>by cases ha;rfl) W
   have hof:=hI.of
   rw[List.take_of_length_le (by rw[←hls.out];exact hnb)] at hof
   have hI2:=h'd hI
   replace hyk:=h'd hyk
   replace hof:=h'd hof
   clear hI
   go_wp2
   go_ret
   refine ⟨_,ys,rfl,hof.out,⟨g,by rw[hyk.out,hn2.out];rfl,?_,hI2.out.bods⟩,hI2.out.below⟩
   have h:=hI2.out.own
   rw[hn2.out] at h
   rw[hyk.out]
   exact h
set_option maxHeartbeats 4000000 in
theorem sparestates_any (base:Nat) (v:Value) (ys:List StY) (w:World) (h:WideS w base v ys) (hh:∀ y∈ys,y.2.length≤2000000) (hn:ys.length≤2000000) :
  Calls Tryz.prog 18 #[v] w fun e w'=>e=.returned (.bool true)∧Below w.heap.size w w':=by
 have hW:=h
 obtain ⟨g,rfl,ho,-⟩:=h
 have hlen:=rowsW_len (ys:=ys) (n:=ys.length) (k:=ys.length+64) (by omega) (Nat.le_refl _)
 have hcell:∀ W,Below w.heap.size w W→∀ k,ys.length≤k→k<ys.length+64→∀ j u,(stL (markV k))[j]?=some u→W.cell? ⟨g,k*9+j,none⟩=some u:=fun W hW k h1 h2 j u hu=>by
  have ho2:=own_below ho hW
  have hat:(rowsW ys ys.length (ys.length+64))[k]?=some (markV k):=by
   unfold rowsW marksV
   rw[List.getElem?_append_left (by simp;omega),List.getElem?_append_right (by simp;omega),List.length_map,List.getElem?_map,List.getElem?_range (by omega)]
   simp only[Option.map_some]
   rw[show ys.length+(k-ys.length)=k by omega]
  have hl2:=hlen
  generalize rowsW ys ys.length (ys.length+64)=R at ho2 hat hl2
  rw[←hl2] at ho2
  obtain ⟨g',cap,e,-,-,-,-,hc⟩:=own_row stL_len ho2 (k:=k) (by omega)
  simp only[Value.slice.injEq,Option.some.injEq,Addr.mk.injEq,and_true] at e
  obtain ⟨rfl,-⟩:=e
  obtain ⟨hkr,hrk⟩:=List.getElem?_eq_some_iff.1 hat
  exact hc j u (by rw[hrk];exact hu)
 obtain ⟨n,hn2⟩:∃ n,n=ys.length+64:=⟨_,rfl⟩
 have e65:((ys.length:Int)+64)=(n:Int):=by omega
 rw[←hn2]
 have hn3:n≤2000064:=by omega
 have hnb:ys.length≤n:=by omega
 have hv:=fun W=>hi_up (P:=Tryz.prog) stT (some ⟨g,0,none⟩) ys.length n n (Nat.le_refl _) (fun a ha=>by cases ha;rfl) W
 have hgl:g<w.heap.size:=(ho.lt g rfl).2
 replace hn2:=h'd hn2
 replace hcell:=h'd hcell
 replace hW:=h'd hW
 replace hh:=h'd hh
 clear ho hlen
 go_enter Tryz.func18,Tryz.ntmps18
 go_upto_region 3 with fail
 clear hv e65
 go_loopg [4] (n-ys.length) (fun m u wr=>∃ k:Nat,ys.length≤k∧k≤n∧m=n-k∧u=.int .i64 k∧Below w.heap.size w wr)
 case atStart=>exact ⟨ys.length,Nat.le_refl _,hnb,rfl,rfl,Below.refl _ _⟩
 case round =>
  obtain ⟨k,hk0,hk,rfl,rfl,hBk⟩:=hrel
  obtain ⟨w2,rfl⟩:∃ x:World,x=wr:=⟨_,rfl⟩
  by_cases hkn:k<n
  ·have kn:(k:Int)<(n:Int):=by omega
   have hc:=hcell.out w2 hBk k hk0 (by rw[←hn2.out];exact hkn)
   obtain ⟨mk,hmk⟩:∃ z:Int,z=9437185+(k:Int):=⟨_,rfl⟩
   have CN:=fun W=>num9_any k (by omega) W
   rw[←hmk] at CN
   have wm:IntKind.u32.wrap mk=mk:=by rw[hmk,IntKind.wrap_u32];omega
   have hrg:w2.rangeAt g (k*9) [.int .u16 0,.int .u8 0,.int .u8 0,.int .u32 mk,.int .u32 0,.int .i32 0,.int .u16 0,.int .u16 0,.slice none 0 0]:=by rw[hmk];exact hc
   have he:=fun W=>eql_head 0 0 0 mk 0 0 0 0 W
   replace hmk:=h'd hmk
   replace CN:=h'd CN
   clear hc
   go_upto_region 6 with (refine wpList_load_mid rfl 71 (.tmp 22) rfl g (k*9) rfl [.int .u16 0,.int .u8 0,.int .u8 0,.int .u32 mk,.int .u32 0,.int .i32 0,.int .u16 0,.int .u16 0,.slice none 0 0] _ hrg Tryz.underlying71 rfl (by kernel_rfl) ?_)
   have k6:=Blk.new w2 71 #[.int .u16 0,.int .u8 0,.int .u8 0,.int .u32 mk,.int .u32 0,.int .i32 0,.int .u16 0,.int .u16 0,.slice none 0 0]
   have kB6:Below w2.heap.size w2 (w2.alloc (.cells #[.int .u16 0,.int .u8 0,.int .u8 0,.int .u32 mk,.int .u32 0,.int .i32 0,.int .u16 0,.int .u16 0,.slice none 0 0] 71)):=(Below.refl _ _).alloc (Nat.le_refl _) _
   have hz2:=hBk.size
   generalize w2.alloc (.cells #[.int .u16 0,.int .u8 0,.int .u8 0,.int .u32 mk,.int .u32 0,.int .i32 0,.int .u16 0,.int .u16 0,.slice none 0 0] 71)=w3 at k6 kB6 ⊢
   obtain ⟨g6,hg6⟩:∃ x,x=w2.heap.size:=⟨_,rfl⟩
   rw[←hg6] at k6 ⊢
   replace hg6:=h'd hg6
   have u0:=k6.cell 0
   have u1:=k6.cell 1
   have u2:=k6.cell 2
   have u3:=k6.cell 3
   have u4:=k6.cell 4
   have u5:=k6.cell 5
   have u6:=k6.cell 6
   have u7:=k6.cell 7
   have u8:=k6.cell 8
   simp only[q'a,q'z,q's] at u0 u1 u2 u3 u4 u5 u6 u7 u8
   have hB3:=hBk.trans (kB6.mono hz2)
   clear k6 kB6 hrg
   go_quiet ((go_at_call 33;exact Calls.quiet_of_same (CN.out _)))
   go_wp2
   go_roundg (n-(k+1))
   case measure=>omega
   case rel=>exact ⟨k+1,by omega,by omega,rfl,by go_num,below_drewN hB3 _⟩
  ·obtain rfl:k=n:=by omega
   have hz2:=hBk.size
   go_upto_region 9 with fail
   go_loopg [6] ys.length (fun m u wr=>∃ i:Nat,i≤ys.length∧m=ys.length-i∧u=.int .i64 i∧Below w.heap.size w wr)
   case atStart=>exact ⟨0,Nat.zero_le _,rfl,rfl,hBk⟩
   case round =>
    obtain ⟨i,hi,rfl,rfl,hBi⟩:=hrel
    obtain ⟨w3,rfl⟩:∃ x:World,x=wr:=⟨_,rfl⟩
    by_cases hil:i<ys.length
    ·have il:(i:Int)<(ys.length:Int):=by omega
     have hW3:=hW.out.call hBi
     obtain ⟨b2,o2,e2,-,hrow⟩:=Sl.row (f:=sL) (s:=9) (fun _=>rfl) (Sl.of_own hW3.own) hil
     simp only[Option.some.injEq,Addr.mk.injEq,and_true] at e2
     obtain ⟨rfl,rfl⟩:=e2
     simp only[Nat.zero_add] at hrow
     obtain ⟨-,-,-,hby⟩:=hW3
     have hb:=hby _ (List.getElem_mem hil)
     have hbl:=hh.out _ (List.getElem_mem hil)
     obtain ⟨y,hy⟩:∃ y,y=ys[i]:=⟨_,rfl⟩
     rw[←hy] at hrow hb hbl
     clear hy hby
     obtain ⟨⟨⟨h0,h1,h2,h3,h4,h5,h6,h7⟩,xA,xl,xc⟩,body⟩:=y
     have q0:w3.cell? ⟨g,i*9,none⟩=some (.int .u16 h0):=hrow 0 _ rfl
     have q1:w3.cell? ⟨g,i*9+1,none⟩=some (.int .u8 h1):=hrow 1 _ rfl
     have q2:w3.cell? ⟨g,i*9+2,none⟩=some (.int .u8 h2):=hrow 2 _ rfl
     have q3:w3.cell? ⟨g,i*9+3,none⟩=some (.int .u32 h3):=hrow 3 _ rfl
     have q4:w3.cell? ⟨g,i*9+4,none⟩=some (.int .u32 h4):=hrow 4 _ rfl
     have q5:w3.cell? ⟨g,i*9+5,none⟩=some (.int .i32 h5):=hrow 5 _ rfl
     have q6:w3.cell? ⟨g,i*9+6,none⟩=some (.int .u16 h6):=hrow 6 _ rfl
     have q7:w3.cell? ⟨g,i*9+7,none⟩=some (.int .u16 h7):=hrow 7 _ rfl
     have q8:w3.cell? ⟨g,i*9+8,none⟩=some (.slice xA xl xc):=hrow 8 _ rfl
     have CS:=sparestate_any ⟨h0,h1,h2,h3,h4,h5,h6,h7⟩ base (.slice xA xl xc) body w3 hb hbl
     dsimp only[stateVal] at CS
     replace CS:=h'd CS
     clear hrow hb hbl
     go_wp2_with (go_at_call 49;refine Calls.mono CS.out ?_;rintro e w4 ⟨rfl,hB4⟩)
     go_roundg (ys.length-(i+1))
     case measure=>omega
     case rel=>exact ⟨i+1,by omega,rfl,by go_num,hBi.trans (hB4.mono hBi.size)⟩
    ·obtain rfl:i=ys.length:=by omega
     go_wp2
     go_ret
     exact ⟨rfl,hBi⟩
set_option maxHeartbeats 4000000 in
theorem eqstates_any (B1 B2:Nat) (av bv:Value) (S:List StG) (la lb:List StV) (w:World) (ha:StatesIn w B1 av S la) (hb:StatesIn w B2 bv S lb) (hB1:B1≤w.heap.size) (hB2:B2≤w.heap.size) (hh:∀ s∈S,s.2.length≤140737488355328) (hn:S.length≤140737488355328) :
  Calls Tryz.prog 17 #[av,bv] w fun e w'=>e=.returned (.bool true)∧Below w.heap.size w w':=by
 have hmix:=h'd (show (Tryz.prog).follows .mixedOrders=true by kernel_rfl)
 obtain ⟨-,A,ac,rfl,-⟩:=id ha.sl
 obtain ⟨-,D,dc,rfl,-⟩:=id hb.sl
 have hla:=h'd ha.len
 have hlb:=h'd hb.len
 rw[ha.len,hb.len]
 replace ha:=h'd ha
 replace hb:=h'd hb
 replace hh:=h'd hh
 have n0:((S.length:Int) != (S.length:Int))=false:=by simp
 go_enter Tryz.func17,Tryz.ntmps17
 go_upto_region 4 with fail
 clear n0
 go_loopg [5] S.length (fun m u wr=>∃ k:Nat,k≤S.length∧m=S.length-k∧u=.int .i64 k∧Below w.heap.size w wr)
 case atStart=>exact ⟨0,Nat.zero_le _,rfl,rfl,Below.refl _ _⟩
 case round =>
  obtain ⟨k,hk,rfl,rfl,hBk⟩:=hrel
  obtain ⟨w5,rfl⟩:∃ x:World,x=wr:=⟨_,rfl⟩
  by_cases hkl:k<S.length
  ·have kl:(k:Int)<(S.length:Int):=by omega
   have hka:k<la.length:=by rw[hla.out];exact hkl
   have hkb:k<lb.length:=by rw[hlb.out];exact hkl
   have ha5:=ha.out.below (hBk.mono hB1)
   have hb5:=hb.out.below (hBk.mono hB2)
   obtain ⟨ab,ao,rfl,hab,har⟩:=Sl.row stL_len ha5.sl hka
   obtain ⟨db,d0,rfl,hdb,hdr⟩:=Sl.row stL_len hb5.sl hkb
   have hab5:ab<w5.heap.size:=Nat.lt_of_lt_of_le hab (Nat.le_trans hB1 hBk.size)
   have hdb5:db<w5.heap.size:=Nat.lt_of_lt_of_le hdb (Nat.le_trans hB2 hBk.size)
   have hba:=ha5.bodies k hka hkl
   have hbb:=hb5.bodies k hkb hkl
   have hea:la[k].h=S[k].1:=by
    have:=congrArg (fun z=>z[k]?) ha5.map
    simpa[hka,hkl] using this
   have heb:lb[k].h=S[k].1:=by
    have:=congrArg (fun z=>z[k]?) hb5.map
    simpa[hkb,hkl] using this
   have hhs:=hh.out _ (List.getElem_mem hkl)
   obtain ⟨x,hx⟩:∃ x,x=la[k]:=⟨_,rfl⟩
   obtain ⟨y,hy⟩:∃ y,y=lb[k]:=⟨_,rfl⟩
   obtain ⟨s,hs⟩:∃ s,s=S[k]:=⟨_,rfl⟩
   rw[←hx] at har hba hea
   rw[←hy] at hdr hbb heb
   rw[←hs] at hba hbb hea heb hhs
   clear hx hy hs
   obtain ⟨hd,body⟩:=s
   obtain ⟨xh,xA,xl,xc⟩:=x
   obtain ⟨yh,yA,yl,yc⟩:=y
   simp only at hea heb
   subst hea
   subst heb
   obtain ⟨h0,h1,h2,h3,h4,h5,h6,h7⟩:=yh
   obtain rfl:xl=body.length:=sl_len hba
   obtain rfl:yl=body.length:=sl_len hbb
   have CE:=fun (W:World) (h:Below w5.heap.size w5 W)=>eqstate_any ⟨h0,h1,h2,h3,h4,h5,h6,h7⟩ w5.heap.size w5.heap.size (.slice xA body.length xc) (.slice yA body.length yc) body W ((hba.more (Nat.le_trans hB1 hBk.size)).below h) ((hbb.more (Nat.le_trans hB2 hBk.size)).below h) h.size h.size hhs
   dsimp only[stateVal] at CE
   replace CE:=h'd CE
   replace har:=h'd har
   replace hdr:=h'd hdr
   clear hba hbb ha5 hb5
   go_upto_region 6 with fail
   refine wp_region_vals [some 17,some 18,some 19,some 20,some 21,some 22,some 23,some 24,some 25,some 26] (fun W=>Below w5.heap.size w5 W) (fun W W'=>Below W.heap.size W W') id (ValV [.slice (some ⟨ab,ao,none⟩) S.length ac,.int .i64 k,.pointer (some ⟨ab,ao+k*9,none⟩),.agg #[.int .u16 h0,.int .u8 h1,.int .u8 h2,.int .u32 h3,.int .u32 h4,.int .i32 h5,.int .u16 h6,.int .u16 h7,.slice xA body.length xc],.slice (some ⟨db,d0,none⟩) S.length dc,.int .i64 k,.pointer (some ⟨db,d0+k*9,none⟩),.agg #[.int .u16 h0,.int .u8 h1,.int .u8 h2,.int .u32 h3,.int .u32 h4,.int .i32 h5,.int .u16 h6,.int .u16 h7,.slice yA body.length yc],.bool true,.bool false]) hmix.out (by kernel_rfl) rfl (by decide) (by kernel_rfl) (fun _ _ _ _ _ _ h=>h) (Below.refl _ _).drew ?_ ?_
   ·intro t w' a' hI' ha j' hlt' hd
    simp only[putFrom,Act.put,Nat.reduceAdd,s'a,s'z,s's] at ha
    subst ha
    replace hlt':j'<10:=hlt'
    have hzw:=hI'.size
    rcases lt_cas10 j' hlt' with rfl | rfl | rfl | rfl | rfl | rfl | rfl | rfl | rfl | rfl
    ·refine w'k rfl fun K' hK => ?_
     go_wp2
     exact hK.out _ _ ⟨_,rfl,hI',Below.refl _ _,rfl⟩
    ·refine w'k rfl fun K' hK => ?_
     go_wp2
     exact hK.out _ _ ⟨_,rfl,hI',Below.refl _ _,rfl⟩
    ·rw[←o'i (hd 0 (by kernel_rfl))]
     rw[←o'i (hd 1 (by kernel_rfl))]
     refine w'k rfl fun K' hK => ?_
     go_wp2
     exact hK.out _ _ ⟨_,rfl,hI',Below.refl _ _,rfl⟩
    ·rw[←o'i (hd 2 (by kernel_rfl))]
     have f0:w'.cell? ⟨ab,ao+k*9,none⟩=some (.int .u16 h0):=(hI'.cell (p:=⟨ab,ao+k*9+0,none⟩) hab5).trans (har.out 0 _ rfl)
     have f1:w'.cell? ⟨ab,ao+k*9+1,none⟩=some (.int .u8 h1):=(hI'.cell (p:=⟨ab,ao+k*9+1,none⟩) hab5).trans (har.out 1 _ rfl)
     have f2:w'.cell? ⟨ab,ao+k*9+2,none⟩=some (.int .u8 h2):=(hI'.cell (p:=⟨ab,ao+k*9+2,none⟩) hab5).trans (har.out 2 _ rfl)
     have f3:w'.cell? ⟨ab,ao+k*9+3,none⟩=some (.int .u32 h3):=(hI'.cell (p:=⟨ab,ao+k*9+3,none⟩) hab5).trans (har.out 3 _ rfl)
     have f4:w'.cell? ⟨ab,ao+k*9+4,none⟩=some (.int .u32 h4):=(hI'.cell (p:=⟨ab,ao+k*9+4,none⟩) hab5).trans (har.out 4 _ rfl)
     have f5:w'.cell? ⟨ab,ao+k*9+5,none⟩=some (.int .i32 h5):=(hI'.cell (p:=⟨ab,ao+k*9+5,none⟩) hab5).trans (har.out 5 _ rfl)
     have f6:w'.cell? ⟨ab,ao+k*9+6,none⟩=some (.int .u16 h6):=(hI'.cell (p:=⟨ab,ao+k*9+6,none⟩) hab5).trans (har.out 6 _ rfl)
     have f7:w'.cell? ⟨ab,ao+k*9+7,none⟩=some (.int .u16 h7):=(hI'.cell (p:=⟨ab,ao+k*9+7,none⟩) hab5).trans (har.out 7 _ rfl)
     have f8:w'.cell? ⟨ab,ao+k*9+8,none⟩=some (.slice xA body.length xc):=(hI'.cell (p:=⟨ab,ao+k*9+8,none⟩) hab5).trans (har.out 8 _ rfl)
     refine w'k rfl fun K' hK => ?_
     go_wp2
     exact hK.out _ _ ⟨_,rfl,hI',Below.refl _ _,rfl⟩
    ·refine w'k rfl fun K' hK => ?_
     go_wp2
     exact hK.out _ _ ⟨_,rfl,hI',Below.refl _ _,rfl⟩
    ·refine w'k rfl fun K' hK => ?_
     go_wp2
     exact hK.out _ _ ⟨_,rfl,hI',Below.refl _ _,rfl⟩
    ·rw[←o'i (hd 4 (by kernel_rfl))]
     rw[←o'i (hd 5 (by kernel_rfl))]
     refine w'k rfl fun K' hK => ?_
     go_wp2
     exact hK.out _ _ ⟨_,rfl,hI',Below.refl _ _,rfl⟩
    ·rw[←o'i (hd 6 (by kernel_rfl))]
     have f0:w'.cell? ⟨db,d0+k*9,none⟩=some (.int .u16 h0):=(hI'.cell (p:=⟨db,d0+k*9+0,none⟩) hdb5).trans (hdr.out 0 _ rfl)
     have f1:w'.cell? ⟨db,d0+k*9+1,none⟩=some (.int .u8 h1):=(hI'.cell (p:=⟨db,d0+k*9+1,none⟩) hdb5).trans (hdr.out 1 _ rfl)
     have f2:w'.cell? ⟨db,d0+k*9+2,none⟩=some (.int .u8 h2):=(hI'.cell (p:=⟨db,d0+k*9+2,none⟩) hdb5).trans (hdr.out 2 _ rfl)
     have f3:w'.cell? ⟨db,d0+k*9+3,none⟩=some (.int .u32 h3):=(hI'.cell (p:=⟨db,d0+k*9+3,none⟩) hdb5).trans (hdr.out 3 _ rfl)
     have f4:w'.cell? ⟨db,d0+k*9+4,none⟩=some (.int .u32 h4):=(hI'.cell (p:=⟨db,d0+k*9+4,none⟩) hdb5).trans (hdr.out 4 _ rfl)
     have f5:w'.cell? ⟨db,d0+k*9+5,none⟩=some (.int .i32 h5):=(hI'.cell (p:=⟨db,d0+k*9+5,none⟩) hdb5).trans (hdr.out 5 _ rfl)
     have f6:w'.cell? ⟨db,d0+k*9+6,none⟩=some (.int .u16 h6):=(hI'.cell (p:=⟨db,d0+k*9+6,none⟩) hdb5).trans (hdr.out 6 _ rfl)
     have f7:w'.cell? ⟨db,d0+k*9+7,none⟩=some (.int .u16 h7):=(hI'.cell (p:=⟨db,d0+k*9+7,none⟩) hdb5).trans (hdr.out 7 _ rfl)
     have f8:w'.cell? ⟨db,d0+k*9+8,none⟩=some (.slice yA body.length yc):=(hI'.cell (p:=⟨db,d0+k*9+8,none⟩) hdb5).trans (hdr.out 8 _ rfl)
     refine w'k rfl fun K' hK => ?_
     go_wp2
     exact hK.out _ _ ⟨_,rfl,hI',Below.refl _ _,rfl⟩
    ·rw[←o'i (hd 3 (by kernel_rfl))]
     rw[←o'i (hd 7 (by kernel_rfl))]
     have CC:=h'd (CE.out w' hI')
     refine w'k rfl fun K' hK => ?_
     go_wp2_with (go_at_call 48;with_reducible refine Calls.mono CC.out ?_;rintro e w4' ⟨rfl,hB4⟩)
     exact hK.out _ _ ⟨_,rfl,hI'.trans (hB4.mono hzw),hB4,rfl⟩
    ·rw[←o'i (hd 8 (by kernel_rfl))]
     refine w'k rfl fun K' hK => ?_
     go_wp2
     exact hK.out _ _ ⟨_,rfl,hI',Below.refl _ _,rfl⟩
   ·intro t w' a' hI' ha hv
    simp only[putFrom,Act.put,Nat.reduceAdd,s'a,s'z,s's] at ha
    subst ha
    have dl:t 9=.bool false:=(o'i (hv 9 (by decide))).symm
    rw[dl]
    clear hv dl
    go_wp2
    go_roundg (S.length-(k+1))
    case measure=>omega
    case rel=>exact ⟨k+1,by omega,rfl,by go_num,hBk.trans (hI'.mono hBk.size)⟩
  ·obtain rfl:k=S.length:=by omega
   go_wp2
   go_ret
   exact ⟨rfl,hBk⟩
end Go.Proofs.YtcknpofnpabkiaaGreat
