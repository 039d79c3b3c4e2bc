/- Bytes with marks behind them; bytes compared. Conditions: the bytes lie in memory. -/
import Derived.Test.YtcknpofnpabkiaaGreatGzAP
import Derived.Test.YtcknpofnpabkiaaGreatGzBF
set_option maxRecDepth 100000
namespace Go.Proofs.YtcknpofnpabkiaaGreat
open Go.RowKit Go.Lo
def wideG (l:List Int) (i:Nat):Int:=match l[i]? with | some x=>x | none=>(282+7*(i:Int))%256
def wideTo (l:List Int) (k:Nat):List Int:=(List.range (l.length+64)).map fun i=>if i<k then wideG l i else 0
def wideL (l:List Int):List Int:=wideTo l (l.length+64)
theorem wideTo_len (l:List Int) (k:Nat):(wideTo l k).length=l.length+64:=by simp[wideTo]
theorem wideTo_zero (l:List Int):wideTo l 0=List.replicate (l.length+64) 0:=by
 unfold wideTo
 refine List.ext_getElem (by simp) fun i h1 h2 => ?_
 simp
theorem wideTo_succ {l:List Int} {k:Nat}:(wideTo l k).set k (wideG l k)=wideTo l (k+1):=by
 refine List.ext_getElem (by simp[wideTo]) fun i h1 h2 => ?_
 rw[List.getElem_set]
 simp only[wideTo,List.getElem_map,List.getElem_range]
 by_cases e:k=i
 ·subst e
  rw[if_pos rfl,if_pos (by omega)]
 ·rw[if_neg e]
  by_cases h:i<k
  ·rw[if_pos h,if_pos (by omega)]
  ·rw[if_neg h,if_neg (by omega)]
theorem wideL_at {l:List Int} {i:Nat} (hi:i<l.length+64):(wideL l)[i]?=some (wideG l i):=by
 unfold wideL wideTo
 rw[List.getElem?_map,List.getElem?_range hi]
 simp[hi]
theorem wideG_old {l:List Int} {i:Nat} (hi:i<l.length):wideG l i=l[i]:=by
 unfold wideG
 rw[List.getElem?_eq_getElem hi]
theorem wideG_new {l:List Int} {i:Nat} (hi:¬ i<l.length):wideG l i=(282+7*(i:Int))%256:=by
 unfold wideG
 rw[List.getElem?_eq_none (by omega)]
theorem wideL_take (l:List Int):(wideL l).take l.length=l:=by
 refine List.ext_getElem? fun i => ?_
 by_cases h:i<l.length
 ·rw[List.getElem?_take,if_pos h,wideL_at (by omega),wideG_old h,List.getElem?_eq_getElem h]
 ·rw[List.getElem?_eq_none (by rw[List.length_take];omega),List.getElem?_eq_none (by omega)]
theorem flat_one (l:List Int):(l.flatMap fun x:Int=>[Value.int .u8 x])=l.map u8c:=by
 induction l with
 | nil=>rfl
 | cons x r ih =>
  rw[List.flatMap_cons,ih]
  rfl
theorem splice_one {l:List Value} {k:Nat} {u:Value} (h:k<l.length):splice l k [u]=l.set k u:=by
 unfold splice
 simp only[List.length_singleton,List.set_eq_take_append_cons_drop,if_pos h,List.singleton_append]
theorem hi_up {P:Program} {t e:TypeId} {s bytes:Nat} (E:ElT P t e s bytes) (A:Option Addr) (n c hi:Nat) (h1:hi≤c) (hA:∀ a,A=some a→a.add 0=a) (W:World):(Instr.sliceAt t (.slice A n c) none (some (.int .i64 (hi:Int))) none).run P W=.ok (.slice A hi c) W:=by
 obtain ⟨i,z,hi',hz,hsz,hby,hzs⟩:=E.info
 have he:P.elem t=e:=by simp[Program.elem,E.sl]
 have hu:P.underlying t=some (.slice (P.elem t)):=by rw[he];exact E.sl
 have ea:(if c=0 then A else A.map (·.add (0*s)))=A:=by
  split
  ·rfl
  ·cases A with
   | none=>rfl
   | some a =>
    rw[Nat.zero_mul]
    show some (a.add 0)=some a
    rw[hA a rfl]
 have h:(Instr.sliceAt t (.slice A n c) none (some (.int .i64 (hi:Int))) none).run P W=.ok (.slice (if c=0 then A else A.map (·.add (0*s))) hi c) W:=by
  rw[run_sliceAt_slice W t _ _ _ _ hu,run_slice_h W t A n c hu .i64 hi (by omega) (by omega),he]
  simp[sizeOf,typeInfo,hi',hsz,sliced]
 rw[h,ea]
def WideB (W:World) (base:Nat) (v:Value) (l:List Int):Prop:=∃ g:Nat,v=.slice (some ⟨g,0,none⟩) l.length (l.length+64)∧W.ownsRow base 5 1 (.slice (some ⟨g,0,none⟩) (l.length+64) (l.length+64)) (l.length+64) ((wideL l).map u8c)
theorem WideB.call {W W':World} {base:Nat} {v:Value} {l:List Int} (h:WideB W base v l) (hb:Below W.heap.size W W'):WideB W' base v l:=by
 obtain ⟨g,e,ho⟩:=h
 exact ⟨g,e,own_below ho hb⟩
theorem WideB.less {W:World} {base b2:Nat} {v:Value} {l:List Int} (h:WideB W base v l) (hb:b2≤base):WideB W b2 v l:=by
 obtain ⟨g,e,ho⟩:=h
 exact ⟨g,e,own_less ho hb⟩
theorem WideB.own {W:World} {base:Nat} {v:Value} {l:List Int} (h:WideB W base v l):W.ownsRow base 5 1 v l.length (l.map u8c):=by
 obtain ⟨g,rfl,ho⟩:=h
 have h1:=own_take ho (m:=l.length) (by omega)
 rw[Nat.mul_one,←List.map_take,wideL_take] at h1
 exact h1
set_option maxHeartbeats 2000000 in
theorem widebytes_any (B:Nat) (bv:Value) (body:List Int) (w:World) (hb:Sl w B 1 bv body.length (body.map u8c)) (hB:B≤w.heap.size) (hn:body.length≤2000000) :
  Calls Tryz.prog 67 #[bv] w fun e w'=>∃ v,e=.returned v∧WideB w' w.heap.size v body∧Below w.heap.size w w':=by
 obtain ⟨-,A,c,rfl,-⟩:=id hb
 have e64:((body.length:Int)+64)=((body.length+64:Nat):Int):=by omega
 obtain ⟨n,hn2⟩:∃ n,n=body.length+64:=⟨_,rfl⟩
 rw[←hn2] at e64
 have hn3:n≤2000064:=by omega
 have hnb:body.length≤n:=by omega
 replace hn2:=h'd hn2
 go_enter Tryz.func67,Tryz.ntmps67
 go_upto_region 3 with (at_make;refine wpList_make rfl (.tmp 7) (.tmp 7) 69 rfl w.heap.size u8T (fun x:Int=>[.int .u8 x]) (fun _=>rfl) 0 (by kernel_rfl) .i64 .i64 _ _ n rfl rfl rfl rfl (by omega) (by simp only[maxLen];omega) (Nat.le_refl _) ?_;intro w1 hown1 hgr1)
 rw[flat_one,hn2.out,←wideTo_zero,←hn2.out] at hown1
 have hB1:Below w.heap.size w w1:=below_of_grown hgr1 (Nat.le_refl _) (by simp)
 clear hgr1 e64
 obtain ⟨g,hg⟩:∃ g,g=w.heap.size:=⟨_,rfl⟩
 have hown1:w1.ownsRow w.heap.size 5 1 (.slice (some ⟨g,0,none⟩) n n) n ((wideTo body 0).map u8c):=by rw[hg];exact hown1
 rw[←hg]
 replace hg:=h'd hg
 go_loopg [4] n (fun m u wr=>∃ k:Nat,k≤n∧m=n-k∧u=.int .i64 k∧wr.ownsRow w.heap.size 5 1 (.slice (some ⟨g,0,none⟩) n n) n ((wideTo body k).map u8c)∧Below w.heap.size w wr)
 case atStart=>exact ⟨0,Nat.zero_le _,rfl,rfl,hown1,hB1⟩
 case round =>
  clear hown1 hB1
  obtain ⟨k,hk,rfl,rfl,ho,hBk⟩:=hrel
  obtain ⟨w2,rfl⟩:∃ x:World,x=wr:=⟨_,rfl⟩
  by_cases hkn:k<n
  ·have kn:(k:Int)<(n:Int):=by omega
   have hset:splice ((wideTo body k).map u8c) k [.int .u8 (wideG body k)]=(wideTo body (k+1)).map u8c:=by
    rw[splice_one (by rw[List.length_map,wideTo_len,←hn2.out];exact hkn),←wideTo_succ,List.map_set]
    rfl
   replace hset:=h'd hset
   by_cases hkl:k<body.length
   ·have kl:(k:Int)<(body.length:Int):=by omega
    have hx:=wideG_old hkl
    obtain ⟨wb,wo,hwA,hwb,hwr⟩:=(show ∃ b off,A=some ⟨b,off,none⟩∧b<B∧∀ j u,(body.map u8c)[j]?=some u→w2.cell? ⟨b,off+j,none⟩=some u by
     obtain ⟨-,A',c',hv,-,-,hat⟩:=hb.below (hBk.mono hB)
     simp only[Value.slice.injEq,true_and] at hv
     obtain ⟨rfl,rfl⟩:=hv
     exact hat (by omega))
    subst hwA
    have r0:w2.cell? ⟨wb,wo+k,none⟩=some (.int .u8 (wideG body k)):=hwr k _ (by rw[List.getElem?_map,List.getElem?_eq_getElem hkl,hx];rfl)
    generalize wideG body k=x at r0 hset
    clear hwr hx
    go_wp2_with (refine wpList_store_own rfl 5 (.tmp 25) (.tmp 24) rfl (k:=k) [.int .u8 x] rfl rfl ho rfl (by kernel_rfl) (by simp[Value.oneCell']) (by simp;omega) ?_;intro w3 ho3 hg3)
    rw[hset.out] at ho3
    go_roundg (n-(k+1))
    case measure=>omega
    case rel=>exact ⟨k+1,by omega,rfl,by go_num,ho3,hBk.trans (below_of_grown hg3 hBk.size fun q hq=>(ho.lt q hq).1)⟩
   ·have kl:¬ (k:Int)<(body.length:Int):=by omega
    have hx:=wideG_new hkl
    have wx:IntKind.u8.wrap (279+7*(k:Int)+3)=wideG body k:=by rw[hx,IntKind.wrap_u8];omega
    generalize wideG body k=x at wx hset
    clear hx
    go_wp2_with (refine wpList_store_own rfl 5 (.tmp 33) (.tmp 32) rfl (k:=k) [.int .u8 x] rfl rfl ho rfl (by kernel_rfl) (by simp[Value.oneCell']) (by simp;omega) ?_;intro w3 ho3 hg3)
    rw[hset.out] at ho3
    go_roundg (n-(k+1))
    case measure=>omega
    case rel=>exact ⟨k+1,by omega,rfl,by go_num,ho3,hBk.trans (below_of_grown hg3 hBk.size fun q hq=>(ho.lt q hq).1)⟩
  ·obtain rfl:k=n:=by omega
   have hv:=fun W=>hi_up (P:=Tryz.prog) u8T (some ⟨g,0,none⟩) k k body.length (by omega) (fun a ha=>by cases ha;rfl) W
   go_wp2
   go_ret
   refine ⟨_,rfl,⟨g,by rw[hn2.out];rfl,?_⟩,hBk⟩
   rw[hn2.out] at ho
   exact ho
set_option maxRecDepth 100000
set_option maxHeartbeats 2000000 in
theorem sparebytes_any (base:Nat) (v:Value) (body:List Int) (w:World) (h:WideB w base v body) (hn:body.length≤2000000) :
  Calls Tryz.prog 94 #[v] w fun e w'=>e=.returned (.bool true)∧w'=w:=by
 obtain ⟨g,rfl,ho⟩:=h
 have hcell:∀ k,k<body.length+64→w.cell? ⟨g,k,none⟩=some (.int .u8 (wideG body k)):=fun k hk=>by
  obtain ⟨g',cap,e,-,-,-,-,hc⟩:=own_row (f:=fun x:Int=>[Value.int .u8 x]) (s:=1) (l:=wideL body) (fun _=>rfl) (by rw[flat_one,show (wideL body).length=body.length+64 from wideTo_len _ _];exact ho) (k:=k) (by rw[show (wideL body).length=body.length+64 from wideTo_len _ _];exact hk)
  simp only[Value.slice.injEq,Option.some.injEq,Addr.mk.injEq,and_true] at e
  obtain ⟨rfl,-⟩:=e
  have h1:=hc 0 _ rfl
  rw[Nat.mul_one,Nat.add_zero] at h1
  have h2:=wideL_at (l:=body) hk
  have h3:(wideL body)[k]'(by rw[show (wideL body).length=body.length+64 from wideTo_len _ _];exact hk)=wideG body k:=by
   rw[List.getElem?_eq_getElem (by rw[show (wideL body).length=body.length+64 from wideTo_len _ _];exact hk)] at h2
   exact o'i h2
  rw[h3] at h1
  exact h1
 obtain ⟨n,hn2⟩:∃ n,n=body.length+64:=⟨_,rfl⟩
 have e64:wrap64 ((body.length:Int)+64)=(n:Int):=by unfold wrap64;omega
 have e65:((body.length:Int)+64)=(n:Int):=by omega
 rw[←hn2]
 have hn3:n≤2000064:=by omega
 have hnb:body.length≤n:=by omega
 have hv:=fun W=>hi_up (P:=Tryz.prog) u8T (some ⟨g,0,none⟩) body.length n n (Nat.le_refl _) (fun a ha=>by cases ha;rfl) W
 replace hn2:=h'd hn2
 replace hcell:=h'd hcell
 clear ho
 go_enter Tryz.func94,Tryz.ntmps94
 go_upto_region 3 with fail
 clear hv e64 e65
 go_loopg [4] (n-body.length) (fun m u wr=>∃ k:Nat,body.length≤k∧k≤n∧m=n-k∧u=.int .i64 k∧wr=w)
 case atStart=>exact ⟨body.length,Nat.le_refl _,hnb,rfl,rfl,rfl⟩
 case round =>
  obtain ⟨k,hk0,hk,rfl,rfl,rfl⟩:=hrel
  obtain ⟨w2,rfl⟩:∃ x:World,x=wr:=⟨_,rfl⟩
  by_cases hkn:k<n
  ·have kn:(k:Int)<(n:Int):=by omega
   have r0:=hcell.out k (by rw[←hn2.out];exact hkn)
   have hx:=wideG_new (l:=body) (i:=k) (by omega)
   have wx:IntKind.u8.wrap (279+7*(k:Int)+3)=wideG body k:=by rw[hx,IntKind.wrap_u8];omega
   generalize wideG body k=x at wx r0
   clear hx
   go_wp2
   go_roundg (n-(k+1))
   case measure=>omega
   case rel=>exact ⟨k+1,by omega,by omega,rfl,by go_num,rfl⟩
  ·obtain rfl:k=n:=by omega
   go_wp2
   go_ret
   exact ⟨rfl,rfl⟩
set_option maxHeartbeats 2000000 in
theorem eqbytes_any (B1 B2:Nat) (av bv:Value) (l:List Int) (w:World) (ha:Sl w B1 1 av l.length (l.map u8c)) (hb:Sl w B2 1 bv l.length (l.map u8c)) (hB1:B1≤w.heap.size) (hB2:B2≤w.heap.size) (hn:l.length≤140737488355328) :
  Calls Tryz.prog 93 #[av,bv] w fun e w'=>e=.returned (.bool true)∧Below w.heap.size w w':=by
 obtain ⟨-,A,c,rfl,-⟩:=id ha
 obtain ⟨-,D,d,rfl,-⟩:=id hb
 have hat:∀ (B:Nat) (A:Option Addr) (c:Nat),B≤w.heap.size→Sl w B 1 (.slice A l.length c) l.length (l.map u8c)→0<l.length→∃ b off,A=some ⟨b,off,none⟩∧b<w.heap.size∧∀ j (hj:j<l.length),w.cell? ⟨b,off+j,none⟩=some (.int .u8 l[j]):=fun B A c hB hs h0=>by
  obtain ⟨-,A',c',hv,-,-,hat⟩:=hs
  simp only[Value.slice.injEq,true_and] at hv
  obtain ⟨rfl,rfl⟩:=hv
  obtain ⟨b,off,e,hb,hc⟩:=hat h0
  exact ⟨b,off,e,by omega,fun j hj=>hc j _ (by rw[List.getElem?_map,List.getElem?_eq_getElem hj];rfl)⟩
 have hA:=h'd (hat _ _ _ hB1 ha)
 have hD:=h'd (hat _ _ _ hB2 hb)
 clear ha hb hat
 have n0:((l.length:Int) != (l.length:Int))=false:=by simp
 go_enter Tryz.func93,Tryz.ntmps93
 go_upto_region 4 with fail
 clear n0
 go_loopg [5] l.length (fun m u wr=>∃ k:Nat,k≤l.length∧m=l.length-k∧u=.int .i64 k∧Below w.heap.size w wr)
 case atStart=>exact ⟨0,Nat.zero_le _,rfl,rfl,Below.refl _ _⟩
 case round =>
  obtain ⟨k,hk,rfl,rfl,hBk⟩:=hrel
  obtain ⟨w2,rfl⟩:∃ x:World,x=wr:=⟨_,rfl⟩
  by_cases hkl:k<l.length
  ·have kn:(k:Int)<(l.length:Int):=by omega
   obtain ⟨ab,ao,rfl,hab,ha⟩:=hA.out (by omega)
   obtain ⟨db,d0,rfl,hdb,hd⟩:=hD.out (by omega)
   have r1:=(hBk.cell (p:=⟨ab,ao+k,none⟩) hab).trans (ha k hkl)
   have r2:=(hBk.cell (p:=⟨db,d0+k,none⟩) hdb).trans (hd k hkl)
   generalize l[k]=x at r1 r2
   have nx:(x != x)=false:=by simp
   clear ha hd
   go_upto_region 6 with fail
   go_quiet (fail)
   go_wp2
   go_roundg (l.length-(k+1))
   case measure=>omega
   case rel=>exact ⟨k+1,by omega,rfl,by go_num,below_drewN hBk _⟩
  ·obtain rfl:k=l.length:=by omega
   go_wp2
   go_ret
   exact ⟨rfl,hBk⟩
theorem num9_any (k:Nat) (hk:k≤4000000) (w:World):Calls Tryz.prog 33 #[.int .i64 9,.int .i64 (k:Int)] w fun e w'=>e=.returned (.int .i64 (9437185+(k:Int)))∧w'=w:=by
 go_enter Tryz.func33,Tryz.ntmps33
 go_wp2
 go_ret
 refine ⟨?_,rfl⟩
 show Ending.returned (.int .i64 (9437184+(k:Int)+1))=_
 rw[show 9437184+(k:Int)+1=9437185+(k:Int) by omega]
theorem eql_head (a b c d e f g i:Int) (w:World):(binOp .eql 68 (.agg #[.int .u16 a,.int .u8 b,.int .u8 c,.int .u32 d,.int .u32 e,.int .i32 f,.int .u16 g,.int .u16 i]) (.agg #[.int .u16 a,.int .u8 b,.int .u8 c,.int .u32 d,.int .u32 e,.int .i32 f,.int .u16 g,.int .u16 i])).run Tryz.prog w=.ok (.bool true) w:=by
 rw[run_eql_struct,run_equalIn_agg _ _ _ _ _ (by kernel_rfl) (by kernel_rfl)]
 go_simp
set_option maxHeartbeats 1000000 in
theorem widestate_any (h:OHead) (B:Nat) (bv:Value) (body:List Int) (w:World) (hb:Sl w B 1 bv body.length (body.map u8c)) (hB:B≤w.heap.size) (hn:body.length≤2000000) :
  Calls Tryz.prog 32 #[stateVal h bv] w fun e w'=>∃ v,e=.returned (stateVal h v)∧WideB w' w.heap.size v body∧Below w.heap.size w w':=by
 have hb0:=hb
 obtain ⟨-,A,c,rfl,-⟩:=hb
 dsimp only[stateVal]
 have h0:Blk ((w.alloc (.cells #[.int .u16 h.age,.int .u8 h.opts,.int .u8 h.type,.int .u32 h.id,.int .u32 h.adv,.int .i32 h.seq,.int .u16 h.sum,.int .u16 h.len,.slice A body.length c] 71)).alloc (.cells #[.int .u16 0,.int .u8 0,.int .u8 0,.int .u32 0,.int .u32 0,.int .i32 0,.int .u16 0,.int .u16 0,.slice none 0 0] 71)) w.heap.size 71 #[.int .u16 h.age,.int .u8 h.opts,.int .u8 h.type,.int .u32 h.id,.int .u32 h.adv,.int .i32 h.seq,.int .u16 h.sum,.int .u16 h.len,.slice A body.length c]:=(Blk.new _ _ _).alloc _
 have h1:Blk ((w.alloc (.cells #[.int .u16 h.age,.int .u8 h.opts,.int .u8 h.type,.int .u32 h.id,.int .u32 h.adv,.int .i32 h.seq,.int .u16 h.sum,.int .u16 h.len,.slice A body.length c] 71)).alloc (.cells #[.int .u16 0,.int .u8 0,.int .u8 0,.int .u32 0,.int .u32 0,.int .i32 0,.int .u16 0,.int .u16 0,.slice none 0 0] 71)) (w.heap.size+1) 71 #[.int .u16 0,.int .u8 0,.int .u8 0,.int .u32 0,.int .u32 0,.int .i32 0,.int .u16 0,.int .u16 0,.slice none 0 0]:=Blk.new_ _ (by simp)
 have hB0:Below w.heap.size w ((w.alloc (.cells #[.int .u16 h.age,.int .u8 h.opts,.int .u8 h.type,.int .u32 h.id,.int .u32 h.adv,.int .i32 h.seq,.int .u16 h.sum,.int .u16 h.len,.slice A body.length c] 71)).alloc (.cells #[.int .u16 0,.int .u8 0,.int .u8 0,.int .u32 0,.int .u32 0,.int .i32 0,.int .u16 0,.int .u16 0,.slice none 0 0] 71)):=((Below.refl _ _).alloc (Nat.le_refl _) _).alloc (by simp) _
 go_enter Tryz.func32,Tryz.ntmps32
 go_upto_region 1 with fail
 generalize (w.alloc (.cells #[.int .u16 h.age,.int .u8 h.opts,.int .u8 h.type,.int .u32 h.id,.int .u32 h.adv,.int .i32 h.seq,.int .u16 h.sum,.int .u16 h.len,.slice A body.length c] 71)).alloc (.cells #[.int .u16 0,.int .u8 0,.int .u8 0,.int .u32 0,.int .u32 0,.int .i32 0,.int .u16 0,.int .u16 0,.slice none 0 0] 71)=w0 at h0 h1 hB0 ⊢
 have CC:=h'd (widebytes_any B (.slice A body.length c) body w0 (hb0.below (hB0.mono hB)) (Nat.le_trans hB hB0.size) hn)
 have x8:=h0.cell 8
 simp only[q'a,q'z,q's] at x8
 have hl1:=h1.lt
 go_upto_region 2 with (first
  | (go_at_call 67;refine Calls.mono CC.out ?_;rintro e w1 ⟨v1,rfl,hw1,hB1⟩;obtain ⟨gv,rfl,ho1⟩:=hw1;have g0:=Blk.call hB1 h0;have f8:=g0.free 8;have y8:=g0.cell 8;simp only[q'a,q'z,q's] at y8)
  | fail)
 have k0:Blk (w1.setCell ⟨w.heap.size,8,none⟩ (.slice (some ⟨gv,0,none⟩) body.length (body.length+64))) w.heap.size 71 #[.int .u16 h.age,.int .u8 h.opts,.int .u8 h.type,.int .u32 h.id,.int .u32 h.adv,.int .i32 h.seq,.int .u16 h.sum,.int .u16 h.len,.slice (some ⟨gv,0,none⟩) body.length (body.length+64)]:=g0.set_ 8 _
 have k1:Blk (w1.setCell ⟨w.heap.size,8,none⟩ (.slice (some ⟨gv,0,none⟩) body.length (body.length+64))) (w.heap.size+1) 71 #[.int .u16 0,.int .u8 0,.int .u8 0,.int .u32 0,.int .u32 0,.int .i32 0,.int .u16 0,.int .u16 0,.slice none 0 0]:=(Blk.call hB1 h1).far (by simp) _
 have ho2:=own_far ho1 (p:=⟨w.heap.size,8,none⟩) (by show w.heap.size<w0.heap.size;omega) (.slice (some ⟨gv,0,none⟩) body.length (body.length+64))
 have hB2:=(hB0.trans (hB1.mono hB0.size)).setCell (p:=⟨w.heap.size,8,none⟩) (Nat.le_refl _) (.slice (some ⟨gv,0,none⟩) body.length (body.length+64))
 have hz0:=hB0.size
 clear x8 y8 f8 g0 h0 h1 hB1 ho1
 generalize w1.setCell ⟨w.heap.size,8,none⟩ (.slice (some ⟨gv,0,none⟩) body.length (body.length+64))=w2 at k0 k1 ho2 hB2 ⊢
 go_wp2_with (first
  | (refine wpList_load_row rfl 71 (.tmp 1) rfl w.heap.size rfl 71 #[.int .u16 h.age,.int .u8 h.opts,.int .u8 h.type,.int .u32 h.id,.int .u32 h.adv,.int .i32 h.seq,.int .u16 h.sum,.int .u16 h.len,.slice (some ⟨gv,0,none⟩) body.length (body.length+64)] (0,0) _ k0 Tryz.underlying71 rfl (by kernel_rfl) ?_)
  | (refine wpList_store_row rfl 71 (.tmp 2) (.tmp 7) rfl (w.heap.size+1) #[.int .u16 h.age,.int .u8 h.opts,.int .u8 h.type,.int .u32 h.id,.int .u32 h.adv,.int .i32 h.seq,.int .u16 h.sum,.int .u16 h.len,.slice (some ⟨gv,0,none⟩) body.length (body.length+64)] rfl rfl 71 #[.int .u16 0,.int .u8 0,.int .u8 0,.int .u32 0,.int .u32 0,.int .i32 0,.int .u16 0,.int .u16 0,.slice none 0 0] k1 (by kernel_rfl) rfl (by simp[Value.oneCell']) ?_))
 refine bodyPost_ret (results_cell_row rfl _ _ (w.heap.size+1) 71 #[.int .u16 h.age,.int .u8 h.opts,.int .u8 h.type,.int .u32 h.id,.int .u32 h.adv,.int .i32 h.seq,.int .u16 h.sum,.int .u16 h.len,.slice (some ⟨gv,0,none⟩) body.length (body.length+64)] (0,0) _ rfl (blk_setRow k1) Tryz.underlying71 rfl (by kernel_rfl)) rfl ?_
 exact ⟨_,rfl,⟨gv,rfl,own_less (own_setRow ho2 (by omega) _) (by omega)⟩,below_setRow hB2 (by omega) _⟩
set_option maxHeartbeats 1000000 in
theorem sparestate_any (h:OHead) (base:Nat) (v:Value) (body:List Int) (w:World) (hw:WideB w base v body) (hn:body.length≤2000000) :
  Calls Tryz.prog 49 #[stateVal h v] w fun e w'=>e=.returned (.bool true)∧Below w.heap.size w w':=by
 have hw0:=hw
 obtain ⟨g,rfl,ho⟩:=hw
 dsimp only[stateVal]
 have k0:=Blk.new w 71 #[.int .u16 h.age,.int .u8 h.opts,.int .u8 h.type,.int .u32 h.id,.int .u32 h.adv,.int .i32 h.seq,.int .u16 h.sum,.int .u16 h.len,.slice (some ⟨g,0,none⟩) body.length (body.length+64)]
 have hB0:Below w.heap.size w (w.alloc (.cells #[.int .u16 h.age,.int .u8 h.opts,.int .u8 h.type,.int .u32 h.id,.int .u32 h.adv,.int .i32 h.seq,.int .u16 h.sum,.int .u16 h.len,.slice (some ⟨g,0,none⟩) body.length (body.length+64)] 71)):=(Below.refl _ _).alloc (Nat.le_refl _) _
 have CC:=h'd (sparebytes_any base _ body _ (hw0.call hB0) hn)
 go_enter Tryz.func49,Tryz.ntmps49
 go_upto_region 1 with fail
 generalize w.alloc (.cells #[.int .u16 h.age,.int .u8 h.opts,.int .u8 h.type,.int .u32 h.id,.int .u32 h.adv,.int .i32 h.seq,.int .u16 h.sum,.int .u16 h.len,.slice (some ⟨g,0,none⟩) body.length (body.length+64)] 71)=w1 at k0 hB0 CC ⊢
 have x8:=k0.cell 8
 simp only[q'a,q'z,q's] at x8
 go_wp2_with (go_at_call 94;refine Calls.mono CC.out ?_;rintro e w2 ⟨rfl,rfl⟩)
 go_ret
 exact ⟨rfl,hB0⟩
set_option maxHeartbeats 1000000 in
theorem eqstate_any (h:OHead) (B1 B2:Nat) (av bv:Value) (body:List Int) (w:World) (ha:Sl w B1 1 av body.length (body.map u8c)) (hb:Sl w B2 1 bv body.length (body.map u8c)) (hB1:B1≤w.heap.size) (hB2:B2≤w.heap.size) (hn:body.length≤140737488355328) :
  Calls Tryz.prog 48 #[stateVal h av,stateVal h bv] w fun e w'=>e=.returned (.bool true)∧Below w.heap.size w w':=by
 have ha0:=ha
 have hb0:=hb
 obtain ⟨-,A,c,rfl,-⟩:=ha
 obtain ⟨-,D,d,rfl,-⟩:=hb
 dsimp only[stateVal]
 have k0:Blk ((w.alloc (.cells #[.int .u16 h.age,.int .u8 h.opts,.int .u8 h.type,.int .u32 h.id,.int .u32 h.adv,.int .i32 h.seq,.int .u16 h.sum,.int .u16 h.len,.slice A body.length c] 71)).alloc (.cells #[.int .u16 h.age,.int .u8 h.opts,.int .u8 h.type,.int .u32 h.id,.int .u32 h.adv,.int .i32 h.seq,.int .u16 h.sum,.int .u16 h.len,.slice D body.length d] 71)) w.heap.size 71 #[.int .u16 h.age,.int .u8 h.opts,.int .u8 h.type,.int .u32 h.id,.int .u32 h.adv,.int .i32 h.seq,.int .u16 h.sum,.int .u16 h.len,.slice A body.length c]:=(Blk.new _ _ _).alloc _
 have k1:Blk ((w.alloc (.cells #[.int .u16 h.age,.int .u8 h.opts,.int .u8 h.type,.int .u32 h.id,.int .u32 h.adv,.int .i32 h.seq,.int .u16 h.sum,.int .u16 h.len,.slice A body.length c] 71)).alloc (.cells #[.int .u16 h.age,.int .u8 h.opts,.int .u8 h.type,.int .u32 h.id,.int .u32 h.adv,.int .i32 h.seq,.int .u16 h.sum,.int .u16 h.len,.slice D body.length d] 71)) (w.heap.size+1) 71 #[.int .u16 h.age,.int .u8 h.opts,.int .u8 h.type,.int .u32 h.id,.int .u32 h.adv,.int .i32 h.seq,.int .u16 h.sum,.int .u16 h.len,.slice D body.length d]:=Blk.new_ _ (by simp)
 have hB0:Below w.heap.size w ((w.alloc (.cells #[.int .u16 h.age,.int .u8 h.opts,.int .u8 h.type,.int .u32 h.id,.int .u32 h.adv,.int .i32 h.seq,.int .u16 h.sum,.int .u16 h.len,.slice A body.length c] 71)).alloc (.cells #[.int .u16 h.age,.int .u8 h.opts,.int .u8 h.type,.int .u32 h.id,.int .u32 h.adv,.int .i32 h.seq,.int .u16 h.sum,.int .u16 h.len,.slice D body.length d] 71)):=((Below.refl _ _).alloc (Nat.le_refl _) _).alloc (by simp) _
 have CC:=h'd (eqbytes_any B1 B2 _ _ body _ (ha0.below (hB0.mono hB1)) (hb0.below (hB0.mono hB2)) (Nat.le_trans hB1 hB0.size) (Nat.le_trans hB2 hB0.size) hn)
 have he:=fun W=>eql_head h.age h.opts h.type h.id h.adv h.seq h.sum h.len W
 go_enter Tryz.func48,Tryz.ntmps48
 go_upto_region 1 with fail
 generalize (w.alloc (.cells #[.int .u16 h.age,.int .u8 h.opts,.int .u8 h.type,.int .u32 h.id,.int .u32 h.adv,.int .i32 h.seq,.int .u16 h.sum,.int .u16 h.len,.slice A body.length c] 71)).alloc (.cells #[.int .u16 h.age,.int .u8 h.opts,.int .u8 h.type,.int .u32 h.id,.int .u32 h.adv,.int .i32 h.seq,.int .u16 h.sum,.int .u16 h.len,.slice D body.length d] 71)=w1 at k0 k1 hB0 CC ⊢
 have x0:=k0.cell 0
 have x1:=k0.cell 1
 have x2:=k0.cell 2
 have x3:=k0.cell 3
 have x4:=k0.cell 4
 have x5:=k0.cell 5
 have x6:=k0.cell 6
 have x7:=k0.cell 7
 have x8:=k0.cell 8
 have z0:=k1.cell 0
 have z1:=k1.cell 1
 have z2:=k1.cell 2
 have z3:=k1.cell 3
 have z4:=k1.cell 4
 have z5:=k1.cell 5
 have z6:=k1.cell 6
 have z7:=k1.cell 7
 have z8:=k1.cell 8
 simp only[q'a,q'z,q's] at x0 x1 x2 x3 x4 x5 x6 x7 x8 z0 z1 z2 z3 z4 z5 z6 z7 z8
 go_wp2_with (go_at_call 93;refine Calls.mono CC.out ?_;rintro e w2 ⟨rfl,hB2⟩)
 go_ret
 exact ⟨rfl,hB0.trans (hB2.mono hB0.size)⟩
end Go.Proofs.YtcknpofnpabkiaaGreat
