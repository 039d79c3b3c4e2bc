/- lodestarref06.read at every type. Conditions: the bytes lie in memory. -/
import Derived.Test.YtcknpofnpabkiaaGreatGzAK
import Derived.Test.YtcknpofnpabkiaaGreatGzAA
import Derived.Test.YtcknpofnpabkiaaGreatGzAL
set_option maxRecDepth 100000
namespace Go.Proofs.YtcknpofnpabkiaaGreat
open Go.RowKit Go.Lo
theorem lh_ex {P:Program} {t e:TypeId} {s bytes:Nat} (E:ElT P t e s bytes) (A:Option Addr) (n c lo hi:Nat) (h1:lo≤hi) (h2:hi≤n) (h3:n≤c) :
  ∃ v2,(∀ W,(Instr.sliceAt t (.slice A n c) (some (.int .i64 (lo:Int))) (some (.int .i64 (hi:Int))) none).run P W=.ok v2 W)∧∀ (w:World) (B:Nat) (xs:List Value),Sl w B s (.slice A n c) n xs→Sl w B s v2 (hi-lo) ((xs.drop (lo*s)).take ((hi-lo)*s)):=by
 obtain ⟨i,z,hi',hz,hsz,hby,hzs⟩:=E.info
 have he:P.elem t=e:=by simp[Program.elem,E.sl]
 have hu:P.underlying t=some (.slice (P.elem t)):=by rw[he];exact E.sl
 refine ⟨.slice (if c=lo then A else A.map (·.add (lo*s))) (hi-lo) (c-lo),fun W => ?_,fun w B xs h => ?_⟩
 ·rw[run_sliceAt_slice W t _ _ _ _ hu,run_slice_lh W t A n c hu .i64 .i64 lo hi (by omega) (by omega) (by omega),he]
  simp[sizeOf,typeInfo,hi',hsz,sliced]
 ·have h4:=(h.take h2).drop h1
  rw[List.drop_take] at h4
  rw[Nat.sub_mul]
  exact h4
theorem sl_lh {w:World} {B n c:Nat} {A:Option Addr} {xs:List Value} (h:Sl w B 1 (.slice A n c) n xs) (lo hi:Nat) (h1:lo<hi) (h2:hi≤n):Sl w B 1 (.slice (Option.map (fun x:Addr=>(⟨x.block,x.off+lo,none⟩:Addr)) A) (hi-lo) (c-lo)) (hi-lo) ((xs.drop lo).take (hi-lo)):=by
 obtain ⟨h4,A',c',hv,h5,h6,h7⟩:=h
 simp only[Value.slice.injEq] at hv
 obtain ⟨rfl,-,rfl⟩:=hv
 obtain ⟨b,off,rfl,hb,hc⟩:=h7 (by omega)
 refine ⟨by rw[List.length_take,List.length_drop,h4];omega,_,_,rfl,by omega,by omega,fun h0=>⟨b,off+lo,rfl,hb,fun j u hu => ?_⟩⟩
 rw[List.getElem?_take] at hu
 split at hu
 ·rw[List.getElem?_drop] at hu
  rw[Nat.add_assoc]
  exact hc _ u hu
 ·cases hu
theorem ix_a (a:Nat):(0:Int)≤(a:Int)+8∧¬ ((a:Int)+8<0)∧((a:Int)+8).toNat=a+8:=⟨by omega,by omega,by omega⟩
theorem lp_e4 {a k:Nat} (h:a=4+4*k):a+4=4+4*(k+1):=by omega
theorem lp_e12 {a k:Nat} (h:a=4+12*k):a+12=4+12*(k+1):=by omega
theorem lp_m4 {a k n:Nat} (h:a=4+4*k) (h2:a+4≤n):(n-4) / 4-(k+1)<(n-4) / 4-k:=by omega
theorem lp_m12 {a k n:Nat} (h:a=4+12*k) (h2:a+12≤n):(n-4) / 12-(k+1)<(n-4) / 12-k:=by omega
theorem numB_byte {l:List Int} (h8:∀ x∈l,0≤x∧x<256) (a:Nat) (ha:a<l.length):numB ((l.drop a).take 1)=l[a]:=by
 have e:(l.drop a).take 1=[l[a]]:=by
  rw[List.drop_eq_getElem_cons ha]
  rfl
 rw[e,numB_eq _ (by simp) (by intro x hx;simp at hx;subst hx;exact h8 _ (List.getElem_mem ha))]
 simp[numL]
def RReadPost (t:Nat) (bs:List Int) (w:World) (x:Ending) (w':World):Prop:=
 ∃ cs q bv,x=.returned (.tuple #[.agg cs,.bool q])∧BodyAt w' w.heap.size cs bv∧q=fitR t bs∧(q=true→bv=readP t bs)∧Below w.heap.size w w'
set_option maxHeartbeats 16000000 in
theorem rread3_any_ (B:Nat) (bv:Value) (bs:List Int) (w:World) (hb:Sl w B 1 bv bs.length (bs.map u8c)) (hB:B≤w.heap.size) (_hn:bs.length≤1000000) (h8:∀ x∈bs,0≤x∧x<256):(Calls Tryz.prog 89 #[.int .u8 3,bv] w fun x w'=>RReadPost 3 bs w x w')∧(Calls Tryz.prog 89 #[.int .u8 4,bv] w fun x w'=>RReadPost 4 bs w x w'):=by
 refine ⟨?_,?_⟩
 all_goals
  have hb0:=hb
  obtain ⟨-,A,c,rfl,hc1,hc2,hA0⟩:=id hb
  have q0:Blk ((w.alloc (.cells #[.int .u8 0,.slice none 0 0,.int .u32 0,.slice none 0 0,.int .u32 0,.bool false,.int .u32 0,.int .u32 0,.slice none 0 0] 81)).alloc (.cells #[.int .u8 0,.slice none 0 0,.int .u32 0,.slice none 0 0,.int .u32 0,.bool false,.int .u32 0,.int .u32 0,.slice none 0 0] 81)) w.heap.size 81 #[.int .u8 0,.slice none 0 0,.int .u32 0,.slice none 0 0,.int .u32 0,.bool false,.int .u32 0,.int .u32 0,.slice none 0 0]:=(Blk.new _ _ _).alloc _
  have q1:Blk ((w.alloc (.cells #[.int .u8 0,.slice none 0 0,.int .u32 0,.slice none 0 0,.int .u32 0,.bool false,.int .u32 0,.int .u32 0,.slice none 0 0] 81)).alloc (.cells #[.int .u8 0,.slice none 0 0,.int .u32 0,.slice none 0 0,.int .u32 0,.bool false,.int .u32 0,.int .u32 0,.slice none 0 0] 81)) (w.heap.size+1) 81 #[.int .u8 0,.slice none 0 0,.int .u32 0,.slice none 0 0,.int .u32 0,.bool false,.int .u32 0,.int .u32 0,.slice none 0 0]:=heap_alloc2_new w _ _
  have qB:Below w.heap.size w ((w.alloc (.cells #[.int .u8 0,.slice none 0 0,.int .u32 0,.slice none 0 0,.int .u32 0,.bool false,.int .u32 0,.int .u32 0,.slice none 0 0] 81)).alloc (.cells #[.int .u8 0,.slice none 0 0,.int .u32 0,.slice none 0 0,.int .u32 0,.bool false,.int .u32 0,.int .u32 0,.slice none 0 0] 81)):=((Below.refl _ _).alloc (Nat.le_refl _) _).alloc (by simp) _
  go_enter Tryz.func89,Tryz.ntmps89
  go_upto_region 2 with fail
  generalize (w.alloc (.cells #[.int .u8 0,.slice none 0 0,.int .u32 0,.slice none 0 0,.int .u32 0,.bool false,.int .u32 0,.int .u32 0,.slice none 0 0] 81)).alloc (.cells #[.int .u8 0,.slice none 0 0,.int .u32 0,.slice none 0 0,.int .u32 0,.bool false,.int .u32 0,.int .u32 0,.slice none 0 0] 81)=w1 at q0 q1 qB ⊢
  have hb1:=hb0.below (qB.mono hB)
  clear hb hb0
  have zg:=q1.lt
  obtain ⟨g,hg⟩:∃ g,g=w.heap.size+1:=⟨_,rfl⟩
  rw[←hg] at q1 zg ⊢
  have hgw:w.heap.size<g:=by omega
  clear hg
  by_cases hl:bs.length=8
  ·have nl:((bs.length:Int) != 8)=false:=by simp;omega
   go_upto_region 24 with fail
   have hS1:=hb1.take (k:=4) (by omega)
   rw[Nat.mul_one,←List.map_take] at hS1
   have CN1:=rnumber_any B (.slice A 4 c) (bs.take 4) w1 (by rw[show (bs.take 4).length=4 from (by rw[List.length_take];omega)];exact hS1) (by rw[show (bs.take 4).length=4 from (by rw[List.length_take];omega)];omega) (fun x hx=>h8 x (List.mem_of_mem_take hx))
   obtain ⟨m,hm⟩:∃ x,x=numB (bs.take 4):=⟨_,rfl⟩
   rw[←hm] at CN1
   replace hm:=h'd hm
   replace CN1:=h'd CN1
   clear hS1
   have f2:=q1.free 2
   have p2:=q1.cell 2
   simp only[q'a,q'z,q's] at p2
   go_upto_region 25 with (go_at_call 127;with_reducible refine Calls.mono CN1.out ?_;rintro x w2 ⟨rfl,hww⟩;subst hww)
   have q1:=q1.set_ 2 (.int .u32 m)
   simp only[s'a,s'z,s's] at q1
   have q0:=q0.far (p:=⟨g,2,none⟩) (by simp;omega) (.int .u32 m)
   have qB:=qB.setCell (p:=⟨g,2,none⟩) (by simp;omega) (.int .u32 m)
   have hb1:=hb1.below (((Below.refl g _).setCell (p:=⟨g,2,none⟩) (Nat.le_refl _) (.int .u32 m)).mono (by omega))
   clear CN1
   clear f2 p2
   generalize World.setCell _ ⟨g,2,none⟩ (.int .u32 m)=w1 at q0 q1 qB hb1 ⊢
   have hS2:=sl_lh hb1 4 8 (by omega) (by omega)
   rw[←List.map_drop,←List.map_take] at hS2
   have CN2:=rnumber_any B (.slice (Option.map (fun x:Addr=>(⟨x.block,x.off+4,none⟩:Addr)) A) 4 (c-4)) ((bs.drop 4).take 4) w1 (by rw[show ((bs.drop 4).take 4).length=4 from (by rw[List.length_take,List.length_drop];omega)];exact hS2) (by rw[show ((bs.drop 4).take 4).length=4 from (by rw[List.length_take,List.length_drop];omega)];omega) (fun x hx=>h8 x (List.mem_of_mem_drop (List.mem_of_mem_take hx)))
   obtain ⟨k,hk⟩:∃ x,x=numB ((bs.drop 4).take 4):=⟨_,rfl⟩
   rw[←hk] at CN2
   replace hk:=h'd hk
   replace CN2:=h'd CN2
   clear hS2
   have f4:=q1.free 4
   have p4:=q1.cell 4
   simp only[q'a,q'z,q's] at p4
   go_upto_region 35 with (go_at_call 127;with_reducible refine Calls.mono CN2.out ?_;rintro x w2 ⟨rfl,hww⟩;subst hww)
   have q1:=q1.set_ 4 (.int .u32 k)
   simp only[s'a,s'z,s's] at q1
   have q0:=q0.far (p:=⟨g,4,none⟩) (by simp;omega) (.int .u32 k)
   have qB:=qB.setCell (p:=⟨g,4,none⟩) (by simp;omega) (.int .u32 k)
   have hb1:=hb1.below (((Below.refl g _).setCell (p:=⟨g,4,none⟩) (Nat.le_refl _) (.int .u32 k)).mono (by omega))
   clear CN2
   clear f4 p4
   generalize World.setCell _ ⟨g,4,none⟩ (.int .u32 k)=w1 at q0 q1 qB hb1 ⊢
   go_wp2_with (first
    | (refine wpList_load_row rfl 81 (.tmp 6) rfl g rfl 81 #[.int .u8 0,.slice none 0 0,.int .u32 m,.slice none 0 0,.int .u32 k,.bool false,.int .u32 0,.int .u32 0,.slice none 0 0] (0,0) _ q1 Tryz.underlying81 rfl (by kernel_rfl) ?_)
    | (refine wpList_store_row rfl 81 (.tmp 4) (.tmp 135) rfl w.heap.size #[.int .u8 0,.slice none 0 0,.int .u32 m,.slice none 0 0,.int .u32 k,.bool false,.int .u32 0,.int .u32 0,.slice none 0 0] rfl rfl 81 #[.int .u8 0,.slice none 0 0,.int .u32 0,.slice none 0 0,.int .u32 0,.bool false,.int .u32 0,.int .u32 0,.slice none 0 0] q0 (by kernel_rfl) rfl (by simp[Value.oneCell']) ?_))
   have hset:Blk (w1.setRow w.heap.size #[.int .u8 0,.slice none 0 0,.int .u32 m,.slice none 0 0,.int .u32 k,.bool false,.int .u32 0,.int .u32 0,.slice none 0 0]) w.heap.size 81 #[.int .u8 0,.slice none 0 0,.int .u32 m,.slice none 0 0,.int .u32 k,.bool false,.int .u32 0,.int .u32 0,.slice none 0 0]:=setRow_heap w1 w.heap.size #[.int .u8 0,.slice none 0 0,.int .u32 0,.slice none 0 0,.int .u32 0,.bool false,.int .u32 0,.int .u32 0,.slice none 0 0] #[.int .u8 0,.slice none 0 0,.int .u32 m,.slice none 0 0,.int .u32 k,.bool false,.int .u32 0,.int .u32 0,.slice none 0 0] 81 (0,0) q0
   have hB3:Below w.heap.size w1 (w1.setRow w.heap.size #[.int .u8 0,.slice none 0 0,.int .u32 m,.slice none 0 0,.int .u32 k,.bool false,.int .u32 0,.int .u32 0,.slice none 0 0]):=⟨rfl,rfl,rfl,by simp[World.setRow],fun k hk=>setRow_other _ _ k _ (by omega)⟩
   refine bodyPost_ret (results_cell_tmp_row rfl _ _ w.heap.size 81 #[.int .u8 0,.slice none 0 0,.int .u32 m,.slice none 0 0,.int .u32 k,.bool false,.int .u32 0,.int .u32 0,.slice none 0 0] (0,0) _ rfl hset Tryz.underlying81 rfl (by kernel_rfl)) rfl ?_
   refine ⟨_,true,⟨0,[],m,[],k,false,0,0,[]⟩,rfl,⟨none,0,none,0,none,0,rfl,World.ownsRow_nil _ _ _ _,World.ownsRow_nil _ _ _ _,World.ownsRow_nil _ _ _ _⟩,by simp[fitR,hl],?_,qB.trans hB3⟩
   intro _
   rw[hm.out,hk.out]
   rfl
  ·have nl:((bs.length:Int) != 8)=true:=by simp;omega
   go_wp2_with (first
    | (refine wpList_load_row rfl 81 (.tmp 6) rfl g rfl 81 #[.int .u8 0,.slice none 0 0,.int .u32 0,.slice none 0 0,.int .u32 0,.bool false,.int .u32 0,.int .u32 0,.slice none 0 0] (0,0) _ q1 Tryz.underlying81 rfl (by kernel_rfl) ?_)
    | (refine wpList_store_row rfl 81 (.tmp 4) (.tmp 98) rfl w.heap.size #[.int .u8 0,.slice none 0 0,.int .u32 0,.slice none 0 0,.int .u32 0,.bool false,.int .u32 0,.int .u32 0,.slice none 0 0] rfl rfl 81 #[.int .u8 0,.slice none 0 0,.int .u32 0,.slice none 0 0,.int .u32 0,.bool false,.int .u32 0,.int .u32 0,.slice none 0 0] q0 (by kernel_rfl) rfl (by simp[Value.oneCell']) ?_))
   have hset:Blk (w1.setRow w.heap.size #[.int .u8 0,.slice none 0 0,.int .u32 0,.slice none 0 0,.int .u32 0,.bool false,.int .u32 0,.int .u32 0,.slice none 0 0]) w.heap.size 81 #[.int .u8 0,.slice none 0 0,.int .u32 0,.slice none 0 0,.int .u32 0,.bool false,.int .u32 0,.int .u32 0,.slice none 0 0]:=setRow_heap w1 w.heap.size #[.int .u8 0,.slice none 0 0,.int .u32 0,.slice none 0 0,.int .u32 0,.bool false,.int .u32 0,.int .u32 0,.slice none 0 0] #[.int .u8 0,.slice none 0 0,.int .u32 0,.slice none 0 0,.int .u32 0,.bool false,.int .u32 0,.int .u32 0,.slice none 0 0] 81 (0,0) q0
   have hB3:Below w.heap.size w1 (w1.setRow w.heap.size #[.int .u8 0,.slice none 0 0,.int .u32 0,.slice none 0 0,.int .u32 0,.bool false,.int .u32 0,.int .u32 0,.slice none 0 0]):=⟨rfl,rfl,rfl,by simp[World.setRow],fun k hk=>setRow_other _ _ k _ (by omega)⟩
   refine bodyPost_ret (results_cell_tmp_row rfl _ _ w.heap.size 81 #[.int .u8 0,.slice none 0 0,.int .u32 0,.slice none 0 0,.int .u32 0,.bool false,.int .u32 0,.int .u32 0,.slice none 0 0] (0,0) _ rfl hset Tryz.underlying81 rfl (by kernel_rfl)) rfl ?_
   refine ⟨_,false,zeroB,rfl,BodyAt.zero _ _,by simp[fitR,hl],?_,qB.trans hB3⟩
   intro h
   cases h
theorem rread3_any (B:Nat) (bv:Value) (bs:List Int) (w:World) (hb:Sl w B 1 bv bs.length (bs.map u8c)) (hB:B≤w.heap.size) (hn:bs.length≤1000000) (h8:∀ x∈bs,0≤x∧x<256):Calls Tryz.prog 89 #[.int .u8 3,bv] w fun x w'=>RReadPost 3 bs w x w':=(rread3_any_ B bv bs w hb hB hn h8).1
theorem rread4_any (B:Nat) (bv:Value) (bs:List Int) (w:World) (hb:Sl w B 1 bv bs.length (bs.map u8c)) (hB:B≤w.heap.size) (hn:bs.length≤1000000) (h8:∀ x∈bs,0≤x∧x<256):Calls Tryz.prog 89 #[.int .u8 4,bv] w fun x w'=>RReadPost 4 bs w x w':=(rread3_any_ B bv bs w hb hB hn h8).2
set_option maxHeartbeats 16000000 in
theorem rread5_any_ (B:Nat) (bv:Value) (bs:List Int) (w:World) (hb:Sl w B 1 bv bs.length (bs.map u8c)) (hB:B≤w.heap.size) (_hn:bs.length≤1000000) (h8:∀ x∈bs,0≤x∧x<256):(Calls Tryz.prog 89 #[.int .u8 5,bv] w fun x w'=>RReadPost 5 bs w x w')∧(Calls Tryz.prog 89 #[.int .u8 7,bv] w fun x w'=>RReadPost 7 bs w x w'):=by
 refine ⟨?_,?_⟩
 all_goals
  have hb0:=hb
  obtain ⟨-,A,c,rfl,hc1,hc2,hA0⟩:=id hb
  have q0:Blk ((w.alloc (.cells #[.int .u8 0,.slice none 0 0,.int .u32 0,.slice none 0 0,.int .u32 0,.bool false,.int .u32 0,.int .u32 0,.slice none 0 0] 81)).alloc (.cells #[.int .u8 0,.slice none 0 0,.int .u32 0,.slice none 0 0,.int .u32 0,.bool false,.int .u32 0,.int .u32 0,.slice none 0 0] 81)) w.heap.size 81 #[.int .u8 0,.slice none 0 0,.int .u32 0,.slice none 0 0,.int .u32 0,.bool false,.int .u32 0,.int .u32 0,.slice none 0 0]:=(Blk.new _ _ _).alloc _
  have q1:Blk ((w.alloc (.cells #[.int .u8 0,.slice none 0 0,.int .u32 0,.slice none 0 0,.int .u32 0,.bool false,.int .u32 0,.int .u32 0,.slice none 0 0] 81)).alloc (.cells #[.int .u8 0,.slice none 0 0,.int .u32 0,.slice none 0 0,.int .u32 0,.bool false,.int .u32 0,.int .u32 0,.slice none 0 0] 81)) (w.heap.size+1) 81 #[.int .u8 0,.slice none 0 0,.int .u32 0,.slice none 0 0,.int .u32 0,.bool false,.int .u32 0,.int .u32 0,.slice none 0 0]:=heap_alloc2_new w _ _
  have qB:Below w.heap.size w ((w.alloc (.cells #[.int .u8 0,.slice none 0 0,.int .u32 0,.slice none 0 0,.int .u32 0,.bool false,.int .u32 0,.int .u32 0,.slice none 0 0] 81)).alloc (.cells #[.int .u8 0,.slice none 0 0,.int .u32 0,.slice none 0 0,.int .u32 0,.bool false,.int .u32 0,.int .u32 0,.slice none 0 0] 81)):=((Below.refl _ _).alloc (Nat.le_refl _) _).alloc (by simp) _
  go_enter Tryz.func89,Tryz.ntmps89
  go_upto_region 2 with fail
  generalize (w.alloc (.cells #[.int .u8 0,.slice none 0 0,.int .u32 0,.slice none 0 0,.int .u32 0,.bool false,.int .u32 0,.int .u32 0,.slice none 0 0] 81)).alloc (.cells #[.int .u8 0,.slice none 0 0,.int .u32 0,.slice none 0 0,.int .u32 0,.bool false,.int .u32 0,.int .u32 0,.slice none 0 0] 81)=w1 at q0 q1 qB ⊢
  have hb1:=hb0.below (qB.mono hB)
  clear hb hb0
  have zg:=q1.lt
  obtain ⟨g,hg⟩:∃ g,g=w.heap.size+1:=⟨_,rfl⟩
  rw[←hg] at q1 zg ⊢
  have hgw:w.heap.size<g:=by omega
  clear hg
  by_cases hl:bs.length=16
  ·have nl:((bs.length:Int) != 16)=false:=by simp;omega
   obtain ⟨bb,off,hA,hbb,-⟩:=hA0 (by omega)
   clear hA0
   replace hA:=h'd hA
   go_upto_region 30 with fail
   have hS1:=hb1.take (k:=4) (by omega)
   rw[Nat.mul_one,←List.map_take] at hS1
   have CN1:=rnumber_any B (.slice A 4 c) (bs.take 4) w1 (by rw[show (bs.take 4).length=4 from (by rw[List.length_take];omega)];exact hS1) (by rw[show (bs.take 4).length=4 from (by rw[List.length_take];omega)];omega) (fun x hx=>h8 x (List.mem_of_mem_take hx))
   obtain ⟨m,hm⟩:∃ x,x=numB (bs.take 4):=⟨_,rfl⟩
   rw[←hm] at CN1
   replace hm:=h'd hm
   replace CN1:=h'd CN1
   clear hS1
   have f2:=q1.free 2
   have p2:=q1.cell 2
   simp only[q'a,q'z,q's] at p2
   go_upto_region 31 with (go_at_call 127;with_reducible refine Calls.mono CN1.out ?_;rintro x w2 ⟨rfl,hww⟩;subst hww)
   have q1:=q1.set_ 2 (.int .u32 m)
   simp only[s'a,s'z,s's] at q1
   have q0:=q0.far (p:=⟨g,2,none⟩) (by simp;omega) (.int .u32 m)
   have qB:=qB.setCell (p:=⟨g,2,none⟩) (by simp;omega) (.int .u32 m)
   have hb1:=hb1.below (((Below.refl g _).setCell (p:=⟨g,2,none⟩) (Nat.le_refl _) (.int .u32 m)).mono (by omega))
   clear CN1
   clear f2 p2
   generalize World.setCell _ ⟨g,2,none⟩ (.int .u32 m)=w1 at q0 q1 qB hb1 ⊢
   replace hA:=hA.out
   subst hA
   have hrw:∀ j u,(bs.map u8c)[j]?=some u→w1.cell? ⟨bb,off+j,none⟩=some u:=by
    obtain ⟨-,A2,c2,hv2,-,-,hA2⟩:=id hb1
    simp only[Value.slice.injEq] at hv2
    obtain ⟨hv3,-,-⟩:=hv2
    obtain ⟨b4,o4,hv4,hb4,hr4⟩:=hA2 (by omega)
    rw[←hv3] at hv4
    simp only[Option.some.injEq,Addr.mk.injEq,and_true] at hv4
    obtain ⟨rfl,rfl⟩:=hv4
    exact hr4
   have y1:w1.cell? ⟨bb,off+4,none⟩=some (.int .u8 bs[4]):=hrw 4 (.int .u8 bs[4]) (by rw[List.getElem?_map,List.getElem?_eq_getElem (by omega)];rfl)
   obtain ⟨y,hy⟩:∃ x,x=bs[4]:=⟨_,rfl⟩
   rw[←hy] at y1
   replace hy:=h'd hy
   have ix1:(4:Int)<(bs.length:Int):=by omega
   clear hrw
   have f5:=q1.free 5
   have p5:=q1.cell 5
   simp only[q'a,q'z,q's] at p5
   go_upto_region 32 with fail
   have q1:=q1.set_ 5 (.bool (y==128))
   simp only[s'a,s'z,s's] at q1
   have q0:=q0.far (p:=⟨g,5,none⟩) (by simp;omega) (.bool (y==128))
   have qB:=qB.setCell (p:=⟨g,5,none⟩) (by simp;omega) (.bool (y==128))
   have hb1:=hb1.below (((Below.refl g _).setCell (p:=⟨g,5,none⟩) (Nat.le_refl _) (.bool (y==128))).mono (by omega))
   clear y1
   clear f5 p5
   generalize World.setCell _ ⟨g,5,none⟩ (.bool (y==128))=w1 at q0 q1 qB hb1 ⊢
   obtain ⟨A,hA⟩:∃ A:Option Addr,A=some ⟨bb,off,none⟩:=⟨_,rfl⟩
   rw[←hA] at hb1 ⊢
   clear hA
   have hS1:=sl_lh hb1 5 8 (by omega) (by omega)
   rw[←List.map_drop,←List.map_take] at hS1
   have CN1:=rnumber_any B (.slice (Option.map (fun x:Addr=>(⟨x.block,x.off+5,none⟩:Addr)) A) 3 (c-5)) ((bs.drop 5).take 3) w1 (by rw[show ((bs.drop 5).take 3).length=3 from (by rw[List.length_take,List.length_drop];omega)];exact hS1) (by rw[show ((bs.drop 5).take 3).length=3 from (by rw[List.length_take,List.length_drop];omega)];omega) (fun x hx=>h8 x (List.mem_of_mem_drop (List.mem_of_mem_take hx)))
   obtain ⟨k,hk⟩:∃ x,x=numB ((bs.drop 5).take 3):=⟨_,rfl⟩
   rw[←hk] at CN1
   replace hk:=h'd hk
   replace CN1:=h'd CN1
   clear hS1
   have f4:=q1.free 4
   have p4:=q1.cell 4
   simp only[q'a,q'z,q's] at p4
   go_upto_region 33 with (go_at_call 127;with_reducible refine Calls.mono CN1.out ?_;rintro x w2 ⟨rfl,hww⟩;subst hww)
   have q1:=q1.set_ 4 (.int .u32 k)
   simp only[s'a,s'z,s's] at q1
   have q0:=q0.far (p:=⟨g,4,none⟩) (by simp;omega) (.int .u32 k)
   have qB:=qB.setCell (p:=⟨g,4,none⟩) (by simp;omega) (.int .u32 k)
   have hb1:=hb1.below (((Below.refl g _).setCell (p:=⟨g,4,none⟩) (Nat.le_refl _) (.int .u32 k)).mono (by omega))
   clear CN1
   clear f4 p4
   generalize World.setCell _ ⟨g,4,none⟩ (.int .u32 k)=w1 at q0 q1 qB hb1 ⊢
   have hS2:=sl_lh hb1 8 12 (by omega) (by omega)
   rw[←List.map_drop,←List.map_take] at hS2
   have CN2:=rnumber_any B (.slice (Option.map (fun x:Addr=>(⟨x.block,x.off+8,none⟩:Addr)) A) 4 (c-8)) ((bs.drop 8).take 4) w1 (by rw[show ((bs.drop 8).take 4).length=4 from (by rw[List.length_take,List.length_drop];omega)];exact hS2) (by rw[show ((bs.drop 8).take 4).length=4 from (by rw[List.length_take,List.length_drop];omega)];omega) (fun x hx=>h8 x (List.mem_of_mem_drop (List.mem_of_mem_take hx)))
   obtain ⟨fw,hfw⟩:∃ x,x=numB ((bs.drop 8).take 4):=⟨_,rfl⟩
   rw[←hfw] at CN2
   replace hfw:=h'd hfw
   replace CN2:=h'd CN2
   clear hS2
   have f6:=q1.free 6
   have p6:=q1.cell 6
   simp only[q'a,q'z,q's] at p6
   go_upto_region 34 with (go_at_call 127;with_reducible refine Calls.mono CN2.out ?_;rintro x w2 ⟨rfl,hww⟩;subst hww)
   have q1:=q1.set_ 6 (.int .u32 fw)
   simp only[s'a,s'z,s's] at q1
   have q0:=q0.far (p:=⟨g,6,none⟩) (by simp;omega) (.int .u32 fw)
   have qB:=qB.setCell (p:=⟨g,6,none⟩) (by simp;omega) (.int .u32 fw)
   have hb1:=hb1.below (((Below.refl g _).setCell (p:=⟨g,6,none⟩) (Nat.le_refl _) (.int .u32 fw)).mono (by omega))
   clear CN2
   clear f6 p6
   generalize World.setCell _ ⟨g,6,none⟩ (.int .u32 fw)=w1 at q0 q1 qB hb1 ⊢
   have hS3:=sl_lh hb1 12 16 (by omega) (by omega)
   rw[←List.map_drop,←List.map_take] at hS3
   have CN3:=rnumber_any B (.slice (Option.map (fun x:Addr=>(⟨x.block,x.off+12,none⟩:Addr)) A) 4 (c-12)) ((bs.drop 12).take 4) w1 (by rw[show ((bs.drop 12).take 4).length=4 from (by rw[List.length_take,List.length_drop];omega)];exact hS3) (by rw[show ((bs.drop 12).take 4).length=4 from (by rw[List.length_take,List.length_drop];omega)];omega) (fun x hx=>h8 x (List.mem_of_mem_drop (List.mem_of_mem_take hx)))
   obtain ⟨tg,htg⟩:∃ x,x=numB ((bs.drop 12).take 4):=⟨_,rfl⟩
   rw[←htg] at CN3
   replace htg:=h'd htg
   replace CN3:=h'd CN3
   clear hS3
   have f7:=q1.free 7
   have p7:=q1.cell 7
   simp only[q'a,q'z,q's] at p7
   go_upto_region 35 with (go_at_call 127;with_reducible refine Calls.mono CN3.out ?_;rintro x w2 ⟨rfl,hww⟩;subst hww)
   have q1:=q1.set_ 7 (.int .u32 tg)
   simp only[s'a,s'z,s's] at q1
   have q0:=q0.far (p:=⟨g,7,none⟩) (by simp;omega) (.int .u32 tg)
   have qB:=qB.setCell (p:=⟨g,7,none⟩) (by simp;omega) (.int .u32 tg)
   have hb1:=hb1.below (((Below.refl g _).setCell (p:=⟨g,7,none⟩) (Nat.le_refl _) (.int .u32 tg)).mono (by omega))
   clear CN3
   clear f7 p7
   generalize World.setCell _ ⟨g,7,none⟩ (.int .u32 tg)=w1 at q0 q1 qB hb1 ⊢
   go_wp2_with (first
    | (refine wpList_load_row rfl 81 (.tmp 6) rfl g rfl 81 #[.int .u8 0,.slice none 0 0,.int .u32 m,.slice none 0 0,.int .u32 k,.bool (y==128),.int .u32 fw,.int .u32 tg,.slice none 0 0] (0,0) _ q1 Tryz.underlying81 rfl (by kernel_rfl) ?_)
    | (refine wpList_store_row rfl 81 (.tmp 4) (.tmp 135) rfl w.heap.size #[.int .u8 0,.slice none 0 0,.int .u32 m,.slice none 0 0,.int .u32 k,.bool (y==128),.int .u32 fw,.int .u32 tg,.slice none 0 0] rfl rfl 81 #[.int .u8 0,.slice none 0 0,.int .u32 0,.slice none 0 0,.int .u32 0,.bool false,.int .u32 0,.int .u32 0,.slice none 0 0] q0 (by kernel_rfl) rfl (by simp[Value.oneCell']) ?_))
   have hset:Blk (w1.setRow w.heap.size #[.int .u8 0,.slice none 0 0,.int .u32 m,.slice none 0 0,.int .u32 k,.bool (y==128),.int .u32 fw,.int .u32 tg,.slice none 0 0]) w.heap.size 81 #[.int .u8 0,.slice none 0 0,.int .u32 m,.slice none 0 0,.int .u32 k,.bool (y==128),.int .u32 fw,.int .u32 tg,.slice none 0 0]:=setRow_heap w1 w.heap.size #[.int .u8 0,.slice none 0 0,.int .u32 0,.slice none 0 0,.int .u32 0,.bool false,.int .u32 0,.int .u32 0,.slice none 0 0] #[.int .u8 0,.slice none 0 0,.int .u32 m,.slice none 0 0,.int .u32 k,.bool (y==128),.int .u32 fw,.int .u32 tg,.slice none 0 0] 81 (0,0) q0
   have hB3:Below w.heap.size w1 (w1.setRow w.heap.size #[.int .u8 0,.slice none 0 0,.int .u32 m,.slice none 0 0,.int .u32 k,.bool (y==128),.int .u32 fw,.int .u32 tg,.slice none 0 0]):=⟨rfl,rfl,rfl,by simp[World.setRow],fun k hk=>setRow_other _ _ k _ (by omega)⟩
   refine bodyPost_ret (results_cell_tmp_row rfl _ _ w.heap.size 81 #[.int .u8 0,.slice none 0 0,.int .u32 m,.slice none 0 0,.int .u32 k,.bool (y==128),.int .u32 fw,.int .u32 tg,.slice none 0 0] (0,0) _ rfl hset Tryz.underlying81 rfl (by kernel_rfl)) rfl ?_
   refine ⟨_,true,⟨0,[],m,[],k,y==128,fw,tg,[]⟩,rfl,⟨none,0,none,0,none,0,rfl,World.ownsRow_nil _ _ _ _,World.ownsRow_nil _ _ _ _,World.ownsRow_nil _ _ _ _⟩,by simp[fitR,hl],?_,qB.trans hB3⟩
   intro _
   have hy1:=numB_byte h8 4 (by omega)
   rw[hm.out,hk.out,hfw.out,htg.out,hy.out,←hy1]
   rfl
  ·have nl:((bs.length:Int) != 16)=true:=by simp;omega
   go_wp2_with (first
    | (refine wpList_load_row rfl 81 (.tmp 6) rfl g rfl 81 #[.int .u8 0,.slice none 0 0,.int .u32 0,.slice none 0 0,.int .u32 0,.bool false,.int .u32 0,.int .u32 0,.slice none 0 0] (0,0) _ q1 Tryz.underlying81 rfl (by kernel_rfl) ?_)
    | (refine wpList_store_row rfl 81 (.tmp 4) (.tmp 113) rfl w.heap.size #[.int .u8 0,.slice none 0 0,.int .u32 0,.slice none 0 0,.int .u32 0,.bool false,.int .u32 0,.int .u32 0,.slice none 0 0] rfl rfl 81 #[.int .u8 0,.slice none 0 0,.int .u32 0,.slice none 0 0,.int .u32 0,.bool false,.int .u32 0,.int .u32 0,.slice none 0 0] q0 (by kernel_rfl) rfl (by simp[Value.oneCell']) ?_))
   have hset:Blk (w1.setRow w.heap.size #[.int .u8 0,.slice none 0 0,.int .u32 0,.slice none 0 0,.int .u32 0,.bool false,.int .u32 0,.int .u32 0,.slice none 0 0]) w.heap.size 81 #[.int .u8 0,.slice none 0 0,.int .u32 0,.slice none 0 0,.int .u32 0,.bool false,.int .u32 0,.int .u32 0,.slice none 0 0]:=setRow_heap w1 w.heap.size #[.int .u8 0,.slice none 0 0,.int .u32 0,.slice none 0 0,.int .u32 0,.bool false,.int .u32 0,.int .u32 0,.slice none 0 0] #[.int .u8 0,.slice none 0 0,.int .u32 0,.slice none 0 0,.int .u32 0,.bool false,.int .u32 0,.int .u32 0,.slice none 0 0] 81 (0,0) q0
   have hB3:Below w.heap.size w1 (w1.setRow w.heap.size #[.int .u8 0,.slice none 0 0,.int .u32 0,.slice none 0 0,.int .u32 0,.bool false,.int .u32 0,.int .u32 0,.slice none 0 0]):=⟨rfl,rfl,rfl,by simp[World.setRow],fun k hk=>setRow_other _ _ k _ (by omega)⟩
   refine bodyPost_ret (results_cell_tmp_row rfl _ _ w.heap.size 81 #[.int .u8 0,.slice none 0 0,.int .u32 0,.slice none 0 0,.int .u32 0,.bool false,.int .u32 0,.int .u32 0,.slice none 0 0] (0,0) _ rfl hset Tryz.underlying81 rfl (by kernel_rfl)) rfl ?_
   refine ⟨_,false,zeroB,rfl,BodyAt.zero _ _,by simp[fitR,hl],?_,qB.trans hB3⟩
   intro h
   cases h
theorem rread5_any (B:Nat) (bv:Value) (bs:List Int) (w:World) (hb:Sl w B 1 bv bs.length (bs.map u8c)) (hB:B≤w.heap.size) (hn:bs.length≤1000000) (h8:∀ x∈bs,0≤x∧x<256):Calls Tryz.prog 89 #[.int .u8 5,bv] w fun x w'=>RReadPost 5 bs w x w':=(rread5_any_ B bv bs w hb hB hn h8).1
theorem rread7_any (B:Nat) (bv:Value) (bs:List Int) (w:World) (hb:Sl w B 1 bv bs.length (bs.map u8c)) (hB:B≤w.heap.size) (hn:bs.length≤1000000) (h8:∀ x∈bs,0≤x∧x<256):Calls Tryz.prog 89 #[.int .u8 7,bv] w fun x w'=>RReadPost 7 bs w x w':=(rread5_any_ B bv bs w hb hB hn h8).2
set_option maxHeartbeats 24000000 in
theorem rread9_any_ (B:Nat) (bv:Value) (bs:List Int) (w:World) (hb:Sl w B 1 bv bs.length (bs.map u8c)) (hB:B≤w.heap.size) (hn:bs.length≤1000000) (_h8:∀ x∈bs,0≤x∧x<256):(Calls Tryz.prog 89 #[.int .u8 9,bv] w fun x w'=>RReadPost 9 bs w x w')∧(Calls Tryz.prog 89 #[.int .u8 10,bv] w fun x w'=>RReadPost 10 bs w x w')∧(Calls Tryz.prog 89 #[.int .u8 11,bv] w fun x w'=>RReadPost 11 bs w x w'):=by
 refine ⟨?_,?_,?_⟩
 all_goals
  have hb0:=hb
  obtain ⟨-,A,c,rfl,hc1,hc2,hA0⟩:=id hb
  have q0:Blk ((w.alloc (.cells #[.int .u8 0,.slice none 0 0,.int .u32 0,.slice none 0 0,.int .u32 0,.bool false,.int .u32 0,.int .u32 0,.slice none 0 0] 81)).alloc (.cells #[.int .u8 0,.slice none 0 0,.int .u32 0,.slice none 0 0,.int .u32 0,.bool false,.int .u32 0,.int .u32 0,.slice none 0 0] 81)) w.heap.size 81 #[.int .u8 0,.slice none 0 0,.int .u32 0,.slice none 0 0,.int .u32 0,.bool false,.int .u32 0,.int .u32 0,.slice none 0 0]:=(Blk.new _ _ _).alloc _
  have q1:Blk ((w.alloc (.cells #[.int .u8 0,.slice none 0 0,.int .u32 0,.slice none 0 0,.int .u32 0,.bool false,.int .u32 0,.int .u32 0,.slice none 0 0] 81)).alloc (.cells #[.int .u8 0,.slice none 0 0,.int .u32 0,.slice none 0 0,.int .u32 0,.bool false,.int .u32 0,.int .u32 0,.slice none 0 0] 81)) (w.heap.size+1) 81 #[.int .u8 0,.slice none 0 0,.int .u32 0,.slice none 0 0,.int .u32 0,.bool false,.int .u32 0,.int .u32 0,.slice none 0 0]:=heap_alloc2_new w _ _
  have qB:Below w.heap.size w ((w.alloc (.cells #[.int .u8 0,.slice none 0 0,.int .u32 0,.slice none 0 0,.int .u32 0,.bool false,.int .u32 0,.int .u32 0,.slice none 0 0] 81)).alloc (.cells #[.int .u8 0,.slice none 0 0,.int .u32 0,.slice none 0 0,.int .u32 0,.bool false,.int .u32 0,.int .u32 0,.slice none 0 0] 81)):=((Below.refl _ _).alloc (Nat.le_refl _) _).alloc (by simp) _
  go_enter Tryz.func89,Tryz.ntmps89
  go_upto_region 2 with fail
  generalize (w.alloc (.cells #[.int .u8 0,.slice none 0 0,.int .u32 0,.slice none 0 0,.int .u32 0,.bool false,.int .u32 0,.int .u32 0,.slice none 0 0] 81)).alloc (.cells #[.int .u8 0,.slice none 0 0,.int .u32 0,.slice none 0 0,.int .u32 0,.bool false,.int .u32 0,.int .u32 0,.slice none 0 0] 81)=w1 at q0 q1 qB ⊢
  have hb1:=hb0.below (qB.mono hB)
  clear hb hb0
  have zg:=q1.lt
  obtain ⟨g,hg⟩:∃ g,g=w.heap.size+1:=⟨_,rfl⟩
  rw[←hg] at q1 zg ⊢
  have hgw:w.heap.size<g:=by omega
  clear hg
  have f8:=q1.free 8
  have p8:=q1.cell 8
  simp only[q'a,q'z,q's] at p8
  go_upto_region 35 with (at_builtin;refine wpList_append rfl (.tmp 11) (.tmp 12) 69 rfl w.heap.size u8T (.slice none 0 0) 0 [] rfl (World.ownsRow_nil _ _ _ _) B (.slice A bs.length c) bs.length (bs.map u8c) rfl hb1 (u8s_oneCell _) (by simp only[maxLen];omega) (by omega) (by omega) ?_;intro v6 w6 ho6 hg6 hb6;simp only[Nat.zero_add,List.nil_append] at ho6;obtain ⟨-,A9,c9,rfl,-⟩:=id (Sl.of_own ho6);have hB6:=below_of_grown hg6 (Nat.le_refl _) (fun g hg=>by cases hg);have r1:=q1.below hB6 q1.lt;have f8b:=r1.free 8;have p8b:=r1.cell 8;simp only[q'a,q'z,q's] at p8b)
  have q1:=r1.set_ 8 (.slice A9 bs.length c9)
  simp only[s'a,s'z,s's] at q1
  have q0:=(q0.below hB6 q0.lt).far (p:=⟨g,8,none⟩) (by simp;omega) (.slice A9 bs.length c9)
  have qB:=(qB.trans (hB6.mono qB.size)).setCell (p:=⟨g,8,none⟩) (by simp;omega) (.slice A9 bs.length c9)
  have ho7:=own_same ho6 fun j hj=>Below.heap_setCell w6 ⟨g,8,none⟩ (.slice A9 bs.length c9) j (own_ne8 ho6 r1 (by decide) j hj)
  clear r1 f8b p8b ho6 hg6 hb6 hB6 f8 p8
  generalize w6.setCell ⟨g,8,none⟩ (.slice A9 bs.length c9)=w7 at q0 q1 qB ho7 ⊢
  go_wp2_with (first
   | (refine wpList_load_row rfl 81 (.tmp 6) rfl g rfl 81 #[.int .u8 0,.slice none 0 0,.int .u32 0,.slice none 0 0,.int .u32 0,.bool false,.int .u32 0,.int .u32 0,.slice A9 bs.length c9] (0,0) _ q1 Tryz.underlying81 rfl (by kernel_rfl) ?_)
   | (refine wpList_store_row rfl 81 (.tmp 4) (.tmp 135) rfl w.heap.size #[.int .u8 0,.slice none 0 0,.int .u32 0,.slice none 0 0,.int .u32 0,.bool false,.int .u32 0,.int .u32 0,.slice A9 bs.length c9] rfl rfl 81 #[.int .u8 0,.slice none 0 0,.int .u32 0,.slice none 0 0,.int .u32 0,.bool false,.int .u32 0,.int .u32 0,.slice none 0 0] q0 (by kernel_rfl) rfl (by simp[Value.oneCell']) ?_))
  have hset:Blk (w7.setRow w.heap.size #[.int .u8 0,.slice none 0 0,.int .u32 0,.slice none 0 0,.int .u32 0,.bool false,.int .u32 0,.int .u32 0,.slice A9 bs.length c9]) w.heap.size 81 #[.int .u8 0,.slice none 0 0,.int .u32 0,.slice none 0 0,.int .u32 0,.bool false,.int .u32 0,.int .u32 0,.slice A9 bs.length c9]:=setRow_heap w7 w.heap.size #[.int .u8 0,.slice none 0 0,.int .u32 0,.slice none 0 0,.int .u32 0,.bool false,.int .u32 0,.int .u32 0,.slice none 0 0] #[.int .u8 0,.slice none 0 0,.int .u32 0,.slice none 0 0,.int .u32 0,.bool false,.int .u32 0,.int .u32 0,.slice A9 bs.length c9] 81 (0,0) q0
  have hB3:Below w.heap.size w7 (w7.setRow w.heap.size #[.int .u8 0,.slice none 0 0,.int .u32 0,.slice none 0 0,.int .u32 0,.bool false,.int .u32 0,.int .u32 0,.slice A9 bs.length c9]):=⟨rfl,rfl,rfl,by simp[World.setRow],fun k hk=>setRow_other _ _ k _ (by omega)⟩
  refine bodyPost_ret (results_cell_tmp_row rfl _ _ w.heap.size 81 #[.int .u8 0,.slice none 0 0,.int .u32 0,.slice none 0 0,.int .u32 0,.bool false,.int .u32 0,.int .u32 0,.slice A9 bs.length c9] (0,0) _ rfl hset Tryz.underlying81 rfl (by kernel_rfl)) rfl ?_
  refine ⟨_,true,⟨0,[],0,[],0,false,0,0,bs⟩,rfl,⟨none,0,none,0,A9,c9,rfl,World.ownsRow_nil _ _ _ _,World.ownsRow_nil _ _ _ _,own_same ho7 fun j hj=>setRow_other _ _ j _ (own_ne8 ho7 q0 (by decide) j hj)⟩,by simp[fitR],?_,qB.trans hB3⟩
  intro _
  rfl
theorem rread9_any (B:Nat) (bv:Value) (bs:List Int) (w:World) (hb:Sl w B 1 bv bs.length (bs.map u8c)) (hB:B≤w.heap.size) (hn:bs.length≤1000000) (h8:∀ x∈bs,0≤x∧x<256):Calls Tryz.prog 89 #[.int .u8 9,bv] w fun x w'=>RReadPost 9 bs w x w':=(rread9_any_ B bv bs w hb hB hn h8).1
theorem rread10_any (B:Nat) (bv:Value) (bs:List Int) (w:World) (hb:Sl w B 1 bv bs.length (bs.map u8c)) (hB:B≤w.heap.size) (hn:bs.length≤1000000) (h8:∀ x∈bs,0≤x∧x<256):Calls Tryz.prog 89 #[.int .u8 10,bv] w fun x w'=>RReadPost 10 bs w x w':=(rread9_any_ B bv bs w hb hB hn h8).2.1
theorem rread11_any (B:Nat) (bv:Value) (bs:List Int) (w:World) (hb:Sl w B 1 bv bs.length (bs.map u8c)) (hB:B≤w.heap.size) (hn:bs.length≤1000000) (h8:∀ x∈bs,0≤x∧x<256):Calls Tryz.prog 89 #[.int .u8 11,bv] w fun x w'=>RReadPost 11 bs w x w':=(rread9_any_ B bv bs w hb hB hn h8).2.2
set_option maxHeartbeats 8000000 in
theorem rread2_any (B:Nat) (bv:Value) (bs:List Int) (w:World) (hb:Sl w B 1 bv bs.length (bs.map u8c)) (hB:B≤w.heap.size) (hn:bs.length≤1000000) (h8:∀ x∈bs,0≤x∧x<256):Calls Tryz.prog 89 #[.int .u8 2,bv] w fun x w'=>RReadPost 2 bs w x w':=by
 have hb0:=hb
 obtain ⟨-,A,c,rfl,hc1,hc2,hA0⟩:=id hb
 have q0:Blk ((w.alloc (.cells #[.int .u8 0,.slice none 0 0,.int .u32 0,.slice none 0 0,.int .u32 0,.bool false,.int .u32 0,.int .u32 0,.slice none 0 0] 81)).alloc (.cells #[.int .u8 0,.slice none 0 0,.int .u32 0,.slice none 0 0,.int .u32 0,.bool false,.int .u32 0,.int .u32 0,.slice none 0 0] 81)) w.heap.size 81 #[.int .u8 0,.slice none 0 0,.int .u32 0,.slice none 0 0,.int .u32 0,.bool false,.int .u32 0,.int .u32 0,.slice none 0 0]:=(Blk.new _ _ _).alloc _
 have q1:Blk ((w.alloc (.cells #[.int .u8 0,.slice none 0 0,.int .u32 0,.slice none 0 0,.int .u32 0,.bool false,.int .u32 0,.int .u32 0,.slice none 0 0] 81)).alloc (.cells #[.int .u8 0,.slice none 0 0,.int .u32 0,.slice none 0 0,.int .u32 0,.bool false,.int .u32 0,.int .u32 0,.slice none 0 0] 81)) (w.heap.size+1) 81 #[.int .u8 0,.slice none 0 0,.int .u32 0,.slice none 0 0,.int .u32 0,.bool false,.int .u32 0,.int .u32 0,.slice none 0 0]:=heap_alloc2_new w _ _
 have qB:Below w.heap.size w ((w.alloc (.cells #[.int .u8 0,.slice none 0 0,.int .u32 0,.slice none 0 0,.int .u32 0,.bool false,.int .u32 0,.int .u32 0,.slice none 0 0] 81)).alloc (.cells #[.int .u8 0,.slice none 0 0,.int .u32 0,.slice none 0 0,.int .u32 0,.bool false,.int .u32 0,.int .u32 0,.slice none 0 0] 81)):=((Below.refl _ _).alloc (Nat.le_refl _) _).alloc (by simp) _
 go_enter Tryz.func89,Tryz.ntmps89
 go_upto_region 2 with fail
 generalize (w.alloc (.cells #[.int .u8 0,.slice none 0 0,.int .u32 0,.slice none 0 0,.int .u32 0,.bool false,.int .u32 0,.int .u32 0,.slice none 0 0] 81)).alloc (.cells #[.int .u8 0,.slice none 0 0,.int .u32 0,.slice none 0 0,.int .u32 0,.bool false,.int .u32 0,.int .u32 0,.slice none 0 0] 81)=w1 at q0 q1 qB ⊢
 have hb1:=hb0.below (qB.mono hB)
 have hbw:=hb0
 clear hb hb0
 have zg:=q1.lt
 obtain ⟨g,hg⟩:∃ g,g=w.heap.size+1:=⟨_,rfl⟩
 rw[←hg] at q1 zg ⊢
 have hgw:w.heap.size<g:=by omega
 clear hg
 have hmix:(Tryz.prog).follows .mixedOrders=true:=by kernel_rfl
 by_cases hl:bs.length<4
 ·have nl:decide ((bs.length:Int)<4)=true:=decide_eq_true (by omega)
  go_wp2_with (first
   | (refine wpList_load_row rfl 81 (.tmp 6) rfl g rfl 81 #[.int .u8 0,.slice none 0 0,.int .u32 0,.slice none 0 0,.int .u32 0,.bool false,.int .u32 0,.int .u32 0,.slice none 0 0] (0,0) _ q1 Tryz.underlying81 rfl (by kernel_rfl) ?_)
   | (refine wpList_store_row rfl 81 (.tmp 4) (.tmp 69) rfl w.heap.size #[.int .u8 0,.slice none 0 0,.int .u32 0,.slice none 0 0,.int .u32 0,.bool false,.int .u32 0,.int .u32 0,.slice none 0 0] rfl rfl 81 #[.int .u8 0,.slice none 0 0,.int .u32 0,.slice none 0 0,.int .u32 0,.bool false,.int .u32 0,.int .u32 0,.slice none 0 0] q0 (by kernel_rfl) rfl (by simp[Value.oneCell']) ?_))
  have hset:Blk (w1.setRow w.heap.size #[.int .u8 0,.slice none 0 0,.int .u32 0,.slice none 0 0,.int .u32 0,.bool false,.int .u32 0,.int .u32 0,.slice none 0 0]) w.heap.size 81 #[.int .u8 0,.slice none 0 0,.int .u32 0,.slice none 0 0,.int .u32 0,.bool false,.int .u32 0,.int .u32 0,.slice none 0 0]:=setRow_heap w1 w.heap.size #[.int .u8 0,.slice none 0 0,.int .u32 0,.slice none 0 0,.int .u32 0,.bool false,.int .u32 0,.int .u32 0,.slice none 0 0] #[.int .u8 0,.slice none 0 0,.int .u32 0,.slice none 0 0,.int .u32 0,.bool false,.int .u32 0,.int .u32 0,.slice none 0 0] 81 (0,0) q0
  have hB3:Below w.heap.size w1 (w1.setRow w.heap.size #[.int .u8 0,.slice none 0 0,.int .u32 0,.slice none 0 0,.int .u32 0,.bool false,.int .u32 0,.int .u32 0,.slice none 0 0]):=⟨rfl,rfl,rfl,by simp[World.setRow],fun k hk=>setRow_other _ _ k _ (by omega)⟩
  refine bodyPost_ret (results_cell_tmp_row rfl _ _ w.heap.size 81 #[.int .u8 0,.slice none 0 0,.int .u32 0,.slice none 0 0,.int .u32 0,.bool false,.int .u32 0,.int .u32 0,.slice none 0 0] (0,0) _ rfl hset Tryz.underlying81 rfl (by kernel_rfl)) rfl ?_
  refine ⟨_,false,zeroB,rfl,BodyAt.zero _ _,by simp[fitR];omega,?_,qB.trans hB3⟩
  intro h
  cases h
 ·have nl:decide ((bs.length:Int)<4)=false:=decide_eq_false (by omega)
  go_upto_region 15 with fail
  have hS1:=hb1.take (k:=4) (by omega)
  rw[Nat.mul_one,←List.map_take] at hS1
  have CN1:=rnumber_any B (.slice A 4 c) (bs.take 4) w1 (by rw[show (bs.take 4).length=4 from (by rw[List.length_take];omega)];exact hS1) (by rw[show (bs.take 4).length=4 from (by rw[List.length_take];omega)];omega) (fun x hx=>h8 x (List.mem_of_mem_take hx))
  obtain ⟨m,hm⟩:∃ x,x=numB (bs.take 4):=⟨_,rfl⟩
  rw[←hm] at CN1
  replace hm:=h'd hm
  replace CN1:=h'd CN1
  clear hS1
  have f2:=q1.free 2
  have p2:=q1.cell 2
  simp only[q'a,q'z,q's] at p2
  go_upto_region 17 with (go_at_call 127;with_reducible refine Calls.mono CN1.out ?_;rintro x w2 ⟨rfl,hww⟩;subst hww)
  have q1:=q1.set_ 2 (.int .u32 m)
  simp only[s'a,s'z,s's] at q1
  have q0:=q0.far (p:=⟨g,2,none⟩) (by simp;omega) (.int .u32 m)
  have qB:=qB.setCell (p:=⟨g,2,none⟩) (by simp;omega) (.int .u32 m)
  have hb1:=hb1.below (((Below.refl g _).setCell (p:=⟨g,2,none⟩) (Nat.le_refl _) (.int .u32 m)).mono (by omega))
  clear CN1
  clear f2 p2
  generalize World.setCell _ ⟨g,2,none⟩ (.int .u32 m)=w1 at q0 q1 qB hb1 ⊢
  clear hA0
  go_loopg [8] ((bs.length-4) / 4) (fun mm iv wr=>∃ (k a:Nat) (A2:Option Addr) (c2:Nat),a=4+4*k∧a≤bs.length∧mm=(bs.length-4) / 4-k∧iv=.int .i64 (a:Int)∧Blk wr g 81 #[.int .u8 0,.slice none 0 0,.int .u32 m,.slice A2 k c2,.int .u32 0,.bool false,.int .u32 0,.int .u32 0,.slice none 0 0]∧wr.ownsRow w.heap.size 23 1 (.slice A2 k c2) k ((wordsOf bs k).map u32c)∧(∃ cs,Blk wr w.heap.size 81 cs∧cs = #[.int .u8 0,.slice none 0 0,.int .u32 0,.slice none 0 0,.int .u32 0,.bool false,.int .u32 0,.int .u32 0,.slice none 0 0])∧Below w.heap.size w wr)
  case atStart=>exact ⟨0,4,none,0,rfl,by omega,rfl,rfl,q1,World.ownsRow_nil _ _ _ _,⟨_,q0,rfl⟩,qB⟩
  case round =>
   obtain ⟨k,a,A2,c2,hak,hal,rfl,rfl,hb,ho,⟨cs0,hb0,rfl⟩,hBr⟩:=hrel
   obtain ⟨w3,rfl⟩:∃ x:World,x=wr:=⟨_,rfl⟩
   clear q0 q1 qB hb1 zg
   have hbs:=hbw.below (hBr.mono hB)
   have hwa:wrap64 ((a:Int)+4)=(a:Int)+4:=by unfold wrap64;omega
   by_cases hgo:a+4≤bs.length
   ·have hgo2:decide ((a:Int)+4≤(bs.length:Int))=true:=decide_eq_true (by omega)
    obtain ⟨v1,hv10,hs1⟩:=lh_ex u8T A bs.length c a (a+4) (by omega) hgo hc1
    have hv1:∀ W,(Instr.sliceAt 69 (.slice A bs.length c) (some (.int .i64 (a:Int))) (some (.int .i64 ((a:Int)+4))) none).run Tryz.prog W=.ok v1 W:=hv10
    clear hv10
    have hS1:=hs1 w3.drew B _ hbs
    simp only[Nat.mul_one] at hS1
    rw[←List.map_drop,←List.map_take,show a+4-a=4 by omega] at hS1
    have hl4:((bs.drop a).take 4).length=4:=by rw[List.length_take,List.length_drop];omega
    have CN1:=rnumber_any B v1 ((bs.drop a).take 4) w3.drew (by rw[hl4];exact hS1) (by omega) (fun x hx=>h8 x (List.mem_of_mem_drop (List.mem_of_mem_take hx)))
    have hsu:=wordsOf_succ bs k
    rw[←hak] at hsu
    obtain ⟨x1,hx1⟩:∃ x,x=numB ((bs.drop a).take 4):=⟨_,rfl⟩
    rw[←hx1] at CN1 hsu
    clear hx1 hs1 hS1 hl4
    have hkb:k≤1000000:=by omega
    have zg:=hb.lt
    have z0:=hb0.lt
    replace hsu:=h'd hsu
    have hakh:=h'd hak
    have halh:=h'd hgo
    have hcl1:=h'd hc1
    clear hak hal hgo
    clear hc1
    go_upto_region 19 with fail
    rw[hwa]
    obtain ⟨w1,hw1⟩:∃ x:World,x=w3.drew:=⟨_,rfl⟩
    rw[←hw1] at CN1
    have q1:Blk w1 g 81 #[.int .u8 0,.slice none 0 0,.int .u32 m,.slice A2 k c2,.int .u32 0,.bool false,.int .u32 0,.int .u32 0,.slice none 0 0]:=by rw[hw1];exact hb
    have ho1:w1.ownsRow w.heap.size 23 1 (.slice A2 k c2) k ((wordsOf bs k).map u32c):=by rw[hw1];exact ho.drew
    have q0:Blk w1 w.heap.size 81 #[.int .u8 0,.slice none 0 0,.int .u32 0,.slice none 0 0,.int .u32 0,.bool false,.int .u32 0,.int .u32 0,.slice none 0 0]:=by rw[hw1];exact hb0
    have qB:Below w.heap.size w w1:=by rw[hw1];exact hBr.drew
    have zw1:=q0.lt
    have zw2:=q1.lt
    clear zg z0
    replace CN1:=h'd CN1
    replace hw1:=h'd hw1
    clear hb ho hb0 hBr hbs
    obtain ⟨xs,hxs⟩:∃ xs,xs=(wordsOf bs k).map u32c:=⟨_,rfl⟩
    rw[←hxs] at ho1
    replace hxs:=h'd hxs
    refine wp_region_all [some 81,some 82,some 83,some 84,some 85,some 86,some 87,some 88,some 89,some 90,some 91,none] (AppAll [some (.pointer (some ⟨g,3,none⟩)),some (.slice A2 k c2),some (.slice A bs.length c),some (.int .i64 (a:Int)),some (.int .i64 (a:Int)),some (.int .i64 ((a:Int)+4)),some (v1),some (.int .u32 x1),some (.slice (some ⟨w1.heap.size,0,none⟩) 1 1),none,some (.pointer (some ⟨g,3,none⟩)),none] 8 9 11 w1 (w1.alloc (.cells #[.int .u32 x1] 23)) (fun v W=>∃ (A9:Option Addr) (c9:Nat),v=.slice A9 (k+1) c9∧W.ownsRow w.heap.size 23 1 (.slice A9 (k+1) c9) (k+1) (xs++[.int .u32 x1])∧(w1.alloc (.cells #[.int .u32 x1] 23)).grownBy W (.slice A2 k c2:Value).ownBlock) (fun W=>∃ (A9:Option Addr) (c9:Nat) (Wz:World),Wz.ownsRow w.heap.size 23 1 (.slice A9 (k+1) c9) (k+1) (xs++[.int .u32 x1])∧(w1.alloc (.cells #[.int .u32 x1] 23)).grownBy Wz (.slice A2 k c2:Value).ownBlock∧W=Wz.setCell ⟨g,3,none⟩ (.slice A9 (k+1) c9))) hmix (by kernel_rfl) rfl (by decide) (fun t=>by rw[←hw1.out];exact AppAll.start) ?_ ?_
    ·intro done t W a' hI ha hcl j1 hlt hni hd
     simp only[putFrom,Act.put,Nat.reduceAdd,s'a,s'z,s's] at ha
     subst ha
     replace hlt:j1<12:=hlt
     rcases (show j1=0∨j1=1∨j1=2∨j1=3∨j1=4∨j1=5∨j1=6∨j1=7∨j1=8∨j1=9∨j1=10∨j1=11 by omega) with rfl | rfl | rfl | rfl | rfl | rfl | rfl | rfl | rfl | rfl | rfl | rfl
     ·refine w'k rfl fun K' hK => ?_
      have hI0:=h'd hI
      clear hI hcl hd
      go_wp2
      exact hK.out _ _ ⟨_,rfl,hI0.out.pure 0 _ (by decide) (by decide) (by decide) (fun u hu=>o'i (o'i hu))⟩
     ·rw[hI.known 0 _ (hd 0 (by kernel_rfl)) rfl]
      have n9:done 9=false:=by
       cases h:done 9 with
       | false=>rfl
       | true =>
        have h9_1:=hcl 9 1 h (by kernel_rfl)
        exact absurd h9_1 (by rw[hni];exact Bool.false_ne_true)
      have hWW:W=w1∨W=(w1.alloc (.cells #[.int .u32 x1] 23)):=by
       cases h:done 8 with
       | false=>exact .inl (hI.none_ h)
       | true=>exact .inr (hI.built h n9)
      have y3:W.cell? ⟨g,3,none⟩=some (.slice A2 k c2):=by
       rcases hWW with rfl | rfl
       ·exact q1.cell 3
       ·exact (q1.alloc (.cells #[.int .u32 x1] 23)).cell 3
      replace hWW:=h'd hWW
      refine w'k rfl fun K' hK => ?_
      have hI0:=h'd hI
      clear hI hcl hd
      go_wp2
      exact hK.out _ _ ⟨_,rfl,hI0.out.pure 1 _ (by decide) (by decide) (by decide) (fun u hu=>o'i (o'i hu))⟩
     ·refine w'k rfl fun K' hK => ?_
      have hI0:=h'd hI
      clear hI hcl hd
      go_wp2
      exact hK.out _ _ ⟨_,rfl,hI0.out.pure 2 _ (by decide) (by decide) (by decide) (fun u hu=>o'i (o'i hu))⟩
     ·refine w'k rfl fun K' hK => ?_
      have hI0:=h'd hI
      clear hI hcl hd
      go_wp2
      exact hK.out _ _ ⟨_,rfl,hI0.out.pure 3 _ (by decide) (by decide) (by decide) (fun u hu=>o'i (o'i hu))⟩
     ·refine w'k rfl fun K' hK => ?_
      have hI0:=h'd hI
      clear hI hcl hd
      go_wp2
      exact hK.out _ _ ⟨_,rfl,hI0.out.pure 4 _ (by decide) (by decide) (by decide) (fun u hu=>o'i (o'i hu))⟩
     ·rw[hI.known 4 _ (hd 4 (by kernel_rfl)) rfl]
      refine w'k rfl fun K' hK => ?_
      have hI0:=h'd hI
      clear hI hcl hd
      go_wp2
      exact hK.out _ _ ⟨_,rfl,hI0.out.pure 5 _ (by decide) (by decide) (by decide) (fun u hu=>o'i (o'i hu))⟩
     ·rw[hI.known 2 _ (hd 2 (by kernel_rfl)) rfl]
      rw[hI.known 3 _ (hd 3 (by kernel_rfl)) rfl]
      rw[hI.known 5 _ (hd 5 (by kernel_rfl)) rfl]
      refine w'k rfl fun K' hK => ?_
      have hI0:=h'd hI
      clear hI hcl hd
      go_wp2
      exact hK.out _ _ ⟨_,rfl,hI0.out.pure 6 _ (by decide) (by decide) (by decide) (fun u hu=>o'i (o'i hu))⟩
     ·rw[hI.known 6 _ (hd 6 (by kernel_rfl)) rfl]
      have n8:done 8=false:=by
       cases h:done 8 with
       | false=>rfl
       | true =>
        have h8_7:=hcl 8 7 h (by kernel_rfl)
        exact absurd h8_7 (by rw[hni];exact Bool.false_ne_true)
      obtain rfl:W=w1:=hI.none_ n8
      refine w'k rfl fun K' hK => ?_
      have hI0:=h'd hI
      clear hI hcl hd
      go_wp2_with (go_at_call 127;refine Calls.mono CN1.out ?_;rintro x w9 ⟨rfl,hww⟩;subst hww)
      exact hK.out _ _ ⟨_,rfl,hI0.out.pure 7 _ (by decide) (by decide) (by decide) (fun u hu=>o'i (o'i hu))⟩
     ·rw[hI.known 7 _ (hd 7 (by kernel_rfl)) rfl]
      have n9:done 9=false:=by
       cases h:done 9 with
       | false=>rfl
       | true =>
        have h9_8:=hcl 9 8 h (by kernel_rfl)
        exact absurd h9_8 (by rw[hni];exact Bool.false_ne_true)
      have n11:done 11=false:=by
       cases h:done 11 with
       | false=>rfl
       | true =>
        have h11_9:=hcl 11 9 h (by kernel_rfl)
        have h9_8:=hcl 9 8 h11_9 (by kernel_rfl)
        exact absurd h9_8 (by rw[hni];exact Bool.false_ne_true)
      obtain rfl:W=w1:=hI.none_ hni
      refine w'k rfl fun K' hK => ?_
      have hI0:=h'd hI
      clear hI hcl hd
      go_wp2
      exact hK.out _ _ ⟨_,rfl,hI0.out.build _ (by decide) (by decide) n9 n11 (fun u hu=>o'i (o'i hu))⟩
     ·rw[hI.known 1 _ (hd 1 (by kernel_rfl)) rfl]
      rw[hI.known 8 _ (hd 8 (by kernel_rfl)) rfl]
      have n11:done 11=false:=by
       cases h:done 11 with
       | false=>rfl
       | true =>
        have h11_9:=hcl 11 9 h (by kernel_rfl)
        exact absurd h11_9 (by rw[hni];exact Bool.false_ne_true)
      have hdB:=hd 8 (by kernel_rfl)
      obtain rfl:W=(w1.alloc (.cells #[.int .u32 x1] 23)):=hI.built hdB hni
      refine w'k rfl fun K' hK => ?_
      have hI0:=h'd hI
      clear hI hcl hd
      split
      ·refine wp_append (.tmp 82) (.tmp 89) 76 rfl w.heap.size wordT (.slice A2 k c2) k (xs) rfl (own_alloc ho1 _) _ _ 1 ([.int .u32 x1]) rfl (Sl.lit w1 #[.int .u32 x1] 23 (by simp[maxLen]) rfl) (by simp[Value.oneCell']) (by simp only[maxLen];omega) (by omega) (by simp;omega) ?_
       intro v6 w6 ho6 hg6 hb6
       obtain ⟨-,A9,c9,rfl,-⟩:=id (Sl.of_own ho6)
       exact hK.out _ _ ⟨_,rfl,hI0.out.append _ (by decide) (by decide) hdB n11 (fun u hu=>by cases hu) ⟨A9,c9,rfl,ho6,hg6⟩⟩
      ·rename_i hno
       exact absurd rfl hno
     ·refine w'k rfl fun K' hK => ?_
      have hI0:=h'd hI
      clear hI hcl hd
      go_wp2
      exact hK.out _ _ ⟨_,rfl,hI0.out.pure 10 _ (by decide) (by decide) (by decide) (fun u hu=>o'i (o'i hu))⟩
     ·rw[hI.known 10 _ (hd 10 (by kernel_rfl)) rfl]
      obtain ⟨A9,c9,d9,ho9,hg9⟩:=hI.app (hd 9 (by kernel_rfl)) hni
      rw[d9]
      have hdJ:=hd 9 (by kernel_rfl)
      have hdB:=hcl 9 8 hdJ (by kernel_rfl)
      have r1:Blk W g 81 #[.int .u8 0,.slice none 0 0,.int .u32 m,.slice A2 k c2,.int .u32 0,.bool false,.int .u32 0,.int .u32 0,.slice none 0 0]:=(q1.alloc (.cells #[.int .u32 x1] 23)).same (hg9.block g (q1.alloc (.cells #[.int .u32 x1] 23)).lt fun e=>own_ne8 (own_alloc ho1 (.cells #[.int .u32 x1] 23)) (q1.alloc (.cells #[.int .u32 x1] 23)) (by decide) g e.symm rfl)
      have f3:=r1.free 3
      have y3:=r1.cell 3
      simp only[q'a,q'z,q's] at y3
      replace ho9:=h'd ho9
      replace hg9:=h'd hg9
      replace r1:=h'd r1
      refine w'k rfl fun K' hK => ?_
      have hI0:=h'd hI
      clear hI hcl hd
      go_wp2
      exact hK.out _ _ ⟨undef,rfl,hI0.out.store _ (by decide) (by decide) hdB hdJ (fun u hu=>by cases hu) ⟨A9,c9,_,ho9,hg9,rfl⟩⟩
    ·intro done t W a' hI hall ha
     simp only[putFrom,Act.put,Nat.reduceAdd,s'a,s'z,s's] at ha
     subst ha
     obtain ⟨A9,c9,Wz,ho9,hg9,rfl⟩:=hI.stored (hall 11 (by decide))
     clear hI hall
     have r1:Blk Wz g 81 #[.int .u8 0,.slice none 0 0,.int .u32 m,.slice A2 k c2,.int .u32 0,.bool false,.int .u32 0,.int .u32 0,.slice none 0 0]:=(q1.alloc (.cells #[.int .u32 x1] 23)).same (hg9.block g (q1.alloc (.cells #[.int .u32 x1] 23)).lt fun e=>own_ne8 (own_alloc ho1 (.cells #[.int .u32 x1] 23)) (q1.alloc (.cells #[.int .u32 x1] 23)) (by decide) g e.symm rfl)
     have r0:Blk Wz w.heap.size 81 #[.int .u8 0,.slice none 0 0,.int .u32 0,.slice none 0 0,.int .u32 0,.bool false,.int .u32 0,.int .u32 0,.slice none 0 0]:=(q0.alloc (.cells #[.int .u32 x1] 23)).same (hg9.block _ (q0.alloc (.cells #[.int .u32 x1] 23)).lt fun e=>own_ne8 (own_alloc ho1 (.cells #[.int .u32 x1] 23)) (q0.alloc (.cells #[.int .u32 x1] 23)) (by decide) _ e.symm rfl)
     have rB:Below w.heap.size w Wz:=(below_alloc qB (Nat.le_refl _) _).trans (below_of_grown hg9 (by simp;omega) fun j hj=>(ho1.lt j hj).1)
     have hs2:=r1.set_ 3 (.slice A9 (k+1) c9)
     simp only[s'a,s'z,s's] at hs2
     have ho10:=own_same ho9 fun j hj=>Below.heap_setCell Wz ⟨g,3,none⟩ (.slice A9 (k+1) c9) j (own_ne8 ho9 r1 (by decide) j hj)
     have rest:=(r0.far (p:=⟨g,3,none⟩) (by simp;omega) (.slice A9 (k+1) c9))
     have restB:=rB.setCell (p:=⟨g,3,none⟩) (by simp;omega) (.slice A9 (k+1) c9)
     rw[hxs.out] at ho10
     replace ho10:=h'd ho10
     replace hs2:=h'd hs2
     replace rest:=h'd rest
     replace restB:=h'd restB
     clear r1 r0 rB ho9 hg9 q0 q1 qB ho1 CN1
     generalize Wz.setCell ⟨g,3,none⟩ (.slice A9 (k+1) c9)=wn at hs2 ho10 rest restB ⊢
     have hwa2:wrap64 ((a:Int)+4)=(a:Int)+4:=hwa
     go_wp2_with fail
     go_roundg ((bs.length-4) / 4-(k+1))
     case measure=>exact lp_m4 hakh.out halh.out
     case rel =>
      have h1:=halh.out
      have h2:=hakh.out
      have e1:=lp_e4 h2
      refine ⟨k+1,a+4,A9,c9,e1,h1,rfl,by go_num,hs2.out,?_,⟨_,rest.out,rfl⟩,restB.out⟩
      have h3:=ho10.out
      rw[hsu.out,List.map_append]
      exact h3
   ·have hgo2:decide ((a:Int)+4≤(bs.length:Int))=false:=decide_eq_false (by omega)
    have hlen:=wordsOf_len bs k
    replace hlen:=h'd hlen
    have hak2:=h'd hak
    have hal2:=h'd hal
    have hgo3:=h'd hgo
    clear hak hal hgo
    go_wp2_with (first
     | (refine wpList_load_row rfl 81 (.tmp 6) rfl g rfl 81 #[.int .u8 0,.slice none 0 0,.int .u32 m,.slice A2 k c2,.int .u32 0,.bool false,.int .u32 0,.int .u32 0,.slice none 0 0] (0,0) _ hb Tryz.underlying81 rfl (by kernel_rfl) ?_)
     | (refine wpList_store_row rfl 81 (.tmp 4) (.tmp 135) rfl w.heap.size #[.int .u8 0,.slice none 0 0,.int .u32 m,.slice A2 k c2,.int .u32 0,.bool false,.int .u32 0,.int .u32 0,.slice none 0 0] rfl rfl 81 #[.int .u8 0,.slice none 0 0,.int .u32 0,.slice none 0 0,.int .u32 0,.bool false,.int .u32 0,.int .u32 0,.slice none 0 0] hb0 (by kernel_rfl) rfl (by simp[Value.oneCell']) ?_))
    have hset:Blk (w3.setRow w.heap.size #[.int .u8 0,.slice none 0 0,.int .u32 m,.slice A2 k c2,.int .u32 0,.bool false,.int .u32 0,.int .u32 0,.slice none 0 0]) w.heap.size 81 #[.int .u8 0,.slice none 0 0,.int .u32 m,.slice A2 k c2,.int .u32 0,.bool false,.int .u32 0,.int .u32 0,.slice none 0 0]:=setRow_heap w3 w.heap.size #[.int .u8 0,.slice none 0 0,.int .u32 0,.slice none 0 0,.int .u32 0,.bool false,.int .u32 0,.int .u32 0,.slice none 0 0] #[.int .u8 0,.slice none 0 0,.int .u32 m,.slice A2 k c2,.int .u32 0,.bool false,.int .u32 0,.int .u32 0,.slice none 0 0] 81 (0,0) hb0
    have hB3:Below w.heap.size w3 (w3.setRow w.heap.size #[.int .u8 0,.slice none 0 0,.int .u32 m,.slice A2 k c2,.int .u32 0,.bool false,.int .u32 0,.int .u32 0,.slice none 0 0]):=⟨rfl,rfl,rfl,by simp[World.setRow],fun k hk=>setRow_other _ _ k _ (by omega)⟩
    refine bodyPost_ret (results_cell_tmp_row rfl _ _ w.heap.size 81 #[.int .u8 0,.slice none 0 0,.int .u32 m,.slice A2 k c2,.int .u32 0,.bool false,.int .u32 0,.int .u32 0,.slice none 0 0] (0,0) _ rfl hset Tryz.underlying81 rfl (by kernel_rfl)) rfl ?_
    refine ⟨_,true,⟨0,[],m,wordsOf bs k,0,false,0,0,[]⟩,rfl,⟨none,0,A2,c2,none,0,by rw[hlen.out];rfl,World.ownsRow_nil _ _ _ _,by rw[hlen.out];exact own_same ho fun j hj=>setRow_other _ _ j _ (own_ne8 ho hb0 (by decide) j hj),World.ownsRow_nil _ _ _ _⟩,by simp[fitR];omega,?_,hBr.trans hB3⟩
    intro _
    have h1:=hak2.out
    have h2:=hal2.out
    have h3:=hgo3.out
    rw[hm.out]
    show _=readP 2 bs
    unfold readP
    rw[if_neg (by omega),if_pos rfl,show (bs.length-4) / 4=k by omega]
    rfl
set_option maxRecDepth 100000
set_option maxHeartbeats 8000000 in
theorem rread1_any (B:Nat) (bv:Value) (bs:List Int) (w:World) (hb:Sl w B 1 bv bs.length (bs.map u8c)) (hB:B≤w.heap.size) (hn:bs.length≤1000000) (h8:∀ x∈bs,0≤x∧x<256):Calls Tryz.prog 89 #[.int .u8 1,bv] w fun x w'=>RReadPost 1 bs w x w':=by
 have hb0:=hb
 obtain ⟨-,A,c,rfl,hc1,hc2,hA0⟩:=id hb
 have q0:Blk ((w.alloc (.cells #[.int .u8 0,.slice none 0 0,.int .u32 0,.slice none 0 0,.int .u32 0,.bool false,.int .u32 0,.int .u32 0,.slice none 0 0] 81)).alloc (.cells #[.int .u8 0,.slice none 0 0,.int .u32 0,.slice none 0 0,.int .u32 0,.bool false,.int .u32 0,.int .u32 0,.slice none 0 0] 81)) w.heap.size 81 #[.int .u8 0,.slice none 0 0,.int .u32 0,.slice none 0 0,.int .u32 0,.bool false,.int .u32 0,.int .u32 0,.slice none 0 0]:=(Blk.new _ _ _).alloc _
 have q1:Blk ((w.alloc (.cells #[.int .u8 0,.slice none 0 0,.int .u32 0,.slice none 0 0,.int .u32 0,.bool false,.int .u32 0,.int .u32 0,.slice none 0 0] 81)).alloc (.cells #[.int .u8 0,.slice none 0 0,.int .u32 0,.slice none 0 0,.int .u32 0,.bool false,.int .u32 0,.int .u32 0,.slice none 0 0] 81)) (w.heap.size+1) 81 #[.int .u8 0,.slice none 0 0,.int .u32 0,.slice none 0 0,.int .u32 0,.bool false,.int .u32 0,.int .u32 0,.slice none 0 0]:=heap_alloc2_new w _ _
 have qB:Below w.heap.size w ((w.alloc (.cells #[.int .u8 0,.slice none 0 0,.int .u32 0,.slice none 0 0,.int .u32 0,.bool false,.int .u32 0,.int .u32 0,.slice none 0 0] 81)).alloc (.cells #[.int .u8 0,.slice none 0 0,.int .u32 0,.slice none 0 0,.int .u32 0,.bool false,.int .u32 0,.int .u32 0,.slice none 0 0] 81)):=((Below.refl _ _).alloc (Nat.le_refl _) _).alloc (by simp) _
 go_enter Tryz.func89,Tryz.ntmps89
 go_upto_region 2 with fail
 generalize (w.alloc (.cells #[.int .u8 0,.slice none 0 0,.int .u32 0,.slice none 0 0,.int .u32 0,.bool false,.int .u32 0,.int .u32 0,.slice none 0 0] 81)).alloc (.cells #[.int .u8 0,.slice none 0 0,.int .u32 0,.slice none 0 0,.int .u32 0,.bool false,.int .u32 0,.int .u32 0,.slice none 0 0] 81)=w1 at q0 q1 qB ⊢
 have hb1:=hb0.below (qB.mono hB)
 have hbw:=hb0
 clear hb hb0
 have zg:=q1.lt
 obtain ⟨g,hg⟩:∃ g,g=w.heap.size+1:=⟨_,rfl⟩
 rw[←hg] at q1 zg ⊢
 have hgw:w.heap.size<g:=by omega
 clear hg
 have hmix:(Tryz.prog).follows .mixedOrders=true:=by kernel_rfl
 by_cases hl:bs.length<4
 ·have nl:decide ((bs.length:Int)<4)=true:=decide_eq_true (by omega)
  go_wp2_with (first
   | (refine wpList_load_row rfl 81 (.tmp 6) rfl g rfl 81 #[.int .u8 0,.slice none 0 0,.int .u32 0,.slice none 0 0,.int .u32 0,.bool false,.int .u32 0,.int .u32 0,.slice none 0 0] (0,0) _ q1 Tryz.underlying81 rfl (by kernel_rfl) ?_)
   | (refine wpList_store_row rfl 81 (.tmp 4) (.tmp 20) rfl w.heap.size #[.int .u8 0,.slice none 0 0,.int .u32 0,.slice none 0 0,.int .u32 0,.bool false,.int .u32 0,.int .u32 0,.slice none 0 0] rfl rfl 81 #[.int .u8 0,.slice none 0 0,.int .u32 0,.slice none 0 0,.int .u32 0,.bool false,.int .u32 0,.int .u32 0,.slice none 0 0] q0 (by kernel_rfl) rfl (by simp[Value.oneCell']) ?_))
  have hset:Blk (w1.setRow w.heap.size #[.int .u8 0,.slice none 0 0,.int .u32 0,.slice none 0 0,.int .u32 0,.bool false,.int .u32 0,.int .u32 0,.slice none 0 0]) w.heap.size 81 #[.int .u8 0,.slice none 0 0,.int .u32 0,.slice none 0 0,.int .u32 0,.bool false,.int .u32 0,.int .u32 0,.slice none 0 0]:=setRow_heap w1 w.heap.size #[.int .u8 0,.slice none 0 0,.int .u32 0,.slice none 0 0,.int .u32 0,.bool false,.int .u32 0,.int .u32 0,.slice none 0 0] #[.int .u8 0,.slice none 0 0,.int .u32 0,.slice none 0 0,.int .u32 0,.bool false,.int .u32 0,.int .u32 0,.slice none 0 0] 81 (0,0) q0
  have hB3:Below w.heap.size w1 (w1.setRow w.heap.size #[.int .u8 0,.slice none 0 0,.int .u32 0,.slice none 0 0,.int .u32 0,.bool false,.int .u32 0,.int .u32 0,.slice none 0 0]):=⟨rfl,rfl,rfl,by simp[World.setRow],fun k hk=>setRow_other _ _ k _ (by omega)⟩
  refine bodyPost_ret (results_cell_tmp_row rfl _ _ w.heap.size 81 #[.int .u8 0,.slice none 0 0,.int .u32 0,.slice none 0 0,.int .u32 0,.bool false,.int .u32 0,.int .u32 0,.slice none 0 0] (0,0) _ rfl hset Tryz.underlying81 rfl (by kernel_rfl)) rfl ?_
  refine ⟨_,false,zeroB,rfl,BodyAt.zero _ _,by simp[fitR];omega,?_,qB.trans hB3⟩
  intro h
  cases h
 ·have nl:decide ((bs.length:Int)<4)=false:=decide_eq_false (by omega)
  obtain ⟨bb,off,hA,hbb,-⟩:=hA0 (by omega)
  clear hA0
  go_upto_region 7 with fail
  subst hA
  have hrw:∀ j u,(bs.map u8c)[j]?=some u→w1.cell? ⟨bb,off+j,none⟩=some u:=by
   obtain ⟨-,A2,c2,hv2,-,-,hA2⟩:=id hb1
   simp only[Value.slice.injEq] at hv2
   obtain ⟨hv3,-,-⟩:=hv2
   obtain ⟨b4,o4,hv4,hb4,hr4⟩:=hA2 (by omega)
   rw[←hv3] at hv4
   simp only[Option.some.injEq,Addr.mk.injEq,and_true] at hv4
   obtain ⟨rfl,rfl⟩:=hv4
   exact hr4
  have y1:w1.cell? ⟨bb,off,none⟩=some (.int .u8 bs[0]):=hrw 0 (.int .u8 bs[0]) (by rw[List.getElem?_map,List.getElem?_eq_getElem (by omega)];rfl)
  obtain ⟨y,hy⟩:∃ x,x=bs[0]:=⟨_,rfl⟩
  rw[←hy] at y1
  replace hy:=h'd hy
  have ix1:(0:Int)<(bs.length:Int):=by omega
  clear hrw
  have f0:=q1.free 0
  have p0:=q1.cell 0
  simp only[q'a,q'z] at p0
  go_upto_region 9 with fail
  have q1:=q1.set_ 0 (.int .u8 y)
  simp only[s'a,s'z] at q1
  have q0:=q0.far (p:=⟨g,0,none⟩) (by simp;omega) (.int .u8 y)
  have qB:=qB.setCell (p:=⟨g,0,none⟩) (by simp;omega) (.int .u8 y)
  have hb1:=hb1.below (((Below.refl g _).setCell (p:=⟨g,0,none⟩) (Nat.le_refl _) (.int .u8 y)).mono (by omega))
  clear y1
  clear f0 p0
  generalize World.setCell _ ⟨g,0,none⟩ (.int .u8 y)=w1 at q0 q1 qB hb1 ⊢
  go_loopg [7] ((bs.length-4) / 12) (fun mm iv wr=>∃ (k a:Nat) (A2:Option Addr) (c2:Nat),a=4+12*k∧a≤bs.length∧mm=(bs.length-4) / 12-k∧iv=.int .i64 (a:Int)∧Blk wr g 81 #[.int .u8 y,.slice A2 k c2,.int .u32 0,.slice none 0 0,.int .u32 0,.bool false,.int .u32 0,.int .u32 0,.slice none 0 0]∧wr.ownsRow w.heap.size 99 4 (.slice A2 k c2) k ((linksOf bs k).flatMap linkC)∧(∃ cs,Blk wr w.heap.size 81 cs∧cs = #[.int .u8 0,.slice none 0 0,.int .u32 0,.slice none 0 0,.int .u32 0,.bool false,.int .u32 0,.int .u32 0,.slice none 0 0])∧Below w.heap.size w wr)
  case atStart=>exact ⟨0,4,none,0,rfl,by omega,rfl,rfl,q1,World.ownsRow_nil _ _ _ _,⟨_,q0,rfl⟩,qB⟩
  case round =>
   obtain ⟨k,a,A2,c2,hak,hal,rfl,rfl,hb,ho,⟨cs0,hb0,rfl⟩,hBr⟩:=hrel
   obtain ⟨w3,rfl⟩:∃ x:World,x=wr:=⟨_,rfl⟩
   clear q0 q1 qB hb1 zg
   have hbs:=hbw.below (hBr.mono hB)
   have hwa:wrap64 ((a:Int)+12)=(a:Int)+12:=by unfold wrap64;omega
   by_cases hgo:a+12≤bs.length
   ·have hgo2:decide ((a:Int)+12≤(bs.length:Int))=true:=decide_eq_true (by omega)
    have hsu:=linksOf_succ bs k
    rw[←hak] at hsu
    obtain ⟨v1,hv10,hs1⟩:=lh_ex u8T (some ⟨bb,off,none⟩) bs.length c (a) (a+4) (by omega) (by omega) hc1
    have hv1:∀ W,(Instr.sliceAt 69 (.slice (some ⟨bb,off,none⟩) bs.length c) (some (.int .i64 ((a:Int)))) (some (.int .i64 ((a:Int)+4))) none).run Tryz.prog W=.ok v1 W:=hv10
    clear hv10
    have hS1:=hs1 w3.drew B _ hbs
    simp only[Nat.mul_one] at hS1
    rw[←List.map_drop,←List.map_take,show a+4-(a)=4 by omega] at hS1
    have hl1:((bs.drop a).take 4).length=4:=by rw[List.length_take,List.length_drop];omega
    have CN1:=rnumber_any B v1 ((bs.drop a).take 4) w3.drew (by rw[hl1];exact hS1) (by omega) (fun x hx=>h8 x (List.mem_of_mem_drop (List.mem_of_mem_take hx)))
    obtain ⟨x1,hx1⟩:∃ x,x=numB ((bs.drop a).take 4):=⟨_,rfl⟩
    rw[←hx1] at CN1
    clear hs1 hS1 hl1
    obtain ⟨v2,hv20,hs2⟩:=lh_ex u8T (some ⟨bb,off,none⟩) bs.length c (a+4) (a+8) (by omega) (by omega) hc1
    have hv2:∀ W,(Instr.sliceAt 69 (.slice (some ⟨bb,off,none⟩) bs.length c) (some (.int .i64 ((a:Int)+4))) (some (.int .i64 ((a:Int)+8))) none).run Tryz.prog W=.ok v2 W:=hv20
    clear hv20
    have hS2:=hs2 w3.drew B _ hbs
    simp only[Nat.mul_one] at hS2
    rw[←List.map_drop,←List.map_take,show a+8-(a+4)=4 by omega] at hS2
    have hl2:((bs.drop (a+4)).take 4).length=4:=by rw[List.length_take,List.length_drop];omega
    have CN2:=rnumber_any B v2 ((bs.drop (a+4)).take 4) w3.drew (by rw[hl2];exact hS2) (by omega) (fun x hx=>h8 x (List.mem_of_mem_drop (List.mem_of_mem_take hx)))
    obtain ⟨x2,hx2⟩:∃ x,x=numB ((bs.drop (a+4)).take 4):=⟨_,rfl⟩
    rw[←hx2] at CN2
    clear hs2 hS2 hl2
    obtain ⟨v3,hv30,hs3⟩:=lh_ex u8T (some ⟨bb,off,none⟩) bs.length c (a+10) (a+12) (by omega) (by omega) hc1
    have hv3:∀ W,(Instr.sliceAt 69 (.slice (some ⟨bb,off,none⟩) bs.length c) (some (.int .i64 ((a:Int)+10))) (some (.int .i64 ((a:Int)+12))) none).run Tryz.prog W=.ok v3 W:=hv30
    clear hv30
    have hS3:=hs3 w3.drew B _ hbs
    simp only[Nat.mul_one] at hS3
    rw[←List.map_drop,←List.map_take,show a+12-(a+10)=2 by omega] at hS3
    have hl3:((bs.drop (a+10)).take 2).length=2:=by rw[List.length_take,List.length_drop];omega
    have CN3:=rnumber_any B v3 ((bs.drop (a+10)).take 2) w3.drew (by rw[hl3];exact hS3) (by omega) (fun x hx=>h8 x (List.mem_of_mem_drop (List.mem_of_mem_take hx)))
    obtain ⟨x4,hx4⟩:∃ x,x=numB ((bs.drop (a+10)).take 2):=⟨_,rfl⟩
    rw[←hx4] at CN3
    clear hs3 hS3 hl3
    have hx4r:=takes_lt h8 (a+10) 2 (by omega)
    rw[←hx4] at hx4r
    have wx4:IntKind.u16.wrap x4=x4:=by rw[IntKind.wrap_u16];omega
    clear hx4r
    obtain ⟨x3,hx3⟩:∃ x,x=bs[a+8]:=⟨_,rfl⟩
    have hx3b:=numB_byte h8 (a+8) (by omega)
    rw[←hx3] at hx3b
    obtain ⟨-,A2x,c2x,hv2x,-,-,hA2x⟩:=id hbs
    simp only[Value.slice.injEq] at hv2x
    obtain ⟨hv3x,-,-⟩:=hv2x
    obtain ⟨b4,o4,hv4,hb4,hr4⟩:=hA2x (by omega)
    rw[←hv3x] at hv4
    simp only[Option.some.injEq,Addr.mk.injEq,and_true] at hv4
    obtain ⟨rfl,rfl⟩:=hv4
    have y8:w3.drew.cell? ⟨bb,off+(a+8),none⟩=some (.int .u8 x3):=by
     rw[hx3]
     exact hr4 (a+8) _ (by rw[List.getElem?_map,List.getElem?_eq_getElem (by omega)];rfl)
    clear hr4 hb4 hv3x hA2x
    have ix8:(a:Int)+8<(bs.length:Int):=by omega
    have hlk:linkOf (bs.drop a)=⟨x1,x2,x3,x4⟩:=by
     unfold linkOf
     simp only[List.drop_drop]
     rw[←hx1,←hx2,←hx4,hx3b]
    rw[hlk] at hsu
    clear hlk hx1 hx2 hx3 hx4 hx3b
    have hw4:wrap64 ((a:Int)+4)=(a:Int)+4:=by unfold wrap64;omega
    have hw8:wrap64 ((a:Int)+8)=(a:Int)+8:=by unfold wrap64;omega
    have hw10:wrap64 ((a:Int)+10)=(a:Int)+10:=by unfold wrap64;omega
    have hkb:k≤1000000:=by omega
    have zg:=hb.lt
    have z0:=hb0.lt
    replace hsu:=h'd hsu
    have hakh:=h'd hak
    have halh:=h'd hgo
    have hcl1:=h'd hc1
    clear hak hal hgo
    clear hc1
    go_upto_region 11 with fail
    rw[hwa]
    obtain ⟨w1,hw1⟩:∃ x:World,x=w3.drew:=⟨_,rfl⟩
    rw[←hw1] at CN1 CN2 CN3 y8
    have q1:Blk w1 g 81 #[.int .u8 y,.slice A2 k c2,.int .u32 0,.slice none 0 0,.int .u32 0,.bool false,.int .u32 0,.int .u32 0,.slice none 0 0]:=by rw[hw1];exact hb
    have ho1:w1.ownsRow w.heap.size 99 4 (.slice A2 k c2) k ((linksOf bs k).flatMap linkC):=by rw[hw1];exact ho.drew
    have q0:Blk w1 w.heap.size 81 #[.int .u8 0,.slice none 0 0,.int .u32 0,.slice none 0 0,.int .u32 0,.bool false,.int .u32 0,.int .u32 0,.slice none 0 0]:=by rw[hw1];exact hb0
    have qB:Below w.heap.size w w1:=by rw[hw1];exact hBr.drew
    have zw1:=q0.lt
    have zw2:=q1.lt
    clear zg z0
    replace CN1:=h'd CN1
    replace CN2:=h'd CN2
    replace CN3:=h'd CN3
    replace y8:=h'd y8
    replace ix8:=h'd ix8
    replace hw1:=h'd hw1
    clear hb ho hb0 hBr hbs
    obtain ⟨xs,hxs⟩:∃ xs,xs=(linksOf bs k).flatMap linkC:=⟨_,rfl⟩
    rw[←hxs] at ho1
    replace hxs:=h'd hxs
    refine wp_region_all [some 32,some 33,some 34,some 35,some 36,some 37,some 38,some 39,some 40,some 41,some 42,some 43,some 44,some 45,some 46,some 47,some 48,some 49,some 50,some 51,some 52,some 53,some 54,some 55,some 56,some 57,some 58,some 59,some 60,some 61,some 62,some 63,none] (AppAll [some (.pointer (some ⟨g,1,none⟩)),some (.slice A2 k c2),some (.slice (some ⟨bb,off,none⟩) bs.length c),some (.int .i64 (a:Int)),some (.int .i64 (a:Int)),some (.int .i64 ((a:Int)+4)),some (v1),some (.int .u32 x1),some (.slice (some ⟨bb,off,none⟩) bs.length c),some (.int .i64 (a:Int)),some (.int .i64 ((a:Int)+4)),some (.int .i64 (a:Int)),some (.int .i64 ((a:Int)+8)),some (v2),some (.int .u32 x2),some (.slice (some ⟨bb,off,none⟩) bs.length c),some (.int .i64 (a:Int)),some (.int .i64 ((a:Int)+8)),some (.pointer (some ⟨bb,off+(a+8),none⟩)),some (.int .u8 x3),some (.slice (some ⟨bb,off,none⟩) bs.length c),some (.int .i64 (a:Int)),some (.int .i64 ((a:Int)+10)),some (.int .i64 (a:Int)),some (.int .i64 ((a:Int)+12)),some (v3),some (.int .u32 x4),some (.int .u16 x4),some (.agg #[.int .u32 x1,.int .u32 x2,.int .u8 x3,.int .u16 x4]),some (.slice (some ⟨w1.heap.size,0,none⟩) 1 1),none,some (.pointer (some ⟨g,1,none⟩)),none] 29 30 32 w1 (w1.alloc (.cells #[.int .u32 x1,.int .u32 x2,.int .u8 x3,.int .u16 x4] 99)) (fun v W=>∃ (A9:Option Addr) (c9:Nat),v=.slice A9 (k+1) c9∧W.ownsRow w.heap.size 99 4 (.slice A9 (k+1) c9) (k+1) (xs++[.int .u32 x1,.int .u32 x2,.int .u8 x3,.int .u16 x4])∧(w1.alloc (.cells #[.int .u32 x1,.int .u32 x2,.int .u8 x3,.int .u16 x4] 99)).grownBy W (.slice A2 k c2:Value).ownBlock) (fun W=>∃ (A9:Option Addr) (c9:Nat) (Wz:World),Wz.ownsRow w.heap.size 99 4 (.slice A9 (k+1) c9) (k+1) (xs++[.int .u32 x1,.int .u32 x2,.int .u8 x3,.int .u16 x4])∧(w1.alloc (.cells #[.int .u32 x1,.int .u32 x2,.int .u8 x3,.int .u16 x4] 99)).grownBy Wz (.slice A2 k c2:Value).ownBlock∧W=Wz.setCell ⟨g,1,none⟩ (.slice A9 (k+1) c9))) hmix (by kernel_rfl) rfl (by decide) (fun t=>by rw[←hw1.out];exact AppAll.start) ?_ ?_
    ·intro done t W a' hI ha hcl j1 hlt hni hd
     simp only[putFrom,Act.put,Nat.reduceAdd,s'a,s'z,s's] at ha
     subst ha
     replace hlt:j1<33:=hlt
     rcases (show j1=0∨j1=1∨j1=2∨j1=3∨j1=4∨j1=5∨j1=6∨j1=7∨j1=8∨j1=9∨j1=10∨j1=11∨j1=12∨j1=13∨j1=14∨j1=15∨j1=16∨j1=17∨j1=18∨j1=19∨j1=20∨j1=21∨j1=22∨j1=23∨j1=24∨j1=25∨j1=26∨j1=27∨j1=28∨j1=29∨j1=30∨j1=31∨j1=32 by omega) with rfl | rfl | rfl | rfl | rfl | rfl | rfl | rfl | rfl | rfl | rfl | rfl | rfl | rfl | rfl | rfl | rfl | rfl | rfl | rfl | rfl | rfl | rfl | rfl | rfl | rfl | rfl | rfl | rfl | rfl | rfl | rfl | rfl
     ·refine w'k rfl fun K' hK => ?_
      have hI0:=h'd hI
      clear hI hcl hd
      go_wp2
      exact hK.out _ _ ⟨_,rfl,hI0.out.pure 0 _ (by decide) (by decide) (by decide) (fun u hu=>o'i (o'i hu))⟩
     ·rw[hI.known 0 _ (hd 0 (by kernel_rfl)) rfl]
      have n30:done 30=false:=by
       cases h:done 30 with
       | false=>rfl
       | true =>
        have h30_1:=hcl 30 1 h (by kernel_rfl)
        exact absurd h30_1 (by rw[hni];exact Bool.false_ne_true)
      have hWW:W=w1∨W=(w1.alloc (.cells #[.int .u32 x1,.int .u32 x2,.int .u8 x3,.int .u16 x4] 99)):=by
       cases h:done 29 with
       | false=>exact .inl (hI.none_ h)
       | true=>exact .inr (hI.built h n30)
      have y3:W.cell? ⟨g,1,none⟩=some (.slice A2 k c2):=by
       rcases hWW with rfl | rfl
       ·exact q1.cell 1
       ·exact (q1.alloc (.cells #[.int .u32 x1,.int .u32 x2,.int .u8 x3,.int .u16 x4] 99)).cell 1
      replace hWW:=h'd hWW
      refine w'k rfl fun K' hK => ?_
      have hI0:=h'd hI
      clear hI hcl hd
      go_wp2
      exact hK.out _ _ ⟨_,rfl,hI0.out.pure 1 _ (by decide) (by decide) (by decide) (fun u hu=>o'i (o'i hu))⟩
     ·refine w'k rfl fun K' hK => ?_
      have hI0:=h'd hI
      clear hI hcl hd
      go_wp2
      exact hK.out _ _ ⟨_,rfl,hI0.out.pure 2 _ (by decide) (by decide) (by decide) (fun u hu=>o'i (o'i hu))⟩
     ·refine w'k rfl fun K' hK => ?_
      have hI0:=h'd hI
      clear hI hcl hd
      go_wp2
      exact hK.out _ _ ⟨_,rfl,hI0.out.pure 3 _ (by decide) (by decide) (by decide) (fun u hu=>o'i (o'i hu))⟩
     ·refine w'k rfl fun K' hK => ?_
      have hI0:=h'd hI
      clear hI hcl hd
      go_wp2
      exact hK.out _ _ ⟨_,rfl,hI0.out.pure 4 _ (by decide) (by decide) (by decide) (fun u hu=>o'i (o'i hu))⟩
     ·rw[hI.known 4 _ (hd 4 (by kernel_rfl)) rfl]
      refine w'k rfl fun K' hK => ?_
      have hI0:=h'd hI
      clear hI hcl hd
      go_wp2
      exact hK.out _ _ ⟨_,rfl,hI0.out.pure 5 _ (by decide) (by decide) (by decide) (fun u hu=>o'i (o'i hu))⟩
     ·rw[hI.known 2 _ (hd 2 (by kernel_rfl)) rfl]
      rw[hI.known 3 _ (hd 3 (by kernel_rfl)) rfl]
      rw[hI.known 5 _ (hd 5 (by kernel_rfl)) rfl]
      refine w'k rfl fun K' hK => ?_
      have hI0:=h'd hI
      clear hI hcl hd
      go_wp2
      exact hK.out _ _ ⟨_,rfl,hI0.out.pure 6 _ (by decide) (by decide) (by decide) (fun u hu=>o'i (o'i hu))⟩
     ·rw[hI.known 6 _ (hd 6 (by kernel_rfl)) rfl]
      have n29:done 29=false:=by
       cases h:done 29 with
       | false=>rfl
       | true =>
        have h29_28:=hcl 29 28 h (by kernel_rfl)
        have h28_7:=hcl 28 7 h29_28 (by kernel_rfl)
        exact absurd h28_7 (by rw[hni];exact Bool.false_ne_true)
      obtain rfl:W=w1:=hI.none_ n29
      refine w'k rfl fun K' hK => ?_
      have hI0:=h'd hI
      clear hI hcl hd
      go_wp2_with (go_at_call 127;with_reducible refine Calls.mono CN1.out ?_;rintro x w9 ⟨rfl,hww⟩;subst hww)
      exact hK.out _ _ ⟨_,rfl,hI0.out.pure 7 _ (by decide) (by decide) (by decide) (fun u hu=>o'i (o'i hu))⟩
     ·refine w'k rfl fun K' hK => ?_
      have hI0:=h'd hI
      clear hI hcl hd
      go_wp2
      exact hK.out _ _ ⟨_,rfl,hI0.out.pure 8 _ (by decide) (by decide) (by decide) (fun u hu=>o'i (o'i hu))⟩
     ·refine w'k rfl fun K' hK => ?_
      have hI0:=h'd hI
      clear hI hcl hd
      go_wp2
      exact hK.out _ _ ⟨_,rfl,hI0.out.pure 9 _ (by decide) (by decide) (by decide) (fun u hu=>o'i (o'i hu))⟩
     ·rw[hI.known 9 _ (hd 9 (by kernel_rfl)) rfl]
      refine w'k rfl fun K' hK => ?_
      have hI0:=h'd hI
      clear hI hcl hd
      go_wp2
      exact hK.out _ _ ⟨_,rfl,hI0.out.pure 10 _ (by decide) (by decide) (by decide) (fun u hu=>o'i (o'i hu))⟩
     ·refine w'k rfl fun K' hK => ?_
      have hI0:=h'd hI
      clear hI hcl hd
      go_wp2
      exact hK.out _ _ ⟨_,rfl,hI0.out.pure 11 _ (by decide) (by decide) (by decide) (fun u hu=>o'i (o'i hu))⟩
     ·rw[hI.known 11 _ (hd 11 (by kernel_rfl)) rfl]
      refine w'k rfl fun K' hK => ?_
      have hI0:=h'd hI
      clear hI hcl hd
      go_wp2
      exact hK.out _ _ ⟨_,rfl,hI0.out.pure 12 _ (by decide) (by decide) (by decide) (fun u hu=>o'i (o'i hu))⟩
     ·rw[hI.known 8 _ (hd 8 (by kernel_rfl)) rfl]
      rw[hI.known 10 _ (hd 10 (by kernel_rfl)) rfl]
      rw[hI.known 12 _ (hd 12 (by kernel_rfl)) rfl]
      refine w'k rfl fun K' hK => ?_
      have hI0:=h'd hI
      clear hI hcl hd
      go_wp2
      exact hK.out _ _ ⟨_,rfl,hI0.out.pure 13 _ (by decide) (by decide) (by decide) (fun u hu=>o'i (o'i hu))⟩
     ·rw[hI.known 13 _ (hd 13 (by kernel_rfl)) rfl]
      have n29:done 29=false:=by
       cases h:done 29 with
       | false=>rfl
       | true =>
        have h29_28:=hcl 29 28 h (by kernel_rfl)
        have h28_14:=hcl 28 14 h29_28 (by kernel_rfl)
        exact absurd h28_14 (by rw[hni];exact Bool.false_ne_true)
      obtain rfl:W=w1:=hI.none_ n29
      refine w'k rfl fun K' hK => ?_
      have hI0:=h'd hI
      clear hI hcl hd
      go_wp2_with (go_at_call 127;with_reducible refine Calls.mono CN2.out ?_;rintro x w9 ⟨rfl,hww⟩;subst hww)
      exact hK.out _ _ ⟨_,rfl,hI0.out.pure 14 _ (by decide) (by decide) (by decide) (fun u hu=>o'i (o'i hu))⟩
     ·refine w'k rfl fun K' hK => ?_
      have hI0:=h'd hI
      clear hI hcl hd
      go_wp2
      exact hK.out _ _ ⟨_,rfl,hI0.out.pure 15 _ (by decide) (by decide) (by decide) (fun u hu=>o'i (o'i hu))⟩
     ·refine w'k rfl fun K' hK => ?_
      have hI0:=h'd hI
      clear hI hcl hd
      go_wp2
      exact hK.out _ _ ⟨_,rfl,hI0.out.pure 16 _ (by decide) (by decide) (by decide) (fun u hu=>o'i (o'i hu))⟩
     ·rw[hI.known 16 _ (hd 16 (by kernel_rfl)) rfl]
      refine w'k rfl fun K' hK => ?_
      have hI0:=h'd hI
      clear hI hcl hd
      go_wp2
      exact hK.out _ _ ⟨_,rfl,hI0.out.pure 17 _ (by decide) (by decide) (by decide) (fun u hu=>o'i (o'i hu))⟩
     ·rw[hI.known 15 _ (hd 15 (by kernel_rfl)) rfl]
      rw[hI.known 17 _ (hd 17 (by kernel_rfl)) rfl]
      have ix:=ix8.out
      have ix0:=(ix_a a).1
      have ix1:=(ix_a a).2.1
      have ix2:=(ix_a a).2.2
      refine w'k rfl fun K' hK => ?_
      have hI0:=h'd hI
      clear hI hcl hd
      go_wp2
      exact hK.out _ _ ⟨_,rfl,hI0.out.pure 18 _ (by decide) (by decide) (by decide) (fun u hu=>o'i (o'i hu))⟩
     ·rw[hI.known 18 _ (hd 18 (by kernel_rfl)) rfl]
      have n29:done 29=false:=by
       cases h:done 29 with
       | false=>rfl
       | true =>
        have h29_28:=hcl 29 28 h (by kernel_rfl)
        have h28_19:=hcl 28 19 h29_28 (by kernel_rfl)
        exact absurd h28_19 (by rw[hni];exact Bool.false_ne_true)
      obtain rfl:W=w1:=hI.none_ n29
      have yy:=y8.out
      refine w'k rfl fun K' hK => ?_
      have hI0:=h'd hI
      clear hI hcl hd
      go_wp2
      exact hK.out _ _ ⟨_,rfl,hI0.out.pure 19 _ (by decide) (by decide) (by decide) (fun u hu=>o'i (o'i hu))⟩
     ·refine w'k rfl fun K' hK => ?_
      have hI0:=h'd hI
      clear hI hcl hd
      go_wp2
      exact hK.out _ _ ⟨_,rfl,hI0.out.pure 20 _ (by decide) (by decide) (by decide) (fun u hu=>o'i (o'i hu))⟩
     ·refine w'k rfl fun K' hK => ?_
      have hI0:=h'd hI
      clear hI hcl hd
      go_wp2
      exact hK.out _ _ ⟨_,rfl,hI0.out.pure 21 _ (by decide) (by decide) (by decide) (fun u hu=>o'i (o'i hu))⟩
     ·rw[hI.known 21 _ (hd 21 (by kernel_rfl)) rfl]
      refine w'k rfl fun K' hK => ?_
      have hI0:=h'd hI
      clear hI hcl hd
      go_wp2
      exact hK.out _ _ ⟨_,rfl,hI0.out.pure 22 _ (by decide) (by decide) (by decide) (fun u hu=>o'i (o'i hu))⟩
     ·refine w'k rfl fun K' hK => ?_
      have hI0:=h'd hI
      clear hI hcl hd
      go_wp2
      exact hK.out _ _ ⟨_,rfl,hI0.out.pure 23 _ (by decide) (by decide) (by decide) (fun u hu=>o'i (o'i hu))⟩
     ·rw[hI.known 23 _ (hd 23 (by kernel_rfl)) rfl]
      refine w'k rfl fun K' hK => ?_
      have hI0:=h'd hI
      clear hI hcl hd
      go_wp2
      exact hK.out _ _ ⟨_,rfl,hI0.out.pure 24 _ (by decide) (by decide) (by decide) (fun u hu=>o'i (o'i hu))⟩
     ·rw[hI.known 20 _ (hd 20 (by kernel_rfl)) rfl]
      rw[hI.known 22 _ (hd 22 (by kernel_rfl)) rfl]
      rw[hI.known 24 _ (hd 24 (by kernel_rfl)) rfl]
      refine w'k rfl fun K' hK => ?_
      have hI0:=h'd hI
      clear hI hcl hd
      go_wp2
      exact hK.out _ _ ⟨_,rfl,hI0.out.pure 25 _ (by decide) (by decide) (by decide) (fun u hu=>o'i (o'i hu))⟩
     ·rw[hI.known 25 _ (hd 25 (by kernel_rfl)) rfl]
      have n29:done 29=false:=by
       cases h:done 29 with
       | false=>rfl
       | true =>
        have h29_28:=hcl 29 28 h (by kernel_rfl)
        have h28_27:=hcl 28 27 h29_28 (by kernel_rfl)
        have h27_26:=hcl 27 26 h28_27 (by kernel_rfl)
        exact absurd h27_26 (by rw[hni];exact Bool.false_ne_true)
      obtain rfl:W=w1:=hI.none_ n29
      refine w'k rfl fun K' hK => ?_
      have hI0:=h'd hI
      clear hI hcl hd
      go_wp2_with (go_at_call 127;with_reducible refine Calls.mono CN3.out ?_;rintro x w9 ⟨rfl,hww⟩;subst hww)
      exact hK.out _ _ ⟨_,rfl,hI0.out.pure 26 _ (by decide) (by decide) (by decide) (fun u hu=>o'i (o'i hu))⟩
     ·rw[hI.known 26 _ (hd 26 (by kernel_rfl)) rfl]
      refine w'k rfl fun K' hK => ?_
      have hI0:=h'd hI
      clear hI hcl hd
      go_wp2
      exact hK.out _ _ ⟨_,rfl,hI0.out.pure 27 _ (by decide) (by decide) (by decide) (fun u hu=>o'i (o'i hu))⟩
     ·rw[hI.known 7 _ (hd 7 (by kernel_rfl)) rfl]
      rw[hI.known 14 _ (hd 14 (by kernel_rfl)) rfl]
      rw[hI.known 19 _ (hd 19 (by kernel_rfl)) rfl]
      rw[hI.known 27 _ (hd 27 (by kernel_rfl)) rfl]
      refine w'k rfl fun K' hK => ?_
      have hI0:=h'd hI
      clear hI hcl hd
      go_wp2
      exact hK.out _ _ ⟨_,rfl,hI0.out.pure 28 _ (by decide) (by decide) (by decide) (fun u hu=>o'i (o'i hu))⟩
     ·rw[hI.known 28 _ (hd 28 (by kernel_rfl)) rfl]
      have n30:done 30=false:=by
       cases h:done 30 with
       | false=>rfl
       | true =>
        have h30_29:=hcl 30 29 h (by kernel_rfl)
        exact absurd h30_29 (by rw[hni];exact Bool.false_ne_true)
      have n32:done 32=false:=by
       cases h:done 32 with
       | false=>rfl
       | true =>
        have h32_30:=hcl 32 30 h (by kernel_rfl)
        have h30_29:=hcl 30 29 h32_30 (by kernel_rfl)
        exact absurd h30_29 (by rw[hni];exact Bool.false_ne_true)
      obtain rfl:W=w1:=hI.none_ hni
      refine w'k rfl fun K' hK => ?_
      have hI0:=h'd hI
      clear hI hcl hd
      go_wp2
      exact hK.out _ _ ⟨_,rfl,hI0.out.build _ (by decide) (by decide) n30 n32 (fun u hu=>o'i (o'i hu))⟩
     ·rw[hI.known 1 _ (hd 1 (by kernel_rfl)) rfl]
      rw[hI.known 29 _ (hd 29 (by kernel_rfl)) rfl]
      have n32:done 32=false:=by
       cases h:done 32 with
       | false=>rfl
       | true =>
        have h32_30:=hcl 32 30 h (by kernel_rfl)
        exact absurd h32_30 (by rw[hni];exact Bool.false_ne_true)
      have hdB:=hd 29 (by kernel_rfl)
      obtain rfl:W=(w1.alloc (.cells #[.int .u32 x1,.int .u32 x2,.int .u8 x3,.int .u16 x4] 99)):=hI.built hdB hni
      refine w'k rfl fun K' hK => ?_
      have hI0:=h'd hI
      clear hI hcl hd
      split
      ·refine wp_append (.tmp 33) (.tmp 61) 79 rfl w.heap.size linkT (.slice A2 k c2) k (xs) rfl (own_alloc ho1 _) _ _ 1 ([.int .u32 x1,.int .u32 x2,.int .u8 x3,.int .u16 x4]) rfl (Sl.lit w1 #[.int .u32 x1,.int .u32 x2,.int .u8 x3,.int .u16 x4] 99 (by simp[maxLen]) rfl) (by simp[Value.oneCell']) (by simp only[maxLen];omega) (by omega) (by simp;omega) ?_
       intro v6 w6 ho6 hg6 hb6
       obtain ⟨-,A9,c9,rfl,-⟩:=id (Sl.of_own ho6)
       exact hK.out _ _ ⟨_,rfl,hI0.out.append _ (by decide) (by decide) hdB n32 (fun u hu=>by cases hu) ⟨A9,c9,rfl,ho6,hg6⟩⟩
      ·rename_i hno
       exact absurd rfl hno
     ·refine w'k rfl fun K' hK => ?_
      have hI0:=h'd hI
      clear hI hcl hd
      go_wp2
      exact hK.out _ _ ⟨_,rfl,hI0.out.pure 31 _ (by decide) (by decide) (by decide) (fun u hu=>o'i (o'i hu))⟩
     ·rw[hI.known 31 _ (hd 31 (by kernel_rfl)) rfl]
      obtain ⟨A9,c9,d30,ho9,hg9⟩:=hI.app (hd 30 (by kernel_rfl)) hni
      rw[d30]
      have hdJ:=hd 30 (by kernel_rfl)
      have hdB:=hcl 30 29 hdJ (by kernel_rfl)
      have r1:Blk W g 81 #[.int .u8 y,.slice A2 k c2,.int .u32 0,.slice none 0 0,.int .u32 0,.bool false,.int .u32 0,.int .u32 0,.slice none 0 0]:=(q1.alloc (.cells #[.int .u32 x1,.int .u32 x2,.int .u8 x3,.int .u16 x4] 99)).same (hg9.block g (q1.alloc (.cells #[.int .u32 x1,.int .u32 x2,.int .u8 x3,.int .u16 x4] 99)).lt fun e=>own_ne8 (own_alloc ho1 (.cells #[.int .u32 x1,.int .u32 x2,.int .u8 x3,.int .u16 x4] 99)) (q1.alloc (.cells #[.int .u32 x1,.int .u32 x2,.int .u8 x3,.int .u16 x4] 99)) (by decide) g e.symm rfl)
      have f3:=r1.free 1
      have y3:=r1.cell 1
      simp only[q'a,q'z,q's] at y3
      replace ho9:=h'd ho9
      replace hg9:=h'd hg9
      replace r1:=h'd r1
      refine w'k rfl fun K' hK => ?_
      have hI0:=h'd hI
      clear hI hcl hd
      go_wp2
      exact hK.out _ _ ⟨undef,rfl,hI0.out.store _ (by decide) (by decide) hdB hdJ (fun u hu=>by cases hu) ⟨A9,c9,_,ho9,hg9,rfl⟩⟩
    ·intro done t W a' hI hall ha
     simp only[putFrom,Act.put,Nat.reduceAdd,s'a,s'z,s's] at ha
     subst ha
     obtain ⟨A9,c9,Wz,ho9,hg9,rfl⟩:=hI.stored (hall 32 (by decide))
     clear hI hall
     have r1:Blk Wz g 81 #[.int .u8 y,.slice A2 k c2,.int .u32 0,.slice none 0 0,.int .u32 0,.bool false,.int .u32 0,.int .u32 0,.slice none 0 0]:=(q1.alloc (.cells #[.int .u32 x1,.int .u32 x2,.int .u8 x3,.int .u16 x4] 99)).same (hg9.block g (q1.alloc (.cells #[.int .u32 x1,.int .u32 x2,.int .u8 x3,.int .u16 x4] 99)).lt fun e=>own_ne8 (own_alloc ho1 (.cells #[.int .u32 x1,.int .u32 x2,.int .u8 x3,.int .u16 x4] 99)) (q1.alloc (.cells #[.int .u32 x1,.int .u32 x2,.int .u8 x3,.int .u16 x4] 99)) (by decide) g e.symm rfl)
     have r0:Blk Wz w.heap.size 81 #[.int .u8 0,.slice none 0 0,.int .u32 0,.slice none 0 0,.int .u32 0,.bool false,.int .u32 0,.int .u32 0,.slice none 0 0]:=(q0.alloc (.cells #[.int .u32 x1,.int .u32 x2,.int .u8 x3,.int .u16 x4] 99)).same (hg9.block _ (q0.alloc (.cells #[.int .u32 x1,.int .u32 x2,.int .u8 x3,.int .u16 x4] 99)).lt fun e=>own_ne8 (own_alloc ho1 (.cells #[.int .u32 x1,.int .u32 x2,.int .u8 x3,.int .u16 x4] 99)) (q0.alloc (.cells #[.int .u32 x1,.int .u32 x2,.int .u8 x3,.int .u16 x4] 99)) (by decide) _ e.symm rfl)
     have rB:Below w.heap.size w Wz:=(below_alloc qB (Nat.le_refl _) _).trans (below_of_grown hg9 (by simp;omega) fun j hj=>(ho1.lt j hj).1)
     have hs2:=r1.set_ 1 (.slice A9 (k+1) c9)
     simp only[s'a,s'z,s's] at hs2
     have ho10:=own_same ho9 fun j hj=>Below.heap_setCell Wz ⟨g,1,none⟩ (.slice A9 (k+1) c9) j (own_ne8 ho9 r1 (by decide) j hj)
     have rest:=(r0.far (p:=⟨g,1,none⟩) (by simp;omega) (.slice A9 (k+1) c9))
     have restB:=rB.setCell (p:=⟨g,1,none⟩) (by simp;omega) (.slice A9 (k+1) c9)
     rw[hxs.out] at ho10
     replace ho10:=h'd ho10
     replace hs2:=h'd hs2
     replace rest:=h'd rest
     replace restB:=h'd restB
     clear r1 r0 rB ho9 hg9 q0 q1 qB ho1 CN1
     generalize Wz.setCell ⟨g,1,none⟩ (.slice A9 (k+1) c9)=wn at hs2 ho10 rest restB ⊢
     have hwa2:wrap64 ((a:Int)+12)=(a:Int)+12:=hwa
     go_wp2_with fail
     go_roundg ((bs.length-4) / 12-(k+1))
     case measure=>exact lp_m12 hakh.out halh.out
     case rel =>
      have h1:=halh.out
      have h2:=hakh.out
      have e1:=lp_e12 h2
      refine ⟨k+1,a+12,A9,c9,e1,h1,rfl,by go_num,hs2.out,?_,⟨_,rest.out,rfl⟩,restB.out⟩
      have h3:=ho10.out
      rw[hsu.out,List.flatMap_append]
      exact h3
   ·have hgo2:decide ((a:Int)+12≤(bs.length:Int))=false:=decide_eq_false (by omega)
    have hlen:=linksOf_len bs k
    replace hlen:=h'd hlen
    have hak2:=h'd hak
    have hal2:=h'd hal
    have hgo3:=h'd hgo
    clear hak hal hgo
    go_wp2_with (first
     | (refine wpList_load_row rfl 81 (.tmp 6) rfl g rfl 81 #[.int .u8 y,.slice A2 k c2,.int .u32 0,.slice none 0 0,.int .u32 0,.bool false,.int .u32 0,.int .u32 0,.slice none 0 0] (0,0) _ hb Tryz.underlying81 rfl (by kernel_rfl) ?_)
     | (refine wpList_store_row rfl 81 (.tmp 4) (.tmp 135) rfl w.heap.size #[.int .u8 y,.slice A2 k c2,.int .u32 0,.slice none 0 0,.int .u32 0,.bool false,.int .u32 0,.int .u32 0,.slice none 0 0] rfl rfl 81 #[.int .u8 0,.slice none 0 0,.int .u32 0,.slice none 0 0,.int .u32 0,.bool false,.int .u32 0,.int .u32 0,.slice none 0 0] hb0 (by kernel_rfl) rfl (by simp[Value.oneCell']) ?_))
    have hset:Blk (w3.setRow w.heap.size #[.int .u8 y,.slice A2 k c2,.int .u32 0,.slice none 0 0,.int .u32 0,.bool false,.int .u32 0,.int .u32 0,.slice none 0 0]) w.heap.size 81 #[.int .u8 y,.slice A2 k c2,.int .u32 0,.slice none 0 0,.int .u32 0,.bool false,.int .u32 0,.int .u32 0,.slice none 0 0]:=setRow_heap w3 w.heap.size #[.int .u8 0,.slice none 0 0,.int .u32 0,.slice none 0 0,.int .u32 0,.bool false,.int .u32 0,.int .u32 0,.slice none 0 0] #[.int .u8 y,.slice A2 k c2,.int .u32 0,.slice none 0 0,.int .u32 0,.bool false,.int .u32 0,.int .u32 0,.slice none 0 0] 81 (0,0) hb0
    have hB3:Below w.heap.size w3 (w3.setRow w.heap.size #[.int .u8 y,.slice A2 k c2,.int .u32 0,.slice none 0 0,.int .u32 0,.bool false,.int .u32 0,.int .u32 0,.slice none 0 0]):=⟨rfl,rfl,rfl,by simp[World.setRow],fun k hk=>setRow_other _ _ k _ (by omega)⟩
    refine bodyPost_ret (results_cell_tmp_row rfl _ _ w.heap.size 81 #[.int .u8 y,.slice A2 k c2,.int .u32 0,.slice none 0 0,.int .u32 0,.bool false,.int .u32 0,.int .u32 0,.slice none 0 0] (0,0) _ rfl hset Tryz.underlying81 rfl (by kernel_rfl)) rfl ?_
    refine ⟨_,true,⟨y,linksOf bs k,0,[],0,false,0,0,[]⟩,rfl,⟨A2,c2,none,0,none,0,by rw[hlen.out];rfl,by rw[hlen.out];exact own_same ho fun j hj=>setRow_other _ _ j _ (own_ne8 ho hb0 (by decide) j hj),World.ownsRow_nil _ _ _ _,World.ownsRow_nil _ _ _ _⟩,by simp[fitR];omega,?_,hBr.trans hB3⟩
    intro _
    have h1:=hak2.out
    have h2:=hal2.out
    have h3:=hgo3.out
    have hy1:=numB_byte h8 0 (by omega)
    rw[hy.out,←hy1]
    show _=readP 1 bs
    unfold readP
    rw[if_pos rfl,show (bs.length-4) / 12=k by omega]
    rfl
end Go.Proofs.YtcknpofnpabkiaaGreat
