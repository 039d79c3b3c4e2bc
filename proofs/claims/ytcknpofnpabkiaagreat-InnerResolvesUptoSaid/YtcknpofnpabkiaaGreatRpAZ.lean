/- A writer in a region that draws its order: what is free of it, what it holds by what is done. No walk stands here. -/
import Derived.Test.YtcknpofnpabkiaaGreatRpAW
import Derived.Test.YtcknpofnpabkiaaGreatRpAY
namespace Go.Proofs.YtcknpofnpabkiaaGreat
open Go.RowKit Go.Lo
def Free (w:World) (b k:Nat):Prop:=k<w.heap.size∧k≠b∧∀ v,w.cell? ⟨b,0,none⟩=some v→v.ownBlock≠some k
theorem Wr.cell0 {K:Nat→Prop} {w:World} {b:Nat} {most e:Int} {bs:List Int} (h:Wr K w b most bs e):∃ v,w.cell? ⟨b,0,none⟩=some v∧∀ g,v.ownBlock=some g→g≠b∧¬ K g:=by
 obtain ⟨-,v,hb,-,hv⟩:=h
 have:=hb.cell 0
 simp only[q'a,q'z] at this
 exact ⟨v,this,hv⟩
theorem Wr.free {K:Nat→Prop} {w:World} {b:Nat} {most e:Int} {bs:List Int} (h:Wr K w b most bs e):Wr (Free w b) w b most bs e:=by
 obtain ⟨v0,hc,-⟩:=h.cell0
 obtain ⟨hn,v,hb,ho,hv⟩:=h
 refine ⟨fun hf=>hf.2.1 rfl,v,hb,ho,fun g hg=>⟨(hv g hg).1,fun hf => ?_⟩⟩
 have:=hb.cell 0
 simp only[q'a,q'z] at this
 exact hf.2.2 v this hg
theorem Wr.toFree {K:Nat→Prop} {w:World} {b:Nat} {most e:Int} {bs:List Int} (h:Wr K w b most bs e) {k:Nat} (hk:K k) (hz:k<w.heap.size):Free w b k:=by
 obtain ⟨v0,hc,hv⟩:=h.cell0
 refine ⟨hz,fun e=>h.1 (e ▸ hk),fun v hv2 ho => ?_⟩
 rw[hc] at hv2
 obtain rfl:=o'i hv2
 exact (hv k ho).2 hk
def StF (b:Nat) (W W':World):Prop:=∀ k t cs,Blk W k t cs→Free W b k→Blk W' k t cs∧Free W' b k
theorem StF.refl (b:Nat) (W:World):StF b W W:=fun _ _ _ h h2=>⟨h,h2⟩
theorem StF.call {b:Nat} {W W':World} {most e:Int} {bs:List Int} (hk:Keep (Free W b) W W') (hw:Wr (Free W b) W' b most bs e):StF b W W':=fun _ _ _ h h2=>⟨hk.blk h2 h,hw.toFree h2 (Nat.lt_of_lt_of_le h2.1 hk.size)⟩
theorem Free.alloc {W:World} {b k:Nat} (h:Free W b k) (hb:b<W.heap.size) (o:Obj):Free (W.alloc o) b k:=
 ⟨by have:=h.1;simp;omega,h.2.1,fun v hv=>h.2.2 v ((World.cell?_alloc_lt _ _ _ hb).symm.trans hv)⟩
theorem StF.alloc {b:Nat} {W:World} (hb:b<W.heap.size) (o:Obj):StF b W (W.alloc o):=fun _ _ _ h h2=>⟨h.alloc o,h2.alloc hb o⟩
theorem Wr.new_free {K:Nat→Prop} {W:World} {b:Nat} {most e:Int} {bs:List Int} (h:Wr K W b most bs e) (o:Obj):Free (W.alloc o) b W.heap.size:=by
 have hlt:=h.lt
 obtain ⟨-,v,hb,ho,-⟩:=h
 refine ⟨by simp,by omega,fun u hu hk => ?_⟩
 rw[World.cell?_alloc_lt _ _ _ hlt] at hu
 have:=hb.cell 0
 simp only[q'a,q'z] at this
 rw[this] at hu
 obtain rfl:=o'i hu
 have:=(ho.lt _ hk).2
 omega
def WI (K:Nat→Prop) (w1:World) (b:Nat) (most:Int) (c:List Int) (W:World):Prop:=Keep K w1 W∧Wr K W b most c 0
theorem WI.call {K:Nat→Prop} {w1:World} {b:Nat} {most:Int} {c c':List Int} {W W':World} (h:WI K w1 b most c W) (hK:∀ k,K k→k<w1.heap.size) (hk:Keep (Free W b) W W') (hw:Wr (Free W b) W' b most c' 0):WI K w1 b most c' W':=by
 have hf:∀ k,K k→Free W b k:=fun k hkk=>h.2.toFree hkk (Nat.lt_of_lt_of_le (hK k hkk) h.1.size)
 exact ⟨h.1.trans (hk.mono hf),hw.less hf⟩
theorem WI.alloc {K:Nat→Prop} {w1:World} {b:Nat} {most:Int} {c:List Int} {W:World} (h:WI K w1 b most c W) (hK:∀ k,K k→k<w1.heap.size) (o:Obj):WI K w1 b most c (W.alloc o):=
 ⟨h.1.alloc (fun k hk=>Nat.lt_of_lt_of_le (hK k hk) h.1.size) o,h.2.alloc o⟩
theorem WI.drew {K:Nat→Prop} {w1:World} {b:Nat} {most:Int} {c:List Int} {W:World} (h:WI K w1 b most c W):WI K w1 b most c W.drew:=⟨h.1.drew,h.2.drew⟩
def contD (bs:List Int) (segs:List (Nat × List Int)) (done:Nat→Bool):List Int:=bs++segs.flatMap fun s=>if done s.1 then s.2 else []
theorem contD_skip {bs:List Int} {segs:List (Nat × List Int)} {done:Nat→Bool} (i:Nat) (h:(segs.all fun s=>s.1 != i)=true):contD bs segs (andD done i)=contD bs segs done:=by
 unfold contD
 congr 1
 have h2:∀ s∈segs,(if andD done i s.1 then s.2 else [])=if done s.1 then s.2 else []:=fun s hs=>by
  have h3:s.1≠i:=by simpa using List.all_eq_true.1 h s hs
  unfold andD
  rw[if_neg h3]
 induction segs with
 | nil=>rfl
 | cons s r ih =>
  simp only[List.flatMap_cons]
  rw[h2 s List.mem_cons_self,ih (by simp only[List.all_cons,Bool.and_eq_true] at h;exact h.2) fun x hx=>h2 x (List.mem_cons_of_mem _ hx)]
theorem flat_none {post:List (Nat × List Int)} {done:Nat→Bool} (h:∀ s∈post,done s.1=false):(post.flatMap fun s=>if done s.1 then s.2 else [])=[]:=by
 induction post with
 | nil=>rfl
 | cons s r ih =>
  rw[List.flatMap_cons,ih fun x hx=>h x (List.mem_cons_of_mem _ hx),h s List.mem_cons_self]
  rfl
theorem contD_next {bs:List Int} (pre post:List (Nat × List Int)) (x:List Int) {done:Nat→Bool} (i:Nat) (hp:(pre.all fun s=>s.1 != i)=true) (hq:(post.all fun s=>s.1 != i)=true) (hi:done i=false) (hpost:∀ s∈post,done s.1=false) :
  contD bs (pre++(i,x) :: post) (andD done i)=contD bs (pre++(i,x) :: post) done++x:=by
 have h1:contD bs pre (andD done i)=contD bs pre done:=contD_skip i hp
 have h2:∀ s∈post,andD done i s.1=false:=fun s hs=>by
  have h3:s.1≠i:=by simpa using List.all_eq_true.1 hq s hs
  unfold andD
  rw[if_neg h3]
  exact hpost s hs
 unfold contD at h1 ⊢
 rw[List.flatMap_append,List.flatMap_append,List.flatMap_cons,List.flatMap_cons,flat_none h2,flat_none hpost,←List.append_assoc,←List.append_assoc,h1,hi]
 have h4:andD done i i=true:=if_pos rfl
 rw[h4]
 simp
theorem contD_none {bs:List Int} {segs:List (Nat × List Int)}:contD bs segs (fun _=>false)=bs:=by
 have h:(segs.flatMap fun s=>if (fun _:Nat=>false) s.1 then s.2 else [])=[]:=flat_none (done:=fun _=>false) fun _ _=>rfl
 exact (congrArg (bs ++ ·) h).trans (List.append_nil _)
theorem contD_all {bs:List Int} {segs:List (Nat × List Int)} {done:Nat→Bool} (h:∀ s∈segs,done s.1=true):contD bs segs done=bs++segs.flatMap (·.2):=by
 unfold contD
 congr 1
 induction segs with
 | nil=>rfl
 | cons s r ih =>
  rw[List.flatMap_cons,List.flatMap_cons,ih fun x hx=>h x (List.mem_cons_of_mem _ hx),h s List.mem_cons_self]
  rfl
theorem contD_len (bs:List Int) (segs:List (Nat × List Int)) (done:Nat→Bool):(contD bs segs done).length≤bs.length+(segs.map (·.2.length)).sum:=by
 unfold contD
 rw[l'a]
 refine Nat.add_le_add_left ?_ _
 induction segs with
 | nil=>exact n'r _
 | cons s r ih =>
  rw[List.flatMap_cons,l'a,List.map_cons,List.sum_cons]
  refine Nat.add_le_add ?_ ih
  split
  ·exact n'r _
  ·exact Nat.zero_le _
def WV (b B n:Nat) (cells:Array Value) (vals:List (Option Value)) (i:Nat) (v _u:Value) (W:World):Prop:=
 (i=B→∃ gg,v=.slice (some ⟨gg,0,none⟩) n n∧Blk W gg 5 cells∧Free W b gg)∧∀ u,vals[i]?=some (some u)→v=u
theorem WV.turn {b B n:Nat} {cells:Array Value} {vals:List (Option Value)} (i:Nat) (v u:Value) (W W':World) (hS:StF b W W') (h:WV b B n cells vals i v u W):WV b B n cells vals i v u W':=⟨fun e=>by
 obtain ⟨gg,h1,h2,h3⟩:=h.1 e
 exact ⟨gg,h1,hS gg _ _ h2 h3⟩,h.2⟩
theorem WV.known {b B n:Nat} {cells:Array Value} {vals:List (Option Value)} {i:Nat} {v u:Value} {W:World} (h:i≠B) (hv:vals[i]?=some (some v)):WV b B n cells vals i v u W:=⟨fun e=>absurd e h,fun u hu=>by
 rw[hv] at hu
 exact o'i (o'i hu)⟩
theorem sl_blk8 {W:World} {gg n:Nat} {bs:List Int} (h:Blk W gg 5 (bs.map u8c).toArray) (hn:bs.length=n) (hm:n≤maxLen):Sl W (gg+1) 1 (.slice (some ⟨gg,0,none⟩) n n) bs.length (bs.map u8c):=by
 subst hn
 exact sl_at h 0 bs.length _ (by simp) hm fun j u hu=>by rw[Nat.zero_add,q'a];exact hu
set_option maxRecDepth 100000
structure LinkOk (x:LinkV):Prop where
 id:0≤x.id∧x.id<4294967296
 data:0≤x.data∧x.data<4294967296
 type:0≤x.type∧x.type<256
 cost:0≤x.cost∧x.cost<65536
set_option maxHeartbeats 4000000 in
theorem writeRouter_any (K:Nat→Prop) (b:Nat) (most:Int) (w:World) (hW:Wr K w b most [] 0) (hK:∀ k,K k→k<w.heap.size) (hm:most≤140737488355320) (fl:Int) (A1 A2 A3:Option Addr) (c1 c2 c3:Nat) (ls:List LinkV) (hok:∀ x∈ls,LinkOk x) (B:Nat) (hs:Sl w B 4 (.slice A1 ls.length c1) ls.length (ls.flatMap linkC)) (hBK:∀ k,k<B→K k) (hr0:4+12*(ls.length:Int)≤most) (h16:ls.length<65536) :
  Calls Tryz.prog 151 #[.agg #[.pointer (some ⟨b,0,none⟩)],.agg (bodyC fl A1 ls.length c1 0 A2 0 c2 0 false 0 0 A3 0 c3)] w fun x w'=>x=.returned (.tuple #[])∧Keep K w w'∧Wr K w' b most ([fl,0]++(beN ls.length 2++ls.flatMap linkB)) 0:=by
 have hmix:(Tryz.prog).follows .mixedOrders=true:=by kernel_rfl
 have k0:Blk ((w.alloc (.cells #[.pointer (some ⟨b,0,none⟩)] 163)).alloc (.cells #[.int .u8 fl,.slice A1 ls.length c1,.int .u32 0,.slice A2 0 c2,.int .u32 0,.bool false,.int .u32 0,.int .u32 0,.slice A3 0 c3] 81)) w.heap.size 163 #[.pointer (some ⟨b,0,none⟩)]:=(Blk.new _ _ _).alloc _
 have k1:Blk ((w.alloc (.cells #[.pointer (some ⟨b,0,none⟩)] 163)).alloc (.cells #[.int .u8 fl,.slice A1 ls.length c1,.int .u32 0,.slice A2 0 c2,.int .u32 0,.bool false,.int .u32 0,.int .u32 0,.slice A3 0 c3] 81)) (w.heap.size+1) 81 #[.int .u8 fl,.slice A1 ls.length c1,.int .u32 0,.slice A2 0 c2,.int .u32 0,.bool false,.int .u32 0,.int .u32 0,.slice A3 0 c3]:=heap_alloc2_new w _ _
 have kz:(((w.alloc (.cells #[.pointer (some ⟨b,0,none⟩)] 163)).alloc (.cells #[.int .u8 fl,.slice A1 ls.length c1,.int .u32 0,.slice A2 0 c2,.int .u32 0,.bool false,.int .u32 0,.int .u32 0,.slice A3 0 c3] 81)):World).heap.size=w.heap.size+1+1:=by simp
 have kK:Keep K w ((w.alloc (.cells #[.pointer (some ⟨b,0,none⟩)] 163)).alloc (.cells #[.int .u8 fl,.slice A1 ls.length c1,.int .u32 0,.slice A2 0 c2,.int .u32 0,.bool false,.int .u32 0,.int .u32 0,.slice A3 0 c3] 81)):=((Keep.refl _ _).alloc hK _).alloc (fun k hk=>by have:=hK k hk;simp;omega) _
 have kW:=(hW.add (.cells #[.pointer (some ⟨b,0,none⟩)] 163)).add (.cells #[.int .u8 fl,.slice A1 ls.length c1,.int .u32 0,.slice A2 0 c2,.int .u32 0,.bool false,.int .u32 0,.int .u32 0,.slice A3 0 c3] 81)
 obtain ⟨K2,hK2⟩:∃ K2:Nat→Prop,K2=fun k=>(K k∨k=w.heap.size)∨k=(w.alloc (.cells #[.pointer (some ⟨b,0,none⟩)] 163)).heap.size:=⟨_,rfl⟩
 have e0:K2 w.heap.size:=by rw[hK2];exact .inl (.inr rfl)
 have e1:K2 (w.heap.size+1):=by rw[hK2];exact .inr (by simp)
 have e2:∀ k,K k→K2 k:=fun k hk=>by rw[hK2];exact .inl (.inl hk)
 have kL:∀ j,K2 j→j<(((w.alloc (.cells #[.pointer (some ⟨b,0,none⟩)] 163)).alloc (.cells #[.int .u8 fl,.slice A1 ls.length c1,.int .u32 0,.slice A2 0 c2,.int .u32 0,.bool false,.int .u32 0,.int .u32 0,.slice A3 0 c3] 81)):World).heap.size:=fun j hj=>by
  rw[kz]
  rw[hK2] at hj
  rcases hj with (h | h) | h
  ·have:=hK j h;omega
  ·omega
  ·simp at h;omega
 rw[←hK2] at kW
 clear hK2
 have HI:WI K2 ((w.alloc (.cells #[.pointer (some ⟨b,0,none⟩)] 163)).alloc (.cells #[.int .u8 fl,.slice A1 ls.length c1,.int .u32 0,.slice A2 0 c2,.int .u32 0,.bool false,.int .u32 0,.int .u32 0,.slice A3 0 c3] 81)) b most [] ((w.alloc (.cells #[.pointer (some ⟨b,0,none⟩)] 163)).alloc (.cells #[.int .u8 fl,.slice A1 ls.length c1,.int .u32 0,.slice A2 0 c2,.int .u32 0,.bool false,.int .u32 0,.int .u32 0,.slice A3 0 c3] 81)):=⟨Keep.refl _ _,kW⟩
 have hs2:=kK.sl hBK hs
 go_enter Tryz.func151,Tryz.ntmps151
 go_upto_region 1 with fail
 generalize (w.alloc (.cells #[.pointer (some ⟨b,0,none⟩)] 163)).alloc (.cells #[.int .u8 fl,.slice A1 ls.length c1,.int .u32 0,.slice A2 0 c2,.int .u32 0,.bool false,.int .u32 0,.int .u32 0,.slice A3 0 c3] 81)=w1 at k0 k1 kz kK kL HI hs2 ⊢
 clear hW kW hs
 have HL:=h'd kL
 have h28:0≤(ls.length:Int)∧(ls.length:Int)<65536:=⟨by omega,by omega⟩
 have wc:IntKind.u32.wrap (ls.length:Int)=ls.length:=by rw[IntKind.wrap_u32];omega
 have hz1:=kL _ e1
 obtain ⟨gp,hgp⟩:∃ g,g=w.heap.size:=⟨_,rfl⟩
 obtain ⟨gb,hgb⟩:∃ g,g=w.heap.size+1:=⟨_,rfl⟩
 rw[←hgp] at e0 k0 ⊢
 rw[←hgb] at e1 k1 hz1
 have hgb2:w.heap.size+1=gb:=hgb.symm
 have hgb3:gp+1=gb:=by omega
 rw[hgb3]
 clear hgp hgb hgb2 hgb3
 have P0:∀ W,Keep K2 w1 W→W.cell? ⟨gp,0,none⟩=some (.pointer (some ⟨b,0,none⟩)):=fun W h=>(h.cell (p:=⟨gp,0,none⟩) e0).trans (k0.cell 0)
 have B0:∀ W,Keep K2 w1 W→W.cell? ⟨gb,0,none⟩=some (.int .u8 fl):=fun W h=>(h.cell (p:=⟨gb,0,none⟩) e1).trans (k1.cell 0)
 have B1:∀ W,Keep K2 w1 W→W.cell? ⟨gb,1,none⟩=some (.slice A1 ls.length c1):=fun W h=>(h.cell (p:=⟨gb,1,none⟩) e1).trans (k1.cell 1)
 have hsum1:([(5,[fl,0]),(10,beN (ls.length:Int) 2)].map fun s:Nat × List Int=>s.2.length).sum=4:=by simp[beN_len]
 replace hsum1:=hsum1
 clear k0 k1 kz
 go_cut [] (fun wx=>WI K2 w1 b most ([fl,0]++beN (ls.length:Int) 2) wx)
 case first =>
  refine wp_region_deps [some 6,some 7,some 8,some 9,some 10,some 11,some 12,some 13,some 14,some 15,some 16] (fun done W=>WI K2 w1 b most (contD [] [(5,[fl,0]),(10,beN (ls.length:Int) 2)] done) W) (StF b) id (WV b 4 2 #[.int .u8 fl,.int .u8 0] [some (.pointer (some ⟨gp,0,none⟩)),some (.pointer (some ⟨b,0,none⟩)),some (.pointer (some ⟨gb,0,none⟩)),some (.int .u8 fl),none,some (.pointer (some ⟨b,0,none⟩)),some (.pointer (some ⟨gb,0+1,none⟩)),some (.slice A1 ls.length c1),some (.int .i64 ls.length),some (.int .u32 ls.length),some (.pointer (some ⟨b,0,none⟩))]) hmix (by kernel_rfl) rfl (by decide) (by kernel_rfl) WV.turn (by rw[contD_none];exact HI.drew) ?_ ?_
  ·intro done t W a' hI ha hcl j1 hlt hni hd
   simp only[putFrom,Act.put,Nat.reduceAdd,s'a,s'z,s's] at ha
   subst ha
   replace hlt:j1<11:=hlt
   rcases (show j1=0∨j1=1∨j1=2∨j1=3∨j1=4∨j1=5∨j1=6∨j1=7∨j1=8∨j1=9∨j1=10 by omega) with rfl | rfl | rfl | rfl | rfl | rfl | rfl | rfl | rfl | rfl | rfl
   ·refine w'k rfl fun K' hK => ?_
    go_wp2
    exact hK.out _ _ ⟨_,rfl,(by rw[contD_skip 0 rfl];exact hI),StF.refl _ _,WV.known (by decide) rfl⟩
   ·have d0:t 0=.pointer (some ⟨gp,0,none⟩):=(hd 0 (by kernel_rfl)).2.2 _ rfl
    rw[d0]
    have y0:=P0 W hI.1
    refine w'k rfl fun K' hK => ?_
    go_wp2
    exact hK.out _ _ ⟨_,rfl,(by rw[contD_skip 1 rfl];exact hI),StF.refl _ _,WV.known (by decide) rfl⟩
   ·refine w'k rfl fun K' hK => ?_
    go_wp2
    exact hK.out _ _ ⟨_,rfl,(by rw[contD_skip 2 rfl];exact hI),StF.refl _ _,WV.known (by decide) rfl⟩
   ·have d2:t 2=.pointer (some ⟨gb,0,none⟩):=(hd 2 (by kernel_rfl)).2.2 _ rfl
    rw[d2]
    have y0:=B0 W hI.1
    refine w'k rfl fun K' hK => ?_
    go_wp2
    exact hK.out _ _ ⟨_,rfl,(by rw[contD_skip 3 rfl];exact hI),StF.refl _ _,WV.known (by decide) rfl⟩
   ·have d3:t 3=.int .u8 fl:=(hd 3 (by kernel_rfl)).2.2 _ rfl
    rw[d3]
    refine w'k rfl fun K' hK => ?_
    have hI0:=h'd hI
    clear hI
    go_wp2
    exact hK.out _ _ ⟨_,rfl,(by rw[contD_skip 4 rfl];exact hI0.out.alloc HL.out _),StF.alloc hI0.out.2.lt _,⟨fun _=>⟨W.heap.size,rfl,Blk.new _ _ _,hI0.out.2.new_free _⟩,fun u hu=>by cases hu⟩⟩
   ·have d1:t 1=.pointer (some ⟨b,0,none⟩):=(hd 1 (by kernel_rfl)).2.2 _ rfl
    rw[d1]
    obtain ⟨gg,d4,hbg,hfg⟩:=(hd 4 (by kernel_rfl)).2.1 rfl
    rw[d4]
    have n10:done 10=false:=by
     cases h:done 10 with
     | false=>rfl
     | true=>exact absurd (done_of_reach hcl 9 10 5 (by kernel_rfl) h) (by rw[hni];exact b'n)
    have hnx:=contD_next (bs:=[]) [] [(10,beN (ls.length:Int) 2)] ([fl,0]) 5 rfl rfl hni (fun s hs=>by simp only[List.mem_cons,List.not_mem_nil,or_false] at hs;subst hs;assumption)
    have hcl1:(contD ([]) [(5,[fl,0]),(10,beN (ls.length:Int) 2)] (andD done 5)).length≤0+4:=by
     have h:=contD_len ([]) [(5,[fl,0]),(10,beN (ls.length:Int) 2)] (andD done 5)
     rw[hsum1] at h
     exact h
    have hnx1:=congrArg List.length hnx
    rw[l'a] at hnx1
    simp only[List.nil_append] at hnx hnx1
    have hsl:=sl_blk8 (bs:=[fl,0]) hbg rfl (by simp[maxLen])
    have C:=put_room (Free W b) b most _ (gg+1) _ ([fl,0]) W hI.2.free (fun k hk=>hk.1) (by omega) hsl (by simp only[List.length_cons,List.length_nil] at hnx1 ⊢;omega)
    replace C:=h'd C
    refine w'k rfl fun K' hK => ?_
    have hI0:=h'd hI
    replace hnx:=h'd hnx
    clear hI hnx1 hcl1
    go_wp2_with (go_at_call 178;refine c'm C.out ?_;rintro x W2 ⟨rfl,k1,k2⟩)
    exact hK.out _ _ ⟨_,rfl,(by rw[hnx.out];exact hI0.out.call HL.out k1 k2),StF.call k1 k2,WV.known (by decide) rfl⟩
   ·refine w'k rfl fun K' hK => ?_
    go_wp2
    exact hK.out _ _ ⟨_,rfl,(by rw[contD_skip 6 rfl];exact hI),StF.refl _ _,WV.known (by decide) rfl⟩
   ·have d6:t 6=.pointer (some ⟨gb,0+1,none⟩):=(hd 6 (by kernel_rfl)).2.2 _ rfl
    rw[d6]
    have y0:=B1 W hI.1
    refine w'k rfl fun K' hK => ?_
    go_wp2
    exact hK.out _ _ ⟨_,rfl,(by rw[contD_skip 7 rfl];exact hI),StF.refl _ _,WV.known (by decide) rfl⟩
   ·have d7:t 7=.slice A1 ls.length c1:=(hd 7 (by kernel_rfl)).2.2 _ rfl
    rw[d7]
    refine w'k rfl fun K' hK => ?_
    go_wp2
    exact hK.out _ _ ⟨_,rfl,(by rw[contD_skip 8 rfl];exact hI),StF.refl _ _,WV.known (by decide) rfl⟩
   ·have d8:t 8=.int .i64 ls.length:=(hd 8 (by kernel_rfl)).2.2 _ rfl
    rw[d8]
    refine w'k rfl fun K' hK => ?_
    go_wp2
    exact hK.out _ _ ⟨_,rfl,(by rw[contD_skip 9 rfl];exact hI),StF.refl _ _,WV.known (by decide) rfl⟩
   ·have d5:t 5=.pointer (some ⟨b,0,none⟩):=(hd 5 (by kernel_rfl)).2.2 _ rfl
    rw[d5]
    have d9:t 9=.int .u32 ls.length:=(hd 9 (by kernel_rfl)).2.2 _ rfl
    rw[d9]
    have hnx:=contD_next (bs:=[]) [(5,[fl,0])] [] (beN (ls.length:Int) 2) 10 rfl rfl hni (fun s hs=>by cases hs)
    have hcl1:(contD ([]) [(5,[fl,0]),(10,beN (ls.length:Int) 2)] (andD done 10)).length≤0+4:=by
     have h:=contD_len ([]) [(5,[fl,0]),(10,beN (ls.length:Int) 2)] (andD done 10)
     rw[hsum1] at h
     exact h
    have hnx1:=congrArg List.length hnx
    rw[l'a] at hnx1
    simp only[List.nil_append,List.cons_append] at hnx hnx1
    have hbl:(beN (ls.length:Int) 2).length=2:=beN_len _ _ (by omega)
    have C:=num2 (Free W b) b most _ (ls.length:Int) h28 W hI.2.free (fun k hk=>hk.1) hm (by omega)
    replace C:=h'd C
    refine w'k rfl fun K' hK => ?_
    have hI0:=h'd hI
    replace hnx:=h'd hnx
    clear hI hnx1 hcl1
    go_wp2_with (go_at_call 184;refine c'm C.out ?_;rintro x W2 ⟨rfl,k1,k2⟩)
    exact hK.out _ _ ⟨_,rfl,(by rw[hnx.out];exact hI0.out.call HL.out k1 k2),StF.call k1 k2,WV.known (by decide) rfl⟩
  ·intro done t W a' hI hall ha hv
   simp only[putFrom,Act.put,Nat.reduceAdd,s'a,s'z,s's] at ha
   subst ha
   rw[contD_all (fun s hs=>by simp only[List.mem_cons,List.not_mem_nil,or_false] at hs;rcases hs with rfl | rfl <;> first | exact hall 5 (by decide) | exact hall 10 (by decide))] at hI
   simp only[List.flatMap_cons,List.flatMap_nil,List.append_nil] at hI
   have vv:∀ i,i<11→∀ u,[some (.pointer (some ⟨gp,0,none⟩)),some (.pointer (some ⟨b,0,none⟩)),some (.pointer (some ⟨gb,0,none⟩)),some (.int .u8 fl),none,some (.pointer (some ⟨b,0,none⟩)),some (.pointer (some ⟨gb,0+1,none⟩)),some (.slice A1 ls.length c1),some (.int .i64 ls.length),some (.int .u32 ls.length),some (.pointer (some ⟨b,0,none⟩))][i]?=some (some u)→t i=u:=fun i hi u hu=>(hv i hi).2 u hu
   rw[vv 0 (by decide) _ rfl]
   rw[vv 1 (by decide) _ rfl]
   rw[vv 2 (by decide) _ rfl]
   rw[vv 3 (by decide) _ rfl]
   rw[vv 5 (by decide) _ rfl]
   rw[vv 6 (by decide) _ rfl]
   rw[vv 7 (by decide) _ rfl]
   rw[vv 8 (by decide) _ rfl]
   rw[vv 9 (by decide) _ rfl]
   rw[vv 10 (by decide) _ rfl]
   obtain ⟨gg,dgg,-⟩:=(hv 4 (by decide)).1 rfl
   rw[dgg]
   clear hv hall vv
   go_wp2_with fail
   go_meet
   case rel=>exact hI
 case rest =>
  obtain ⟨w2,rfl⟩:∃ x:World,x=wc:=⟨_,rfl⟩
  have y1:=B1 w2 hcut.1
  have hcu:=h'd hcut
  clear hcut
  go_wp2_with fail
  clear y1
  go_loopg [20] ls.length (fun m iv wr=>∃ k:Nat,k≤ls.length∧m=ls.length-k∧iv=.int .i64 k∧WI K2 w1 b most (([fl,0]++beN (ls.length:Int) 2)++(ls.take k).flatMap linkB) wr)
  case atStart=>exact ⟨0,Nat.zero_le _,rfl,rfl,by rw[List.take_zero,List.flatMap_nil,List.append_nil];exact hcu.out⟩
  case round =>
   obtain ⟨k,hk,rfl,rfl,hI⟩:=hrel
   obtain ⟨w3,rfl⟩:∃ x:World,x=wr:=⟨_,rfl⟩
   by_cases hkl:k<ls.length
   ·obtain ⟨bq,off,rfl,hb4,hrow⟩:=Sl.row linkC_len (hI.1.sl (fun k hk=>e2 _ (hBK k hk)) hs2) hkl
    have ik:(k:Int)<(ls.length:Int):=by omega
    have hrg:w3.rangeAt bq (off+k*4) (linkC ls[k]):=hrow
    have hxo:=hok _ (g'm hkl)
    have htk:ls.take (k+1)=ls.take k++[ls[k]]:=t'k hkl
    generalize ls[k]=xx at hrg hxo htk
    have hcl0:(([fl,0]++beN (ls.length:Int) 2)++(ls.take k).flatMap linkB).length=4+12*k:=by
     rw[l'a,links_len,List.length_take,l'a,beN_len _ _ (by omega)]
     simp only[List.length_cons,List.length_nil]
     omega
    have hcn:([fl,0]++beN (ls.length:Int) 2)++(ls.take (k+1)).flatMap linkB=(([fl,0]++beN (ls.length:Int) 2)++(ls.take k).flatMap linkB)++linkB xx:=by rw[htk,List.flatMap_append,List.append_assoc];simp
    replace hcn:=h'd hcn
    generalize ([fl,0]++beN (ls.length:Int) 2)++(ls.take k).flatMap linkB=cont at hI hcl0 hcn
    replace htk:=h'd htk
    obtain ⟨hi1,hi2,hi3,hi4⟩:=hxo
    obtain ⟨x1,x2,x3,x4⟩:=xx
    dsimp only[linkC] at hi1 hi2 hi3 hi4 hrg
    replace hrow:=h'd hrow
    have hkK:=hI.alloc kL (.cells #[.int .u32 x1,.int .u32 x2,.int .u8 x3,.int .u16 x4] 99)
    have hKa:=hI.2.add (.cells #[.int .u32 x1,.int .u32 x2,.int .u8 x3,.int .u16 x4] 99)
    have jx:Blk (w3.alloc (.cells #[.int .u32 x1,.int .u32 x2,.int .u8 x3,.int .u16 x4] 99)) w3.heap.size 99 #[.int .u32 x1,.int .u32 x2,.int .u8 x3,.int .u16 x4]:=Blk.new _ _ _
    have hz3:(w3.alloc (.cells #[.int .u32 x1,.int .u32 x2,.int .u8 x3,.int .u16 x4] 99)).heap.size=w3.heap.size+1:=by simp
    have hzz:=hI.1.size
    clear hI
    go_upto_region 5 with (refine wpList_load_mid rfl 99 (.tmp 22) rfl bq (off+k*4) rfl [.int .u32 x1,.int .u32 x2,.int .u8 x3,.int .u16 x4] _ hrg Tryz.underlying99 rfl (by kernel_rfl) ?_)
    generalize w3.alloc (.cells #[.int .u32 x1,.int .u32 x2,.int .u8 x3,.int .u16 x4] 99)=wx at hkK hKa jx hz3 ⊢
    generalize w3.heap.size=gx at hKa jx hz3 hzz ⊢
    obtain ⟨K3,hK3⟩:∃ K3:Nat→Prop,K3=fun k=>K2 k∨k=gx:=⟨_,rfl⟩
    rw[←hK3] at hKa
    have e03:K3 gp:=by rw[hK3];exact .inl e0
    have e33:K3 gx:=by rw[hK3];exact .inr rfl
    have e23:∀ k,K2 k→K3 k:=fun k hk=>by rw[hK3];exact .inl hk
    have kL3:∀ j,K3 j→j<wx.heap.size:=fun j hj=>by
     rw[hK3] at hj
     rcases hj with h | h
     ·have:=HL.out j h
      omega
     ·omega
    have HI3:WI K3 wx b most cont wx:=⟨Keep.refl _ _,hKa⟩
    have HL3:=h'd kL3
    have Q0:∀ W,Keep K3 wx W→W.cell? ⟨gp,0,none⟩=some (.pointer (some ⟨b,0,none⟩)):=fun W h=>(h.cell (p:=⟨gp,0,none⟩) e03).trans (P0 wx hkK.1)
    have X0:∀ W,Keep K3 wx W→W.cell? ⟨gx,0,none⟩=some (.int .u32 x1):=fun W h=>(h.cell (p:=⟨gx,0,none⟩) e33).trans (jx.cell 0)
    have X1:∀ W,Keep K3 wx W→W.cell? ⟨gx,1,none⟩=some (.int .u32 x2):=fun W h=>(h.cell (p:=⟨gx,1,none⟩) e33).trans (jx.cell 1)
    have X2:∀ W,Keep K3 wx W→W.cell? ⟨gx,2,none⟩=some (.int .u8 x3):=fun W h=>(h.cell (p:=⟨gx,2,none⟩) e33).trans (jx.cell 2)
    have X3:∀ W,Keep K3 wx W→W.cell? ⟨gx,3,none⟩=some (.int .u16 x4):=fun W h=>(h.cell (p:=⟨gx,3,none⟩) e33).trans (jx.cell 3)
    have wc4:IntKind.u32.wrap x4=x4:=by rw[IntKind.wrap_u32];omega
    have hsum2:([(4,beN x1 4),(7,beN x2 4),(11,[x3,0]),(15,beN x4 2)].map fun s:Nat × List Int=>s.2.length).sum=12:=by simp[beN_len]
    replace hkK:=h'd hkK
    clear hK3 jx hKa hrg hz3 hzz e03 e33 kL3
    refine wp_region_deps [some 24,some 25,some 26,some 27,some 28,some 29,some 30,some 31,some 32,some 33,some 34,some 35,some 36,some 37,some 38,some 39] (fun done W=>WI K3 wx b most (contD cont [(4,beN x1 4),(7,beN x2 4),(11,[x3,0]),(15,beN x4 2)] done) W) (StF b) id (WV b 10 2 #[.int .u8 x3,.int .u8 0] [some (.pointer (some ⟨gp,0,none⟩)),some (.pointer (some ⟨b,0,none⟩)),some (.pointer (some ⟨gx,0,none⟩)),some (.int .u32 x1),some (.pointer (some ⟨b,0,none⟩)),some (.pointer (some ⟨gx,0+1,none⟩)),some (.int .u32 x2),some (.pointer (some ⟨b,0,none⟩)),some (.pointer (some ⟨gx,0+2,none⟩)),some (.int .u8 x3),none,some (.pointer (some ⟨b,0,none⟩)),some (.pointer (some ⟨gx,0+3,none⟩)),some (.int .u16 x4),some (.int .u32 x4),some (.pointer (some ⟨b,0,none⟩))]) hmix (by kernel_rfl) rfl (by decide) (by kernel_rfl) WV.turn (by rw[contD_none];exact HI3.drew) ?_ ?_
    ·intro done t W a' hI ha hcl j1 hlt hni hd
     simp only[putFrom,Act.put,Nat.reduceAdd,s'a,s'z,s's] at ha
     subst ha
     replace hlt:j1<16:=hlt
     rcases (show j1=0∨j1=1∨j1=2∨j1=3∨j1=4∨j1=5∨j1=6∨j1=7∨j1=8∨j1=9∨j1=10∨j1=11∨j1=12∨j1=13∨j1=14∨j1=15 by omega) with rfl | rfl | rfl | rfl | rfl | rfl | rfl | rfl | rfl | rfl | rfl | rfl | rfl | rfl | rfl | rfl
     ·refine w'k rfl fun K' hK => ?_
      go_wp2
      exact hK.out _ _ ⟨_,rfl,(by rw[contD_skip 0 rfl];exact hI),StF.refl _ _,WV.known (by decide) rfl⟩
     ·have d0:t 0=.pointer (some ⟨gp,0,none⟩):=(hd 0 (by kernel_rfl)).2.2 _ rfl
      rw[d0]
      have y0:=Q0 W hI.1
      refine w'k rfl fun K' hK => ?_
      go_wp2
      exact hK.out _ _ ⟨_,rfl,(by rw[contD_skip 1 rfl];exact hI),StF.refl _ _,WV.known (by decide) rfl⟩
     ·refine w'k rfl fun K' hK => ?_
      go_wp2
      exact hK.out _ _ ⟨_,rfl,(by rw[contD_skip 2 rfl];exact hI),StF.refl _ _,WV.known (by decide) rfl⟩
     ·have d2:t 2=.pointer (some ⟨gx,0,none⟩):=(hd 2 (by kernel_rfl)).2.2 _ rfl
      rw[d2]
      have y0:=X0 W hI.1
      refine w'k rfl fun K' hK => ?_
      go_wp2
      exact hK.out _ _ ⟨_,rfl,(by rw[contD_skip 3 rfl];exact hI),StF.refl _ _,WV.known (by decide) rfl⟩
     ·have d1:t 1=.pointer (some ⟨b,0,none⟩):=(hd 1 (by kernel_rfl)).2.2 _ rfl
      rw[d1]
      have d3:t 3=.int .u32 x1:=(hd 3 (by kernel_rfl)).2.2 _ rfl
      rw[d3]
      have n7:done 7=false:=by
       cases h:done 7 with
       | false=>rfl
       | true=>exact absurd (done_of_reach hcl 9 7 4 (by kernel_rfl) h) (by rw[hni];exact b'n)
      have n11:done 11=false:=by
       cases h:done 11 with
       | false=>rfl
       | true=>exact absurd (done_of_reach hcl 9 11 4 (by kernel_rfl) h) (by rw[hni];exact b'n)
      have n15:done 15=false:=by
       cases h:done 15 with
       | false=>rfl
       | true=>exact absurd (done_of_reach hcl 9 15 4 (by kernel_rfl) h) (by rw[hni];exact b'n)
      have hnx:=contD_next (bs:=cont) [] [(7,beN x2 4),(11,[x3,0]),(15,beN x4 2)] (beN x1 4) 4 rfl rfl hni (fun s hs=>by simp only[List.mem_cons,List.not_mem_nil,or_false] at hs;rcases hs with rfl | rfl | rfl <;> assumption)
      have hcl1:(contD (cont) [(4,beN x1 4),(7,beN x2 4),(11,[x3,0]),(15,beN x4 2)] (andD done 4)).length≤cont.length+12:=by
       have h:=contD_len (cont) [(4,beN x1 4),(7,beN x2 4),(11,[x3,0]),(15,beN x4 2)] (andD done 4)
       rw[hsum2] at h
       exact h
      have hnx1:=congrArg List.length hnx
      rw[l'a] at hnx1
      simp only[List.nil_append] at hnx hnx1
      have hbl:(beN x1 4).length=4:=beN_len _ _ (by omega)
      have C:=num4 (Free W b) b most _ x1 hi1 W hI.2.free (fun k hk=>hk.1) hm (by omega)
      replace C:=h'd C
      refine w'k rfl fun K' hK => ?_
      have hI0:=h'd hI
      replace hnx:=h'd hnx
      clear hI hnx1 hcl1
      go_wp2_with (go_at_call 184;refine c'm C.out ?_;rintro x W2 ⟨rfl,k1,k2⟩)
      exact hK.out _ _ ⟨_,rfl,(by rw[hnx.out];exact hI0.out.call HL3.out k1 k2),StF.call k1 k2,WV.known (by decide) rfl⟩
     ·refine w'k rfl fun K' hK => ?_
      go_wp2
      exact hK.out _ _ ⟨_,rfl,(by rw[contD_skip 5 rfl];exact hI),StF.refl _ _,WV.known (by decide) rfl⟩
     ·have d5:t 5=.pointer (some ⟨gx,0+1,none⟩):=(hd 5 (by kernel_rfl)).2.2 _ rfl
      rw[d5]
      have y0:=X1 W hI.1
      refine w'k rfl fun K' hK => ?_
      go_wp2
      exact hK.out _ _ ⟨_,rfl,(by rw[contD_skip 6 rfl];exact hI),StF.refl _ _,WV.known (by decide) rfl⟩
     ·have d4:t 4=.pointer (some ⟨b,0,none⟩):=(hd 4 (by kernel_rfl)).2.2 _ rfl
      rw[d4]
      have d6:t 6=.int .u32 x2:=(hd 6 (by kernel_rfl)).2.2 _ rfl
      rw[d6]
      have n11:done 11=false:=by
       cases h:done 11 with
       | false=>rfl
       | true=>exact absurd (done_of_reach hcl 9 11 7 (by kernel_rfl) h) (by rw[hni];exact b'n)
      have n15:done 15=false:=by
       cases h:done 15 with
       | false=>rfl
       | true=>exact absurd (done_of_reach hcl 9 15 7 (by kernel_rfl) h) (by rw[hni];exact b'n)
      have hnx:=contD_next (bs:=cont) [(4,beN x1 4)] [(11,[x3,0]),(15,beN x4 2)] (beN x2 4) 7 rfl rfl hni (fun s hs=>by simp only[List.mem_cons,List.not_mem_nil,or_false] at hs;rcases hs with rfl | rfl <;> assumption)
      have hcl1:(contD (cont) [(4,beN x1 4),(7,beN x2 4),(11,[x3,0]),(15,beN x4 2)] (andD done 7)).length≤cont.length+12:=by
       have h:=contD_len (cont) [(4,beN x1 4),(7,beN x2 4),(11,[x3,0]),(15,beN x4 2)] (andD done 7)
       rw[hsum2] at h
       exact h
      have hnx1:=congrArg List.length hnx
      rw[l'a] at hnx1
      simp only[List.nil_append,List.cons_append] at hnx hnx1
      have hbl:(beN x2 4).length=4:=beN_len _ _ (by omega)
      have C:=num4 (Free W b) b most _ x2 hi2 W hI.2.free (fun k hk=>hk.1) hm (by omega)
      replace C:=h'd C
      refine w'k rfl fun K' hK => ?_
      have hI0:=h'd hI
      replace hnx:=h'd hnx
      clear hI hnx1 hcl1
      go_wp2_with (go_at_call 184;refine c'm C.out ?_;rintro x W2 ⟨rfl,k1,k2⟩)
      exact hK.out _ _ ⟨_,rfl,(by rw[hnx.out];exact hI0.out.call HL3.out k1 k2),StF.call k1 k2,WV.known (by decide) rfl⟩
     ·refine w'k rfl fun K' hK => ?_
      go_wp2
      exact hK.out _ _ ⟨_,rfl,(by rw[contD_skip 8 rfl];exact hI),StF.refl _ _,WV.known (by decide) rfl⟩
     ·have d8:t 8=.pointer (some ⟨gx,0+2,none⟩):=(hd 8 (by kernel_rfl)).2.2 _ rfl
      rw[d8]
      have y0:=X2 W hI.1
      refine w'k rfl fun K' hK => ?_
      go_wp2
      exact hK.out _ _ ⟨_,rfl,(by rw[contD_skip 9 rfl];exact hI),StF.refl _ _,WV.known (by decide) rfl⟩
     ·have d9:t 9=.int .u8 x3:=(hd 9 (by kernel_rfl)).2.2 _ rfl
      rw[d9]
      refine w'k rfl fun K' hK => ?_
      have hI0:=h'd hI
      clear hI
      go_wp2
      exact hK.out _ _ ⟨_,rfl,(by rw[contD_skip 10 rfl];exact hI0.out.alloc HL3.out _),StF.alloc hI0.out.2.lt _,⟨fun _=>⟨W.heap.size,rfl,Blk.new _ _ _,hI0.out.2.new_free _⟩,fun u hu=>by cases hu⟩⟩
     ·have d7:t 7=.pointer (some ⟨b,0,none⟩):=(hd 7 (by kernel_rfl)).2.2 _ rfl
      rw[d7]
      obtain ⟨gg,d10,hbg,hfg⟩:=(hd 10 (by kernel_rfl)).2.1 rfl
      rw[d10]
      have n15:done 15=false:=by
       cases h:done 15 with
       | false=>rfl
       | true=>exact absurd (done_of_reach hcl 9 15 11 (by kernel_rfl) h) (by rw[hni];exact b'n)
      have hnx:=contD_next (bs:=cont) [(4,beN x1 4),(7,beN x2 4)] [(15,beN x4 2)] ([x3,0]) 11 rfl rfl hni (fun s hs=>by simp only[List.mem_cons,List.not_mem_nil,or_false] at hs;subst hs;assumption)
      have hcl1:(contD (cont) [(4,beN x1 4),(7,beN x2 4),(11,[x3,0]),(15,beN x4 2)] (andD done 11)).length≤cont.length+12:=by
       have h:=contD_len (cont) [(4,beN x1 4),(7,beN x2 4),(11,[x3,0]),(15,beN x4 2)] (andD done 11)
       rw[hsum2] at h
       exact h
      have hnx1:=congrArg List.length hnx
      rw[l'a] at hnx1
      simp only[List.nil_append,List.cons_append] at hnx hnx1
      have hsl:=sl_blk8 (bs:=[x3,0]) hbg rfl (by simp[maxLen])
      have C:=put_room (Free W b) b most _ (gg+1) _ ([x3,0]) W hI.2.free (fun k hk=>hk.1) (by omega) hsl (by simp only[List.length_cons,List.length_nil] at hnx1 ⊢;omega)
      replace C:=h'd C
      refine w'k rfl fun K' hK => ?_
      have hI0:=h'd hI
      replace hnx:=h'd hnx
      clear hI hnx1 hcl1
      go_wp2_with (go_at_call 178;refine c'm C.out ?_;rintro x W2 ⟨rfl,k1,k2⟩)
      exact hK.out _ _ ⟨_,rfl,(by rw[hnx.out];exact hI0.out.call HL3.out k1 k2),StF.call k1 k2,WV.known (by decide) rfl⟩
     ·refine w'k rfl fun K' hK => ?_
      go_wp2
      exact hK.out _ _ ⟨_,rfl,(by rw[contD_skip 12 rfl];exact hI),StF.refl _ _,WV.known (by decide) rfl⟩
     ·have d12:t 12=.pointer (some ⟨gx,0+3,none⟩):=(hd 12 (by kernel_rfl)).2.2 _ rfl
      rw[d12]
      have y0:=X3 W hI.1
      refine w'k rfl fun K' hK => ?_
      go_wp2
      exact hK.out _ _ ⟨_,rfl,(by rw[contD_skip 13 rfl];exact hI),StF.refl _ _,WV.known (by decide) rfl⟩
     ·have d13:t 13=.int .u16 x4:=(hd 13 (by kernel_rfl)).2.2 _ rfl
      rw[d13]
      refine w'k rfl fun K' hK => ?_
      go_wp2
      exact hK.out _ _ ⟨_,rfl,(by rw[contD_skip 14 rfl];exact hI),StF.refl _ _,WV.known (by decide) rfl⟩
     ·have d11:t 11=.pointer (some ⟨b,0,none⟩):=(hd 11 (by kernel_rfl)).2.2 _ rfl
      rw[d11]
      have d14:t 14=.int .u32 x4:=(hd 14 (by kernel_rfl)).2.2 _ rfl
      rw[d14]
      have hnx:=contD_next (bs:=cont) [(4,beN x1 4),(7,beN x2 4),(11,[x3,0])] [] (beN x4 2) 15 rfl rfl hni (fun s hs=>by cases hs)
      have hcl1:(contD (cont) [(4,beN x1 4),(7,beN x2 4),(11,[x3,0]),(15,beN x4 2)] (andD done 15)).length≤cont.length+12:=by
       have h:=contD_len (cont) [(4,beN x1 4),(7,beN x2 4),(11,[x3,0]),(15,beN x4 2)] (andD done 15)
       rw[hsum2] at h
       exact h
      have hnx1:=congrArg List.length hnx
      rw[l'a] at hnx1
      simp only[List.nil_append,List.cons_append] at hnx hnx1
      have hbl:(beN x4 2).length=2:=beN_len _ _ (by omega)
      have C:=num2 (Free W b) b most _ x4 hi4 W hI.2.free (fun k hk=>hk.1) hm (by omega)
      replace C:=h'd C
      refine w'k rfl fun K' hK => ?_
      have hI0:=h'd hI
      replace hnx:=h'd hnx
      clear hI hnx1 hcl1
      go_wp2_with (go_at_call 184;refine c'm C.out ?_;rintro x W2 ⟨rfl,k1,k2⟩)
      exact hK.out _ _ ⟨_,rfl,(by rw[hnx.out];exact hI0.out.call HL3.out k1 k2),StF.call k1 k2,WV.known (by decide) rfl⟩
    ·intro done t W a' hI hall ha hv
     simp only[putFrom,Act.put,Nat.reduceAdd,s'a,s'z,s's] at ha
     subst ha
     rw[contD_all (fun s hs=>by simp only[List.mem_cons,List.not_mem_nil,or_false] at hs;rcases hs with rfl | rfl | rfl | rfl <;> first | exact hall 4 (by decide) | exact hall 7 (by decide) | exact hall 11 (by decide) | exact hall 15 (by decide))] at hI
     simp only[List.flatMap_cons,List.flatMap_nil,List.append_nil] at hI
     have vv:∀ i,i<16→∀ u,[some (.pointer (some ⟨gp,0,none⟩)),some (.pointer (some ⟨b,0,none⟩)),some (.pointer (some ⟨gx,0,none⟩)),some (.int .u32 x1),some (.pointer (some ⟨b,0,none⟩)),some (.pointer (some ⟨gx,0+1,none⟩)),some (.int .u32 x2),some (.pointer (some ⟨b,0,none⟩)),some (.pointer (some ⟨gx,0+2,none⟩)),some (.int .u8 x3),none,some (.pointer (some ⟨b,0,none⟩)),some (.pointer (some ⟨gx,0+3,none⟩)),some (.int .u16 x4),some (.int .u32 x4),some (.pointer (some ⟨b,0,none⟩))][i]?=some (some u)→t i=u:=fun i hi u hu=>(hv i hi).2 u hu
     rw[vv 0 (by decide) _ rfl]
     rw[vv 1 (by decide) _ rfl]
     rw[vv 2 (by decide) _ rfl]
     rw[vv 3 (by decide) _ rfl]
     rw[vv 4 (by decide) _ rfl]
     rw[vv 5 (by decide) _ rfl]
     rw[vv 6 (by decide) _ rfl]
     rw[vv 7 (by decide) _ rfl]
     rw[vv 8 (by decide) _ rfl]
     rw[vv 9 (by decide) _ rfl]
     rw[vv 11 (by decide) _ rfl]
     rw[vv 12 (by decide) _ rfl]
     rw[vv 13 (by decide) _ rfl]
     rw[vv 14 (by decide) _ rfl]
     rw[vv 15 (by decide) _ rfl]
     obtain ⟨gg,dgg,-⟩:=(hv 10 (by decide)).1 rfl
     rw[dgg]
     clear hv hall vv
     replace hI:=h'd hI
     go_wp2_with fail
     go_roundg (ls.length-(k+1))
     case measure=>omega
     case rel =>
      refine ⟨k+1,by omega,rfl,by go_num,?_⟩
      rw[hcn.out]
      exact ⟨hkK.out.1.trans (hI.out.1.mono e23),hI.out.2.less e23⟩
   ·obtain rfl:k=ls.length:=by omega
    rw[List.take_length] at hI
    go_wp2_with fail
    go_end0
    refine ⟨rfl,kK.trans (hI.1.mono e2),?_⟩
    have H:=hI.2.less e2
    simp only[List.append_assoc] at H
    exact H
set_option maxRecDepth 100000
set_option maxHeartbeats 4000000 in
theorem writeSum_any (K:Nat→Prop) (b:Nat) (most:Int) (w:World) (hW:Wr K w b most [] 0) (hK:∀ k,K k→k<w.heap.size) (hm:most≤140737488355320) (A1 A2 A3:Option Addr) (c1 c2 c3:Nat) (m k:Int) (hm0:0≤m∧m<4294967296) (hk0:0≤k∧k<4294967296) (hr:8≤most) :
  Calls Tryz.prog 155 #[.agg #[.pointer (some ⟨b,0,none⟩)],.agg (bodyC 0 A1 0 c1 m A2 0 c2 k false 0 0 A3 0 c3)] w fun x w'=>x=.returned (.tuple #[])∧Keep K w w'∧Wr K w' b most (beN m 4++beN k 4) 0:=by
 have hmix:(Tryz.prog).follows .mixedOrders=true:=by kernel_rfl
 have k0:Blk ((w.alloc (.cells #[.pointer (some ⟨b,0,none⟩)] 163)).alloc (.cells #[.int .u8 0,.slice A1 0 c1,.int .u32 m,.slice A2 0 c2,.int .u32 k,.bool false,.int .u32 0,.int .u32 0,.slice A3 0 c3] 81)) w.heap.size 163 #[.pointer (some ⟨b,0,none⟩)]:=(Blk.new _ _ _).alloc _
 have k1:Blk ((w.alloc (.cells #[.pointer (some ⟨b,0,none⟩)] 163)).alloc (.cells #[.int .u8 0,.slice A1 0 c1,.int .u32 m,.slice A2 0 c2,.int .u32 k,.bool false,.int .u32 0,.int .u32 0,.slice A3 0 c3] 81)) (w.heap.size+1) 81 #[.int .u8 0,.slice A1 0 c1,.int .u32 m,.slice A2 0 c2,.int .u32 k,.bool false,.int .u32 0,.int .u32 0,.slice A3 0 c3]:=heap_alloc2_new w _ _
 have kz:(((w.alloc (.cells #[.pointer (some ⟨b,0,none⟩)] 163)).alloc (.cells #[.int .u8 0,.slice A1 0 c1,.int .u32 m,.slice A2 0 c2,.int .u32 k,.bool false,.int .u32 0,.int .u32 0,.slice A3 0 c3] 81)):World).heap.size=w.heap.size+1+1:=by simp
 have kK:Keep K w ((w.alloc (.cells #[.pointer (some ⟨b,0,none⟩)] 163)).alloc (.cells #[.int .u8 0,.slice A1 0 c1,.int .u32 m,.slice A2 0 c2,.int .u32 k,.bool false,.int .u32 0,.int .u32 0,.slice A3 0 c3] 81)):=((Keep.refl _ _).alloc hK _).alloc (fun k hk=>by have:=hK k hk;simp;omega) _
 have kW:=(hW.add (.cells #[.pointer (some ⟨b,0,none⟩)] 163)).add (.cells #[.int .u8 0,.slice A1 0 c1,.int .u32 m,.slice A2 0 c2,.int .u32 k,.bool false,.int .u32 0,.int .u32 0,.slice A3 0 c3] 81)
 obtain ⟨K2,hK2⟩:∃ K2:Nat→Prop,K2=fun k=>(K k∨k=w.heap.size)∨k=(w.alloc (.cells #[.pointer (some ⟨b,0,none⟩)] 163)).heap.size:=⟨_,rfl⟩
 have e0:K2 w.heap.size:=by rw[hK2];exact .inl (.inr rfl)
 have e1:K2 (w.heap.size+1):=by rw[hK2];exact .inr (by simp)
 have e2:∀ k,K k→K2 k:=fun k hk=>by rw[hK2];exact .inl (.inl hk)
 have kL:∀ j,K2 j→j<(((w.alloc (.cells #[.pointer (some ⟨b,0,none⟩)] 163)).alloc (.cells #[.int .u8 0,.slice A1 0 c1,.int .u32 m,.slice A2 0 c2,.int .u32 k,.bool false,.int .u32 0,.int .u32 0,.slice A3 0 c3] 81)):World).heap.size:=fun j hj=>by
  rw[kz]
  rw[hK2] at hj
  rcases hj with (h | h) | h
  ·have:=hK j h;omega
  ·omega
  ·simp at h;omega
 rw[←hK2] at kW
 clear hK2
 have HI:WI K2 ((w.alloc (.cells #[.pointer (some ⟨b,0,none⟩)] 163)).alloc (.cells #[.int .u8 0,.slice A1 0 c1,.int .u32 m,.slice A2 0 c2,.int .u32 k,.bool false,.int .u32 0,.int .u32 0,.slice A3 0 c3] 81)) b most [] ((w.alloc (.cells #[.pointer (some ⟨b,0,none⟩)] 163)).alloc (.cells #[.int .u8 0,.slice A1 0 c1,.int .u32 m,.slice A2 0 c2,.int .u32 k,.bool false,.int .u32 0,.int .u32 0,.slice A3 0 c3] 81)):=⟨Keep.refl _ _,kW⟩
 go_enter Tryz.func155,Tryz.ntmps155
 go_upto_region 1 with fail
 generalize (w.alloc (.cells #[.pointer (some ⟨b,0,none⟩)] 163)).alloc (.cells #[.int .u8 0,.slice A1 0 c1,.int .u32 m,.slice A2 0 c2,.int .u32 k,.bool false,.int .u32 0,.int .u32 0,.slice A3 0 c3] 81)=w1 at k0 k1 kz kK kL HI ⊢
 clear hW kW
 have HL:=h'd kL
 have hz1:=kL _ e1
 obtain ⟨gp,hgp⟩:∃ g,g=w.heap.size:=⟨_,rfl⟩
 obtain ⟨gb,hgb⟩:∃ g,g=w.heap.size+1:=⟨_,rfl⟩
 rw[←hgp] at e0 k0 ⊢
 rw[←hgb] at e1 k1 hz1
 have hgb3:gp+1=gb:=by omega
 rw[hgb3]
 clear hgp hgb hgb3
 have P0:∀ W,Keep K2 w1 W→W.cell? ⟨gp,0,none⟩=some (.pointer (some ⟨b,0,none⟩)):=fun W h=>(h.cell (p:=⟨gp,0,none⟩) e0).trans (k0.cell 0)
 have B2:∀ W,Keep K2 w1 W→W.cell? ⟨gb,2,none⟩=some (.int .u32 m):=fun W h=>(h.cell (p:=⟨gb,2,none⟩) e1).trans (k1.cell 2)
 have B4:∀ W,Keep K2 w1 W→W.cell? ⟨gb,4,none⟩=some (.int .u32 k):=fun W h=>(h.cell (p:=⟨gb,4,none⟩) e1).trans (k1.cell 4)
 clear k0 k1 kz
 have hsum1:([(4,beN m 4),(7,beN k 4)].map fun s:Nat × List Int=>s.2.length).sum=8:=by simp[beN_len]
 refine wp_region_deps [some 4,some 5,some 6,some 7,some 8,some 9,some 10,some 11] (fun done W=>WI K2 w1 b most (contD [] [(4,beN m 4),(7,beN k 4)] done) W) (StF b) id (WV b 99 0 #[] [some (.pointer (some ⟨gp,0,none⟩)),some (.pointer (some ⟨b,0,none⟩)),some (.pointer (some ⟨gb,0+2,none⟩)),some (.int .u32 m),some (.pointer (some ⟨b,0,none⟩)),some (.pointer (some ⟨gb,0+4,none⟩)),some (.int .u32 k),some (.pointer (some ⟨b,0,none⟩))]) hmix (by kernel_rfl) rfl (by decide) (by kernel_rfl) WV.turn (by rw[contD_none];exact HI.drew) ?_ ?_
 ·intro done t W a' hI ha hcl j1 hlt hni hd
  simp only[putFrom,Act.put,Nat.reduceAdd,s'a,s'z,s's] at ha
  subst ha
  replace hlt:j1<8:=hlt
  rcases (show j1=0∨j1=1∨j1=2∨j1=3∨j1=4∨j1=5∨j1=6∨j1=7 by omega) with rfl | rfl | rfl | rfl | rfl | rfl | rfl | rfl
  ·refine w'k rfl fun K' hK => ?_
   go_wp2
   exact hK.out _ _ ⟨_,rfl,(by rw[contD_skip 0 rfl];exact hI),StF.refl _ _,WV.known (by decide) rfl⟩
  ·have d0:t 0=.pointer (some ⟨gp,0,none⟩):=(hd 0 (by kernel_rfl)).2.2 _ rfl
   rw[d0]
   have y0:=P0 W hI.1
   refine w'k rfl fun K' hK => ?_
   go_wp2
   exact hK.out _ _ ⟨_,rfl,(by rw[contD_skip 1 rfl];exact hI),StF.refl _ _,WV.known (by decide) rfl⟩
  ·refine w'k rfl fun K' hK => ?_
   go_wp2
   exact hK.out _ _ ⟨_,rfl,(by rw[contD_skip 2 rfl];exact hI),StF.refl _ _,WV.known (by decide) rfl⟩
  ·have d2:t 2=.pointer (some ⟨gb,0+2,none⟩):=(hd 2 (by kernel_rfl)).2.2 _ rfl
   rw[d2]
   have y0:=B2 W hI.1
   refine w'k rfl fun K' hK => ?_
   go_wp2
   exact hK.out _ _ ⟨_,rfl,(by rw[contD_skip 3 rfl];exact hI),StF.refl _ _,WV.known (by decide) rfl⟩
  ·have d1:t 1=.pointer (some ⟨b,0,none⟩):=(hd 1 (by kernel_rfl)).2.2 _ rfl
   rw[d1]
   have d3:t 3=.int .u32 m:=(hd 3 (by kernel_rfl)).2.2 _ rfl
   rw[d3]
   have n7:done 7=false:=by
    cases h:done 7 with
    | false=>rfl
    | true=>exact absurd (done_of_reach hcl 9 7 4 (by kernel_rfl) h) (by rw[hni];exact b'n)
   have hnx:=contD_next (bs:=[]) [] [(7,beN k 4)] (beN m 4) 4 rfl rfl hni (fun s hs=>by simp only[List.mem_cons,List.not_mem_nil,or_false] at hs;subst hs;assumption)
   have hcl1:(contD ([]) [(4,beN m 4),(7,beN k 4)] (andD done 4)).length≤0+8:=by
    have h:=contD_len ([]) [(4,beN m 4),(7,beN k 4)] (andD done 4)
    rw[hsum1] at h
    exact h
   have hnx1:=congrArg List.length hnx
   rw[l'a] at hnx1
   simp only[List.nil_append] at hnx hnx1
   have hbl:(beN m 4).length=4:=beN_len _ _ (by omega)
   have C:=num4 (Free W b) b most _ m hm0 W hI.2.free (fun k hk=>hk.1) hm (by omega)
   replace C:=h'd C
   refine w'k rfl fun K' hK => ?_
   have hI0:=h'd hI
   replace hnx:=h'd hnx
   clear hI hnx1 hcl1
   go_wp2_with (go_at_call 184;refine c'm C.out ?_;rintro x W2 ⟨rfl,k1,k2⟩)
   exact hK.out _ _ ⟨_,rfl,(by rw[hnx.out];exact hI0.out.call HL.out k1 k2),StF.call k1 k2,WV.known (by decide) rfl⟩
  ·refine w'k rfl fun K' hK => ?_
   go_wp2
   exact hK.out _ _ ⟨_,rfl,(by rw[contD_skip 5 rfl];exact hI),StF.refl _ _,WV.known (by decide) rfl⟩
  ·have d5:t 5=.pointer (some ⟨gb,0+4,none⟩):=(hd 5 (by kernel_rfl)).2.2 _ rfl
   rw[d5]
   have y0:=B4 W hI.1
   refine w'k rfl fun K' hK => ?_
   go_wp2
   exact hK.out _ _ ⟨_,rfl,(by rw[contD_skip 6 rfl];exact hI),StF.refl _ _,WV.known (by decide) rfl⟩
  ·have d4:t 4=.pointer (some ⟨b,0,none⟩):=(hd 4 (by kernel_rfl)).2.2 _ rfl
   rw[d4]
   have d6:t 6=.int .u32 k:=(hd 6 (by kernel_rfl)).2.2 _ rfl
   rw[d6]
   have hnx:=contD_next (bs:=[]) [(4,beN m 4)] [] (beN k 4) 7 rfl rfl hni (fun s hs=>by cases hs)
   have hcl1:(contD ([]) [(4,beN m 4),(7,beN k 4)] (andD done 7)).length≤0+8:=by
    have h:=contD_len ([]) [(4,beN m 4),(7,beN k 4)] (andD done 7)
    rw[hsum1] at h
    exact h
   have hnx1:=congrArg List.length hnx
   rw[l'a] at hnx1
   simp only[List.nil_append,List.cons_append] at hnx hnx1
   have hbl:(beN k 4).length=4:=beN_len _ _ (by omega)
   have C:=num4 (Free W b) b most _ k hk0 W hI.2.free (fun k hk=>hk.1) hm (by omega)
   replace C:=h'd C
   refine w'k rfl fun K' hK => ?_
   have hI0:=h'd hI
   replace hnx:=h'd hnx
   clear hI hnx1 hcl1
   go_wp2_with (go_at_call 184;refine c'm C.out ?_;rintro x W2 ⟨rfl,k1,k2⟩)
   exact hK.out _ _ ⟨_,rfl,(by rw[hnx.out];exact hI0.out.call HL.out k1 k2),StF.call k1 k2,WV.known (by decide) rfl⟩
 ·intro done t W a' hI hall ha hv
  simp only[putFrom,Act.put,Nat.reduceAdd,s'a,s'z,s's] at ha
  subst ha
  rw[contD_all (fun s hs=>by simp only[List.mem_cons,List.not_mem_nil,or_false] at hs;rcases hs with rfl | rfl <;> first | exact hall 4 (by decide) | exact hall 7 (by decide))] at hI
  simp only[List.flatMap_cons,List.flatMap_nil,List.append_nil] at hI
  have vv:∀ i,i<8→∀ u,[some (.pointer (some ⟨gp,0,none⟩)),some (.pointer (some ⟨b,0,none⟩)),some (.pointer (some ⟨gb,0+2,none⟩)),some (.int .u32 m),some (.pointer (some ⟨b,0,none⟩)),some (.pointer (some ⟨gb,0+4,none⟩)),some (.int .u32 k),some (.pointer (some ⟨b,0,none⟩))][i]?=some (some u)→t i=u:=fun i hi u hu=>(hv i hi).2 u hu
  rw[vv 0 (by decide) _ rfl]
  rw[vv 1 (by decide) _ rfl]
  rw[vv 2 (by decide) _ rfl]
  rw[vv 3 (by decide) _ rfl]
  rw[vv 4 (by decide) _ rfl]
  rw[vv 5 (by decide) _ rfl]
  rw[vv 6 (by decide) _ rfl]
  rw[vv 7 (by decide) _ rfl]
  clear hv hall vv
  replace hI:=h'd hI
  go_end0
  refine ⟨rfl,kK.trans (hI.out.1.mono e2),?_⟩
  have H:=hI.out.2.less e2
  simp only[List.nil_append] at H
  exact H
set_option maxHeartbeats 4000000 in
theorem writeOut_any (K:Nat→Prop) (b:Nat) (most:Int) (w:World) (hW:Wr K w b most [] 0) (hK:∀ k,K k→k<w.heap.size) (hm:most≤140737488355320) (A1 A2 A3:Option Addr) (c1 c2 c3:Nat) (m k:Int) (t2:Bool) (fw tg:Int) (hm0:0≤m∧m<4294967296) (hk0:0≤k∧k<16777216) (hf0:0≤fw∧fw<4294967296) (ht0:0≤tg∧tg<4294967296) (hr:16≤most) :
  Calls Tryz.prog 157 #[.agg #[.pointer (some ⟨b,0,none⟩)],.agg (bodyC 0 A1 0 c1 m A2 0 c2 k t2 fw tg A3 0 c3)] w fun x w'=>x=.returned (.tuple #[])∧Keep K w w'∧Wr K w' b most (beN m 4++([if t2 then 128 else 0]++(beN k 3++(beN fw 4++beN tg 4)))) 0:=by
 obtain ⟨kd,hkd⟩:∃ x:Int,x=if t2 then 128 else 0:=⟨_,rfl⟩
 rw[←hkd]
 have hmix:(Tryz.prog).follows .mixedOrders=true:=by kernel_rfl
 have k0:Blk ((w.alloc (.cells #[.pointer (some ⟨b,0,none⟩)] 163)).alloc (.cells #[.int .u8 0,.slice A1 0 c1,.int .u32 m,.slice A2 0 c2,.int .u32 k,.bool t2,.int .u32 fw,.int .u32 tg,.slice A3 0 c3] 81)) w.heap.size 163 #[.pointer (some ⟨b,0,none⟩)]:=(Blk.new _ _ _).alloc _
 have k1:Blk ((w.alloc (.cells #[.pointer (some ⟨b,0,none⟩)] 163)).alloc (.cells #[.int .u8 0,.slice A1 0 c1,.int .u32 m,.slice A2 0 c2,.int .u32 k,.bool t2,.int .u32 fw,.int .u32 tg,.slice A3 0 c3] 81)) (w.heap.size+1) 81 #[.int .u8 0,.slice A1 0 c1,.int .u32 m,.slice A2 0 c2,.int .u32 k,.bool t2,.int .u32 fw,.int .u32 tg,.slice A3 0 c3]:=heap_alloc2_new w _ _
 have kz:(((w.alloc (.cells #[.pointer (some ⟨b,0,none⟩)] 163)).alloc (.cells #[.int .u8 0,.slice A1 0 c1,.int .u32 m,.slice A2 0 c2,.int .u32 k,.bool t2,.int .u32 fw,.int .u32 tg,.slice A3 0 c3] 81)):World).heap.size=w.heap.size+1+1:=by simp
 have kK:Keep K w ((w.alloc (.cells #[.pointer (some ⟨b,0,none⟩)] 163)).alloc (.cells #[.int .u8 0,.slice A1 0 c1,.int .u32 m,.slice A2 0 c2,.int .u32 k,.bool t2,.int .u32 fw,.int .u32 tg,.slice A3 0 c3] 81)):=((Keep.refl _ _).alloc hK _).alloc (fun k hk=>by have:=hK k hk;simp;omega) _
 have kW:=(hW.add (.cells #[.pointer (some ⟨b,0,none⟩)] 163)).add (.cells #[.int .u8 0,.slice A1 0 c1,.int .u32 m,.slice A2 0 c2,.int .u32 k,.bool t2,.int .u32 fw,.int .u32 tg,.slice A3 0 c3] 81)
 obtain ⟨K2,hK2⟩:∃ K2:Nat→Prop,K2=fun k=>(K k∨k=w.heap.size)∨k=(w.alloc (.cells #[.pointer (some ⟨b,0,none⟩)] 163)).heap.size:=⟨_,rfl⟩
 have e0:K2 w.heap.size:=by rw[hK2];exact .inl (.inr rfl)
 have e1:K2 (w.heap.size+1):=by rw[hK2];exact .inr (by simp)
 have e2:∀ k,K k→K2 k:=fun k hk=>by rw[hK2];exact .inl (.inl hk)
 have kL:∀ j,K2 j→j<(((w.alloc (.cells #[.pointer (some ⟨b,0,none⟩)] 163)).alloc (.cells #[.int .u8 0,.slice A1 0 c1,.int .u32 m,.slice A2 0 c2,.int .u32 k,.bool t2,.int .u32 fw,.int .u32 tg,.slice A3 0 c3] 81)):World).heap.size:=fun j hj=>by
  rw[kz]
  rw[hK2] at hj
  rcases hj with (h | h) | h
  ·have:=hK j h;omega
  ·omega
  ·simp at h;omega
 rw[←hK2] at kW
 clear hK2
 have HI:WI K2 ((w.alloc (.cells #[.pointer (some ⟨b,0,none⟩)] 163)).alloc (.cells #[.int .u8 0,.slice A1 0 c1,.int .u32 m,.slice A2 0 c2,.int .u32 k,.bool t2,.int .u32 fw,.int .u32 tg,.slice A3 0 c3] 81)) b most [] ((w.alloc (.cells #[.pointer (some ⟨b,0,none⟩)] 163)).alloc (.cells #[.int .u8 0,.slice A1 0 c1,.int .u32 m,.slice A2 0 c2,.int .u32 k,.bool t2,.int .u32 fw,.int .u32 tg,.slice A3 0 c3] 81)):=⟨Keep.refl _ _,kW⟩
 go_enter Tryz.func157,Tryz.ntmps157
 go_upto_region 1 with fail
 generalize (w.alloc (.cells #[.pointer (some ⟨b,0,none⟩)] 163)).alloc (.cells #[.int .u8 0,.slice A1 0 c1,.int .u32 m,.slice A2 0 c2,.int .u32 k,.bool t2,.int .u32 fw,.int .u32 tg,.slice A3 0 c3] 81)=w1 at k0 k1 kz kK kL HI ⊢
 clear hW kW
 have HL:=h'd kL
 have hz1:=kL _ e1
 obtain ⟨gp,hgp⟩:∃ g,g=w.heap.size:=⟨_,rfl⟩
 obtain ⟨gb,hgb⟩:∃ g,g=w.heap.size+1:=⟨_,rfl⟩
 rw[←hgp] at e0 k0 ⊢
 rw[←hgb] at e1 k1 hz1
 have hgb3:gp+1=gb:=by omega
 rw[hgb3]
 clear hgp hgb hgb3
 have P0:∀ W,Keep K2 w1 W→W.cell? ⟨gp,0,none⟩=some (.pointer (some ⟨b,0,none⟩)):=fun W h=>(h.cell (p:=⟨gp,0,none⟩) e0).trans (k0.cell 0)
 have B2:∀ W,Keep K2 w1 W→W.cell? ⟨gb,2,none⟩=some (.int .u32 m):=fun W h=>(h.cell (p:=⟨gb,2,none⟩) e1).trans (k1.cell 2)
 have B4:∀ W,Keep K2 w1 W→W.cell? ⟨gb,4,none⟩=some (.int .u32 k):=fun W h=>(h.cell (p:=⟨gb,4,none⟩) e1).trans (k1.cell 4)
 have B5:∀ W,Keep K2 w1 W→W.cell? ⟨gb,5,none⟩=some (.bool t2):=fun W h=>(h.cell (p:=⟨gb,5,none⟩) e1).trans (k1.cell 5)
 have B6:∀ W,Keep K2 w1 W→W.cell? ⟨gb,6,none⟩=some (.int .u32 fw):=fun W h=>(h.cell (p:=⟨gb,6,none⟩) e1).trans (k1.cell 6)
 have B7:∀ W,Keep K2 w1 W→W.cell? ⟨gb,7,none⟩=some (.int .u32 tg):=fun W h=>(h.cell (p:=⟨gb,7,none⟩) e1).trans (k1.cell 7)
 clear k0 k1 kz
 have y5:=B5 w1 (Keep.refl _ _)
 go_upto_if 6 with fail
 clear y5
 go_cut [4] (fun v wx=>v=.int .u8 kd∧WI K2 w1 b most [] wx)
 case first =>
  cases t2
  ·obtain rfl:kd=0:=hkd
   replace HI:=h'd HI
   go_wp2_with fail
   go_meet
   case rel=>exact ⟨rfl,HI.out⟩
  ·obtain rfl:kd=128:=hkd
   replace HI:=h'd HI
   go_wp2_with fail
   go_meet
   case rel=>exact ⟨rfl,HI.out⟩
 case rest =>
  clear hkd
  obtain ⟨rfl,hcu⟩:=hcut
  obtain ⟨w2,rfl⟩:∃ x:World,x=wc:=⟨_,rfl⟩
  go_upto_region 4 with fail
  have hsum1:([(4,beN m 4),(7,[kd]),(10,beN k 3),(13,beN fw 4),(16,beN tg 4)].map fun s:Nat × List Int=>s.2.length).sum=16:=by simp[beN_len]
  refine wp_region_deps [some 7,some 8,some 9,some 10,some 11,some 12,some 13,some 14,some 15,some 16,some 17,some 18,some 19,some 20,some 21,some 22,some 23] (fun done W=>WI K2 w1 b most (contD [] [(4,beN m 4),(7,[kd]),(10,beN k 3),(13,beN fw 4),(16,beN tg 4)] done) W) (StF b) id (WV b 6 1 #[.int .u8 kd] [some (.pointer (some ⟨gp,0,none⟩)),some (.pointer (some ⟨b,0,none⟩)),some (.pointer (some ⟨gb,0+2,none⟩)),some (.int .u32 m),some (.pointer (some ⟨b,0,none⟩)),some (.int .u8 kd),none,some (.pointer (some ⟨b,0,none⟩)),some (.pointer (some ⟨gb,0+4,none⟩)),some (.int .u32 k),some (.pointer (some ⟨b,0,none⟩)),some (.pointer (some ⟨gb,0+6,none⟩)),some (.int .u32 fw),some (.pointer (some ⟨b,0,none⟩)),some (.pointer (some ⟨gb,0+7,none⟩)),some (.int .u32 tg),some (.pointer (some ⟨b,0,none⟩))]) hmix (by kernel_rfl) rfl (by decide) (by kernel_rfl) WV.turn (by rw[contD_none];exact hcu.drew) ?_ ?_
  ·intro done t W a' hI ha hcl j1 hlt hni hd
   simp only[putFrom,Act.put,Nat.reduceAdd,s'a,s'z,s's] at ha
   subst ha
   replace hlt:j1<17:=hlt
   rcases (show j1=0∨j1=1∨j1=2∨j1=3∨j1=4∨j1=5∨j1=6∨j1=7∨j1=8∨j1=9∨j1=10∨j1=11∨j1=12∨j1=13∨j1=14∨j1=15∨j1=16 by omega) with rfl | rfl | rfl | rfl | rfl | rfl | rfl | rfl | rfl | rfl | rfl | rfl | rfl | rfl | rfl | rfl | rfl
   ·refine w'k rfl fun K' hK => ?_
    go_wp2
    exact hK.out _ _ ⟨_,rfl,(by rw[contD_skip 0 rfl];exact hI),StF.refl _ _,WV.known (by decide) rfl⟩
   ·have d0:t 0=.pointer (some ⟨gp,0,none⟩):=(hd 0 (by kernel_rfl)).2.2 _ rfl
    rw[d0]
    have y0:=P0 W hI.1
    refine w'k rfl fun K' hK => ?_
    go_wp2
    exact hK.out _ _ ⟨_,rfl,(by rw[contD_skip 1 rfl];exact hI),StF.refl _ _,WV.known (by decide) rfl⟩
   ·refine w'k rfl fun K' hK => ?_
    go_wp2
    exact hK.out _ _ ⟨_,rfl,(by rw[contD_skip 2 rfl];exact hI),StF.refl _ _,WV.known (by decide) rfl⟩
   ·have d2:t 2=.pointer (some ⟨gb,0+2,none⟩):=(hd 2 (by kernel_rfl)).2.2 _ rfl
    rw[d2]
    have y0:=B2 W hI.1
    refine w'k rfl fun K' hK => ?_
    go_wp2
    exact hK.out _ _ ⟨_,rfl,(by rw[contD_skip 3 rfl];exact hI),StF.refl _ _,WV.known (by decide) rfl⟩
   ·have d1:t 1=.pointer (some ⟨b,0,none⟩):=(hd 1 (by kernel_rfl)).2.2 _ rfl
    rw[d1]
    have d3:t 3=.int .u32 m:=(hd 3 (by kernel_rfl)).2.2 _ rfl
    rw[d3]
    have n7:done 7=false:=by
     cases h:done 7 with
     | false=>rfl
     | true=>exact absurd (done_of_reach hcl 9 7 4 (by kernel_rfl) h) (by rw[hni];exact b'n)
    have n10:done 10=false:=by
     cases h:done 10 with
     | false=>rfl
     | true=>exact absurd (done_of_reach hcl 9 10 4 (by kernel_rfl) h) (by rw[hni];exact b'n)
    have n13:done 13=false:=by
     cases h:done 13 with
     | false=>rfl
     | true=>exact absurd (done_of_reach hcl 9 13 4 (by kernel_rfl) h) (by rw[hni];exact b'n)
    have n16:done 16=false:=by
     cases h:done 16 with
     | false=>rfl
     | true=>exact absurd (done_of_reach hcl 9 16 4 (by kernel_rfl) h) (by rw[hni];exact b'n)
    have hnx:=contD_next (bs:=[]) [] [(7,[kd]),(10,beN k 3),(13,beN fw 4),(16,beN tg 4)] (beN m 4) 4 rfl rfl hni (fun s hs=>by simp only[List.mem_cons,List.not_mem_nil,or_false] at hs;rcases hs with rfl | rfl | rfl | rfl <;> assumption)
    have hcl1:(contD ([]) [(4,beN m 4),(7,[kd]),(10,beN k 3),(13,beN fw 4),(16,beN tg 4)] (andD done 4)).length≤0+16:=by
     have h:=contD_len ([]) [(4,beN m 4),(7,[kd]),(10,beN k 3),(13,beN fw 4),(16,beN tg 4)] (andD done 4)
     rw[hsum1] at h
     exact h
    have hnx1:=congrArg List.length hnx
    rw[l'a] at hnx1
    simp only[List.nil_append] at hnx hnx1
    have hbl:(beN m 4).length=4:=beN_len _ _ (by omega)
    have C:=num4 (Free W b) b most _ m hm0 W hI.2.free (fun k hk=>hk.1) hm (by omega)
    replace C:=h'd C
    refine w'k rfl fun K' hK => ?_
    have hI0:=h'd hI
    replace hnx:=h'd hnx
    clear hI hnx1 hcl1
    go_wp2_with (go_at_call 184;refine c'm C.out ?_;rintro x W2 ⟨rfl,k1,k2⟩)
    exact hK.out _ _ ⟨_,rfl,(by rw[hnx.out];exact hI0.out.call HL.out k1 k2),StF.call k1 k2,WV.known (by decide) rfl⟩
   ·refine w'k rfl fun K' hK => ?_
    go_wp2
    exact hK.out _ _ ⟨_,rfl,(by rw[contD_skip 5 rfl];exact hI),StF.refl _ _,WV.known (by decide) rfl⟩
   ·have d5:t 5=.int .u8 kd:=(hd 5 (by kernel_rfl)).2.2 _ rfl
    rw[d5]
    refine w'k rfl fun K' hK => ?_
    have hI0:=h'd hI
    clear hI
    go_wp2
    exact hK.out _ _ ⟨_,rfl,(by rw[contD_skip 6 rfl];exact hI0.out.alloc HL.out _),StF.alloc hI0.out.2.lt _,⟨fun _=>⟨W.heap.size,rfl,Blk.new _ _ _,hI0.out.2.new_free _⟩,fun u hu=>by cases hu⟩⟩
   ·have d4:t 4=.pointer (some ⟨b,0,none⟩):=(hd 4 (by kernel_rfl)).2.2 _ rfl
    rw[d4]
    obtain ⟨gg,d6,hbg,hfg⟩:=(hd 6 (by kernel_rfl)).2.1 rfl
    rw[d6]
    have n10:done 10=false:=by
     cases h:done 10 with
     | false=>rfl
     | true=>exact absurd (done_of_reach hcl 9 10 7 (by kernel_rfl) h) (by rw[hni];exact b'n)
    have n13:done 13=false:=by
     cases h:done 13 with
     | false=>rfl
     | true=>exact absurd (done_of_reach hcl 9 13 7 (by kernel_rfl) h) (by rw[hni];exact b'n)
    have n16:done 16=false:=by
     cases h:done 16 with
     | false=>rfl
     | true=>exact absurd (done_of_reach hcl 9 16 7 (by kernel_rfl) h) (by rw[hni];exact b'n)
    have hnx:=contD_next (bs:=[]) [(4,beN m 4)] [(10,beN k 3),(13,beN fw 4),(16,beN tg 4)] ([kd]) 7 rfl rfl hni (fun s hs=>by simp only[List.mem_cons,List.not_mem_nil,or_false] at hs;rcases hs with rfl | rfl | rfl <;> assumption)
    have hcl1:(contD ([]) [(4,beN m 4),(7,[kd]),(10,beN k 3),(13,beN fw 4),(16,beN tg 4)] (andD done 7)).length≤0+16:=by
     have h:=contD_len ([]) [(4,beN m 4),(7,[kd]),(10,beN k 3),(13,beN fw 4),(16,beN tg 4)] (andD done 7)
     rw[hsum1] at h
     exact h
    have hnx1:=congrArg List.length hnx
    rw[l'a] at hnx1
    simp only[List.nil_append,List.cons_append] at hnx hnx1
    have hsl:=sl_blk8 (bs:=[kd]) hbg rfl (by simp[maxLen])
    have C:=put_room (Free W b) b most _ (gg+1) _ ([kd]) W hI.2.free (fun k hk=>hk.1) (by omega) hsl (by simp only[List.length_cons,List.length_nil] at hnx1 ⊢;omega)
    replace C:=h'd C
    refine w'k rfl fun K' hK => ?_
    have hI0:=h'd hI
    replace hnx:=h'd hnx
    clear hI hnx1 hcl1
    go_wp2_with (go_at_call 178;refine c'm C.out ?_;rintro x W2 ⟨rfl,k1,k2⟩)
    exact hK.out _ _ ⟨_,rfl,(by rw[hnx.out];exact hI0.out.call HL.out k1 k2),StF.call k1 k2,WV.known (by decide) rfl⟩
   ·refine w'k rfl fun K' hK => ?_
    go_wp2
    exact hK.out _ _ ⟨_,rfl,(by rw[contD_skip 8 rfl];exact hI),StF.refl _ _,WV.known (by decide) rfl⟩
   ·have d8:t 8=.pointer (some ⟨gb,0+4,none⟩):=(hd 8 (by kernel_rfl)).2.2 _ rfl
    rw[d8]
    have y0:=B4 W hI.1
    refine w'k rfl fun K' hK => ?_
    go_wp2
    exact hK.out _ _ ⟨_,rfl,(by rw[contD_skip 9 rfl];exact hI),StF.refl _ _,WV.known (by decide) rfl⟩
   ·have d7:t 7=.pointer (some ⟨b,0,none⟩):=(hd 7 (by kernel_rfl)).2.2 _ rfl
    rw[d7]
    have d9:t 9=.int .u32 k:=(hd 9 (by kernel_rfl)).2.2 _ rfl
    rw[d9]
    have n13:done 13=false:=by
     cases h:done 13 with
     | false=>rfl
     | true=>exact absurd (done_of_reach hcl 9 13 10 (by kernel_rfl) h) (by rw[hni];exact b'n)
    have n16:done 16=false:=by
     cases h:done 16 with
     | false=>rfl
     | true=>exact absurd (done_of_reach hcl 9 16 10 (by kernel_rfl) h) (by rw[hni];exact b'n)
    have hnx:=contD_next (bs:=[]) [(4,beN m 4),(7,[kd])] [(13,beN fw 4),(16,beN tg 4)] (beN k 3) 10 rfl rfl hni (fun s hs=>by simp only[List.mem_cons,List.not_mem_nil,or_false] at hs;rcases hs with rfl | rfl <;> assumption)
    have hcl1:(contD ([]) [(4,beN m 4),(7,[kd]),(10,beN k 3),(13,beN fw 4),(16,beN tg 4)] (andD done 10)).length≤0+16:=by
     have h:=contD_len ([]) [(4,beN m 4),(7,[kd]),(10,beN k 3),(13,beN fw 4),(16,beN tg 4)] (andD done 10)
     rw[hsum1] at h
     exact h
    have hnx1:=congrArg List.length hnx
    rw[l'a] at hnx1
    simp only[List.nil_append,List.cons_append] at hnx hnx1
    have hbl:(beN k 3).length=3:=beN_len _ _ (by omega)
    have C:=num3 (Free W b) b most _ k hk0 W hI.2.free (fun k hk=>hk.1) hm (by omega)
    replace C:=h'd C
    refine w'k rfl fun K' hK => ?_
    have hI0:=h'd hI
    replace hnx:=h'd hnx
    clear hI hnx1 hcl1
    go_wp2_with (go_at_call 184;refine c'm C.out ?_;rintro x W2 ⟨rfl,k1,k2⟩)
    exact hK.out _ _ ⟨_,rfl,(by rw[hnx.out];exact hI0.out.call HL.out k1 k2),StF.call k1 k2,WV.known (by decide) rfl⟩
   ·refine w'k rfl fun K' hK => ?_
    go_wp2
    exact hK.out _ _ ⟨_,rfl,(by rw[contD_skip 11 rfl];exact hI),StF.refl _ _,WV.known (by decide) rfl⟩
   ·have d11:t 11=.pointer (some ⟨gb,0+6,none⟩):=(hd 11 (by kernel_rfl)).2.2 _ rfl
    rw[d11]
    have y0:=B6 W hI.1
    refine w'k rfl fun K' hK => ?_
    go_wp2
    exact hK.out _ _ ⟨_,rfl,(by rw[contD_skip 12 rfl];exact hI),StF.refl _ _,WV.known (by decide) rfl⟩
   ·have d10:t 10=.pointer (some ⟨b,0,none⟩):=(hd 10 (by kernel_rfl)).2.2 _ rfl
    rw[d10]
    have d12:t 12=.int .u32 fw:=(hd 12 (by kernel_rfl)).2.2 _ rfl
    rw[d12]
    have n16:done 16=false:=by
     cases h:done 16 with
     | false=>rfl
     | true=>exact absurd (done_of_reach hcl 9 16 13 (by kernel_rfl) h) (by rw[hni];exact b'n)
    have hnx:=contD_next (bs:=[]) [(4,beN m 4),(7,[kd]),(10,beN k 3)] [(16,beN tg 4)] (beN fw 4) 13 rfl rfl hni (fun s hs=>by simp only[List.mem_cons,List.not_mem_nil,or_false] at hs;subst hs;assumption)
    have hcl1:(contD ([]) [(4,beN m 4),(7,[kd]),(10,beN k 3),(13,beN fw 4),(16,beN tg 4)] (andD done 13)).length≤0+16:=by
     have h:=contD_len ([]) [(4,beN m 4),(7,[kd]),(10,beN k 3),(13,beN fw 4),(16,beN tg 4)] (andD done 13)
     rw[hsum1] at h
     exact h
    have hnx1:=congrArg List.length hnx
    rw[l'a] at hnx1
    simp only[List.nil_append,List.cons_append] at hnx hnx1
    have hbl:(beN fw 4).length=4:=beN_len _ _ (by omega)
    have C:=num4 (Free W b) b most _ fw hf0 W hI.2.free (fun k hk=>hk.1) hm (by omega)
    replace C:=h'd C
    refine w'k rfl fun K' hK => ?_
    have hI0:=h'd hI
    replace hnx:=h'd hnx
    clear hI hnx1 hcl1
    go_wp2_with (go_at_call 184;refine c'm C.out ?_;rintro x W2 ⟨rfl,k1,k2⟩)
    exact hK.out _ _ ⟨_,rfl,(by rw[hnx.out];exact hI0.out.call HL.out k1 k2),StF.call k1 k2,WV.known (by decide) rfl⟩
   ·refine w'k rfl fun K' hK => ?_
    go_wp2
    exact hK.out _ _ ⟨_,rfl,(by rw[contD_skip 14 rfl];exact hI),StF.refl _ _,WV.known (by decide) rfl⟩
   ·have d14:t 14=.pointer (some ⟨gb,0+7,none⟩):=(hd 14 (by kernel_rfl)).2.2 _ rfl
    rw[d14]
    have y0:=B7 W hI.1
    refine w'k rfl fun K' hK => ?_
    go_wp2
    exact hK.out _ _ ⟨_,rfl,(by rw[contD_skip 15 rfl];exact hI),StF.refl _ _,WV.known (by decide) rfl⟩
   ·have d13:t 13=.pointer (some ⟨b,0,none⟩):=(hd 13 (by kernel_rfl)).2.2 _ rfl
    rw[d13]
    have d15:t 15=.int .u32 tg:=(hd 15 (by kernel_rfl)).2.2 _ rfl
    rw[d15]
    have hnx:=contD_next (bs:=[]) [(4,beN m 4),(7,[kd]),(10,beN k 3),(13,beN fw 4)] [] (beN tg 4) 16 rfl rfl hni (fun s hs=>by cases hs)
    have hcl1:(contD ([]) [(4,beN m 4),(7,[kd]),(10,beN k 3),(13,beN fw 4),(16,beN tg 4)] (andD done 16)).length≤0+16:=by
     have h:=contD_len ([]) [(4,beN m 4),(7,[kd]),(10,beN k 3),(13,beN fw 4),(16,beN tg 4)] (andD done 16)
     rw[hsum1] at h
     exact h
    have hnx1:=congrArg List.length hnx
    rw[l'a] at hnx1
    simp only[List.nil_append,List.cons_append] at hnx hnx1
    have hbl:(beN tg 4).length=4:=beN_len _ _ (by omega)
    have C:=num4 (Free W b) b most _ tg ht0 W hI.2.free (fun k hk=>hk.1) hm (by omega)
    replace C:=h'd C
    refine w'k rfl fun K' hK => ?_
    have hI0:=h'd hI
    replace hnx:=h'd hnx
    clear hI hnx1 hcl1
    go_wp2_with (go_at_call 184;refine c'm C.out ?_;rintro x W2 ⟨rfl,k1,k2⟩)
    exact hK.out _ _ ⟨_,rfl,(by rw[hnx.out];exact hI0.out.call HL.out k1 k2),StF.call k1 k2,WV.known (by decide) rfl⟩
  ·intro done t W a' hI hall ha hv
   simp only[putFrom,Act.put,Nat.reduceAdd,s'a,s'z,s's] at ha
   subst ha
   rw[contD_all (fun s hs=>by simp only[List.mem_cons,List.not_mem_nil,or_false] at hs;rcases hs with rfl | rfl | rfl | rfl | rfl <;> first | exact hall 4 (by decide) | exact hall 7 (by decide) | exact hall 10 (by decide) | exact hall 13 (by decide) | exact hall 16 (by decide))] at hI
   simp only[List.flatMap_cons,List.flatMap_nil,List.append_nil] at hI
   have vv:∀ i,i<17→∀ u,[some (.pointer (some ⟨gp,0,none⟩)),some (.pointer (some ⟨b,0,none⟩)),some (.pointer (some ⟨gb,0+2,none⟩)),some (.int .u32 m),some (.pointer (some ⟨b,0,none⟩)),some (.int .u8 kd),none,some (.pointer (some ⟨b,0,none⟩)),some (.pointer (some ⟨gb,0+4,none⟩)),some (.int .u32 k),some (.pointer (some ⟨b,0,none⟩)),some (.pointer (some ⟨gb,0+6,none⟩)),some (.int .u32 fw),some (.pointer (some ⟨b,0,none⟩)),some (.pointer (some ⟨gb,0+7,none⟩)),some (.int .u32 tg),some (.pointer (some ⟨b,0,none⟩))][i]?=some (some u)→t i=u:=fun i hi u hu=>(hv i hi).2 u hu
   rw[vv 0 (by decide) _ rfl]
   rw[vv 1 (by decide) _ rfl]
   rw[vv 2 (by decide) _ rfl]
   rw[vv 3 (by decide) _ rfl]
   rw[vv 4 (by decide) _ rfl]
   rw[vv 5 (by decide) _ rfl]
   rw[vv 7 (by decide) _ rfl]
   rw[vv 8 (by decide) _ rfl]
   rw[vv 9 (by decide) _ rfl]
   rw[vv 10 (by decide) _ rfl]
   rw[vv 11 (by decide) _ rfl]
   rw[vv 12 (by decide) _ rfl]
   rw[vv 13 (by decide) _ rfl]
   rw[vv 14 (by decide) _ rfl]
   rw[vv 15 (by decide) _ rfl]
   rw[vv 16 (by decide) _ rfl]
   obtain ⟨gg,dgg,-⟩:=(hv 6 (by decide)).1 rfl
   rw[dgg]
   clear hv hall vv
   replace hI:=h'd hI
   go_end0
   refine ⟨rfl,kK.trans (hI.out.1.mono e2),?_⟩
   have H:=hI.out.2.less e2
   simp only[List.nil_append] at H
   exact H
set_option maxHeartbeats 4000000 in
theorem writeOpaque_any (K:Nat→Prop) (b:Nat) (most:Int) (w:World) (hW:Wr K w b most [] 0) (hK:∀ k,K k→k<w.heap.size) (hm:most≤140737488355320) (A1 A2 A3:Option Addr) (c1 c2 c3:Nat) (ds:List Int) (B:Nat) (hs:Sl w B 1 (.slice A3 ds.length c3) ds.length (ds.map u8c)) (hBK:∀ k,k<B→K k) (hr:(ds.length:Int)≤most) :
  Calls Tryz.prog 159 #[.agg #[.pointer (some ⟨b,0,none⟩)],.agg (bodyC 0 A1 0 c1 0 A2 0 c2 0 false 0 0 A3 ds.length c3)] w fun x w'=>x=.returned (.tuple #[])∧Keep K w w'∧Wr K w' b most (ds) 0:=by
 have hmix:(Tryz.prog).follows .mixedOrders=true:=by kernel_rfl
 have k0:Blk ((w.alloc (.cells #[.pointer (some ⟨b,0,none⟩)] 163)).alloc (.cells #[.int .u8 0,.slice A1 0 c1,.int .u32 0,.slice A2 0 c2,.int .u32 0,.bool false,.int .u32 0,.int .u32 0,.slice A3 ds.length c3] 81)) w.heap.size 163 #[.pointer (some ⟨b,0,none⟩)]:=(Blk.new _ _ _).alloc _
 have k1:Blk ((w.alloc (.cells #[.pointer (some ⟨b,0,none⟩)] 163)).alloc (.cells #[.int .u8 0,.slice A1 0 c1,.int .u32 0,.slice A2 0 c2,.int .u32 0,.bool false,.int .u32 0,.int .u32 0,.slice A3 ds.length c3] 81)) (w.heap.size+1) 81 #[.int .u8 0,.slice A1 0 c1,.int .u32 0,.slice A2 0 c2,.int .u32 0,.bool false,.int .u32 0,.int .u32 0,.slice A3 ds.length c3]:=heap_alloc2_new w _ _
 have kz:(((w.alloc (.cells #[.pointer (some ⟨b,0,none⟩)] 163)).alloc (.cells #[.int .u8 0,.slice A1 0 c1,.int .u32 0,.slice A2 0 c2,.int .u32 0,.bool false,.int .u32 0,.int .u32 0,.slice A3 ds.length c3] 81)):World).heap.size=w.heap.size+1+1:=by simp
 have kK:Keep K w ((w.alloc (.cells #[.pointer (some ⟨b,0,none⟩)] 163)).alloc (.cells #[.int .u8 0,.slice A1 0 c1,.int .u32 0,.slice A2 0 c2,.int .u32 0,.bool false,.int .u32 0,.int .u32 0,.slice A3 ds.length c3] 81)):=((Keep.refl _ _).alloc hK _).alloc (fun k hk=>by have:=hK k hk;simp;omega) _
 have kW:=(hW.add (.cells #[.pointer (some ⟨b,0,none⟩)] 163)).add (.cells #[.int .u8 0,.slice A1 0 c1,.int .u32 0,.slice A2 0 c2,.int .u32 0,.bool false,.int .u32 0,.int .u32 0,.slice A3 ds.length c3] 81)
 obtain ⟨K2,hK2⟩:∃ K2:Nat→Prop,K2=fun k=>(K k∨k=w.heap.size)∨k=(w.alloc (.cells #[.pointer (some ⟨b,0,none⟩)] 163)).heap.size:=⟨_,rfl⟩
 have e0:K2 w.heap.size:=by rw[hK2];exact .inl (.inr rfl)
 have e1:K2 (w.heap.size+1):=by rw[hK2];exact .inr (by simp)
 have e2:∀ k,K k→K2 k:=fun k hk=>by rw[hK2];exact .inl (.inl hk)
 have kL:∀ j,K2 j→j<(((w.alloc (.cells #[.pointer (some ⟨b,0,none⟩)] 163)).alloc (.cells #[.int .u8 0,.slice A1 0 c1,.int .u32 0,.slice A2 0 c2,.int .u32 0,.bool false,.int .u32 0,.int .u32 0,.slice A3 ds.length c3] 81)):World).heap.size:=fun j hj=>by
  rw[kz]
  rw[hK2] at hj
  rcases hj with (h | h) | h
  ·have:=hK j h;omega
  ·omega
  ·simp at h;omega
 rw[←hK2] at kW
 clear hK2
 have HI:WI K2 ((w.alloc (.cells #[.pointer (some ⟨b,0,none⟩)] 163)).alloc (.cells #[.int .u8 0,.slice A1 0 c1,.int .u32 0,.slice A2 0 c2,.int .u32 0,.bool false,.int .u32 0,.int .u32 0,.slice A3 ds.length c3] 81)) b most [] ((w.alloc (.cells #[.pointer (some ⟨b,0,none⟩)] 163)).alloc (.cells #[.int .u8 0,.slice A1 0 c1,.int .u32 0,.slice A2 0 c2,.int .u32 0,.bool false,.int .u32 0,.int .u32 0,.slice A3 ds.length c3] 81)):=⟨Keep.refl _ _,kW⟩
 have hs2:=kK.sl hBK hs
 go_enter Tryz.func159,Tryz.ntmps159
 go_upto_region 1 with fail
 generalize (w.alloc (.cells #[.pointer (some ⟨b,0,none⟩)] 163)).alloc (.cells #[.int .u8 0,.slice A1 0 c1,.int .u32 0,.slice A2 0 c2,.int .u32 0,.bool false,.int .u32 0,.int .u32 0,.slice A3 ds.length c3] 81)=w1 at k0 k1 kz kK kL HI hs2 ⊢
 clear hW kW hs
 have HL:=h'd kL
 have hz1:=kL _ e1
 obtain ⟨gp,hgp⟩:∃ g,g=w.heap.size:=⟨_,rfl⟩
 obtain ⟨gb,hgb⟩:∃ g,g=w.heap.size+1:=⟨_,rfl⟩
 rw[←hgp] at e0 k0 ⊢
 rw[←hgb] at e1 k1 hz1
 have hgb3:gp+1=gb:=by omega
 rw[hgb3]
 clear hgp hgb hgb3
 have P0:∀ W,Keep K2 w1 W→W.cell? ⟨gp,0,none⟩=some (.pointer (some ⟨b,0,none⟩)):=fun W h=>(h.cell (p:=⟨gp,0,none⟩) e0).trans (k0.cell 0)
 have B8:∀ W,Keep K2 w1 W→W.cell? ⟨gb,8,none⟩=some (.slice A3 ds.length c3):=fun W h=>(h.cell (p:=⟨gb,8,none⟩) e1).trans (k1.cell 8)
 clear k0 k1 kz
 have y0:=P0 w1 (Keep.refl _ _)
 have y8:=B8 w1 (Keep.refl _ _)
 have C:=put_room K2 b most [] B _ ds w1 HI.2 HL.out (by omega) hs2 (by simp only[List.length_nil];omega)
 replace C:=h'd C
 clear HI hs2
 go_wp2_with (go_at_call 178;refine c'm C.out ?_;rintro x w2 ⟨rfl,q1,q2⟩)
 go_end0
 exact ⟨rfl,kK.trans (q1.mono e2),q2.less e2⟩
theorem flatMap_one {α β:Type} (f:α→β) (l:List α):(l.flatMap fun x=>[f x])=l.map f:=by
 induction l with
 | nil=>rfl
 | cons x r ih=>rw[List.flatMap_cons,ih];rfl
set_option maxHeartbeats 4000000 in
theorem writeNetwork_any (K:Nat→Prop) (b:Nat) (most:Int) (w:World) (hW:Wr K w b most [] 0) (hK:∀ k,K k→k<w.heap.size) (hm:most≤140737488355320) (A1 A2 A3:Option Addr) (c1 c2 c3:Nat) (m:Int) (hm0:0≤m∧m<4294967296) (ls:List Int) (hok:∀ x∈ls,0≤x∧x<4294967296) (B:Nat) (hs:Sl w B 1 (.slice A2 ls.length c2) ls.length (ls.map u32c)) (hBK:∀ k,k<B→K k) (hr:4+4*(ls.length:Int)≤most) :
  Calls Tryz.prog 153 #[.agg #[.pointer (some ⟨b,0,none⟩)],.agg (bodyC 0 A1 0 c1 m A2 ls.length c2 0 false 0 0 A3 0 c3)] w fun x w'=>x=.returned (.tuple #[])∧Keep K w w'∧Wr K w' b most (beN m 4++ls.flatMap fun x=>beN x 4) 0:=by
 have hmix:(Tryz.prog).follows .mixedOrders=true:=by kernel_rfl
 have k0:Blk ((w.alloc (.cells #[.pointer (some ⟨b,0,none⟩)] 163)).alloc (.cells #[.int .u8 0,.slice A1 0 c1,.int .u32 m,.slice A2 ls.length c2,.int .u32 0,.bool false,.int .u32 0,.int .u32 0,.slice A3 0 c3] 81)) w.heap.size 163 #[.pointer (some ⟨b,0,none⟩)]:=(Blk.new _ _ _).alloc _
 have k1:Blk ((w.alloc (.cells #[.pointer (some ⟨b,0,none⟩)] 163)).alloc (.cells #[.int .u8 0,.slice A1 0 c1,.int .u32 m,.slice A2 ls.length c2,.int .u32 0,.bool false,.int .u32 0,.int .u32 0,.slice A3 0 c3] 81)) (w.heap.size+1) 81 #[.int .u8 0,.slice A1 0 c1,.int .u32 m,.slice A2 ls.length c2,.int .u32 0,.bool false,.int .u32 0,.int .u32 0,.slice A3 0 c3]:=heap_alloc2_new w _ _
 have kz:(((w.alloc (.cells #[.pointer (some ⟨b,0,none⟩)] 163)).alloc (.cells #[.int .u8 0,.slice A1 0 c1,.int .u32 m,.slice A2 ls.length c2,.int .u32 0,.bool false,.int .u32 0,.int .u32 0,.slice A3 0 c3] 81)):World).heap.size=w.heap.size+1+1:=by simp
 have kK:Keep K w ((w.alloc (.cells #[.pointer (some ⟨b,0,none⟩)] 163)).alloc (.cells #[.int .u8 0,.slice A1 0 c1,.int .u32 m,.slice A2 ls.length c2,.int .u32 0,.bool false,.int .u32 0,.int .u32 0,.slice A3 0 c3] 81)):=((Keep.refl _ _).alloc hK _).alloc (fun k hk=>by have:=hK k hk;simp;omega) _
 have kW:=(hW.add (.cells #[.pointer (some ⟨b,0,none⟩)] 163)).add (.cells #[.int .u8 0,.slice A1 0 c1,.int .u32 m,.slice A2 ls.length c2,.int .u32 0,.bool false,.int .u32 0,.int .u32 0,.slice A3 0 c3] 81)
 obtain ⟨K2,hK2⟩:∃ K2:Nat→Prop,K2=fun k=>(K k∨k=w.heap.size)∨k=(w.alloc (.cells #[.pointer (some ⟨b,0,none⟩)] 163)).heap.size:=⟨_,rfl⟩
 have e0:K2 w.heap.size:=by rw[hK2];exact .inl (.inr rfl)
 have e1:K2 (w.heap.size+1):=by rw[hK2];exact .inr (by simp)
 have e2:∀ k,K k→K2 k:=fun k hk=>by rw[hK2];exact .inl (.inl hk)
 have kL:∀ j,K2 j→j<(((w.alloc (.cells #[.pointer (some ⟨b,0,none⟩)] 163)).alloc (.cells #[.int .u8 0,.slice A1 0 c1,.int .u32 m,.slice A2 ls.length c2,.int .u32 0,.bool false,.int .u32 0,.int .u32 0,.slice A3 0 c3] 81)):World).heap.size:=fun j hj=>by
  rw[kz]
  rw[hK2] at hj
  rcases hj with (h | h) | h
  ·have:=hK j h;omega
  ·omega
  ·simp at h;omega
 rw[←hK2] at kW
 clear hK2
 have HI:WI K2 ((w.alloc (.cells #[.pointer (some ⟨b,0,none⟩)] 163)).alloc (.cells #[.int .u8 0,.slice A1 0 c1,.int .u32 m,.slice A2 ls.length c2,.int .u32 0,.bool false,.int .u32 0,.int .u32 0,.slice A3 0 c3] 81)) b most [] ((w.alloc (.cells #[.pointer (some ⟨b,0,none⟩)] 163)).alloc (.cells #[.int .u8 0,.slice A1 0 c1,.int .u32 m,.slice A2 ls.length c2,.int .u32 0,.bool false,.int .u32 0,.int .u32 0,.slice A3 0 c3] 81)):=⟨Keep.refl _ _,kW⟩
 have hs2:=kK.sl hBK hs
 go_enter Tryz.func153,Tryz.ntmps153
 go_upto_region 1 with fail
 generalize (w.alloc (.cells #[.pointer (some ⟨b,0,none⟩)] 163)).alloc (.cells #[.int .u8 0,.slice A1 0 c1,.int .u32 m,.slice A2 ls.length c2,.int .u32 0,.bool false,.int .u32 0,.int .u32 0,.slice A3 0 c3] 81)=w1 at k0 k1 kz kK kL HI hs2 ⊢
 clear hW kW hs
 have HL:=h'd kL
 have hz1:=kL _ e1
 obtain ⟨gp,hgp⟩:∃ g,g=w.heap.size:=⟨_,rfl⟩
 obtain ⟨gb,hgb⟩:∃ g,g=w.heap.size+1:=⟨_,rfl⟩
 rw[←hgp] at e0 k0 ⊢
 rw[←hgb] at e1 k1 hz1
 have hgb3:gp+1=gb:=by omega
 rw[hgb3]
 clear hgp hgb hgb3
 have P0:∀ W,Keep K2 w1 W→W.cell? ⟨gp,0,none⟩=some (.pointer (some ⟨b,0,none⟩)):=fun W h=>(h.cell (p:=⟨gp,0,none⟩) e0).trans (k0.cell 0)
 have B2:∀ W,Keep K2 w1 W→W.cell? ⟨gb,2,none⟩=some (.int .u32 m):=fun W h=>(h.cell (p:=⟨gb,2,none⟩) e1).trans (k1.cell 2)
 have B3:∀ W,Keep K2 w1 W→W.cell? ⟨gb,3,none⟩=some (.slice A2 ls.length c2):=fun W h=>(h.cell (p:=⟨gb,3,none⟩) e1).trans (k1.cell 3)
 clear k0 k1 kz
 have y0:=P0 w1 (Keep.refl _ _)
 have y2:=B2 w1 (Keep.refl _ _)
 have C:=num4 K2 b most [] m hm0 w1 HI.2 HL.out hm (by simp only[List.length_nil];omega)
 rw[List.nil_append] at C
 replace C:=h'd C
 clear HI
 go_wp2_with (go_at_call 184;refine c'm C.out ?_;rintro x w2 ⟨rfl,q1,q2⟩;have y3:=B3 w2 q1)
 have hcu:WI K2 w1 b most (beN m 4) w2:=⟨q1,q2⟩
 clear q1 q2 y0 y2 y3 C
 go_loopg [14] ls.length (fun mm iv wr=>∃ k:Nat,k≤ls.length∧mm=ls.length-k∧iv=.int .i64 k∧WI K2 w1 b most (beN m 4++(ls.take k).flatMap fun x=>beN x 4) wr)
 case atStart=>exact ⟨0,Nat.zero_le _,rfl,rfl,by rw[List.take_zero,List.flatMap_nil,List.append_nil];exact hcu⟩
 case round =>
  obtain ⟨k,hk,rfl,rfl,hI⟩:=hrel
  obtain ⟨w3,rfl⟩:∃ x:World,x=wr:=⟨_,rfl⟩
  by_cases hkl:k<ls.length
  ·obtain ⟨bq,off,rfl,hb4,hrow⟩:=Sl.row (f:=fun x=>[u32c x]) (s:=1) (fun _=>rfl) (by rw[flatMap_one];exact hI.1.sl (fun k hk=>e2 _ (hBK k hk)) hs2) hkl
   have ik:(k:Int)<(ls.length:Int):=by omega
   have y7:w3.cell? ⟨bq,off+k,none⟩=some (u32c ls[k]):=by
    have:=hrow 0 _ rfl
    rw[Nat.mul_one] at this
    exact this
   have hxo:=hok _ (g'm hkl)
   have htk:ls.take (k+1)=ls.take k++[ls[k]]:=t'k hkl
   generalize ls[k]=xx at y7 hxo htk
   have hcl0:(beN m 4++(ls.take k).flatMap fun x=>beN x 4).length=4+4*k:=by
    rw[l'a,words_len,List.length_take,beN_len _ _ (by omega)]
    omega
   have hcn:(beN m 4++(ls.take (k+1)).flatMap fun x=>beN x 4)=(beN m 4++(ls.take k).flatMap fun x=>beN x 4)++beN xx 4:=by rw[htk,List.flatMap_append,List.append_assoc];simp
   replace hcn:=h'd hcn
   generalize (beN m 4++(ls.take k).flatMap fun x=>beN x 4)=cont at hI hcl0 hcn
   replace htk:=h'd htk
   unfold u32c at y7
   have y0:=P0 w3 hI.1
   have C:=num4 K2 b most cont xx hxo w3 hI.2 (fun k hk=>Nat.lt_of_lt_of_le (HL.out k hk) hI.1.size) hm (by omega)
   replace C:=h'd C
   replace hI:=h'd hI
   replace hrow:=h'd hrow
   clear hb4
   go_wp2_with (go_at_call 184;refine c'm C.out ?_;rintro x w4 ⟨rfl,q1,q2⟩)
   go_roundg (ls.length-(k+1))
   case measure=>omega
   case rel =>
    refine ⟨k+1,by omega,rfl,by go_num,?_⟩
    rw[hcn.out]
    exact ⟨hI.out.1.trans q1,q2⟩
  ·obtain rfl:k=ls.length:=by omega
   rw[List.take_length] at hI
   go_wp2_with fail
   go_end0
   exact ⟨rfl,kK.trans (hI.1.mono e2),hI.2.less e2⟩
theorem take_byte {l:List Int} (h:∀ x∈l,0≤x∧x<256) (a n:Nat):∀ x∈(l.drop a).take n,0≤x∧x<256:=fun x hx=>h x (List.mem_of_mem_drop (List.mem_of_mem_take hx))
theorem takes_lt {l:List Int} (h:∀ x∈l,0≤x∧x<256) (a n:Nat) (hn:n≤4):0≤numB ((l.drop a).take n)∧numB ((l.drop a).take n)<256 ^ n:=
 ⟨(numB_range _).1,numB_lt _ n (by rw[List.length_take];omega) hn (take_byte h a n)⟩
theorem take_lt {l:List Int} (h:∀ x∈l,0≤x∧x<256) (n:Nat) (hn:n≤4):0≤numB (l.take n)∧numB (l.take n)<256 ^ n:=takes_lt h 0 n hn
theorem linkOf_ok {l:List Int} (h:∀ x∈l,0≤x∧x<256):LinkOk (linkOf l):=by
 have h1:=take_lt h 4 (by omega)
 have h2:=takes_lt h 4 4 (by omega)
 have h3:=takes_lt h 8 1 (by omega)
 have h4:=takes_lt h 10 2 (by omega)
 exact ⟨h1,h2,h3,h4⟩
theorem linksOf_ok {l:List Int} (h:∀ x∈l,0≤x∧x<256) (n:Nat):∀ x∈linksOf l n,LinkOk x:=fun x hx=>by
 obtain ⟨k,-,rfl⟩:=List.mem_map.1 hx
 exact linkOf_ok fun y hy=>h y (List.mem_of_mem_drop hy)
theorem wordsOf_ok (l:List Int) (n:Nat):∀ x∈wordsOf l n,0≤x∧x<4294967296:=fun x hx=>by
 obtain ⟨k,-,rfl⟩:=List.mem_map.1 hx
 exact numB_range _
theorem may_any (t:Nat) (ht:knownB t=true) (bs:List Int) (hn:bs.length≤1000000) (cs:Array Value) (base:Nat) (w:World) (hb:BodyAt w base cs (readP t bs)) :
  Calls Tryz.prog 79 #[.int .u8 t,.agg cs] w fun e w'=>e=mayE (mayP t (readP t bs))∧Below w.heap.size w w':=by
 obtain ⟨A1,c1,A2,c2,A3,c3,rfl,o1,o2,o3⟩:=hb
 rcases known_cases ht with rfl | rfl | rfl | rfl | rfl | rfl | rfl | rfl | rfl
 ·have hl:(readP 1 bs).links.length=(bs.length-4) / 12:=linksOf_len _ _
  refine c'm (may1_any (readP 1 bs).flags (readP 1 bs).links (by omega) A1 c1 A2 c2 A3 c3 w.heap.size w (Sl.of_own o1) (n'r _)) ?_
  rintro e w' ⟨rfl,h⟩
  refine ⟨congrArg mayE ?_,h⟩
  simp[mayP,readP,zeroB,bitsB_zero]
 ·have hl:(readP 2 bs).routers.length=(bs.length-4) / 4:=wordsOf_len _ _
  refine c'm (may2_any (readP 2 bs).mask (readP 2 bs).routers.length A1 c1 A2 c2 A3 c3 w) ?_
  rintro e w' ⟨rfl,h⟩
  refine ⟨congrArg mayE ?_,h⟩
  simp[mayP,readP,zeroB]
  cases wordsOf bs ((bs.length-4) / 4) <;> simp
 ·refine c'm (may3_any (readP 3 bs).mask (readP 3 bs).metric A1 c1 A2 c2 A3 c3 w) ?_
  rintro e w' ⟨rfl,h⟩
  refine ⟨congrArg mayE ?_,h⟩
  simp[mayP,readP,zeroB]
 ·refine c'm (may4_any (readP 4 bs).mask (readP 4 bs).metric A1 c1 A2 c2 A3 c3 w) ?_
  rintro e w' ⟨rfl,h⟩
  refine ⟨congrArg mayE ?_,h⟩
  simp[mayP,readP,zeroB]
 ·refine c'm (may5_any (readP 5 bs).mask (readP 5 bs).metric (readP 5 bs).t2 (readP 5 bs).fw (readP 5 bs).tg A1 c1 A2 c2 A3 c3 w) ?_
  rintro e w' ⟨rfl,h⟩
  refine ⟨congrArg mayE ?_,h⟩
  simp[mayP,readP,zeroB]
 ·refine c'm (may7_any (readP 7 bs).mask (readP 7 bs).metric (readP 7 bs).t2 (readP 7 bs).fw (readP 7 bs).tg A1 c1 A2 c2 A3 c3 w) ?_
  rintro e w' ⟨rfl,h⟩
  refine ⟨congrArg mayE ?_,h⟩
  simp[mayP,readP,zeroB]
 ·refine c'm (may9_any bs.length hn A1 c1 A2 c2 A3 c3 w) ?_
  rintro e w' ⟨rfl,h⟩
  refine ⟨congrArg mayE ?_,h⟩
  simp[mayP,readP,zeroB,bitsB_zero]
  rfl
 ·refine c'm (may10_any bs.length hn A1 c1 A2 c2 A3 c3 w) ?_
  rintro e w' ⟨rfl,h⟩
  refine ⟨congrArg mayE ?_,h⟩
  simp[mayP,readP,zeroB,bitsB_zero]
  rfl
 ·refine c'm (may11_any bs.length hn A1 c1 A2 c2 A3 c3 w) ?_
  rintro e w' ⟨rfl,h⟩
  refine ⟨congrArg mayE ?_,h⟩
  simp[mayP,readP,zeroB,bitsB_zero]
  rfl
theorem write_body (t:Nat) (ht:knownB t=true) (bs:List Int) (h8:∀ x∈bs,0≤x∧x<256) (hn:bs.length≤65515) (K:Nat→Prop) (b:Nat) (w0 w:World) (hW:Wr K w b 65535 [] 0) (hK:∀ k,K k→k<w.heap.size) (cs:Array Value) (base:Nat) (hb:BodyAt w0 base cs (readP t bs)) (hBw:Below w0.heap.size w0 w) (hBK:∀ k,k<w0.heap.size→K k) (hfit:fitQ t bs=true) :
  Calls Tryz.prog (wrF t) #[.agg #[.pointer (some ⟨b,0,none⟩)],.agg cs] w fun x w'=>x=.returned (.tuple #[])∧Keep K w w'∧Wr K w' b 65535 (layP t (readP t bs)) 0:=by
 obtain ⟨A1,c1,A2,c2,A3,c3,rfl,o1,o2,o3⟩:=hb
 have s1:=(Sl.of_own o1).below hBw
 have s2:=(Sl.of_own o2).below hBw
 have s3:=(Sl.of_own o3).below hBw
 rcases known_cases ht with rfl | rfl | rfl | rfl | rfl | rfl | rfl | rfl | rfl
 ·have hl:(readP 1 bs).links.length=(bs.length-4) / 12:=linksOf_len _ _
  have hf:4≤bs.length∧(bs.length:Int)=4+12*numB ((bs.drop 2).take 2):=by simpa[fitQ] using hfit
  exact writeRouter_any K b 65535 w hW hK (by omega) (readP 1 bs).flags A1 A2 A3 c1 c2 c3 (readP 1 bs).links (linksOf_ok h8 _) w0.heap.size s1 hBK (by omega) (by omega)
 ·have hl:(readP 2 bs).routers.length=(bs.length-4) / 4:=wordsOf_len _ _
  exact writeNetwork_any K b 65535 w hW hK (by omega) A1 A2 A3 c1 c2 c3 (readP 2 bs).mask (numB_range _) (readP 2 bs).routers (wordsOf_ok _ _) w0.heap.size s2 hBK (by omega)
 ·exact writeSum_any K b 65535 w hW hK (by omega) A1 A2 A3 c1 c2 c3 (readP 3 bs).mask (readP 3 bs).metric (numB_range _) (numB_range _) (by omega)
 ·exact writeSum_any K b 65535 w hW hK (by omega) A1 A2 A3 c1 c2 c3 (readP 4 bs).mask (readP 4 bs).metric (numB_range _) (numB_range _) (by omega)
 ·exact writeOut_any K b 65535 w hW hK (by omega) A1 A2 A3 c1 c2 c3 (readP 5 bs).mask (readP 5 bs).metric (readP 5 bs).t2 (readP 5 bs).fw (readP 5 bs).tg (numB_range _) (takes_lt h8 5 3 (by omega)) (numB_range _) (numB_range _) (by omega)
 ·exact writeOut_any K b 65535 w hW hK (by omega) A1 A2 A3 c1 c2 c3 (readP 7 bs).mask (readP 7 bs).metric (readP 7 bs).t2 (readP 7 bs).fw (readP 7 bs).tg (numB_range _) (takes_lt h8 5 3 (by omega)) (numB_range _) (numB_range _) (by omega)
 ·exact writeOpaque_any K b 65535 w hW hK (by omega) A1 A2 A3 c1 c2 c3 bs w0.heap.size s3 hBK (by omega)
 ·exact writeOpaque_any K b 65535 w hW hK (by omega) A1 A2 A3 c1 c2 c3 bs w0.heap.size s3 hBK (by omega)
 ·exact writeOpaque_any K b 65535 w hW hK (by omega) A1 A2 A3 c1 c2 c3 bs w0.heap.size s3 hBK (by omega)
set_option maxRecDepth 100000
theorem BodyAt.one {W W':World} {base:Nat} {cs:Array Value} {b:BodyV} (h:BodyAt W base cs b) {g:Nat} {t:TypeId} {cs0:Array Value} (hg:Blk W g t cs0) (h1:t≠99) (h2:t≠23) (h3:t≠5) (hk:∀ k,k≠g→W'.heap[k]?=W.heap[k]?):BodyAt W' base cs b:=by
 obtain ⟨A1,c1,A2,c2,A3,c3,e,o1,o2,o3⟩:=h
 exact ⟨A1,c1,A2,c2,A3,c3,e,own_same o1 fun j hj=>hk j (own_ne8 o1 hg h1 j hj),own_same o2 fun j hj=>hk j (own_ne8 o2 hg h2 j hj),own_same o3 fun j hj=>hk j (own_ne8 o3 hg h3 j hj)⟩
def DecPost (t:Nat) (body:List Int) (w:World) (x:Ending) (w':World):Prop:=
 ∃ cs,x=.returned (.tuple #[.agg cs,.int .i64 (decQ t body).2])∧BodyAt w' w.heap.size cs (decQ t body).1∧Below w.heap.size w w'
theorem decode_idleG (tmps:Array Value) (W:World) (g1 g2:Nat) (cs:Array Value) (e:Int) (R:Ending→World→Prop) (h2:tmps.getD 2 undef=.pointer (some ⟨g1,0,none⟩)) (h3:tmps.getD 3 undef=.pointer (some ⟨g2,0,none⟩))
  (hi:(Tryz.prog.info? 81).map (·.size)=some cs.size) (b1:Blk W g1 81 cs) (b2:Blk W g2 82 #[.int .i64 e]) (hR:R (.returned (.tuple #[.agg cs,.int .i64 e])) W) :
  Leaves Tryz.prog Tryz.f35 tmps R [{ target:=.fn (.func 74) #[],args:=#[.pointer (some ⟨g2,0,none⟩)] }] .returning W:=by
 have hc:=b2.cell 0
 simp only[q'a,q'z] at hc
 have h2':tmps[2]?.getD undef=.pointer (some ⟨g1,0,none⟩):=by simpa using h2
 have h3':tmps[3]?.getD undef=.pointer (some ⟨g2,0,none⟩):=by simpa using h3
 have hl:=run_loadVar_row (P:=Tryz.prog) W g1 81 81 cs (0,0) _ b1 Tryz.underlying81 rfl hi
 refine leaves_cons (f:=74) (args:=#[.pointer (some ⟨g2,0,none⟩)]) (by simp) (by simp[go_sem]) ?_
 refine (caught_idle _ _).mono ?_
 rintro _ u' w'' ⟨rfl,rfl,rfl⟩
 refine ⟨_,?_,hR⟩
 have hl2:(loadVar 82 ⟨g2,0,none⟩).run Tryz.prog w''=.ok (.int .i64 e) w'':=by simp[go_sem,hc]
 simp[results,Tryz.f35,h2',h3',asAddr,hl,hl2]
set_option maxHeartbeats 2000000 in
theorem decodeN_any (t:Nat) (ht:knownB t=false) (h8:t<256) (h:OHead) (B:Nat) (bv:Value) (body:List Int) (w:World) (hb:Sl w B 1 bv body.length (body.map u8c)) (hn:body.length≤65515)
  (hty:h.type=t) (hlen:h.len=20+(body.length:Int)):Calls Tryz.prog 35 #[stateVal h bv] w fun x w'=>DecPost t body w x w':=by
 obtain ⟨age,opts,type,id,adv,seq,sum,len⟩:=h
 simp only at hty hlen
 subst hty hlen
 have hd:decQ t body=(zeroB,21):=by unfold decQ;rw[if_pos ht]
 unfold DecPost
 rw[hd]
 clear hd
 obtain ⟨-,A,c,rfl,-⟩:=hb
 dsimp only[stateVal]
 have wl:wrap64 (20+(body.length:Int))=20+(body.length:Int):=by unfold wrap64;omega
 have q1:Blk (((w.alloc (.cells #[.int .u16 age,.int .u8 opts,.int .u8 (t:Int),.int .u32 id,.int .u32 adv,.int .i32 seq,.int .u16 sum,.int .u16 (20+(body.length:Int)),.slice A body.length c] 71)).alloc (.cells (sumC 0 0) 81)).alloc (.cells #[.int .i64 0] 82)) (w.heap.size+1) 81 (sumC 0 0):=(Blk.new_ _ (by simp)).alloc _
 have q2:Blk (((w.alloc (.cells #[.int .u16 age,.int .u8 opts,.int .u8 (t:Int),.int .u32 id,.int .u32 adv,.int .i32 seq,.int .u16 sum,.int .u16 (20+(body.length:Int)),.slice A body.length c] 71)).alloc (.cells (sumC 0 0) 81)).alloc (.cells #[.int .i64 0] 82)) (w.heap.size+1+1) 82 #[.int .i64 0]:=Blk.new_ _ (by simp)
 have q0:Blk (((w.alloc (.cells #[.int .u16 age,.int .u8 opts,.int .u8 (t:Int),.int .u32 id,.int .u32 adv,.int .i32 seq,.int .u16 sum,.int .u16 (20+(body.length:Int)),.slice A body.length c] 71)).alloc (.cells (sumC 0 0) 81)).alloc (.cells #[.int .i64 0] 82)) w.heap.size 71 #[.int .u16 age,.int .u8 opts,.int .u8 (t:Int),.int .u32 id,.int .u32 adv,.int .i32 seq,.int .u16 sum,.int .u16 (20+(body.length:Int)),.slice A body.length c]:=((Blk.new _ _ _).alloc _).alloc _
 have qB:Below w.heap.size w (((w.alloc (.cells #[.int .u16 age,.int .u8 opts,.int .u8 (t:Int),.int .u32 id,.int .u32 adv,.int .i32 seq,.int .u16 sum,.int .u16 (20+(body.length:Int)),.slice A body.length c] 71)).alloc (.cells (sumC 0 0) 81)).alloc (.cells #[.int .i64 0] 82)):=((b'r _ _).alloc (n'r _) _ |>.alloc (by simp) _).alloc (by simp;omega) _
 go_enter_defers Tryz.func35,Tryz.ntmps35
 go_upto_region 4 with fail
 generalize ((w.alloc (.cells #[.int .u16 age,.int .u8 opts,.int .u8 (t:Int),.int .u32 id,.int .u32 adv,.int .i32 seq,.int .u16 sum,.int .u16 (20+(body.length:Int)),.slice A body.length c] 71)).alloc (.cells (sumC 0 0) 81)).alloc (.cells #[.int .i64 0] 82)=w0 at q0 q1 q2 qB ⊢
 have x2:=q0.cell 2
 simp only[q'a,q'z,q's] at x2
 go_wp2_with (go_at_call 75;refine c'm (formOf_no t ht h8 _) ?_;rintro x w1 ⟨rfl,k1⟩;unfold thrown;dsimp only)
 refine decode_thrown _ _ (w.heap.size+1) (w.heap.size+1+1) 0 0 21 0 _ rfl rfl (by omega) (q1.below k1 q1.lt) (q2.below k1 q2.lt) ?_
 exact ⟨_,rfl,BodyAt.zero _ _,(qB.trans (k1.mono qB.size)).setCell (by simp;omega) _⟩
theorem enters_wr (t:Nat) (ht:knownB t=true):∀ args w,(callFunc (wrF t) args).run Tryz.prog w=.ok (.enter (wrF t) args) w:=by
 rcases known_cases ht with rfl | rfl | rfl | rfl | rfl | rfl | rfl | rfl | rfl
 ·exact enters_of Tryz.func151 (by kernel_rfl) rfl
 ·exact enters_of Tryz.func153 (by kernel_rfl) rfl
 ·exact enters_of Tryz.func155 (by kernel_rfl) rfl
 ·exact enters_of Tryz.func155 (by kernel_rfl) rfl
 ·exact enters_of Tryz.func157 (by kernel_rfl) rfl
 ·exact enters_of Tryz.func157 (by kernel_rfl) rfl
 ·exact enters_of Tryz.func159 (by kernel_rfl) rfl
 ·exact enters_of Tryz.func159 (by kernel_rfl) rfl
 ·exact enters_of Tryz.func159 (by kernel_rfl) rfl
theorem enters_rd (t:Nat) (ht:knownB t=true):∀ args w,(callFunc (rdF t) args).run Tryz.prog w=.ok (.enter (rdF t) args) w:=by
 rcases known_cases ht with rfl | rfl | rfl | rfl | rfl | rfl | rfl | rfl | rfl
 ·exact enters_of Tryz.func152 (by kernel_rfl) rfl
 ·exact enters_of Tryz.func154 (by kernel_rfl) rfl
 ·exact enters_of Tryz.func156 (by kernel_rfl) rfl
 ·exact enters_of Tryz.func156 (by kernel_rfl) rfl
 ·exact enters_of Tryz.func158 (by kernel_rfl) rfl
 ·exact enters_of Tryz.func158 (by kernel_rfl) rfl
 ·exact enters_of Tryz.func160 (by kernel_rfl) rfl
 ·exact enters_of Tryz.func160 (by kernel_rfl) rfl
 ·exact enters_of Tryz.func160 (by kernel_rfl) rfl
set_option maxHeartbeats 4000000 in
theorem decodeK_any (t:Nat) (ht:knownB t=true) (h:OHead) (B:Nat) (bv:Value) (body:List Int) (w:World) (hb:Sl w B 1 bv body.length (body.map u8c)) (hB:B≤w.heap.size) (hn:body.length≤65515) (hl8:∀ x∈body,0≤x∧x<256)
  (hty:h.type=t) (hlen:h.len=20+(body.length:Int)):Calls Tryz.prog 35 #[stateVal h bv] w fun x w'=>DecPost t body w x w':=by
 obtain ⟨wr,hwr⟩:∃ x,wrF t=x:=⟨_,rfl⟩
 obtain ⟨rd,hrd⟩:∃ x,rdF t=x:=⟨_,rfl⟩
 have FO:=formOf_yes t ht
 rw[hwr,hrd] at FO
 have RA:=read_any t ht
 rw[hrd] at RA
 have WB:=write_body t ht
 have eW:=enters_wr t ht
 have eR:=enters_rd t ht
 rw[hwr] at WB eW
 rw[hrd] at eR
 obtain ⟨age,opts,type,id,adv,seq,sum,len⟩:=h
 simp only at hty hlen
 subst hty hlen
 have hb0:=hb
 obtain ⟨-,A,c,rfl,-⟩:=hb
 dsimp only[stateVal]
 replace FO:=h'd FO
 replace RA:=h'd RA
 replace WB:=h'd WB
 clear hwr hrd
 have wl:wrap64 (20+(body.length:Int))=20+(body.length:Int):=by unfold wrap64;omega
 have q1:Blk (((w.alloc (.cells #[.int .u16 age,.int .u8 opts,.int .u8 (t:Int),.int .u32 id,.int .u32 adv,.int .i32 seq,.int .u16 sum,.int .u16 (20+(body.length:Int)),.slice A body.length c] 71)).alloc (.cells (sumC 0 0) 81)).alloc (.cells #[.int .i64 0] 82)) (w.heap.size+1) 81 (sumC 0 0):=(Blk.new_ _ (by simp)).alloc _
 have q2:Blk (((w.alloc (.cells #[.int .u16 age,.int .u8 opts,.int .u8 (t:Int),.int .u32 id,.int .u32 adv,.int .i32 seq,.int .u16 sum,.int .u16 (20+(body.length:Int)),.slice A body.length c] 71)).alloc (.cells (sumC 0 0) 81)).alloc (.cells #[.int .i64 0] 82)) (w.heap.size+1+1) 82 #[.int .i64 0]:=Blk.new_ _ (by simp)
 have q0:Blk (((w.alloc (.cells #[.int .u16 age,.int .u8 opts,.int .u8 (t:Int),.int .u32 id,.int .u32 adv,.int .i32 seq,.int .u16 sum,.int .u16 (20+(body.length:Int)),.slice A body.length c] 71)).alloc (.cells (sumC 0 0) 81)).alloc (.cells #[.int .i64 0] 82)) w.heap.size 71 #[.int .u16 age,.int .u8 opts,.int .u8 (t:Int),.int .u32 id,.int .u32 adv,.int .i32 seq,.int .u16 sum,.int .u16 (20+(body.length:Int)),.slice A body.length c]:=((Blk.new _ _ _).alloc _).alloc _
 have qB:Below w.heap.size w (((w.alloc (.cells #[.int .u16 age,.int .u8 opts,.int .u8 (t:Int),.int .u32 id,.int .u32 adv,.int .i32 seq,.int .u16 sum,.int .u16 (20+(body.length:Int)),.slice A body.length c] 71)).alloc (.cells (sumC 0 0) 81)).alloc (.cells #[.int .i64 0] 82)):=((b'r _ _).alloc (n'r _) _ |>.alloc (by simp) _).alloc (by simp;omega) _
 go_enter_defers Tryz.func35,Tryz.ntmps35
 go_upto_region 4 with fail
 generalize ((w.alloc (.cells #[.int .u16 age,.int .u8 opts,.int .u8 (t:Int),.int .u32 id,.int .u32 adv,.int .i32 seq,.int .u16 sum,.int .u16 (20+(body.length:Int)),.slice A body.length c] 71)).alloc (.cells (sumC 0 0) 81)).alloc (.cells #[.int .i64 0] 82)=w0 at q0 q1 q2 qB ⊢
 have x2:=q0.cell 2
 have x8:=q0.cell 8
 simp only[q'a,q'z,q's] at x2 x8
 have kl:=q2.lt
 go_upto_region 5 with (go_at_call 75;refine c'm (FO.out _) ?_;rintro x w1 ⟨rfl,k1⟩)
 have p0:Blk (w1.alloc (.cells #[.func (.func wr) #[] #[],.func (.func rd) #[] #[]] 153)) w1.heap.size 153 #[.func (.func wr) #[] #[],.func (.func rd) #[] #[]]:=Blk.new _ _ _
 have k2:Below w0.heap.size w0 (w1.alloc (.cells #[.func (.func wr) #[] #[],.func (.func rd) #[] #[]] 153)):=k1.alloc k1.size _
 have kz1:=k1.size
 generalize w1.alloc (.cells #[.func (.func wr) #[] #[],.func (.func rd) #[] #[]] 153)=w2 at p0 k2 ⊢
 generalize w1.heap.size=g at p0 kz1 ⊢
 clear x2 x8 k1
 have q0':=q0.below k2 q0.lt
 have q1':=q1.below k2 q1.lt
 have q2':=q2.below k2 q2.lt
 have kB2:=qB.trans (k2.mono qB.size)
 have hb2:=hb0.below (kB2.mono hB)
 clear q0 q1 q2 qB k2
 have hz0:=q2'.lt
 have x8:=q0'.cell 8
 have y0:=p0.cell 0
 have y1:=p0.cell 1
 simp only[q'a,q'z,q's] at x8 y0 y1
 have CR:=h'd (rread_any B _ body w2 hb2 (n't hB kB2.size) (by omega))
 go_upto_region 6 with (go_at_call 76;refine c'm CR.out ?_;rintro x w3 ⟨b,rfl,hb3,hR3,k3⟩)
 have y1':w3.cell? ⟨g,1,none⟩=some (.func (.func rd) #[] #[]):=((p0.below k3 p0.lt).cell 1)
 have CS:=h'd (RA.out b body w3 hR3 (by omega) hl8)
 have kz3:=k3.size
 have kb3:b<w3.heap.size:=hR3.lt
 go_upto_region 7 with (refine c'm CS.out ?_;rintro x w4 ⟨cs,bv,a,e,rfl,hBA,hR4,hf1,hf2,k4⟩;obtain ⟨fl,ls,m,rs,k,t2,fw,tg,ds⟩:=bv;have hBAz:=hBA;obtain ⟨A1,c1,A2,c2,A3,c3,rfl,-⟩:=hBAz;dsimp only)
 have kz4:=k4.size
 replace hf1:=h'd hf1
 replace hf2:=h'd hf2
 have r0:Blk (w4.alloc (.cells (bodyC fl A1 ls.length c1 m A2 rs.length c2 k t2 fw tg A3 ds.length c3) 81)) w4.heap.size 81 (bodyC fl A1 ls.length c1 m A2 rs.length c2 k t2 fw tg A3 ds.length c3):=Blk.new _ _ _
 have k5:Below w2.heap.size w2 (w4.alloc (.cells (bodyC fl A1 ls.length c1 m A2 rs.length c2 k t2 fw tg A3 ds.length c3) 81)):=(k3.trans (k4.mono hb3)).alloc (n't k3.size kz4) _
 have hR5:Rd (w4.alloc (.cells (bodyC fl A1 ls.length c1 m A2 rs.length c2 k t2 fw tg A3 ds.length c3) 81)) b body a e:=hR4.below ((b'r _ _).alloc (n'r _) _) hR4.lt
 have hBA5:=(hBA.below ((b'r _ _).alloc (n'r _) (.cells (bodyC fl A1 ls.length c1 m A2 rs.length c2 k t2 fw tg A3 ds.length c3) 81))).less kz3
 have hz5:w4.heap.size<(w4.alloc (.cells (bodyC fl A1 ls.length c1 m A2 rs.length c2 k t2 fw tg A3 ds.length c3) 81)).heap.size:=by simp
 clear hBA
 dsimp only[bodyC] at r0 k5 hR5 hz5 hBA5
 generalize (w4.alloc (.cells #[.int .u8 fl,.slice A1 ls.length c1,.int .u32 m,.slice A2 rs.length c2,.int .u32 k,.bool t2,.int .u32 fw,.int .u32 tg,.slice A3 ds.length c3] 81))=w5 at r0 k5 hR5 hz5 hBA5 ⊢
 obtain ⟨g6,hg6⟩:∃ g6,g6=w4.heap.size:=⟨_,rfl⟩
 rw[←hg6] at r0 hz5 ⊢
 have hl6:w2.heap.size≤g6:=by rw[hg6];exact n't k3.size kz4
 clear hg6 CS CR y1' hR4 hR3 k3 k4 kz4 kb3 y1 x8
 have q1:=q1'.below k5 q1'.lt
 have q2:=q2'.below k5 q2'.lt
 have p5:=p0.below k5 p0.lt
 have kB5:=kB2.trans (k5.mono kB2.size)
 have hb5:=hb0.below (kB5.mono hB)
 have q0:=q0'.below k5 q0'.lt
 have x8:=q0.cell 8
 have x2:=q0.cell 2
 have y0':=p5.cell 0
 simp only[q'a,q'z,q's] at x8 x2 y0'
 have n1:=p0.lt
 clear q0' q1' q2' p0 hb2 k5 y0 kB2
 have hzw2:w.heap.size≤w2.heap.size:=by omega
 cases hfit:fitQ t body with
 | false =>
  have hd:decQ t body=(zeroB,28):=by unfold decQ;rw[if_neg (by rw[ht];decide),if_pos hfit]
  have hf:=hf2.out hfit
  by_cases he:e=0
  ·subst he
   have hleft:0<leftR body a 0:=by
    unfold leftR
    rw[if_pos rfl]
    rcases hf with h | h
    ·exact absurd rfl h
    ·omega
   have he1:decide (0<leftR body a 0)=true:=d't hleft
   go_upto_region 8 with (first
    | (go_at_call 77;refine c'm (rerr_any b body a 0 _ hR5) ?_;rintro x w6 ⟨rfl,rfl⟩)
    | (go_at_call 78;refine c'm (rleft_any b body a 0 _ hR5 (by omega)) ?_;rintro x w7 ⟨rfl,k7⟩))
   have q1:=q1.below k7 q1.lt
   have q2:=q2.below k7 q2.lt
   have kBB:=kB5.trans (k7.mono kB5.size)
   have hs1:Blk (w7.setRow (w.heap.size+1) (sumC 0 0)) (w.heap.size+1) 81 (sumC 0 0):=setRow_heap w7 _ (sumC 0 0) (sumC 0 0) 81 (0,0) q1
   have hs2:Blk (w7.setRow (w.heap.size+1) (sumC 0 0)) (w.heap.size+1+1) 82 #[.int .i64 0]:=(setRow_other _ _ _ _ (by omega)).trans q2
   have hsB:Below w.heap.size w (w7.setRow (w.heap.size+1) (sumC 0 0)):=kBB.trans ⟨rfl,rfl,rfl,by simp[World.setRow],fun k hk=>setRow_other _ _ k _ (by omega)⟩
   have hcz:=hs2.cell 0
   have hfz:=hs2.free 0
   simp only[q'a,q'z] at hcz
   go_wp2_with (first
     | (refine wpList_store_row rfl 81 (.tmp 2) (.tmp 39) rfl (w.heap.size+1) (sumC 0 0) rfl rfl 81 (sumC 0 0) q1 (by kernel_rfl) rfl (by simp[Value.oneCell']) ?_))
   refine decode_idleG _ _ (w.heap.size+1) (w.heap.size+1+1) (sumC 0 0) 28 _ rfl rfl (by kernel_rfl) ?_ ?_ ?_
   ·exact hs1.far (by simp) _
   ·exact hs2.set_ 0 _
   ·exact ⟨_,by rw[hd],by rw[hd];exact BodyAt.zero _ _,hsB.setCell (by simp;omega) _⟩
  ·have he1:(e != 0)=true:=by simpa using he
   go_upto_region 8 with (go_at_call 77;refine c'm (rerr_any b body a e _ hR5) ?_;rintro x w6 ⟨rfl,rfl⟩)
   have kBB:=kB5
   have hs1:Blk (w6.setRow (w.heap.size+1) (sumC 0 0)) (w.heap.size+1) 81 (sumC 0 0):=setRow_heap w6 _ (sumC 0 0) (sumC 0 0) 81 (0,0) q1
   have hs2:Blk (w6.setRow (w.heap.size+1) (sumC 0 0)) (w.heap.size+1+1) 82 #[.int .i64 0]:=(setRow_other _ _ _ _ (by omega)).trans q2
   have hsB:Below w.heap.size w (w6.setRow (w.heap.size+1) (sumC 0 0)):=kBB.trans ⟨rfl,rfl,rfl,by simp[World.setRow],fun k hk=>setRow_other _ _ k _ (by omega)⟩
   have hcz:=hs2.cell 0
   have hfz:=hs2.free 0
   simp only[q'a,q'z] at hcz
   go_wp2_with (first
     | (refine wpList_store_row rfl 81 (.tmp 2) (.tmp 39) rfl (w.heap.size+1) (sumC 0 0) rfl rfl 81 (sumC 0 0) q1 (by kernel_rfl) rfl (by simp[Value.oneCell']) ?_))
   refine decode_idleG _ _ (w.heap.size+1) (w.heap.size+1+1) (sumC 0 0) 28 _ rfl rfl (by kernel_rfl) ?_ ?_ ?_
   ·exact hs1.far (by simp) _
   ·exact hs2.set_ 0 _
   ·exact ⟨_,by rw[hd],by rw[hd];exact BodyAt.zero _ _,hsB.setCell (by simp;omega) _⟩
 | true =>
  obtain ⟨hbv,rfl,rfl⟩:=hf1.out hfit
  have he1:decide (0<leftR body body.length 0)=false:=by
   unfold leftR
   rw[if_pos rfl]
   simp
  go_upto_region 9 with (first
   | (go_at_call 77;refine c'm (rerr_any b body body.length 0 _ hR5) ?_;rintro x w6 ⟨rfl,rfl⟩)
   | (go_at_call 78;refine c'm (rleft_any b body body.length 0 _ hR5 (by omega)) ?_;rintro x w7 ⟨rfl,k7⟩))
  have q0:=q0.below k7 q0.lt
  have q1:=q1.below k7 q1.lt
  have q2:=q2.below k7 q2.lt
  have p5:=p5.below k7 p5.lt
  have r0:=r0.below k7 r0.lt
  have hb5:=hb5.below (k7.mono (n't hB kB5.size))
  have kB5:=kB5.trans (k7.mono kB5.size)
  have hBA:=hBA5.below k7
  clear x8 x2 y0' k7 hR5 hBA5
  have x2:=q0.cell 2
  simp only[q'a,q'z,q's] at x2
  have CM:=may_any t ht body (by omega) _ _ w7 (by rw[←hbv];exact hBA)
  cases hmay:mayP t (readP t body)
  ·have hd:decQ t body=(zeroB,28):=by unfold decQ;rw[if_neg (by rw[ht];decide),if_neg (by rw[hfit];decide),if_pos hmay]
   rw[mayE_f hmay] at CM
   replace CM:=h'd CM
   go_wp2_with (first
    | (refine wpList_load_row rfl 81 (.tmp 6) rfl g6 rfl 81 (bodyC fl A1 ls.length c1 m A2 rs.length c2 k t2 fw tg A3 ds.length c3) (0,0) _ r0 Tryz.underlying81 rfl (by kernel_rfl) ?_)
    | (go_at_call 79;refine c'm CM.out ?_;rintro x w8 ⟨rfl,k8⟩;unfold thrown;dsimp only))
   refine decode_thrown _ _ (w.heap.size+1) (w.heap.size+1+1) 0 0 28 0 _ rfl rfl (by omega) (q1.below k8 q1.lt) (q2.below k8 q2.lt) ?_
   exact ⟨_,by rw[hd],by rw[hd];exact BodyAt.zero _ _,(kB5.trans (k8.mono kB5.size)).setCell (by simp;omega) _⟩
  ·rw[mayE_t hmay] at CM
   replace CM:=h'd CM
   go_upto_region 11 with (first
    | (refine wpList_load_row rfl 81 (.tmp 6) rfl g6 rfl 81 (bodyC fl A1 ls.length c1 m A2 rs.length c2 k t2 fw tg A3 ds.length c3) (0,0) _ r0 Tryz.underlying81 rfl (by kernel_rfl) ?_)
    | (go_at_call 79;refine c'm CM.out ?_;rintro x w8 ⟨rfl,k8⟩)
    | (go_at_call 80;refine c'm (write_any _ (by omega) _) ?_;rintro x w' ⟨rfl,rfl⟩))
   have hz8:=k8.size
   have s1:=r0.lt
   have s2:=p5.lt
   have s3:=q2.lt
   have v0:Blk ((w8.alloc (.cells #[.slice none 0 0,.int .i64 65535,.int .i64 0,.bool true] 213)).alloc (.cells #[.pointer (some ⟨w8.heap.size,0,none⟩)] 163)) w8.heap.size 213 #[.slice none 0 0,.int .i64 65535,.int .i64 0,.bool true]:=(Blk.new _ _ _).alloc _
   have v1:Blk ((w8.alloc (.cells #[.slice none 0 0,.int .i64 65535,.int .i64 0,.bool true] 213)).alloc (.cells #[.pointer (some ⟨w8.heap.size,0,none⟩)] 163)) (w8.heap.size+1) 163 #[.pointer (some ⟨w8.heap.size,0,none⟩)]:=Blk.new_ _ (by simp)
   have k9:Below w7.heap.size w7 ((w8.alloc (.cells #[.slice none 0 0,.int .i64 65535,.int .i64 0,.bool true] 213)).alloc (.cells #[.pointer (some ⟨w8.heap.size,0,none⟩)] 163)):=(k8.alloc hz8 _).alloc (by simp;omega) _
   have kz9:((w8.alloc (.cells #[.slice none 0 0,.int .i64 65535,.int .i64 0,.bool true] 213)).alloc (.cells #[.pointer (some ⟨w8.heap.size,0,none⟩)] 163)).heap.size=w8.heap.size+1+1:=by simp
   have k89:Below w8.heap.size w8 ((w8.alloc (.cells #[.slice none 0 0,.int .i64 65535,.int .i64 0,.bool true] 213)).alloc (.cells #[.pointer (some ⟨w8.heap.size,0,none⟩)] 163)):=((b'r _ _).alloc (n'r _) _).alloc (by simp) _
   have hBA8:=hBA.below k8
   generalize ((w8.alloc (.cells #[.slice none 0 0,.int .i64 65535,.int .i64 0,.bool true] 213)).alloc (.cells #[.pointer (some ⟨w8.heap.size,0,none⟩)] 163))=w9 at v0 v1 k9 kz9 k89 ⊢
   have q1:=q1.below k9 q1.lt
   have q2:=q2.below k9 q2.lt
   have p5:=p5.below k9 p5.lt
   have r0:=r0.below k9 r0.lt
   have hb5:=hb5.below (k9.mono (n't hB kB5.size))
   have kB5:=kB5.trans (k9.mono kB5.size)
   obtain ⟨g8,hg8⟩:∃ g8,g8=w8.heap.size:=⟨_,rfl⟩
   rw[←hg8] at v0 v1 kz9 hz8 ⊢
   obtain ⟨K,hK⟩:∃ K:Nat→Prop,K=fun j=>j<g8+2∧j≠g8:=⟨_,rfl⟩
   have kl9:∀ j,K j→j<w9.heap.size:=fun j hj=>by rw[hK] at hj;have:=hj.1;omega
   have kb9:∀ j,j<g8→K j:=fun j hj=>by rw[hK];exact ⟨by omega,by omega⟩
   have kv9:K (g8+1):=by rw[hK];exact ⟨by omega,by omega⟩
   have hW9:Wr K w9 g8 65535 [] 0:=⟨by rw[hK];exact fun h=>h.2 rfl,_,v0,World.ownsRow_nil _ _ _ _,by simp[Value.ownBlock]⟩
   have CW:=h'd (WB.out body hl8 hn K g8 w8 w9 hW9 kl9 _ _ (by rw[←hbv];exact hBA8) k89 (by rw[←hg8];exact kb9) hfit)
   have hBA9:=hBA8.below k89
   have hBK9:∀ x:World,Keep K w9 x→BodyAt x w2.heap.size (bodyC fl A1 ls.length c1 m A2 rs.length c2 k t2 fw tg A3 ds.length c3) (⟨fl,ls,m,rs,k,t2,fw,tg,ds⟩:BodyV):=fun x hx=>by
    obtain ⟨A1',c1',A2',c2',A3',c3',e',o1,o2,o3⟩:=hBA8
    have hw8:∀ j,j<w8.heap.size→x.heap[j]?=w8.heap[j]?:=fun j hj=>(hx.block j (kb9 j (by omega))).trans (k89.block j hj)
    exact ⟨A1',c1',A2',c2',A3',c3',e',own_same o1 fun j hj=>hw8 j (o1.lt j hj).2,own_same o2 fun j hj=>hw8 j (o2.lt j hj).2,own_same o3 fun j hj=>hw8 j (o3.lt j hj).2⟩
   clear hg8 hBA hBA8 hBA9 CM k89
   have y0:=p5.cell 0
   have z0:=v1.cell 0
   simp only[q'a,q'z] at y0 z0
   have n7:g6<g8:=by omega
   have n8:g<g8:=by omega
   have n9:w.heap.size+1+1<g8:=by omega
   clear x2 hW9 hK
   go_upto_region 12 with (first
    | (refine wpList_load_row rfl 81 (.tmp 6) rfl g6 rfl 81 (bodyC fl A1 ls.length c1 m A2 rs.length c2 k t2 fw tg A3 ds.length c3) (0,0) _ r0 Tryz.underlying81 rfl (by kernel_rfl) ?_)
    | (refine c'm CW.out ?_;rintro x w10 ⟨rfl,k10,hW10⟩))
   have hll:(layP t (readP t body)).length≤65535:=by
    have h:=lay_read_len t body
    rw[h]
    split
    ·omega
    split
    ·omega
    split
    ·omega
    split
    ·omega
    ·omega
   obtain ⟨L,hL⟩:∃ L,L=layP t (readP t body):=⟨_,rfl⟩
   rw[←hL] at hW10 hll
   clear CW y0 z0
   have q1:=k10.blk (kb9 _ (by omega)) q1
   have q2:=k10.blk (kb9 _ (by omega)) q2
   have r0:=k10.blk (kb9 _ (by omega)) r0
   have v1:=k10.blk kv9 v1
   have hb5:=k10.sl (fun j hj=>kb9 j (by omega)) hb5
   have q0:=k10.blk (kb9 _ (by omega)) (q0.below k9 q0.lt)
   have kB5:=kB5.trans (k10.below (fun j hj=>kb9 j (by omega)))
   have hBA10:=hBK9 w10 k10
   have CD:=h'd (done_any K g8 65535 L 0 w10 hW10 (by omega))
   rw[show doneBs 0 L=L from rfl] at CD
   have z0:=v1.cell 0
   simp only[q'a,q'z] at z0
   clear p5 hBK9
   go_upto_region 13 with (go_at_call 81;refine c'm CD.out ?_;rintro x w11 ⟨v,rfl,ho11,k11⟩)
   clear CD z0
   have q1:=q1.below k11 q1.lt
   have q2:=q2.below k11 q2.lt
   have r0:=r0.below k11 r0.lt
   have q0:=q0.below k11 q0.lt
   have hb5:=hb5.below (k11.mono (n't hB kB5.size))
   have kB5:=kB5.trans (k11.mono kB5.size)
   have hBA11:=hBA10.below k11
   have x8:=q0.cell 8
   simp only[q'a,q'z,q's] at x8
   have CE:=h'd (equal8_any _ B v _ L body w11 (Sl.of_own ho11) hb5 (by omega))
   by_cases heq:L=body
   ·have hd:decQ t body=((⟨fl,ls,m,rs,k,t2,fw,tg,ds⟩:BodyV),0):=by unfold decQ;rw[if_neg (by rw[ht];decide),if_neg (by rw[hfit];decide),if_neg (by rw[hmay];decide),if_neg (by rw[←hL,heq];simp),←hbv]
    rw[d't heq] at CE
    clear heq
    go_upto_region 15 with (go_at_call 82;refine c'm CE.out ?_;rintro x w12 ⟨rfl,k12⟩)
    have q1:=q1.below k12 q1.lt
    have q2:=q2.below k12 q2.lt
    have r0:=r0.below k12 r0.lt
    have kBB:=kB5.trans (k12.mono kB5.size)
    have hBA:=hBA11.below k12
    have hs1:Blk (w12.setRow (w.heap.size+1) (bodyC fl A1 ls.length c1 m A2 rs.length c2 k t2 fw tg A3 ds.length c3)) (w.heap.size+1) 81 (bodyC fl A1 ls.length c1 m A2 rs.length c2 k t2 fw tg A3 ds.length c3):=setRow_heap w12 _ (sumC 0 0) (bodyC fl A1 ls.length c1 m A2 rs.length c2 k t2 fw tg A3 ds.length c3) 81 (0,0) q1
    have hs2:Blk (w12.setRow (w.heap.size+1) (bodyC fl A1 ls.length c1 m A2 rs.length c2 k t2 fw tg A3 ds.length c3)) (w.heap.size+1+1) 82 #[.int .i64 0]:=(setRow_other _ _ _ _ (by omega)).trans q2
    have hsB:Below w.heap.size w (w12.setRow (w.heap.size+1) (bodyC fl A1 ls.length c1 m A2 rs.length c2 k t2 fw tg A3 ds.length c3)):=kBB.trans ⟨rfl,rfl,rfl,by simp[World.setRow],fun k hk=>setRow_other _ _ k _ (by omega)⟩
    have hBA1:=(hBA.one q1 (by decide) (by decide) (by decide) (fun j hj=>setRow_other w12 (w.heap.size+1) j (bodyC fl A1 ls.length c1 m A2 rs.length c2 k t2 fw tg A3 ds.length c3) hj)).one hs2 (by decide) (by decide) (by decide) (fun j hj=>Below.heap_setCell _ ⟨w.heap.size+1+1,0,none⟩ (.int .i64 0) j hj)
    have hcz:=hs2.cell 0
    have hfz:=hs2.free 0
    simp only[q'a,q'z] at hcz
    go_wp2_with (first
      | (refine wpList_load_row rfl 81 (.tmp 6) rfl g6 rfl 81 (bodyC fl A1 ls.length c1 m A2 rs.length c2 k t2 fw tg A3 ds.length c3) (0,0) _ r0 Tryz.underlying81 rfl (by kernel_rfl) ?_)
      | (refine wpList_store_row rfl 81 (.tmp 2) (.tmp 64) rfl (w.heap.size+1) (bodyC fl A1 ls.length c1 m A2 rs.length c2 k t2 fw tg A3 ds.length c3) rfl rfl 81 (sumC 0 0) q1 (by kernel_rfl) rfl (by simp[Value.oneCell']) ?_))
    refine decode_idleG _ _ (w.heap.size+1) (w.heap.size+1+1) (bodyC fl A1 ls.length c1 m A2 rs.length c2 k t2 fw tg A3 ds.length c3) 0 _ rfl rfl (by kernel_rfl) ?_ ?_ ?_
    ·exact hs1.far (by simp) _
    ·exact hs2.set_ 0 _
    ·exact ⟨_,by rw[hd],by rw[hd];exact hBA1.less (by omega),hsB.setCell (by simp;omega) _⟩
   ·have hd:decQ t body=(zeroB,28):=by unfold decQ;rw[if_neg (by rw[ht];decide),if_neg (by rw[hfit];decide),if_neg (by rw[hmay];decide),if_pos (by rw[←hL];exact heq)]
    rw[d'f heq] at CE
    clear heq
    go_upto_region 14 with (go_at_call 82;refine c'm CE.out ?_;rintro x w12 ⟨rfl,k12⟩)
    have q1:=q1.below k12 q1.lt
    have q2:=q2.below k12 q2.lt
    have kBB:=kB5.trans (k12.mono kB5.size)
    have hs1:Blk (w12.setRow (w.heap.size+1) (sumC 0 0)) (w.heap.size+1) 81 (sumC 0 0):=setRow_heap w12 _ (sumC 0 0) (sumC 0 0) 81 (0,0) q1
    have hs2:Blk (w12.setRow (w.heap.size+1) (sumC 0 0)) (w.heap.size+1+1) 82 #[.int .i64 0]:=(setRow_other _ _ _ _ (by omega)).trans q2
    have hsB:Below w.heap.size w (w12.setRow (w.heap.size+1) (sumC 0 0)):=kBB.trans ⟨rfl,rfl,rfl,by simp[World.setRow],fun k hk=>setRow_other _ _ k _ (by omega)⟩
    have hcz:=hs2.cell 0
    have hfz:=hs2.free 0
    simp only[q'a,q'z] at hcz
    go_wp2_with (first
      | (refine wpList_store_row rfl 81 (.tmp 2) (.tmp 63) rfl (w.heap.size+1) (sumC 0 0) rfl rfl 81 (sumC 0 0) q1 (by kernel_rfl) rfl (by simp[Value.oneCell']) ?_))
    refine decode_idleG _ _ (w.heap.size+1) (w.heap.size+1+1) (sumC 0 0) 28 _ rfl rfl (by kernel_rfl) ?_ ?_ ?_
    ·exact hs1.far (by simp) _
    ·exact hs2.set_ 0 _
    ·exact ⟨_,by rw[hd],by rw[hd];exact BodyAt.zero _ _,hsB.setCell (by simp;omega) _⟩
theorem decode_any (t:Nat) (h8:t<256) (h:OHead) (B:Nat) (bv:Value) (body:List Int) (w:World) (hb:Sl w B 1 bv body.length (body.map u8c)) (hB:B≤w.heap.size) (hn:body.length≤65515) (hl8:∀ x∈body,0≤x∧x<256)
  (hty:h.type=t) (hlen:h.len=20+(body.length:Int)):Calls Tryz.prog 35 #[stateVal h bv] w fun x w'=>DecPost t body w x w':=by
 cases ht:knownB t with
 | false=>exact decodeN_any t ht h8 h B bv body w hb hn hty hlen
 | true=>exact decodeK_any t ht h B bv body w hb hB hn hl8 hty hlen
set_option maxRecDepth 100000
set_option maxHeartbeats 1000000 in
theorem checkG_any (t:Nat) (h8:t<256) (h:OHead) (ok:HeadOk h) (B:Nat) (bv:Value) (body:List Int) (w:World) (hb:Sl w B 1 bv body.length (body.map u8c)) (hB:B≤w.heap.size) (hn:body.length≤1099511627776) (hl8:∀ x∈body,0≤x∧x<256) (hty:h.type=t) :
  Calls Tryz.prog 112 #[stateVal h bv] w fun x w'=>x=.returned (.int .i64 (chkP h body (decQ t body).2))∧Below w.heap.size w w':=by
 have CD:∀ W,Sl W B 1 bv body.length (body.map u8c)→B≤W.heap.size→h.len=20+(body.length:Int)→Calls Tryz.prog 35 #[stateVal h bv] W fun x w'=>DecPost t body W x w':=fun W h1 h2 h3=>decode_any t h8 h B bv body W h1 h2 (by have:=ok.len;omega) hl8 hty h3
 clear hty
 unfold DecPost at CD
 obtain ⟨e,he0⟩:∃ e,e=(decQ t body).2:=⟨_,rfl⟩
 simp only[←he0] at CD
 rw[←he0]
 clear he0
 have hb0:=hb
 have hlr:=ok.len
 have hh8:∀ x∈(headB h++body).drop 2,0≤x∧x<256:=fun x hx=>by
  rcases List.mem_append.1 (List.mem_of_mem_drop hx) with h1 | h1
  ·exact headB_byte h ok x h1
  ·exact hl8 x h1
 have CW:=fun W hs hz=>bytes_any h ok B bv body W hs hz hn
 have hLn:(headB h++body).length=20+body.length:=by rw[l'a,headB_len]
 have hP:chkP h body e=if h.len≠20+(body.length:Int) then 22 else if h.sum=0∨wholeB ((headB h++body).drop 2)=false then 23 else if e≠21∧(h.seq = -2147483648∨3600<ageP h.age) then 24 else e:=rfl
 generalize headB h++body=L at CW hh8 hLn hP
 generalize chkP h body e=r at hP ⊢
 obtain ⟨-,A,c,rfl,-⟩:=hb
 replace CW:=h'd CW
 replace hLn:=h'd hLn
 have hCD:=h'd CD
 have hhl:=h'd hh8
 clear CD hl8 hh8
 have wl:wrap64 (20+(body.length:Int))=20+(body.length:Int):=by unfold wrap64;omega
 have wq:wrap64 h.len=h.len:=by unfold wrap64;omega
 have q0:Blk (w.alloc (.cells #[.int .u16 h.age,.int .u8 h.opts,.int .u8 h.type,.int .u32 h.id,.int .u32 h.adv,.int .i32 h.seq,.int .u16 h.sum,.int .u16 h.len,.slice A body.length c] 71)) w.heap.size 71 #[.int .u16 h.age,.int .u8 h.opts,.int .u8 h.type,.int .u32 h.id,.int .u32 h.adv,.int .i32 h.seq,.int .u16 h.sum,.int .u16 h.len,.slice A body.length c]:=Blk.new _ _ _
 have qB:Below w.heap.size w (w.alloc (.cells #[.int .u16 h.age,.int .u8 h.opts,.int .u8 h.type,.int .u32 h.id,.int .u32 h.adv,.int .i32 h.seq,.int .u16 h.sum,.int .u16 h.len,.slice A body.length c] 71)):=(b'r _ _).alloc (n'r _) _
 by_cases h1:h.len=20+(body.length:Int)
 ·have e1:(h.len != 20+(body.length:Int))=false:=by simp[h1]
  rw[if_neg (by simp[h1])] at hP
  have hl1:=h'd h1
  clear h1
  by_cases h2:h.sum=0
  ·have e2:(h.sum==0)=true:=by simp[h2]
   rw[if_pos (.inl h2)] at hP
   subst hP
   clear h2
   go_enter Tryz.func112,Tryz.ntmps112
   go_wp2
   go_ret
   exact ⟨rfl,qB⟩
  ·have e2:(h.sum==0)=false:=by simp[h2]
   have hb1:=hb0.below (qB.mono hB)
   have hz1:=qB.size
   go_enter Tryz.func112,Tryz.ntmps112
   have CB:=h'd (CW.out _ hb1 (n't hB hz1))
   cases hwh:wholeB (L.drop 2)
   ·rw[if_pos (.inr hwh)] at hP
    subst hP
    go_wp2_with (first
     | (go_at_call 140;refine c'm CB.out ?_;rintro x w2 ⟨v,rfl,ho2,k2⟩;obtain ⟨-,Ab,cb,rfl,hcc,-⟩:=Sl.of_own ho2;obtain ⟨v2,hd0,hd2⟩:=drop_ex u8T Ab L.length cb 2 (by have:=hLn.out;omega) hcc;have hd:∀ W,(Instr.sliceAt 69 (.slice Ab L.length cb) (some (.int .i64 2)) none none).run Tryz.prog W=.ok v2 W:=hd0;clear hd0;have hs2:=hd2 _ _ _ (Sl.of_own ho2);have CC:=h'd (whole8_any _ v2 (L.drop 2) w2 (by rw[List.length_drop,List.map_drop];simpa using hs2) (n'r _) hhl.out (by have:=hLn.out;rw[List.length_drop];omega));clear hs2;rw[hwh] at CC)
     | (go_at_call 139;with_reducible refine c'm CC.out ?_;rintro x w3 ⟨rfl,k3⟩))
    go_ret
    exact ⟨rfl,(qB.trans (k2.mono hz1)).trans (k3.mono (n't hz1 k2.size))⟩
   ·rw[if_neg (by simp[h2,hwh])] at hP
    go_upto_region 5 with (first
     | (go_at_call 140;refine c'm CB.out ?_;rintro x w2 ⟨v,rfl,ho2,k2⟩;obtain ⟨-,Ab,cb,rfl,hcc,-⟩:=Sl.of_own ho2;obtain ⟨v2,hd0,hd2⟩:=drop_ex u8T Ab L.length cb 2 (by have:=hLn.out;omega) hcc;have hd:∀ W,(Instr.sliceAt 69 (.slice Ab L.length cb) (some (.int .i64 2)) none none).run Tryz.prog W=.ok v2 W:=hd0;clear hd0;have hs2:=hd2 _ _ _ (Sl.of_own ho2);have CC:=h'd (whole8_any _ v2 (L.drop 2) w2 (by rw[List.length_drop,List.map_drop];simpa using hs2) (n'r _) hhl.out (by have:=hLn.out;rw[List.length_drop];omega));clear hs2;rw[hwh] at CC)
     | (go_at_call 139;with_reducible refine c'm CC.out ?_;rintro x w3 ⟨rfl,k3⟩))
    have q3:Blk w3 w.heap.size 71 #[.int .u16 h.age,.int .u8 h.opts,.int .u8 h.type,.int .u32 h.id,.int .u32 h.adv,.int .i32 h.seq,.int .u16 h.sum,.int .u16 h.len,.slice A body.length c]:=(q0.below k2 q0.lt).below k3 (q0.below k2 q0.lt).lt
    have B3:Below w.heap.size w w3:=(qB.trans (k2.mono hz1)).trans (k3.mono (n't hz1 k2.size))
    have CE:=h'd (hCD.out w3 (hb0.below (B3.mono hB)) (n't hB B3.size) hl1.out)
    clear CC CB hd hd2 ho2 k2 k3 hb1 qB hCD CW q0 hcc
    have hz3:=q3.lt
    go_upto_region 6 with (first
     | (refine wpList_load_row rfl 71 (.tmp 1) rfl w.heap.size rfl 71 #[.int .u16 h.age,.int .u8 h.opts,.int .u8 h.type,.int .u32 h.id,.int .u32 h.adv,.int .i32 h.seq,.int .u16 h.sum,.int .u16 h.len,.slice A body.length c] (0,0) _ q3 Tryz.underlying71 rfl (by kernel_rfl) ?_)
     | (go_at_call 35;refine c'm CE.out ?_;rintro x w4 ⟨csd,rfl,hBAd,k4⟩;obtain ⟨A1,c1,A2,c2,A3,c3,rfl,-⟩:=hBAd;dsimp only))
    have q4:=q3.below k4 q3.lt
    have hz4:=q4.lt
    have B5:Below w.heap.size w (w4.alloc (.cells (bodyC (decQ t body).1.flags A1 (decQ t body).1.links.length c1 (decQ t body).1.mask A2 (decQ t body).1.routers.length c2 (decQ t body).1.metric (decQ t body).1.t2 (decQ t body).1.fw (decQ t body).1.tg A3 (decQ t body).1.data.length c3) 81)):=below_alloc (B3.trans (k4.mono B3.size)) (n'r _) _
    have q5:=q4.alloc (.cells (bodyC (decQ t body).1.flags A1 (decQ t body).1.links.length c1 (decQ t body).1.mask A2 (decQ t body).1.routers.length c2 (decQ t body).1.metric (decQ t body).1.t2 (decQ t body).1.fw (decQ t body).1.tg A3 (decQ t body).1.data.length c3) 81)
    generalize w4.alloc (.cells (bodyC (decQ t body).1.flags A1 (decQ t body).1.links.length c1 (decQ t body).1.mask A2 (decQ t body).1.routers.length c2 (decQ t body).1.metric (decQ t body).1.t2 (decQ t body).1.fw (decQ t body).1.tg A3 (decQ t body).1.data.length c3) 81)=w5 at q5 B5 ⊢
    have x0:=q5.cell 0
    have x5:=q5.cell 5
    simp only[q'a,q'z,q's] at x0 x5
    clear q3 q4 CE k4 B3 q5
    by_cases he:e=21
    ·have e3:(e != 21)=false:=by simp[he]
     rw[if_neg (by simp[he])] at hP
     subst hP
     clear he
     go_wp2
     go_ret
     exact ⟨rfl,B5⟩
    ·have e3:(e != 21)=true:=by simp[he]
     by_cases hs:h.seq = -2147483648
     ·have e4:(h.seq == -2147483648)=true:=by simp[hs]
      rw[if_pos ⟨he,.inl hs⟩] at hP
      subst hP
      clear he hs
      go_wp2
      go_ret
      exact ⟨rfl,B5⟩
     ·have e4:(h.seq == -2147483648)=false:=by simp[hs]
      rw[show ageP h.age=bits BinOp.andNot IntKind.u16 h.age 32768 from rfl] at hP
      by_cases ha:3600<bits BinOp.andNot IntKind.u16 h.age 32768
      ·rw[if_pos ⟨he,.inr ha⟩] at hP
       subst hP
       have e5:=d't ha
       clear he hs
       go_wp2
       go_ret
       exact ⟨rfl,B5⟩
      ·rw[if_neg (by simp[hs,ha])] at hP
       subst hP
       have e5:=d'f ha
       clear he hs
       go_wp2
       go_ret
       exact ⟨rfl,B5⟩
 ·have e1:(h.len != 20+(body.length:Int))=true:=by simp[h1]
  rw[if_pos h1] at hP
  subst hP
  clear h1
  go_enter Tryz.func112,Tryz.ntmps112
  go_wp2
  go_ret
  exact ⟨rfl,qB⟩
set_option maxRecDepth 100000
def kindP (h:OHead):Bool:=h.type==1 || h.type==2
def freshP (h:OHead) (body:List Int):Bool:=!oldP h.age && chkP h body (decQ h.type.toNat body).2==0
def mineP (h:OHead):Bool:=h.type==2 || (h.id==h.adv && h.id != 0)
def countsP (h:OHead) (body:List Int):Bool:=kindP h && (freshP h body && mineP h)
theorem counts1_any (h:OHead) (bv:Value) (g:Nat) (w:World) (hg:Blk w g 71 #[.int .u16 h.age,.int .u8 h.opts,.int .u8 h.type,.int .u32 h.id,.int .u32 h.adv,.int .i32 h.seq,.int .u16 h.sum,.int .u16 h.len,bv]) :
  Calls Tryz.prog 109 #[.pointer (some ⟨g,0,none⟩)] w fun x w'=>x=.returned (.bool (kindP h))∧w'=w:=by
 have x2:=hg.cell 2
 simp only[q'a,q'z,q's] at x2
 obtain ⟨q,hq⟩:∃ q,q=kindP h:=⟨_,rfl⟩
 rw[←hq]
 unfold kindP at hq
 obtain ⟨t,ht⟩:∃ t,t=h.type:=⟨_,rfl⟩
 rw[←ht] at x2 hq
 clear ht hg
 by_cases h1:t=1
 ·subst h1
  obtain rfl:q=true:=by rw[hq];rfl
  clear hq
  go_enter Tryz.func109,Tryz.ntmps109
  go_wp2
  go_ret
  exact ⟨rfl,rfl⟩
 ·have e1:(t==1)=false:=by simpa using h1
  rw[e1,Bool.false_or] at hq
  clear h1
  by_cases h2:t=2
  ·have e2:(t==2)=true:=by simpa using h2
   rw[e2] at hq
   subst hq
   clear h2
   go_enter Tryz.func109,Tryz.ntmps109
   go_wp2
   go_ret
   exact ⟨rfl,rfl⟩
  ·have e2:(t==2)=false:=by simpa using h2
   rw[e2] at hq
   subst hq
   clear h2
   go_enter Tryz.func109,Tryz.ntmps109
   go_wp2
   go_ret
   exact ⟨rfl,rfl⟩
theorem counts3_any (h:OHead) (bv:Value) (g:Nat) (w:World) (hg:Blk w g 71 #[.int .u16 h.age,.int .u8 h.opts,.int .u8 h.type,.int .u32 h.id,.int .u32 h.adv,.int .i32 h.seq,.int .u16 h.sum,.int .u16 h.len,bv]) :
  Calls Tryz.prog 113 #[.pointer (some ⟨g,0,none⟩)] w fun x w'=>x=.returned (.bool (mineP h))∧w'=w:=by
 have x2:=hg.cell 2
 have x3:=hg.cell 3
 have x4:=hg.cell 4
 simp only[q'a,q'z,q's] at x2 x3 x4
 obtain ⟨q,hq⟩:∃ q,q=mineP h:=⟨_,rfl⟩
 rw[←hq]
 unfold mineP at hq
 obtain ⟨t,ht⟩:∃ t,t=h.type:=⟨_,rfl⟩
 obtain ⟨i,hi⟩:∃ i,i=h.id:=⟨_,rfl⟩
 obtain ⟨a,ha⟩:∃ a,a=h.adv:=⟨_,rfl⟩
 rw[←ht] at x2 hq
 rw[←hi] at x3 hq
 rw[←ha] at x4 hq
 clear ht hi ha hg
 cases e1:(t==2) <;> cases e2:(i==a) <;> cases e3:(i != 0)
 all_goals
  rw[e1,e2,e3] at hq
  subst hq
  go_enter Tryz.func113,Tryz.ntmps113
  go_wp2
  go_ret
  exact ⟨rfl,rfl⟩
set_option maxHeartbeats 1000000 in
theorem counts2_any (t:Nat) (h8:t<256) (h:OHead) (ok:HeadOk h) (B:Nat) (bv:Value) (body:List Int) (g:Nat) (w:World) (hb:Sl w B 1 bv body.length (body.map u8c)) (hB:B≤w.heap.size) (hn:body.length≤1099511627776) (hl8:∀ x∈body,0≤x∧x<256) (hty:h.type=t)
  (hg:Blk w g 71 #[.int .u16 h.age,.int .u8 h.opts,.int .u8 h.type,.int .u32 h.id,.int .u32 h.adv,.int .i32 h.seq,.int .u16 h.sum,.int .u16 h.len,bv]) :
  Calls Tryz.prog 110 #[.pointer (some ⟨g,0,none⟩)] w fun x w'=>x=.returned (.bool (freshP h body))∧Below w.heap.size w w':=by
 have CC:=checkG_any t h8 h ok B bv body w hb hB hn hl8 hty
 have CO:=old_any h.age w
 obtain ⟨-,A,c,rfl,-⟩:=hb
 have x0:=hg.cell 0
 have x1:=hg.cell 1
 have x2:=hg.cell 2
 have x3:=hg.cell 3
 have x4:=hg.cell 4
 have x5:=hg.cell 5
 have x6:=hg.cell 6
 have x7:=hg.cell 7
 have x8:=hg.cell 8
 simp only[q'a,q'z,q's] at x0 x1 x2 x3 x4 x5 x6 x7 x8
 obtain ⟨q,hq⟩:∃ q,q=freshP h body:=⟨_,rfl⟩
 rw[←hq]
 unfold freshP at hq
 rw[show h.type.toNat=t by omega] at hq
 generalize chkP h body (decQ t body).2=e at CC hq
 obtain ⟨age,opts,type,id,adv,seq,sum,len⟩:=h
 dsimp only[stateVal] at *
 subst hty
 cases ho:oldP age with
 | true =>
  rw[ho] at hq CO
  obtain rfl:q=false:=by rw[hq];rfl
  replace CO:=h'd CO
  clear CC hg hq ho
  go_enter Tryz.func110,Tryz.ntmps110
  go_wp2_with (go_at_call 111;refine c'm CO.out ?_;rintro x w2 ⟨rfl,rfl⟩)
  go_ret
  exact ⟨rfl,b'r _ _⟩
 | false =>
  rw[ho] at hq CO
  rw[Bool.not_false,Bool.true_and] at hq
  replace CO:=h'd CO
  replace CC:=h'd CC
  clear hg ho
  cases he:(e==0)
  all_goals
   rw[he] at hq
   subst hq
   go_enter Tryz.func110,Tryz.ntmps110
   go_wp2_with (first
    | (go_at_call 111;refine c'm CO.out ?_;rintro x w2 ⟨rfl,rfl⟩)
    | (go_at_call 112;refine c'm CC.out ?_;rintro x w3 ⟨rfl,hB3⟩))
   go_ret
   exact ⟨rfl,hB3⟩
set_option maxHeartbeats 2000000 in
theorem gcounts_any (t:Nat) (h8:t<256) (h:OHead) (ok:HeadOk h) (B:Nat) (bv:Value) (body:List Int) (w:World) (hb:Sl w B 1 bv body.length (body.map u8c)) (hB:B≤w.heap.size) (hn:body.length≤1099511627776) (hl8:∀ x∈body,0≤x∧x<256) (hty:h.type=t) :
  Calls Tryz.prog 68 #[stateVal h bv] w fun x w'=>x=.returned (.bool (countsP h body))∧Below w.heap.size w w':=by
 have C1:=counts1_any h bv w.heap.size
 have C3:=counts3_any h bv w.heap.size
 have C2:=fun W h1 h2=>counts2_any t h8 h ok B bv body w.heap.size W h1 h2 hn hl8 hty
 obtain ⟨q,hq⟩:∃ q,q=countsP h body:=⟨_,rfl⟩
 rw[←hq]
 unfold countsP at hq
 generalize kindP h=q1 at C1 hq
 generalize freshP h body=q2 at C2 hq
 generalize mineP h=q3 at C3 hq
 have hb0:=hb
 obtain ⟨-,A,c,rfl,-⟩:=hb
 obtain ⟨age,opts,type,id,adv,seq,sum,len⟩:=h
 dsimp only[stateVal] at *
 subst hty
 clear ok
 obtain ⟨o,ho⟩:∃ o:Obj,o=.cells #[.int .u16 age,.int .u8 opts,.int .u8 (t:Int),.int .u32 id,.int .u32 adv,.int .i32 seq,.int .u16 sum,.int .u16 len,.slice A body.length c] 71:=⟨_,rfl⟩
 obtain ⟨F,hF⟩:∃ F:Nat→Value,F=fun k=>.func (.func k) #[] #[.pointer (some ⟨w.heap.size,0,none⟩)]:=⟨_,rfl⟩
 have k0:Blk ((w.alloc o).alloc (.cells #[F 109,F 110,F 113] 25)) w.heap.size 71 #[.int .u16 age,.int .u8 opts,.int .u8 (t:Int),.int .u32 id,.int .u32 adv,.int .i32 seq,.int .u16 sum,.int .u16 len,.slice A body.length c]:=by
  rw[ho];exact (Blk.new _ _ _).alloc _
 have k1:Blk ((w.alloc o).alloc (.cells #[F 109,F 110,F 113] 25)) (w.heap.size+1) 25 #[F 109,F 110,F 113]:=heap_alloc2_new w _ _
 have kB:Below w.heap.size w ((w.alloc o).alloc (.cells #[F 109,F 110,F 113] 25)):=((b'r _ _).alloc (n'r _) _).alloc (by simp) _
 rw[ho,hF] at k0 k1 kB
 dsimp only at k0 k1 kB
 clear ho hF o F
 go_enter Tryz.func68,Tryz.ntmps68
 go_upto_region 3 with fail
 generalize ((w.alloc (.cells #[.int .u16 age,.int .u8 opts,.int .u8 (t:Int),.int .u32 id,.int .u32 adv,.int .i32 seq,.int .u16 sum,.int .u16 len,.slice A body.length c] 71)).alloc _)=w1 at k0 k1 kB ⊢
 have hb1:=hb0.below (kB.mono hB)
 obtain ⟨g,hg⟩:∃ g,g=w.heap.size:=⟨_,rfl⟩
 rw[←hg] at k0 k1 C1 C2 C3 hB ⊢
 replace hg:=h'd hg
 have hl0:=k0.lt
 have hz1:B≤w1.heap.size:=by omega
 go_loopg [12] 3 (fun m v wr=>∃ k:Nat,k≤3∧m=3-k∧v=.int .i64 k∧(0<k→q1=true)∧(1<k→q2=true)∧(2<k→q3=true)∧Below w1.heap.size w1 wr)
 case atStart=>exact ⟨0,by omega,rfl,rfl,by omega,by omega,by omega,b'r _ _⟩
 case round =>
  obtain ⟨k,hk,rfl,rfl,a1,a2,a3,hBr⟩:=hrel
  obtain ⟨w2,rfl⟩:∃ x:World,x=wr:=⟨_,rfl⟩
  have k0:=k0.below hBr k0.lt
  have k1:=k1.below hBr k1.lt
  have hb2:=hb1.below (hBr.mono hz1)
  have y0:=k1.cell 0
  have y1:=k1.cell 1
  have y2:=k1.cell 2
  simp only[q'a,q'z,q's] at y0 y1 y2
  have D1:=h'd (C1 w2 k0)
  have D2:=h'd (C2 w2 hb2 (by have:=hBr.size;omega) k0)
  have D3:=h'd (C3 w2 k0)
  replace hq:=h'd hq
  replace a1:=h'd a1
  replace a2:=h'd a2
  replace a3:=h'd a3
  have fin:∀ w3,Below w2.heap.size w2 w3→Below w.heap.size w w3:=fun w3 h=>kB.trans ((hBr.trans (h.mono hBr.size)).mono kB.size)
  have hk4:k=0∨k=1∨k=2∨k=3:=by omega
  clear hk k1 k0 hb2 C1 C2 C3
  rcases hk4 with rfl | rfl | rfl | rfl
  ·cases q1 with
   | false =>
    obtain rfl:q=false:=by rw[hq.out];rfl
    go_wp2_with (go_at_call 109;refine c'm D1.out ?_;rintro x w3 ⟨rfl,rfl⟩)
    go_ret
    exact ⟨rfl,fin _ (b'r _ _)⟩
   | true =>
    go_wp2_with (go_at_call 109;refine c'm D1.out ?_;rintro x w3 ⟨rfl,rfl⟩)
    go_roundg 2
    case measure=>omega
    case rel=>exact ⟨1,by omega,rfl,by go_num,by simp,by omega,by omega,hBr⟩
  ·have e1:=a1.out (by omega)
   subst e1
   cases q2 with
   | false =>
    obtain rfl:q=false:=by rw[hq.out];rfl
    go_wp2_with (go_at_call 110;refine c'm D2.out ?_;rintro x w3 ⟨rfl,hB3⟩)
    go_ret
    exact ⟨rfl,fin _ hB3⟩
   | true =>
    go_wp2_with (go_at_call 110;refine c'm D2.out ?_;rintro x w3 ⟨rfl,hB3⟩)
    go_roundg 1
    case measure=>omega
    case rel=>exact ⟨2,by omega,rfl,by go_num,by simp,by simp,by omega,hBr.trans (hB3.mono hBr.size)⟩
  ·have e1:=a1.out (by omega)
   have e2:=a2.out (by omega)
   subst e1 e2
   cases q3 with
   | false =>
    obtain rfl:q=false:=by rw[hq.out];rfl
    go_wp2_with (go_at_call 113;refine c'm D3.out ?_;rintro x w3 ⟨rfl,rfl⟩)
    go_ret
    exact ⟨rfl,fin _ (b'r _ _)⟩
   | true =>
    go_wp2_with (go_at_call 113;refine c'm D3.out ?_;rintro x w3 ⟨rfl,rfl⟩)
    go_roundg 0
    case measure=>omega
    case rel=>exact ⟨3,by omega,rfl,by go_num,by simp,by simp,by simp,hBr⟩
  ·have e1:=a1.out (by omega)
   have e2:=a2.out (by omega)
   have e3:=a3.out (by omega)
   subst e1 e2 e3
   obtain rfl:q=true:=by rw[hq.out];rfl
   go_wp2
   go_ret
   exact ⟨rfl,fin _ (b'r _ _)⟩
end Go.Proofs.YtcknpofnpabkiaaGreat
