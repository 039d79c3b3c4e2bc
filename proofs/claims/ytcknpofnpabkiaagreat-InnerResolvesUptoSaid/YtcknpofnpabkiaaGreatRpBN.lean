/- The ways within an area, in plain words: out of the nodes, their costs and their first steps. No walk stands here. -/
import Derived.Test.YtcknpofnpabkiaaGreatRpAI
import Derived.Test.YtcknpofnpabkiaaGreatRpBJ
import Derived.Test.YtcknpofnpabkiaaGreatRpAA
namespace Go.Proofs.YtcknpofnpabkiaaGreat
open Go.RowKit Go.Lo
theorem wrap_u32r (op:BinOp) (a b:Int):0≤bits op .u32 a b∧bits op .u32 a b<4294967296:=by
 unfold bits
 rw[IntKind.wrap_u32]
 omega
theorem bitsV_r (m:Int):0≤bitsV m∧bitsV m<256:=by
 unfold bitsV bitsN
 split <;> omega
theorem numB_two (l:List Int) (h8:∀ x∈l,0≤x∧x<256):0≤numB (l.take 2)∧numB (l.take 2)<65536:=by
 have h1:(l.take 2).length≤2:=by rw[List.length_take];omega
 rw[numB_eq _ (by omega) fun x hx=>h8 x (List.mem_of_mem_take hx)]
 have h2:=numL_range _ (l.take 2) rfl fun x hx=>h8 x (List.mem_of_mem_take hx)
 generalize (l.take 2).length=k at h1 h2
 have:(256:Int) ^ k≤65536:=by
  rcases k with _ | _ | _ | k
  ·decide
  ·decide
  ·decide
  ·omega
 omega
theorem links_cost {l:List Int} (h8:∀ x∈l,0≤x∧x<256) (n:Nat):∀ x∈linksOf l n,0≤x.cost∧x.cost<65536:=by
 intro x hx
 unfold linksOf at hx
 obtain ⟨k,-,rfl⟩:=List.mem_map.1 hx
 exact numB_two _ fun y hy=>h8 y (List.mem_of_mem_drop (List.mem_of_mem_drop hy))
structure NodOk (n:NodG):Prop where
 id:0≤n.id∧n.id<4294967296
 a:0≤n.netA∧n.netA<4294967296
 b:0≤n.netB∧n.netB<256
 nz:n.network=false→n.id≠0
 edge:∀ e∈n.edges,0≤e.cost∧e.cost<65536
 stub:∀ s∈n.stubs,(0≤s.1∧s.1<4294967296)∧(0≤s.2.1∧s.2.1<256)∧0≤s.2.2∧s.2.2<65536
 el:n.edges.length≤2048
 sl:n.stubs.length≤2048
theorem body_links {s:StG} (h8:∀ b∈s.2,0≤b∧b<256) (hl:s.2.length≤8192):(∀ x∈(bodyG s).links,0≤x.cost∧x.cost<65536)∧(bodyG s).links.length≤2048∧(bodyG s).routers.length≤2048:=by
 have h0:(∀ x∈zeroB.links,0≤x.cost∧x.cost<65536)∧zeroB.links.length≤2048∧zeroB.routers.length≤2048:=⟨fun x hx=>(by cases hx),Nat.zero_le _,Nat.zero_le _⟩
 have h1:(∀ x∈(readP s.1.type.toNat s.2).links,0≤x.cost∧x.cost<65536)∧(readP s.1.type.toNat s.2).links.length≤2048∧(readP s.1.type.toNat s.2).routers.length≤2048:=by
  unfold readP
  split
  ·exact ⟨links_cost h8 _,by rw[linksOf_len];omega,Nat.zero_le _⟩
  ·split
   ·exact ⟨fun x hx=>(by cases hx),Nat.zero_le _,by simp only;rw[wordsOf_len];omega⟩
   ·split
    ·exact h0
    ·split
     ·exact h0
     ·exact h0
 unfold bodyG decQ
 split
 ·exact h0
 ·split
  ·exact h0
  ·split
   ·exact h0
   ·split
    ·exact h0
    ·exact h1
theorem stubs_ok {l:List LinkV} (h:∀ x∈l,0≤x.cost∧x.cost<65536):∀ s∈l.filterMap stubP,(0≤s.1∧s.1<4294967296)∧(0≤s.2.1∧s.2.1<256)∧0≤s.2.2∧s.2.2<65536:=by
 intro s hs
 obtain ⟨x,hx,he⟩:=List.mem_filterMap.1 hs
 unfold stubP at he
 split at he
 ·simp only[o'j] at he
  subst he
  exact ⟨wrap_u32r .and x.id x.data,bitsV_r x.data,h x hx⟩
 ·cases he
theorem nodeG_ok {L:List StG} {i:Nat} {s:StG} (hs:StOk s) (hl:s.2.length≤8192) (hc:isG s=true):NodOk (nodeG L i s):=by
 obtain ⟨h1,h2,h3⟩:=body_links hs.2.2 hl
 unfold nodeG
 split
 ·rename_i ht
  refine ⟨hs.1.id,wrap_u32r .and s.1.id (bodyG s).mask,bitsV_r (bodyG s).mask,fun h=>(by cases h),fun e he => ?_,fun s hs=>(by cases hs),n't (List.length_filterMap_le _ _) h3,Nat.zero_le _⟩
  obtain ⟨r,-,hr⟩:=List.mem_filterMap.1 he
  unfold edgeN at hr
  split at hr
  ·cases hr
  ·split at hr
   ·simp only[o'j] at hr
    subst hr
    exact ⟨by simp,by simp⟩
   ·cases hr
 ·rename_i ht
  refine ⟨hs.1.id,by simp,by simp,fun _ => ?_,fun e he => ?_,stubs_ok h1,n't (List.length_filterMap_le _ _) h2,n't (List.length_filterMap_le _ _) h2⟩
  ·have hm:mineP s.1=true:=by
    unfold isG countsP at hc
    simp only[Bool.and_eq_true] at hc
    exact hc.2.2
   unfold mineP at hm
   have ht2:(s.1.type==2)=false:=by simpa using ht
   rw[ht2] at hm
   simp only[Bool.false_or,Bool.and_eq_true,bne_iff_ne,ne_eq] at hm
   exact hm.2
  ·obtain ⟨x,hx,hr⟩:=List.mem_filterMap.1 he
   unfold edgeP at hr
   split at hr
   ·cases hr
   ·split at hr
    ·cases hr
    ·split at hr
     ·cases hr
     ·split at hr
      ·simp only[o'j] at hr
       subst hr
       exact h1 x hx
      ·cases hr
theorem best_mem {S:List StG} {k:KN} {s:StG} (h:bestN S k=some s):s∈S∧isG s=true:=by
 obtain ⟨i,hi⟩:=(best_iff S k s).1 h
 exact ⟨List.mem_of_getElem? hi.at_,hi.isg⟩
theorem nodesG_mem {S:List StG} {s:StG} (h:s∈nodesG S):s∈S∧isG s=true:=best_mem (((nodesG_ok S).mem s).1 h)
theorem graph_ok {S:List StG} (hs:∀ s∈S,StOk s) (hl:∀ s∈S,s.2.length≤8192):∀ n∈graphG (nodesG S),NodOk n:=by
 intro n hn
 unfold graphG at hn
 obtain ⟨i,hi,rfl⟩:=List.mem_iff_getElem.1 hn
 rw[List.getElem_mapIdx]
 have hm:=nodesG_mem (g'm (l:=nodesG S) (n:=i) (by simpa using hi))
 exact nodeG_ok (hs _ hm.1) (hl _ hm.1) hm.2
def gnOf (n:NodG):GNode:=⟨n.network,n.id,n.netA,n.netB,n.flags,n.edges⟩
def gnsOf (N:List NodG):List GNode:=N.map gnOf
theorem gnsOf_len (N:List NodG):(gnsOf N).length=N.length:=by simp[gnsOf]
theorem esOf_gns {N:List NodG} {i:Nat} (h:i<N.length):esOf (gnsOf N) i=N[i].edges:=by
 rw[esOf_eq (by rw[gnsOf_len];exact h)]
 simp[gnsOf,gnOf]
theorem gns_okG {N:List NodG} (h:∀ n∈N,NodOk n):okG (gnsOf N):=by
 intro n hn e he
 obtain ⟨m,hm,rfl⟩:=List.mem_map.1 hn
 have:=(h m hm).edge e he
 omega
def netsAt (area:Int) (N:List NodG) (c:List Int) (H:List (List Hop)) (i:Nat):List WayG:=
 match N[i]? with
 | none=>[]
 | some n=>if at_ c i<far then (if n.network=true then [(⟨n.netA,n.netB,0,0,1,area,at_ c i,0,0⟩,hAt H i)] else n.stubs.filterMap fun s=>if at_ c i+s.2.2<far then some (⟨s.1,s.2.1,0,0,1,area,at_ c i+s.2.2,0,0⟩,hAt H i) else none) else []
def netsTo (area:Int) (N:List NodG) (c:List Int) (H:List (List Hop)) (k:Nat):List WayG:=(List.range k).flatMap (netsAt area N c H)
def routersAt (area root:Int) (N:List NodG) (c:List Int) (H:List (List Hop)) (i:Nat):List WayG:=
 match N[i]? with
 | none=>[]
 | some n=>if at_ c i<far∧n.network=false∧n.id≠root then [(⟨0,0,n.id,n.flags,1,area,at_ c i,0,0⟩,hAt H i)] else []
def routersTo (area root:Int) (N:List NodG) (c:List Int) (H:List (List Hop)) (k:Nat):List WayG:=(List.range k).flatMap (routersAt area root N c H)
theorem netsTo_succ (area:Int) (N:List NodG) (c:List Int) (H:List (List Hop)) (k:Nat):netsTo area N c H (k+1)=netsTo area N c H k++netsAt area N c H k:=by
 simp[netsTo,List.range_succ]
theorem routersTo_succ (area root:Int) (N:List NodG) (c:List Int) (H:List (List Hop)) (k:Nat):routersTo area root N c H (k+1)=routersTo area root N c H k++routersAt area root N c H k:=by
 simp[routersTo,List.range_succ]
def GOk (A:List Hop) (g:WayG):Prop:=InK (keyG g.1)∧Sorted g.2∧∀ h∈g.2,h∈A
theorem netsAt_ok {area:Int} {N:List NodG} {c:List Int} {H:List (List Hop)} {root:Nat} (hN:∀ n∈N,NodOk n) (hH:Hops (gnsOf N) root c H) (i:Nat):∀ g∈netsAt area N c H i,GOk (allHops (gnsOf N) root) g:=by
 intro g hg
 have hh:Sorted (hAt H i)∧∀ h∈hAt H i,h∈allHops (gnsOf N) root:=⟨hH.sorted i,fun h hx=>((hH.mem i h).1 hx).all⟩
 unfold netsAt at hg
 split at hg
 ·cases hg
 ·rename_i n hn
  have ok:=hN n (List.mem_of_getElem? hn)
  split at hg
  ·split at hg
   ·rw[List.mem_singleton.1 hg]
    exact ⟨⟨ok.a,ok.b,by simp[keyG]⟩,hh⟩
   ·obtain ⟨s,hs,he⟩:=List.mem_filterMap.1 hg
    have hk:=ok.stub s hs
    split at he
    ·simp only[o'j] at he
     subst he
     exact ⟨⟨hk.1,hk.2.1,by simp[keyG]⟩,hh⟩
    ·cases he
  ·cases hg
theorem routersAt_ok {area rid:Int} {N:List NodG} {c:List Int} {H:List (List Hop)} {root:Nat} (hN:∀ n∈N,NodOk n) (hH:Hops (gnsOf N) root c H) (i:Nat):∀ g∈routersAt area rid N c H i,GOk (allHops (gnsOf N) root) g:=by
 intro g hg
 have hh:Sorted (hAt H i)∧∀ h∈hAt H i,h∈allHops (gnsOf N) root:=⟨hH.sorted i,fun h hx=>((hH.mem i h).1 hx).all⟩
 unfold routersAt at hg
 split at hg
 ·cases hg
 ·rename_i n hn
  have ok:=hN n (List.mem_of_getElem? hn)
  split at hg
  ·rw[List.mem_singleton.1 hg]
   exact ⟨⟨by simp[keyG],by simp[keyG],ok.id⟩,hh⟩
  ·cases hg
theorem netsTo_ok {area:Int} {N:List NodG} {c:List Int} {H:List (List Hop)} {root:Nat} (hN:∀ n∈N,NodOk n) (hH:Hops (gnsOf N) root c H) (k:Nat):∀ g∈netsTo area N c H k,GOk (allHops (gnsOf N) root) g:=fun g hg=>by
 obtain ⟨i,-,hi⟩:=List.mem_flatMap.1 hg
 exact netsAt_ok hN hH i g hi
theorem routersTo_ok {area rid:Int} {N:List NodG} {c:List Int} {H:List (List Hop)} {root:Nat} (hN:∀ n∈N,NodOk n) (hH:Hops (gnsOf N) root c H) (k:Nat):∀ g∈routersTo area rid N c H k,GOk (allHops (gnsOf N) root) g:=fun g hg=>by
 obtain ⟨i,-,hi⟩:=List.mem_flatMap.1 hg
 exact routersAt_ok hN hH i g hi
theorem bestStep_ok {A:List Hop} {o:Option WayG} {g:WayG} (ho:∀ x,o=some x→Sorted x.2∧∀ h∈x.2,h∈A) (hg:GOk A g):Sorted (bestStep o g).2∧∀ h∈(bestStep o g).2,h∈A:=by
 unfold bestStep
 cases o with
 | none=>exact hg.2
 | some o =>
  have h1:=ho o rfl
  simp only
  split
  ·exact hg.2
  ·split
   ·exact h1
   ·have hnil:Sorted ([]:List Hop):=List.Pairwise.nil
    refine ⟨(hnil.puts o.2).puts g.2,fun h hh => ?_⟩
    rcases mem_puts.1 hh with hh | hh
    ·rcases mem_puts.1 hh with hh | hh
     ·cases hh
     ·exact h1.2 h hh
    ·exact hg.2.2 h hh
theorem bestF_ok {A:List Hop} (gs:List WayG):(∀ g∈gs,GOk A g)→∀ k o,bestF gs k=some o→Sorted o.2∧∀ h∈o.2,h∈A:=bestF_ind (fun gs f=>(∀ g∈gs,GOk A g)→∀ k o,f k=some o→Sorted o.2∧∀ h∈o.2,h∈A) (fun _ _ _ h=>by cases h) (fun gs g ih hm k o h=>by
 have ih2:=ih (fun x hx=>hm x (by simp[hx])) k
 rw[bestF_snoc] at h
 split at h
 ·simp only[o'j] at h
  subst h
  exact bestStep_ok ih2 (hm g (by simp))
 ·exact ih2 o h) gs
theorem bestF_hops {A:List Hop} {m:Nat} (hA:A.length≤m) {gs:List WayG} (h:∀ g∈gs,GOk A g) {k:K3} {o:WayG} (ho:bestF gs k=some o):o.2.length≤m:=
 have h1:=bestF_ok gs h k o ho
 n't (nodup_le h1.1.nodup h1.2) hA
abbrev OutOf (gs out:List WayG):Prop:=OutF (bestF gs) out
theorem OutF.uniq {f:K3→Option WayG} {a b:List WayG} (h:OutF f a) (k:OutF f b):a=b:=by
 have hm:∀ x,x∈a↔x∈b:=fun x=>⟨fun hx=>k.all _ x (h.is_ x hx),fun hx=>h.all _ x (k.is_ x hx)⟩
 have hir:∀ x,ltG x x=true→False:=fun x hx=>by have:=(ltG_iff x x).1 hx;omega
 have htr:∀ x y z,ltG x y=true→ltG y z=true→ltG x z=true:=fun x y z h1 h2=>by
  have h1:=(ltG_iff x y).1 h1
  have h2:=(ltG_iff y z).1 h2
  exact (ltG_iff x z).2 (by omega)
 have ra:=h.rise
 have rb:=k.rise
 clear h k
 induction a generalizing b with
 | nil =>
  cases b with
  | nil=>rfl
  | cons y b=>exact absurd ((hm y).2 (by simp)) (by simp)
 | cons x a ih =>
  cases b with
  | nil=>exact absurd ((hm x).1 (by simp)) (by simp)
  | cons y b =>
   obtain ⟨hx,ra2⟩:=List.pairwise_cons.1 ra
   obtain ⟨hy,rb2⟩:=List.pairwise_cons.1 rb
   have e:x=y:=by
    rcases List.mem_cons.1 ((hm x).1 (by simp)) with e | e
    ·exact e
    ·rcases List.mem_cons.1 ((hm y).2 (by simp)) with e2 | e2
     ·exact e2.symm
     ·exact (hir x (htr _ _ _ (hx y e2) (hy x e))).elim
   subst e
   refine congrArg _ (ih (fun s=>⟨fun hs => ?_,fun hs => ?_⟩) ra2 rb2)
   ·rcases List.mem_cons.1 ((hm s).1 (List.mem_cons_of_mem _ hs)) with e | e
    ·subst e;exact (hir _ (hx _ hs)).elim
    ·exact e
   ·rcases List.mem_cons.1 ((hm s).2 (List.mem_cons_of_mem _ hs)) with e | e
    ·subst e;exact (hir _ (hy _ hs)).elim
    ·exact e
theorem outOf_nil:OutOf [] []:=⟨List.Pairwise.nil,fun _ h=>(by cases h),fun _ _ h=>(by cases h)⟩
theorem outOf_one (g:WayG):OutOf [g] [g]:=by
 have hb:∀ k,bestF [g] k=if k=keyG g.1 then some g else none:=fun k=>rfl
 refine ⟨List.pairwise_singleton _ _,fun x hx => ?_,fun k o h => ?_⟩
 ·rw[List.mem_singleton.1 hx,hb,if_pos rfl]
 ·rw[hb] at h
  split at h
  ·simp only[o'j] at h
   rw[h];simp
  ·cases h
theorem costs_uniq {g:List GNode} {root:Nat} {c d:List Int} (hg:okG g) (hr:root<g.length) (h:Costs g root c) (k:Costs g root d):c=d:=by
 have hcl:=h.len
 have hdl:=k.len
 have hle:∀ {c d:List Int},Costs g root c→Costs g root d→∀ i,i<g.length→at_ c i≤at_ d i:=fun {c d} h k i hi=>by
  by_cases hf:at_ d i<far
  ·exact (h.least hg hr (k.way i (by rw[k.len];exact hi) hf) hf).2
  ·have:=(h.rng i (by rw[h.len];exact hi)).2
   omega
 refine List.ext_getElem (by omega) fun i h1 h2 => ?_
 have a1:=hle h k i (by omega)
 have a2:=hle k h i (by omega)
 unfold at_ at a1 a2
 simp only[List.getD_eq_getElem?_getD,List.getElem?_eq_getElem h1,List.getElem?_eq_getElem h2,o'g] at a1 a2
 omega
theorem hops_uniq {g:List GNode} {root:Nat} {c:List Int} {H K:List (List Hop)} (h:Hops g root c H) (k:Hops g root c K):H=K:=by
 have h1:=h.len
 have h2:=k.len
 refine List.ext_getElem (by omega) fun i hi hj => ?_
 have e1:hAt H i=H[i]:=by unfold hAt;rw[List.getD_eq_getElem?_getD,List.getElem?_eq_getElem hi];rfl
 have e2:hAt K i=K[i]:=by unfold hAt;rw[List.getD_eq_getElem?_getD,List.getElem?_eq_getElem hj];rfl
 rw[←e1,←e2]
 exact (h.sorted i).ext (k.sorted i) fun x=>(h.mem i x).trans (k.mem i x).symm
def InnerP (S:List StG) (area root:Int) (n r:List WayG):Prop:=
 match (graphG (nodesG S)).findIdx? (fun x=>x.network==false && x.id==root) with
 | none=>n=[]∧r=[]
 | some i=>∃ c H,Costs (gnsOf (graphG (nodesG S))) i c∧Hops (gnsOf (graphG (nodesG S))) i c H∧OutOf (netsTo area (graphG (nodesG S)) c H (graphG (nodesG S)).length) n∧OutOf (routersTo area root (graphG (nodesG S)) c H (graphG (nodesG S)).length) r
end Go.Proofs.YtcknpofnpabkiaaGreat
