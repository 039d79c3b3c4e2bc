/- tree.From at a graph that graph.Build has made, from the node that graph.Find has found, or none. Conditions: the graph is small; its numbers are of their kinds. -/
import Derived.Test.YtcknpofnpabkiaaGreatRpBS
import Derived.Test.YtcknpofnpabkiaaGreatRpBM
import Derived.Test.YtcknpofnpabkiaaGreatRpBN
import Derived.Test.YtcknpofnpabkiaaGreatRpAM
import Derived.Test.YtcknpofnpabkiaaGreatRpBL
namespace Go.Proofs.YtcknpofnpabkiaaGreat
open Go.RowKit Go.Lo
def nrOf (r:NodR):NodeRow:=⟨gnOf r.n,r.ev,r.sv⟩
theorem nr_flat (rows:List NodR):(rows.map nrOf).flatMap nodeCells=rows.flatMap nodC:=by rw[List.flatMap_map];rfl
theorem nr_nodes (rows:List NodR):nodesOf (rows.map nrOf)=gnsOf (rows.map (·.n)):=by simp[nodesOf,gnsOf,nrOf]
theorem gr_at {w:World} {base:Nat} {nv:Value} {rows:List NodR} (h:GrO w base nv rows):GraphAt w w.heap.size nv (rows.map nrOf):=
 ⟨by rw[List.length_map,nr_flat];exact Sl.of_own h.nods,fun r hr=>by obtain ⟨x,hx,rfl⟩:=List.mem_map.1 hr;exact Sl.of_own (h.edges x hx),fun r hr=>by
  obtain ⟨x,hx,rfl⟩:=List.mem_map.1 hr
  obtain ⟨-,A,c,h,-⟩:=Sl.of_own (h.stubs x hx)
  exact ⟨A,_,c,h⟩⟩
structure ReachIs (N:List NodG) (idx:Option Nat) (rs:List ReachRow) (c:List Int) (H:List (List Hop)):Prop where
 cost:rs.map (fun r=>(r.is,r.cost))=c.map fun x=>if x<far then (true,x) else (false,0)
 hops:rs.map ReachRow.hops=H
 none_:idx=none→rs=[]
 some_:∀ i,idx=some i→i<N.length∧Costs (gnsOf N) i c∧Hops (gnsOf N) i c H
theorem ReachIs.clen {N:List NodG} {idx:Option Nat} {rs:List ReachRow} {c:List Int} {H:List (List Hop)} (h:ReachIs N idx rs c H):c.length=rs.length:=by
 have:=congrArg List.length h.cost
 simpa using this.symm
theorem ReachIs.row_ {N:List NodG} {idx:Option Nat} {rs:List ReachRow} {c:List Int} {H:List (List Hop)} (h:ReachIs N idx rs c H) {k:Nat} (hk:k<rs.length) :
  rs[k].is=decide (at_ c k<far)∧(at_ c k<far→rs[k].cost=at_ c k)∧rs[k].hops=hAt H k:=by
 have hc:=h.clen
 have h1:=congrArg (fun l=>l[k]?) h.cost
 have h2:=congrArg (fun l=>l[k]?) h.hops
 have e1:at_ c k=c[k]'(by omega):=by unfold at_;rw[List.getD_eq_getElem?_getD,List.getElem?_eq_getElem (by omega)];rfl
 have hk2:k<c.length:=by omega
 simp only[List.getElem?_map,List.getElem?_eq_getElem hk,List.getElem?_eq_getElem hk2,Option.map_some,o'j] at h1 h2
 rw[e1]
 refine ⟨?_,fun hf => ?_,?_⟩
 ·by_cases hf:c[k]<far
  ·rw[if_pos hf,Prod.mk.injEq] at h1
   rw[h1.1,d't hf]
  ·rw[if_neg hf,Prod.mk.injEq] at h1
   rw[h1.1,d'f hf]
 ·rw[if_pos hf,Prod.mk.injEq] at h1
  exact h1.2
 ·unfold hAt
  rw[List.getD_eq_getElem?_getD,←h2]
  rfl
theorem ReachIs.rng {N:List NodG} {idx:Option Nat} {rs:List ReachRow} {c:List Int} {H:List (List Hop)} (h:ReachIs N idx rs c H) {k:Nat} (hk:k<rs.length):k<N.length∧0≤at_ c k∧at_ c k≤far:=by
 cases idx with
 | none=>rw[h.none_ rfl] at hk;cases hk
 | some i =>
  obtain ⟨-,h2,-⟩:=h.some_ i rfl
  have:=h.clen
  have h3:=h2.len
  rw[gnsOf_len] at h3
  exact ⟨by omega,h2.rng k (by omega)⟩
theorem ReachIs.len {N:List NodG} {idx:Option Nat} {rs:List ReachRow} {c:List Int} {H:List (List Hop)} (h:ReachIs N idx rs c H):rs.length≤N.length:=by
 rcases Nat.lt_or_ge N.length rs.length with h1 | h1
 ·exact absurd (h.rng h1).1 (by omega)
 ·exact h1
theorem froms_any (base:Nat) (nv:Value) (rows:List NodR) (idx:Option Nat) (w:World) (h:GrO w base nv rows) (hok:∀ n∈rows.map (·.n),NodOk n) (hn:rows.length≤60) (hi:∀ i,idx=some i→i<rows.length) :
  Calls Tryz.prog 51 #[nv,.int .i64 (idxI idx)] w fun e w'=>∃ v rs c H,e=.returned v∧OutAt w' w.heap.size v rs∧ReachIs (rows.map (·.n)) idx rs c H∧Below w.heap.size w w':=by
 cases idx with
 | none =>
  obtain ⟨-,A,c,rfl,-⟩:=Sl.of_own h.nods
  refine c'm (from_out A rows.length c (-1) w (.inl (by omega))) ?_
  rintro e w' ⟨rfl,rfl⟩
  exact ⟨_,[],[],[],rfl,⟨World.ownsRow_nil _ _ _ _,fun r hr=>by cases hr⟩,⟨rfl,rfl,fun _=>rfl,fun i hi=>by cases hi⟩,b'r _ _⟩
 | some i =>
  have hir:=hi i rfl
  have hG:=gr_at h
  have hlen:(rows.map nrOf).length=rows.length:=by simp
  have hN:nodesOf (rows.map nrOf)=gnsOf (rows.map (·.n)):=nr_nodes rows
  have hU:(esOf (nodesOf (rows.map nrOf)) i).length*((rows.map nrOf).length+1)≤400000:=by
   rw[hN,esOf_gns (by simpa using hir),hlen]
   have h1:=(hok _ (g'm (l:=rows.map (·.n)) (n:=i) (by simpa using hir))).el
   have h2:=Nat.mul_le_mul h1 (show rows.length+1≤61 by omega)
   omega
  refine c'm (from_any (rows.map nrOf) nv i w hG (by rw[hN];exact gns_okG hok) (by rw[hlen];exact hir) (by rw[hlen];omega) hU) ?_
  rintro e w' (⟨-,v,rs,c,rfl,hO,hB,hC,hH,hm⟩ | ⟨hz,-,-⟩)
  ·rw[hN] at hC hH
   exact ⟨v,rs,c,_,rfl,hO,⟨hm,rfl,fun h=>(by cases h),fun j hj=>by cases hj;exact ⟨by simpa using hir,hC,hH⟩⟩,hB⟩
  ·refine absurd (fun r hr hnet => ?_) hz
   obtain ⟨x,hx,rfl⟩:=List.mem_map.1 hr
   exact (hok _ (List.mem_map_of_mem hx)).nz hnet
theorem all_hops {N:List NodG} (hN:∀ n∈N,NodOk n) (hn:N.length≤60) (i:Nat):(allHops (gnsOf N) i).length≤200000:=by
 rw[allHops_len,gnsOf_len]
 have h1:(esOf (gnsOf N) i).length≤2048:=by
  by_cases hi:i<N.length
  ·rw[esOf_gns hi]
   exact (hN _ (g'm _)).el
  ·unfold esOf
   rw[List.getElem?_eq_none (by rw[gnsOf_len];omega)]
   exact Nat.zero_le _
 have h2:=Nat.mul_le_mul h1 (show N.length+1≤61 by omega)
 omega
theorem netsAt_len {area:Int} {N:List NodG} {c:List Int} {H:List (List Hop)} (hN:∀ n∈N,NodOk n) (i:Nat):(netsAt area N c H i).length≤2048:=by
 unfold netsAt
 split
 ·simp
 ·rename_i n hn
  split
  ·split
   ·simp
   ·exact n't (List.length_filterMap_le _ _) (hN n (List.mem_of_getElem? hn)).sl
  ·simp
theorem netsTo_len {area:Int} {N:List NodG} {c:List Int} {H:List (List Hop)} (hN:∀ n∈N,NodOk n) (k:Nat):(netsTo area N c H k).length≤2048*k:=by
 induction k with
 | zero=>simp[netsTo]
 | succ k ih =>
  rw[netsTo_succ,l'a,Nat.mul_succ]
  have:=netsAt_len (area:=area) (c:=c) (H:=H) hN k
  omega
theorem routersTo_len {area root:Int} {N:List NodG} {c:List Int} {H:List (List Hop)} (k:Nat):(routersTo area root N c H k).length≤k:=by
 induction k with
 | zero=>simp[routersTo]
 | succ k ih =>
  rw[routersTo_succ,l'a]
  have:(routersAt area root N c H k).length≤1:=by
   unfold routersAt
   split
   ·simp
   ·split <;> simp
  omega
end Go.Proofs.YtcknpofnpabkiaaGreat
set_option maxRecDepth 100000
namespace Go.Proofs.YtcknpofnpabkiaaGreat
open Go.RowKit Go.Lo Go.Maps
structure MI (w0:World) (mb:Nat) (gs:List WayG) (wr:World):Prop where
 grown:w0.grownBy wr (some mb)
 map:∃ D,wr.ownsMap Tryz.prog 186 rawR mb gs.length D∧MapOk wr D (bestF gs)
 lt:mb<w0.heap.size
theorem MI.call {w0:World} {mb:Nat} {gs:List WayG} {W W':World} (h:MI w0 mb gs W) (hb:Below W.heap.size W W'):MI w0 mb gs W':=by
 obtain ⟨D,h1,h2⟩:=h.map
 exact ⟨grown_trans h.grown (grown_of_below hb _),⟨D,h1.kept (grown_of_below hb none) (by simp),h2.move fun z hz=>hz.call hb⟩,h.lt⟩
theorem MI.set {w0:World} {mb:Nat} {gs:List WayG} {W:World} (h:MI w0 mb gs W) {p:Addr} {t:TypeId} {cs:Array Value} (k:Blk W p.block t cs) (ht:t≠56) (hp:w0.heap.size≤p.block) (u:Value):MI w0 mb gs (W.setCell p u):=by
 obtain ⟨D,h1,h2⟩:=h.map
 have hg:=far_grown W p u
 have hl:=h.lt
 exact ⟨⟨hg.os.trans h.grown.os,hg.tape.trans h.grown.tape,hg.output.trans h.grown.output,n't h.grown.size hg.size,fun i hi hne=>(hg.block i (Nat.lt_of_lt_of_le hi h.grown.size) (by simp;omega)).trans (h.grown.block i hi hne)⟩,
  ⟨D,h1.kept hg (by simp;omega),h2.move fun z hz=>hz.set k ht u⟩,hl⟩
theorem MI.put {w0:World} {mb:Nat} {gs:List WayG} {W:World} {A:List Hop} (hI:MI w0 mb gs W) (hA:A.length≤200000) (hgs:∀ g∈gs,GOk A g) (x:WayY) (hx:HopsAt x W) (hg:GOk A (x.1.n,x.2)) (hn:gs.length<maxLen) :
  Calls Tryz.prog 52 #[.map (some mb),.agg x.1.cells] W fun e w'=>e=.returned (.tuple #[])∧W.grownBy w' (some mb)∧MI w0 mb (gs++[(x.1.n,x.2)]) w':=by
 obtain ⟨D,h1,h2⟩:=hI.map
 refine c'm (iput_any mb gs.length D (bestF gs) x W h1 h2 hg.1 hx hn (n't (nodup_le hg.2.1.nodup hg.2.2) hA) (fun g h=>bestF_hops hA hgs h)) ?_
 rintro e w' ⟨rfl,hgr,D',h3,h4⟩
 refine ⟨rfl,hgr,grown_trans hI.grown hgr,⟨D',?_,?_⟩,hI.lt⟩
 ·simpa using h3
 ·rw[←stepF_best];exact h4
theorem out_turn {w w':World} {base mb:Nat} {v:Value} {rs:List ReachRow} (h:OutAt w base v rs) (hg:w.grownBy w' (some mb)) (hlt:mb<base):OutAt w' base v rs:=
 ⟨own_same h.row fun k hk=>hg.block k (h.row.lt k hk).2 (by have:=(h.row.lt k hk).1;simp;omega),fun r hr=>own_same (h.hop r hr) fun k hk=>hg.block k ((h.hop r hr).lt k hk).2 (by have:=((h.hop r hr).lt k hk).1;simp;omega)⟩
theorem insN_le (L:List StG) (s:StG):(insN L s).length≤L.length+1:=by
 induction L with
 | nil=>simp[insN]
 | cons x r ih =>
  unfold insN
  split
  ·simp only[List.length_cons];omega
  ·split <;> simp
theorem nodesG_le (S:List StG):(nodesG S).length≤S.length:=by
 obtain ⟨n,hn⟩:∃ n,S.length=n:=⟨_,rfl⟩
 induction n generalizing S with
 | zero =>
  rw[List.length_eq_zero_iff.1 hn]
  exact n'r _
 | succ n ih =>
  rcases List.eq_nil_or_concat S with rfl | ⟨T,s,rfl⟩
  ·exact n'r _
  ·rw[List.concat_eq_append] at hn ⊢
   have h1:=ih T (by simpa using hn)
   rw[nodesG_snoc]
   split
   ·have:=insN_le (nodesG T) s
    simp only[l'a,List.length_singleton];omega
   ·simp only[l'a,List.length_singleton];omega
def stubsTo (area x:Int) (hops:List Hop) (l:List (Int × Int × Int)):List WayG:=l.filterMap fun s=>if x+s.2.2<far then some (⟨s.1,s.2.1,0,0,1,area,x+s.2.2,0,0⟩,hops) else none
theorem stubsTo_succ (area x:Int) (hops:List Hop) (l:List (Int × Int × Int)) (j:Nat) (hj:j<l.length):stubsTo area x hops (l.take (j+1))=stubsTo area x hops (l.take j)++(if x+l[j].2.2<far then [(⟨l[j].1,l[j].2.1,0,0,1,area,x+l[j].2.2,0,0⟩,hops)] else []):=by
 rw[t'k hj]
 unfold stubsTo
 rw[List.filterMap_append]
 congr 1
 split <;> rename_i h <;> simp[h]
theorem netsAt_not {area:Int} {N:List NodG} {c:List Int} {H:List (List Hop)} {k:Nat} (h:¬ at_ c k<far):netsAt area N c H k=[]:=by
 unfold netsAt
 split
 ·rfl
 ·rw[if_neg h]
theorem netsAt_net {area:Int} {N:List NodG} {c:List Int} {H:List (List Hop)} {k:Nat} {n:NodG} (hn:N[k]?=some n) (h:at_ c k<far) (ht:n.network=true):netsAt area N c H k=[(⟨n.netA,n.netB,0,0,1,area,at_ c k,0,0⟩,hAt H k)]:=by
 unfold netsAt
 rw[hn]
 simp only
 rw[if_pos h,if_pos ht]
theorem netsAt_stubs {area:Int} {N:List NodG} {c:List Int} {H:List (List Hop)} {k:Nat} {n:NodG} (hn:N[k]?=some n) (h:at_ c k<far) (ht:n.network=false):netsAt area N c H k=stubsTo area (at_ c k) (hAt H k) n.stubs:=by
 unfold netsAt stubsTo
 rw[hn]
 simp only
 rw[if_pos h,if_neg (by rw[ht];simp)]
theorem routersAt_not {area root:Int} {N:List NodG} {c:List Int} {H:List (List Hop)} {k:Nat} {n:NodG} (hn:N[k]?=some n) (h:¬ (at_ c k<far∧n.network=false∧n.id≠root)):routersAt area root N c H k=[]:=by
 unfold routersAt
 rw[hn]
 simp only
 rw[if_neg h]
theorem routersAt_yes {area root:Int} {N:List NodG} {c:List Int} {H:List (List Hop)} {k:Nat} {n:NodG} (hn:N[k]?=some n) (h:at_ c k<far∧n.network=false∧n.id≠root):routersAt area root N c H k=[(⟨0,0,n.id,n.flags,1,area,at_ c k,0,0⟩,hAt H k)]:=by
 unfold routersAt
 rw[hn]
 simp only
 rw[if_pos h]
def InnerQ (N:List NodG) (area root:Int) (n r:List WayG):Prop:=
 match N.findIdx? (fun x=>x.network==false && x.id==root) with
 | none=>n=[]∧r=[]
 | some i=>∃ c H,Costs (gnsOf N) i c∧Hops (gnsOf N) i c H∧OutOf (netsTo area N c H N.length) n∧OutOf (routersTo area root N c H N.length) r
def RoutesPost (S:List StG) (area root:Int) (w:World) (e:Ending) (w':World):Prop:=
 ∃ (v1 v2:Value) (n r:List WayY),e=.returned (.tuple #[v1,v2])∧w'.ownsRow w.heap.size 48 10 v1 n.length (n.flatMap yL)∧(∀ x∈n,HopsAt x w')∧w'.ownsRow w.heap.size 48 10 v2 r.length (r.flatMap yL)∧(∀ x∈r,HopsAt x w')∧InnerP S area root (gOf n) (gOf r)∧n.length≤200000∧r.length≤60∧Below w.heap.size w w'
set_option maxHeartbeats 8000000 in
theorem routes18_any (B:Nat) (sv:Value) (S:List StG) (ls:List StV) (w:World) (area root:Int) (hS:StatesIn w B sv S ls) (hB:B≤w.heap.size) (hok:∀ s∈S,StOk s) (hl8:∀ s∈S,s.2.length≤8192) (hn60:S.length≤60) :
  Calls Tryz.prog 21 #[sv,.int .u32 area,.int .u32 root] w (RoutesPost S area root w):=by
 have hmm:=@run_makeMap Tryz.prog
 have CB:=h'd (build_any B sv S ls w hS hB hok (by have:=hS.len;omega))
 have hNok:=h'd (graph_ok hok hl8)
 have hNl:(graphG (nodesG S)).length≤60:=by have:=nodesG_le S;simp[graphG];omega
 obtain ⟨N,hN⟩:∃ N,graphG (nodesG S)=N:=⟨_,rfl⟩
 rw[hN] at hNok hNl
 replace CB:Hid (Calls Tryz.prog 12 #[sv] w fun e w'=>∃ v rows,e=.returned v∧GrO w' w.heap.size v rows∧rows.map (·.n)=N∧Below w.heap.size w w'):=by rw[←hN];exact CB
 have hP:∀ e w',(∃ (v1 v2:Value) (n r:List WayY),e=.returned (.tuple #[v1,v2])∧w'.ownsRow w.heap.size 48 10 v1 n.length (n.flatMap yL)∧(∀ x∈n,HopsAt x w')∧w'.ownsRow w.heap.size 48 10 v2 r.length (r.flatMap yL)∧(∀ x∈r,HopsAt x w')∧InnerQ N area root (gOf n) (gOf r)∧n.length≤200000∧r.length≤60∧Below w.heap.size w w')→RoutesPost S area root w e w':=fun e w' h=>by
  subst hN
  exact h
 refine c'm ?_ hP
 clear hP hS hok hl8 hN hn60
 go_enter Tryz.func21,Tryz.ntmps21
 go_upto_region 2 with (go_at_call 12;refine c'm CB.out ?_;rintro e w1 ⟨gv,rows,rfl,hG,hgr,hB1⟩;obtain ⟨-,gA,gc,rfl,-⟩:=id (Sl.of_own hG.nods))
 replace hgr:=h'd hgr
 have hrl:rows.length≤60:=by have:=congrArg List.length hgr.out;rw[List.length_map] at this;omega
 go_upto_region 3 with fail
 have hb12:Below w1.heap.size w1 (w1.alloc (.map #[] 0)):=below_alloc (b'r _ _) (n'r _) _
 have hom:=World.ownsMap_made w1 Tryz.prog 186 rawR
 have hz2:w1.heap.size<(w1.alloc (.map #[] 0)).heap.size:=by simp
 generalize w1.alloc (.map #[] 0)=w2 at *
 obtain ⟨idx,hidx⟩:∃ i,rows.findIdx? (isN_ false root)=i:=⟨_,rfl⟩
 have hil:∀ i,idx=some i→i<rows.length:=fun i hi=>by
  rw[hi] at hidx
  exact (List.findIdx?_eq_some_iff_getElem.1 hidx).1
 have CF:=fun W (hW:Below w1.heap.size w1 W)=>gfind_any false root w.heap.size _ rows W (hG.call hW) (by omega)
 rw[hidx] at CF
 have CT:=fun W (hW:Below w1.heap.size w1 W)=>froms_any w.heap.size _ rows idx W (hG.call hW) (fun n hn=>hNok.out n (by rw[←hgr.out];exact hn)) hrl hil
 rw[hgr.out] at CT
 replace hidx:=h'd hidx
 replace hil:=h'd hil
 replace CF:=h'd CF
 replace CT:=h'd CT
 have hGh:=h'd hG
 clear hG
 go_upto_region 4 with (first
  | (go_at_call 15;refine c'm (CF.out w2 hb12) ?_;rintro e w3 ⟨rfl,hB3⟩)
  | (go_at_call 51;refine c'm (CT.out w3 (hb12.trans (hB3.mono (Nat.le_of_lt hz2)))) ?_;rintro e w4 ⟨rv,rs,c,H,rfl,hO,hR,hB4⟩;obtain ⟨-,rA,rc,rfl,-⟩:=id (Sl.of_own hO.row)))
 have hO4:=h'd hO
 have hR4:=h'd hR
 have hrsN:=hR.len
 have hb24:Below w2.heap.size w2 w4:=hB3.trans (hB4.mono hB3.size)
 have hb14:Below w1.heap.size w1 w4:=hb12.trans (hb24.mono (Nat.le_of_lt hz2))
 have hI0:MI w4 w1.heap.size (netsTo area N c H 0) w4:=⟨grown_refl _ _,⟨_,hom.kept (grown_of_below hb24 none) (by simp),MapOk.start _⟩,by have:=hb24.size;omega⟩
 have hz3:w1.heap.size<w3.heap.size:=by have:=hB3.size;omega
 clear hO hR hom
 go_loopg [27] rs.length (fun m v wr=>∃ k:Nat,k≤rs.length∧m=rs.length-k∧v=.int .i64 k∧MI w4 w1.heap.size (netsTo area N c H k) wr)
 case atStart=>exact ⟨0,Nat.zero_le _,rfl,rfl,hI0⟩
 case round =>
  obtain ⟨k,hk,rfl,rfl,hI⟩:=hrel
  obtain ⟨w5,rfl⟩:∃ x:World,x=wr:=⟨_,rfl⟩
  by_cases hkl:k<rs.length
  ·have hO5:=out_turn hO4.out hI.grown hz3
   have hB15:Below w1.heap.size w1 w5:=hb14.trans (below_of_grown hI.grown (by have:=hI.lt;omega) (fun g e=>by simp only[o'j] at e;omega))
   have hG5:=hGh.out.call hB15
   obtain ⟨hkN,hc0,hcf⟩:=hR4.out.rng hkl
   have hkr:k<rows.length:=by have:=congrArg List.length hgr.out;rw[List.length_map] at this;omega
   have hNk:N[k]?=some rows[k].n:=by rw[←hgr.out,List.getElem?_map,List.getElem?_eq_getElem hkr];rfl
   obtain ⟨his,hco,hho⟩:=hR4.out.row_ hkl
   have hHk:=hO5.hop _ (g'm hkl)
   obtain ⟨-,hA,hc,hhe,-⟩:=id (Sl.of_own hHk)
   rw[hho] at hhe
   rw[hho,hhe] at hHk
   have hhe2:=h'd hhe
   have hxat:∀ n,HopsAt (⟨n,hA,(hAt H k).length,hc⟩,hAt H k) w5:=fun n=>HopsAt.of_own hHk
   obtain ⟨bR,oR,rfl,hbR,hrow⟩:=Sl.row reachCells_len (Sl.of_own hO5.row) hkl
   have r0:=hrow 0 _ rfl
   have r1:=hrow 1 _ rfl
   have r2:=hrow 2 _ rfl
   simp only[Nat.add_zero] at r0
   rw[hhe] at r2
   rw[his] at r0
   have hnok:=hNok.out _ (List.mem_of_getElem? hNk)
   have hnd:=Sl.of_own hG5.nods
   have hst:=Sl.of_own (hG5.stubs _ (g'm hkr))
   obtain ⟨-,sA,sc,hse,-⟩:=id hst
   obtain ⟨bg,og,rfl,hbg,hnrow⟩:=Sl.row nodC_len hnd hkr
   have n0:=hnrow 0 _ rfl
   have n2:=hnrow 2 _ rfl
   have n3:=hnrow 3 _ rfl
   have n6:=hnrow 6 _ rfl
   simp only[Nat.add_zero] at n0
   rw[hse] at n6
   have hse0:=hse
   obtain ⟨nd,hndq⟩:∃ nd,nd=rows[k].n:=⟨_,rfl⟩
   rw[←hndq] at n0 n2 n3 n6 hNk hnok hse0
   obtain ⟨net,nid,na,nb,fl,es,st⟩:=nd
   dsimp only at n0 n2 n3 n6 hse0
   generalize hxx:rs[k].cost=x at r1 hco
   generalize hln:(hAt H k).length=hn at r2 hxat
   clear hrow hnrow his hhe hHk hnd hse hho hst
   replace hndq:=h'd hndq
   replace hse0:=h'd hse0
   replace hco:=h'd hco
   replace hxx:=h'd hxx
   replace hln:=h'd hln
   replace hNk:=h'd hNk
   replace hnok:=h'd hnok
   replace hxat:=h'd hxat
   replace hG5:=h'd hG5
   replace hO5:=h'd hO5
   have hAll:∀ i,idx=some i→(allHops (gnsOf N) i).length≤200000:=fun i _=>all_hops hNok.out hNl i
   have hGok:∀ i,idx=some i→∀ j,∀ g∈netsTo area N c H j,GOk (allHops (gnsOf N) i) g:=fun i hi j=>netsTo_ok hNok.out (hR4.out.some_ i hi).2.2 j
   obtain ⟨i,hi⟩:∃ i,idx=some i:=by
    cases idx with
    | none=>rw[hR4.out.none_ rfl] at hkl;cases hkl
    | some i=>exact ⟨i,rfl⟩
   have hAl:=hAll i hi
   have hGo:=h'd (hGok i hi)
   have hnl:=h'd (n't (netsTo_len (area:=area) (c:=c) (H:=H) hNok.out (k+1)) (show 2048*(k+1)≤200000 by omega))
   clear hAll hGok hi
   by_cases hf:at_ c k<far
   ·have hx:=hco.out hf
    replace hf:=h'd hf
    replace hx:=h'd hx
    rw[d't hf.out] at r0
    have hx0:0≤x∧x<4294967296:=by have h1:=hf.out;have h2:=hx.out;unfold far at h1;omega
    go_upto_region 15 with fail
    have hb6:Below w5.heap.size w5 ((w5.alloc (.cells #[.bool true,.int .u32 x,.slice hA hn hc] 117)).alloc (.cells #[.int .u32 0,.int .u8 0,.int .u32 0,.int .u8 0,.int .u8 1,.int .u32 area,.int .u32 x,.int .u32 0,.int .u32 0,.slice hA hn hc] 48)):=below_alloc (below_alloc (b'r _ _) (n'r _) _) (n'r _) _
    have k11:Blk ((w5.alloc (.cells #[.bool true,.int .u32 x,.slice hA hn hc] 117)).alloc (.cells #[.int .u32 0,.int .u8 0,.int .u32 0,.int .u8 0,.int .u8 1,.int .u32 area,.int .u32 x,.int .u32 0,.int .u32 0,.slice hA hn hc] 48)) w5.heap.size 117 #[.bool true,.int .u32 x,.slice hA hn hc]:=(Blk.new _ _ _).alloc _
    have k12:Blk ((w5.alloc (.cells #[.bool true,.int .u32 x,.slice hA hn hc] 117)).alloc (.cells #[.int .u32 0,.int .u8 0,.int .u32 0,.int .u8 0,.int .u8 1,.int .u32 area,.int .u32 x,.int .u32 0,.int .u32 0,.slice hA hn hc] 48)) (w5.heap.size+1) 48 #[.int .u32 0,.int .u8 0,.int .u32 0,.int .u8 0,.int .u8 1,.int .u32 area,.int .u32 x,.int .u32 0,.int .u32 0,.slice hA hn hc]:=heap_alloc2_new w5 _ _
    have n0':=(hb6.cell (p:=⟨bg,og+k*7,none⟩) hbg).trans n0
    have n2':=(hb6.cell (p:=⟨bg,og+k*7+2,none⟩) hbg).trans n2
    have n3':=(hb6.cell (p:=⟨bg,og+k*7+3,none⟩) hbg).trans n3
    have n6':=(hb6.cell (p:=⟨bg,og+k*7+6,none⟩) hbg).trans n6
    have hI6:=hI.call hb6
    have hzz:w4.heap.size≤w5.heap.size:=hI.grown.size
    clear n0 n2 n3 n6 r0 r1 r2
    generalize (w5.alloc (.cells #[.bool true,.int .u32 x,.slice hA hn hc] 117)).alloc (.cells #[.int .u32 0,.int .u8 0,.int .u32 0,.int .u8 0,.int .u8 1,.int .u32 area,.int .u32 x,.int .u32 0,.int .u32 0,.slice hA hn hc] 48)=w6 at *
    have d0:=k11.cell 0
    have d1:=k11.cell 1
    have d2:=k11.cell 2
    simp only[q'a,q'z,q's] at d0 d1 d2
    have hx6:=(hxat.out ⟨0,0,0,0,0,0,0,0,0⟩).call hb6
    replace hxat:Hid (∀ n,HopsAt (⟨n,hA,hn,hc⟩,hAt H k) w6):=fun n=>⟨hx6.sl,hx6.ty⟩
    clear hx6
    cases net with
    | true =>
     have f0:=k12.free 0
     have f1:=k12.free 1
     have z0:=k12.cell 0
     have z1:=k12.cell 1
     simp only[q'a,q'z,q's] at z0 z1
     go_upto_region 18 with fail
     clear f0 f1 z0 z1
     have k7:Blk (w6.setCell ⟨w5.heap.size+1,0,none⟩ (.int .u32 na)) (w5.heap.size+1) 48 #[.int .u32 na,.int .u8 0,.int .u32 0,.int .u8 0,.int .u8 1,.int .u32 area,.int .u32 x,.int .u32 0,.int .u32 0,.slice hA hn hc]:=k12.set_ 0 _
     have k8:Blk ((w6.setCell ⟨w5.heap.size+1,0,none⟩ (.int .u32 na)).setCell ⟨w5.heap.size+1,1,none⟩ (.int .u8 nb)) (w5.heap.size+1) 48 #[.int .u32 na,.int .u8 nb,.int .u32 0,.int .u8 0,.int .u8 1,.int .u32 area,.int .u32 x,.int .u32 0,.int .u32 0,.slice hA hn hc]:=k7.set_ 1 _
     have hI8:=(hI6.set (p:=⟨w5.heap.size+1,0,none⟩) k12 (by decide) (by show w4.heap.size≤w5.heap.size+1;omega) (.int .u32 na)).set (p:=⟨w5.heap.size+1,1,none⟩) k7 (by decide) (by show w4.heap.size≤w5.heap.size+1;omega) (.int .u8 nb)
     have hx8:=((hxat.out ⟨na,nb,0,0,1,area,x,0,0⟩).set (p:=⟨w5.heap.size+1,0,none⟩) k12 (by decide) (.int .u32 na)).set (p:=⟨w5.heap.size+1,1,none⟩) k7 (by decide) (.int .u8 nb)
     have hgs:netsTo area N c H (k+1)=netsTo area N c H k++[(⟨na,nb,0,0,1,area,x,0,0⟩,hAt H k)]:=by rw[netsTo_succ,netsAt_net hNk.out hf.out rfl,hx.out]
     generalize (w6.setCell ⟨w5.heap.size+1,0,none⟩ (.int .u32 na)).setCell ⟨w5.heap.size+1,1,none⟩ (.int .u8 nb)=w8 at k8 hI8 hx8 ⊢
     have CP:=h'd (hI8.put hAl (hGo.out k) ⟨⟨⟨na,nb,0,0,1,area,x,0,0⟩,hA,hn,hc⟩,hAt H k⟩ hx8 (hGo.out (k+1) _ (by rw[hgs];simp)) (by have h1:=hnl.out;rw[hgs,l'a] at h1;simp only[maxLen];omega))
     replace hgs:=h'd hgs
     clear k7 k12 k11 d0 d1 d2 n0' n2' n3' n6' hI6 hxat hI8 hx8
     have y0:=k8.cell 0
     have y1:=k8.cell 1
     have y2:=k8.cell 2
     have y3:=k8.cell 3
     have y4:=k8.cell 4
     have y5:=k8.cell 5
     have y6:=k8.cell 6
     have y7:=k8.cell 7
     have y8:=k8.cell 8
     have y9:=k8.cell 9
     simp only[q'a,q'z,q's] at y0 y1 y2 y3 y4 y5 y6 y7 y8 y9
     go_wp2_with (go_at_call 52;refine c'm CP.out ?_;rintro e w9 ⟨rfl,hg9,hI9⟩)
     go_roundg (rs.length-(k+1))
     case measure=>omega
     case rel=>exact ⟨k+1,by omega,rfl,by go_num,by rw[hgs.out];exact hI9⟩
    | false =>
     go_upto_region 8 with fail
     have hI6':MI w4 w1.heap.size (netsTo area N c H k++stubsTo area x (hAt H k) (st.take 0)) w6:=by
      have e:stubsTo area x (hAt H k) (st.take 0)=[]:=rfl
      rw[e,List.append_nil];exact hI6
     have hgs:netsTo area N c H (k+1)=netsTo area N c H k++stubsTo area x (hAt H k) st:=by rw[netsTo_succ,netsAt_stubs hNk.out hf.out rfl,hx.out]
     have hsub:∀ j,∀ g∈netsTo area N c H k++stubsTo area x (hAt H k) (st.take j),GOk (allHops (gnsOf N) i) g:=fun j g hg=>hGo.out (k+1) g (by
      rw[hgs]
      rcases List.mem_append.1 hg with hg | hg
      ·exact List.mem_append.2 (.inl hg)
      ·refine List.mem_append.2 (.inr ?_)
       unfold stubsTo at hg ⊢
       obtain ⟨z,hz,hz2⟩:=List.mem_filterMap.1 hg
       exact List.mem_filterMap.2 ⟨z,List.mem_of_mem_take hz,hz2⟩)
     have hlen:∀ j,(netsTo area N c H k++stubsTo area x (hAt H k) (st.take j)).length≤400000:=fun j=>by
      have h1:=(netsTo_len (area:=area) (c:=c) (H:=H) hNok.out k)
      have h2:(stubsTo area x (hAt H k) (st.take j)).length≤st.length:=n't (List.length_filterMap_le _ _) (by rw[List.length_take];omega)
      have h3:st.length≤2048:=hnok.out.sl
      rw[l'a];omega
     replace hgs:=h'd hgs
     replace hsub:=h'd hsub
     replace hlen:=h'd hlen
     have hk5:=k11.lt
     have hsl2:st.length≤2048:=hnok.out.sl
     clear d0 d1 d2 n0' n2' n3' n6' hI6 hI hO5 hG5 hbR hbg
     go_loopg [44] st.length (fun m v wr=>∃ (j:Nat) (a b y:Int),j≤st.length∧m=st.length-j∧v=.int .i64 j∧Blk wr (w5.heap.size+1) 48 #[.int .u32 a,.int .u8 b,.int .u32 0,.int .u8 0,.int .u8 1,.int .u32 area,.int .u32 y,.int .u32 0,.int .u32 0,.slice hA hn hc]∧Blk wr w5.heap.size 117 #[.bool true,.int .u32 x,.slice hA hn hc]∧MI w4 w1.heap.size (netsTo area N c H k++stubsTo area x (hAt H k) (st.take j)) wr)
     case atStart=>exact ⟨0,0,0,x,Nat.zero_le _,rfl,rfl,k12,k11,hI6'⟩
     case round =>
      obtain ⟨j,a,b,y,hj,rfl,rfl,K12,K11,hIr⟩:=hrel
      obtain ⟨w7,rfl⟩:∃ x:World,x=wr:=⟨_,rfl⟩
      clear k12 k11 hI6'
      by_cases hjl:j<st.length
      ·have hB17:Below w1.heap.size w1 w7:=hb14.trans (below_of_grown hIr.grown (by have:=hIr.lt;omega) (fun g e=>by simp only[o'j] at e;omega))
       have hG7:=hGh.out.call hB17
       have hst7:=Sl.of_own (hG7.stubs _ (g'm hkr))
       have hO7:=out_turn hO4.out hIr.grown hz3
       have hHk7:=hO7.hop _ (g'm hkl)
       rw[(hR4.out.row_ hkl).2.2,hhe2.out] at hHk7
       rw[←hndq.out] at hst7
       dsimp only at hst7
       rw[hse0.out] at hst7
       obtain ⟨bs,os,rfl,hbs,hsrow⟩:=Sl.row (f:=stubC) (fun _=>rfl) hst7 hjl
       have s0:=hsrow 0 _ rfl
       have s1:=hsrow 1 _ rfl
       have s2:=hsrow 2 _ rfl
       have hsr:=hnok.out.stub _ (g'm hjl)
       have hts:=stubsTo_succ area x (hAt H k) st j hjl
       simp only[Nat.add_zero] at s0
       generalize st[j]=sj at s0 s1 s2 hsr hts
       obtain ⟨p1,p2,p3⟩:=sj
       dsimp only at s0 s1 s2 hsr hts
       obtain ⟨-,-,hp3⟩:=hsr
       replace hts:=h'd hts
       clear hsrow hst7 hG7 hB17 hO7
       have q1:IntKind.u64.wrap x=x:=by rw[IntKind.wrap_u64];omega
       have q2:IntKind.u64.wrap p3=p3:=by rw[IntKind.wrap_u64];omega
       have q3:IntKind.u64.wrap (x+p3)=x+p3:=by rw[IntKind.wrap_u64];omega
       have x1:=K11.cell 1
       simp only[q'a,q'z,q's] at x1
       have hl7:=K12.lt
       have x1a:(w7.alloc (.cells #[.int .u32 p1,.int .u8 p2,.int .u32 p3] 107)).cell? ⟨w5.heap.size,1,none⟩=some (.int .u32 x):=(World.cell?_alloc_lt _ _ _ (by show w5.heap.size<w7.heap.size;omega)).trans x1
       by_cases hlt:x+p3<4294967296
       ·have hltb:decide (x+p3<4294967296)=true:=d't hlt
        have q4:IntKind.u32.wrap (x+p3)=x+p3:=by rw[IntKind.wrap_u32];omega
        have f0:=K12.free 0
        have f1:=K12.free 1
        have f6:=K12.free 6
        have z0:=K12.cell 0
        have z1:=K12.cell 1
        have z6:=K12.cell 6
        simp only[q'a,q'z,q's] at z0 z1 z6
        replace hlt:=h'd hlt
        go_upto_region 13 with fail
        have hxA0:HopsAt (⟨⟨p1,p2,0,0,1,area,x+p3,0,0⟩,hA,hn,hc⟩,hAt H k) w7:=by rw[←hln.out];exact HopsAt.of_own hHk7
        have KB:Blk (w7.setCell ⟨w5.heap.size+1,0,none⟩ (.int .u32 p1)) (w5.heap.size+1) 48 #[.int .u32 p1,.int .u8 b,.int .u32 0,.int .u8 0,.int .u8 1,.int .u32 area,.int .u32 y,.int .u32 0,.int .u32 0,.slice hA hn hc]:=K12.set_ 0 _
        have LB:=K11.far (p:=⟨w5.heap.size+1,0,none⟩) (by show w5.heap.size≠w5.heap.size+1;omega) (.int .u32 p1)
        have hIB:=hIr.set (p:=⟨w5.heap.size+1,0,none⟩) K12 (by decide) (by show w4.heap.size≤w5.heap.size+1;omega) (.int .u32 p1)
        have hxB:=hxA0.set (p:=⟨w5.heap.size+1,0,none⟩) K12 (by decide) (.int .u32 p1)
        generalize w7.setCell ⟨w5.heap.size+1,0,none⟩ (.int .u32 p1)=wB at *
        have KC:Blk (wB.setCell ⟨w5.heap.size+1,1,none⟩ (.int .u8 p2)) (w5.heap.size+1) 48 #[.int .u32 p1,.int .u8 p2,.int .u32 0,.int .u8 0,.int .u8 1,.int .u32 area,.int .u32 y,.int .u32 0,.int .u32 0,.slice hA hn hc]:=KB.set_ 1 _
        have LC:=LB.far (p:=⟨w5.heap.size+1,1,none⟩) (by show w5.heap.size≠w5.heap.size+1;omega) (.int .u8 p2)
        have hIC:=hIB.set (p:=⟨w5.heap.size+1,1,none⟩) KB (by decide) (by show w4.heap.size≤w5.heap.size+1;omega) (.int .u8 p2)
        have hxC:=hxB.set (p:=⟨w5.heap.size+1,1,none⟩) KB (by decide) (.int .u8 p2)
        generalize wB.setCell ⟨w5.heap.size+1,1,none⟩ (.int .u8 p2)=wC at *
        have KD:Blk (wC.setCell ⟨w5.heap.size+1,6,none⟩ (.int .u32 (x+p3))) (w5.heap.size+1) 48 #[.int .u32 p1,.int .u8 p2,.int .u32 0,.int .u8 0,.int .u8 1,.int .u32 area,.int .u32 (x+p3),.int .u32 0,.int .u32 0,.slice hA hn hc]:=KC.set_ 6 _
        have LD:=LC.far (p:=⟨w5.heap.size+1,6,none⟩) (by show w5.heap.size≠w5.heap.size+1;omega) (.int .u32 (x+p3))
        have hID:=hIC.set (p:=⟨w5.heap.size+1,6,none⟩) KC (by decide) (by show w4.heap.size≤w5.heap.size+1;omega) (.int .u32 (x+p3))
        have hxD:=hxC.set (p:=⟨w5.heap.size+1,6,none⟩) KC (by decide) (.int .u32 (x+p3))
        generalize wC.setCell ⟨w5.heap.size+1,6,none⟩ (.int .u32 (x+p3))=wD0 at *
        have hbD:Below wD0.heap.size wD0 (wD0.alloc (.cells #[.int .u32 p1,.int .u8 p2,.int .u32 p3] 107)):=below_alloc (b'r _ _) (n'r _) _
        replace KD:=KD.alloc (.cells #[.int .u32 p1,.int .u8 p2,.int .u32 p3] 107)
        replace LD:=LD.alloc (.cells #[.int .u32 p1,.int .u8 p2,.int .u32 p3] 107)
        replace hID:=hID.call hbD
        replace hxD:=hxD.call hbD
        clear hbD
        generalize wD0.alloc (.cells #[.int .u32 p1,.int .u8 p2,.int .u32 p3] 107)=wD at *
        have hst1:netsTo area N c H k++stubsTo area x (hAt H k) (st.take (j+1))=(netsTo area N c H k++stubsTo area x (hAt H k) (st.take j))++[(⟨p1,p2,0,0,1,area,x+p3,0,0⟩,hAt H k)]:=by
         rw[hts.out,if_pos (show x+p3<far from hlt.out),List.append_assoc]
        have CP:=h'd (hID.put hAl (hsub.out j) ⟨⟨⟨p1,p2,0,0,1,area,x+p3,0,0⟩,hA,hn,hc⟩,hAt H k⟩ hxD (hsub.out (j+1) _ (by rw[hst1];simp)) (by have h1:=hlen.out j;simp only[maxLen];omega))
        replace hst1:=h'd hst1
        clear hHk7 hxA0 K12 K11 KB LB hIB hxB KC LC hIC hxC hID hxD hIr f0 f1 f6 z0 z1 z6 s0 s1 s2 x1 x1a q1 q2 q3 q4 hltb
        have y0:=KD.cell 0
        have y1:=KD.cell 1
        have y2:=KD.cell 2
        have y3:=KD.cell 3
        have y4:=KD.cell 4
        have y5:=KD.cell 5
        have y6:=KD.cell 6
        have y7:=KD.cell 7
        have y8:=KD.cell 8
        have y9:=KD.cell 9
        simp only[q'a,q'z,q's] at y0 y1 y2 y3 y4 y5 y6 y7 y8 y9
        have hDl:=KD.lt
        go_wp2_with (go_at_call 52;refine c'm CP.out ?_;rintro e wE ⟨rfl,hgE,hIE⟩)
        go_roundg (st.length-(j+1))
        case measure=>omega
        case rel=>exact ⟨j+1,p1,p2,x+p3,by omega,rfl,by go_num,KD.same (hgE.block _ hDl (by have:=hIE.lt;simp;omega)),LD.same (hgE.block _ LD.lt (by have:=hIE.lt;simp;omega)),by rw[hst1.out];exact hIE⟩
       ·have hltb:decide (x+p3<4294967296)=false:=d'f hlt
        have hbA:Below w7.heap.size w7 (w7.alloc (.cells #[.int .u32 p1,.int .u8 p2,.int .u32 p3] 107)):=below_alloc (b'r _ _) (n'r _) _
        replace hlt:=h'd hlt
        clear hHk7
        go_upto_region 14 with fail
        go_wp2_with fail
        go_roundg (st.length-(j+1))
        case measure=>omega
        case rel=>exact ⟨j+1,a,b,y,by omega,rfl,by go_num,K12.alloc _,K11.alloc _,by rw[hts.out,if_neg (show ¬ x+p3<far by have h1:=hlt.out;unfold far;omega),List.append_nil];exact hIr.call hbA⟩
      ·obtain rfl:j=st.length:=by omega
       rw[List.take_length,←hgs.out] at hIr
       go_wp2_with fail
       go_roundg (rs.length-(k+1))
       case measure=>omega
       case rel=>exact ⟨k+1,by omega,rfl,by go_num,hIr⟩
   ·rw[d'f hf] at r0
    replace hf:=h'd hf
    go_wp2_with fail
    go_roundg (rs.length-(k+1))
    case measure=>omega
    case rel =>
     refine ⟨k+1,by omega,rfl,by go_num,?_⟩
     rw[netsTo_succ,netsAt_not (Int.not_lt.2 hf.out),List.append_nil]
     exact hI.call (below_alloc (below_alloc (b'r _ _) (n'r _) _) (n'r _) _)
  ·obtain rfl:k=rs.length:=by omega
   obtain ⟨D5,ho5,hm5⟩:=hI.map
   have hlen5:(netsTo area N c H rs.length).length≤200000:=n't (netsTo_len hNok.out rs.length) (by omega)
   have CR:=h'd (rising_any w1.heap.size _ D5 _ w5 ho5 hm5 (bestF_key _) (by omega))
   have hb15:Below w1.heap.size w1 w5:=hb14.trans (below_of_grown hI.grown (by have:=hI.lt;omega) (fun g e=>by simp only[o'j] at e;omega))
   have hlt5:w1.heap.size<w5.heap.size:=ho5.lt
   replace ho5:=h'd ho5
   replace hm5:=h'd hm5
   clear hI
   go_upto_region 21 with (go_at_call 53;refine c'm CR.out ?_;rintro e w6 ⟨v1,out1,rfl,ho6,hh6,hF1,hol1,hB6⟩)
   have hown6:=ho5.out.kept (grown_of_below hB6 none) (by simp)
   have hb16:Below w1.heap.size w1 w6:=hb15.trans (hB6.mono (Nat.le_of_lt hlt5))
   have hobj6:∃ o:Obj,w6.heap[w1.heap.size]?=some o∧o.isCells=false:=by
    obtain ⟨es,cl,h3,_⟩:=id hown6
    exact ⟨_,h3,rfl⟩
   have hlt6:w1.heap.size<w6.heap.size:=hown6.lt
   replace ho6:=h'd ho6
   replace hh6:=h'd hh6
   replace hF1:=h'd hF1
   replace hobj6:=h'd hobj6
   clear CR ho5 hm5
   go_upto_region 22 with (refine wpList_clear_own rfl _ 113 rfl 186 48 Tryz.underlying113 rawR w1.heap.size _ D5 rfl hown6 ?_;intro w7 hown7 hg7)
   have hb17:Below w1.heap.size w1 w7:=hb16.trans (below_of_grown hg7 (Nat.le_of_lt hlt6) (fun g e=>by simp only[o'j] at e;omega))
   have hz7:w1.heap.size<w7.heap.size:=hown7.lt
   replace hown7:=h'd hown7
   clear hown6
   go_upto_region 23 with (first
    | (go_at_call 15;refine c'm (CF.out w7 hb17) ?_;rintro e w8 ⟨rfl,hB8⟩)
    | (go_at_call 51;refine c'm (CT.out w8 (hb17.trans (hB8.mono (Nat.le_of_lt hz7)))) ?_;rintro e w9 ⟨rv2,rt,c2,H2,rfl,hO9,hR9,hB9⟩;obtain ⟨-,sA2,sc2,rfl,-⟩:=id (Sl.of_own hO9.row)))
   have hb79:Below w7.heap.size w7 w9:=hB8.trans (hB9.mono hB8.size)
   have hb19:Below w1.heap.size w1 w9:=hb17.trans (hb79.mono (Nat.le_of_lt hz7))
   have hI9:MI w9 w1.heap.size (routersTo area root N c2 H2 0) w9:=⟨grown_refl _ _,⟨_,hown7.out.kept (grown_of_below hb79 none) (by simp),MapOk.start _⟩,by have:=hb79.size;omega⟩
   have hz8:w1.heap.size<w8.heap.size:=by have:=hB8.size;omega
   have hrtN:=hR9.len
   have hg69:w6.grownBy w9 (some w1.heap.size):=grown_trans hg7 (grown_of_below hb79 _)
   replace hO9:=h'd hO9
   replace hR9:=h'd hR9
   clear hown7 hg7 hB8 hB9 hb79
   go_loopg [96] rt.length (fun m v wr=>∃ k:Nat,k≤rt.length∧m=rt.length-k∧v=.int .i64 k∧MI w9 w1.heap.size (routersTo area root N c2 H2 k) wr)
   case atStart=>exact ⟨0,Nat.zero_le _,rfl,rfl,hI9⟩
   case round =>
    obtain ⟨k,hk2,rfl,rfl,hI⟩:=hrel
    obtain ⟨w5',rfl⟩:∃ x:World,x=wr:=⟨_,rfl⟩
    clear hI9
    by_cases hkl:k<rt.length
    ·have hO5:=out_turn hO9.out hI.grown hz8
     have hB15:Below w1.heap.size w1 w5':=hb19.trans (below_of_grown hI.grown (by have:=hI.lt;omega) (fun g e=>by simp only[o'j] at e;omega))
     have hG5:=hGh.out.call hB15
     obtain ⟨hkN,hc0,hcf⟩:=hR9.out.rng hkl
     have hkr:k<rows.length:=by have:=congrArg List.length hgr.out;rw[List.length_map] at this;omega
     have hNk:N[k]?=some rows[k].n:=by rw[←hgr.out,List.getElem?_map,List.getElem?_eq_getElem hkr];rfl
     obtain ⟨his,hco,hho⟩:=hR9.out.row_ hkl
     have hHk:=hO5.hop _ (g'm hkl)
     obtain ⟨-,hA,hc,hhe,-⟩:=id (Sl.of_own hHk)
     rw[hho] at hhe
     rw[hho,hhe] at hHk
     have hxat:∀ n,HopsAt (⟨n,hA,(hAt H2 k).length,hc⟩,hAt H2 k) w5':=fun n=>HopsAt.of_own hHk
     obtain ⟨bR,oR,rfl,hbR,hrow⟩:=Sl.row reachCells_len (Sl.of_own hO5.row) hkl
     have r0:=hrow 0 _ rfl
     have r1:=hrow 1 _ rfl
     have r2:=hrow 2 _ rfl
     simp only[Nat.add_zero] at r0
     rw[hhe] at r2
     rw[his] at r0
     have hnok:=hNok.out _ (List.mem_of_getElem? hNk)
     obtain ⟨bg,og,rfl,hbg,hnrow⟩:=Sl.row nodC_len (Sl.of_own hG5.nods) hkr
     have n0:=hnrow 0 _ rfl
     have n1:=hnrow 1 _ rfl
     have n4:=hnrow 4 _ rfl
     simp only[Nat.add_zero] at n0
     obtain ⟨nd,hndq⟩:∃ nd,nd=rows[k].n:=⟨_,rfl⟩
     rw[←hndq] at n0 n1 n4 hNk hnok
     obtain ⟨net,nid,na,nb,fl,es,st⟩:=nd
     dsimp only at n0 n1 n4
     generalize hxx:rt[k].cost=x at r1 hco
     generalize hln:(hAt H2 k).length=hn at r2 hxat
     clear hrow hnrow his hhe hHk hho hndq
     replace hco:=h'd hco
     replace hxx:=h'd hxx
     replace hln:=h'd hln
     replace hNk:=h'd hNk
     replace hnok:=h'd hnok
     replace hxat:=h'd hxat
     replace hG5:=h'd hG5
     replace hO5:=h'd hO5
     obtain ⟨i,hi⟩:∃ i,idx=some i:=by
      cases idx with
      | none=>rw[hR9.out.none_ rfl] at hkl;cases hkl
      | some i=>exact ⟨i,rfl⟩
     have hAl:=all_hops hNok.out hNl i
     have hGo:Hid (∀ j,∀ g∈routersTo area root N c2 H2 j,GOk (allHops (gnsOf N) i) g):=fun j=>routersTo_ok hNok.out (hR9.out.some_ i hi).2.2 j
     clear hi
     have hskip:Hid (¬ (at_ c2 k<far∧net=false∧nid≠root)→routersTo area root N c2 H2 (k+1)=routersTo area root N c2 H2 k):=fun h=>by rw[routersTo_succ,routersAt_not hNk.out h,List.append_nil]
     have hbS:Below w5'.heap.size w5' (w5'.alloc (.cells #[.bool (decide (at_ c2 k<far)),.int .u32 x,.slice hA hn hc] 117)):=below_alloc (b'r _ _) (n'r _) _
     replace hbS:=h'd hbS
     by_cases hf:at_ c2 k<far
     ·have hx:=hco.out hf
      replace hf:=h'd hf
      replace hx:=h'd hx
      rw[d't hf.out] at r0 hbS
      cases net with
      | true =>
       go_wp2_with fail
       go_roundg (rt.length-(k+1))
       case measure=>omega
       case rel =>
        refine ⟨k+1,by omega,rfl,by go_num,?_⟩
        rw[hskip.out (fun h=>by cases h.2.1)]
        exact hI.call hbS.out
      | false =>
       by_cases hid:nid=root
       ·have hb0:(nid==root)=true:=beq_iff_eq.2 hid
        have hb1:(nid != root)=false:=by rw[bne,hb0];rfl
        replace hid:=h'd hid
        go_wp2_with fail
        go_roundg (rt.length-(k+1))
        case measure=>omega
        case rel =>
         refine ⟨k+1,by omega,rfl,by go_num,?_⟩
         rw[hskip.out (fun h=>h.2.2 hid.out)]
         exact hI.call hbS.out
       ·have hb0:(nid==root)=false:=beq_eq_false_iff_ne.2 hid
        have hb1:(nid != root)=true:=by rw[bne,hb0];rfl
        replace hid:=h'd hid
        go_upto_region 26 with fail
        have k11:=Blk.new w5' 117 #[.bool true,.int .u32 x,.slice hA hn hc]
        have n1':=(hbS.out.cell (p:=⟨bg,og+k*7+1,none⟩) hbg).trans n1
        have n4':=(hbS.out.cell (p:=⟨bg,og+k*7+4,none⟩) hbg).trans n4
        have hI6:=hI.call hbS.out
        have hx6:=(hxat.out ⟨0,0,nid,fl,1,area,x,0,0⟩).call hbS.out
        have hbg6:=Nat.lt_of_lt_of_le hbg hbS.out.size
        have hgs:routersTo area root N c2 H2 (k+1)=routersTo area root N c2 H2 k++[(⟨0,0,nid,fl,1,area,x,0,0⟩,hAt H2 k)]:=by rw[routersTo_succ,routersAt_yes hNk.out ⟨hf.out,rfl,hid.out⟩,hx.out]
        clear n0 n1 n4 r0 r1 r2
        generalize w5'.alloc (.cells #[.bool true,.int .u32 x,.slice hA hn hc] 117)=wA at *
        have hbd:Below wA.heap.size wA wA.drew:=(b'r _ _).drew
        have CP:=h'd ((hI6.call hbd).put hAl (hGo.out k) ⟨⟨⟨0,0,nid,fl,1,area,x,0,0⟩,hA,hn,hc⟩,hAt H2 k⟩ (hx6.call hbd) (hGo.out (k+1) _ (by rw[hgs];simp)) (by have h1:=routersTo_len (area:=area) (root:=root) (N:=N) (c:=c2) (H:=H2) k;simp only[maxLen];omega))
        replace hgs:=h'd hgs
        clear hI hO5 hG5 hbS
        have d0:=k11.cell 0
        have d1:=k11.cell 1
        have d2:=k11.cell 2
        simp only[q'a,q'z,q's] at d0 d1 d2
        go_still_tail 17,(by kernel_rfl)
        go_wp2_with (go_at_call 52;refine c'm CP.out ?_;rintro e w9' ⟨rfl,hg9,hI9⟩)
        go_roundg (rt.length-(k+1))
        case measure=>omega
        case rel=>exact ⟨k+1,by omega,rfl,by go_num,by rw[hgs.out];exact hI9⟩
     ·rw[d'f hf] at r0 hbS
      replace hf:=h'd hf
      go_wp2_with fail
      go_roundg (rt.length-(k+1))
      case measure=>omega
      case rel =>
       refine ⟨k+1,by omega,rfl,by go_num,?_⟩
       rw[hskip.out (fun h=>absurd h.1 (Int.not_lt.2 hf.out))]
       exact hI.call hbS.out
    ·obtain rfl:k=rt.length:=by omega
     obtain ⟨D9,ho9,hm9⟩:=hI.map
     have hlen9:(routersTo area root N c2 H2 rt.length).length≤60:=n't (routersTo_len rt.length) (by omega)
     have CR:=h'd (rising_any w1.heap.size _ D9 _ w5' ho9 hm9 (bestF_key _) (by omega))
     have hg5:w6.grownBy w5' (some w1.heap.size):=grown_trans hg69 hI.grown
     replace hg5:=h'd hg5
     clear ho9 hm9 hI hg69
     go_wp2_with (go_at_call 53;refine c'm CR.out ?_;rintro e wZ ⟨v2,out2,rfl,hoZ,hhZ,hF2,hol2,hBZ⟩)
     refine bodyPost_ret (results_tmp2 rfl _ _ _) rfl ?_
     have hg6Z:w6.grownBy wZ (some w1.heap.size):=grown_trans hg5.out (grown_of_below hBZ _)
     have hw1:w.heap.size≤w1.heap.size:=hB1.size
     have hz5:=hg5.out.size
     refine ⟨v1,v2,out1,out2,rfl,own_less (own_same ho6.out fun g hg=>hg6Z.block g (ho6.out.lt g hg).2 (by have:=(ho6.out.lt g hg).1;simp;omega)) (by omega),fun z hz=>hopsAt_own 0 z w6 wZ (some w1.heap.size) (hh6.out z hz) hg6Z (fun r e=>by simp only[o'j] at e;subst e;exact ⟨Nat.zero_le _,hobj6.out⟩),own_less hoZ (by omega),hhZ,?_,by omega,by omega,?_⟩
     ·have hii:N.findIdx? (fun x=>x.network==false && x.id==root)=idx:=by
       rw[←hidx.out,←hgr.out,List.findIdx?_map]
       rfl
      unfold InnerQ
      rw[hii]
      cases hidq:idx with
      | none =>
       have h1:=hR4.out.none_ hidq
       have h2:=hR9.out.none_ hidq
       rw[h1] at hF1
       rw[h2] at hF2
       exact ⟨hF1.out.uniq outOf_nil,hF2.uniq outOf_nil⟩
      | some i =>
       obtain ⟨hiN,hC1,hH1⟩:=hR4.out.some_ i hidq
       obtain ⟨-,hC2,hH2⟩:=hR9.out.some_ i hidq
       have hok2:=gns_okG hNok.out
       have hiG:i<(gnsOf N).length:=by rw[gnsOf_len];exact hiN
       obtain rfl:=costs_uniq hok2 hiG hC1 hC2
       obtain rfl:=hops_uniq hH1 hH2
       have e1:rs.length=N.length:=by rw[←hR4.out.clen,hC1.len,gnsOf_len]
       have e2:rt.length=N.length:=by rw[←hR9.out.clen,hC2.len,gnsOf_len]
       rw[e1] at hF1
       rw[e2] at hF2
       exact ⟨c,H,hC1,hH1,hF1.out,hF2⟩
     ·have h61:Below w.heap.size w w6:=hB1.trans (hb16.mono hw1)
      exact h61.trans (below_of_grown hg6Z (by omega) (fun g e=>by simp only[o'j] at e;omega))
end Go.Proofs.YtcknpofnpabkiaaGreat
