/- tree.From at a graph that graph.Build has made, from the node that graph.Find has found, or none. Conditions: the graph is small; its numbers are of their kinds. -/
import Derived.Test.YtcknpofnpabkiaaGreatInBO
import Derived.Test.YtcknpofnpabkiaaGreatInBD
import Derived.Test.YtcknpofnpabkiaaGreatInBJ
namespace Go.Proofs.YtcknpofnpabkiaaGreat
open Go.RowKit Go.Lo
def nrOf (r:NodR):NodeRow:=⟨gnOf r.n,r.ev,r.sv⟩
theorem nr_flat (rows:List NodR):(rows.map nrOf).flatMap nodeCells=rows.flatMap nodC:=by rw[List.flatMap_map];rfl
theorem nr_nodes (rows:List NodR):nodesOf (rows.map nrOf)=gnsOf (rows.map (·.n)):=by simp[nodesOf,gnsOf,nrOf]
theorem gr_at {w:World} {base:Nat} {nv:Value} {rows:List NodR} (h:GrO w base nv rows):GraphAt w w.heap.size nv (rows.map nrOf):=
 ⟨by rw[List.length_map,nr_flat];exact Sl.of_own h.nods,fun r hr=>by obtain ⟨x,hx,rfl⟩:=List.mem_map.1 hr;exact Sl.of_own (h.edges x hx),fun r hr=>by
  obtain ⟨x,hx,rfl⟩:=List.mem_map.1 hr
  obtain ⟨-,A,c,h,-⟩:=Sl.of_own (h.stubs x hx)
  exact ⟨A,_,c,h⟩⟩
structure ReachIs (N:List NodG) (idx:Option Nat) (rs:List ReachRow) (c:List Int) (H:List (List Hop)):Prop where
 cost:rs.map (fun r=>(r.is,r.cost))=c.map fun x=>if x<far then (true,x) else (false,0)
 hops:rs.map ReachRow.hops=H
 none_:idx=none→rs=[]
 some_:∀ i,idx=some i→i<N.length∧Costs (gnsOf N) i c∧Hops (gnsOf N) i c H
theorem ReachIs.clen {N:List NodG} {idx:Option Nat} {rs:List ReachRow} {c:List Int} {H:List (List Hop)} (h:ReachIs N idx rs c H):c.length=rs.length:=by
 have:=congrArg List.length h.cost
 simpa using this.symm
theorem ReachIs.row_ {N:List NodG} {idx:Option Nat} {rs:List ReachRow} {c:List Int} {H:List (List Hop)} (h:ReachIs N idx rs c H) {k:Nat} (hk:k<rs.length) :
  rs[k].is=decide (at_ c k<far)∧(at_ c k<far→rs[k].cost=at_ c k)∧rs[k].hops=hAt H k:=by
 have hc:=h.clen
 have h1:=congrArg (fun l=>l[k]?) h.cost
 have h2:=congrArg (fun l=>l[k]?) h.hops
 have e1:at_ c k=c[k]'(by omega):=by unfold at_;rw[List.getD_eq_getElem?_getD,List.getElem?_eq_getElem (by omega)];rfl
 have hk2:k<c.length:=by omega
 simp only[List.getElem?_map,List.getElem?_eq_getElem hk,List.getElem?_eq_getElem hk2,Option.map_some,Option.some.injEq] at h1 h2
 rw[e1]
 refine ⟨?_,fun hf => ?_,?_⟩
 ·by_cases hf:c[k]<far
  ·rw[if_pos hf,Prod.mk.injEq] at h1
   rw[h1.1,decide_eq_true hf]
  ·rw[if_neg hf,Prod.mk.injEq] at h1
   rw[h1.1,decide_eq_false hf]
 ·rw[if_pos hf,Prod.mk.injEq] at h1
  exact h1.2
 ·unfold hAt
  rw[List.getD_eq_getElem?_getD,←h2]
  rfl
theorem ReachIs.rng {N:List NodG} {idx:Option Nat} {rs:List ReachRow} {c:List Int} {H:List (List Hop)} (h:ReachIs N idx rs c H) {k:Nat} (hk:k<rs.length):k<N.length∧0≤at_ c k∧at_ c k≤far:=by
 cases idx with
 | none=>rw[h.none_ rfl] at hk;cases hk
 | some i =>
  obtain ⟨-,h2,-⟩:=h.some_ i rfl
  have:=h.clen
  have h3:=h2.len
  rw[gnsOf_len] at h3
  exact ⟨by omega,h2.rng k (by omega)⟩
theorem ReachIs.len {N:List NodG} {idx:Option Nat} {rs:List ReachRow} {c:List Int} {H:List (List Hop)} (h:ReachIs N idx rs c H):rs.length≤N.length:=by
 rcases Nat.lt_or_ge N.length rs.length with h1 | h1
 ·exact absurd (h.rng h1).1 (by omega)
 ·exact h1
theorem froms_any (base:Nat) (nv:Value) (rows:List NodR) (idx:Option Nat) (w:World) (h:GrO w base nv rows) (hok:∀ n∈rows.map (·.n),NodOk n) (hn:rows.length≤60) (hi:∀ i,idx=some i→i<rows.length) :
  Calls Tryz.prog 51 #[nv,.int .i64 (idxI idx)] w fun e w'=>∃ v rs c H,e=.returned v∧OutAt w' w.heap.size v rs∧ReachIs (rows.map (·.n)) idx rs c H∧Below w.heap.size w w':=by
 cases idx with
 | none =>
  obtain ⟨-,A,c,rfl,-⟩:=Sl.of_own h.nods
  refine Calls.mono (from_out A rows.length c (-1) w (.inl (by omega))) ?_
  rintro e w' ⟨rfl,rfl⟩
  exact ⟨_,[],[],[],rfl,⟨World.ownsRow_nil _ _ _ _,fun r hr=>by cases hr⟩,⟨rfl,rfl,fun _=>rfl,fun i hi=>by cases hi⟩,Below.refl _ _⟩
 | some i =>
  have hir:=hi i rfl
  have hG:=gr_at h
  have hlen:(rows.map nrOf).length=rows.length:=by simp
  have hN:nodesOf (rows.map nrOf)=gnsOf (rows.map (·.n)):=nr_nodes rows
  have hU:(esOf (nodesOf (rows.map nrOf)) i).length*((rows.map nrOf).length+1)≤400000:=by
   rw[hN,esOf_gns (by simpa using hir),hlen]
   have h1:=(hok _ (List.getElem_mem (l:=rows.map (·.n)) (n:=i) (by simpa using hir))).el
   have h2:=Nat.mul_le_mul h1 (show rows.length+1≤61 by omega)
   omega
  refine Calls.mono (from_any (rows.map nrOf) nv i w hG (by rw[hN];exact gns_okG hok) (by rw[hlen];exact hir) (by rw[hlen];omega) hU) ?_
  rintro e w' (⟨-,v,rs,c,rfl,hO,hB,hC,hH,hm⟩ | ⟨hz,-,-⟩)
  ·rw[hN] at hC hH
   exact ⟨v,rs,c,_,rfl,hO,⟨hm,rfl,fun h=>(by cases h),fun j hj=>by cases hj;exact ⟨by simpa using hir,hC,hH⟩⟩,hB⟩
  ·refine absurd (fun r hr hnet => ?_) hz
   obtain ⟨x,hx,rfl⟩:=List.mem_map.1 hr
   exact (hok _ (List.mem_map_of_mem hx)).nz hnet
theorem all_hops {N:List NodG} (hN:∀ n∈N,NodOk n) (hn:N.length≤60) (i:Nat):(allHops (gnsOf N) i).length≤200000:=by
 rw[allHops_len,gnsOf_len]
 have h1:(esOf (gnsOf N) i).length≤2048:=by
  by_cases hi:i<N.length
  ·rw[esOf_gns hi]
   exact (hN _ (List.getElem_mem _)).el
  ·unfold esOf
   rw[List.getElem?_eq_none (by rw[gnsOf_len];omega)]
   exact Nat.zero_le _
 have h2:=Nat.mul_le_mul h1 (show N.length+1≤61 by omega)
 omega
theorem netsAt_len {area:Int} {N:List NodG} {c:List Int} {H:List (List Hop)} (hN:∀ n∈N,NodOk n) (i:Nat):(netsAt area N c H i).length≤2048:=by
 unfold netsAt
 split
 ·simp
 ·rename_i n hn
  split
  ·split
   ·simp
   ·exact Nat.le_trans (List.length_filterMap_le _ _) (hN n (List.mem_of_getElem? hn)).sl
  ·simp
theorem netsTo_len {area:Int} {N:List NodG} {c:List Int} {H:List (List Hop)} (hN:∀ n∈N,NodOk n) (k:Nat):(netsTo area N c H k).length≤2048*k:=by
 induction k with
 | zero=>simp[netsTo]
 | succ k ih =>
  rw[netsTo_succ,List.length_append,Nat.mul_succ]
  have:=netsAt_len (area:=area) (c:=c) (H:=H) hN k
  omega
theorem routersTo_len {area root:Int} {N:List NodG} {c:List Int} {H:List (List Hop)} (k:Nat):(routersTo area root N c H k).length≤k:=by
 induction k with
 | zero=>simp[routersTo]
 | succ k ih =>
  rw[routersTo_succ,List.length_append]
  have:(routersAt area root N c H k).length≤1:=by
   unfold routersAt
   split
   ·simp
   ·split <;> simp
  omega
end Go.Proofs.YtcknpofnpabkiaaGreat
