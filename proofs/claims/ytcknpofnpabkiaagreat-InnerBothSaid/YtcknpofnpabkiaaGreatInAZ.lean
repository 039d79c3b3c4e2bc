/- Graphs as plain data. -/
import Derived.Test.YtcknpofnpabkiaaGreatInAA
namespace Go.Lo
structure GEdge where
 dst:Int
 cost:Int
 data:Int
 virt:Bool
structure GNode where
 network:Bool
 id:Int
 netA:Int
 netB:Int
 flags:Int
 edges:List GEdge
def far:Int:=4294967296
def esOf (g:List GNode) (i:Nat):List GEdge:=match g[i]? with | some n=>n.edges | none=>[]
def okG (g:List GNode):Prop:=∀ n∈g,∀ e∈n.edges,0≤e.cost∧e.cost≤4294967295
theorem esOf_eq {g:List GNode} {i:Nat} (h:i<g.length):esOf g i=g[i].edges:=by unfold esOf;rw[List.getElem?_eq_getElem h]
theorem esOf_cost {g:List GNode} (hg:okG g) {i:Nat} {e:GEdge} (he:e∈esOf g i):0≤e.cost∧e.cost≤4294967295:=by
 unfold esOf at he
 split at he
 ·rename_i n hn
  exact hg n (List.mem_of_getElem? hn) e he
 ·cases he
inductive Way (g:List GNode) (root:Nat):Nat→Int→Prop where
 | here:Way g root root 0
 | on {i j:Nat} {x:Int} {e:GEdge}:Way g root i x→e∈esOf g i→e.dst=j→j<g.length→Way g root j (x+e.cost)
theorem Way.nonneg {g:List GNode} (hg:okG g) {root i:Nat} {x:Int} (h:Way g root i x):0≤x:=by
 induction h with
 | here=>exact Int.le_refl _
 | on _ he _ _ ih=>have:=(esOf_cost hg he).1;omega
def at_ (c:List Int) (i:Nat):Int:=c.getD i far
def Slack (c:List Int) (x:Int) (es:List GEdge):Prop:=∀ e∈es,∀ j:Nat,e.dst=j→j<c.length→at_ c j≤x+e.cost
def part_ (g:List GNode) (cur:Option (Nat × Nat)) (i:Nat):List GEdge:=
 match cur with
 | some (a,k)=>if a=i then (esOf g i).take k else esOf g i
 | none=>esOf g i
structure CInv (g:List GNode) (root:Nat) (c:List Int) (q:List (Int × Int)) (cur:Option (Nat × Nat)):Prop where
 len:c.length=g.length
 root0:at_ c root=0
 rng:∀ i,i<c.length→0≤at_ c i∧at_ c i≤far
 way:∀ i,i<c.length→at_ c i<far→Way g root i (at_ c i)
 que:∀ p∈q,0≤p.1∧p.1<far∧∃ i:Nat,p.2=i∧i<c.length∧at_ c i≤p.1
 done:∀ i,i<c.length→at_ c i<far→(at_ c i,(i:Int))∈q∨Slack c (at_ c i) (part_ g cur i)
theorem CInv.perm {g:List GNode} {root:Nat} {c:List Int} {q q':List (Int × Int)} {cur:Option (Nat × Nat)} (h:CInv g root c q cur) (hp:q'.Perm q):CInv g root c q' cur:=
 ⟨h.len,h.root0,h.rng,h.way,fun p hm=>h.que p (hp.mem_iff.1 hm),fun i hi hf=>(h.done i hi hf).imp (hp.mem_iff.2) id⟩
theorem CInv.stale {g:List GNode} {root:Nat} {c:List Int} {q:List (Int × Int)} {x:Int} {i:Nat} (h:CInv g root c ((x,(i:Int)) :: q) none) (hx:at_ c i<x):CInv g root c q none:=
 ⟨h.len,h.root0,h.rng,h.way,fun p hm=>h.que p (List.mem_cons_of_mem _ hm),fun j hj hf=>by
  rcases h.done j hj hf with h1 | h1
  ·rcases List.mem_cons.1 h1 with h2 | h2
   ·simp only[Prod.mk.injEq] at h2
    have:j=i:=by omega
    subst this
    omega
   ·exact .inl h2
  ·exact .inr h1⟩
theorem CInv.begin {g:List GNode} {root:Nat} {c:List Int} {q:List (Int × Int)} {x:Int} {i:Nat} (h:CInv g root c ((x,(i:Int)) :: q) none) (_hx:at_ c i=x):CInv g root c q (some (i,0)):=
 ⟨h.len,h.root0,h.rng,h.way,fun p hm=>h.que p (List.mem_cons_of_mem _ hm),fun j hj hf=>by
  by_cases hji:i=j
  ·subst hji
   refine .inr ?_
   unfold part_
   simp only[if_true,List.take_zero]
   intro e he;cases he
  ·rcases h.done j hj hf with h1 | h1
   ·rcases List.mem_cons.1 h1 with h2 | h2
    ·simp only[Prod.mk.injEq] at h2
     omega
    ·exact .inl h2
   ·refine .inr ?_
    unfold part_ at h1 ⊢
    simpa only[if_neg hji] using h1⟩
theorem CInv.skip {g:List GNode} {root:Nat} {c:List Int} {q:List (Int × Int)} {i k:Nat} (h:CInv g root c q (some (i,k))) (hk:k<(esOf g i).length)
  (hs:∀ j:Nat,((esOf g i)[k]).dst=j→j<c.length→at_ c j≤at_ c i+((esOf g i)[k]).cost):CInv g root c q (some (i,k+1)):=
 ⟨h.len,h.root0,h.rng,h.way,h.que,fun j hj hf=>by
  rcases h.done j hj hf with h1 | h1
  ·exact .inl h1
  ·refine .inr ?_
   unfold part_ at h1 ⊢
   by_cases hji:i=j
   ·subst hji
    simp only[if_true] at h1 ⊢
    rw[List.take_succ_eq_append_getElem hk]
    intro e he m hm hmc
    rcases List.mem_append.1 he with he | he
    ·exact h1 e he m hm hmc
    ·have:e=(esOf g i)[k]:=by simpa using he
     subst this
     exact hs m hm hmc
   ·simpa only[if_neg hji] using h1⟩
theorem at_set_ne {c:List Int} {t i:Nat} {x:Int} (h:i≠t):at_ (c.set t x) i=at_ c i:=by
 unfold at_;rw[List.getD_eq_getElem?_getD,List.getD_eq_getElem?_getD,List.getElem?_set_ne (Ne.symm h)]
theorem at_set_eq {c:List Int} {t:Nat} {x:Int} (h:t<c.length):at_ (c.set t x) t=x:=by
 unfold at_;rw[List.getD_eq_getElem?_getD,List.getElem?_set_self h];rfl
theorem CInv.step {g:List GNode} {root:Nat} {c:List Int} {q:List (Int × Int)} {i k t:Nat} (hg:okG g) (h:CInv g root c q (some (i,k))) (hi:i<c.length) (hif:at_ c i<far) (hk:k<(esOf g i).length)
  (ht:((esOf g i)[k]).dst=t) (htc:t<c.length) (hlt:at_ c i+((esOf g i)[k]).cost<at_ c t) :
  CInv g root (c.set t (at_ c i+((esOf g i)[k]).cost)) ((at_ c i+((esOf g i)[k]).cost,(t:Int)) :: q) (some (i,k+1)):=by
 have hc:=esOf_cost hg (List.getElem_mem hk)
 have h0:=(h.rng i hi).1
 have htr:=h.rng t htc
 have hit:i≠t:=by rintro rfl;omega
 have hroot:root≠t:=by rintro rfl;rw[h.root0] at hlt;omega
 have hle:∀ j,at_ (c.set t (at_ c i+((esOf g i)[k]).cost)) j≤at_ c j:=fun j=>by
  by_cases hj:j=t
  ·subst hj;rw[at_set_eq htc];omega
  ·rw[at_set_ne hj];exact Int.le_refl _
 generalize hx:at_ c i+((esOf g i)[k]).cost=x at *
 refine ⟨by rw[List.length_set];exact h.len,by rw[at_set_ne hroot];exact h.root0,fun j hj => ?_,fun j hj hf => ?_,fun p hp => ?_,fun j hj hf => ?_⟩
 ·rw[List.length_set] at hj
  by_cases e:j=t
  ·subst e;rw[at_set_eq htc];omega
  ·rw[at_set_ne e];exact h.rng j hj
 ·rw[List.length_set] at hj
  by_cases e:j=t
  ·subst e
   rw[at_set_eq htc,←hx]
   exact Way.on (h.way i hi hif) (List.getElem_mem hk) ht (by rw[←h.len];exact htc)
  ·rw[at_set_ne e] at hf ⊢;exact h.way j hj hf
 ·rcases List.mem_cons.1 hp with rfl | hp
  ·exact ⟨by omega,by show x<far;omega,t,rfl,by rw[List.length_set];exact htc,by rw[at_set_eq htc];exact Int.le_refl _⟩
  ·obtain ⟨h1,h2,m,h3,h4,h5⟩:=h.que p hp
   exact ⟨h1,h2,m,h3,by rw[List.length_set];exact h4,Int.le_trans (hle m) h5⟩
 ·rw[List.length_set] at hj
  by_cases e:j=t
  ·subst e
   rw[at_set_eq htc]
   exact .inl (List.mem_cons_self ..)
  ·rw[at_set_ne e] at hf ⊢
   rcases h.done j hj hf with h1 | h1
   ·exact .inl (List.mem_cons_of_mem _ h1)
   ·refine .inr ?_
    unfold part_ at h1 ⊢
    have old:∀ es,Slack c (at_ c j) es→Slack (c.set t x) (at_ c j) es:=fun es hs e' he' m hm hmc=>Int.le_trans (hle m) (hs e' he' m hm (by rw[List.length_set] at hmc;exact hmc))
    by_cases hji:i=j
    ·subst hji
     simp only[if_true] at h1 ⊢
     rw[List.take_succ_eq_append_getElem hk]
     intro e' he' m hm hmc
     rcases List.mem_append.1 he' with he' | he'
     ·exact old _ h1 e' he' m hm hmc
     ·have:e'=(esOf g i)[k]:=by simpa using he'
      subst this
      have hmt:m=t:=by omega
      subst hmt
      rw[at_set_eq htc];omega
    ·simp only[if_neg hji] at h1 ⊢
     exact old _ h1
theorem CInv.finish {g:List GNode} {root:Nat} {c:List Int} {q:List (Int × Int)} {i:Nat} (h:CInv g root c q (some (i,(esOf g i).length))):CInv g root c q none:=
 ⟨h.len,h.root0,h.rng,h.way,h.que,fun j hj hf=>(h.done j hj hf).imp id fun h1=>by
  unfold part_ at h1 ⊢
  by_cases hji:i=j
  ·subst hji;simpa using h1
  ·simpa only[if_neg hji] using h1⟩
structure Costs (g:List GNode) (root:Nat) (c:List Int):Prop where
 len:c.length=g.length
 root0:at_ c root=0
 rng:∀ i,i<c.length→0≤at_ c i∧at_ c i≤far
 way:∀ i,i<c.length→at_ c i<far→Way g root i (at_ c i)
 slack:∀ i,i<c.length→at_ c i<far→Slack c (at_ c i) (esOf g i)
theorem CInv.costs {g:List GNode} {root:Nat} {c:List Int} (h:CInv g root c [] none):Costs g root c:=
 ⟨h.len,h.root0,h.rng,h.way,fun i hi hf=>(h.done i hi hf).resolve_left (by simp)⟩
theorem CInv.start {g:List GNode} {root:Nat} (hr:root<g.length):CInv g root ((List.replicate g.length far).set root 0) [(0,(root:Int))] none:=by
 have hl:root<(List.replicate g.length far).length:=by simpa using hr
 have hoth:∀ j,j≠root→at_ ((List.replicate g.length far).set root 0) j=far:=fun j hj=>by
  rw[at_set_ne hj];unfold at_;rw[List.getD_eq_getElem?_getD,List.getElem?_replicate];split <;> rfl
 have hself:at_ ((List.replicate g.length far).set root 0) root=0:=at_set_eq hl
 refine ⟨by simp,hself,fun i _ => ?_,fun i _ hf => ?_,fun p hp => ?_,fun i _ hf => ?_⟩
 ·by_cases e:i=root
  ·subst e;rw[hself];simp[far]
  ·rw[hoth i e];simp[far]
 ·by_cases e:i=root
  ·subst e;rw[hself];exact Way.here
  ·rw[hoth i e] at hf;exact absurd hf (Int.lt_irrefl _)
 ·have:p=(0,(root:Int)):=by simpa using hp
  subst this
  exact ⟨Int.le_refl _,by simp[far],root,rfl,by simpa using hr,by rw[hself];exact Int.le_refl _⟩
 ·by_cases e:i=root
  ·subst e;rw[hself];exact .inl (by simp)
  ·rw[hoth i e] at hf;exact absurd hf (Int.lt_irrefl _)
def sumC (c:List Int):Nat:=(c.map Int.toNat).sum
theorem sumC_set {c:List Int} {t:Nat} {x:Int} (ht:t<c.length) (h0:0≤x) (hx:x<at_ c t):sumC (c.set t x)+1≤sumC c:=by
 induction c generalizing t with
 | nil=>simp at ht
 | cons y r ih =>
  cases t with
  | zero =>
   have:x<y:=by simpa[at_] using hx
   simp only[sumC,s'z,List.map_cons,List.sum_cons]
   omega
  | succ t =>
   have:=ih (t:=t) (by simpa using ht) (by simpa[at_] using hx)
   simp only[sumC,s's,List.map_cons,List.sum_cons] at this ⊢
   omega
theorem sumC_le {c:List Int} (h:∀ i,i<c.length→at_ c i≤far):sumC c≤c.length*4294967296:=by
 induction c with
 | nil=>simp[sumC]
 | cons y r ih =>
  have h1:=h 0 (by simp)
  have h2:=ih fun i hi=>by have:=h (i+1) (by simpa using hi);simpa[at_] using this
  simp only[at_,List.getD_cons_zero,far] at h1
  simp only[sumC,List.map_cons,List.sum_cons,List.length_cons] at h2 ⊢
  omega
def Sorted (l:List Hop):Prop:=l.Pairwise fun a b=>hopLt a b=true
theorem hopLt_irrefl (a:Hop):hopLt a a=false:=by
 obtain ⟨x,y,z⟩:=a
 cases z <;> simp[hopLt]
theorem hopLt_trans {a b c:Hop} (h:hopLt a b=true) (k:hopLt b c=true):hopLt a c=true:=by
 obtain ⟨a1,a2,a3⟩:=a
 obtain ⟨b1,b2,b3⟩:=b
 obtain ⟨c1,c2,c3⟩:=c
 unfold hopLt at *
 simp only[bne_iff_ne,ne_eq,ite_not] at *
 by_cases e1:a1=b1 <;> by_cases e2:b1=c1 <;> by_cases e3:a2=b2 <;> by_cases e4:b2=c2 <;> simp_all <;> (try split) <;> (try split) <;> (try simp_all) <;> (try omega)
theorem hopLt_total {a b:Hop} (h:hopLt a b=false) (hne:a≠b):hopLt b a=true:=by
 obtain ⟨a1,a2,a3⟩:=a
 obtain ⟨b1,b2,b3⟩:=b
 unfold hopLt at *
 simp only[bne_iff_ne,ne_eq,ite_not] at *
 by_cases e1:a1=b1
 ·subst e1
  by_cases e3:a2=b2
  ·subst e3
   cases a3 <;> cases b3 <;> simp_all
  ·have e4:¬ b2=a2:=fun e=>e3 e.symm
   simp only[if_true,if_neg e3,if_neg e4,decide_eq_false_iff_not,decide_eq_true_eq] at h ⊢
   omega
 ·have e2:¬ b1=a1:=fun e=>e1 e.symm
  simp only[if_neg e1,if_neg e2,decide_eq_false_iff_not,decide_eq_true_eq] at h ⊢
  omega
theorem mem_ins {l:List Hop} {h x:Hop}:x∈ins l h↔x∈l∨x=h:=by
 unfold ins
 split
 ·rename_i e
  constructor
  ·exact .inl
  ·rintro (h1 | rfl)
   ·exact h1
   ·exact List.mem_of_getElem? e
 ·rw[List.mem_append,List.mem_cons]
  constructor
  ·rintro (h1 | rfl | h1)
   ·exact .inl (List.mem_of_mem_take h1)
   ·exact .inr rfl
   ·exact .inl (List.mem_of_mem_drop h1)
  ·rintro (h1 | rfl)
   ·rw[←List.take_append_drop (insAt l h) l,List.mem_append] at h1
    rcases h1 with h1 | h1
    ·exact .inl h1
    ·exact .inr (.inr h1)
   ·exact .inr (.inl rfl)
theorem mem_puts {l m:List Hop} {x:Hop}:x∈puts l m↔x∈l∨x∈m:=by
 induction m generalizing l with
 | nil=>simp[puts]
 | cons y r ih =>
  have:=ih (l:=ins l y)
  simp only[puts,List.foldl_cons] at this ⊢
  rw[this,mem_ins,List.mem_cons,or_assoc]
theorem insAt_lt {l:List Hop} {h:Hop} {i:Nat} (hi:i<insAt l h):∃ hl:i<l.length,hopLt l[i] h=true:=by
 induction l generalizing i with
 | nil=>simp[insAt] at hi
 | cons y r ih =>
  by_cases hy:hopLt y h=true
  ·have e:insAt (y :: r) h=insAt r h+1:=by unfold insAt;rw[List.takeWhile_cons,if_pos hy,List.length_cons]
   cases i with
   | zero=>exact ⟨by simp,hy⟩
   | succ i =>
    obtain ⟨h1,h2⟩:=ih (i:=i) (by omega)
    exact ⟨by simpa using h1,by simpa using h2⟩
  ·have e:insAt (y :: r) h=0:=by unfold insAt;rw[List.takeWhile_cons,if_neg hy];rfl
   omega
theorem insAt_stop {l:List Hop} {h:Hop} (hi:insAt l h<l.length):hopLt l[insAt l h] h=false:=by
 induction l with
 | nil=>simp at hi
 | cons y r ih =>
  by_cases hy:hopLt y h=true
  ·have e:insAt (y :: r) h=insAt r h+1:=by unfold insAt;rw[List.takeWhile_cons,if_pos hy,List.length_cons]
   simp only[e,List.getElem_cons_succ]
   exact ih (by rw[e] at hi;simpa using hi)
  ·have e:insAt (y :: r) h=0:=by unfold insAt;rw[List.takeWhile_cons,if_neg hy];rfl
   simp only[e,List.getElem_cons_zero]
   simpa using hy
theorem Sorted.ins {l:List Hop} (hs:Sorted l) (h:Hop):Sorted (ins l h):=by
 unfold Lo.ins
 split
 ·exact hs
 ·rename_i hne
  have hs':=hs
  unfold Sorted at hs hs' ⊢
  rw[←List.take_append_drop (insAt l h) l,List.pairwise_append] at hs
  obtain ⟨h1,h2,h3⟩:=hs
  have hlow:∀ a∈l.take (insAt l h),hopLt a h=true:=fun a ha=>by
   obtain ⟨i,hi,rfl⟩:=List.mem_iff_getElem.1 ha
   have hi':i<insAt l h:=by rw[List.length_take] at hi;omega
   obtain ⟨_,h4⟩:=insAt_lt hi'
   rw[List.getElem_take];exact h4
  have hhigh:∀ b∈l.drop (insAt l h),hopLt h b=true:=fun b hb=>by
   obtain ⟨i,hi,rfl⟩:=List.mem_iff_getElem.1 hb
   rw[List.length_drop] at hi
   rw[List.getElem_drop]
   have hlt:insAt l h<l.length:=by omega
   have h0:hopLt h l[insAt l h]=true:=hopLt_total (insAt_stop hlt) (fun e=>hne (by rw[List.getElem?_eq_getElem hlt,e]))
   rcases Nat.eq_zero_or_pos i with rfl | hp
   ·exact h0
   ·exact hopLt_trans h0 (List.pairwise_iff_getElem.1 hs' _ _ hlt (by omega) (by omega))
  refine List.pairwise_append.2 ⟨h1,List.pairwise_cons.2 ⟨hhigh,h2⟩,fun a ha b hb => ?_⟩
  rcases List.mem_cons.1 hb with rfl | hb
  ·exact hlow a ha
  ·exact h3 a ha b hb
theorem Sorted.puts {l:List Hop} (hs:Sorted l) (m:List Hop):Sorted (puts l m):=by
 induction m generalizing l with
 | nil=>exact hs
 | cons y r ih=>exact ih (hs.ins y)
theorem Sorted.nodup {l:List Hop} (hs:Sorted l):l.Nodup:=hs.imp fun {a b} h e=>by subst e;rw[hopLt_irrefl] at h;cases h
theorem Sorted.ext {l m:List Hop} (hl:Sorted l) (hm:Sorted m) (h:∀ x,x∈l↔x∈m):l=m:=by
 induction l generalizing m with
 | nil =>
  cases m with
  | nil=>rfl
  | cons y r=>exact absurd ((h y).2 (List.mem_cons_self ..)) (by simp)
 | cons x l ih =>
  cases m with
  | nil=>exact absurd ((h x).1 (List.mem_cons_self ..)) (by simp)
  | cons y m =>
   have hx:=List.pairwise_cons.1 hl
   have hy:=List.pairwise_cons.1 hm
   have hxy:x=y:=by
    rcases List.mem_cons.1 ((h x).1 (List.mem_cons_self ..)) with e | h1
    ·exact e
    ·rcases List.mem_cons.1 ((h y).2 (List.mem_cons_self ..)) with e | h2
     ·exact e.symm
     ·have h3:=hopLt_trans (hy.1 x h1) (hx.1 y h2)
      rw[hopLt_irrefl] at h3;cases h3
   subst hxy
   congr 1
   refine ih hx.2 hy.2 fun z=>⟨fun hz => ?_,fun hz => ?_⟩
   ·rcases List.mem_cons.1 ((h z).1 (List.mem_cons_of_mem _ hz)) with e | h1
    ·subst e;have:=hx.1 z hz;rw[hopLt_irrefl] at this;cases this
    ·exact h1
   ·rcases List.mem_cons.1 ((h z).2 (List.mem_cons_of_mem _ hz)) with e | h1
    ·subst e;have:=hy.1 z hz;rw[hopLt_irrefl] at this;cases this
    ·exact h1
theorem ins_old {l:List Hop} {h:Hop} (hs:(ins l h).length=l.length):ins l h=l∧h∈l:=by
 unfold ins at *
 split
 ·rename_i e;exact ⟨rfl,List.mem_of_getElem? e⟩
 ·rename_i hne
  rw[if_neg hne] at hs
  have:=insAt_le l h
  simp only[List.length_append,List.length_take,List.length_cons,List.length_drop] at hs;omega
theorem puts_grow (l m:List Hop):l.length≤(puts l m).length:=by
 induction m generalizing l with
 | nil=>exact Nat.le_refl _
 | cons y r ih=>exact Nat.le_trans (ins_length l y).2 (ih _)
theorem puts_old {l m:List Hop} (h:(puts l m).length=l.length):puts l m=l∧∀ x∈m,x∈l:=by
 induction m generalizing l with
 | nil=>exact ⟨rfl,by simp⟩
 | cons y r ih =>
  have h1:=puts_grow (ins l y) r
  have h2:=(ins_length l y).2
  have h3:(puts (ins l y) r).length=l.length:=h
  have h4:=ins_old (l:=l) (h:=y) (by omega)
  rw[h4.1] at h3
  have h5:=ih h3
  refine ⟨by show puts (ins l y) r=l;rw[h4.1];exact h5.1,fun x hx => ?_⟩
  rcases List.mem_cons.1 hx with rfl | hx
  ·exact h4.2
  ·exact h5.2 x hx
theorem nodup_le {α:Type} [DecidableEq α] {l m:List α} (hl:l.Nodup) (h:∀ x∈l,x∈m):l.length≤m.length:=by
 induction l generalizing m with
 | nil=>simp
 | cons x r ih =>
  have hx:=List.nodup_cons.1 hl
  have h1:x∈m:=h x (List.mem_cons_self ..)
  have h2:=ih (m:=m.erase x) hx.2 (fun y hy=>(List.mem_erase_of_ne (fun e=>hx.1 (by rw[←e];exact hy))).2 (h y (List.mem_cons_of_mem _ hy)))
  rw[List.length_erase_of_mem h1] at h2
  have h3:0<m.length:=List.length_pos_of_mem h1
  simp only[List.length_cons];omega
def netAt (g:List GNode) (i:Nat):Bool:=match g[i]? with | some n=>n.network | none=>false
def idAt (g:List GNode) (i:Nat):Int:=match g[i]? with | some n=>n.id | none=>0
def first_ (g:List GNode) (e:GEdge):Hop:=(e.data,if netAt g e.dst.toNat then 0 else idAt g e.dst.toNat,e.virt)
def on_ (g:List GNode) (i:Nat) (e:GEdge) (h:Hop):Hop:=if netAt g i && h.2.1==0 && !netAt g e.dst.toNat then (h.1,idAt g e.dst.toNat,h.2.2) else h
def stepHops (g:List GNode) (root i:Nat) (e:GEdge) (hi:List Hop):List Hop:=if i=root then [first_ g e] else hi.map (on_ g i e)
def Tight (g:List GNode) (root:Nat) (c:List Int) (i:Nat) (e:GEdge):Prop:=
 0≤e.dst∧e.dst<g.length∧e.dst≠root∧at_ c i+e.cost=at_ c e.dst.toNat∧at_ c e.dst.toNat<far
instance (g:List GNode) (root:Nat) (c:List Int) (i:Nat) (e:GEdge):Decidable (Tight g root c i e):=by unfold Tight;exact inferInstance
inductive HopOf (g:List GNode) (root:Nat) (c:List Int):Nat→Hop→Prop where
 | first {e:GEdge}:e∈esOf g root→Tight g root c root e→HopOf g root c e.dst.toNat (first_ g e)
 | on {i:Nat} {e:GEdge} {h:Hop}:HopOf g root c i h→i≠root→e∈esOf g i→Tight g root c i e→HopOf g root c e.dst.toNat (on_ g i e h)
def hAt (H:List (List Hop)) (i:Nat):List Hop:=H.getD i []
def Closed (g:List GNode) (root:Nat) (c:List Int) (H:List (List Hop)) (i:Nat) (es:List GEdge):Prop:=
 ∀ e∈es,Tight g root c i e→∀ h∈stepHops g root i e (hAt H i),h∈hAt H e.dst.toNat
structure SInv (g:List GNode) (root:Nat) (c:List Int) (todo:List Nat) (H:List (List Hop)) (cur:Option (Nat × Nat)):Prop where
 len:H.length=g.length
 sorted:∀ i,Sorted (hAt H i)
 root0:hAt H root=[]
 sound:∀ i,∀ h∈hAt H i,HopOf g root c i h
 tod:∀ i∈todo,i<g.length∧(i=root∨hAt H i≠[])
 done:∀ i,i<g.length→(i=root∨hAt H i≠[])→i∈todo∨Closed g root c H i (part_ g cur i)
theorem hAt_set_ne {H:List (List Hop)} {t i:Nat} {l:List Hop} (h:i≠t):hAt (H.set t l) i=hAt H i:=by
 unfold hAt;rw[List.getD_eq_getElem?_getD,List.getD_eq_getElem?_getD,List.getElem?_set_ne (Ne.symm h)]
theorem hAt_set_eq {H:List (List Hop)} {t:Nat} {l:List Hop} (h:t<H.length):hAt (H.set t l) t=l:=by
 unfold hAt;rw[List.getD_eq_getElem?_getD,List.getElem?_set_self h];rfl
theorem SInv.begin {g:List GNode} {root:Nat} {c:List Int} {todo:List Nat} {H:List (List Hop)} {i:Nat} (h:SInv g root c (i :: todo) H none):SInv g root c todo H (some (i,0)):=
 ⟨h.len,h.sorted,h.root0,h.sound,fun j hj=>h.tod j (List.mem_cons_of_mem _ hj),fun j hj hr=>by
  by_cases hji:i=j
  ·subst hji
   refine .inr ?_
   unfold part_
   simp only[if_true,List.take_zero]
   intro e he;cases he
  ·rcases h.done j hj hr with h1 | h1
   ·rcases List.mem_cons.1 h1 with h2 | h2
    ·exact absurd h2.symm hji
    ·exact .inl h2
   ·refine .inr ?_
    unfold part_ at h1 ⊢
    simpa only[if_neg hji] using h1⟩
theorem SInv.skip {g:List GNode} {root:Nat} {c:List Int} {todo:List Nat} {H:List (List Hop)} {i k:Nat} (h:SInv g root c todo H (some (i,k))) (hk:k<(esOf g i).length)
  (hs:Tight g root c i (esOf g i)[k]→∀ x∈stepHops g root i (esOf g i)[k] (hAt H i),x∈hAt H ((esOf g i)[k]).dst.toNat):SInv g root c todo H (some (i,k+1)):=
 ⟨h.len,h.sorted,h.root0,h.sound,h.tod,fun j hj hr=>by
  rcases h.done j hj hr with h1 | h1
  ·exact .inl h1
  ·refine .inr ?_
   unfold part_ at h1 ⊢
   by_cases hji:i=j
   ·subst hji
    simp only[if_true] at h1 ⊢
    rw[List.take_succ_eq_append_getElem hk]
    intro e he ht x hx
    rcases List.mem_append.1 he with he | he
    ·exact h1 e he ht x hx
    ·have:e=(esOf g i)[k]:=by simpa using he
     subst this
     exact hs ht x hx
   ·simpa only[if_neg hji] using h1⟩
theorem SInv.step {g:List GNode} {root:Nat} {c:List Int} {todo:List Nat} {H:List (List Hop)} {i k:Nat} (h:SInv g root c todo H (some (i,k))) (hk:k<(esOf g i).length)
  (ht:Tight g root c i (esOf g i)[k]) (hnew:(puts (hAt H ((esOf g i)[k]).dst.toNat) (stepHops g root i (esOf g i)[k] (hAt H i))).length≠(hAt H ((esOf g i)[k]).dst.toNat).length) :
  SInv g root c (todo++[((esOf g i)[k]).dst.toNat]) (H.set ((esOf g i)[k]).dst.toNat (puts (hAt H ((esOf g i)[k]).dst.toNat) (stepHops g root i (esOf g i)[k] (hAt H i)))) (some (i,k+1)):=by
 have hE:=List.getElem_mem hk
 generalize he:(esOf g i)[k]=e at *
 have ht':=ht
 obtain ⟨h0,h1,h2,_,_⟩:=ht'
 have hlt:e.dst.toNat<g.length:=by omega
 have hltH:e.dst.toNat<H.length:=by rw[h.len];exact hlt
 have hrt:root≠e.dst.toNat:=by omega
 have hmem:∀ j x,x∈hAt H j→x∈hAt (H.set e.dst.toNat (puts (hAt H e.dst.toNat) (stepHops g root i e (hAt H i)))) j:=fun j x hx=>by
  by_cases ej:j=e.dst.toNat
  ·subst ej;rw[hAt_set_eq hltH];exact mem_puts.2 (.inl hx)
  ·rw[hAt_set_ne ej];exact hx
 have hlong:puts (hAt H e.dst.toNat) (stepHops g root i e (hAt H i))≠[]:=fun hn=>by
  have:=puts_grow (hAt H e.dst.toNat) (stepHops g root i e (hAt H i))
  rw[hn] at this hnew
  simp at this hnew
  rw[this] at hnew;simp at hnew
 refine ⟨by rw[List.length_set];exact h.len,fun j => ?_,by rw[hAt_set_ne hrt];exact h.root0,fun j x hx => ?_,fun j hj => ?_,fun j hj hr => ?_⟩
 ·by_cases ej:j=e.dst.toNat
  ·subst ej;rw[hAt_set_eq hltH];exact (h.sorted _).puts _
  ·rw[hAt_set_ne ej];exact h.sorted j
 ·by_cases ej:j=e.dst.toNat
  ·subst ej
   rw[hAt_set_eq hltH] at hx
   rcases mem_puts.1 hx with hx | hx
   ·exact h.sound _ x hx
   ·unfold stepHops at hx
    split at hx
    ·rename_i hir
     have:x=first_ g e:=by simpa using hx
     subst this
     subst hir
     exact HopOf.first hE ht
    ·rename_i hir
     obtain ⟨y,hy,rfl⟩:=List.mem_map.1 hx
     exact HopOf.on (h.sound i y hy) hir hE ht
  ·rw[hAt_set_ne ej] at hx;exact h.sound j x hx
 ·rcases List.mem_append.1 hj with hj | hj
  ·obtain ⟨h3,h4⟩:=h.tod j hj
   refine ⟨h3,h4.imp id fun h5 hn => ?_⟩
   by_cases ej:j=e.dst.toNat
   ·subst ej;rw[hAt_set_eq hltH] at hn;exact hlong hn
   ·rw[hAt_set_ne ej] at hn;exact h5 hn
  ·have:j=e.dst.toNat:=by simpa using hj
   subst this
   exact ⟨hlt,.inr (by rw[hAt_set_eq hltH];exact hlong)⟩
 ·by_cases ej:j=e.dst.toNat
  ·subst ej;exact .inl (List.mem_append_right _ (by simp))
  ·rw[hAt_set_ne ej] at hr
   rcases h.done j hj hr with h3 | h3
   ·exact .inl (List.mem_append_left _ h3)
   ·refine .inr ?_
    have old:∀ es,Closed g root c H j es→Closed g root c (H.set e.dst.toNat (puts (hAt H e.dst.toNat) (stepHops g root i e (hAt H i)))) j es:=fun es hc e' he' ht' x hx=>by
     rw[hAt_set_ne ej] at hx
     exact hmem _ _ (hc e' he' ht' x hx)
    unfold part_ at h3 ⊢
    by_cases hji:i=j
    ·subst hji
     simp only[if_true] at h3 ⊢
     rw[List.take_succ_eq_append_getElem hk,he]
     intro e' he' ht' x hx
     rcases List.mem_append.1 he' with he' | he'
     ·exact old _ h3 e' he' ht' x hx
     ·have:e'=e:=by simpa using he'
      subst this
      rw[hAt_set_ne ej] at hx
      rw[hAt_set_eq hltH]
      exact mem_puts.2 (.inr hx)
    ·simp only[if_neg hji] at h3 ⊢
     exact old _ h3
theorem SInv.finish {g:List GNode} {root:Nat} {c:List Int} {todo:List Nat} {H:List (List Hop)} {i:Nat} (h:SInv g root c todo H (some (i,(esOf g i).length))):SInv g root c todo H none:=
 ⟨h.len,h.sorted,h.root0,h.sound,h.tod,fun j hj hr=>(h.done j hj hr).imp id fun h1=>by
  unfold part_ at h1 ⊢
  by_cases hji:i=j
  ·subst hji;simpa using h1
  ·simpa only[if_neg hji] using h1⟩
theorem SInv.start {g:List GNode} {root:Nat} {c:List Int} (hr:root<g.length):SInv g root c [root] (List.replicate g.length []) none:=by
 have h0:∀ i,hAt (List.replicate g.length ([]:List Hop)) i=[]:=fun i=>by
  unfold hAt;rw[List.getD_eq_getElem?_getD,List.getElem?_replicate];split <;> rfl
 refine ⟨by simp,fun i=>by rw[h0];exact List.Pairwise.nil,h0 _,fun i h hh => ?_,fun i hi => ?_,fun i _ hr' => ?_⟩
 ·rw[h0] at hh;cases hh
 ·have:i=root:=by simpa using hi
  subst this
  exact ⟨hr,.inl rfl⟩
 ·rcases hr' with rfl | h
  ·exact .inl (by simp)
  ·exact absurd (h0 i) h
structure Hops (g:List GNode) (root:Nat) (c:List Int) (H:List (List Hop)):Prop where
 len:H.length=g.length
 sorted:∀ i,Sorted (hAt H i)
 mem:∀ i h,h∈hAt H i↔HopOf g root c i h
theorem SInv.hops {g:List GNode} {root:Nat} {c:List Int} {H:List (List Hop)} (h:SInv g root c [] H none) (hr:root<g.length):Hops g root c H:=by
 refine ⟨h.len,h.sorted,fun i x=>⟨h.sound i x,fun hx => ?_⟩⟩
 have hd:∀ i,i<g.length→(i=root∨hAt H i≠[])→Closed g root c H i (esOf g i):=fun i hi hc=>(h.done i hi hc).resolve_left (by simp)
 induction hx with
 | @first e he ht=>exact hd root hr (.inl rfl) e he ht _ (by unfold stepHops;simp)
 | @on i e y hy hir he ht ih =>
  have hi:i<g.length:=by
   rcases Nat.lt_or_ge i g.length with h1 | h1
   ·exact h1
   ·unfold esOf at he;rw[List.getElem?_eq_none h1] at he;cases he
  exact hd i hi (.inr (fun hn=>by rw[hn] at ih;cases ih)) e he ht _ (by unfold stepHops;rw[if_neg hir];exact List.mem_map_of_mem ih)
def allHops (g:List GNode) (root:Nat):List Hop:=(esOf g root).flatMap fun e=>(0 :: g.map GNode.id).map fun v=>(e.data,v,e.virt)
theorem allHops_len (g:List GNode) (root:Nat):(allHops g root).length=(esOf g root).length*(g.length+1):=by
 unfold allHops
 induction esOf g root with
 | nil=>simp
 | cons e r ih=>rw[List.flatMap_cons,List.length_append,ih,List.length_cons,Nat.succ_mul];simp;omega
theorem idAt_mem {g:List GNode} {i:Nat}:idAt g i∈(0 :: g.map GNode.id):=by
 unfold idAt
 split
 ·rename_i n hn;exact List.mem_cons_of_mem _ (List.mem_map_of_mem (List.mem_of_getElem? hn))
 ·exact List.mem_cons_self ..
theorem HopOf.all {g:List GNode} {root:Nat} {c:List Int} {i:Nat} {h:Hop} (hh:HopOf g root c i h):h∈allHops g root:=by
 induction hh with
 | @first e he ht =>
  unfold allHops first_
  refine List.mem_flatMap.2 ⟨e,he,List.mem_map.2 ⟨_,?_,rfl⟩⟩
  split
  ·exact List.mem_cons_self ..
  ·exact idAt_mem
 | @on i e y hy hir he ht ih =>
  unfold on_
  split
  ·unfold allHops at ih ⊢
   obtain ⟨e',he',hy'⟩:=List.mem_flatMap.1 ih
   obtain ⟨v,hv,rfl⟩:=List.mem_map.1 hy'
   exact List.mem_flatMap.2 ⟨e',he',List.mem_map.2 ⟨_,idAt_mem,rfl⟩⟩
  ·exact ih
def sumH (H:List (List Hop)):Nat:=(H.map List.length).sum
theorem sumH_set {H:List (List Hop)} {t:Nat} {l:List Hop} (ht:t<H.length) (hl:(hAt H t).length<l.length):sumH H+1≤sumH (H.set t l)∧sumH (H.set t l)+(hAt H t).length=sumH H+l.length:=by
 induction H generalizing t with
 | nil=>simp at ht
 | cons y r ih =>
  cases t with
  | zero =>
   simp only[hAt,List.getD_cons_zero] at hl ⊢
   simp only[sumH,s'z,List.map_cons,List.sum_cons]
   omega
  | succ t =>
   have:=ih (t:=t) (by simpa using ht) (by simpa[hAt] using hl)
   simp only[hAt,List.getD_cons_succ] at this ⊢
   simp only[sumH,s's,List.map_cons,List.sum_cons] at this ⊢
   omega
theorem sumH_le {H:List (List Hop)} {U:Nat} (h:∀ i,(hAt H i).length≤U):sumH H≤H.length*U:=by
 induction H with
 | nil=>simp[sumH]
 | cons y r ih =>
  have h1:=h 0
  have h2:=ih fun i=>by have:=h (i+1);simpa[hAt] using this
  simp only[hAt,List.getD_cons_zero] at h1
  simp only[sumH,List.map_cons,List.sum_cons,List.length_cons,Nat.succ_mul] at h2 ⊢
  omega
theorem SInv.small {g:List GNode} {root:Nat} {c:List Int} {todo:List Nat} {H:List (List Hop)} {cur:Option (Nat × Nat)} (h:SInv g root c todo H cur) (i:Nat):(hAt H i).length≤(esOf g root).length*(g.length+1):=by
 rw[←allHops_len]
 exact nodup_le (h.sorted i).nodup fun x hx=>(h.sound i x hx).all
theorem SInv.sum {g:List GNode} {root:Nat} {c:List Int} {todo:List Nat} {H:List (List Hop)} {cur:Option (Nat × Nat)} (h:SInv g root c todo H cur):sumH H≤g.length*((esOf g root).length*(g.length+1)):=by
 have:=sumH_le h.small
 rw[h.len] at this;exact this
section
variable {g:List GNode} {root:Nat} {c:List Int}
theorem Costs.least (hc:Costs g root c) (hg:okG g) (hr:root<g.length) {i:Nat} {x:Int} (hw:Way g root i x) (hx:x<far):i<g.length∧at_ c i≤x:=by
 induction hw with
 | here=>exact ⟨hr,by rw[hc.root0];exact Int.le_refl _⟩
 | @on i' j x' e hw he hto hj ih =>
  have h0:=(esOf_cost hg he).1
  obtain ⟨h1,h2⟩:=ih (by omega)
  have h3:=hc.slack i' (by rw[hc.len];exact h1) (by omega) e he j hto (by rw[hc.len];exact hj)
  exact ⟨hj,by omega⟩
theorem Costs.tight (hc:Costs g root c) (hg:okG g) (hr:root<g.length) {i j:Nat} {x:Int} {e:GEdge} (hw:Way g root i x) (he:e∈esOf g i) (hto:e.dst=j) (hj:j<g.length) (hx:x+e.cost=at_ c j) (hf:at_ c j<far) :
  at_ c i=x:=by
 have h0:=(esOf_cost hg he).1
 obtain ⟨h1,h2⟩:=hc.least hg hr hw (by omega)
 have h3:=hc.slack i (by rw[hc.len];exact h1) (by omega) e he j hto (by rw[hc.len];exact hj)
 omega
theorem Costs.hop (hc:Costs g root c) (hg:okG g) (hr:root<g.length) {i:Nat} {x:Int} (hw:Way g root i x) (hx:x=at_ c i) (hf:x<far) (hir:i≠root):∃ h,HopOf g root c i h:=by
 induction hw with
 | here=>exact absurd rfl hir
 | @on i' j x' e hw he hto hj ih =>
  have h0:=(esOf_cost hg he).1
  have ht:=hc.tight hg hr hw he hto hj hx (by omega)
  have hjn:e.dst.toNat=j:=by omega
  have hT:Tight g root c i' e:=⟨by omega,by omega,by omega,by rw[hjn];omega,by rw[hjn];omega⟩
  by_cases h1:i'=root
  ·subst h1
   exact ⟨_,hjn ▸ HopOf.first he hT⟩
  ·obtain ⟨h,hh⟩:=ih ht.symm (by omega) h1
   exact ⟨_,hjn ▸ HopOf.on hh h1 he hT⟩
theorem Hops.some_ {H:List (List Hop)} (hH:Hops g root c H) (hc:Costs g root c) (hg:okG g) (hr:root<g.length) {i:Nat} (hi:i<g.length) (hf:at_ c i<far) (hir:i≠root):hAt H i≠[]:=by
 obtain ⟨h,hh⟩:=hc.hop hg hr (hc.way i (by rw[hc.len];exact hi) hf) rfl hf hir
 have:=(hH.mem i h).2 hh
 intro hn;rw[hn] at this;cases this
theorem HopOf.not_root {i:Nat} {h:Hop} (hh:HopOf g root c i h):i≠root∧at_ c i<far∧i<g.length:=by
 cases hh with
 | first he ht=>obtain ⟨h1,h2,h3,_,h5⟩:=ht;exact ⟨by omega,h5,by omega⟩
 | on _ _ he ht=>obtain ⟨h1,h2,h3,_,h5⟩:=ht;exact ⟨by omega,h5,by omega⟩
theorem Hops.root_ {H:List (List Hop)} (hH:Hops g root c H):hAt H root=[]:=by
 cases h:hAt H root with
 | nil=>rfl
 | cons x r=>exact absurd rfl ((hH.mem root x).1 (by rw[h];exact List.mem_cons_self ..)).not_root.1
theorem Way.lead {a b i:Nat} {x y:Int} (h:Way g a b x) (k:Way g b i y):Way g a i (x+y):=by
 induction k with
 | here=>rw[Int.add_zero];exact h
 | on _ he hto hj ih=>rw[←Int.add_assoc];exact Way.on ih he hto hj
end
end Go.Lo
