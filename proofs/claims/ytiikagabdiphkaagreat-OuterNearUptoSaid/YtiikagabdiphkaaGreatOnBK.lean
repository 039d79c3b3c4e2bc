/- Ways whose costs grow lead to the same routes, each dearer by so much: in plain words. No walk stands here. -/
import Derived.Test.YtiikagabdiphkaaGreatOnBI
import Derived.Test.YtiikagabdiphkaaGreatOnBJ
namespace Go.Proofs.YtiikagabdiphkaaGreat
open Go.RowKit Go.Lo
def growN (d:Int) (n:WayN):WayN:={ n with cost:=n.cost+d }
def growG (d:Int) (g:WayG):WayG:=(growN d g.1,g.2)
theorem cmp_add (a b d:Int):cmpI (a+d) (b+d)=cmpI a b:=by
 unfold cmpI
 simp only[Int.add_lt_add_iff_right]
theorem better_grow (d:Int) (a b:WayN):betterP (growN d a) (growN d b)=betterP a b:=by
 unfold betterP growN
 simp only[cmp_add]
theorem nearer_grow (d:Int) (a b:WayN):nearer (growN d a) (growN d b)=nearer a b:=by
 have h1:decide (a.cost+d<b.cost+d)=decide (a.cost<b.cost):=by simp only[Int.add_lt_add_iff_right]
 have h2:(a.cost+d==b.cost+d)=(a.cost==b.cost):=by
  by_cases h:a.cost=b.cost
  ·rw[h];simp only[beq_self_eq_true]
  ·have h':a.cost+d≠b.cost+d:=by omega
   rw[beq_eq_false_iff_ne.2 h,beq_eq_false_iff_ne.2 h']
 unfold nearer
 show (if insideP a != insideP b then insideP a else decide (a.cost+d<b.cost+d) || (a.cost+d==b.cost+d && decide (b.area<a.area)))=_
 rw[h1,h2]
theorem pick_grow (id d:Int):∀ (R:List WayG) (s s':WayG × Bool),s'.2=s.2→(s.2=true→s'.1=growG d s.1)→((R.map (growG d)).foldl (pickT id) s').2=(R.foldl (pickT id) s).2∧((R.foldl (pickT id) s).2=true→((R.map (growG d)).foldl (pickT id) s').1=growG d (R.foldl (pickT id) s).1):=by
 intro R
 induction R with
 | nil=>intro s s' h1 h2;exact ⟨h1,h2⟩
 | cons x R ih =>
  intro s s' h1 h2
  rw[List.map_cons,List.foldl_cons,List.foldl_cons]
  have hc:(countsR id (growG d x).1 && (!s'.2 || nearer (growG d x).1 s'.1.1))=(countsR id x.1 && (!s.2 || nearer x.1 s.1.1)):=by
   rw[h1]
   cases hs:s.2 with
   | false=>rfl
   | true =>
    rw[h2 hs]
    show (countsR id x.1 && (!true || nearer (growN d x.1) (growN d s.1.1)))=_
    rw[nearer_grow]
  refine ih _ _ ?_ ?_
  ·unfold pickT
   rw[hc]
   split
   ·rfl
   ·exact h1
  ·unfold pickT
   rw[hc]
   split
   ·intro _;rfl
   ·exact h2
theorem pickG_grow (id d:Int) (R:List WayG):(pickG id (R.map (growG d))).2=(pickG id R).2∧((pickG id R).2=true→(pickG id (R.map (growG d))).1=growG d (pickG id R).1):=
 pick_grow id d R _ _ rfl (fun h=>by cases h)
theorem routeB_cost {h:OHead} {b:BodyV} {nssa:Bool} {g:WayG × Bool} {n:WayN} (hc:g.1.1.cost≤1073741824) (e:routeB h b nssa (nearV g)=some n):n.cost≤1090519039∧(0≤g.1.1.cost→0≤b.metric→0≤n.cost):=by
 unfold routeB at e
 split at e
 ·cases e
 rename_i h0
 have hm:¬ 16777215≤b.metric:=fun hx=>h0 (by rw[decide_eq_true hx,Bool.true_or])
 split at e
 ·obtain rfl:=Option.some.inj e
  simp only[nearV]
  exact ⟨by omega,fun h _=>h⟩
 split at e
 ·obtain rfl:=Option.some.inj e
  simp only[nearV]
  exact ⟨by omega,fun h1 h2=>by omega⟩
 ·cases e
theorem routeB_grow (h:OHead) (b:BodyV) (nssa:Bool) (g g':WayG × Bool) (d:Int) (h1:g'.2=g.2) (h2:g.2=true→g'.1=growG d g.1) (hc:g.1.1.cost≤1073741824) (hd:0≤d) (hd2:d<65536):routeB h b nssa (nearV g')=(routeB h b nssa (nearV g)).map (growN d):=by
 obtain ⟨⟨n,hs⟩,f⟩:=g
 obtain ⟨⟨n',hs'⟩,f'⟩:=g'
 simp only at h1 h2 hc
 subst h1
 cases f' with
 | false=>simp[routeB,nearV]
 | true =>
  have h3:=h2 rfl
  have hn:n'=growN d n:=congrArg Prod.fst h3
  subst hn
  unfold routeB nearV
  simp only
  split
  ·rfl
  rename_i h0
  have hm:¬ 16777215≤b.metric:=fun hx=>h0 (by rw[decide_eq_true hx,Bool.true_or])
  split
  ·rfl
  ·have e1:n.cost+b.metric<4294967296:=by omega
   have e2:(growN d n).cost+b.metric<4294967296:=by show n.cost+d+b.metric<4294967296;omega
   rw[if_pos e1,if_pos e2]
   show some _=some _
   unfold growN
   simp only[Option.some.injEq,WayN.mk.injEq,true_and,and_true]
   omega
theorem routeB_none {h:OHead} {b:BodyV} {nssa:Bool} {g:WayG × Bool} (hg:g.2=false):routeB h b nssa (nearV g)=none:=by
 unfold routeB
 rw[if_pos (by simp[nearV,hg])]
theorem routeG_grow (s:StG) (self:Int) (nssa:Bool) (R:List WayG) (d:Int) (hR:∀ r∈R,r.1.cost≤1073741824) (hd:0≤d) (hd2:d<65536):routeG s self nssa (R.map (growG d))=(routeG s self nssa R).map (growG d):=by
 obtain ⟨h1,h2⟩:=pickG_grow s.1.adv d R
 have hc:(pickG s.1.adv R).1.1.cost≤1073741824:=by
  rcases pickG_mem s.1.adv R with h | h
  ·exact hR _ h
  ·rw[h];exact (by decide:(0:Int)≤1073741824)
 unfold routeG
 generalize (if nssa=true then 7 else 5)=t
 split
 ·rw[routeB_grow s.1 _ nssa (pickG s.1.adv R) (pickG s.1.adv (R.map (growG d))) d h1 h2 hc hd hd2]
  cases hf:(pickG s.1.adv R).2 with
  | false=>rw[routeB_none hf];rfl
  | true =>
   rw[h2 hf,Option.map_map,Option.map_map]
   rfl
 ·rfl
theorem routesG_grow (S:List StG) (self:Int) (nssa:Bool) (R:List WayG) (d:Int) (hR:∀ r∈R,r.1.cost≤1073741824) (hd:0≤d) (hd2:d<65536):routesG S self nssa (R.map (growG d))=(routesG S self nssa R).map (growG d):=by
 unfold routesG
 rw[List.map_filterMap]
 congr 1
 funext s
 exact routeG_grow s self nssa R d hR hd hd2
theorem routesG_nil (S:List StG) (self:Int) (nssa:Bool):routesG S self nssa []=[]:=by
 unfold routesG
 rw[List.filterMap_eq_nil_iff]
 intro s _
 unfold routeG
 generalize (if nssa=true then 7 else 5)=t
 split
 ·rw[routeB_none rfl];rfl
 ·rfl
theorem routesG_cost (S:List StG) (self:Int) (nssa:Bool) (R:List WayG) (hR:∀ r∈R,r.1.cost≤1073741824) (hR0:∀ r∈R,0≤r.1.cost):∀ g∈routesG S self nssa R,0≤g.1.cost∧g.1.cost≤1090519039:=by
 intro g hg
 obtain ⟨s,-,hs⟩:=List.mem_filterMap.1 hg
 have hc:(pickG s.1.adv R).1.1.cost≤1073741824:=by
  rcases pickG_mem s.1.adv R with h | h
  ·exact hR _ h
  ·rw[h];exact (by decide:(0:Int)≤1073741824)
 have hc0:0≤(pickG s.1.adv R).1.1.cost:=by
  rcases pickG_mem s.1.adv R with h | h
  ·exact hR0 _ h
  ·rw[h];exact Int.le_refl _
 unfold routeG at hs
 generalize (if nssa=true then 7 else 5)=t at hs
 split at hs
 ·cases hb:routeB s.1 (decQ t s.2).1 nssa (nearV (pickG s.1.adv R)) with
  | none=>rw[hb] at hs;cases hs
  | some n =>
   rw[hb] at hs
   obtain rfl:=Option.some.inj hs
   have h1:=routeB_cost hc hb
   exact ⟨h1.2 hc0 (decQ_metric t s.2).1,h1.1⟩
 ·cases hs
theorem key_grow (d:Int) (g:WayG):keyO (growG d g).1=keyO g.1:=rfl
theorem comb_grow (d:Int) (x w:WayG):comb (growG d x) (growG d w)=growG d (comb x w):=by
 unfold comb
 show (if betterP (growN d w.1) (growN d x.1)<0 then growG d w else if betterP (growN d w.1) (growN d x.1)=0 then ((growN d x.1,puts (puts [] x.2) w.2):WayG) else growG d x)=_
 rw[better_grow]
 split
 ·rfl
 ·split
  ·rfl
  ·rfl
theorem insP_grow (d:Int) (w:WayG):∀ l:List WayG,insP (l.map (growG d)) (growG d w)=(insP l w).map (growG d):=by
 intro l
 induction l with
 | nil=>rfl
 | cons x r ih =>
  rw[List.map_cons]
  cases h:ltK2 (keyO x.1) (keyO w.1) with
  | true =>
   rw[insP_lt (x:=growG d x) (w:=growG d w) (by rw[key_grow,key_grow];exact h),insP_lt h,ih,List.map_cons]
  | false =>
   rw[insP_ge (x:=growG d x) (w:=growG d w) (by rw[key_grow,key_grow];exact h),insP_ge h,key_grow,key_grow]
   split
   ·rw[comb_grow,List.map_cons]
   ·rw[List.map_cons,List.map_cons]
theorem insAll_grow (d:Int) (L:List WayG):insAll (L.map (growG d))=(insAll L).map (growG d):=by
 have:∀ (L s:List WayG),(L.map (growG d)).foldl insP (s.map (growG d))=(L.foldl insP s).map (growG d):=by
  intro L
  induction L with
  | nil=>intro s;rfl
  | cons x L ih =>
   intro s
   rw[List.map_cons,List.foldl_cons,List.foldl_cons,insP_grow,ih]
 exact this L []
theorem insP_all {P:WayN→Prop} {w:WayG} (hw:P w.1):∀ l:List WayG,(∀ x∈l,P x.1)→∀ x∈insP l w,P x.1:=by
 intro l
 induction l with
 | nil =>
  intro _ x hx
  have hx:x∈[w]:=hx
  rw[List.mem_singleton.1 hx]
  exact hw
 | cons y r ih =>
  intro hl x hx
  cases h:ltK2 (keyO y.1) (keyO w.1) with
  | true =>
   rw[insP_lt h] at hx
   rcases List.mem_cons.1 hx with rfl | hx
   ·exact hl _ List.mem_cons_self
   ·exact ih (fun z hz=>hl z (List.mem_cons_of_mem _ hz)) x hx
  | false =>
   rw[insP_ge h] at hx
   split at hx
   ·rcases List.mem_cons.1 hx with rfl | hx
    ·unfold comb
     split
     ·exact hw
     ·split
      ·exact hl y List.mem_cons_self
      ·exact hl y List.mem_cons_self
    ·exact hl x (List.mem_cons_of_mem _ hx)
   ·rcases List.mem_cons.1 hx with rfl | hx
    ·exact hw
    ·exact hl x hx
theorem insAll_all {P:WayN→Prop} {L:List WayG} (hL:∀ x∈L,P x.1):∀ x∈insAll L,P x.1:=by
 have:∀ (L s:List WayG),(∀ x∈L,P x.1)→(∀ x∈s,P x.1)→∀ x∈L.foldl insP s,P x.1:=by
  intro L
  induction L with
  | nil=>intro s _ hs;exact hs
  | cons y L ih =>
   intro s hL hs
   rw[List.foldl_cons]
   exact ih _ (fun z hz=>hL z (List.mem_cons_of_mem _ hz)) (insP_all (hL _ List.mem_cons_self) s hs)
 exact this L [] hL (fun x hx=>by cases hx)
theorem better_dearer (d:Int) (hd:0≤d) (n:WayN):betterP n (growN d n)≤0:=by
 unfold betterP growN
 have h1:cmpI n.kind n.kind=0:=by unfold cmpI;simp
 have h2:cmpI n.far n.far=0:=by unfold cmpI;simp
 have h3:cmpI n.cost (n.cost+d)≤0:=by
  unfold cmpI
  split
  ·decide
  ·rw[if_neg (by omega)];exact Int.le_refl _
 have h0:(if cmpI n.cost (n.cost+d)=0 then 0 else cmpI n.cost (n.cost+d))≤0:=by
  split
  ·exact Int.le_refl _
  ·exact h3
 simp only[h1,h2,ite_self,orI,if_true]
 exact h0
theorem routes_are {L:List WayG} {xs:List WayY} (hp:(gOf xs).Perm (mergeP L)) (hs:∀ i j:Nat,i<j→∀ (hj:j<xs.length) (hi:i<xs.length),ltO xs[j].1 xs[i].1=false):gOf xs=insAll L:=merged_is hp (rises_of hs)
end Go.Proofs.YtiikagabdiphkaaGreat
