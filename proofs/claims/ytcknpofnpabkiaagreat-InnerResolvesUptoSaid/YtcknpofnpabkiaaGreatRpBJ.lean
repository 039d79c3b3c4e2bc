/- Graphs out of link states, in plain words. No walk stands here. -/
import Derived.Test.YtcknpofnpabkiaaGreatRpAZ
import Derived.Test.YtcknpofnpabkiaaGreatRpBI
import Derived.Test.YtcknpofnpabkiaaGreatRpAA
namespace Go.Proofs.YtcknpofnpabkiaaGreat
open Go.RowKit Go.Lo
abbrev KN:=Bool × Int
def keyN (s:StG):KN:=(s.1.type==2,s.1.id)
def isG (s:StG):Bool:=countsP s.1 s.2
def ltKN (a b:KN):Bool:=(!a.1 && b.1) || (a.1==b.1 && decide (a.2<b.2))
theorem ltKN_iff (a b:KN):ltKN a b=true↔((a.1=false∧b.1=true)∨(a.1=b.1∧a.2<b.2)):=by
 unfold ltKN;simp
theorem ltKN_irr (a:KN):ltKN a a=false:=by
 cases h:ltKN a a with
 | false=>rfl
 | true =>
  rcases (ltKN_iff a a).1 h with ⟨h1,h2⟩ | ⟨-,h1⟩
  ·rw[h1] at h2;cases h2
  ·omega
theorem ltKN_trans {a b c:KN} (h1:ltKN a b=true) (h2:ltKN b c=true):ltKN a c=true:=by
 rw[ltKN_iff] at *
 rcases h1 with ⟨x1,x2⟩ | ⟨x1,x2⟩ <;> rcases h2 with ⟨y1,y2⟩ | ⟨y1,y2⟩
 ·rw[x2] at y1;cases y1
 ·exact .inl ⟨x1,by rw[←y1];exact x2⟩
 ·exact .inl ⟨by rw[x1];exact y1,y2⟩
 ·exact .inr ⟨x1.trans y1,by omega⟩
theorem ltKN_of {a b:KN} (h:ltKN a b=false) (hne:a≠b):ltKN b a=true:=by
 have h1:¬ _:=fun e=>by rw[(ltKN_iff a b).2 e] at h;cases h
 rw[ltKN_iff]
 obtain ⟨a1,a2⟩:=a
 obtain ⟨b1,b2⟩:=b
 simp only at h1 ⊢
 cases a1 <;> cases b1
 ·refine .inr ⟨rfl,?_⟩
  have:¬ a2<b2:=fun e=>h1 (.inr ⟨rfl,e⟩)
  have:a2≠b2:=fun e=>hne (by rw[e])
  omega
 ·exact absurd (.inl ⟨rfl,rfl⟩) h1
 ·exact .inl ⟨rfl,rfl⟩
 ·refine .inr ⟨rfl,?_⟩
  have:¬ a2<b2:=fun e=>h1 (.inr ⟨rfl,e⟩)
  have:a2≠b2:=fun e=>hne (by rw[e])
  omega
def stepN (o:Option StG) (s:StG):StG:=match o with | none=>s | some x=>if x.1.adv<s.1.adv then s else x
def bestN (S:List StG):KN→Option StG:=S.foldl (fun f s k=>if isG s=true∧k=keyN s then some (stepN (f k) s) else f k) (fun _=>none)
theorem bestN_snoc (S:List StG) (s:StG) (k:KN):bestN (S++[s]) k=if isG s=true∧k=keyN s then some (stepN (bestN S k) s) else bestN S k:=by
 unfold bestN
 rw[List.foldl_append]
 rfl
structure OnlyN (S:List StG) (i:Nat) (k:KN) (s:StG):Prop where
 at_:S[i]?=some s
 isg:isG s=true
 key:keyN s=k
 top:∀ j x,S[j]?=some x→isG x=true→keyN x=k→x.1.adv<s.1.adv∨(x.1.adv=s.1.adv∧i≤j)
theorem OnlyN.uniq {S:List StG} {i j:Nat} {k:KN} {s x:StG} (h:OnlyN S i k s) (h2:OnlyN S j k x):s=x:=by
 have a:=h.top j x h2.at_ h2.isg h2.key
 have b:=h2.top i s h.at_ h.isg h.key
 have e:i=j:=by omega
 subst e
 exact o'i (h.at_.symm.trans h2.at_)
theorem best_only (S:List StG):(∀ k s,bestN S k=some s→∃ i,OnlyN S i k s)∧(∀ k,bestN S k=none→∀ x∈S,isG x=true→keyN x≠k):=by
 obtain ⟨n,hn⟩:∃ n,S.length=n:=⟨_,rfl⟩
 induction n generalizing S with
 | zero =>
  rw[List.length_eq_zero_iff.1 hn]
  exact ⟨fun k s h=>(by cases h),fun k _ x hx=>(by cases hx)⟩
 | succ n ih =>
  rcases List.eq_nil_or_concat S with rfl | ⟨T,s,rfl⟩
  ·exact ⟨fun k s h=>(by cases h),fun k _ x hx=>(by cases hx)⟩
  ·rw[List.concat_eq_append] at hn ⊢
   obtain ⟨ih1,ih2⟩:=ih T (by simpa using hn)
   have old:∀ {j x},T[j]?=some x→(T++[s])[j]?=some x:=fun {j x} h=>by
    rw[List.getElem?_append_left (List.getElem?_eq_some_iff.1 h).1];exact h
   have cas:∀ {j x},(T++[s])[j]?=some x→(T[j]?=some x)∨(j=T.length∧x=s):=fun {j x} h=>by
    by_cases hj:j<T.length
    ·rw[List.getElem?_append_left hj] at h;exact .inl h
    ·rw[List.getElem?_append_right (by omega)] at h
     have h0:j-T.length=0:=by
      cases e:j-T.length with
      | zero=>rfl
      | succ m=>rw[e] at h;cases h
     rw[h0] at h
     exact .inr ⟨by omega,(o'i h).symm⟩
   have new:(T++[s])[T.length]?=some s:=by rw[List.getElem?_append_right (n'r _),Nat.sub_self];rfl
   refine ⟨fun k z h => ?_,fun k h x hx hg hk => ?_⟩
   ·rw[bestN_snoc] at h
    by_cases hc:isG s=true∧k=keyN s
    ·rw[if_pos hc,o'j] at h
     obtain ⟨hg,rfl⟩:=hc
     cases hb:bestN T (keyN s) with
     | none =>
      rw[hb] at h
      subst h
      refine ⟨T.length,new,hg,rfl,fun j x hj hx hkx => ?_⟩
      rcases cas hj with h1 | ⟨rfl,rfl⟩
      ·exact absurd hkx (ih2 _ hb x (List.mem_of_getElem? h1) hx)
      ·exact .inr ⟨rfl,n'r _⟩
     | some y =>
      rw[hb] at h
      obtain ⟨i,h1,h2,h3,h4⟩:=ih1 _ _ hb
      have hi:=(List.getElem?_eq_some_iff.1 h1).1
      by_cases hlt:y.1.adv<s.1.adv
      ·rw[show stepN (some y) s=s from if_pos hlt] at h
       subst h
       refine ⟨T.length,new,hg,rfl,fun j x hj hx hkx => ?_⟩
       rcases cas hj with h5 | ⟨rfl,rfl⟩
       ·have:=h4 j x h5 hx hkx
        exact .inl (by omega)
       ·exact .inr ⟨rfl,n'r _⟩
      ·rw[show stepN (some y) s=y from if_neg hlt] at h
       subst h
       refine ⟨i,old h1,h2,h3,fun j x hj hx hkx => ?_⟩
       rcases cas hj with h5 | ⟨rfl,rfl⟩
       ·exact h4 j x h5 hx hkx
       ·by_cases he:x.1.adv=y.1.adv
        ·exact .inr ⟨he,by omega⟩
        ·exact .inl (by omega)
    ·rw[if_neg hc] at h
     obtain ⟨i,h1,h2,h3,h4⟩:=ih1 _ _ h
     refine ⟨i,old h1,h2,h3,fun j x hj hx hkx => ?_⟩
     rcases cas hj with h5 | ⟨rfl,rfl⟩
     ·exact h4 j x h5 hx hkx
     ·exact absurd ⟨hx,hkx.symm⟩ hc
   ·rw[bestN_snoc] at h
    by_cases hc:isG s=true∧k=keyN s
    ·rw[if_pos hc] at h;cases h
    ·rw[if_neg hc] at h
     rcases List.mem_append.1 hx with h5 | h5
     ·exact ih2 _ h x h5 hg hk
     ·rw[List.mem_singleton.1 h5] at hg hk
      exact hc ⟨hg,hk.symm⟩
theorem best_iff (S:List StG) (k:KN) (s:StG):bestN S k=some s↔∃ i,OnlyN S i k s:=by
 refine ⟨(best_only S).1 k s,fun ⟨i,h⟩ => ?_⟩
 cases hb:bestN S k with
 | none=>exact absurd h.key ((best_only S).2 k hb s (List.mem_of_getElem? h.at_) h.isg)
 | some x =>
  obtain ⟨j,h2⟩:=(best_only S).1 k x hb
  rw[h.uniq h2]
def RiseN (L:List StG):Prop:=L.Pairwise fun a b=>ltKN (keyN a) (keyN b)=true
structure NodesN (S L:List StG):Prop where
 rise:RiseN L
 mem:∀ s,s∈L↔bestN S (keyN s)=some s
theorem rise_ext {L M:List StG} (hL:RiseN L) (hM:RiseN M) (h:∀ s,s∈L↔s∈M):L=M:=by
 induction L generalizing M with
 | nil =>
  cases M with
  | nil=>rfl
  | cons y M=>exact absurd ((h y).2 (by simp)) (by simp)
 | cons x L ih =>
  cases M with
  | nil=>exact absurd ((h x).1 (by simp)) (by simp)
  | cons y M =>
   obtain ⟨hx,kL⟩:=List.pairwise_cons.1 hL
   obtain ⟨hy,kM⟩:=List.pairwise_cons.1 hM
   have e:x=y:=by
    rcases List.mem_cons.1 ((h x).1 (by simp)) with e | e
    ·exact e
    ·rcases List.mem_cons.1 ((h y).2 (by simp)) with e2 | e2
     ·exact e2.symm
     ·have:=ltKN_trans (hy x e) (hx y e2)
      rw[ltKN_irr] at this;cases this
   subst e
   refine congrArg _ (ih kL kM fun s=>⟨fun hs => ?_,fun hs => ?_⟩)
   ·rcases List.mem_cons.1 ((h s).1 (List.mem_cons_of_mem _ hs)) with e | e
    ·have:=hx s hs
     rw[e,ltKN_irr] at this;cases this
    ·exact e
   ·rcases List.mem_cons.1 ((h s).2 (List.mem_cons_of_mem _ hs)) with e | e
    ·have:=hy s hs
     rw[e,ltKN_irr] at this;cases this
    ·exact e
theorem NodesN.uniq {S L M:List StG} (h:NodesN S L) (h2:NodesN S M):L=M:=rise_ext h.rise h2.rise fun s=>(h.mem s).trans (h2.mem s).symm
def insN:List StG→StG→List StG
 | [],s=>[s]
 | x :: r,s=>if ltKN (keyN x) (keyN s) then x :: insN r s else if keyN x=keyN s then stepN (some x) s :: r else s :: x :: r
def nodesG (S:List StG):List StG:=S.foldl (fun L s=>if isG s then insN L s else L) []
theorem nodesG_snoc (S:List StG) (s:StG):nodesG (S++[s])=if isG s then insN (nodesG S) s else nodesG S:=by
 unfold nodesG
 rw[List.foldl_append]
 rfl
theorem stepN_key {x s:StG} (h:keyN x=keyN s):keyN (stepN (some x) s)=keyN s:=by
 unfold stepN
 simp only
 split
 ·rfl
 ·exact h
theorem ins_key {L:List StG} {s z:StG} (h:z∈insN L s):keyN z=keyN s∨∃ x∈L,keyN z=keyN x:=by
 induction L with
 | nil=>exact .inl (by rw[List.mem_singleton.1 h])
 | cons x r ih =>
  unfold insN at h
  split at h
  ·rcases List.mem_cons.1 h with h | h
   ·exact .inr ⟨x,by simp,by rw[h]⟩
   ·rcases ih h with h | ⟨y,h1,h2⟩
    ·exact .inl h
    ·exact .inr ⟨y,by simp[h1],h2⟩
  ·split at h
   ·rename_i he
    rcases List.mem_cons.1 h with h | h
    ·exact .inl (by rw[h,stepN_key he])
    ·exact .inr ⟨z,by simp[h],rfl⟩
   ·rcases List.mem_cons.1 h with h | h
    ·exact .inl (by rw[h])
    ·exact .inr ⟨z,h,rfl⟩
theorem ins_rise {L:List StG} (h:RiseN L) (s:StG):RiseN (insN L s):=by
 induction L with
 | nil=>exact List.pairwise_singleton _ _
 | cons x r ih =>
  obtain ⟨hx,hr⟩:=List.pairwise_cons.1 h
  unfold insN
  split
  ·rename_i hl
   refine List.pairwise_cons.2 ⟨fun z hz => ?_,ih hr⟩
   rcases ins_key hz with e | ⟨y,h1,e⟩
   ·rw[e];exact hl
   ·rw[e];exact hx y h1
  ·split
   ·rename_i he
    refine List.pairwise_cons.2 ⟨fun z hz => ?_,hr⟩
    rw[stepN_key he,←he];exact hx z hz
   ·rename_i hl hne
    refine List.pairwise_cons.2 ⟨fun z hz => ?_,h⟩
    have h1:=ltKN_of (by simpa using hl) hne
    rcases List.mem_cons.1 hz with e | e
    ·rw[e];exact h1
    ·exact ltKN_trans h1 (hx z e)
def lookN (L:List StG) (k:KN):Option StG:=L.find? fun s=>keyN s==k
theorem look_ins {L:List StG} (h:RiseN L) (s:StG) (k:KN):lookN (insN L s) k=if k=keyN s then some (stepN (lookN L k) s) else lookN L k:=by
 induction L with
 | nil =>
  unfold lookN insN
  by_cases hk:k=keyN s
  ·rw[if_pos hk];subst hk;simp[stepN]
  ·rw[if_neg hk]
   have:(keyN s==k)=false:=by simpa using fun e=>hk e.symm
   simp[this]
 | cons x r ih =>
  obtain ⟨hx,hr⟩:=List.pairwise_cons.1 h
  have ih:=ih hr
  unfold lookN at ih ⊢
  unfold insN
  split
  ·rename_i hl
   rw[List.find?_cons,List.find?_cons]
   cases hxk:(keyN x==k) with
   | true =>
    have e:keyN x=k:=by simpa using hxk
    have:k≠keyN s:=fun e2=>by rw[e,e2,ltKN_irr] at hl;cases hl
    simp only
    rw[if_neg this]
   | false=>exact ih
  ·split
   ·rename_i he
    rw[List.find?_cons,List.find?_cons]
    rw[stepN_key he,←he]
    cases hxk:(keyN x==k) with
    | true =>
     have e:keyN x=k:=by simpa using hxk
     simp only
     rw[if_pos e.symm]
    | false =>
     have e:keyN x≠k:=by simpa using hxk
     simp only
     rw[if_neg fun e2=>e e2.symm]
   ·rename_i hl hne
    have h1:=ltKN_of (by simpa using hl) hne
    rw[List.find?_cons]
    by_cases hk:k=keyN s
    ·subst hk
     rw[if_pos rfl]
     have hn:(x :: r).find? (fun z=>keyN z==keyN s)=none:=by
      rw[List.find?_eq_none]
      intro z hz e
      have e:keyN z=keyN s:=by simpa using e
      rcases List.mem_cons.1 hz with e2 | e2
      ·exact hne (by rw[←e2];exact e)
      ·have:=ltKN_trans h1 (hx z e2)
       rw[e,ltKN_irr] at this;cases this
     rw[hn]
     simp[stepN]
    ·rw[if_neg hk]
     have:(keyN s==k)=false:=by simpa using fun e=>hk e.symm
     simp only[this]
theorem nodesG_look (S:List StG):RiseN (nodesG S)∧∀ k,lookN (nodesG S) k=bestN S k:=by
 obtain ⟨n,hn⟩:∃ n,S.length=n:=⟨_,rfl⟩
 induction n generalizing S with
 | zero =>
  rw[List.length_eq_zero_iff.1 hn]
  exact ⟨List.Pairwise.nil,fun k=>rfl⟩
 | succ n ih =>
  rcases List.eq_nil_or_concat S with rfl | ⟨T,s,rfl⟩
  ·exact ⟨List.Pairwise.nil,fun k=>rfl⟩
  ·rw[List.concat_eq_append] at hn ⊢
   obtain ⟨h1,h2⟩:=ih T (by simpa using hn)
   rw[nodesG_snoc]
   cases hg:isG s with
   | true =>
    simp only[if_true]
    refine ⟨ins_rise h1 s,fun k => ?_⟩
    rw[look_ins h1,bestN_snoc,h2,hg]
    simp
   | false =>
    refine ⟨h1,fun k => ?_⟩
    rw[bestN_snoc,hg]
    simpa using h2 k
theorem look_iff {L:List StG} (h:RiseN L) (s:StG):s∈L↔lookN L (keyN s)=some s:=by
 unfold lookN
 induction L with
 | nil=>simp
 | cons x r ih =>
  obtain ⟨hx,hr⟩:=List.pairwise_cons.1 h
  rw[List.find?_cons]
  cases hxk:(keyN x==keyN s) with
  | true =>
   have e:keyN x=keyN s:=by simpa using hxk
   simp only[o'j,List.mem_cons]
   refine ⟨fun hs => ?_,fun hs=>.inl hs.symm⟩
   rcases hs with hs | hs
   ·exact hs.symm
   ·have:=hx s hs
    rw[e,ltKN_irr] at this;cases this
  | false =>
   have e:keyN x≠keyN s:=by simpa using hxk
   simp only[List.mem_cons]
   rw[←ih hr]
   exact ⟨fun hs=>hs.resolve_left fun e2=>e (by rw[e2]),.inr⟩
theorem nodesG_ok (S:List StG):NodesN S (nodesG S):=by
 obtain ⟨h1,h2⟩:=nodesG_look S
 exact ⟨h1,fun s=>by rw[look_iff h1,h2]⟩
theorem nodesG_is {S L:List StG} (h:NodesN S L):L=nodesG S:=h.uniq (nodesG_ok S)
structure NodG where
 network:Bool
 id:Int
 netA:Int
 netB:Int
 flags:Int
 edges:List GEdge
 stubs:List (Int × Int × Int)
def bodyG (s:StG):BodyV:=(decQ s.1.type.toNat s.2).1
def bodyOf (L:List StG) (j:Nat):BodyV:=match L[j]? with | some s=>bodyG s | none=>zeroB
def atN (L:List StG) (k:KN):Option Nat:=L.findIdx? fun s=>keyN s==k
def linksP (b:BodyV) (t id:Int):Bool:=b.links.any fun x=>x.type==t && x.id==id
def hasP (b:BodyV) (id:Int):Bool:=b.routers.any (·==id)
def stubP (x:LinkV):Option (Int × Int × Int):=if x.type=3∧bitsB x.data=true then some (bits BinOp.and IntKind.u32 x.id x.data,bitsV x.data,x.cost) else none
def backP (L:List StG) (id:Int) (x:LinkV) (tj:Nat):Bool:=if x.type=2 then hasP (bodyOf L tj) id else linksP (bodyOf L tj) x.type id
def edgeP (L:List StG) (i:Nat) (id:Int) (x:LinkV):Option GEdge:=
 if x.type=3 then none else
 match atN L (x.type==2,x.id) with
 | none=>none
 | some tj=>if tj=i then none else if backP L id x tj=true then some ⟨tj,x.cost,x.data,x.type==4⟩ else none
def edgeN (L:List StG) (id r:Int):Option GEdge:=
 match atN L (false,r) with
 | none=>none
 | some tj=>if linksP (bodyOf L tj) 2 id=true then some ⟨tj,0,0,false⟩ else none
def nodeG (L:List StG) (i:Nat) (s:StG):NodG:=
 if s.1.type=2 then ⟨true,s.1.id,bits BinOp.and IntKind.u32 s.1.id (bodyG s).mask,bitsV (bodyG s).mask,0,(bodyG s).routers.filterMap (edgeN L s.1.id),[]⟩
 else ⟨false,s.1.id,0,0,(bodyG s).flags,(bodyG s).links.filterMap (edgeP L i s.1.id),(bodyG s).links.filterMap stubP⟩
def graphG (L:List StG):List NodG:=L.mapIdx (nodeG L)
theorem atN_some {L:List StG} {k:KN} {j:Nat} (h:atN L k=some j):∃ hj:j<L.length,keyN L[j]=k:=by
 obtain ⟨h1,h2,-⟩:=List.findIdx?_eq_some_iff_getElem.1 h
 exact ⟨h1,by simpa using h2⟩
set_option maxRecDepth 100000
def idxI (o:Option Nat):Int:=match o with | some k=>k | none => -1
theorem idxI_ge {α:Type} (l:List α) (p:α→Bool):decide (0≤idxI (l.findIdx? p))=l.any p:=by
 cases h:l.findIdx? p with
 | none =>
  have h1:=List.findIdx?_eq_none_iff.1 h
  have h2:l.any p=false:=by
   rw[List.any_eq_false]
   intro x hx
   rw[h1 x hx]
   simp
  rw[h2]
  rfl
 | some k =>
  obtain ⟨h1,h2,-⟩:=List.findIdx?_eq_some_iff_getElem.1 h
  have h3:l.any p=true:=List.any_eq_true.2 ⟨l[k],g'm h1,h2⟩
  rw[h3]
  exact d't (by show (0:Int)≤(k:Int);omega)
set_option maxHeartbeats 1000000 in
theorem idxLink_any {α:Type} (enc:α→List Value) (hlen:∀ x,(enc x).length=4) (p:α→Bool) (f:FuncId) (c1 c2:Value) (l:List α) (lv:Value) (B:Nat) (w:World) (hl:Sl w B 4 lv l.length (l.flatMap enc)) (hB:B≤w.heap.size) (hn:l.length≤1000000)
  (eF:∀ args w,(callFunc f args).run Tryz.prog w=.ok (.enter f args) w) (HC:∀ x∈l,∀ W,Below w.heap.size w W→Calls Tryz.prog f #[.agg (enc x).toArray,c1,c2] W fun e W'=>e=.returned (.bool (p x))∧Below W.heap.size W W') :
  Calls Tryz.prog 161 #[lv,.func (.func f) #[] #[c1,c2]] w fun e w'=>e=.returned (.int .i64 (idxI (l.findIdx? p)))∧Below w.heap.size w w':=by
 obtain ⟨r,hr⟩:∃ r,r=idxI (l.findIdx? p):=⟨_,rfl⟩
 rw[←hr]
 have hl0:=hl
 obtain ⟨-,A,c,rfl,-⟩:=hl
 replace hr:=h'd hr
 go_enter Tryz.func161,Tryz.ntmps161
 go_wp2_with fail
 go_loopg [8] l.length (fun m v wr=>∃ k:Nat,k≤l.length∧m=l.length-k∧v=.int .i64 k∧(∀ j (h:j<l.length),j<k→p l[j]=false)∧Below w.heap.size w wr)
 case atStart=>exact ⟨0,Nat.zero_le _,rfl,rfl,fun _ _ h=>absurd h (Nat.not_lt_zero _),b'r _ _⟩
 case round =>
  obtain ⟨k,hk,rfl,rfl,hall,hBr⟩:=hrel
  obtain ⟨w1,rfl⟩:∃ x:World,x=wr:=⟨_,rfl⟩
  by_cases hkl:k<l.length
  ·obtain ⟨b,off,rfl,hb,hrow⟩:=Sl.row hlen (hl0.below (hBr.mono hB)) hkl
   have ik:(k:Int)<(l.length:Int):=by omega
   have C:=HC l[k] (g'm hkl) w1 hBr
   have hrg:w1.rangeAt b (off+k*4) (enc l[k]):=hrow
   have hsz:(enc l[k]).length=4:=hlen _
   cases hq:p l[k] with
   | true =>
    have hrr:r=k:=by
     rw[hr.out]
     have:l.findIdx? p=some k:=List.findIdx?_eq_some_iff_getElem.2 ⟨hkl,hq,fun j hj=>by rw[hall j (by omega) hj];simp⟩
     rw[this]
     rfl
    rw[hq] at C
    subst hrr
    replace C:=h'd C
    replace hall:=h'd hall
    replace hsz:=h'd hsz
    clear hr HC
    go_wp2_with (first
     | (refine wpList_load_mid rfl 99 (.tmp 14) rfl b (off+k*4) rfl (enc l[k]) _ hrg Tryz.underlying99 rfl (by rw[hsz.out];kernel_rfl) ?_)
     | (refine c'm C.out ?_;rintro e w2 ⟨rfl,hB2⟩))
    go_ret
    exact ⟨rfl,below_call hBr hB2 (n'r _)⟩
   | false =>
    rw[hq] at C
    have hall2:∀ j (h:j<l.length),j<k+1→p l[j]=false:=fun j h hj=>by
     by_cases hjk:j=k
     ·subst hjk;exact hq
     ·exact hall j h (by omega)
    replace C:=h'd C
    replace hall2:=h'd hall2
    replace hsz:=h'd hsz
    clear hall HC
    go_wp2_with (first
     | (refine wpList_load_mid rfl 99 (.tmp 14) rfl b (off+k*4) rfl (enc l[k]) _ hrg Tryz.underlying99 rfl (by rw[hsz.out];kernel_rfl) ?_)
     | (refine c'm C.out ?_;rintro e w2 ⟨rfl,hB2⟩))
    go_roundg (l.length-(k+1))
    case measure=>omega
    case rel=>exact ⟨k+1,by omega,rfl,by go_num,hall2.out,below_call hBr hB2 (n'r _)⟩
  ·obtain rfl:k=l.length:=by omega
   have hrr:r = -1:=by
    rw[hr.out]
    have:l.findIdx? p=none:=List.findIdx?_eq_none_iff.2 fun x hx=>by
     obtain ⟨j,hj,rfl⟩:=List.getElem_of_mem hx
     exact hall j hj hj
    rw[this]
    rfl
   subst hrr
   clear HC
   go_wp2_with fail
   go_ret
   exact ⟨rfl,hBr⟩
set_option maxHeartbeats 1000000 in
theorem idxNode_any {α:Type} (enc:α→List Value) (hlen:∀ x,(enc x).length=7) (p:α→Bool) (f:FuncId) (c1 c2:Value) (l:List α) (lv:Value) (B:Nat) (w:World) (hl:Sl w B 7 lv l.length (l.flatMap enc)) (hB:B≤w.heap.size) (hn:l.length≤1000000)
  (eF:∀ args w,(callFunc f args).run Tryz.prog w=.ok (.enter f args) w) (HC:∀ x∈l,∀ W,Below w.heap.size w W→Calls Tryz.prog f #[.agg (enc x).toArray,c1,c2] W fun e W'=>e=.returned (.bool (p x))∧Below W.heap.size W W') :
  Calls Tryz.prog 46 #[lv,.func (.func f) #[] #[c1,c2]] w fun e w'=>e=.returned (.int .i64 (idxI (l.findIdx? p)))∧Below w.heap.size w w':=by
 obtain ⟨r,hr⟩:∃ r,r=idxI (l.findIdx? p):=⟨_,rfl⟩
 rw[←hr]
 have hl0:=hl
 obtain ⟨-,A,c,rfl,-⟩:=hl
 replace hr:=h'd hr
 go_enter Tryz.func46,Tryz.ntmps46
 go_wp2_with fail
 go_loopg [8] l.length (fun m v wr=>∃ k:Nat,k≤l.length∧m=l.length-k∧v=.int .i64 k∧(∀ j (h:j<l.length),j<k→p l[j]=false)∧Below w.heap.size w wr)
 case atStart=>exact ⟨0,Nat.zero_le _,rfl,rfl,fun _ _ h=>absurd h (Nat.not_lt_zero _),b'r _ _⟩
 case round =>
  obtain ⟨k,hk,rfl,rfl,hall,hBr⟩:=hrel
  obtain ⟨w1,rfl⟩:∃ x:World,x=wr:=⟨_,rfl⟩
  by_cases hkl:k<l.length
  ·obtain ⟨b,off,rfl,hb,hrow⟩:=Sl.row hlen (hl0.below (hBr.mono hB)) hkl
   have ik:(k:Int)<(l.length:Int):=by omega
   have C:=HC l[k] (g'm hkl) w1 hBr
   have hrg:w1.rangeAt b (off+k*7) (enc l[k]):=hrow
   have hsz:(enc l[k]).length=7:=hlen _
   cases hq:p l[k] with
   | true =>
    have hrr:r=k:=by
     rw[hr.out]
     have:l.findIdx? p=some k:=List.findIdx?_eq_some_iff_getElem.2 ⟨hkl,hq,fun j hj=>by rw[hall j (by omega) hj];simp⟩
     rw[this]
     rfl
    rw[hq] at C
    subst hrr
    replace C:=h'd C
    replace hall:=h'd hall
    replace hsz:=h'd hsz
    clear hr HC
    go_wp2_with (first
     | (refine wpList_load_mid rfl 63 (.tmp 14) rfl b (off+k*7) rfl (enc l[k]) _ hrg Tryz.underlying63 rfl (by rw[hsz.out];kernel_rfl) ?_)
     | (refine c'm C.out ?_;rintro e w2 ⟨rfl,hB2⟩))
    go_ret
    exact ⟨rfl,below_call hBr hB2 (n'r _)⟩
   | false =>
    rw[hq] at C
    have hall2:∀ j (h:j<l.length),j<k+1→p l[j]=false:=fun j h hj=>by
     by_cases hjk:j=k
     ·subst hjk;exact hq
     ·exact hall j h (by omega)
    replace C:=h'd C
    replace hall2:=h'd hall2
    replace hsz:=h'd hsz
    clear hall HC
    go_wp2_with (first
     | (refine wpList_load_mid rfl 63 (.tmp 14) rfl b (off+k*7) rfl (enc l[k]) _ hrg Tryz.underlying63 rfl (by rw[hsz.out];kernel_rfl) ?_)
     | (refine c'm C.out ?_;rintro e w2 ⟨rfl,hB2⟩))
    go_roundg (l.length-(k+1))
    case measure=>omega
    case rel=>exact ⟨k+1,by omega,rfl,by go_num,hall2.out,below_call hBr hB2 (n'r _)⟩
  ·obtain rfl:k=l.length:=by omega
   have hrr:r = -1:=by
    rw[hr.out]
    have:l.findIdx? p=none:=List.findIdx?_eq_none_iff.2 fun x hx=>by
     obtain ⟨j,hj,rfl⟩:=List.getElem_of_mem hx
     exact hall j hj hj
    rw[this]
    rfl
   subst hrr
   clear HC
   go_wp2_with fail
   go_ret
   exact ⟨rfl,hBr⟩
set_option maxHeartbeats 1000000 in
theorem idxWord_any (id:Int) (l:List Int) (lv:Value) (B:Nat) (w:World) (hl:Sl w B 1 lv l.length (l.map u32c)) (hB:B≤w.heap.size) (hn:l.length≤1000000) :
  Calls Tryz.prog 125 #[lv,.int .u32 id] w fun e w'=>e=.returned (.int .i64 (idxI (l.findIdx? (·==id))))∧Below w.heap.size w w':=by
 obtain ⟨r,hr⟩:∃ r,r=idxI (l.findIdx? (·==id)):=⟨_,rfl⟩
 rw[←hr]
 have hl0:Sl w B 1 lv l.length (l.flatMap fun x=>[u32c x]):=by rw[←List.map_eq_flatMap];exact hl
 obtain ⟨-,A,c,rfl,-⟩:=hl
 replace hr:=h'd hr
 go_enter Tryz.func125,Tryz.ntmps125
 go_wp2_with fail
 go_loopg [8] l.length (fun m v wr=>∃ k:Nat,k≤l.length∧m=l.length-k∧v=.int .i64 k∧(∀ j (h:j<l.length),j<k→(l[j]==id)=false)∧Below w.heap.size w wr)
 case atStart=>exact ⟨0,Nat.zero_le _,rfl,rfl,fun _ _ h=>absurd h (Nat.not_lt_zero _),b'r _ _⟩
 case round =>
  obtain ⟨k,hk,rfl,rfl,hall,hBr⟩:=hrel
  obtain ⟨w1,rfl⟩:∃ x:World,x=wr:=⟨_,rfl⟩
  by_cases hkl:k<l.length
  ·obtain ⟨b,off,rfl,hb,hrow⟩:=Sl.row (s:=1) (f:=fun x=>[u32c x]) (fun _=>rfl) (hl0.below (hBr.mono hB)) hkl
   have ik:(k:Int)<(l.length:Int):=by omega
   obtain ⟨x,hx⟩:∃ x,x=l[k]:=⟨_,rfl⟩
   have y:w1.cell? ⟨b,off+k*1,none⟩=some (.int .u32 x):=by rw[hx];exact hrow 0 _ rfl
   rw[Nat.mul_one] at y
   cases hq:(x==id) with
   | true =>
    have hrr:r=k:=by
     rw[hr.out]
     have:l.findIdx? (·==id)=some k:=List.findIdx?_eq_some_iff_getElem.2 ⟨hkl,by rw[←hx];exact hq,fun j hj=>by rw[hall j (by omega) hj];simp⟩
     rw[this]
     rfl
    have hq2:(id==x)=true:=BEq.comm.trans hq
    subst hrr
    replace hall:=h'd hall
    clear hr hx hrow
    go_wp2
    go_ret
    exact ⟨rfl,hBr⟩
   | false =>
    have hq2:(id==x)=false:=BEq.comm.trans hq
    have hall2:∀ j (h:j<l.length),j<k+1→(l[j]==id)=false:=fun j h hj=>by
     by_cases hjk:j=k
     ·subst hjk;rw[←hx];exact hq
     ·exact hall j h (by omega)
    replace hall2:=h'd hall2
    clear hall hx hrow
    go_wp2
    go_roundg (l.length-(k+1))
    case measure=>omega
    case rel=>exact ⟨k+1,by omega,rfl,by go_num,hall2.out,hBr⟩
  ·obtain rfl:k=l.length:=by omega
   have hrr:r = -1:=by
    rw[hr.out]
    have:l.findIdx? (·==id)=none:=List.findIdx?_eq_none_iff.2 fun x hx=>by
     obtain ⟨j,hj,rfl⟩:=List.getElem_of_mem hx
     exact hall j hj hj
    rw[this]
    rfl
   subst hrr
   go_wp2_with fail
   go_ret
   exact ⟨rfl,hBr⟩
theorem hasWord_any (id:Int) (l:List Int) (lv:Value) (B:Nat) (w:World) (hl:Sl w B 1 lv l.length (l.map u32c)) (hB:B≤w.heap.size) (hn:l.length≤1000000) :
  Calls Tryz.prog 85 #[lv,.int .u32 id] w fun e w'=>e=.returned (.bool (l.any (·==id)))∧Below w.heap.size w w':=by
 have C:=idxWord_any id l lv B w hl hB hn
 obtain ⟨q,hq⟩:∃ q,q=l.any (·==id):=⟨_,rfl⟩
 rw[←hq]
 rw[←idxI_ge] at hq
 generalize idxI (l.findIdx? (·==id))=r at C hq
 replace C:=h'd C
 obtain ⟨-,A,c,rfl,-⟩:=hl
 cases q
 all_goals
  go_enter Tryz.func85,Tryz.ntmps85
  go_wp2_with (go_at_call 125;refine c'm C.out ?_;rintro e w2 ⟨rfl,hB2⟩)
  go_ret
  exact ⟨by rw[←hq];rfl,hB2⟩
theorem linkF_any (x:LinkV) (t id:Int) (p q:Nat) (w:World) (hp:w.cell? ⟨p,0,none⟩=some (.int .u8 t)) (hq:w.cell? ⟨q,0,none⟩=some (.int .u32 id)) (hpl:p<w.heap.size) (hql:q<w.heap.size) :
  Calls Tryz.prog 124 #[.agg (linkC x).toArray,.pointer (some ⟨p,0,none⟩),.pointer (some ⟨q,0,none⟩)] w fun e w'=>e=.returned (.bool (x.type==t && x.id==id))∧Below w.heap.size w w':=by
 obtain ⟨x0,x1,x2,x3⟩:=x
 dsimp only[linkC]
 have hB:Below w.heap.size w (w.alloc (.cells #[.int .u32 x0,.int .u32 x1,.int .u8 x2,.int .u16 x3] 99)):=(b'r _ _).alloc (n'r _) _
 have hp1:=(hB.cell (p:=⟨p,0,none⟩) hpl).trans hp
 have hq1:=(hB.cell (p:=⟨q,0,none⟩) hql).trans hq
 cases e1:(x2==t) <;> cases e2:(x0==id)
 all_goals
  go_enter Tryz.func124,Tryz.ntmps124
  go_wp2
  go_ret
  exact ⟨rfl,(b'r _ _).alloc (n'r _) _⟩
theorem hasLink_any (t id:Int) (p q:Nat) (l:List LinkV) (lv:Value) (B:Nat) (w:World) (hl:Sl w B 4 lv l.length (l.flatMap linkC)) (hB:B≤w.heap.size) (hn:l.length≤1000000) (hp:w.cell? ⟨p,0,none⟩=some (.int .u8 t)) (hq:w.cell? ⟨q,0,none⟩=some (.int .u32 id)) (hpl:p<w.heap.size) (hql:q<w.heap.size) :
  Calls Tryz.prog 123 #[lv,.func (.func 124) #[] #[.pointer (some ⟨p,0,none⟩),.pointer (some ⟨q,0,none⟩)]] w fun e w'=>e=.returned (.bool (l.any fun x=>x.type==t && x.id==id))∧Below w.heap.size w w':=by
 have C:=idxLink_any linkC linkC_len (fun x=>x.type==t && x.id==id) 124 (.pointer (some ⟨p,0,none⟩)) (.pointer (some ⟨q,0,none⟩)) l lv B w hl hB hn (enters_of Tryz.func124 (by kernel_rfl) rfl)
  (fun x _ W hW=>linkF_any x t id p q W ((hW.cell (p:=⟨p,0,none⟩) hpl).trans hp) ((hW.cell (p:=⟨q,0,none⟩) hql).trans hq) (Nat.lt_of_lt_of_le hpl hW.size) (Nat.lt_of_lt_of_le hql hW.size))
 obtain ⟨z,hz⟩:∃ z,z=l.any fun x=>x.type==t && x.id==id:=⟨_,rfl⟩
 rw[←hz]
 rw[←idxI_ge] at hz
 generalize idxI (l.findIdx? fun x=>x.type==t && x.id==id)=r at C hz
 replace C:=h'd C
 obtain ⟨-,A,c,rfl,-⟩:=hl
 cases z
 all_goals
  go_enter Tryz.func123,Tryz.ntmps123
  go_wp2_with (go_at_call 161;refine c'm C.out ?_;rintro e w2 ⟨rfl,hB2⟩)
  go_ret
  exact ⟨by rw[←hz];rfl,hB2⟩
theorem pre_any (id m:Int) (w:World):Calls Tryz.prog 36 #[.int .u32 id,.int .u32 m] w fun e w'=>e=.returned (.tuple #[.agg #[.int .u32 (bits BinOp.and IntKind.u32 id m),.int .u8 (bitsV m)],.bool (bitsB m)])∧Below w.heap.size w w':=by
 have k0:Blk (w.alloc (.cells #[.int .u32 0,.int .u8 0] 45)) w.heap.size 45 #[.int .u32 0,.int .u8 0]:=Blk.new _ _ _
 have kB:Below w.heap.size w (w.alloc (.cells #[.int .u32 0,.int .u8 0] 45)):=(b'r _ _).alloc (n'r _) _
 go_enter Tryz.func36,Tryz.ntmps36
 go_upto_region 1 with fail
 generalize w.alloc (.cells #[.int .u32 0,.int .u8 0] 45)=w1 at k0 kB ⊢
 have C:=h'd (bits_any m w1)
 go_upto_region 2 with (go_at_call 83;refine c'm C.out ?_;rintro x w2 ⟨rfl,rfl⟩)
 have hset:Blk (w2.setRow w.heap.size #[.int .u32 (bits BinOp.and IntKind.u32 id m),.int .u8 (bitsV m)]) w.heap.size 45 #[.int .u32 (bits BinOp.and IntKind.u32 id m),.int .u8 (bitsV m)]:=setRow_heap w2 w.heap.size #[.int .u32 0,.int .u8 0] #[.int .u32 (bits BinOp.and IntKind.u32 id m),.int .u8 (bitsV m)] 45 (0,0) k0
 have hB3:Below w.heap.size w2 (w2.setRow w.heap.size #[.int .u32 (bits BinOp.and IntKind.u32 id m),.int .u8 (bitsV m)]):=⟨rfl,rfl,rfl,by simp[World.setRow],fun k hk=>setRow_other _ _ k _ (by omega)⟩
 go_wp2_with (refine wpList_store_row rfl 45 (.tmp 4) (.tmp 17) rfl w.heap.size #[.int .u32 (bits BinOp.and IntKind.u32 id m),.int .u8 (bitsV m)] rfl rfl 45 #[.int .u32 0,.int .u8 0] k0 (by kernel_rfl) rfl (by simp[Value.oneCell']) ?_)
 refine bodyPost_ret (results_cell_tmp_row rfl _ _ w.heap.size 45 #[.int .u32 (bits BinOp.and IntKind.u32 id m),.int .u8 (bitsV m)] (0,0) _ rfl hset Tryz.underlying45 rfl (by kernel_rfl)) rfl ?_
 exact ⟨rfl,kB.trans hB3⟩
structure BodX where
 A1:Option Addr
 c1:Nat
 A2:Option Addr
 c2:Nat
 A3:Option Addr
 c3:Nat
 b:BodyV
def bodL (x:BodX):List Value:=[.int .u8 x.b.flags,.slice x.A1 x.b.links.length x.c1,.int .u32 x.b.mask,.slice x.A2 x.b.routers.length x.c2,.int .u32 x.b.metric,.bool x.b.t2,.int .u32 x.b.fw,.int .u32 x.b.tg,.slice x.A3 x.b.data.length x.c3]
theorem bodL_len (x:BodX):(bodL x).length=9:=rfl
end Go.Proofs.YtcknpofnpabkiaaGreat
