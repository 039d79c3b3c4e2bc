/- Graphs out of link states, in plain words. No walk stands here. -/
import Derived.Test.YtcknpofnpabkiaaGreatGzAL
import Derived.Test.YtcknpofnpabkiaaGreatGzAP
import Derived.Test.YtcknpofnpabkiaaGreatGzAQ
namespace Go.Proofs.YtcknpofnpabkiaaGreat
open Go.RowKit Go.Lo
abbrev KN:=Bool × Int
def keyN (s:StG):KN:=(s.1.type==2,s.1.id)
def isG (s:StG):Bool:=countsP s.1 s.2
def ltKN (a b:KN):Bool:=(!a.1 && b.1) || (a.1==b.1 && decide (a.2<b.2))
theorem ltKN_iff (a b:KN):ltKN a b=true↔((a.1=false∧b.1=true)∨(a.1=b.1∧a.2<b.2)):=by
 unfold ltKN;simp
theorem ltKN_irr (a:KN):ltKN a a=false:=by
 cases h:ltKN a a with
 | false=>rfl
 | true =>
  rcases (ltKN_iff a a).1 h with ⟨h1,h2⟩ | ⟨-,h1⟩
  ·rw[h1] at h2;cases h2
  ·omega
theorem ltKN_trans {a b c:KN} (h1:ltKN a b=true) (h2:ltKN b c=true):ltKN a c=true:=by
 rw[ltKN_iff] at *
 rcases h1 with ⟨x1,x2⟩ | ⟨x1,x2⟩ <;> rcases h2 with ⟨y1,y2⟩ | ⟨y1,y2⟩
 ·rw[x2] at y1;cases y1
 ·exact .inl ⟨x1,by rw[←y1];exact x2⟩
 ·exact .inl ⟨by rw[x1];exact y1,y2⟩
 ·exact .inr ⟨x1.trans y1,by omega⟩
theorem ltKN_of {a b:KN} (h:ltKN a b=false) (hne:a≠b):ltKN b a=true:=by
 have h1:¬ _:=fun e=>by rw[(ltKN_iff a b).2 e] at h;cases h
 rw[ltKN_iff]
 obtain ⟨a1,a2⟩:=a
 obtain ⟨b1,b2⟩:=b
 simp only at h1 ⊢
 cases a1 <;> cases b1
 ·refine .inr ⟨rfl,?_⟩
  have:¬ a2<b2:=fun e=>h1 (.inr ⟨rfl,e⟩)
  have:a2≠b2:=fun e=>hne (by rw[e])
  omega
 ·exact absurd (.inl ⟨rfl,rfl⟩) h1
 ·exact .inl ⟨rfl,rfl⟩
 ·refine .inr ⟨rfl,?_⟩
  have:¬ a2<b2:=fun e=>h1 (.inr ⟨rfl,e⟩)
  have:a2≠b2:=fun e=>hne (by rw[e])
  omega
def stepN (o:Option StG) (s:StG):StG:=match o with | none=>s | some x=>if x.1.adv<s.1.adv then s else x
def bestN (S:List StG):KN→Option StG:=S.foldl (fun f s k=>if isG s=true∧k=keyN s then some (stepN (f k) s) else f k) (fun _=>none)
theorem bestN_snoc (S:List StG) (s:StG) (k:KN):bestN (S++[s]) k=if isG s=true∧k=keyN s then some (stepN (bestN S k) s) else bestN S k:=by
 unfold bestN
 rw[List.foldl_append]
 rfl
structure OnlyN (S:List StG) (i:Nat) (k:KN) (s:StG):Prop where
 at_:S[i]?=some s
 isg:isG s=true
 key:keyN s=k
 top:∀ j x,S[j]?=some x→isG x=true→keyN x=k→x.1.adv<s.1.adv∨(x.1.adv=s.1.adv∧i≤j)
theorem OnlyN.uniq {S:List StG} {i j:Nat} {k:KN} {s x:StG} (h:OnlyN S i k s) (h2:OnlyN S j k x):s=x:=by
 have a:=h.top j x h2.at_ h2.isg h2.key
 have b:=h2.top i s h.at_ h.isg h.key
 have e:i=j:=by omega
 subst e
 exact o'i (h.at_.symm.trans h2.at_)
theorem best_only (S:List StG):(∀ k s,bestN S k=some s→∃ i,OnlyN S i k s)∧(∀ k,bestN S k=none→∀ x∈S,isG x=true→keyN x≠k):=by
 obtain ⟨n,hn⟩:∃ n,S.length=n:=⟨_,rfl⟩
 induction n generalizing S with
 | zero =>
  rw[List.length_eq_zero_iff.1 hn]
  exact ⟨fun k s h=>(by cases h),fun k _ x hx=>(by cases hx)⟩
 | succ n ih =>
  rcases List.eq_nil_or_concat S with rfl | ⟨T,s,rfl⟩
  ·exact ⟨fun k s h=>(by cases h),fun k _ x hx=>(by cases hx)⟩
  ·rw[List.concat_eq_append] at hn ⊢
   obtain ⟨ih1,ih2⟩:=ih T (by simpa using hn)
   have old:∀ {j x},T[j]?=some x→(T++[s])[j]?=some x:=fun {j x} h=>by
    rw[List.getElem?_append_left (List.getElem?_eq_some_iff.1 h).1];exact h
   have cas:∀ {j x},(T++[s])[j]?=some x→(T[j]?=some x)∨(j=T.length∧x=s):=fun {j x} h=>by
    by_cases hj:j<T.length
    ·rw[List.getElem?_append_left hj] at h;exact .inl h
    ·rw[List.getElem?_append_right (by omega)] at h
     have h0:j-T.length=0:=by
      cases e:j-T.length with
      | zero=>rfl
      | succ m=>rw[e] at h;cases h
     rw[h0] at h
     exact .inr ⟨by omega,(o'i h).symm⟩
   have new:(T++[s])[T.length]?=some s:=by rw[List.getElem?_append_right (Nat.le_refl _),Nat.sub_self];rfl
   refine ⟨fun k z h => ?_,fun k h x hx hg hk => ?_⟩
   ·rw[bestN_snoc] at h
    by_cases hc:isG s=true∧k=keyN s
    ·rw[if_pos hc,Option.some.injEq] at h
     obtain ⟨hg,rfl⟩:=hc
     cases hb:bestN T (keyN s) with
     | none =>
      rw[hb] at h
      subst h
      refine ⟨T.length,new,hg,rfl,fun j x hj hx hkx => ?_⟩
      rcases cas hj with h1 | ⟨rfl,rfl⟩
      ·exact absurd hkx (ih2 _ hb x (List.mem_of_getElem? h1) hx)
      ·exact .inr ⟨rfl,Nat.le_refl _⟩
     | some y =>
      rw[hb] at h
      obtain ⟨i,h1,h2,h3,h4⟩:=ih1 _ _ hb
      have hi:=(List.getElem?_eq_some_iff.1 h1).1
      by_cases hlt:y.1.adv<s.1.adv
      ·rw[show stepN (some y) s=s from if_pos hlt] at h
       subst h
       refine ⟨T.length,new,hg,rfl,fun j x hj hx hkx => ?_⟩
       rcases cas hj with h5 | ⟨rfl,rfl⟩
       ·have:=h4 j x h5 hx hkx
        exact .inl (by omega)
       ·exact .inr ⟨rfl,Nat.le_refl _⟩
      ·rw[show stepN (some y) s=y from if_neg hlt] at h
       subst h
       refine ⟨i,old h1,h2,h3,fun j x hj hx hkx => ?_⟩
       rcases cas hj with h5 | ⟨rfl,rfl⟩
       ·exact h4 j x h5 hx hkx
       ·by_cases he:x.1.adv=y.1.adv
        ·exact .inr ⟨he,by omega⟩
        ·exact .inl (by omega)
    ·rw[if_neg hc] at h
     obtain ⟨i,h1,h2,h3,h4⟩:=ih1 _ _ h
     refine ⟨i,old h1,h2,h3,fun j x hj hx hkx => ?_⟩
     rcases cas hj with h5 | ⟨rfl,rfl⟩
     ·exact h4 j x h5 hx hkx
     ·exact absurd ⟨hx,hkx.symm⟩ hc
   ·rw[bestN_snoc] at h
    by_cases hc:isG s=true∧k=keyN s
    ·rw[if_pos hc] at h;cases h
    ·rw[if_neg hc] at h
     rcases List.mem_append.1 hx with h5 | h5
     ·exact ih2 _ h x h5 hg hk
     ·rw[List.mem_singleton.1 h5] at hg hk
      exact hc ⟨hg,hk.symm⟩
theorem best_iff (S:List StG) (k:KN) (s:StG):bestN S k=some s↔∃ i,OnlyN S i k s:=by
 refine ⟨(best_only S).1 k s,fun ⟨i,h⟩ => ?_⟩
 cases hb:bestN S k with
 | none=>exact absurd h.key ((best_only S).2 k hb s (List.mem_of_getElem? h.at_) h.isg)
 | some x =>
  obtain ⟨j,h2⟩:=(best_only S).1 k x hb
  rw[h.uniq h2]
def RiseN (L:List StG):Prop:=L.Pairwise fun a b=>ltKN (keyN a) (keyN b)=true
structure NodesN (S L:List StG):Prop where
 rise:RiseN L
 mem:∀ s,s∈L↔bestN S (keyN s)=some s
theorem rise_ext {L M:List StG} (hL:RiseN L) (hM:RiseN M) (h:∀ s,s∈L↔s∈M):L=M:=by
 induction L generalizing M with
 | nil =>
  cases M with
  | nil=>rfl
  | cons y M=>exact absurd ((h y).2 (by simp)) (by simp)
 | cons x L ih =>
  cases M with
  | nil=>exact absurd ((h x).1 (by simp)) (by simp)
  | cons y M =>
   obtain ⟨hx,kL⟩:=List.pairwise_cons.1 hL
   obtain ⟨hy,kM⟩:=List.pairwise_cons.1 hM
   have e:x=y:=by
    rcases List.mem_cons.1 ((h x).1 (by simp)) with e | e
    ·exact e
    ·rcases List.mem_cons.1 ((h y).2 (by simp)) with e2 | e2
     ·exact e2.symm
     ·have:=ltKN_trans (hy x e) (hx y e2)
      rw[ltKN_irr] at this;cases this
   subst e
   refine congrArg _ (ih kL kM fun s=>⟨fun hs => ?_,fun hs => ?_⟩)
   ·rcases List.mem_cons.1 ((h s).1 (List.mem_cons_of_mem _ hs)) with e | e
    ·have:=hx s hs
     rw[e,ltKN_irr] at this;cases this
    ·exact e
   ·rcases List.mem_cons.1 ((h s).2 (List.mem_cons_of_mem _ hs)) with e | e
    ·have:=hy s hs
     rw[e,ltKN_irr] at this;cases this
    ·exact e
theorem NodesN.uniq {S L M:List StG} (h:NodesN S L) (h2:NodesN S M):L=M:=rise_ext h.rise h2.rise fun s=>(h.mem s).trans (h2.mem s).symm
def insN:List StG→StG→List StG
 | [],s=>[s]
 | x :: r,s=>if ltKN (keyN x) (keyN s) then x :: insN r s else if keyN x=keyN s then stepN (some x) s :: r else s :: x :: r
def nodesG (S:List StG):List StG:=S.foldl (fun L s=>if isG s then insN L s else L) []
theorem nodesG_snoc (S:List StG) (s:StG):nodesG (S++[s])=if isG s then insN (nodesG S) s else nodesG S:=by
 unfold nodesG
 rw[List.foldl_append]
 rfl
theorem stepN_key {x s:StG} (h:keyN x=keyN s):keyN (stepN (some x) s)=keyN s:=by
 unfold stepN
 simp only
 split
 ·rfl
 ·exact h
theorem ins_key {L:List StG} {s z:StG} (h:z∈insN L s):keyN z=keyN s∨∃ x∈L,keyN z=keyN x:=by
 induction L with
 | nil=>exact .inl (by rw[List.mem_singleton.1 h])
 | cons x r ih =>
  unfold insN at h
  split at h
  ·rcases List.mem_cons.1 h with h | h
   ·exact .inr ⟨x,by simp,by rw[h]⟩
   ·rcases ih h with h | ⟨y,h1,h2⟩
    ·exact .inl h
    ·exact .inr ⟨y,by simp[h1],h2⟩
  ·split at h
   ·rename_i he
    rcases List.mem_cons.1 h with h | h
    ·exact .inl (by rw[h,stepN_key he])
    ·exact .inr ⟨z,by simp[h],rfl⟩
   ·rcases List.mem_cons.1 h with h | h
    ·exact .inl (by rw[h])
    ·exact .inr ⟨z,h,rfl⟩
theorem ins_rise {L:List StG} (h:RiseN L) (s:StG):RiseN (insN L s):=by
 induction L with
 | nil=>exact List.pairwise_singleton _ _
 | cons x r ih =>
  obtain ⟨hx,hr⟩:=List.pairwise_cons.1 h
  unfold insN
  split
  ·rename_i hl
   refine List.pairwise_cons.2 ⟨fun z hz => ?_,ih hr⟩
   rcases ins_key hz with e | ⟨y,h1,e⟩
   ·rw[e];exact hl
   ·rw[e];exact hx y h1
  ·split
   ·rename_i he
    refine List.pairwise_cons.2 ⟨fun z hz => ?_,hr⟩
    rw[stepN_key he,←he];exact hx z hz
   ·rename_i hl hne
    refine List.pairwise_cons.2 ⟨fun z hz => ?_,h⟩
    have h1:=ltKN_of (by simpa using hl) hne
    rcases List.mem_cons.1 hz with e | e
    ·rw[e];exact h1
    ·exact ltKN_trans h1 (hx z e)
def lookN (L:List StG) (k:KN):Option StG:=L.find? fun s=>keyN s==k
theorem look_ins {L:List StG} (h:RiseN L) (s:StG) (k:KN):lookN (insN L s) k=if k=keyN s then some (stepN (lookN L k) s) else lookN L k:=by
 induction L with
 | nil =>
  unfold lookN insN
  by_cases hk:k=keyN s
  ·rw[if_pos hk];subst hk;simp[stepN]
  ·rw[if_neg hk]
   have:(keyN s==k)=false:=by simpa using fun e=>hk e.symm
   simp[this]
 | cons x r ih =>
  obtain ⟨hx,hr⟩:=List.pairwise_cons.1 h
  have ih:=ih hr
  unfold lookN at ih ⊢
  unfold insN
  split
  ·rename_i hl
   rw[List.find?_cons,List.find?_cons]
   cases hxk:(keyN x==k) with
   | true =>
    have e:keyN x=k:=by simpa using hxk
    have:k≠keyN s:=fun e2=>by rw[e,e2,ltKN_irr] at hl;cases hl
    simp only
    rw[if_neg this]
   | false=>exact ih
  ·split
   ·rename_i he
    rw[List.find?_cons,List.find?_cons]
    rw[stepN_key he,←he]
    cases hxk:(keyN x==k) with
    | true =>
     have e:keyN x=k:=by simpa using hxk
     simp only
     rw[if_pos e.symm]
    | false =>
     have e:keyN x≠k:=by simpa using hxk
     simp only
     rw[if_neg fun e2=>e e2.symm]
   ·rename_i hl hne
    have h1:=ltKN_of (by simpa using hl) hne
    rw[List.find?_cons]
    by_cases hk:k=keyN s
    ·subst hk
     rw[if_pos rfl]
     have hn:(x :: r).find? (fun z=>keyN z==keyN s)=none:=by
      rw[List.find?_eq_none]
      intro z hz e
      have e:keyN z=keyN s:=by simpa using e
      rcases List.mem_cons.1 hz with e2 | e2
      ·exact hne (by rw[←e2];exact e)
      ·have:=ltKN_trans h1 (hx z e2)
       rw[e,ltKN_irr] at this;cases this
     rw[hn]
     simp[stepN]
    ·rw[if_neg hk]
     have:(keyN s==k)=false:=by simpa using fun e=>hk e.symm
     simp only[this]
theorem nodesG_look (S:List StG):RiseN (nodesG S)∧∀ k,lookN (nodesG S) k=bestN S k:=by
 obtain ⟨n,hn⟩:∃ n,S.length=n:=⟨_,rfl⟩
 induction n generalizing S with
 | zero =>
  rw[List.length_eq_zero_iff.1 hn]
  exact ⟨List.Pairwise.nil,fun k=>rfl⟩
 | succ n ih =>
  rcases List.eq_nil_or_concat S with rfl | ⟨T,s,rfl⟩
  ·exact ⟨List.Pairwise.nil,fun k=>rfl⟩
  ·rw[List.concat_eq_append] at hn ⊢
   obtain ⟨h1,h2⟩:=ih T (by simpa using hn)
   rw[nodesG_snoc]
   cases hg:isG s with
   | true =>
    simp only[if_true]
    refine ⟨ins_rise h1 s,fun k => ?_⟩
    rw[look_ins h1,bestN_snoc,h2,hg]
    simp
   | false =>
    refine ⟨h1,fun k => ?_⟩
    rw[bestN_snoc,hg]
    simpa using h2 k
theorem look_iff {L:List StG} (h:RiseN L) (s:StG):s∈L↔lookN L (keyN s)=some s:=by
 unfold lookN
 induction L with
 | nil=>simp
 | cons x r ih =>
  obtain ⟨hx,hr⟩:=List.pairwise_cons.1 h
  rw[List.find?_cons]
  cases hxk:(keyN x==keyN s) with
  | true =>
   have e:keyN x=keyN s:=by simpa using hxk
   simp only[Option.some.injEq,List.mem_cons]
   refine ⟨fun hs => ?_,fun hs=>.inl hs.symm⟩
   rcases hs with hs | hs
   ·exact hs.symm
   ·have:=hx s hs
    rw[e,ltKN_irr] at this;cases this
  | false =>
   have e:keyN x≠keyN s:=by simpa using hxk
   simp only[List.mem_cons]
   rw[←ih hr]
   exact ⟨fun hs=>hs.resolve_left fun e2=>e (by rw[e2]),.inr⟩
theorem nodesG_ok (S:List StG):NodesN S (nodesG S):=by
 obtain ⟨h1,h2⟩:=nodesG_look S
 exact ⟨h1,fun s=>by rw[look_iff h1,h2]⟩
theorem nodesG_is {S L:List StG} (h:NodesN S L):L=nodesG S:=h.uniq (nodesG_ok S)
structure NodG where
 network:Bool
 id:Int
 netA:Int
 netB:Int
 flags:Int
 edges:List GEdge
 stubs:List (Int × Int × Int)
def bodyG (s:StG):BodyV:=(decQ s.1.type.toNat s.2).1
def bodyOf (L:List StG) (j:Nat):BodyV:=match L[j]? with | some s=>bodyG s | none=>zeroB
def atN (L:List StG) (k:KN):Option Nat:=L.findIdx? fun s=>keyN s==k
def linksP (b:BodyV) (t id:Int):Bool:=b.links.any fun x=>x.type==t && x.id==id
def hasP (b:BodyV) (id:Int):Bool:=b.routers.any (·==id)
def stubP (x:LinkV):Option (Int × Int × Int):=if x.type=3∧bitsB x.data=true then some (bits BinOp.and IntKind.u32 x.id x.data,bitsV x.data,x.cost) else none
def backP (L:List StG) (id:Int) (x:LinkV) (tj:Nat):Bool:=if x.type=2 then hasP (bodyOf L tj) id else linksP (bodyOf L tj) x.type id
def edgeP (L:List StG) (i:Nat) (id:Int) (x:LinkV):Option GEdge:=
 if x.type=3 then none else
 match atN L (x.type==2,x.id) with
 | none=>none
 | some tj=>if tj=i then none else if backP L id x tj=true then some ⟨tj,x.cost,x.data,x.type==4⟩ else none
def edgeN (L:List StG) (id r:Int):Option GEdge:=
 match atN L (false,r) with
 | none=>none
 | some tj=>if linksP (bodyOf L tj) 2 id=true then some ⟨tj,0,0,false⟩ else none
def nodeG (L:List StG) (i:Nat) (s:StG):NodG:=
 if s.1.type=2 then ⟨true,s.1.id,bits BinOp.and IntKind.u32 s.1.id (bodyG s).mask,bitsV (bodyG s).mask,0,(bodyG s).routers.filterMap (edgeN L s.1.id),[]⟩
 else ⟨false,s.1.id,0,0,(bodyG s).flags,(bodyG s).links.filterMap (edgeP L i s.1.id),(bodyG s).links.filterMap stubP⟩
def graphG (L:List StG):List NodG:=L.mapIdx (nodeG L)
theorem atN_some {L:List StG} {k:KN} {j:Nat} (h:atN L k=some j):∃ hj:j<L.length,keyN L[j]=k:=by
 obtain ⟨h1,h2,-⟩:=List.findIdx?_eq_some_iff_getElem.1 h
 exact ⟨h1,by simpa using h2⟩
def aheadP (a b:OHead) (i k:Nat):Bool:=if a.type=b.type∧a.id=b.id then (if a.adv=b.adv then decide (i<k) else decide (b.adv<a.adv)) else false
theorem isG_type {s:StG} (h:isG s=true):s.1.type=1∨s.1.type=2:=by
 unfold isG countsP kindP at h
 simp only[Bool.and_eq_true,Bool.or_eq_true,beq_iff_eq] at h
 exact h.1
theorem key_eq {s x:StG} (hs:isG s=true) (hx:isG x=true):keyN x=keyN s↔x.1.type=s.1.type∧x.1.id=s.1.id:=by
 have h1:=isG_type hs
 have h2:=isG_type hx
 unfold keyN
 rw[Prod.mk.injEq]
 refine ⟨fun ⟨e1,e2⟩=>⟨?_,e2⟩,fun ⟨e1,e2⟩=>⟨by rw[e1],e2⟩⟩
 rcases h1 with h1 | h1 <;> rcases h2 with h2 | h2 <;> rw[h1,h2] at e1 <;> first | (exact absurd e1 (by decide)) | (rw[h1,h2])
def OnlyTo (S:List StG) (i n:Nat) (s:StG):Prop:=∀ k x,k<n→S[k]?=some x→k≠i→isG x=true→aheadP x.1 s.1 k i=false
theorem only_iff {S:List StG} {i:Nat} {s:StG} (hi:S[i]?=some s) (hs:isG s=true):OnlyTo S i S.length s↔OnlyN S i (keyN s) s:=by
 refine ⟨fun h=>⟨hi,hs,rfl,fun j x hj hx hk => ?_⟩,fun h k x _ hk hne hx => ?_⟩
 ·by_cases hne:j=i
  ·subst hne
   rw[hi] at hj
   injection hj with hj
   subst hj
   exact .inr ⟨rfl,Nat.le_refl _⟩
  ·have h1:=h j x (List.getElem?_eq_some_iff.1 hj).1 hj hne hx
   unfold aheadP at h1
   rw[if_pos ((key_eq hs hx).1 hk)] at h1
   split at h1
   ·rename_i e
    have:¬ j<i:=by simpa using h1
    exact .inr ⟨e,by omega⟩
   ·rename_i e
    have:¬ s.1.adv<x.1.adv:=by simpa using h1
    exact .inl (by omega)
 ·unfold aheadP
  by_cases hk2:keyN x=keyN s
  ·rw[if_pos ((key_eq hs hx).1 hk2)]
   rcases h.top k x hk hx hk2 with h1 | ⟨h1,h2⟩
   ·rw[if_neg (by omega)]
    simp;omega
   ·rw[if_pos h1]
    simp;omega
  ·rw[if_neg fun e=>hk2 ((key_eq hs hx).2 e)]
structure InD (S:List StG) (t:Int) (i:Nat) (L:List StG):Prop where
 rise:RiseN L
 mem:∀ s,s∈L↔∃ j,OnlyN S j (keyN s) s∧(s.1.type<t∨(s.1.type=t∧j<i))
theorem InD.start (S:List StG):InD S 1 0 []:=⟨List.Pairwise.nil,fun s=>⟨fun h=>(by cases h),fun ⟨j,h,h2⟩=>by
 have:=isG_type h.isg
 omega⟩⟩
theorem InD.turn {S:List StG} {t:Int} {L:List StG} (h:InD S t S.length L):InD S (t+1) 0 L:=⟨h.rise,fun s=>by
 rw[h.mem]
 constructor
 ·rintro ⟨j,h1,h2⟩
  exact ⟨j,h1,.inl (by omega)⟩
 ·rintro ⟨j,h1,h2⟩
  have:=(List.getElem?_eq_some_iff.1 h1.at_).1
  exact ⟨j,h1,by omega⟩⟩
theorem InD.done {S L:List StG} (h:InD S 3 0 L):L=nodesG S:=nodesG_is ⟨h.rise,fun s=>by
 rw[h.mem,best_iff]
 constructor
 ·rintro ⟨j,h1,-⟩
  exact ⟨j,h1⟩
 ·rintro ⟨j,h1⟩
  have:=isG_type h1.isg
  exact ⟨j,h1,.inl (by omega)⟩⟩
theorem InD.skip {S:List StG} {t:Int} {i:Nat} {L:List StG} (h:InD S t i L) {s:StG} (hi:S[i]?=some s) (hn:¬ (s.1.type=t∧isG s=true∧OnlyTo S i S.length s)):InD S t (i+1) L:=⟨h.rise,fun x=>by
 rw[h.mem]
 constructor
 ·rintro ⟨j,h1,h2⟩
  exact ⟨j,h1,by omega⟩
 ·rintro ⟨j,h1,h2⟩
  refine ⟨j,h1,?_⟩
  by_cases hj:j=i
  ·subst hj
   have e:=h1.at_
   rw[hi] at e
   injection e with e
   subst e
   rcases h2 with h2 | ⟨h2,h3⟩
   ·exact .inl h2
   ·exact absurd ⟨h2,h1.isg,(only_iff hi h1.isg).2 h1⟩ hn
  ·omega⟩
theorem InD.types {S:List StG} {t:Int} {i:Nat} {L:List StG} (h:InD S t i L) {x:StG} (hx:x∈L):isG x=true∧x.1.type≤t:=by
 obtain ⟨j,h1,h2⟩:=(h.mem x).1 hx
 exact ⟨h1.isg,by omega⟩
theorem InD.put {S:List StG} {t:Int} {i:Nat} {L:List StG} (h:InD S t i L) {s:StG} (hi:S[i]?=some s) (ht:s.1.type=t) (hs:isG s=true) (ho:OnlyTo S i S.length s) {p:Nat} (hp:p≤L.length)
  (h1:∀ j (hj:j<L.length),p≤j→L[j].1.type=t∧s.1.id<L[j].1.id) (h2:∀ hj:p-1<L.length,0<p→¬ (L[p-1].1.type=t∧s.1.id<L[p-1].1.id)):InD S t (i+1) (L.take p++[s]++L.drop p):=by
 have hO:=(only_iff hi hs).1 ho
 have hno:∀ x∈L,keyN x≠keyN s:=fun x hx e=>by
  obtain ⟨j,h3,h4⟩:=(h.mem x).1 hx
  rw[e] at h3
  have h5:=h3.top i s hi hs rfl
  have h6:=hO.top j x h3.at_ h3.isg h3.key
  have:j=i:=by omega
  subst this
  have h7:=h3.at_
  rw[hi] at h7
  injection h7 with h7
  subst h7
  omega
 have hT:=isG_type hs
 have up:∀ x∈L.drop p,ltKN (keyN s) (keyN x)=true:=fun x hx=>by
  obtain ⟨j,hj,rfl⟩:=List.getElem_of_mem hx
  rw[List.length_drop] at hj
  rw[List.getElem_drop]
  obtain ⟨e1,e2⟩:=h1 (p+j) (by omega) (by omega)
  rw[ltKN_iff]
  exact .inr ⟨by unfold keyN;rw[e1,ht],e2⟩
 have down:∀ x∈L.take p,ltKN (keyN x) (keyN s)=true:=fun x hx=>by
  obtain ⟨j,hj,rfl⟩:=List.getElem_of_mem hx
  rw[List.length_take] at hj
  rw[List.getElem_take]
  have hp1:p-1<L.length:=by omega
  have last:ltKN (keyN L[p-1]) (keyN s)=true:=by
   obtain ⟨g,gt⟩:=h.types (List.getElem_mem hp1)
   have h3:=h2 hp1 (by omega)
   have h4:=isG_type g
   have h5:=fun e=>hno _ (List.getElem_mem hp1) ((key_eq hs g).2 e)
   rw[ltKN_iff]
   unfold keyN
   by_cases e:L[p-1].1.type=t
   ·have:¬ s.1.id<L[p-1].1.id:=fun e2=>h3 ⟨e,e2⟩
    have:L[p-1].1.id≠s.1.id:=fun e2=>h5 ⟨by rw[e,ht],e2⟩
    exact .inr ⟨by simp only[e,ht],by simp only;omega⟩
   ·refine .inl ⟨?_,?_⟩
    ·simp only[beq_eq_false_iff_ne,ne_eq];omega
    ·simp only[beq_iff_eq];omega
  by_cases hj1:j=p-1
  ·subst hj1;exact last
  ·exact ltKN_trans (List.pairwise_iff_getElem.1 h.rise j (p-1) (by omega) hp1 (by omega)) last
 have hr:=h.rise
 unfold RiseN at hr
 rw[←List.take_append_drop p L,List.pairwise_append] at hr
 obtain ⟨r1,r2,r3⟩:=hr
 refine ⟨?_,fun x => ?_⟩
 ·unfold RiseN
  rw[List.append_assoc,List.pairwise_append]
  refine ⟨r1,?_,fun a ha b hb => ?_⟩
  ·rw[List.singleton_append,List.pairwise_cons]
   exact ⟨up,r2⟩
  ·rcases List.mem_append.1 hb with hb | hb
   ·rw[List.mem_singleton.1 hb];exact down a ha
   ·exact r3 a ha b hb
 ·have hm:x∈L.take p++[s]++L.drop p↔x∈L∨x=s:=by
   conv=>rhs;rw[←List.take_append_drop p L]
   simp only[List.mem_append,List.mem_singleton]
   constructor
   ·rintro ((h | h) | h)
    ·exact .inl (.inl h)
    ·exact .inr h
    ·exact .inl (.inr h)
   ·rintro ((h | h) | h)
    ·exact .inl (.inl h)
    ·exact .inr h
    ·exact .inl (.inr h)
  rw[hm,h.mem]
  constructor
  ·rintro (⟨j,h3,h4⟩ | rfl)
   ·exact ⟨j,h3,by omega⟩
   ·exact ⟨i,hO,.inr ⟨ht,by omega⟩⟩
  ·rintro ⟨j,h3,h4⟩
   by_cases hj:j=i
   ·subst hj
    have e:=h3.at_
    rw[hi] at e
    injection e with e
    exact .inr e.symm
   ·exact .inl ⟨j,h3,by omega⟩
end Go.Proofs.YtcknpofnpabkiaaGreat
