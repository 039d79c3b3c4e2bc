/- Edges are two by two: in plain words. No walk stands here. -/
import Derived.Test.YtiikagabdiphkaaGreatGpBA
namespace Go.Proofs.YtiikagabdiphkaaGreat
open Go.RowKit Go.Lo
def PairsOk (g:List NodG):Prop:=
 ∀ (i:Nat) (hi:i<g.length),∀ e∈g[i].edges,∃ (j:Nat) (hj:j<g.length),e.dst=j∧j≠i∧(g[i].network=true→e.cost=0∧g[j].network=false)∧∃ x∈g[j].edges,x.dst=i∧x.virt=e.virt
theorem bodyOf_get {L:List StG} {i:Nat} (hi:i<L.length):bodyOf L i=bodyG L[i]:=by
 unfold bodyOf
 rw[List.getElem?_eq_getElem hi]
theorem nodeG_net {L:List StG} {i:Nat} {s:StG} (h:s.1.type=2):(nodeG L i s).network=true∧(nodeG L i s).edges=(bodyG s).routers.filterMap (edgeN L s.1.id):=by
 unfold nodeG;rw[if_pos h];exact ⟨rfl,rfl⟩
theorem nodeG_rou {L:List StG} {i:Nat} {s:StG} (h:¬ s.1.type=2):(nodeG L i s).network=false∧(nodeG L i s).edges=(bodyG s).links.filterMap (edgeP L i s.1.id):=by
 unfold nodeG;rw[if_neg h];exact ⟨rfl,rfl⟩
theorem key_rise {L:List StG} (h:RiseN L) {i:Nat} (hi:i<L.length) {k:KN} (e:keyN L[i]=k):atN L k=some i:=by rw[←e];exact atN_rise h hi
theorem linksP_iff {b:BodyV} {t id:Int}:linksP b t id=true↔∃ y∈b.links,y.type=t∧y.id=id:=by
 unfold linksP
 simp[List.any_eq_true]
theorem hasP_iff {b:BodyV} {id:Int}:hasP b id=true↔id∈b.routers:=by
 unfold hasP
 simp[List.any_eq_true]
theorem edgeP_some {L:List StG} {i:Nat} {id:Int} {x:LinkV} {e:GEdge} (h:edgeP L i id x=some e):x.type≠3∧∃ tj,atN L (x.type==2,x.id)=some tj∧tj≠i∧backP L id x tj=true∧e=⟨tj,x.cost,x.data,x.type==4⟩:=by
 unfold edgeP at h
 split at h
 ·cases h
 ·rename_i h3
  split at h
  ·cases h
  ·rename_i tj hat
   split at h
   ·cases h
   ·rename_i hti
    split at h
    ·rename_i hb
     exact ⟨h3,tj,hat,hti,hb,(Option.some.inj h).symm⟩
    ·cases h
theorem edgeP_is {L:List StG} {i:Nat} {id:Int} {x:LinkV} {tj:Nat} (h3:x.type≠3) (hat:atN L (x.type==2,x.id)=some tj) (hti:tj≠i) (hb:backP L id x tj=true):edgeP L i id x=some ⟨tj,x.cost,x.data,x.type==4⟩:=by
 unfold edgeP
 rw[if_neg h3,hat]
 simp only
 rw[if_neg hti,if_pos hb]
theorem edgeN_some {L:List StG} {id r:Int} {e:GEdge} (h:edgeN L id r=some e):∃ tj,atN L (false,r)=some tj∧linksP (bodyOf L tj) 2 id=true∧e=⟨tj,0,0,false⟩:=by
 unfold edgeN at h
 split at h
 ·cases h
 ·rename_i tj hat
  split at h
  ·rename_i hb
   exact ⟨tj,hat,hb,(Option.some.inj h).symm⟩
  ·cases h
theorem edgeN_is {L:List StG} {id r:Int} {tj:Nat} (hat:atN L (false,r)=some tj) (hb:linksP (bodyOf L tj) 2 id=true):edgeN L id r=some ⟨tj,0,0,false⟩:=by
 unfold edgeN
 rw[hat]
 simp only
 rw[if_pos hb]
theorem keyN_eq {s:StG} {b:Bool} {id:Int} (h:keyN s=(b,id)):(s.1.type==2)=b∧s.1.id=id:=by
 unfold keyN at h
 simpa using h
theorem pairs_ok {L:List StG} (h:RiseN L):PairsOk (graphG L):=by
 intro i hi e he
 have hiL:i<L.length:=by simpa[graphG] using hi
 have hl:(graphG L).length=L.length:=by simp[graphG]
 have hg:∀ j (hj:j<(graphG L).length),(graphG L)[j]=nodeG L j (L[j]'(by rw[←hl];exact hj)):=fun j hj=>by simp[graphG]
 rw[hg] at he
 by_cases h2:L[i].1.type=2
 ·obtain ⟨n1,n2⟩:=nodeG_net (L:=L) (i:=i) h2
  rw[n2] at he
  obtain ⟨r,hr,hre⟩:=List.mem_filterMap.1 he
  obtain ⟨tj,hat,hb,rfl⟩:=edgeN_some hre
  obtain ⟨htl,hk⟩:=atN_some hat
  obtain ⟨k1,k2⟩:=keyN_eq hk
  have hne:¬ L[tj].1.type=2:=by simpa using k1
  have hti:tj≠i:=fun e=>hne (by subst e;exact h2)
  obtain ⟨m1,m2⟩:=nodeG_rou (L:=L) (i:=tj) hne
  rw[bodyOf_get htl] at hb
  obtain ⟨y,hy,hy1,hy2⟩:=linksP_iff.1 hb
  refine ⟨tj,by rw[hl];exact htl,rfl,hti,fun _=>⟨rfl,by rw[hg];exact m1⟩,?_⟩
  rw[hg,m2]
  have hback:edgeP L tj L[tj].1.id y=some ⟨i,y.cost,y.data,y.type==4⟩:=by
   refine edgeP_is (by rw[hy1];decide) (key_rise h hiL ?_) (fun e=>hti e.symm) ?_
   ·unfold keyN
    rw[h2,hy1,hy2]
   ·unfold backP
    rw[if_pos hy1,bodyOf_get hiL,hasP_iff,k2]
    exact hr
  exact ⟨_,List.mem_filterMap.2 ⟨y,hy,hback⟩,rfl,by rw[hy1];rfl⟩
 ·obtain ⟨n1,n2⟩:=nodeG_rou (L:=L) (i:=i) h2
  rw[n2] at he
  obtain ⟨x,hx,hxe⟩:=List.mem_filterMap.1 he
  obtain ⟨h3,tj,hat,hti,hb,rfl⟩:=edgeP_some hxe
  obtain ⟨htl,hk⟩:=atN_some hat
  obtain ⟨k1,k2⟩:=keyN_eq hk
  refine ⟨tj,by rw[hl];exact htl,rfl,hti,fun hn=>(by rw[hg,n1] at hn;cases hn),?_⟩
  rw[hg]
  have hki:keyN L[i]=(false,L[i].1.id):=by unfold keyN;simp[h2]
  by_cases hx2:x.type=2
  ·have ht2:L[tj].1.type=2:=by rw[hx2] at k1;simpa using k1
   obtain ⟨m1,m2⟩:=nodeG_net (L:=L) (i:=tj) ht2
   unfold backP at hb
   rw[if_pos hx2,bodyOf_get htl,hasP_iff] at hb
   rw[m2]
   refine ⟨⟨i,0,0,false⟩,List.mem_filterMap.2 ⟨L[i].1.id,hb,edgeN_is (key_rise h hiL hki) ?_⟩,rfl,by show false=(x.type==4);rw[hx2];rfl⟩
   rw[bodyOf_get hiL,linksP_iff]
   exact ⟨x,hx,hx2,k2.symm⟩
  ·have ht2:¬ L[tj].1.type=2:=by
    intro e
    rw[e] at k1
    exact hx2 (by simpa using k1.symm)
   obtain ⟨m1,m2⟩:=nodeG_rou (L:=L) (i:=tj) ht2
   unfold backP at hb
   rw[if_neg hx2,bodyOf_get htl,linksP_iff] at hb
   obtain ⟨y,hy,hy1,hy2⟩:=hb
   rw[m2]
   have hback:edgeP L tj L[tj].1.id y=some ⟨i,y.cost,y.data,y.type==4⟩:=by
    refine edgeP_is (by rw[hy1];exact h3) (key_rise h hiL ?_) (fun e=>hti e.symm) ?_
    ·rw[hki,hy1,hy2]
     simp[hx2]
    ·unfold backP
     rw[if_neg (by rw[hy1];exact hx2),bodyOf_get hiL,linksP_iff]
     exact ⟨x,hx,hy1.symm,k2.symm⟩
   exact ⟨_,List.mem_filterMap.2 ⟨y,hy,hback⟩,rfl,by rw[hy1]⟩
end Go.Proofs.YtiikagabdiphkaaGreat
