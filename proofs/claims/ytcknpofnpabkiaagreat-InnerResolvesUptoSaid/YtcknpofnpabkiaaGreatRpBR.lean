/- A slice of the call's own that may have been cut at its head. No theorem of the program stands here. -/
import Derived.Test.YtcknpofnpabkiaaGreatRpAA
namespace Go.Lo
open Go.RowKit
def OwnO (w:World) (base:Nat) (e:TypeId) (s:Nat) (v:Value) (n:Nat) (xs:List Value):Prop:=
 xs.length=n*s∧∃ A cap,v=.slice A n cap∧n≤cap∧cap≤maxLen∧(A=none→cap=0) ∧
  (∀ ad,A=some ad→∃ g off cur,ad=⟨g,off,none⟩∧base≤g∧w.heap[g]?=some (.cells cur e (0,0))∧off+cap*s≤cur.size∧(cur.toList.drop off).take (n*s)=xs)
section
variable {P:Program} {w w':World} {base:Nat} {e:TypeId} {s n:Nat} {v:Value} {xs:List Value}
theorem OwnO.of_own (h:w.ownsRow base e s v n xs):OwnO w base e s v n xs:=by
 refine ⟨h.1,?_⟩
 rcases h.2 with ⟨rfl,rfl⟩ | ⟨g,cap,cur,rfl,hb,hg,hnc,hcm,hcs,ht⟩
 ·exact ⟨none,0,rfl,n'r _,Nat.zero_le _,fun _=>rfl,(fun _ h=>by cases h)⟩
 ·exact ⟨_,cap,rfl,hnc,hcm,(fun h=>by cases h),fun ad had=>⟨g,0,cur,(o'i had).symm,hb,hg,by omega,by simpa using ht⟩⟩
theorem OwnO.keep (h:OwnO w base e s v n xs) (hb:∀ k,k<w.heap.size→base≤k→v.ownBlock=some k→w'.heap[k]?=w.heap[k]?):OwnO w' base e s v n xs:=by
 obtain ⟨h1,A,cap,rfl,h2,h3,h4,h5⟩:=h
 refine ⟨h1,A,cap,rfl,h2,h3,h4,fun ad had => ?_⟩
 obtain ⟨g,off,cur,rfl,h6,h7,h8⟩:=h5 ad had
 exact ⟨g,off,cur,rfl,h6,(hb g (lt_of_block h7) h6 (by rw[had];rfl)).trans h7,h8⟩
theorem OwnO.lt (h:OwnO w base e s v n xs):∀ k,v.ownBlock=some k→base≤k∧k<w.heap.size:=by
 obtain ⟨h1,A,cap,rfl,h2,h3,h4,h5⟩:=h
 intro k hk
 cases A with
 | none=>cases hk
 | some ad =>
  obtain ⟨g,off,cur,rfl,h6,h7,_⟩:=h5 ad rfl
  injection hk with hk
  have hk':g=k:=hk
  subst hk'
  exact ⟨h6,lt_of_block h7⟩
theorem OwnO.ne_ {b2 e2 s2 n2 k:Nat} {v2:Value} {x2:List Value} (h:OwnO w base e s v n xs) (h2:w.ownsRow b2 e2 s2 v2 n2 x2) (hne:e≠e2) (hk:v2.ownBlock=some k):some k≠v.ownBlock:=by
 obtain ⟨_,A,cap,rfl,_,_,_,h5⟩:=h
 intro hk1
 cases A with
 | none=>cases hk1
 | some ad =>
  obtain ⟨g,off,cur,rfl,_,h7,_⟩:=h5 ad rfl
  injection hk1 with hk1
  have hk1':k=g:=hk1
  subst hk1'
  rcases h2.2 with ⟨rfl,_⟩ | ⟨g2,c2,cur2,rfl,_,hg2,_⟩
  ·cases hk
  ·injection hk with hk
   have hk':g2=k:=hk
   subst hk'
   rw[h7] at hg2
   injection hg2 with hg2
   injection hg2 with _ ht
   exact hne ht
theorem OwnO.at_ (h:OwnO w base e s v n xs) (hn:0<n):∃ g off cap,v=.slice (some ⟨g,off,none⟩) n cap∧n≤cap∧cap≤maxLen∧base≤g∧g<w.heap.size∧∀ j u,xs[j]?=some u→w.cell? ⟨g,off+j,none⟩=some u:=by
 obtain ⟨h1,A,cap,rfl,h2,h3,h4,h5⟩:=h
 cases A with
 | none=>have:=h4 rfl;omega
 | some ad =>
  obtain ⟨g,off,cur,rfl,h6,h7,h8,h9⟩:=h5 ad rfl
  refine ⟨g,off,cap,rfl,h2,h3,h6,lt_of_block h7,fun j u hu => ?_⟩
  have hj:j<n*s:=by have:=(List.getElem?_eq_some_iff.1 hu).1;omega
  rw[←h9,List.getElem?_take,if_pos hj,List.getElem?_drop] at hu
  rw[cell_of_row w g (off+j) cur e (0,0) h7]
  simpa using hu
theorem OwnO.tail {A:Option Addr} {cap:Nat} {x:List Value} (h:OwnO w base e s (.slice A (n+1) cap) (n+1) (x++xs)) (hx:x.length=s) :
  OwnO w base e s (.slice (if cap=1 then A else A.map (·.add (1*s))) n (cap-1)) n xs:=by
 obtain ⟨h1,A',cap',hv,h2,h3,h4,h5⟩:=h
 simp only[Value.slice.injEq] at hv
 obtain ⟨rfl,_,rfl⟩:=hv
 have hl:xs.length=n*s:=by
  rw[l'a,hx,Nat.succ_mul] at h1;omega
 cases A with
 | none=>have:=h4 rfl;omega
 | some ad =>
  obtain ⟨g,off,cur,rfl,h6,h7,h8,h9⟩:=h5 ad rfl
  refine ⟨hl,_,_,rfl,by omega,by omega,fun hA => ?_,fun ad had => ?_⟩
  ·split at hA
   ·omega
   ·simp at hA
  ·by_cases hc1:cap=1
   ·subst hc1
    rw[if_pos rfl] at had
    injection had with had
    subst had
    have hn0:n=0:=by omega
    subst hn0
    have hx0:xs=[]:=List.eq_nil_of_length_eq_zero (by simpa using hl)
    subst hx0
    exact ⟨g,off,cur,rfl,h6,h7,by simp;omega,by simp⟩
   ·rw[if_neg hc1] at had
    simp only[Option.map_some,o'j] at had
    subst had
    refine ⟨g,off+s,cur,by rw[addr_add];simp,h6,h7,?_,?_⟩
    ·have:=Nat.sub_mul cap 1 s
     have h10:1*s≤cap*s:=Nat.mul_le_mul_right s (by omega)
     omega
    ·have e1:((cur.toList.drop off).take ((n+1)*s)).drop s=xs:=by rw[h9,←hx,List.drop_left]
     rw[←e1,List.drop_take,List.drop_drop,Nat.succ_mul]
     congr 1
     omega
theorem run_append_o {t:TypeId} (ty:TypeId) {size bytes:Nat} (E:ElT P t e size bytes) (hown:OwnO w base e size v n xs)
  {B:Nat} {x:Value} {m:Nat} {news:List Value} (hx:Sl w B size x m news) (h1:∀ u∈news,u.oneCell'=true)
  (h63:n+m≤maxLen) (hbytes:(n+m)*bytes≤140737488355328) (hbase:base≤w.heap.size) :
  ∃ v' w',(Builtin.append_ #[t,t] ty #[v,x]).run P w=.ok v' w'∧OwnO w' base e size v' (n+m) (xs++news)∧w.grownBy w' v.ownBlock∧(v'.ownBlock=v.ownBlock∨v'.ownBlock=some w.heap.size):=by
 obtain ⟨i,z,hi,hz,hsz,hby,hzs⟩:=E.info
 subst hsz
 subst hby
 obtain ⟨hl,Ax,cx,rfl,hmc,hcm,hat⟩:=hx
 obtain ⟨ho1,A,cap,rfl,ho2,ho3,ho4,ho5⟩:=hown
 rcases Nat.eq_zero_or_pos m with hm | hm
 ·subst hm
  have hn:news=[]:=List.eq_nil_of_length_eq_zero (by simpa using hl)
  subst hn
  refine ⟨.slice A n cap,w,?_,⟨by simpa using ho1,A,cap,rfl,ho2,ho3,ho4,by simpa using ho5⟩,World.grownBy.refl w _,.inl rfl⟩
  cases A <;> cases Ax <;> simp[Builtin.append_,run_underlying E.sl,sizeOf,typeInfo,hi,Builtin.lenOf,Builtin.firstCells,ho2,storeCells,loadCells,loadCellsFrom]
 ·obtain ⟨bx,ox,rfl,_,hcx⟩:=hat hm
  have hnews:∀ j u,news[j]?=some u→w.cell? ((⟨bx,ox,none⟩:Addr).add j)=some u:=fun j u hu=>by rw[addr_add];exact hcx j u hu
  by_cases hroom:n+m≤cap
  ·obtain ⟨ad,rfl⟩:∃ ad,A=some ad:=by
    cases A with
    | none=>have:=ho4 rfl;omega
    | some ad=>exact ⟨ad,rfl⟩
   obtain ⟨g,off,cur,rfl,h6,h7,h8,h9⟩:=ho5 ad rfl
   have hmul:(n+m)*i.size≤cap*i.size:=Nat.mul_le_mul_right _ hroom
   have hnm:(n+m)*i.size=n*i.size+m*i.size:=Nat.add_mul _ _ _
   have hfit:off+n*i.size+news.length≤cur.size:=by omega
   have hst:=run_storeCells_at P g (off+n*i.size) e news 0 cur w h7 (by simpa using hfit) h1
   simp only[Nat.add_zero] at hst
   have hf:=run_firstCells_some (P:=P) w i.size m ⟨bx,ox,none⟩ m cx news hl hnews
   refine ⟨.slice (some ⟨g,off,none⟩) (n+m) cap,w.setRow g (cur.toList.take (off+n*i.size)++news++cur.toList.drop (off+n*i.size+news.length)).toArray,?_,⟨by rw[l'a,ho1,hl,hnm],_,_,rfl,hroom,ho3,(fun h=>by cases h),fun ad had=>⟨g,off,_,(o'i had).symm,h6,setRow_heap w g cur _ e _ h7,?_,?_⟩⟩,⟨rfl,rfl,rfl,by simp[World.setRow],fun k _ hk=>setRow_other w g k _ (fun e=>hk (by simp[Value.ownBlock,e]))⟩,.inl rfl⟩
   ·simp[Builtin.append_,run_underlying E.sl,sizeOf,typeInfo,hi,Builtin.lenOf,hroom,hf,addr_add,hst]
   ·simp only[List.size_toArray,l'a,List.length_take,List.length_drop,Array.length_toList];omega
   ·have e1:(cur.toList.take (off+n*i.size)).drop off=xs:=by rw[←h9,List.drop_take];congr 1;omega
    have e2:(cur.toList.take (off+n*i.size)).length=off+n*i.size:=by rw[List.length_take,Array.length_toList];omega
    rw[List.append_assoc,List.drop_append_of_le_length (by rw[e2];omega),e1,←List.append_assoc]
    exact List.take_left' (by rw[l'a,ho1,hl,hnm])
  ·have hlen:(xs++news).length=(n+m)*i.size:=by rw[l'a,ho1,hl,Nat.add_mul]
   have hge:=grownCap_ge w (n+m) cap e
   have hcm':grownCap w (n+m) cap e≤maxLen:=grownCap_le_maxLen w (n+m) cap e h63
   have hnew:OwnO (w.drew.alloc (.cells (xs.toArray++news.toArray++Builtin.zeroCells z.cells (grownCap w (n+m) cap e-(n+m))) e)) base e i.size (.slice (some ⟨w.heap.size,0,none⟩) (n+m) (grownCap w (n+m) cap e)) (n+m) (xs++news):=by
    refine ⟨hlen,_,_,rfl,hge,hcm',(fun h=>by cases h),fun ad had=>⟨w.heap.size,0,_,(o'i had).symm,hbase,heap_alloc_new w.drew _,?_,?_⟩⟩
    ·simp only[Array.size_append,List.size_toArray,size_zeroCells,hzs,ho1,hl]
     have e1:(grownCap w (n+m) cap e-(n+m))*i.size=grownCap w (n+m) cap e*i.size-(n+m)*i.size:=Nat.sub_mul _ _ _
     have e2:(n+m)*i.size≤grownCap w (n+m) cap e*i.size:=Nat.mul_le_mul_right _ hge
     have e3:(n+m)*i.size=n*i.size+m*i.size:=Nat.add_mul _ _ _
     omega
    ·simp only[Array.toList_append,List.append_assoc,List.drop_zero]
     rw[←List.append_assoc]
     exact List.take_left' hlen
   have hgr:∀ row,w.grownBy (w.drew.alloc (.cells (xs.toArray++news.toArray++Builtin.zeroCells z.cells (grownCap w (n+m) cap e-(n+m))) e)) row:=fun row =>
    ⟨rfl,rfl,rfl,by simp,fun k hk _=>Below.heap_alloc w.drew _ k hk⟩
   have hcap:A=none∨∃ ad,A=some ad:=by cases A <;> simp
   rcases hcap with rfl | ⟨ad,rfl⟩
   ·have h0:=ho4 rfl
    subst h0
    have hn0:n=0:=by omega
    subst hn0
    have hx0:xs=[]:=List.eq_nil_of_length_eq_zero (by simpa using ho1)
    subst hx0
    have hr:=run_append_nil (P:=P) w t ty e i z E.sl hi hz ⟨bx,ox,none⟩ m cx news hl hnews hm (by simp only[maxLen] at h63;omega) (by simp only[Nat.zero_add] at hbytes;omega)
    refine ⟨_,_,by simpa using hr,by simpa using hnew,by simpa using hgr _,.inr rfl⟩
   ·have holds:∀ j u,xs[j]?=some u→w.cell? (ad.add j)=some u:=fun j u hu=>by
     obtain ⟨g,off,cur,rfl,h6,h7,h8,h9⟩:=ho5 ad rfl
     have hj:j<n*i.size:=by have:=(List.getElem?_eq_some_iff.1 hu).1;omega
     rw[addr_add,cell_of_row w g (off+j) cur e (0,0) h7]
     rw[←h9,List.getElem?_take,if_pos hj,List.getElem?_drop] at hu
     simpa using hu
    have hr:=run_append_grow (P:=P) w t ty e i z E.sl hi hz ad n cap xs ho1 holds ⟨bx,ox,none⟩ m cx news hl hnews (by omega) (by simp only[maxLen] at h63;omega) (growslice_fits (by omega) hbytes)
    exact ⟨_,_,hr,hnew,hgr _,.inr rfl⟩
theorem wpList_append_o {ops:Array Oper} {rest:List Oper} {o:Oper} {a:Act} {Q:Exit→Act→World→Prop} (hgd:o.guard=none) (sl x:Operand) (t:TypeId)
  (ho:o.op=.call { callee:=.builtin .append,args:=#[sl,x],argTypes:=#[t,t] }) {size bytes:Nat} (E:ElT P t e size bytes)
  (hs:a.eval sl=v) (hown:OwnO w base e size v n xs)
  (B:Nat) (xv:Value) (m:Nat) (news:List Value) (hxv:a.eval x=xv) (hx:Sl w B size xv m news) (h1:∀ u∈news,u.oneCell'=true)
  (h63:n+m≤maxLen) (hbytes:(n+m)*bytes≤140737488355328) (hbase:base≤w.heap.size)
  (h:∀ v' w',OwnO w' base e size v' (n+m) (xs++news)→w.grownBy w' v.ownBlock→(v'.ownBlock=v.ownBlock∨v'.ownBlock=some w.heap.size)→wpList P ops Q rest (a.put o.dst v') w'):wpList P ops Q (o :: rest) a w:=by
 refine wpList_plain hgd fun K hK => ?_
 obtain ⟨v',w',hr,h2,h3,h4⟩:=run_append_o (P:=P) o.type E hown hx h1 h63 hbytes hbase
 unfold Oper.wp execOp
 simp only[ho,resolve,invoke,builtin,Sem.run_bind,Sem.run_pure,Result.andThen_ok,List.map_toArray,List.map_cons,List.map_nil,hs,hxv,hr]
 exact hK _ _ (h v' w' h2 h3 h4)
end
end Go.Lo
