/- The arguments are opened: what all arguments share. -/
import Derived.Test.YtcknpofnpabkiaaGreatRows
import Derived.Deep.Slices
import Derived.Deep.Fields
import Derived.ChangeSame
import Derived.Below
import Derived.Test.YtcknpofnpabkiaaGreatInAA
namespace Go.Proofs.YtcknpofnpabkiaaGreat
open Go.RowKit Go.Lo Go.ChangeShapes Go.WideShapes Go.Deep
theorem spot_of_cell {w:World} {a:Addr} {u:Value} (h:w.cell? a=some u):a=⟨a.block,a.off,none⟩∧a.block<w.heap.size:=by
 unfold World.cell? at h
 obtain ⟨b,o,s⟩:=a
 split at h
 ·rename_i c _ _ hg
  cases s with
  | some s=>simp at h
  | none =>
   refine ⟨rfl,?_⟩
   rcases Nat.lt_or_ge b w.heap.size with hlt | hge
   ·exact hlt
   ·simp[Array.getElem?_eq_none hge] at hg
 ·cases h
section
variable {H:Type} {enc:TypeId × Value→H} {P:Program}
theorem post_of_below {f:Func} {s:ChangeSpec} {apart fresh handsOn again:Bool} {W W':World} {args:Array Value} {v:Value} {ds gs:List (DataW H)} {before pa pv:List MemPlace}
  (hW:DataW.Whole enc P f.params.toList s.vars apart W args.toList ds gs before)
  (hres:∀ (b:Nat) (sp:Nat→Bool) (hd:Bool),DataW.TrodAll enc P W' b sp hd f.resultTypes.toList (v.resultList f.resultTypes.size) (s.fn H (ds++gs)).results [])
  (hargs:∀ sp:Nat→Bool,(∀ p∈before,sp p.block=true)→DataW.TrodAll enc P W' 0 sp true f.params.toList args.toList (s.fn H (ds++gs)).args pa)
  (hvars:∀ sp:Nat→Bool,(∀ p∈before,sp p.block=true)→DataW.TrodVars enc P W' sp s.vars (s.fn H (ds++gs)).vars pv)
  (hps:before=pa++pv) (hb:Below W.heap.size W W')
  (hok:∀ (j:Nat) (t:TypeId) (r:Value),f.resultTypes[j]?=some t→(v.resultList f.resultTypes.size)[j]?=some r→Value.okWide P W' .any 0 t r) :
  s.post enc P f apart fresh handsOn again W args v W':=by
 have hlt:∀ p∈before,p.block<W.heap.size:=fun p hp=>hW.lt p hp
 have hold:∀ p∈before,(fun b=>decide (b<W.heap.size)) p.block=true:=fun p hp=>by simpa using hlt p hp
 refine ⟨ds,gs,before,[],pa,pv,hW,hres _ _ _,hargs _ hold,hvars _ hold,World.keptBut_mono (fun p hp=>⟨hp,?_⟩) (hb.frame (·∈before)),fun _ => ?_⟩
 ·rw[hps,List.mem_append] at hp
  exact Or.inr hp
 ·obtain ⟨_,_,_,_,_,hz,hn⟩:=hW
  refine ⟨hok,_,_,([]++pa)++pv,⟨[]++pa,pv,trodAll_append (hargs _ (fun _ _=>rfl)) (hres _ _ _),hvars _ (fun _ _=>rfl),rfl,?_,?_⟩,?_⟩
  ·intro b off hp
   have hin:MemPlace.cell b off∈before:=by rw[hps];simpa using hp
   rw[hb.frozen (hlt _ hin)]
   exact hz b off hin
  ·intro ha
   have:=hn ha
   rw[hps] at this
   simpa using this
  ·intro p hp _
   rw[hps]
   simpa using hp
end
theorem trod_behind {H:Type} {enc:TypeId × Value→H} {P:Program} {t:TypeId} (hl:laidOutB P=true) (hr:P.readableRec t=true) (hrow:t<P.types.size) {W W':World} {v:Value} {d:DataW H} {ps:List MemPlace} {sp:Nat→Bool}
  (h:DataW.Trod enc P W 0 (fun _=>true) true t v d ps) (hb:Below W.heap.size W W') (hlt:∀ x∈ps,x.block<W.heap.size) (hsp:∀ x∈ps,sp x.block=true) :
  DataW.Trod enc P W' 0 sp true t v d ps:=
 WideElems.Trod_stays hl hr hrow h (fun x hx=>hb.same (hlt x hx)) hsp
section
variable {H:Type} {enc:TypeId × Value→H} {P:Program} {W:World} {spare:Nat→Bool} {held:Bool}
theorem slice_arg {t e:TypeId} {s:Nat} {α:Type} [Inhabited α] {f:α→List Value} (Q:α→DataW H→Prop) (hs:0<s) (hf:∀ x,(f x).length=s) (hu:P.underlying t=some (.slice e)) (hC:P.cellsOf e=s)
  (elem:∀ n cs' (y:DataW H × List MemPlace),DataW.trod enc P W 0 spare held n e cs'=some y→∃ x:α,cs'=f x∧Q x y.1)
  {fuel:Nat} {v:Value} {x:DataW H × List MemPlace} (h:DataW.trod enc P W 0 spare held fuel t [v]=some x) :
  ∃ l:List α,Sl W W.heap.size s v l.length (l.flatMap f) ∧
   ((x.1=.nil∧l=[])∨∃ (D:Nat→DataW H) (rest:List (DataW H)),x.1=.slice ((List.range l.length).map D) rest∧∀ i (hi:i<l.length),Q l[i] (D i)):=by
 rcases open_slice hu h with ⟨hcs,rfl⟩ | ⟨a,len,cap,m,n,D,Pl,hcs,hb,hl,hm,hmm,rfl,hi⟩
 ·simp only[List.cons.injEq,and_true] at hcs
  subst hcs
  exact ⟨[],Sl.nil _ _ _,.inl ⟨rfl,rfl⟩⟩
 ·simp only[List.cons.injEq,and_true] at hcs
  subst hcs
  have hml:len≤m:=by rw[hmm];split <;> omega
  have key:∀ i,i<len→∃ q:α,(∀ j u,(f q)[j]?=some u→W.cell? (a.add (i*s+j))=some u)∧Q q (D i):=by
   intro i hil
   obtain ⟨cs',hc,ht'⟩:=hi i (by omega)
   obtain ⟨q,rfl,hq⟩:=elem _ _ _ ht'
   rw[hC] at hc
   obtain ⟨_,hcl,hat⟩:=World.cells?_some hc
   refine ⟨q,fun j u hu => ?_,hq⟩
   have hj:j<s:=by
    have:=(List.getElem?_eq_some_iff.1 hu).1
    rw[hf] at this;exact this
   rw[←Go.Deep.add_add,hat j hj,hu]
  obtain ⟨q,hq⟩:=choose_lt key
  have hal:((List.range len).map q).length=len:=by simp
  refine ⟨(List.range len).map q,?_,.inr ⟨D,_,by rw[hal],fun i hi' => ?_⟩⟩
  ·refine ⟨flat_len hf _,some a,cap,by rw[hal],by omega,hm,fun hn => ?_⟩
   rw[hal] at hn
   have hx0:(f (q 0))[0]?=some ((f (q 0))[0]'(by rw[hf];exact hs)):=List.getElem?_eq_getElem _
   have h0:=(hq 0 hn).1 0 _ hx0
   have hz:a.add (0*s+0)=a:=by unfold Addr.add;split <;> simp_all
   rw[hz] at h0
   obtain ⟨hsp,hlt⟩:=spot_of_cell h0
   refine ⟨a.block,a.off,by rw[←hsp],hlt,fun j u hu => ?_⟩
   have hj:j<len*s:=by
    have:=(List.getElem?_eq_some_iff.1 hu).1
    rw[flat_len hf,hal] at this;exact this
   have hjd:j / s<len:=(Nat.div_lt_iff_lt_mul hs).2 hj
   have hk:j / s<((List.range len).map q).length:=by rw[hal];exact hjd
   have hm':j%s<s:=Nat.mod_lt _ hs
   have hj3:j / s*s+j%s=j:=Nat.div_add_mod' j s
   rw[←hj3,flat_get hf _ _ _ hm' hk] at hu
   have:=(hq (j / s) hjd).1 (j%s) u (by simpa using hu)
   rw[hsp,addr_add,hj3] at this
   exact this
  ·have:=(hq i (by rw[hal] at hi';exact hi')).2
   simpa using this
theorem struct_cells {e:TypeId} {fs:Array Field} {n:Nat} {cs:List Value} {y:DataW H × List MemPlace} (he:P.underlying e=some (.struct fs)) (hone:oneCellFields P fs=true) (hC:P.cellsOf e=fs.size)
  (h:DataW.trod enc P W 0 spare held n e cs=some y) :
  cs.length=fs.size∧∃ (ys:List (DataW H × List MemPlace)) (n':Nat),y.1=.agg (ys.map (·.1))∧∀ (j:Nat) (f:Field),fs[j]?=some f→∃ v z,cs[j]?=some v∧ys[j]?=some z∧DataW.trod enc P W 0 spare held n' f.type [v]=some z:=by
 obtain ⟨ys,n',_,rfl,hlen,hyl,hf⟩:=DataW.trod_struct he h
 rw[hC] at hlen
 refine ⟨hlen,ys,n',rfl,fun j f hj => ?_⟩
 obtain ⟨ho,hk⟩:=hone_of hone j f hj
 have hjl:j<fs.size:=(Array.getElem?_eq_some_iff.1 hj).1
 have h1:=hf j f hj
 rw[ho,hk] at h1
 have hone':(cs.drop j).take 1=[cs[j]'(by omega)]:=by
  rw[List.drop_eq_getElem_cons (by omega)]
  rfl
 rw[hone'] at h1
 have hys:ys[j]?=some (ys[j]'(by omega)):=List.getElem?_eq_getElem (by omega)
 exact ⟨_,_,List.getElem?_eq_getElem (by omega),hys,h1.trans hys⟩
theorem u32_range {n:Int} (h:(Lit.int .u32 n).wf=true):0≤n∧n≤4294967295:=by
 simpa[Lit.wf,IntKind.min,IntKind.max,IntKind.signed,IntKind.bits] using h
end
end Go.Proofs.YtcknpofnpabkiaaGreat
