/- The arguments are opened: what all arguments share. -/
import Derived.Test.YtcknpofnpabkiaaGreatRows
import Derived.Deep.Slices
import Derived.Deep.Fields
import Derived.ChangeSame
import Derived.Below
import Derived.Test.YtcknpofnpabkiaaGreatRpAA
import Derived.Test.YtcknpofnpabkiaaGreatRpAB
import Derived.Test.YtcknpofnpabkiaaGreatRpAN
namespace Go.Proofs.YtcknpofnpabkiaaGreat
open Go.RowKit Go.Lo Go.ChangeShapes Go.WideShapes Go.Deep
theorem spot_of_cell {w:World} {a:Addr} {u:Value} (h:w.cell? a=some u):a=⟨a.block,a.off,none⟩∧a.block<w.heap.size:=by
 unfold World.cell? at h
 obtain ⟨b,o,s⟩:=a
 split at h
 ·rename_i c _ _ hg
  cases s with
  | some s=>simp at h
  | none =>
   refine ⟨rfl,?_⟩
   rcases Nat.lt_or_ge b w.heap.size with hlt | hge
   ·exact hlt
   ·simp[Array.getElem?_eq_none hge] at hg
 ·cases h
section
variable {H:Type} {enc:TypeId × Value→H} {P:Program}
theorem post_of_below {f:Func} {s:ChangeSpec} {apart fresh handsOn again:Bool} {W W':World} {args:Array Value} {v:Value} {ds gs:List (DataW H)} {before pa pv:List MemPlace}
  (hW:DataW.Whole enc P f.params.toList s.vars apart W args.toList ds gs before)
  (hres:∀ (b:Nat) (sp:Nat→Bool) (hd:Bool),DataW.TrodAll enc P W' b sp hd f.resultTypes.toList (v.resultList f.resultTypes.size) (s.fn H (ds++gs)).results [])
  (hargs:∀ sp:Nat→Bool,(∀ p∈before,sp p.block=true)→DataW.TrodAll enc P W' 0 sp true f.params.toList args.toList (s.fn H (ds++gs)).args pa)
  (hvars:∀ sp:Nat→Bool,(∀ p∈before,sp p.block=true)→DataW.TrodVars enc P W' sp s.vars (s.fn H (ds++gs)).vars pv)
  (hps:before=pa++pv) (hb:Below W.heap.size W W')
  (hok:∀ (j:Nat) (t:TypeId) (r:Value),f.resultTypes[j]?=some t→(v.resultList f.resultTypes.size)[j]?=some r→Value.okWide P W' .any 0 t r) :
  s.post enc P f apart fresh handsOn again W args v W':=by
 have hlt:∀ p∈before,p.block<W.heap.size:=fun p hp=>hW.lt p hp
 have hold:∀ p∈before,(fun b=>decide (b<W.heap.size)) p.block=true:=fun p hp=>by simpa using hlt p hp
 refine ⟨ds,gs,before,[],pa,pv,hW,hres _ _ _,hargs _ hold,hvars _ hold,World.keptBut_mono (fun p hp=>⟨hp,?_⟩) (hb.frame (·∈before)),fun _ => ?_⟩
 ·rw[hps,List.mem_append] at hp
  exact Or.inr hp
 ·obtain ⟨_,_,_,_,_,hz,hn⟩:=hW
  refine ⟨hok,_,_,([]++pa)++pv,⟨[]++pa,pv,trodAll_append (hargs _ (fun _ _=>rfl)) (hres _ _ _),hvars _ (fun _ _=>rfl),rfl,?_,?_⟩,?_⟩
  ·intro b off hp
   have hin:MemPlace.cell b off∈before:=by rw[hps];simpa using hp
   rw[hb.frozen (hlt _ hin)]
   exact hz b off hin
  ·intro ha
   have:=hn ha
   rw[hps] at this
   simpa using this
  ·intro p hp _
   rw[hps]
   simpa using hp
end
theorem trod_behind {H:Type} {enc:TypeId × Value→H} {P:Program} {t:TypeId} (hl:laidOutB P=true) (hr:P.readableRec t=true) (hrow:t<P.types.size) {W W':World} {v:Value} {d:DataW H} {ps:List MemPlace} {sp:Nat→Bool}
  (h:DataW.Trod enc P W 0 (fun _=>true) true t v d ps) (hb:Below W.heap.size W W') (hlt:∀ x∈ps,x.block<W.heap.size) (hsp:∀ x∈ps,sp x.block=true) :
  DataW.Trod enc P W' 0 sp true t v d ps:=
 WideElems.Trod_stays hl hr hrow h (fun x hx=>hb.same (hlt x hx)) hsp
section
variable {H:Type} {enc:TypeId × Value→H} {P:Program} {W:World} {spare:Nat→Bool} {held:Bool}
theorem slice_arg {t e:TypeId} {s:Nat} {α:Type} [Inhabited α] {f:α→List Value} (Q:α→DataW H→Prop) (hs:0<s) (hf:∀ x,(f x).length=s) (hu:P.underlying t=some (.slice e)) (hC:P.cellsOf e=s)
  (elem:∀ n cs' (y:DataW H × List MemPlace),DataW.trod enc P W 0 spare held n e cs'=some y→∃ x:α,cs'=f x∧Q x y.1)
  {fuel:Nat} {v:Value} {x:DataW H × List MemPlace} (h:DataW.trod enc P W 0 spare held fuel t [v]=some x) :
  ∃ l:List α,Sl W W.heap.size s v l.length (l.flatMap f) ∧
   ((x.1=.nil∧l=[])∨∃ (D:Nat→DataW H) (rest:List (DataW H)),x.1=.slice ((List.range l.length).map D) rest∧∀ i (hi:i<l.length),Q l[i] (D i)):=by
 rcases open_slice hu h with ⟨hcs,rfl⟩ | ⟨a,len,cap,m,n,D,Pl,hcs,hb,hl,hm,hmm,rfl,hi⟩
 ·simp only[List.cons.injEq,and_true] at hcs
  subst hcs
  exact ⟨[],Sl.nil _ _ _,.inl ⟨rfl,rfl⟩⟩
 ·simp only[List.cons.injEq,and_true] at hcs
  subst hcs
  have hml:len≤m:=by rw[hmm];split <;> omega
  have key:∀ i,i<len→∃ q:α,(∀ j u,(f q)[j]?=some u→W.cell? (a.add (i*s+j))=some u)∧Q q (D i):=by
   intro i hil
   obtain ⟨cs',hc,ht'⟩:=hi i (by omega)
   obtain ⟨q,rfl,hq⟩:=elem _ _ _ ht'
   rw[hC] at hc
   obtain ⟨_,hcl,hat⟩:=World.cells?_some hc
   refine ⟨q,fun j u hu => ?_,hq⟩
   have hj:j<s:=by
    have:=(List.getElem?_eq_some_iff.1 hu).1
    rw[hf] at this;exact this
   rw[←Go.Deep.add_add,hat j hj,hu]
  obtain ⟨q,hq⟩:=choose_lt key
  have hal:((List.range len).map q).length=len:=by simp
  refine ⟨(List.range len).map q,?_,.inr ⟨D,_,by rw[hal],fun i hi' => ?_⟩⟩
  ·refine ⟨flat_len hf _,some a,cap,by rw[hal],by omega,hm,fun hn => ?_⟩
   rw[hal] at hn
   have hx0:(f (q 0))[0]?=some ((f (q 0))[0]'(by rw[hf];exact hs)):=List.getElem?_eq_getElem _
   have h0:=(hq 0 hn).1 0 _ hx0
   have hz:a.add (0*s+0)=a:=by unfold Addr.add;split <;> simp_all
   rw[hz] at h0
   obtain ⟨hsp,hlt⟩:=spot_of_cell h0
   refine ⟨a.block,a.off,by rw[←hsp],hlt,fun j u hu => ?_⟩
   have hj:j<len*s:=by
    have:=(List.getElem?_eq_some_iff.1 hu).1
    rw[flat_len hf,hal] at this;exact this
   have hjd:j / s<len:=(Nat.div_lt_iff_lt_mul hs).2 hj
   have hk:j / s<((List.range len).map q).length:=by rw[hal];exact hjd
   have hm':j%s<s:=Nat.mod_lt _ hs
   have hj3:j / s*s+j%s=j:=Nat.div_add_mod' j s
   rw[←hj3,flat_get hf _ _ _ hm' hk] at hu
   have:=(hq (j / s) hjd).1 (j%s) u (by simpa using hu)
   rw[hsp,addr_add,hj3] at this
   exact this
  ·have:=(hq i (by rw[hal] at hi';exact hi')).2
   simpa using this
theorem bulk_pos (d:DataW H):1≤Rows.uptoBulk d:=by
 cases d with
 | lit l=>cases l <;> simp[Rows.uptoBulk]
 | _=>simp[Rows.uptoBulk]
theorem bulk_sum {α:Type} (g:α→Nat) (l:List α) (L:List (DataW H)) (hl:l.length=L.length) (h:∀ i (h1:i<l.length) (h2:i<L.length),g l[i]≤Rows.uptoBulk L[i]):(l.map g).sum≤Rows.uptoBulkAll L:=by
 induction l generalizing L with
 | nil=>simp
 | cons a l ih =>
  cases L with
  | nil=>simp at hl
  | cons d L =>
   have h0:=h 0 (by simp) (by simp)
   have:=ih L (by simpa using hl) (fun i h1 h2=>by have:=h (i+1) (by simpa using h1) (by simpa using h2);simpa using this)
   simp only[List.getElem_cons_zero] at h0
   simp only[List.map_cons,List.sum_cons,Rows.uptoBulkAll]
   omega
theorem bulk_slice {α:Type} (g:α→Nat) (l:List α) (D:Nat→DataW H) (rest:List (DataW H)) (h:∀ i (hi:i<l.length),g l[i]≤Rows.uptoBulk (D i)):(l.map g).sum+1≤Rows.uptoBulk (.slice ((List.range l.length).map D) rest):=by
 have:=bulk_sum g l ((List.range l.length).map D) (by simp) (fun i h1 h2=>by simpa using h i h1)
 simp only[Rows.uptoBulk]
 omega
theorem sum_ones {α:Type} (l:List α):(l.map fun _=>(1:Nat)).sum=l.length:=by
 induction l with
 | nil=>rfl
 | cons a l ih=>rw[List.map_cons,List.sum_cons,ih,List.length_cons,Nat.add_comm]
theorem bulk_part {d:DataW H} {parts:List (DataW H)} (h:d∈parts):Rows.uptoBulk d≤Rows.uptoBulkAll parts:=by
 induction parts with
 | nil=>cases h
 | cons a l ih =>
  simp only[Rows.uptoBulkAll]
  rcases List.mem_cons.1 h with rfl | h
  ·omega
  ·have:=ih h;omega
theorem struct_cells {e:TypeId} {fs:Array Field} {n:Nat} {cs:List Value} {y:DataW H × List MemPlace} (he:P.underlying e=some (.struct fs)) (hone:oneCellFields P fs=true) (hC:P.cellsOf e=fs.size)
  (h:DataW.trod enc P W 0 spare held n e cs=some y) :
  cs.length=fs.size∧∃ (ys:List (DataW H × List MemPlace)) (n':Nat),y.1=.agg (ys.map (·.1))∧∀ (j:Nat) (f:Field),fs[j]?=some f→∃ v z,cs[j]?=some v∧ys[j]?=some z∧DataW.trod enc P W 0 spare held n' f.type [v]=some z:=by
 obtain ⟨ys,n',_,rfl,hlen,hyl,hf⟩:=DataW.trod_struct he h
 rw[hC] at hlen
 refine ⟨hlen,ys,n',rfl,fun j f hj => ?_⟩
 obtain ⟨ho,hk⟩:=hone_of hone j f hj
 have hjl:j<fs.size:=(Array.getElem?_eq_some_iff.1 hj).1
 have h1:=hf j f hj
 rw[ho,hk] at h1
 have hone':(cs.drop j).take 1=[cs[j]'(by omega)]:=by
  rw[List.drop_eq_getElem_cons (by omega)]
  rfl
 rw[hone'] at h1
 have hys:ys[j]?=some (ys[j]'(by omega)):=List.getElem?_eq_getElem (by omega)
 exact ⟨_,_,List.getElem?_eq_getElem (by omega),hys,h1.trans hys⟩
theorem u32_range {n:Int} (h:(Lit.int .u32 n).wf=true):0≤n∧n≤4294967295:=by
 simpa[Lit.wf,IntKind.min,IntKind.max,IntKind.signed,IntKind.bits] using h
end
set_option maxRecDepth 100000
section
variable {H:Type} {enc:TypeId × Value→H} {W:World} {spare:Nat→Bool} {held:Bool}
theorem u8_range {n:Int} (h:(Lit.int .u8 n).wf=true):0≤n∧n≤255:=by
 simpa[Lit.wf,IntKind.min,IntKind.max,IntKind.signed,IntKind.bits] using h
theorem rhop_elem (n:Nat) (cs:List Value) (y:DataW H × List MemPlace) (h:DataW.trod enc Tryz.prog W 0 spare held n 131 cs=some y):∃ x:Hop,cs=hopCells x∧True:=by
 obtain ⟨hlen,ys,n',hd,hf⟩:=struct_cells Tryz.underlying131 (by kernel_rfl) (by kernel_rfl) h
 have hlen':cs.length=3:=hlen
 match cs,hlen' with
 | [c0,c1,c2],_ =>
  obtain ⟨v0,y0,e0,_,t0⟩:=hf 0 _ rfl
  obtain ⟨v1,y1,e1,_,t1⟩:=hf 1 _ rfl
  obtain ⟨v2,y2,e2,_,t2⟩:=hf 2 _ rfl
  obtain ⟨n0,k0,_,_⟩:=DataW.trod_int Tryz.underlying23 t0
  obtain ⟨n1,k1,_,_⟩:=DataW.trod_int Tryz.underlying23 t1
  obtain ⟨n2,k2,_⟩:=DataW.trod_bool Tryz.underlying4 t2
  simp only[List.cons.injEq,and_true] at k0 k1 k2
  simp only[q'z,q's,o'j] at e0 e1 e2
  subst k0 k1 k2 e0 e1 e2
  exact ⟨(n0,n1,n2),rfl,trivial⟩
def RWayOk (W:World) (x:WayV) (d:DataW H):Prop:=
 (0≤x.n.bits∧x.n.bits<256)∧((0≤x.n.addr∧x.n.addr≤4294967295)∧0≤x.n.router∧x.n.router≤4294967295)∧(0≤x.n.cost∧x.n.cost≤4294967295)∧∃ hops:List Hop,x.len=hops.length∧Sl W W.heap.size 3 (.slice x.A x.len x.cap) hops.length (hops.flatMap hopCells)∧hops.length+1≤Rows.uptoBulk d
theorem rway_elem (n:Nat) (cs:List Value) (y:DataW H × List MemPlace) (h:DataW.trod enc Tryz.prog W 0 spare held n 126 cs=some y):∃ x:WayV,cs=wayL x∧RWayOk W x y.1:=by
 obtain ⟨ys,n',_,rfl,hlen,hyl,hf⟩:=DataW.trod_struct Tryz.underlying126 h
 have hlen':cs.length=10:=hlen.trans (by kernel_rfl)
 have hyl':ys.length=9:=hyl
 match cs,hlen',ys,hyl' with
 | [c0,c1,c2,c3,c4,c5,c6,c7,c8,c9],_,[y0,y1,y2,y3,y4,y5,y6,y7,y8],_ =>
  have t0:DataW.trod enc Tryz.prog W 0 spare held n' 45 [c0,c1]=some y0:=by
   have h:=hf 0 _ rfl
   change DataW.trod enc Tryz.prog W 0 spare held n' 45 (([c0,c1,c2,c3,c4,c5,c6,c7,c8,c9].drop 0).take (Tryz.prog.cellsOf 45))=some y0 at h
   rw[show Tryz.prog.cellsOf 45=2 by kernel_rfl] at h
   exact h
  have t1:DataW.trod enc Tryz.prog W 0 spare held n' 23 [c2]=some y1:=by
   have h:=hf 1 _ rfl
   change DataW.trod enc Tryz.prog W 0 spare held n' 23 (([c0,c1,c2,c3,c4,c5,c6,c7,c8,c9].drop 2).take (Tryz.prog.cellsOf 23))=some y1 at h
   rw[show Tryz.prog.cellsOf 23=1 by kernel_rfl] at h
   exact h
  have t2:DataW.trod enc Tryz.prog W 0 spare held n' 5 [c3]=some y2:=by
   have h:=hf 2 _ rfl
   change DataW.trod enc Tryz.prog W 0 spare held n' 5 (([c0,c1,c2,c3,c4,c5,c6,c7,c8,c9].drop 3).take (Tryz.prog.cellsOf 5))=some y2 at h
   rw[show Tryz.prog.cellsOf 5=1 by kernel_rfl] at h
   exact h
  have t3:DataW.trod enc Tryz.prog W 0 spare held n' 5 [c4]=some y3:=by
   have h:=hf 3 _ rfl
   change DataW.trod enc Tryz.prog W 0 spare held n' 5 (([c0,c1,c2,c3,c4,c5,c6,c7,c8,c9].drop 4).take (Tryz.prog.cellsOf 5))=some y3 at h
   rw[show Tryz.prog.cellsOf 5=1 by kernel_rfl] at h
   exact h
  have t4:DataW.trod enc Tryz.prog W 0 spare held n' 23 [c5]=some y4:=by
   have h:=hf 4 _ rfl
   change DataW.trod enc Tryz.prog W 0 spare held n' 23 (([c0,c1,c2,c3,c4,c5,c6,c7,c8,c9].drop 5).take (Tryz.prog.cellsOf 23))=some y4 at h
   rw[show Tryz.prog.cellsOf 23=1 by kernel_rfl] at h
   exact h
  have t5:DataW.trod enc Tryz.prog W 0 spare held n' 23 [c6]=some y5:=by
   have h:=hf 5 _ rfl
   change DataW.trod enc Tryz.prog W 0 spare held n' 23 (([c0,c1,c2,c3,c4,c5,c6,c7,c8,c9].drop 6).take (Tryz.prog.cellsOf 23))=some y5 at h
   rw[show Tryz.prog.cellsOf 23=1 by kernel_rfl] at h
   exact h
  have t6:DataW.trod enc Tryz.prog W 0 spare held n' 23 [c7]=some y6:=by
   have h:=hf 6 _ rfl
   change DataW.trod enc Tryz.prog W 0 spare held n' 23 (([c0,c1,c2,c3,c4,c5,c6,c7,c8,c9].drop 7).take (Tryz.prog.cellsOf 23))=some y6 at h
   rw[show Tryz.prog.cellsOf 23=1 by kernel_rfl] at h
   exact h
  have t7:DataW.trod enc Tryz.prog W 0 spare held n' 23 [c8]=some y7:=by
   have h:=hf 7 _ rfl
   change DataW.trod enc Tryz.prog W 0 spare held n' 23 (([c0,c1,c2,c3,c4,c5,c6,c7,c8,c9].drop 8).take (Tryz.prog.cellsOf 23))=some y7 at h
   rw[show Tryz.prog.cellsOf 23=1 by kernel_rfl] at h
   exact h
  have t8:DataW.trod enc Tryz.prog W 0 spare held n' 122 [c9]=some y8:=by
   have h:=hf 8 _ rfl
   change DataW.trod enc Tryz.prog W 0 spare held n' 122 (([c0,c1,c2,c3,c4,c5,c6,c7,c8,c9].drop 9).take (Tryz.prog.cellsOf 122))=some y8 at h
   rw[show Tryz.prog.cellsOf 122=1 by kernel_rfl] at h
   exact h
  obtain ⟨_,zs,n'',_,hz⟩:=struct_cells Tryz.underlying45 (by kernel_rfl) (by kernel_rfl) t0
  obtain ⟨v0,z0,e0,_,s0⟩:=hz 0 _ rfl
  obtain ⟨v1,z1,e1,_,s1⟩:=hz 1 _ rfl
  obtain ⟨n0,k0,_,w0⟩:=DataW.trod_int Tryz.underlying23 s0
  obtain ⟨n1,k1,_,w1⟩:=DataW.trod_int Tryz.underlying5 s1
  obtain ⟨n2,k2,_,w2⟩:=DataW.trod_int Tryz.underlying23 t1
  obtain ⟨n3,k3,_,w3⟩:=DataW.trod_int Tryz.underlying5 t2
  obtain ⟨n4,k4,_,w4⟩:=DataW.trod_int Tryz.underlying5 t3
  obtain ⟨n5,k5,_,w5⟩:=DataW.trod_int Tryz.underlying23 t4
  obtain ⟨n6,k6,_,w6⟩:=DataW.trod_int Tryz.underlying23 t5
  obtain ⟨n7,k7,_,w7⟩:=DataW.trod_int Tryz.underlying23 t6
  obtain ⟨n8,k8,_,w8⟩:=DataW.trod_int Tryz.underlying23 t7
  simp only[List.cons.injEq,and_true] at k0 k1 k2 k3 k4 k5 k6 k7 k8
  simp only[q'z,q's,o'j] at e0 e1
  subst k0 k1 k2 k3 k4 k5 k6 k7 k8 e0 e1
  obtain ⟨hops,hsl,hbk⟩:=slice_arg (f:=hopCells) (s:=3) (fun _ _=>True) (by omega) hopCells_len Tryz.underlying122 (by kernel_rfl) rhop_elem t8
  obtain ⟨hfl,A,c,rfl,hrest⟩:=hsl
  have r1:=u8_range w1
  refine ⟨⟨⟨n0,n1,n2,n3,n4,n5,n6,n7,n8⟩,A,hops.length,c⟩,rfl,⟨r1.1,by show n1<256;omega⟩,⟨u32_range w0,u32_range w2⟩,u32_range w6,hops,rfl,⟨hfl,A,c,rfl,hrest⟩,?_⟩
  have hb8:Rows.uptoBulk y8.1+1≤Rows.uptoBulk (DataW.agg ([y0,y1,y2,y3,y4,y5,y6,y7,y8].map (·.1))):=by
   have h2:=bulk_part (d:=y8.1) (parts:=[y0,y1,y2,y3,y4,y5,y6,y7,y8].map (·.1)) (by simp)
   simp only[Rows.uptoBulk]
   omega
  refine n't ?_ hb8
  rcases hbk with ⟨h1,rfl⟩ | ⟨D,rest,hD,_⟩
  ·have:=bulk_pos y8.1
   simp
  ·rw[hD]
   have h1:=bulk_slice (fun _=>1) hops D rest (fun i _=>bulk_pos _)
   rw[sum_ones] at h1
   omega
end
theorem sum_mem {α:Type} (g:α→Nat) (l:List α):∀ x∈l,g x≤(l.map g).sum:=by
 induction l with
 | nil=>intro x hx;cases hx
 | cons a r ih =>
  intro x hx
  simp only[List.map_cons,List.sum_cons]
  rcases List.mem_cons.1 hx with rfl | hx
  ·omega
  ·have:=ih x hx;omega
theorem sum_len {α:Type} (g:α→Nat) (l:List α) (h:∀ x∈l,1≤g x):l.length≤(l.map g).sum:=by
 induction l with
 | nil=>simp
 | cons a r ih =>
  simp only[List.map_cons,List.sum_cons,List.length_cons]
  have h1:=ih fun x hx=>h x (by simp[hx])
  have h2:=h a (by simp)
  omega
section
variable {H:Type} {enc:TypeId × Value→H} {W:World} {spare:Nat→Bool} {held:Bool}
def WayIs (W:World) (m:Nat) (x:WayV):Prop:=(0≤x.n.bits∧x.n.bits<256)∧((0≤x.n.addr∧x.n.addr≤4294967295)∧0≤x.n.router∧x.n.router≤4294967295)∧(0≤x.n.cost∧x.n.cost≤4294967295)∧∃ hops:List Hop,x.len=hops.length∧Sl W W.heap.size 3 (.slice x.A x.len x.cap) hops.length (hops.flatMap hopCells)∧hops.length≤m
theorem ways_arg {n:Nat} {c:Value} {y:DataW H × List MemPlace} (h:DataW.trod enc Tryz.prog W 0 spare held n 39 [c]=some y) :
  ∃ lw:List WayV,Sl W W.heap.size 10 c lw.length (lw.flatMap wayL)∧lw.length≤Rows.uptoBulk y.1∧∀ x∈lw,WayIs W (Rows.uptoBulk y.1) x:=by
 obtain ⟨lw,hsl,hbk⟩:=slice_arg (f:=wayL) (s:=10) (fun x d=>RWayOk W x d) (by omega) wayL_len Tryz.underlying39 (by kernel_rfl) rway_elem h
 refine ⟨lw,hsl,?_⟩
 rcases hbk with ⟨h1,rfl⟩ | ⟨D,rest,hD,hq⟩
 ·exact ⟨Nat.zero_le _,fun x hx=>by cases hx⟩
 ·have h1:=bulk_slice (fun x:WayV=>x.len+1) lw D rest (fun i hi=>by
   obtain ⟨-,-,-,hops,h2,-,h3⟩:=hq i hi
   omega)
  rw[←hD] at h1
  have h4:=sum_len (fun x:WayV=>x.len+1) lw (fun x _=>by omega)
  refine ⟨by omega,fun x hx => ?_⟩
  have h5:=sum_mem (fun x:WayV=>x.len+1) lw x hx
  obtain ⟨i,hi,rfl⟩:=List.mem_iff_getElem.1 hx
  obtain ⟨hb,ha,hc,hops,h2,h6,h3⟩:=hq i hi
  exact ⟨hb,ha,hc,hops,h2,h6,by omega⟩
end
theorem ways_ofI {W:World} {m:Nat} {lv:Value} {lw:List WayV} (hsl:Sl W W.heap.size 10 lv lw.length (lw.flatMap wayL)) (h:∀ x∈lw,WayIs W m x) (hm:m≤2000000):∃ R,WaysIn W W.heap.size lv R lw∧ArgI R:=by
 obtain ⟨f,hf⟩:=Classical.axiomOfChoice (r:=fun (x:WayV) (hops:List Hop)=>x∈lw→(0≤x.n.bits∧x.n.bits<256)∧Sl W W.heap.size 3 (.slice x.A x.len x.cap) hops.length (hops.flatMap hopCells)∧hops.length≤m) (fun x=>by
  by_cases hx:x∈lw
  ·obtain ⟨h1,h2,h3,hops,h4,h5,h6⟩:=h x hx
   exact ⟨hops,fun _=>⟨h1,h5,h6⟩⟩
  ·exact ⟨[],fun hx'=>absurd hx' hx⟩)
 refine ⟨lw.map fun x=>(x.n,f x),⟨hsl,by simp,fun k hk hk2 => ?_⟩,fun s hs => ?_⟩
 ·have:=hf lw[k] (g'm hk)
  simp only[List.getElem_map]
  exact this.2.1
 ·obtain ⟨x,hx,rfl⟩:=List.mem_map.1 hs
  obtain ⟨h1,-,h5⟩:=hf x hx
  exact ⟨h1,by show (f x).length≤_;omega⟩
end Go.Proofs.YtcknpofnpabkiaaGreat
