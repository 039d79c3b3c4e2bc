/- Rows of structs, and regions that store them. -/
import Derived.Deep.MidRow
import Derived.Sort.AssemblyPlain
import Derived.Test.YtcknpofnpabkiaaGreatRpAA
namespace Go.Lo
open Go.RowKit
structure RowE {α:Type} (enc:α→List Value) (S:Nat):Prop where
 len:∀ x,(enc x).length=S
 one:∀ x,∀ v∈enc x,v.oneCell'=true
 pos:0<S
section
variable {α:Type} {enc:α→List Value} {S:Nat} {T:TypeId} {P:Program}
structure RowC (enc:α→List Value) (T:TypeId) (w0:World) (g:Nat) (rest:List Value) (d:Array α) (w:World):Prop where
 blk:Blk w g T (d.toList.flatMap enc++rest).toArray
 os:w.os=w0.os
 tape:w.tape=w0.tape
 output:w.output=w0.output
 size:w0.heap.size≤w.heap.size
 other:∀ b,b<w0.heap.size→b≠g→w.heap[b]?=w0.heap[b]?
variable {w0 w w':World} {g:Nat} {rest:List Value} {d:Array α}
theorem RowC.drewN (h:RowC enc T w0 g rest d w) (n:Nat):RowC enc T w0 g rest d (w.drewN n):=⟨h.blk,h.os,h.tape,h.output,h.size,h.other⟩
theorem RowC.drew (h:RowC enc T w0 g rest d w):RowC enc T w0 g rest d w.drew:=⟨h.blk,h.os,h.tape,h.output,h.size,h.other⟩
theorem RowC.self (h:RowC enc T w0 g rest d w):RowC enc T w g rest d w:=⟨h.blk,rfl,rfl,rfl,n'r _,fun _ _ _=>rfl⟩
theorem RowC.trans {d':Array α} (h:RowC enc T w0 g rest d w) (k:RowC enc T w g rest d' w'):RowC enc T w0 g rest d' w':=
 ⟨k.blk,k.os.trans h.os,k.tape.trans h.tape,k.output.trans h.output,n't h.size k.size,fun b hb hne=>(k.other b (Nat.lt_of_lt_of_le hb h.size) hne).trans (h.other b hb hne)⟩
theorem RowC.below {B:Nat} (h:RowC enc T w0 g rest d w) (hb:Below B w w') (hB:w.heap.size≤B):RowC enc T w0 g rest d w':=
 ⟨h.blk.below hb (by have:=h.blk.lt;omega),hb.os.trans h.os,hb.tape.trans h.tape,hb.output.trans h.output,n't h.size hb.size,fun b hlt hne=>(hb.block b (by have:=h.size;omega)).trans (h.other b hlt hne)⟩
theorem RowC.call (h:RowC enc T w0 g rest d w) (hb:Below w.heap.size w w'):RowC enc T w0 g rest d w':=h.below hb (n'r _)
theorem RowC.alloc (h:RowC enc T w0 g rest d w) (o:Obj):RowC enc T w0 g rest d (w.alloc o):=h.call ((b'r _ _).alloc (n'r _) _)
theorem RowC.far (h:RowC enc T w0 g rest d w) {p:Addr} (hp:w0.heap.size≤p.block) (hg:g<w0.heap.size) (u:Value):RowC enc T w0 g rest d (w.setCell p u):=
 ⟨h.blk.far (by omega) u,h.os,h.tape,h.output,by simpa[World.setCell] using h.size,fun b hb hne=>(Below.heap_setCell w p u b (by omega)).trans (h.other b hb hne)⟩
theorem get_of [Inhabited α] {d:Array α} {i:Nat} (hi:i<d.size):d.toList[i]'(by simpa using hi)=d[i]!:=by rw[getElem!_pos d i hi];simp
variable [Inhabited α]
theorem RowC.range (E:RowE enc S) (h:RowC enc T w0 g rest d w) {i:Nat} (hi:i<d.size):w.rangeAt g (i*S) (enc d[i]!):=fun j v hv=>by
 have hj:j<S:=by
  have:=(List.getElem?_eq_some_iff.1 hv).1
  rw[E.len] at this
  exact this
 have hlt:i*S+j<(d.toList.flatMap enc).length:=by
  rw[flat_len E.len]
  have:=Nat.mul_le_mul_right S (show i+1≤d.toList.length by simp only[Array.length_toList];omega)
  rw[Nat.succ_mul] at this
  omega
 rw[h.blk.cell,q'a,List.getElem?_append_left hlt,flat_get E.len d.toList i j hj (by simpa using hi),get_of hi]
 exact hv
theorem RowC.there (E:RowE enc S) (h:RowC enc T w0 g rest d w) {i:Nat} (hi:i<d.size):w.there g (i*S) S:=fun j hj =>
 ⟨(h.range E hi).isSome j (by rw[E.len];exact hj),h.blk.free _⟩
structure RowT (P:Program) (T:TypeId) (S:Nat):Prop where
 und:∃ d,P.underlying T=some d∧d.isRow=true
 info:(P.info? T).map (·.size)=some S
omit [Inhabited α] in
theorem RowC.heap (h:RowC enc T w0 g rest d w) {W:World} (hW:W.heap=w.heap):Blk W g T (d.toList.flatMap enc++rest).toArray:=by
 unfold Blk
 rw[hW]
 exact h.blk
theorem RowC.load (E:RowE enc S) (R:RowT P T S) (h:RowC enc T w0 g rest d w) {i:Nat} (hi:i<d.size):∀ W:World,W.heap=w.heap→(Instr.loadAt T (.pointer (some ⟨g,i*S,none⟩))).run P W=.ok (.agg (enc d[i]!).toArray) W:=by
 intro W hW
 obtain ⟨t,h1,h2⟩:=R.und
 have k:RowC enc T W g rest d W:=⟨h.heap hW,rfl,rfl,rfl,n'r _,fun _ _ _=>rfl⟩
 exact run_loadAt_mid W g (i*S) T (enc d[i]!) t (k.range E hi) h1 h2 (by rw[E.len];exact R.info)
omit [Inhabited α] in
theorem setCells_heap:∀ (vs:List Value) (o:Nat) (cur:Array Value) (w:World),Blk w g T cur→o+vs.length≤cur.size→Blk (w.setCells g o vs) g T (splice cur.toList o vs).toArray
 | [],o,cur,w,h,_=>by simpa[World.setCells,splice] using h
 | v :: r,o,cur,w,h,hl=>by
  have hl':o+(r.length+1)≤cur.size:=by simpa using hl
  have h1:=setCells_heap r (o+1) _ _ (h.set_ o v) (by simp;omega)
  simp only[World.setCells]
  have e:splice (cur.setIfInBounds o v).toList (o+1) r=splice cur.toList o (v :: r):=by
   have ho:o<cur.toList.length:=by simp;omega
   unfold splice
   simp only[Array.toList_setIfInBounds,List.length_cons,List.drop_set,List.take_set]
   rw[if_pos (by omega)]
   have e1:(cur.toList.take (o+1)).set o v=cur.toList.take o++[v]:=by
    rw[t'k ho,List.set_append_right _ _ (by simp;omega)]
    simp[show min o cur.size=o by simp at ho;omega]
   rw[e1,show o+(r.length+1)=o+1+r.length by omega]
   simp
  rw[e] at h1
  exact h1
omit [Inhabited α] in
theorem setCells_far:∀ (vs:List Value) (o:Nat) (w:World) (b:Nat),b≠g→(w.setCells g o vs).heap[b]?=w.heap[b]?
 | [],_,_,_,_=>rfl
 | v :: r,o,w,b,hb=>by
  simp only[World.setCells]
  rw[setCells_far r (o+1) _ b hb]
  exact Below.heap_setCell w _ v b hb
omit [Inhabited α] in
theorem setCells_same:∀ (vs:List Value) (o:Nat) (w:World),(w.setCells g o vs).os=w.os∧(w.setCells g o vs).tape=w.tape∧(w.setCells g o vs).output=w.output∧(w.setCells g o vs).heap.size=w.heap.size
 | [],_,_=>⟨rfl,rfl,rfl,rfl⟩
 | v :: r,o,w=>by
  simp only[World.setCells]
  obtain ⟨h1,h2,h3,h4⟩:=setCells_same r (o+1) (w.setCell ⟨g,o,none⟩ v)
  exact ⟨h1,h2,h3,h4.trans (by simp[World.setCell])⟩
omit [Inhabited α] in
theorem flat_splice (E:RowE enc S) (l:List α) (rest:List Value) (i:Nat) (hi:i<l.length) (x:α):splice (l.flatMap enc++rest) (i*S) (enc x)=(l.set i x).flatMap enc++rest:=by
 have hl:(l.flatMap enc).length=l.length*S:=flat_len E.len l
 have hm:=Nat.mul_le_mul_right S (show i+1≤l.length by omega)
 rw[Nat.succ_mul] at hm
 unfold splice
 rw[E.len,List.take_append_of_le_length (by omega),List.drop_append_of_le_length (by omega),flat_take E.len,show i*S+S=(i+1)*S by rw[Nat.succ_mul],flat_drop E.len]
 have e:l.set i x=l.take i++x :: l.drop (i+1):=by
  rw[List.set_eq_take_append_cons_drop,if_pos hi]
 rw[e]
 simp
omit [Inhabited α] in
theorem RowC.set (E:RowE enc S) (h:RowC enc T w0 g rest d w) {i:Nat} (hi:i<d.size) (x:α):RowC enc T w0 g rest (d.setIfInBounds i x) (w.setCells g (i*S) (enc x)):=by
 obtain ⟨s1,s2,s3,s4⟩:=setCells_same (g:=g) (enc x) (i*S) w
 refine ⟨?_,s1.trans h.os,s2.trans h.tape,s3.trans h.output,by rw[s4];exact h.size,fun b hb hne=>(setCells_far _ _ _ _ hne).trans (h.other b hb hne)⟩
 have hm:=Nat.mul_le_mul_right S (show i+1≤d.toList.length by simp only[Array.length_toList];omega)
 rw[Nat.succ_mul] at hm
 have k:=setCells_heap (enc x) (i*S) _ _ h.blk (by
  simp only[List.size_toArray,l'a]
  rw[E.len,flat_len E.len]
  omega)
 simp only[flat_splice E d.toList rest i (by simpa using hi) x] at k
 rw[Array.toList_setIfInBounds]
 exact k
theorem RowC.store (E:RowE enc S) (R:RowT P T S) (h:RowC enc T w0 g rest d w) {i:Nat} (hi:i<d.size) (x:α):∃ W,(Instr.storeAt T (.pointer (some ⟨g,i*S,none⟩)) (.agg (enc x).toArray)).run P w=.ok () W∧RowC enc T w0 g rest (d.setIfInBounds i x) W:=
 ⟨_,run_storeAt_mid w g (i*S) T (enc x).toArray (by simp only[List.size_toArray,E.len];exact h.there E hi) (by simp only[List.size_toArray,E.len];exact R.info) (all_oneCell_toArray (E.one x)),by simpa using h.set E hi x⟩
theorem RowC.swp (E:RowE enc S) (R:RowT P T S) (h:RowC enc T w0 g rest d w) {i j:Nat} (hi:i<d.size) (hj:j<d.size) :
  ∃ W1 W2,(Instr.storeAt T (.pointer (some ⟨g,i*S,none⟩)) (.agg (enc d[j]!).toArray)).run P w=.ok () W1∧(Instr.storeAt T (.pointer (some ⟨g,j*S,none⟩)) (.agg (enc d[i]!).toArray)).run P W1=.ok () W2∧RowC enc T w0 g rest (Sort.swp d i j) W2:=by
 obtain ⟨W1,h1,k1⟩:=h.store E R hi d[j]!
 obtain ⟨W2,h2,k2⟩:=k1.store E R (i:=j) (by simpa using hj) d[i]!
 exact ⟨W1,W2,h1,h2,k2⟩
end
theorem wpStill_load {P:Program} {ops:Array Oper} {w:World} {Q:Act→Prop} {a:Act} {o:Oper} {rest:List Oper} (hw:Region.wanted o (yielded ops a.tmps)=true) (ty:TypeId) (x:Operand) (ho:o.op=.load ty x) (v:Value)
  (hrun:(Instr.loadAt ty (a.eval x)).run P w=.ok v w) (h:wpStill P ops w Q rest (a.put o.dst v)):wpStill P ops w Q (o :: rest) a:=by
 unfold wpStill
 rw[if_pos hw]
 unfold Oper.still execOp
 simp only[ho,Sem.run_bind,hrun,Result.andThen_ok,Sem.run_pure,Oper.stillUpon_value]
 exact h
def opnds:Op→Option (List Operand)
 | .move x | .assign x=>some [x]
 | .binOp _ _ x y _=>some [x,y]
 | .indexAddr _ x y=>some [x,y]
 | .fieldAddr _ x _=>some [x]
 | .field _ x _=>some [x]
 | .convert _ _ x=>some [x]
 | .unOp _ _ x=>some [x]
 | .load _ x=>some [x]
 | .store _ x y=>some [x,y]
 | _=>none
theorem execOp_congr {ρ σ:Operand→Value} {o:Oper} {l:List Operand} (h:opnds o.op=some l) (hl:∀ x∈l,ρ x=σ x):execOp ρ o=execOp σ o:=by
 unfold execOp
 cases hop:o.op <;> simp only[opnds,hop,o'j,reduceCtorEq] at h <;> subst h <;> simp only[List.mem_cons,List.not_mem_nil,or_false,forall_eq_or_imp,forall_eq] at hl <;> simp[hl]
def isStore:Op→Bool
 | .store ..=>true
 | _=>false
def isLoad:Op→Bool
 | .load ..=>true
 | _=>false
section
variable (ops:Array Oper)
def dstOf (i:Nat):Option Tmp:=(ops[i]?).bind (·.dst)
def aft (i j:Nat):Bool:=((ops[j]?).map fun o=>o.after.any fun e=>Region.binds .any e && e.on==i).getD false
def tmpOk (j:Nat):Operand→Bool
 | .tmp k=>(List.range ops.size).all fun i=>dstOf ops i != some k || aft ops i j
 | _=>true
def ssaOp (s1 s2 size i:Nat) (o:Oper):Bool:=
 o.guard.isNone && (match opnds o.op with | none=>false | some l=>l.all (tmpOk ops i)) &&
  (if i=s1∨i=s2 then o.dst.isNone else !isStore o.op && (match o.dst with | none=>false | some k=>decide (k<size) && (List.range i).all fun j=>dstOf ops j != some k)) && (!isLoad o.op || aft ops i s1)
def ssaB (s1 s2 size:Nat):Bool:=
 decide (s1<ops.size) && (decide (s2<ops.size) && (aft ops s1 s2 && (List.range ops.size).all fun i=>((ops[i]?).map (ssaOp ops s1 s2 size i)).getD true))
def putAll (vs:Array Value) (a:Act):Nat→Act
 | 0=>a
 | n+1=>(putAll vs a n).put (dstOf ops n) (vs.getD n undef)
end
section
variable {P:Program} {ops:Array Oper} {Q:Exit→Act→World→Prop} {vs:Array Value} {a:Act}
theorem put_size (b:Act) (d:Option Tmp) (v:Value):(b.put d v).tmps.size=b.tmps.size:=by
 cases d <;> simp[Act.put]
theorem put_def (b:Act) (d:Option Tmp) (v:Value):(b.put d v).defers=b.defers:=by
 cases d <;> simp[Act.put]
theorem put_get (b:Act) (d:Option Tmp) (v:Value) (k:Nat):(b.put d v).tmps.getD k undef=if d=some k∧k<b.tmps.size then v else b.tmps.getD k undef:=by
 cases d with
 | none=>simp[Act.put]
 | some j =>
  simp only[Act.put,Array.getD_eq_getD_getElem?,Array.getElem?_setIfInBounds,o'j]
  by_cases hj:j=k
  ·subst hj
   by_cases hk:j<b.tmps.size
   ·simp[hk]
   ·simp[hk]
  ·simp[hj]
theorem putAll_size (n:Nat):(putAll ops vs a n).tmps.size=a.tmps.size:=by
 induction n with
 | zero=>rfl
 | succ n ih=>rw[putAll,put_size,ih]
theorem putAll_def (n:Nat):(putAll ops vs a n).defers=a.defers:=by
 induction n with
 | zero=>rfl
 | succ n ih=>rw[putAll,put_def,ih]
theorem putAll_other (k:Nat) (n:Nat) (h:∀ i,i<n→dstOf ops i≠some k):(putAll ops vs a n).tmps.getD k undef=a.tmps.getD k undef:=by
 induction n with
 | zero=>rfl
 | succ n ih =>
  rw[putAll,put_get,if_neg (fun hc=>h n (by omega) hc.1),ih fun i hi=>h i (by omega)]
theorem putAll_at (k:Nat) (hk:k<a.tmps.size):∀ (n i:Nat),i<n→dstOf ops i=some k→(∀ j,j<n→i<j→dstOf ops j≠some k)→(putAll ops vs a n).tmps.getD k undef=vs.getD i undef
 | 0,_,h,_,_=>by omega
 | n+1,i,h,hd,hu=>by
  by_cases hi:i=n
  ·subst hi
   rw[putAll,put_get,if_pos ⟨hd,by rw[putAll_size];exact hk⟩]
  ·rw[putAll,put_get,if_neg (fun hc=>hu n (by omega) (by omega) hc.1)]
   exact putAll_at k hk n i (by omega) hd fun j hj=>hu j (by omega)
theorem act_ext {x y:Act} (h1:x.defers=y.defers) (h2:x.tmps.size=y.tmps.size) (h3:∀ k,x.tmps.getD k undef=y.tmps.getD k undef):x=y:=by
 obtain ⟨xt,xd⟩:=x
 obtain ⟨yt,yd⟩:=y
 simp only at h1 h2 h3
 subst h1
 congr 1
 apply Array.ext h2
 intro i hi hj
 have:=h3 i
 simpa[Array.getD_eq_getD_getElem?,hi,hj] using this
structure SsaI (ops:Array Oper) (vs:Array Value) (a:Act) (s1 s2:Nat) (w0 w1 w2:World) (L:Array Bool) (b:Act) (W:World):Prop where
 size:b.tmps.size=a.tmps.size
 defs:b.defers=a.defers
 off:∀ k,(∀ i,L.getD i false=true→dstOf ops i≠some k)→b.tmps.getD k undef=a.tmps.getD k undef
 on:∀ i k,L.getD i false=true→dstOf ops i=some k→b.tmps.getD k undef=vs.getD i undef
 closed:∀ i j,L.getD j false=true→aft ops i j=true→L.getD i false=true
 wld:W=if L.getD s2 false then w2 else if L.getD s1 false then w1 else w0
theorem wp_region_ssa {id:Nat} {w:World} (s1 s2:Nat) (vs:Array Value) (w1 w2:World) (A:Act) (hA:putAll ops vs a ops.size=A) (hm:P.follows .mixedOrders=true) (hord:ordB ops=true) (hB:ssaB ops s1 s2 a.tmps.size=true)
  (hrun:∀ i o,ops[i]?=some o→i≠s1→i≠s2→∀ W,(isLoad o.op=true→W=w.drew)→(execOp A.eval o).run P W=.ok (.value (vs.getD i undef)) W)
  (h1:∀ o,ops[s1]?=some o→(execOp A.eval o).run P w.drew=.ok .skip w1) (h2:∀ o,ops[s2]?=some o→(execOp A.eval o).run P w1=.ok .skip w2)
  (hf:Q .normal A w2):(Code.region id ops true).wp P Q a w:=by
 subst hA
 simp only[ssaB,Bool.and_eq_true,decide_eq_true_eq] at hB
 obtain ⟨hs1,hs2,h12,hall⟩:=hB
 have hop:∀ i o,ops[i]?=some o→ssaOp ops s1 s2 a.tmps.size i o=true:=fun i o ho=>by
  have hi:i<ops.size:=(Array.getElem?_eq_some_iff.1 ho).1
  have:=List.all_eq_true.1 hall i (List.mem_range.2 hi)
  simpa[ho] using this
 have hdst:∀ i o,ops[i]?=some o→i≠s1→i≠s2→∃ k,o.dst=some k∧k<a.tmps.size∧∀ j,j<i→dstOf ops j≠some k:=fun i o ho n1 n2=>by
  have:=hop i o ho
  simp only[ssaOp,Bool.and_eq_true] at this
  have h3:=this.1.2
  rw[if_neg (by omega),Bool.and_eq_true] at h3
  replace h3:=h3.2
  cases hd:o.dst with
  | none=>rw[hd] at h3;cases h3
  | some k =>
   rw[hd] at h3
   simp only[Bool.and_eq_true,decide_eq_true_eq] at h3
   refine ⟨k,rfl,h3.1,fun j hj => ?_⟩
   have:=List.all_eq_true.1 h3.2 j (List.mem_range.2 hj)
   simpa using this
 have hnone:∀ i o,ops[i]?=some o→i=s1∨i=s2→o.dst=none:=fun i o ho hs=>by
  have:=hop i o ho
  simp only[ssaOp,Bool.and_eq_true] at this
  have h3:=this.1.2
  rw[if_pos hs] at h3
  simpa using h3
 have huniq:∀ i j k,dstOf ops i=some k→dstOf ops j=some k→i=j:=fun i j k hi hj=>by
  obtain ⟨oi,hoi,hdi⟩:=Option.bind_eq_some_iff.1 hi
  obtain ⟨oj,hoj,hdj⟩:=Option.bind_eq_some_iff.1 hj
  have ni:¬ (i=s1∨i=s2):=fun hc=>by rw[hnone i oi hoi hc] at hdi;cases hdi
  have nj:¬ (j=s1∨j=s2):=fun hc=>by rw[hnone j oj hoj hc] at hdj;cases hdj
  obtain ⟨k1,e1,_,u1⟩:=hdst i oi hoi (by omega) (by omega)
  obtain ⟨k2,e2,_,u2⟩:=hdst j oj hoj (by omega) (by omega)
  rw[hdi] at e1
  rw[hdj] at e2
  obtain rfl:=o'i e1
  obtain rfl:=o'i e2
  rcases Nat.lt_trichotomy i j with h | h | h
  ·exact absurd hi (u2 i h)
  ·exact h
  ·exact absurd hj (u1 j h)
 have hlt:∀ i k,dstOf ops i=some k→i<ops.size∧k<a.tmps.size:=fun i k hi=>by
  obtain ⟨oi,hoi,hdi⟩:=Option.bind_eq_some_iff.1 hi
  have ni:¬ (i=s1∨i=s2):=fun hc=>by rw[hnone i oi hoi hc] at hdi;cases hdi
  obtain ⟨k1,e1,l1,_⟩:=hdst i oi hoi (by omega) (by omega)
  rw[hdi] at e1
  obtain rfl:=o'i e1
  exact ⟨(Array.getElem?_eq_some_iff.1 hoi).1,l1⟩
 have hfin:∀ i k,dstOf ops i=some k→(putAll ops vs a ops.size).tmps.getD k undef=vs.getD i undef:=fun i k hi =>
  putAll_at k (hlt i k hi).2 ops.size i (hlt i k hi).1 hi fun j _ hj hc=>by have:=huniq i j k hi hc;omega
 refine wp_region_inv0 (fun a0 w0 L b W=>SsaI ops vs a s1 s2 w.drew w1 w2 L b W) hm hord ?_ ?_ ?_
 ·refine ⟨rfl,rfl,fun _ _=>rfl,fun i k h => ?_,fun i j h => ?_,?_⟩
  ·simp[Array.getD_eq_getD_getElem?,Array.getElem?_replicate] at h
   split at h <;> simp at h
  ·simp[Array.getD_eq_getD_getElem?,Array.getElem?_replicate] at h
   split at h <;> simp at h
  ·have hz:∀ s,(Array.replicate ops.size false).getD s false=false:=fun s=>by
    simp only[Array.getD_eq_getD_getElem?,Array.getElem?_replicate]
    split <;> rfl
   rw[hz,hz]
   rfl
 ·intro L b W i hL hi hI
  have hilt:=(ready_mem hi).1
  have hun:=getD_low (ready_mem hi).2
  obtain ⟨o,ho⟩:∃ o,ops[i]?=some o:=⟨_,Array.getElem?_eq_getElem hilt⟩
  have hso:=hop i o ho
  simp only[ssaOp,Bool.and_eq_true] at hso
  obtain ⟨⟨⟨hg,hx⟩,_⟩,hld⟩:=hso
  have hgd:o.guard=none:=by simpa using hg
  have haft:∀ j,aft ops j i=true→L.getD j false=true:=fun j hj=>by
   have h3:=ready_after hi ho
   simp only[aft,ho,Option.map_some,o'g] at hj
   obtain ⟨e,he,h4⟩:=Array.any_eq_true'.1 hj
   simp only[Bool.and_eq_true,beq_iff_eq] at h4
   have h5:=(Array.all_eq_true'.1 h3) e he
   rw[h4.1,h4.2] at h5
   simpa using h5
  have hev:execOp b.eval o=execOp (putAll ops vs a ops.size).eval o:=by
   cases hl:opnds o.op with
   | none=>rw[hl] at hx;cases hx
   | some l =>
    rw[hl] at hx
    refine execOp_congr hl fun x hxl => ?_
    have h3:=List.all_eq_true.1 hx x hxl
    cases x with
    | tmp k =>
     simp only[Act.eval]
     by_cases hk:∃ j,dstOf ops j=some k
     ·obtain ⟨j,hj⟩:=hk
      have h4:=List.all_eq_true.1 h3 j (List.mem_range.2 (hlt j k hj).1)
      rw[hj] at h4
      simp only[bne_self_eq_false,Bool.false_or] at h4
      rw[hI.on j k (haft j h4) hj,hfin j k hj]
     ·rw[hI.off k fun j _ hc=>hk ⟨j,hc⟩,putAll_other k ops.size fun j _ hc=>hk ⟨j,hc⟩]
    | const v=>rfl
    | global g=>rfl
    | func f=>rfl
  have hstep:∀ (v:Value) (W':World),(W'=if (L.setIfInBounds i true).getD s2 false then w2 else if (L.setIfInBounds i true).getD s1 false then w1 else w.drew)→(∀ k,o.dst=some k→v=vs.getD i undef) →
    SsaI ops vs a s1 s2 w.drew w1 w2 (L.setIfInBounds i true) (b.put o.dst v) W':=by
   intro v W' hW hv
   have hg2:∀ j,(L.setIfInBounds i true).getD j false=if j=i then true else L.getD j false:=fun j=>getD_set (by rw[hL];exact hilt)
   have hdo:dstOf ops i=o.dst:=by simp[dstOf,ho]
   refine ⟨by rw[put_size,hI.size],by rw[put_def,hI.defs],fun k hk => ?_,fun j k hj hd => ?_,fun p q hq hpq => ?_,hW⟩
   ·rw[put_get,if_neg (fun hc=>hk i (by rw[hg2,if_pos rfl]) (by rw[hdo];exact hc.1))]
    refine hI.off k fun j hj=>hk j ?_
    rw[hg2]
    split
    ·rfl
    ·exact hj
   ·rw[hg2] at hj
    rw[put_get]
    by_cases hji:j=i
    ·subst hji
     rw[hdo] at hd
     rw[if_pos ⟨hd,by rw[hI.size];exact (hlt j k (hdo.trans hd)).2⟩,hv k hd]
    ·rw[if_neg hji] at hj
     rw[if_neg (fun hc=>hji (huniq j i k hd (hdo.trans hc.1)))]
     exact hI.on j k hj hd
   ·rw[hg2] at hq ⊢
    by_cases hqi:q=i
    ·subst hqi
     split
     ·rfl
     ·exact haft p hpq
    ·rw[if_neg hqi] at hq
     split
     ·rfl
     ·exact hI.closed p q hq hpq
  have hw:Region.wanted o (yielded ops b.tmps)=true:=by simp[Region.wanted,hgd]
  have hg2:∀ j,(L.setIfInBounds i true).getD j false=if j=i then true else L.getD j false:=fun j=>getD_set (by rw[hL];exact hilt)
  have hne12:s1≠s2:=fun hc=>by
   have h3:=ord_of hord
   rw[hc] at h12
   cases ho2:ops[s2]? with
   | none=>simp[aft,ho2] at h12
   | some o2 =>
    simp only[aft,ho2,Option.map_some,o'g] at h12
    obtain ⟨e,he,h4⟩:=Array.any_eq_true'.1 h12
    simp only[Bool.and_eq_true,beq_iff_eq] at h4
    have:=h3 s2 o2 ho2 e he h4.1
    omega
  unfold wpOp
  simp only[ho,hw,if_true]
  refine .inl ?_
  unfold Oper.wp
  rw[hev]
  have hWd:=hI.wld
  by_cases e1:i=s1
  ·subst e1
   have hn2:L.getD s2 false=false:=by
    cases hc:L.getD s2 false with
    | false=>rfl
    | true=>have:=hI.closed i s2 hc h12;rw[hun] at this;cases this
   rw[hn2,hun] at hWd
   simp only[Bool.false_eq_true,if_false] at hWd
   rw[hWd,h1 o ho]
   exact hstep _ _ (by
    have q2:=hg2 s2
    rw[if_neg (show ¬ s2=i by omega)] at q2
    have q1:=hg2 i
    rw[if_pos rfl] at q1
    rw[q2,q1,hn2]
    rfl) fun k hk=>by rw[hnone i o ho (.inl rfl)] at hk;cases hk
  ·by_cases e2:i=s2
   ·subst e2
    rw[hun,haft s1 h12] at hWd
    simp only[Bool.false_eq_true,if_false,if_true] at hWd
    rw[hWd,h2 o ho]
    exact hstep _ _ (by rw[hg2,if_pos rfl];rfl) fun k hk=>by rw[hnone i o ho (.inr rfl)] at hk;cases hk
   ·have hr:=hrun i o ho e1 e2 W (fun hl=>by
     have h3:aft ops i s1=true:=by rw[hl] at hld;simpa using hld
     have n1:L.getD s1 false=false:=by
      cases hc:L.getD s1 false with
      | false=>rfl
      | true=>have:=hI.closed i s1 hc h3;rw[hun] at this;cases this
     have n2:L.getD s2 false=false:=by
      cases hc:L.getD s2 false with
      | false=>rfl
      | true=>have:=hI.closed s1 s2 hc h12;rw[n1] at this;cases this
     rw[n1,n2] at hWd
     exact hWd)
    rw[hr]
    refine hstep _ _ ?_ fun _ _=>rfl
    have q2:=hg2 s2
    rw[if_neg (show ¬ s2=i by omega)] at q2
    have q1:=hg2 s1
    rw[if_neg (show ¬ s1=i by omega)] at q1
    rw[q2,q1]
    exact hWd
 ·intro L b W hA hI
  have hb:b=putAll ops vs a ops.size:=by
   refine act_ext (hI.defs.trans (putAll_def _).symm) (hI.size.trans (putAll_size _).symm) fun k => ?_
   by_cases hk:∃ j,dstOf ops j=some k
   ·obtain ⟨j,hj⟩:=hk
    rw[hI.on j k (hA j (hlt j k hj).1) hj,hfin j k hj]
   ·rw[hI.off k fun j _ hc=>hk ⟨j,hc⟩,putAll_other k ops.size fun j _ hc=>hk ⟨j,hc⟩]
  have hW:=hI.wld
  rw[hA s2 hs2] at hW
  rw[hb,hW]
  exact hf
@[reducible] def RunOp (P:Program) (A:Act) (w0:World) (o:Oper) (v:Value):Prop:=
 match o.op with
 | .load ty x=>(Instr.loadAt ty (A.eval x)).run P w0=.ok v w0
 | .store _ _ _=>True
 | _=>∀ W,(execOp A.eval o).run P W=.ok (.value v) W
def RunL (P:Program) (A:Act) (w0:World):List Oper→List Value→Prop
 | o :: r,v :: vs=>RunOp P A w0 o v∧RunL P A w0 r vs
 | _,_=>True
theorem RunL.at {A:Act} {w0:World}:∀ {l:List Oper} {vs:List Value},RunL P A w0 l vs→∀ i o,l[i]?=some o→i<vs.length→RunOp P A w0 o (vs.getD i undef)
 | [],_,_,_,_,h,_=>by simp at h
 | _ :: _,[],_,_,_,_,h=>by simp at h
 | x :: r,v :: vs,h,0,o,ho,_=>by
  simp only[q'z,o'j] at ho
  subst ho
  simpa using h.1
 | x :: r,v :: vs,h,i+1,o,ho,hi=>by
  simp only[q's] at ho
  simpa using h.2.at i o ho (by simpa using hi)
def putL:List (Option Tmp)→List Value→Act→Act
 | d :: ds,v :: vs,a=>putL ds vs (a.put d v)
 | _,_,a=>a
theorem putL_append:∀ (ds:List (Option Tmp)) (vs:List Value) (a:Act) (d:Option Tmp) (v:Value),ds.length=vs.length→putL (ds++[d]) (vs++[v]) a=(putL ds vs a).put d v
 | [],[],_,_,_,_=>rfl
 | [],_ :: _,_,_,_,h=>by simp at h
 | _ :: _,[],_,_,_,h=>by simp at h
 | x :: ds,y :: vs,a,d,v,h=>by
  simp only[List.cons_append,putL]
  exact putL_append ds vs _ d v (by simpa using h)
theorem putAll_eq (n:Nat) (hn:n≤vs.size):putAll ops vs a n=putL ((List.range n).map (dstOf ops)) (vs.toList.take n) a:=by
 induction n with
 | zero=>rfl
 | succ n ih =>
  have h2:vs.toList.take (n+1)=vs.toList.take n++[vs.getD n undef]:=by
   have hlt:n<vs.toList.length:=by simp;omega
   rw[t'k hlt]
   simp[Array.getD_eq_getD_getElem?,show n<vs.size by omega]
  rw[putAll,ih (by omega),List.range_succ,List.map_append,h2]
  exact (putL_append _ _ _ _ _ (by simp;omega)).symm
theorem wp_region_swp {id:Nat} {w:World} (s1 s2:Nat) (ds:List (Option Tmp)) (vs:List Value) (w1 w2:World) (A:Act) (hA:putL ds vs a=A) (hds:(List.range ops.size).map (dstOf ops)=ds) (hvs:vs.length=ds.length)
  (hm:P.follows .mixedOrders=true) (hord:ordB ops=true) (hB:ssaB ops s1 s2 a.tmps.size=true) (hrun:RunL P A w.drew ops.toList vs)
  (t1 t2:TypeId) (x1 y1 x2 y2:Operand) (o1:(ops[s1]?).map (·.op)=some (.store t1 x1 y1)) (o2:(ops[s2]?).map (·.op)=some (.store t2 x2 y2))
  (h1:(Instr.storeAt t1 (A.eval x1) (A.eval y1)).run P w.drew=.ok () w1) (h2:(Instr.storeAt t2 (A.eval x2) (A.eval y2)).run P w1=.ok () w2)
  (hf:Q .normal A w2):(Code.region id ops true).wp P Q a w:=by
 have hn:vs.length=ops.size:=by rw[hvs,←hds];simp
 have hA2:putAll ops vs.toArray a ops.size=A:=by
  rw[putAll_eq _ (by simp[hn]),hds,←hA]
  simp[←hn]
 have hst:∀ (s:Nat) (t:TypeId) (x y:Operand),(ops[s]?).map (·.op)=some (.store t x y)→∀ o,ops[s]?=some o→o.op=.store t x y:=fun s t x y h o ho=>by
  rw[ho] at h
  simpa using h
 have hS:=hB
 simp only[ssaB,Bool.and_eq_true,decide_eq_true_eq] at hS
 refine wp_region_ssa s1 s2 vs.toArray w1 w2 A hA2 hm hord hB (fun i o ho n1 n2 W hW => ?_) (fun o ho => ?_) (fun o ho => ?_) hf
 ·have hi:i<ops.size:=(Array.getElem?_eq_some_iff.1 ho).1
  have hr:=hrun.at i o (by simpa using ho) (by omega)
  have hso:=List.all_eq_true.1 hS.2.2.2 i (List.mem_range.2 hi)
  simp only[ho,Option.map_some,o'g,ssaOp,Bool.and_eq_true] at hso
  have hv:vs.toArray.getD i undef=vs.getD i undef:=by simp[Array.getD_eq_getD_getElem?,List.getD_eq_getElem?_getD]
  rw[hv]
  cases hop:o.op
  case load ty x =>
   simp only[RunOp,hop] at hr
   rw[hW (by simp[isLoad,hop])]
   unfold execOp
   simp only[hop,Sem.run_bind,hr,Result.andThen_ok,Sem.run_pure]
  case store ty x y =>
   have h3:=hso.1.2
   rw[if_neg (by omega),hop] at h3
   simp[isStore] at h3
  all_goals (simp only[RunOp,hop] at hr;exact hr W)
 ·unfold execOp
  simp only[hst s1 t1 x1 y1 o1 o ho,Sem.run_bind,h1,Result.andThen_ok,Sem.run_pure]
 ·unfold execOp
  simp only[hst s2 t2 x2 y2 o2 o ho,Sem.run_bind,h2,Result.andThen_ok,Sem.run_pure]
end
section
variable (ops:Array Oper)
end
section
variable {P:Program} {ops:Array Oper} {Q:Exit→Act→World→Prop} {vs:Array Value} {a:Act}
end
end Go.Lo
