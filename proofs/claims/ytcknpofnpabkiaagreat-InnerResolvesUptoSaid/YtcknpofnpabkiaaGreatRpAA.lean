/- What all walks share: slices that lie in memory, laws for regions, rows. -/
import Derived.WalkKit
import Derived.WalkSpells
import Derived.WalkLawsBesides
import Derived.Deep.QuietTactic
import Derived.BigQuiet
import Derived.StillTailTactics
import Derived.Deep.AppendLies
import Derived.Lib.Hide
import Derived.Maps.AppendAt
import Derived.Laws.CopyOwn
import Derived.Laws.AppendOwnNone
import Derived.OneCell
import Derived.Deep.RegionHeld3
import Derived.Deep.RegionLaw
import Derived.Deep.LoopGhost
import Derived.Deep.DeepCutAuto
import Derived.Deep.DeepFit
import Derived.Laws.ResultCell
import Derived.Laws.StructEq
import Derived.Carry
import Derived.Maps.OwnOps
import Derived.Maps.OwnSet
namespace Go.Lo
theorem q'z {α : Type _} {a : α} {l : List α} : (a :: l)[0]? = some a := List.getElem?_cons_zero
theorem q's {α : Type _} {a : α} {l : List α} {i : Nat} : (a :: l)[i + 1]? = l[i]? := List.getElem?_cons_succ
theorem q'a {α : Type _} {l : List α} {i : Nat} : l.toArray[i]? = l[i]? := by simp
theorem s'a {α : Type _} {l : List α} {i : Nat} {a : α} : l.toArray.setIfInBounds i a = (l.set i a).toArray := by simp
theorem s'z {α : Type _} {a b : α} {l : List α} : (a :: l).set 0 b = b :: l := rfl
theorem s's {α : Type _} {a b : α} {l : List α} {i : Nat} : (a :: l).set (i + 1) b = a :: l.set i b := rfl
theorem o'i {α : Type _} {a b : α} (h : some a = some b) : a = b := Option.some.inj h
theorem h'd {p : Prop} (h : p) : Go.RowKit.Hid p := h
theorem w'k {P : Program} {ops : Array Oper} {Q : Exit → Act → World → Prop} {i : Nat} {o : Oper} {K : Act → World → Prop} {a : Act} {w : World} (ho : ops[i]? = some o) (h : ∀ K' : Act → World → Prop, Go.RowKit.Hid (∀ a w, K a w → K' a w) → if Region.wanted o (yielded ops a.tmps) = true then Oper.wp P o a w K' Q else K' (a.put o.dst undef) w) : wpOp P ops Q i K a w := wpOp_step ho h
theorem n'r (n : Nat) : n ≤ n := Nat.le_refl n
theorem n't {a b c : Nat} (h : a ≤ b) (k : b ≤ c) : a ≤ c := Nat.le_trans h k
theorem b'r (B : Nat) (w : World) : Go.RowKit.Below B w w := Go.RowKit.Below.refl B w
theorem l'a {α : Type _} {as bs : List α} : (as ++ bs).length = as.length + bs.length := List.length_append
theorem g'm {α : Type _} {l : List α} {n : Nat} (h : n < l.length) : l[n]'h ∈ l := List.getElem_mem h
theorem d'f {p : Prop} [Decidable p] (h : ¬p) : decide p = false := decide_eq_false h
theorem d't {p : Prop} [Decidable p] (h : p) : decide p = true := decide_eq_true h
theorem o'j {α : Type _} (a b : α) : (some a = some b) = (a = b) := Option.some.injEq a b
theorem c'm {P : Program} {f : FuncId} {args : Array Value} {w : World} {R R' : Ending → World → Prop} (h : Calls P f args w R) (hr : ∀ e w', R e w' → R' e w') : Calls P f args w R' := Calls.mono h hr
theorem t'k {α : Type _} {l : List α} {i : Nat} (h : i < l.length) : l.take (i + 1) = l.take i ++ [l[i]] := List.take_succ_eq_append_getElem h
theorem b'n : false ≠ true := Bool.false_ne_true
theorem o'g {α : Type _} {a b : α} : (some a).getD b = a := rfl
end Go.Lo
namespace Go.Lo
open Go.RowKit
section lists
variable {α:Type} {f:α→List Value} {s:Nat}
theorem flat_len (hf:∀ x,(f x).length=s) (l:List α):(l.flatMap f).length=l.length*s:=by
 induction l with
 | nil=>simp
 | cons x r ih=>rw[List.flatMap_cons,List.length_append,hf,ih,List.length_cons,Nat.succ_mul];omega
theorem flat_get (hf:∀ x,(f x).length=s) (l:List α) (k j:Nat) (hj:j<s) (hk:k<l.length):(l.flatMap f)[k*s+j]?=(f (l[k]))[j]?:=by
 induction l generalizing k with
 | nil=>simp at hk
 | cons x r ih =>
  rw[List.flatMap_cons]
  cases k with
  | zero =>
   rw[List.getElem?_append_left (by rw[hf];omega)]
   simp
  | succ k =>
   rw[List.getElem?_append_right (by rw[hf,Nat.succ_mul];omega),hf,show (k+1)*s+j-s=k*s+j by rw[Nat.succ_mul];omega,ih k (by simpa using hk)]
   simp
theorem flat_take (hf:∀ x,(f x).length=s) (l:List α) (k:Nat):(l.flatMap f).take (k*s)=(l.take k).flatMap f:=by
 induction l generalizing k with
 | nil=>simp
 | cons x r ih =>
  cases k with
  | zero=>simp
  | succ k=>rw[List.take_succ_cons,List.flatMap_cons,List.flatMap_cons,List.take_append,hf,List.take_of_length_le (by rw[hf,Nat.succ_mul];omega),show (k+1)*s-s=k*s by rw[Nat.succ_mul];omega,ih]
theorem flat_drop (hf:∀ x,(f x).length=s) (l:List α) (k:Nat):(l.flatMap f).drop (k*s)=(l.drop k).flatMap f:=by
 induction l generalizing k with
 | nil=>simp
 | cons x r ih =>
  cases k with
  | zero=>simp
  | succ k=>rw[List.drop_succ_cons,List.flatMap_cons,List.drop_append,hf,List.drop_of_length_le (by rw[hf,Nat.succ_mul];omega),show (k+1)*s-s=k*s by rw[Nat.succ_mul];omega,ih];simp
theorem flat_set2 {a b:α→Value} (l:List α) (k:Nat) (x:α):((l.flatMap fun y=>[a y,b y]).set (k*2) (a x)).set (k*2+1) (b x)=(l.set k x).flatMap fun y=>[a y,b y]:=by
 induction l generalizing k with
 | nil=>simp
 | cons y r ih =>
  cases k with
  | zero=>simp
  | succ k =>
   have:=ih k
   simp only[List.flatMap_cons,List.cons_append,List.nil_append,List.set_cons_succ,show (k+1)*2=k*2+1+1 by omega]
   rw[this]
theorem flat_insert (hf:∀ x,(f x).length=s) (l:List α) (z:List Value) (hz:z.length=s) (j:Nat) (hj:j≤l.length) (x:α) :
  splice (splice (l.flatMap f++z) ((j+1)*s) ((l.drop j).flatMap f)) (j*s) (f x)=(l.take j++x :: l.drop j).flatMap f:=by
 have hA:(l.flatMap f++z).length=(l.length+1)*s:=by rw[List.length_append,flat_len hf,hz,Nat.succ_mul]
 have hle:(j+1)*s≤(l.length+1)*s:=Nat.mul_le_mul_right _ (by omega)
 have hjs:(j+1)*s=j*s+s:=Nat.succ_mul _ _
 have hls:(l.length+1)*s=l.length*s+s:=Nat.succ_mul _ _
 have hD:((l.drop j).flatMap f).length=(l.length-j)*s:=by rw[flat_len hf,List.length_drop]
 have hsub:(l.length-j)*s=l.length*s-j*s:=Nat.sub_mul _ _ _
 have h1:splice (l.flatMap f++z) ((j+1)*s) ((l.drop j).flatMap f)=(l.flatMap f++z).take ((j+1)*s)++(l.drop j).flatMap f:=by
  have e:(l.flatMap f++z).drop ((j+1)*s+((l.drop j).flatMap f).length)=[]:=List.drop_of_length_le (by rw[hA,hD];omega)
  unfold splice
  rw[e,List.append_nil]
 have hT:((l.flatMap f++z).take ((j+1)*s)).length=(j+1)*s:=by rw[List.length_take,hA];omega
 have h2:((l.flatMap f++z).take ((j+1)*s)++(l.drop j).flatMap f).take (j*s)=(l.take j).flatMap f:=by
  rw[List.take_append_of_le_length (by rw[hT];omega),List.take_take,show min (j*s) ((j+1)*s)=j*s by omega,
   List.take_append_of_le_length (by rw[flat_len hf];exact Nat.mul_le_mul_right _ hj),flat_take hf]
 have h3:((l.flatMap f++z).take ((j+1)*s)++(l.drop j).flatMap f).drop (j*s+(f x).length)=(l.drop j).flatMap f:=by
  have e:((l.flatMap f++z).take ((j+1)*s)).drop ((j+1)*s)=[]:=List.drop_of_length_le (by rw[hT];exact Nat.le_refl _)
  rw[hf,←hjs,List.drop_append,hT,Nat.sub_self,e];rfl
 rw[h1]
 unfold splice
 rw[h2,h3,List.flatMap_append,List.flatMap_cons]
end lists
theorem addr_add (g k i:Nat):(⟨g,k,none⟩:Addr).add i=⟨g,k+i,none⟩:=by unfold Addr.add;split <;> simp_all
def Sl (w:World) (B s:Nat) (v:Value) (n:Nat) (xs:List Value):Prop:=
 xs.length=n*s∧∃ A c,v=.slice A n c∧n≤c∧c≤maxLen∧(0<n→∃ b off,A=some ⟨b,off,none⟩∧b<B∧∀ j u,xs[j]?=some u→w.cell? ⟨b,off+j,none⟩=some u)
section
variable {w w':World} {B B' s n:Nat} {v:Value} {xs:List Value}
theorem Sl.nil (w:World) (B s:Nat):Sl w B s (.slice none 0 0) 0 []:=⟨by simp,none,0,rfl,Nat.le_refl _,Nat.zero_le _,fun h=>absurd h (by omega)⟩
theorem Sl.keep (h:Sl w B s v n xs) (hk:∀ p:Addr,p.block<B→w'.cell? p=w.cell? p):Sl w' B s v n xs:=by
 obtain ⟨h1,A,c,hv,h2,h3,h4⟩:=h
 refine ⟨h1,A,c,hv,h2,h3,fun hn => ?_⟩
 obtain ⟨b,off,hA,hb,hc⟩:=h4 hn
 exact ⟨b,off,hA,hb,fun j u hu=>(hk ⟨b,off+j,none⟩ hb).trans (hc j u hu)⟩
theorem Sl.more (h:Sl w B s v n xs) (hB:B≤B'):Sl w B' s v n xs:=by
 obtain ⟨h1,A,c,hv,h2,h3,h4⟩:=h
 refine ⟨h1,A,c,hv,h2,h3,fun hn => ?_⟩
 obtain ⟨b,off,hA,hb,hc⟩:=h4 hn
 exact ⟨b,off,hA,by omega,hc⟩
theorem Sl.below (h:Sl w B s v n xs) (hb:Below B w w'):Sl w' B s v n xs:=h.keep fun _ hp=>hb.cell hp
theorem Sl.drew (h:Sl w B s v n xs):Sl w.drew B s v n xs:=h
theorem Sl.alloc (h:Sl w B s v n xs) (hB:B≤w.heap.size) (o:Obj):Sl (w.alloc o) B s v n xs:=h.keep fun p hp=>World.cell?_alloc_lt w o p (by omega)
theorem Sl.of_own {base:Nat} {e:TypeId} (h:w.ownsRow base e s v n xs):Sl w w.heap.size s v n xs:=by
 refine ⟨h.1,?_⟩
 rcases h.2 with ⟨rfl,rfl⟩ | ⟨g,cap,cur,rfl,_,hg,hnc,hcm,hcs,htake⟩
 ·exact ⟨none,0,rfl,Nat.le_refl _,Nat.zero_le _,fun h=>absurd h (by omega)⟩
 ·refine ⟨_,_,rfl,hnc,hcm,fun hn=>⟨g,0,rfl,?_,fun j u hu => ?_⟩⟩
  ·rcases Nat.lt_or_ge g w.heap.size with hlt | hge
   ·exact hlt
   ·rw[Array.getElem?_eq_none hge] at hg;cases hg
  ·have:=h.cells (g:=g) rfl j u hu
   unfold Addr.add at this
   split at this <;> simp_all
theorem Sl.row {α:Type} {f:α→List Value} {l:List α} {A:Option Addr} {c k:Nat} (hf:∀ x,(f x).length=s) (h:Sl w B s (.slice A l.length c) l.length (l.flatMap f)) (hk:k<l.length) :
  ∃ b off,A=some ⟨b,off,none⟩∧b<B∧∀ j u,(f l[k])[j]?=some u→w.cell? ⟨b,off+k*s+j,none⟩=some u:=by
 obtain ⟨h1,A',c',hv,h2,h3,h4⟩:=h
 simp only[Value.slice.injEq] at hv
 obtain ⟨rfl,_,rfl⟩:=hv
 obtain ⟨b,off,hA,hb,hc⟩:=h4 (by omega)
 refine ⟨b,off,hA,hb,fun j u hu => ?_⟩
 have hj:j<s:=by
  have:=(List.getElem?_eq_some_iff.1 hu).1
  rw[hf] at this;exact this
 rw[show off+k*s+j=off+(k*s+j) by omega]
 exact hc _ _ (by rw[flat_get hf l k j hj hk];exact hu)
theorem own_cap {base:Nat} {e:TypeId} {g cap:Nat} (h:w.ownsRow base e s (.slice (some ⟨g,0,none⟩) n cap) n xs):n≤cap:=by
 rcases h.2 with ⟨h',_⟩ | ⟨g',cap',cur,h',_,_,hc,_⟩
 ·simp at h'
 ·simp only[Value.slice.injEq] at h'
  omega
theorem own_take {base:Nat} {e:TypeId} {g cap m:Nat} (h:w.ownsRow base e s (.slice (some ⟨g,0,none⟩) n cap) n xs) (hm:m≤n):w.ownsRow base e s (.slice (some ⟨g,0,none⟩) m cap) m (xs.take (m*s)):=by
 have hms:m*s≤n*s:=Nat.mul_le_mul_right _ hm
 refine ⟨by rw[List.length_take,h.1];omega,?_⟩
 rcases h.2 with ⟨h',_⟩ | ⟨g',cap',cur,h',hb,hg,hc,hcm,hcs,ht⟩
 ·simp at h'
 ·simp only[Value.slice.injEq,Option.some.injEq,Addr.mk.injEq,and_true,true_and] at h'
  obtain ⟨rfl,rfl⟩:=h'
  refine .inr ⟨g,cap,cur,rfl,hb,hg,by omega,hcm,hcs,?_⟩
  rw[←ht,List.take_take,show min (m*s) (n*s)=m*s by omega]
theorem own_row {α:Type} {f:α→List Value} {l:List α} {base k:Nat} {e:TypeId} (hf:∀ x,(f x).length=s) (h:w.ownsRow base e s v l.length (l.flatMap f)) (hk:k<l.length) :
  ∃ g cap,v=.slice (some ⟨g,0,none⟩) l.length cap∧l.length≤cap∧base≤g∧g<w.heap.size∧(∀ i,w.frozen? ⟨g,i,none⟩=false)∧∀ j u,(f l[k])[j]?=some u→w.cell? ⟨g,k*s+j,none⟩=some u:=by
 obtain ⟨g,cap,rfl,hb,hg⟩:=h.form (by omega)
 refine ⟨g,cap,rfl,?_,hb,hg,fun i=>h.frozenAt i,fun j u hu => ?_⟩
 ·rcases h.2 with ⟨h',_⟩ | ⟨g',cap',cur,h',_,_,hc,_⟩
  ·simp at h'
  ·simp only[Value.slice.injEq] at h'
   omega
 ·have hj:j<s:=by
   have:=(List.getElem?_eq_some_iff.1 hu).1
   rw[hf] at this;exact this
  have hlt:k*s+j<l.length*s:=by
   have:=Nat.mul_le_mul_right s (show k+1≤l.length by omega)
   rw[Nat.succ_mul] at this;omega
  rw[h.cellAt _ hlt,flat_get hf l k j hj hk];exact hu
theorem Sl.lit (w:World) (cs:Array Value) (e:TypeId) (hm:n≤maxLen) (hs:cs.size=n*s):Sl (w.alloc (.cells cs e)) (w.heap.size+1) s (.slice (some ⟨w.heap.size,0,none⟩) n n) n cs.toList:=by
 have h:=Sl.of_own (World.ownsRow_lit (base:=0) (e:=e) w cs n (Nat.zero_le _) hm hs)
 have hz:(w.alloc (.cells cs e)).heap.size=w.heap.size+1:=by simp
 rw[hz] at h;exact h
end
theorem own_below {w w':World} {base:Nat} {e:TypeId} {s:Nat} {v:Value} {n:Nat} {xs:List Value} (h:w.ownsRow base e s v n xs) (hb:Below w.heap.size w w'):w'.ownsRow base e s v n xs:=
 h.kept (row:=none) ⟨hb.os,hb.tape,hb.output,hb.size,fun k hk _=>hb.block k hk⟩ (by cases v.ownBlock <;> simp)
theorem below_of_drew {B:Nat} {w w':World} (h:Below B w.drew w'):Below B w w':=⟨h.os,h.tape,h.output,h.size,h.block⟩
theorem below_drewN {B:Nat} {a w:World} (h:Below B a w) (n:Nat):Below B a (w.drewN n):=⟨h.os,h.tape,h.output,h.size,h.block⟩
theorem grown_of_below {w w':World} (hb:Below w.heap.size w w') (row:Option Nat):w.grownBy w' row:=⟨hb.os,hb.tape,hb.output,hb.size,fun k hk _=>hb.block k hk⟩
theorem grown_trans {a b c:World} {row:Option Nat} (h:a.grownBy b row) (k:b.grownBy c row):a.grownBy c row:=
 ⟨k.os.trans h.os,k.tape.trans h.tape,k.output.trans h.output,Nat.le_trans h.size k.size,fun i hi hne=>(k.block i (Nat.lt_of_lt_of_le hi h.size) hne).trans (h.block i hi hne)⟩
theorem grown_step {a b c:World} {row row':Option Nat} (h:a.grownBy b row) (k:b.grownBy c row') (hr:row'=row∨row'=none∨∃ g,row'=some g∧a.heap.size≤g):a.grownBy c row:=
 ⟨k.os.trans h.os,k.tape.trans h.tape,k.output.trans h.output,Nat.le_trans h.size k.size,fun i hi hne=>(k.block i (Nat.lt_of_lt_of_le hi h.size) (by
  rcases hr with rfl | rfl | ⟨g,rfl,hg⟩
  ·exact hne
  ·simp
  ·intro e;injection e with e;omega)).trans (h.block i hi hne)⟩
theorem grown_refl (w:World) (row:Option Nat):w.grownBy w row:=⟨rfl,rfl,rfl,Nat.le_refl _,fun _ _ _=>rfl⟩
theorem grown_alloc {a w:World} {row:Option Nat} (h:a.grownBy w row) (o:Obj):a.grownBy (w.alloc o) row:=
 ⟨h.os,h.tape,h.output,Nat.le_trans h.size (by simp),fun i hi hne=>(Below.heap_alloc w o i (Nat.lt_of_lt_of_le hi h.size)).trans (h.block i hi hne)⟩
theorem grown_setCell {a w:World} {g:Nat} (h:a.grownBy w (some g)) {p:Addr} (hp:p.block=g∨a.heap.size≤p.block) (u:Value):a.grownBy (w.setCell p u) (some g):=
 ⟨h.os,h.tape,h.output,by simpa[World.setCell] using h.size,fun i hi hne=>(Below.heap_setCell w p u i (by
  rintro rfl
  rcases hp with hp | hp
  ·exact hne (by rw[hp])
  ·omega)).trans (h.block i hi hne)⟩
theorem below_of_grown {w w':World} {base:Nat} {row:Option Nat} (h:w.grownBy w' row) (hb:base≤w.heap.size) (hr:∀ g,row=some g→base≤g):Below base w w':=
 ⟨h.os,h.tape,h.output,h.size,fun k hk=>h.block k (by omega) (fun e=>by have:=hr k e.symm;omega)⟩
structure ElT (P:Program) (t e:TypeId) (size bytes:Nat):Prop where
 sl:P.underlying t=some (.slice e)
 info:∃ i z,P.info? e=some i∧i.zero=some z∧i.size=size∧i.bytes=bytes∧z.cells.size=size
 pos:0<size
section
variable {P:Program} {w:World}
theorem run_append_sl (base:Nat) {t e:TypeId} (ty:TypeId) {size bytes:Nat} (E:ElT P t e size bytes) (v:Value) (n:Nat) (xs:List Value) (hown:w.ownsRow base e size v n xs)
  (B:Nat) (x:Value) (m:Nat) (news:List Value) (hx:Sl w B size x m news) (h1:∀ u∈news,u.oneCell'=true)
  (h63:n+m≤maxLen) (hbytes:(n+m)*bytes≤140737488355328) (hbase:base≤w.heap.size) :
  ∃ v' w',(Builtin.append_ #[t,t] ty #[v,x]).run P w=.ok v' w'∧w'.ownsRow base e size v' (n+m) (xs++news)∧w.grownBy w' v.ownBlock∧(v'.ownBlock=v.ownBlock∨v'.ownBlock=some w.heap.size):=by
 obtain ⟨i,z,hi,hz,hsz,hby,hzs⟩:=E.info
 obtain ⟨hl,A,c,rfl,hmc,hcm,hat⟩:=hx
 have hA:A=none∨∃ ad,A=some ad:=by cases A <;> simp
 rcases hA with rfl | ⟨ad,rfl⟩
 ·have hm:m=0:=by
   rcases Nat.eq_zero_or_pos m with h0 | h0
   ·exact h0
   ·obtain ⟨b,off,h,_⟩:=hat h0;cases h
  subst hm
  have hn:news=[]:=List.eq_nil_of_length_eq_zero (by simpa using hl)
  subst hn
  refine ⟨v,w,?_,by simpa using hown,World.grownBy.refl w _,.inl rfl⟩
  rcases hown.2 with ⟨rfl,rfl⟩ | ⟨g,cap,cur,rfl,_,_,hnc,_⟩
  ·simp[Builtin.append_,run_underlying E.sl,sizeOf,typeInfo,hi,Builtin.lenOf,Builtin.firstCells]
  ·simp[Builtin.append_,run_underlying E.sl,sizeOf,typeInfo,hi,Builtin.lenOf,Builtin.firstCells,hnc,storeCells]
 ·have hnews:∀ j u,news[j]?=some u→w.cell? (ad.add j)=some u:=fun j u hu=>by
   rcases Nat.eq_zero_or_pos m with h0 | h0
   ·subst h0
    have hn:news=[]:=List.eq_nil_of_length_eq_zero (by simpa using hl)
    subst hn;simp at hu
   ·obtain ⟨b,off,h,_,hc⟩:=hat h0
    injection h with h
    subst h
    have:=hc j u hu
    unfold Addr.add
    split
    ·rename_i hj;subst hj;simpa using this
    ·exact this
  obtain ⟨v',w',h,h2,h3,_,h5⟩:=run_append_own_at (P:=P) w base t ty e i z size bytes E.sl hi hz hsz hby hzs E.pos v n xs hown ad m c news hl hnews h1 h63 hbytes hbase
  exact ⟨v',w',h,h2,h3,h5⟩
theorem wp_append {o:Oper} {a:Act} {K:Act→World→Prop} {Q:Exit→Act→World→Prop} (s x:Operand) (t:TypeId)
  (ho:o.op=.call { callee:=.builtin .append,args:=#[s,x],argTypes:=#[t,t] }) (base:Nat) {e:TypeId} {size bytes:Nat} (E:ElT P t e size bytes)
  (v:Value) (n:Nat) (xs:List Value) (hs:a.eval s=v) (hown:w.ownsRow base e size v n xs)
  (B:Nat) (xv:Value) (m:Nat) (news:List Value) (hxv:a.eval x=xv) (hx:Sl w B size xv m news) (h1:∀ u∈news,u.oneCell'=true)
  (h63:n+m≤maxLen) (hbytes:(n+m)*bytes≤140737488355328) (hbase:base≤w.heap.size)
  (h:∀ v' w',w'.ownsRow base e size v' (n+m) (xs++news)→w.grownBy w' v.ownBlock→(v'.ownBlock=v.ownBlock∨v'.ownBlock=some w.heap.size)→K (a.put o.dst v') w'):o.wp P a w K Q:=by
 obtain ⟨v',w',hr,h2,h3,h4⟩:=run_append_sl (P:=P) (w:=w) base o.type E v n xs hown B xv m news hx h1 h63 hbytes hbase
 unfold Oper.wp execOp
 simp only[ho,resolve,invoke,builtin,Sem.run_bind,Sem.run_pure,Result.andThen_ok,List.map_toArray,List.map_cons,List.map_nil,hs,hxv,hr]
 exact h v' w' h2 h3 h4
theorem wpList_append {ops:Array Oper} {rest:List Oper} {o:Oper} {a:Act} {Q:Exit→Act→World→Prop} (hgd:o.guard=none) (s x:Operand) (t:TypeId)
  (ho:o.op=.call { callee:=.builtin .append,args:=#[s,x],argTypes:=#[t,t] }) (base:Nat) {e:TypeId} {size bytes:Nat} (E:ElT P t e size bytes)
  (v:Value) (n:Nat) (xs:List Value) (hs:a.eval s=v) (hown:w.ownsRow base e size v n xs)
  (B:Nat) (xv:Value) (m:Nat) (news:List Value) (hxv:a.eval x=xv) (hx:Sl w B size xv m news) (h1:∀ u∈news,u.oneCell'=true)
  (h63:n+m≤maxLen) (hbytes:(n+m)*bytes≤140737488355328) (hbase:base≤w.heap.size)
  (h:∀ v' w',w'.ownsRow base e size v' (n+m) (xs++news)→w.grownBy w' v.ownBlock→(v'.ownBlock=v.ownBlock∨v'.ownBlock=some w.heap.size)→wpList P ops Q rest (a.put o.dst v') w'):wpList P ops Q (o :: rest) a w:=
 wpList_plain hgd fun _ hK=>wp_append s x t ho base E v n xs hs hown B xv m news hxv hx h1 h63 hbytes hbase fun v' w' h2 h3 h4=>hK _ _ (h v' w' h2 h3 h4)
theorem step_append {ops:Array Oper} {o:Oper} {a:Act} {K:Act→World→Prop} {Q:Exit→Act→World→Prop} {F:Prop} (hgd:o.guard=none) (s x:Operand) (t:TypeId)
  (ho:o.op=.call { callee:=.builtin .append,args:=#[s,x],argTypes:=#[t,t] }) (base:Nat) {e:TypeId} {size bytes:Nat} (E:ElT P t e size bytes)
  (v:Value) (n:Nat) (xs:List Value) (hs:a.eval s=v) (hown:w.ownsRow base e size v n xs)
  (B:Nat) (xv:Value) (m:Nat) (news:List Value) (hxv:a.eval x=xv) (hx:Sl w B size xv m news) (h1:∀ u∈news,u.oneCell'=true)
  (h63:n+m≤maxLen) (hbytes:(n+m)*bytes≤140737488355328) (hbase:base≤w.heap.size)
  (h:∀ v' w',w'.ownsRow base e size v' (n+m) (xs++news)→w.grownBy w' v.ownBlock→(v'.ownBlock=v.ownBlock∨v'.ownBlock=some w.heap.size)→K (a.put o.dst v') w') :
  if Region.wanted o (yielded ops a.tmps)=true then Oper.wp P o a w K Q else F:=by
 have hw:Region.wanted o (yielded ops a.tmps)=true:=by simp[Region.wanted,hgd]
 rw[if_pos hw]
 exact wp_append s x t ho base E v n xs hs hown B xv m news hxv hx h1 h63 hbytes hbase h
theorem run_copy_sl {dT sT ty elem:TypeId} {size bytes:Nat} (E:ElT P dT elem size bytes) (g o dLen dCap:Nat) (a:Addr) (sLen sCap:Nat) (cur:Array Value) (t:TypeId) (cs:List Value)
  (hg:w.heap[g]?=some (.cells cur t (0,0))) (hn:cs.length=Nat.min sLen dLen*size)
  (hsrc:∀ j v,cs[j]?=some v→w.cell? (a.add j)=some v) (hfit:o+cs.length≤cur.size) (h1:∀ v∈cs,v.oneCell'=true) :
  (Builtin.copy_ #[dT,sT] ty #[.slice (some ⟨g,o,none⟩) dLen dCap,.slice (some a) sLen sCap]).run P w =
   .ok (goInt (Nat.min sLen dLen)) (w.setRow g (cur.toList.take o++cs++cur.toList.drop (o+cs.length)).toArray):=by
 obtain ⟨i,z,hi,hz,hsz,hby,hzs⟩:=E.info
 have hl:=run_loadCells_list (P:=P) w a cs hsrc
 have hst:=run_storeCells_at P g o t cs 0 cur w hg (by simpa using hfit) h1
 simp[Builtin.copy_,run_underlying E.sl,Builtin.lenOf,Builtin.firstCells,sizeOf,typeInfo,hi,hsz,←hn,hl,hst]
theorem own_set {base:Nat} {e:TypeId} {s g n cap k:Nat} {xs cs:List Value} (h:w.ownsRow base e s (.slice (some ⟨g,0,none⟩) n cap) n xs) (hfit:k+cs.length≤n*s) :
  ∃ cur,w.heap[g]?=some (.cells cur e (0,0))∧n*s≤cur.size∧cur.toList.take (n*s)=xs ∧
   (w.setRow g (cur.toList.take k++cs++cur.toList.drop (k+cs.length)).toArray).ownsRow base e s (.slice (some ⟨g,0,none⟩) n cap) n (splice xs k cs) ∧
   w.grownBy (w.setRow g (cur.toList.take k++cs++cur.toList.drop (k+cs.length)).toArray) (some g):=by
 rcases h.2 with ⟨h',_⟩ | ⟨g',cap',cur,h',hb,hg,hnc,hcm,hcs,htake⟩
 ·simp at h'
 ·simp only[Value.slice.injEq,Option.some.injEq,Addr.mk.injEq,and_true,true_and] at h'
  obtain ⟨rfl,rfl⟩:=h'
  have hle:n*s≤cur.size:=by rw[hcs];exact Nat.mul_le_mul_right _ hnc
  have hlen:(cur.toList.take k++cs++cur.toList.drop (k+cs.length)).length=cur.size:=by
   simp only[List.length_append,List.length_take,List.length_drop,Array.length_toList];omega
  have hx:xs.length=n*s:=h.1
  refine ⟨cur,hg,hle,htake,⟨?_,.inr ⟨g,cap,_,rfl,hb,setRow_heap w g cur _ e _ hg,hnc,hcm,?_,?_⟩⟩,⟨rfl,rfl,rfl,by simp[World.setRow],fun i _ hi=>setRow_other w g i _ (fun e=>hi (by rw[e]))⟩⟩
  ·rw[length_splice _ _ _ (by omega)];exact hx
  ·simp only[List.size_toArray,hlen,hcs]
  ·rw[←htake]
   unfold splice
   apply List.ext_getElem?
   intro j
   simp only[List.append_assoc,List.getElem?_append,List.getElem?_take,List.getElem?_drop,List.length_take,Array.length_toList]
   by_cases h1:j<k
   ·simp[h1,show j<n*s by omega,show j<min k cur.size by omega,show j<min k (min (n*s) cur.size) by omega]
   ·by_cases h2:j<k+cs.length
    ·simp[show j<n*s by omega,show min k cur.size=k by omega,show min k (min (n*s) cur.size)=k by omega,show j-k<cs.length by omega]
    ·simp only[show min k cur.size=k by omega,show min k (min (n*s) cur.size)=k by omega,show ¬ j-k<cs.length by omega,if_false,show k+cs.length+(j-k-cs.length)=j by omega,if_neg h1]
theorem run_storeAt_own {base:Nat} {e:TypeId} {s g n cap k:Nat} {xs cs:List Value} {ty:TypeId} {v:Value} (h:w.ownsRow base e s (.slice (some ⟨g,0,none⟩) n cap) n xs) (hcs:v.cells.toList=cs)
  (hi:(P.info? ty).map (·.size)=some cs.length) (h1:∀ u∈cs,u.oneCell'=true) (hfit:k+cs.length≤n*s) :
  ∃ w',(Instr.storeAt ty (.pointer (some ⟨g,k,none⟩)) v).run P w=.ok () w'∧w'.ownsRow base e s (.slice (some ⟨g,0,none⟩) n cap) n (splice xs k cs)∧w.grownBy w' (some g):=by
 obtain ⟨cur,hg,hle,_,ho,hgr⟩:=own_set h hfit
 have hst:=run_storeCells_at P g k e cs 0 cur w hg (by simpa using (by omega:k+cs.length≤cur.size)) h1
 refine ⟨_,?_,ho,hgr⟩
 cases hq:P.info? ty with
 | none=>simp[hq] at hi
 | some i =>
  have hs:v.cells.size=i.size:=by simp[hq] at hi;rw[hi,←hcs];simp
  simp only[Nat.add_zero] at hst
  simp[Instr.storeAt,Instr.sureAddr,storeVar,sizeOf,typeInfo,hq,hs,hcs,hst]
theorem wp_store_own {o:Oper} {a:Act} {K:Act→World→Prop} {Q:Exit→Act→World→Prop} (ty:TypeId) (x y:Operand) (ho:o.op=.store ty x y)
  {base:Nat} {e:TypeId} {s g n cap k:Nat} {xs:List Value} (cs:List Value) {v:Value} (hx:a.eval x=.pointer (some ⟨g,k,none⟩)) (hy:a.eval y=v) (h:w.ownsRow base e s (.slice (some ⟨g,0,none⟩) n cap) n xs) (hcs:v.cells.toList=cs)
  (hi:(P.info? ty).map (·.size)=some cs.length) (h1:∀ u∈cs,u.oneCell'=true) (hfit:k+cs.length≤n*s)
  (hK:∀ w',w'.ownsRow base e s (.slice (some ⟨g,0,none⟩) n cap) n (splice xs k cs)→w.grownBy w' (some g)→K (a.put o.dst undef) w'):o.wp P a w K Q:=by
 obtain ⟨w',hr,h2,h3⟩:=run_storeAt_own (P:=P) h hcs hi h1 hfit
 unfold Oper.wp execOp
 simp only[ho,hx,hy,Sem.run_bind,hr,Result.andThen_ok,Sem.run_pure]
 exact hK w' h2 h3
theorem wpList_store_own {ops:Array Oper} {rest:List Oper} {o:Oper} {a:Act} {Q:Exit→Act→World→Prop} (hgd:o.guard=none) (ty:TypeId) (x y:Operand) (ho:o.op=.store ty x y)
  {base:Nat} {e:TypeId} {s g n cap k:Nat} {xs:List Value} (cs:List Value) {v:Value} (hx:a.eval x=.pointer (some ⟨g,k,none⟩)) (hy:a.eval y=v) (h:w.ownsRow base e s (.slice (some ⟨g,0,none⟩) n cap) n xs) (hcs:v.cells.toList=cs)
  (hi:(P.info? ty).map (·.size)=some cs.length) (h1:∀ u∈cs,u.oneCell'=true) (hfit:k+cs.length≤n*s)
  (hK:∀ w',w'.ownsRow base e s (.slice (some ⟨g,0,none⟩) n cap) n (splice xs k cs)→w.grownBy w' (some g)→wpList P ops Q rest (a.put o.dst undef) w'):wpList P ops Q (o :: rest) a w:=
 wpList_plain hgd fun _ hk=>wp_store_own ty x y ho cs hx hy h hcs hi h1 hfit fun w' h2 h3=>hk _ _ (hK w' h2 h3)
theorem wpList_copy_row {ops:Array Oper} {rest:List Oper} {o:Oper} {a:Act} {Q:Exit→Act→World→Prop} (hgd:o.guard=none) (d s:Operand) (dT sT:TypeId)
  (ho:o.op=.call { callee:=.builtin .copy,args:=#[d,s],argTypes:=#[dT,sT] }) {elem:TypeId} {size bytes:Nat} (E:ElT P dT elem size bytes)
  (dp sp:Option Addr) (dLen dCap sLen sCap:Nat) (hd:a.eval d=.slice dp dLen dCap) (hs:a.eval s=.slice sp sLen sCap)
  {base g n cap k m:Nat} {xs:List Value} (h:w.ownsRow base elem size (.slice (some ⟨g,0,none⟩) n cap) n xs) (cs:List Value) (hm:m=Nat.min sLen dLen) (hn:cs.length=m*size)
  (hpos:0<m→dp=some ⟨g,k,none⟩∧∃ ad,sp=some ad∧∀ j v,cs[j]?=some v→w.cell? (ad.add j)=some v) (hnil:m=0→dp=none∨(∃ ad,dp=some ad) )
  (hfit:k+cs.length≤n*size) (h1:∀ v∈cs,v.oneCell'=true)
  (hK:∀ w',w'.ownsRow base elem size (.slice (some ⟨g,0,none⟩) n cap) n (splice xs k cs)→w.grownBy w' (some g)→wpList P ops Q rest (a.put o.dst (goInt m)) w'):wpList P ops Q (o :: rest) a w:=by
 refine wpList_plain hgd fun K hk => ?_
 obtain ⟨i,z,hi,hz,hsz,hby,hzs⟩:=E.info
 rcases Nat.eq_zero_or_pos m with h0 | h0
 ·have hc0:cs=[]:=List.eq_nil_of_length_eq_zero (by rw[hn,h0];simp)
  subst hc0
  have hrun:(Builtin.copy_ #[dT,sT] o.type #[.slice dp dLen dCap,.slice sp sLen sCap]).run P w=.ok (goInt m) w:=by
   rw[h0] at hm
   cases dp <;> cases sp <;> simp[Builtin.copy_,run_underlying E.sl,Builtin.lenOf,Builtin.firstCells,sizeOf,typeInfo,hi,←hm,h0,loadCells,loadCellsFrom,storeCells]
  unfold Oper.wp
  simp[execOp,ho,resolve,invoke,builtin,hd,hs,hrun,Result.andThen]
  exact hk _ _ (hK w (by simpa[splice] using h) (World.grownBy.refl _ _))
 ·obtain ⟨rfl,ad,rfl,hsrc⟩:=hpos h0
  obtain ⟨cur,hg,hle,_,hown,hgr⟩:=own_set h hfit
  have hrun:=run_copy_sl (P:=P) (w:=w) (sT:=sT) (ty:=o.type) E g k dLen dCap ad sLen sCap cur elem cs hg (by rw[hn,hm]) hsrc (by omega) h1
  unfold Oper.wp
  simp[execOp,ho,resolve,invoke,builtin,hd,hs,hrun,Result.andThen]
  rw[←hm]
  exact hk _ _ (hK _ (by simpa using hown) (by simpa using hgr))
end
section
theorem run_wrapNil {P:Program} (xt:TypeId) (a:Addr) (s:ByteArray) (n:ByteArray) (W:World):(Builtin.ssaWrapNilChk_ #[xt] xt #[.pointer (some a),.string s,.string n]).run P W=.ok (.pointer (some a)) W:=by rfl
theorem method_val {P:Program} {t e:TypeId} {name:String} {f:FuncId} (hi:(P.info? t).map (fun i=>(i.methods.find? (·.name==name)).map (fun m=>(m.func,m.path.size)))=some (some (some (f,false),0)))
  (ht:P.underlying t=some (.pointer e)) (n q:Nat) (v:Value) (W:World) (hload:(loadVar e ⟨q,0,none⟩).run P W=.ok v W) :
  (method (n+1) t (.pointer (some ⟨q,0,none⟩)) name).run P W=.ok (f,v) W:=by
 obtain ⟨i,hi1,hi2⟩:=Option.map_eq_some_iff.1 hi
 obtain ⟨m,hm1,hm2⟩:=Option.map_eq_some_iff.1 hi2
 simp only[Prod.mk.injEq] at hm2
 have hp:m.path = #[]:=Array.eq_empty_of_size_eq_zero hm2.2
 unfold method
 simp[typeInfo,hi1,hm1,hm2.1,hp,follow,receiverAt,run_underlying ht,Place.get,strVal,run_wrapNil,asAddr,hload]
theorem method_ptr {P:Program} {t e:TypeId} {name:String} {f:FuncId} (hi:(P.info? t).map (fun i=>(i.methods.find? (·.name==name)).map (fun m=>(m.func,m.path.size)))=some (some (some (f,true),0)))
  (ht:P.underlying t=some (.pointer e)) (n q:Nat) (W:World) :
  (method (n+1) t (.pointer (some ⟨q,0,none⟩)) name).run P W=.ok (f,.pointer (some ⟨q,0,none⟩)) W:=by
 obtain ⟨i,hi1,hi2⟩:=Option.map_eq_some_iff.1 hi
 obtain ⟨m,hm1,hm2⟩:=Option.map_eq_some_iff.1 hi2
 simp only[Prod.mk.injEq] at hm2
 have hp:m.path = #[]:=Array.eq_empty_of_size_eq_zero hm2.2
 unfold method
 simp[typeInfo,hi1,hm1,hm2.1,hp,follow,receiverAt,run_underlying ht,Place.get,asAddr]
end
end Go.Lo
namespace Go.Lo
abbrev Hop:=Int × Int × Bool
def hopLt (a b:Hop):Bool:=
 if a.1 != b.1 then decide (a.1<b.1) else if a.2.1 != b.2.1 then decide (a.2.1<b.2.1) else (!a.2.2 && b.2.2)
def insAt (l:List Hop) (h:Hop):Nat:=(l.takeWhile (hopLt · h)).length
def ins (l:List Hop) (h:Hop):List Hop:=if l[insAt l h]?=some h then l else l.take (insAt l h)++h :: l.drop (insAt l h)
def puts (l more:List Hop):List Hop:=more.foldl ins l
theorem insAt_le (l:List Hop) (h:Hop):insAt l h≤l.length:=List.takeWhile_prefix (l:=l) (hopLt · h) |>.length_le
theorem insAt_of {l:List Hop} {h:Hop} {k:Nat} (hk:k≤l.length) (hb:∀ i (hi:i<l.length),i<k→hopLt l[i] h=true) (he:∀ hi:k<l.length,hopLt l[k] h=false):insAt l h=k:=by
 induction l generalizing k with
 | nil=>simp at hk;subst hk;rfl
 | cons x r ih =>
  cases k with
  | zero =>
   have:=he (by simp)
   simp only[List.getElem_cons_zero] at this
   simp[insAt,this]
  | succ k =>
   have h0:=hb 0 (by simp) (by omega)
   simp only[List.getElem_cons_zero] at h0
   have:=ih (k:=k) (by simpa using hk) (fun i hi hik=>by have:=hb (i+1) (by simpa using hi) (by omega);simpa using this) (fun hi=>by have:=he (by simpa using hi);simpa using this)
   unfold insAt at this ⊢
   rw[List.takeWhile_cons,if_pos h0,List.length_cons,this]
theorem ins_at {l:List Hop} {h:Hop} {k:Nat} (hk:insAt l h=k) (hlt:k<l.length) (he:l[k]=h):ins l h=l:=by
 unfold ins;rw[hk,List.getElem?_eq_getElem hlt,he,if_pos rfl]
theorem ins_new {l:List Hop} {h:Hop} {k:Nat} (hk:insAt l h=k) (he:∀ hi:k<l.length,l[k]≠h):ins l h=l.take k++h :: l.drop k:=by
 unfold ins;rw[hk,if_neg]
 intro h'
 obtain ⟨hi,h''⟩:=List.getElem?_eq_some_iff.1 h'
 exact he hi h''
theorem puts_snoc (l more:List Hop) (h:Hop):puts l (more++[h])=ins (puts l more) h:=by simp[puts]
theorem puts_take (l more:List Hop) (k:Nat) (hk:k<more.length):puts l (more.take (k+1))=ins (puts l (more.take k)) more[k]:=by
 rw[List.take_succ_eq_append_getElem hk,puts_snoc]
theorem ins_length (l:List Hop) (h:Hop):(ins l h).length≤l.length+1∧l.length≤(ins l h).length:=by
 unfold ins;split
 ·omega
 ·have:=insAt_le l h
  simp only[List.length_append,List.length_take,List.length_cons,List.length_drop];omega
theorem puts_length (l more:List Hop):(puts l more).length≤l.length+more.length:=by
 induction more generalizing l with
 | nil=>simp[puts]
 | cons x r ih =>
  have h1:=ih (ins l x)
  have h2:=(ins_length l x).1
  simp only[puts,List.foldl_cons,List.length_cons] at h1 ⊢
  omega
def hopCells (h:Hop):List Value:=[.int .u32 h.1,.int .u32 h.2.1,.bool h.2.2]
theorem hops_oneCell {l:List Hop}:∀ u∈l.flatMap hopCells,u.oneCell'=true:=by
 intro u hu
 obtain ⟨h,_,hh⟩:=List.mem_flatMap.1 hu
 simp only[hopCells,List.mem_cons,List.not_mem_nil,or_false] at hh
 rcases hh with rfl | rfl | rfl <;> rfl
theorem hopCells_len (h:Hop):(hopCells h).length=3:=rfl
end Go.Lo
namespace Go.Lo
open Go.RowKit
section
variable {P:Program} {w:World}
theorem flat_set1 {α:Type} {f:α→List Value} {s:Nat} (hf:∀ x,(f x).length=s) (l:List α) (k j:Nat) (hk:k<l.length) (hj:j<s) (x:α) (u:Value) (hx:f x=(f l[k]).set j u) :
  (l.flatMap f).set (k*s+j) u=(l.set k x).flatMap f:=by
 induction l generalizing k with
 | nil=>simp at hk
 | cons y r ih =>
  cases k with
  | zero =>
   simp only[List.getElem_cons_zero] at hx
   simp only[List.flatMap_cons,List.set_cons_zero,Nat.zero_mul,Nat.zero_add]
   rw[List.set_append_left _ _ (by rw[hf];exact hj),hx]
  | succ k =>
   simp only[List.getElem_cons_succ] at hx
   have:=ih k (by simpa using hk) hx
   simp only[List.flatMap_cons,List.set_cons_succ]
   rw[List.set_append_right _ _ (by rw[hf,Nat.succ_mul];omega),hf,show (k+1)*s+j-s=k*s+j by rw[Nat.succ_mul];omega,this]
def mix {α:Type} (f:α→α) (l:List α) (k:Nat):List α:=(l.take k).map f++l.drop k
theorem mix_len {α:Type} (f:α→α) (l:List α) (k:Nat):(mix f l k).length=l.length:=by simp[mix];omega
theorem mix_zero {α:Type} (f:α→α) (l:List α):mix f l 0=l:=by simp[mix]
theorem mix_all {α:Type} (f:α→α) (l:List α):mix f l l.length=l.map f:=by simp[mix]
theorem mix_get {α:Type} (f:α→α) (l:List α) (k:Nat) (hk:k<l.length):(mix f l k)[k]'(by rw[mix_len];exact hk)=l[k]:=by
 unfold mix
 rw[List.getElem_append_right (by simp;omega)]
 have:min k l.length=k:=by omega
 simp[this]
theorem mix_succ {α:Type} (f:α→α) (l:List α) (k:Nat) (hk:k<l.length):(mix f l k).set k (f l[k])=mix f l (k+1):=by
 unfold mix
 rw[List.set_append_right _ _ (by simp;omega),List.drop_eq_getElem_cons hk]
 simp only[List.length_map,List.length_take,show min k l.length=k by omega,Nat.sub_self,List.set_cons_zero]
 rw[List.take_succ_eq_append_getElem hk,List.map_append,List.append_assoc]
 rfl
theorem own_same {w w':World} {base:Nat} {e:TypeId} {s n:Nat} {v:Value} {xs:List Value} (h:w.ownsRow base e s v n xs) (hb:∀ k,v.ownBlock=some k→w'.heap[k]?=w.heap[k]?):w'.ownsRow base e s v n xs:=by
 refine ⟨h.1,?_⟩
 rcases h.2 with h' | ⟨g,cap,cur,rfl,h1,h2,h3⟩
 ·exact .inl h'
 ·exact .inr ⟨g,cap,cur,rfl,h1,(hb g rfl).trans h2,h3⟩
def Blk (w:World) (g:Nat) (t:TypeId) (cs:Array Value):Prop:=w.heap[g]?=some (.cells cs t (0,0))
theorem Blk.lt {g:Nat} {t:TypeId} {cs:Array Value} (h:Blk w g t cs):g<w.heap.size:=lt_of_block h
theorem Blk.cell {g:Nat} {t:TypeId} {cs:Array Value} (h:Blk w g t cs) (i:Nat):w.cell? ⟨g,i,none⟩=cs[i]?:=cell_of_row w g i cs t (0,0) h
theorem Blk.free {g:Nat} {t:TypeId} {cs:Array Value} (h:Blk w g t cs) (i:Nat):w.frozen? ⟨g,i,none⟩=false:=frozen_of_row w g i cs t h
theorem Blk.new (w:World) (t:TypeId) (cs:Array Value):Blk (w.alloc (.cells cs t)) w.heap.size t cs:=heap_alloc_new w _
theorem Blk.same {w':World} {g:Nat} {t:TypeId} {cs:Array Value} (h:Blk w g t cs) (hb:w'.heap[g]?=w.heap[g]?):Blk w' g t cs:=hb.trans h
theorem Blk.alloc {g:Nat} {t:TypeId} {cs:Array Value} (h:Blk w g t cs) (o:Obj):Blk (w.alloc o) g t cs:=(Below.heap_alloc w o g h.lt).trans h
theorem Blk.far {g:Nat} {t:TypeId} {cs:Array Value} (h:Blk w g t cs) {p:Addr} (hp:g≠p.block) (u:Value):Blk (w.setCell p u) g t cs:=(Below.heap_setCell w p u g hp).trans h
theorem Blk.below {B:Nat} {w':World} {g:Nat} {t:TypeId} {cs:Array Value} (h:Blk w g t cs) (hb:Below B w w') (hg:g<B):Blk w' g t cs:=(hb.block g hg).trans h
theorem Blk.set_ {g:Nat} {t:TypeId} {cs:Array Value} (h:Blk w g t cs) (i:Nat) (u:Value):Blk (w.setCell ⟨g,i,none⟩ u) g t (cs.setIfInBounds i u):=heap_setCell_same w g i cs t u h
theorem made_flat {α:Type} {f:α→List Value} {s:Nat} (hf:∀ x,(f x).length=s) (x0:α) (n:Nat) (z:Array Value) (hz:z.toList=f x0) (hs:0<s):(madeCells z (n*s)).toList=(List.replicate n x0).flatMap f:=by
 have hsz:z.size=s:=by rw[←hf x0,←hz];simp
 have hl:((List.replicate n x0).flatMap f).length=n*s:=by rw[flat_len hf,List.length_replicate]
 apply List.ext_getElem
 ·rw[hl];simp[size_madeCells]
 ·intro i h1 h2
  have hi:i<n*s:=by rw[hl] at h2;exact h2
  have hd:i / s<n:=(Nat.div_lt_iff_lt_mul hs).2 hi
  have hm:i%s<s:=Nat.mod_lt _ hs
  have he:i / s*s+i%s=i:=Nat.div_add_mod' i s
  have h3:=flat_get hf (List.replicate n x0) (i / s) (i%s) hm (by simpa using hd)
  rw[he,List.getElem?_eq_getElem h2] at h3
  have h4:(f x0)[i%s]?=some (z[i%s]!):=by
   rw[←hz]
   have:i%s<z.size:=by omega
   simp[this]
  have h5:(List.replicate n x0)[i / s]'(by simpa using hd)=x0:=List.getElem_replicate _
  rw[h5,h4] at h3
  have h6:=Option.some.inj h3
  rw[h6]
  simp[madeCells,hsz]
theorem wpList_make {ops:Array Oper} {rest:List Oper} {o:Oper} {a:Act} {Q:Exit→Act→World→Prop} (hgd:o.guard=none) (l c:Operand) (t:TypeId) (hop:o.op=Op.makeSlice t l c)
  (base:Nat) {e:TypeId} {size bytes:Nat} (E:ElT P t e size bytes) {α:Type} (f:α→List Value) (hf:∀ x,(f x).length=size) (x0:α) (hz:(P.info? e).map (fun i=>i.zero.map fun z=>z.cells.toList)=some (some (f x0)))
  (kl kc:IntKind) (L C:Int) (n:Nat) (hl:a.eval l=.int kl L) (hc:a.eval c=.int kc C) (hL:L=(n:Int)) (hC:C=(n:Int)) (b2:bytes*n≤281474976710656) (b3:n≤maxLen) (b4:base≤w.heap.size)
  (hK:∀ w',w'.ownsRow base e size (.slice (some ⟨w.heap.size,0,none⟩) n n) n ((List.replicate n x0).flatMap f)→w.grownBy w' none→wpList P ops Q rest (a.put o.dst (.slice (some ⟨w.heap.size,0,none⟩) n n)) w'):wpList P ops Q (o :: rest) a w:=by
 obtain ⟨i,z,hi,hz',hsz,hby,hzs⟩:=E.info
 have hzz:z.cells.toList=f x0:=by simpa[hi,hz'] using hz
 refine wpList_make_full w hgd l c t hop base e i z size E.sl hi hz' hsz kl kc L C n hl hc hL hC (by rw[hby];exact b2) b3 b4 fun w' h1 h2=>hK w' ?_ h2
 rw[made_flat hf x0 n z.cells hzz E.pos] at h1
 exact h1
end
section
variable {P:Program}
theorem Sl.take {w:World} {B s n c k:Nat} {A:Option Addr} {xs:List Value} (h:Sl w B s (.slice A n c) n xs) (hk:k≤n):Sl w B s (.slice A k c) k (xs.take (k*s)):=by
 obtain ⟨h1,A',c',hv,h2,h3,h4⟩:=h
 simp only[Value.slice.injEq] at hv
 obtain ⟨rfl,_,rfl⟩:=hv
 have hks:k*s≤n*s:=Nat.mul_le_mul_right _ hk
 refine ⟨by rw[List.length_take,h1];omega,A,c,rfl,by omega,h3,fun h0 => ?_⟩
 obtain ⟨b,off,hA,hb,hc⟩:=h4 (by omega)
 refine ⟨b,off,hA,hb,fun j u hu=>hc j u ?_⟩
 rw[List.getElem?_take] at hu
 split at hu
 ·exact hu
 ·cases hu
theorem Sl.drop {w:World} {B s n c k:Nat} {A:Option Addr} {xs:List Value} (h:Sl w B s (.slice A n c) n xs) (hk:k≤n) :
  Sl w B s (.slice (if c=k then A else A.map (·.add (k*s))) (n-k) (c-k)) (n-k) (xs.drop (k*s)):=by
 obtain ⟨h1,A',c',hv,h2,h3,h4⟩:=h
 simp only[Value.slice.injEq] at hv
 obtain ⟨rfl,_,rfl⟩:=hv
 refine ⟨by rw[List.length_drop,h1,Nat.sub_mul],_,_,rfl,by omega,by omega,fun h0 => ?_⟩
 obtain ⟨b,off,rfl,hb,hc⟩:=h4 (by omega)
 rw[if_neg (by omega)]
 refine ⟨b,off+k*s,by simp[addr_add],hb,fun j u hu => ?_⟩
 rw[List.getElem?_drop] at hu
 rw[Nat.add_assoc]
 exact hc _ u hu
theorem drop_ex {t e:TypeId} {s bytes:Nat} (E:ElT P t e s bytes) (A:Option Addr) (n c k:Nat) (hk:k≤n) (_hnc:n≤c) :
  ∃ v2,(∀ W,(Instr.sliceAt t (.slice A n c) (some (.int .i64 (k:Int))) none none).run P W=.ok v2 W)∧∀ (w:World) (B:Nat) (xs:List Value),Sl w B s (.slice A n c) n xs→Sl w B s v2 (n-k) (xs.drop (k*s)):=by
 obtain ⟨i,z,hi,hz,hsz,hby,hzs⟩:=E.info
 have he:P.elem t=e:=by simp[Program.elem,E.sl]
 have hu:P.underlying t=some (.slice (P.elem t)):=by rw[he];exact E.sl
 refine ⟨_,fun W => ?_,fun w B xs h=>h.drop hk⟩
 rw[run_sliceAt_slice W t _ _ _ _ hu,run_slice_l W t A n c hu .i64 k (by omega) (by omega),he]
 simp[sizeOf,typeInfo,hi,hsz,sliced]
theorem take_ex {t e:TypeId} {s bytes:Nat} (E:ElT P t e s bytes) (A:Option Addr) (n c k:Nat) (hk:k≤n) (hnc:n≤c) :
  ∃ v2,(∀ W,(Instr.sliceAt t (.slice A n c) none (some (.int .i64 (k:Int))) none).run P W=.ok v2 W)∧∀ (w:World) (B:Nat) (xs:List Value),Sl w B s (.slice A n c) n xs→Sl w B s v2 k (xs.take (k*s)):=by
 obtain ⟨i,z,hi,hz,hsz,hby,hzs⟩:=E.info
 have he:P.elem t=e:=by simp[Program.elem,E.sl]
 have hu:P.underlying t=some (.slice (P.elem t)):=by rw[he];exact E.sl
 refine ⟨.slice A k c,fun W => ?_,fun w B xs h=>h.take hk⟩
 rw[run_sliceAt_slice W t _ _ _ _ hu,run_slice_h W t A n c hu .i64 k (by omega) (by omega),he]
 simp only[sizeOf,typeInfo,sliced,Sem.run_bind,Sem.run_pure]
 cases A <;> simp[Addr.add,hi]
end
end Go.Lo
namespace Go.Lo
open Go.RowKit Go.Maps
theorem own_less {w:World} {base base':Nat} {e:TypeId} {s n:Nat} {v:Value} {xs:List Value} (h:w.ownsRow base e s v n xs) (hb:base'≤base):w.ownsRow base' e s v n xs:=
 ⟨h.1,h.2.imp id fun ⟨g,cap,cur,a,b,c⟩=>⟨g,cap,cur,a,Nat.le_trans hb b,c⟩⟩
theorem own_far {w:World} {base:Nat} {e:TypeId} {s n:Nat} {v:Value} {xs:List Value} (h:w.ownsRow base e s v n xs) {p:Addr} (hp:p.block<base) (u:Value):(w.setCell p u).ownsRow base e s v n xs:=by
 refine ⟨h.1,?_⟩
 rcases h.2 with h' | ⟨g,cap,cur,rfl,h1,h2,h3⟩
 ·exact .inl h'
 ·exact .inr ⟨g,cap,cur,rfl,h1,(Below.heap_setCell w p u g (by omega)).trans h2,h3⟩
theorem Blk.ok {w:World} {g:Nat} {t:TypeId} {cs:Array Value} (h:Blk w g t cs) (i:Nat) (hi:i<cs.size):(∃ u,w.cell? ⟨g,i,none⟩=some u)∧w.frozen? ⟨g,i,none⟩=false:=
 ⟨⟨cs[i],(h.cell i).trans (Array.getElem?_eq_getElem hi)⟩,h.free i⟩
theorem results_cell_tmp_row {P:Program} {fn:Func} {p u:Tmp} {ty:TypeId} (h:fn.results = #[.cell p ty,.tmp u]) (tmps:Array Value) (w:World) (g:Nat) (t:TypeId) (cs:Array Value) (fr:Nat × Nat) (d:TypeDesc)
  (hp:tmps.getD p undef=.pointer (some ⟨g,0,none⟩)) (hg:w.heap[g]?=some (.cells cs t fr))
  (hu:P.underlying ty=some d) (hd:(match d with | .struct _ | .array _ _=>true | _=>false)=true) (hi:(P.info? ty).map (·.size)=some cs.size) :
  (results fn tmps).run P w=.ok (.tuple #[.agg cs,tmps.getD u undef]) w:=by
 rw[results_cell_tmp h,hp]
 simp[asAddr,run_loadVar_row w g t ty cs fr d hg hu hd hi,Result.andThen]
structure Put (w:World) (g:Nat) (t:TypeId) (W:World):Prop where
 os:W.os=w.os
 tape:W.tape=w.tape
 output:W.output=w.output
 size:W.heap.size=w.heap.size
 pre:∃ cs,Blk w g t cs
 other:∀ k,k≠g→W.heap[k]?=w.heap[k]?
theorem Put.below {w W a:World} {g:Nat} {t:TypeId} {B:Nat} (p:Put w g t W) (h:Below B a w) (hg:B≤g):Below B a W:=
 ⟨p.os.trans h.os,p.tape.trans h.tape,p.output.trans h.output,by rw[p.size];exact h.size,fun k hk=>(p.other k (by omega)).trans (h.block k hk)⟩
theorem own_put {w W:World} {g:Nat} {t:TypeId} (p:Put w g t W) {base:Nat} {e:TypeId} {s n:Nat} {v:Value} {xs:List Value} (h:w.ownsRow base e s v n xs) (hne:t≠e):W.ownsRow base e s v n xs:=by
 refine ⟨h.1,?_⟩
 rcases h.2 with h' | ⟨b,cap,cur,rfl,h1,h2,h3⟩
 ·exact .inl h'
 ·refine .inr ⟨b,cap,cur,rfl,h1,(p.other b ?_).trans h2,h3⟩
  intro hbg
  obtain ⟨cs,hcs⟩:=p.pre
  subst hbg
  have h4:=hcs.symm.trans h2
  simp only[Option.some.injEq,Obj.cells.injEq] at h4
  exact hne h4.2.1
theorem below_call {B:Nat} {a W w2:World} (h:Below B a W) (h2:Below W.heap.size W w2) (hB:B≤a.heap.size):Below B a w2:=h.trans (h2.mono (Nat.le_trans hB h.size))
theorem below_alloc {B:Nat} {a W:World} (h:Below B a W) (hB:B≤a.heap.size) (o:Obj):Below B a (W.alloc o):=h.alloc (Nat.le_trans hB h.size) o
theorem Blk.new_ (w:World) {g:Nat} {t:TypeId} {cs:Array Value} (hg:g=w.heap.size):Blk (w.alloc (.cells cs t)) g t cs:=by subst hg;exact Blk.new w t cs
theorem Blk.drew_ {w:World} {g:Nat} {t:TypeId} {cs:Array Value} (h:Blk w g t cs):Blk w.drew g t cs:=h
theorem Blk.call {W w2:World} {g:Nat} {t:TypeId} {cs:Array Value} (hB:Below W.heap.size W w2) (h:Blk W g t cs):Blk w2 g t cs:=h.below hB h.lt
theorem Blk.put {W w2:World} {g g2:Nat} {t t2:TypeId} {cs:Array Value} (p:Put W g2 t2 w2) (hne:g≠g2) (h:Blk W g t cs):Blk w2 g t cs:=(p.other g hne).trans h
@[reducible] def cellPut (P:Program) (w:World) (A:Addr) (v:Value):Result Unit:=
 Go.run_load.match_2 (fun _=>Result Unit) (w.cell? A)
  (fun _=>if w.frozen? A=true then .halt (.unsupported (.unsafePointer "a write to bytes that a string shares")) w else .ok () (w.setCell A v))
  (fun _=>Go.run_store.match_1 (fun _=>Result Unit) (World.farStore P w A v (Mode.plain==Mode.atomic)) (fun w' _=>.ok () w') (fun h=>.halt h w))
theorem cellPut_ok {P:Program} {w:World} {g:Nat} {t:TypeId} {cs:Array Value} (h:Blk w g t cs) (i:Nat) (hi:i<cs.size) (v:Value):cellPut P w ⟨g,i,none⟩ v=.ok () (w.setCell ⟨g,i,none⟩ v):=by
 obtain ⟨⟨u,hu⟩,hf⟩:=Blk.ok h i hi
 unfold cellPut
 rw[hu,hf]
 rfl
theorem Put.cell_ {w W:World} {g:Nat} {t:TypeId} (p:Put w g t W) (i:Nat) (v:Value):Put w g t (W.setCell ⟨g,i,none⟩ v):=
 ⟨p.os,p.tape,p.output,by simp[World.setCell,p.size],p.pre,fun k hk=>(Below.heap_setCell W ⟨g,i,none⟩ v k hk).trans (p.other k hk)⟩
theorem Put.refl_ {w:World} {g:Nat} {t:TypeId} {cs:Array Value} (h:Blk w g t cs):Put w g t w:=⟨rfl,rfl,rfl,rfl,⟨cs,h⟩,fun _ _=>rfl⟩
theorem own_alloc {w:World} {base:Nat} {e:TypeId} {s n:Nat} {v:Value} {xs:List Value} (h:w.ownsRow base e s v n xs) (o:Obj):(w.alloc o).ownsRow base e s v n xs:=own_below h ((Below.refl _ _).alloc (Nat.le_refl _) o)
theorem own_grown {w w':World} {b b2 s s2 n n2:Nat} {e e2:TypeId} {v v2:Value} {xs xs2:List Value} (ho:w.ownsRow b e s v n xs) (h2:w.ownsRow b2 e2 s2 v2 n2 xs2) (hg:w.grownBy w' v.ownBlock) (hne:e≠e2):w'.ownsRow b2 e2 s2 v2 n2 xs2:=by
 refine own_same h2 fun k hk=>hg.block k (h2.lt k hk).2 fun hc => ?_
 rcases h2.2 with h' | ⟨g,cap,cur,rfl,_,hh,_⟩
 ·rw[h'.1] at hk
  cases hk
 ·obtain rfl:g=k:=Option.some.inj hk
  rcases ho.2 with h'' | ⟨g',cap',cur',rfl,_,hh',_⟩
  ·rw[h''.1] at hc
   cases hc
  ·obtain rfl:g=g':=Option.some.inj hc
   have h4:=hh.symm.trans hh'
   simp only[Option.some.injEq,Obj.cells.injEq] at h4
   exact hne h4.2.1.symm
end Go.Lo
namespace Go.Lo
open Go.RowKit
theorem upon9 {P:Program} {o:Oper} {a:Act} {K:Act→World→Prop} {Q:Exit→Act→World→Prop} {w:World} {g:Nat} {t:TypeId} {x0 x1 x2 x3 x4 x5 x6 x7 x8:Value}
  (h:Blk w g t #[x0,x1,x2,x3,x4,x5,x6,x7,x8]) (v0 v1 v2 v3 v4 v5 v6 v7 v8:Value)
  (hK:∀ W,Blk W g t #[v0,v1,v2,v3,v4,v5,v6,v7,v8]→Put w g t W→Oper.upon P o a K Q (Result.ok Next.skip W)) :
  Oper.upon P o a K Q (((cellPut P w ⟨g,0,none⟩ v0).andThen fun _ w1=>(cellPut P w1 ⟨g,1,none⟩ v1).andThen fun _ w2=>(cellPut P w2 ⟨g,2,none⟩ v2).andThen fun _ w3=>(cellPut P w3 ⟨g,3,none⟩ v3).andThen fun _ w4=>(cellPut P w4 ⟨g,4,none⟩ v4).andThen fun _ w5=>(cellPut P w5 ⟨g,5,none⟩ v5).andThen fun _ w6=>(cellPut P w6 ⟨g,6,none⟩ v6).andThen fun _ w7=>(cellPut P w7 ⟨g,7,none⟩ v7).andThen fun _ w8=>cellPut P w8 ⟨g,8,none⟩ v8).andThen fun _ w'=>Result.ok Next.skip w'):=by
 have k0:=h
 have k1:=k0.set_ 0 v0
 have k2:=k1.set_ 1 v1
 have k3:=k2.set_ 2 v2
 have k4:=k3.set_ 3 v3
 have k5:=k4.set_ 4 v4
 have k6:=k5.set_ 5 v5
 have k7:=k6.set_ 6 v6
 have k8:=k7.set_ 7 v7
 have k9:=k8.set_ 8 v8
 have p9:=((((((((((Put.refl_ h).cell_ 0 v0).cell_ 1 v1).cell_ 2 v2).cell_ 3 v3).cell_ 4 v4).cell_ 5 v5).cell_ 6 v6).cell_ 7 v7).cell_ 8 v8)
 rw[cellPut_ok k0 0 (by simp)]
 simp only[Result.andThen_ok]
 rw[cellPut_ok k1 1 (by simp)]
 simp only[Result.andThen_ok]
 rw[cellPut_ok k2 2 (by simp)]
 simp only[Result.andThen_ok]
 rw[cellPut_ok k3 3 (by simp)]
 simp only[Result.andThen_ok]
 rw[cellPut_ok k4 4 (by simp)]
 simp only[Result.andThen_ok]
 rw[cellPut_ok k5 5 (by simp)]
 simp only[Result.andThen_ok]
 rw[cellPut_ok k6 6 (by simp)]
 simp only[Result.andThen_ok]
 rw[cellPut_ok k7 7 (by simp)]
 simp only[Result.andThen_ok]
 rw[cellPut_ok k8 8 (by simp)]
 simp only[Result.andThen_ok]
 simp only[List.setIfInBounds_toArray,List.set_cons_zero,List.set_cons_succ] at k9
 exact hK _ k9 p9
theorem blk_setRow {w:World} {g:Nat} {t:TypeId} {old cs:Array Value} (h:Blk w g t old):Blk (w.setRow g cs) g t cs:=setRow_heap w g old cs t (0,0) h
theorem below_setRow {B:Nat} {a w:World} {g:Nat} (h:Below B a w) (hg:B≤g) (cs:Array Value):Below B a (w.setRow g cs):=h.trans ⟨rfl,rfl,rfl,by simp[World.setRow],fun k hk=>setRow_other _ _ k _ (by omega)⟩
theorem own_setRow {w:World} {base:Nat} {e:TypeId} {s n:Nat} {v:Value} {xs:List Value} (h:w.ownsRow base e s v n xs) {g:Nat} (hg:g<base) (cs:Array Value):(w.setRow g cs).ownsRow base e s v n xs:=
 own_same h fun k hk=>setRow_other _ _ k _ (by have:=(h.lt k hk).1;omega)
section
variable {P:Program} {ops:Array Oper} {Q:Exit→Act→World→Prop}
def leftN (n:Nat) (L:Array Bool):Nat:=((List.range n).filter fun i => !L.getD i true).length
theorem leftN_set {n:Nat} {L:Array Bool} {i:Nat} (hi:i<n) (hs:L.size=n) (hu:L.getD i true=false):leftN n (L.setIfInBounds i true)+1≤leftN n L:=by
 unfold leftN
 have h1:∀ j,(!(L.setIfInBounds i true).getD j true)=((!L.getD j true) && !(j==i)):=by
  intro j
  simp only[Array.getD_eq_getD_getElem?,Array.getElem?_setIfInBounds]
  by_cases hj:i=j
  ·subst hj
   simp[hs,hi]
  ·have hj':(j==i)=false:=by simp;omega
   simp[hj,hj']
 simp only[h1]
 rw[←List.filter_filter,←List.countP_eq_length_filter,←List.countP_eq_length_filter,List.countP_filter]
 have h2:(List.range n).countP (fun j=>(!L.getD j true))=(List.range n).countP (fun j=>(!(j==i)) && (!L.getD j true))+(List.range n).countP (fun j=>(j==i) && (!L.getD j true)):=by
  induction List.range n with
  | nil=>rfl
  | cons x r ih =>
   simp only[List.countP_cons,ih]
   by_cases hx:x=i
   ·subst hx
    simp
    omega
   ·have:(x==i)=false:=by simp[hx]
    simp[this]
    omega
 have h3:1≤(List.range n).countP (fun j=>(j==i) && (!L.getD j true)):=List.countP_pos_iff.2 ⟨i,List.mem_range.2 hi,by simp[hu]⟩
 have h4:(List.range n).countP (fun a=>(!L.getD a true) && !(a==i))=(List.range n).countP (fun j=>(!(j==i)) && (!L.getD j true)):=List.countP_congr fun x _=>by rw[Bool.and_comm]
 first
  | omega
  | (simp only[Bool.and_comm] at *;omega)
theorem ready_mem {L:Array Bool} {i:Nat} (h:i∈Region.ready .any ops L):i<ops.size∧L.getD i true=false:=by
 unfold Region.ready at h
 have:=List.mem_filter.1 h
 refine ⟨List.mem_range.1 this.1,?_⟩
 have h2:=this.2
 simp only[Bool.and_eq_true,Bool.not_eq_true'] at h2
 exact h2.1
theorem ready_after {L:Array Bool} {i:Nat} {o:Oper} (h:i∈Region.ready .any ops L) (ho:ops[i]?=some o):(o.after.all fun e => !Region.binds .any e || L.getD e.on false)=true:=by
 unfold Region.ready at h
 have:=(List.mem_filter.1 h).2
 simp only[ho,Option.map_some,Option.getD_some,Bool.and_eq_true] at this
 exact this.2
def ordB (ops:Array Oper):Bool:=(List.range ops.size).all fun i=>((ops[i]?).map fun o=>o.after.all fun e => !Region.binds .any e || decide (e.on<i)).getD true
theorem ord_of (h:ordB ops=true):∀ (i:Nat) (o:Oper),ops[i]?=some o→∀ e∈o.after,Region.binds .any e=true→e.on<i:=by
 intro i o ho e he hb
 have hi:i<ops.size:=(Array.getElem?_eq_some_iff.1 ho).1
 have h1:=List.all_eq_true.1 h i (List.mem_range.2 hi)
 simp only[ho,Option.map_some,Option.getD_some] at h1
 have h2:=(Array.all_eq_true'.1 h1) e he
 rw[hb] at h2
 exact of_decide_eq_true (by simpa using h2)
theorem all_listed (hord:∀ (i:Nat) (o:Oper),ops[i]?=some o→∀ e∈o.after,Region.binds .any e=true→e.on<i) {L:Array Bool} (hs:L.size=ops.size) (hr:Region.ready .any ops L=[]):∀ i,i<ops.size→L.getD i false=true:=by
 intro i
 induction i using Nat.strongRecOn with
 | _ i ih =>
  intro hi
  cases hc:L.getD i false with
  | true=>rfl
  | false =>
   exfalso
   have hmem:i∈Region.ready .any ops L:=by
    unfold Region.ready
    refine List.mem_filter.2 ⟨List.mem_range.2 hi,?_⟩
    have h1:L.getD i true=false:=by
     simp only[Array.getD_eq_getD_getElem?] at hc ⊢
     rw[Array.getElem?_eq_getElem (by omega)] at hc ⊢
     simpa using hc
    rw[h1]
    simp only[Bool.not_false,Bool.true_and]
    rw[Array.getElem?_eq_getElem hi]
    simp only[Option.map_some,Option.getD_some]
    rw[Array.all_eq_true']
    intro e he
    cases hb:Region.binds .any e with
    | false=>rfl
    | true =>
     have:=hord i _ (Array.getElem?_eq_getElem hi) e he hb
     rw[ih e.on this (by omega)]
     rfl
   rw[hr] at hmem
   cases hmem
theorem wpAny_inv (hord:∀ (i:Nat) (o:Oper),ops[i]?=some o→∀ e∈o.after,Region.binds .any e=true→e.on<i) (Inv:Array Bool→Act→World→Prop)
  (hs:∀ L a w i,L.size=ops.size→i∈Region.ready .any ops L→Inv L a w→wpOp P ops Q i (fun a' w'=>Inv (L.setIfInBounds i true) a' w') a w)
  (hf:∀ L a w,(∀ i,i<ops.size→L.getD i false=true)→Inv L a w→Q .normal a w) :
  ∀ (fuel:Nat) (L:Array Bool) (a:Act) (w:World),L.size=ops.size→leftN ops.size L≤fuel→Inv L a w→wpAny P .any ops Q fuel L a w:=by
 intro fuel
 induction fuel with
 | zero =>
  intro L a w hL hl hI
  have hr:Region.ready .any ops L=[]:=by
   apply List.eq_nil_iff_forall_not_mem.2
   intro i hi
   obtain ⟨h1,h2⟩:=ready_mem hi
   have:=leftN_set h1 hL h2
   omega
  exact ⟨hr,hf L a w (all_listed hord hL hr) hI⟩
 | succ fuel ih =>
  intro L a w hL hl hI
  refine ⟨fun hr=>hf L a w (all_listed hord hL hr) hI,fun i hi => ?_⟩
  obtain ⟨h1,h2⟩:=ready_mem hi
  have:=leftN_set h1 hL h2
  exact wpOp_mono (fun a' w' hI'=>ih _ a' w' (by simpa using hL) (by omega) hI') (hs L a w i hL hi hI)
theorem wp_region_inv {id:Nat} {a:Act} {w:World} (hm:P.follows .mixedOrders=true) (hord:∀ (i:Nat) (o:Oper),ops[i]?=some o→∀ e∈o.after,Region.binds .any e=true→e.on<i) (Inv:Array Bool→Act→World→Prop)
  (h0:Inv (Array.replicate ops.size false) a w.drew)
  (hs:∀ L a w i,L.size=ops.size→i∈Region.ready .any ops L→Inv L a w→wpOp P ops Q i (fun a' w'=>Inv (L.setIfInBounds i true) a' w') a w)
  (hf:∀ L a w,(∀ i,i<ops.size→L.getD i false=true)→Inv L a w→Q .normal a w):(Code.region id ops true).wp P Q a w:=
 wp_region_any hm (wpAny_inv hord Inv hs hf ops.size _ a _ (by simp) (by
  unfold leftN
  exact Nat.le_trans (List.length_filter_le _ _) (by simp)) h0)
theorem wp_region_inv0 {id:Nat} {a:Act} {w:World} (Inv:Act→World→Array Bool→Act→World→Prop) (hm:P.follows .mixedOrders=true) (hord:ordB ops=true)
  (h0:Inv a w (Array.replicate ops.size false) a w.drew)
  (hs:∀ L a' w' i,L.size=ops.size→i∈Region.ready .any ops L→Inv a w L a' w'→wpOp P ops Q i (fun a2 w2=>Inv a w (L.setIfInBounds i true) a2 w2) a' w')
  (hf:∀ L a' w',(∀ i,i<ops.size→L.getD i false=true)→Inv a w L a' w'→Q .normal a' w'):(Code.region id ops true).wp P Q a w:=
 wp_region_inv hm (ord_of hord) (Inv a w) h0 hs hf
theorem getD_low {L:Array Bool} {i:Nat} (h:L.getD i true=false):L.getD i false=false:=by
 simp only[Array.getD_eq_getD_getElem?] at h ⊢
 cases hc:L[i]? with
 | none=>rfl
 | some b=>rw[hc] at h;simpa using h
theorem getD_set {L:Array Bool} {i j:Nat} (hi:i<L.size):(L.setIfInBounds i true).getD j false=if j=i then true else L.getD j false:=by
 simp only[Array.getD_eq_getD_getElem?,Array.getElem?_setIfInBounds]
 by_cases h:i=j
 ·subst h;simp[hi]
 ·have:¬ j=i:=fun e=>h e.symm
  simp[h,this]
end
end Go.Lo
namespace Go.Lo
structure GEdge where
 dst:Int
 cost:Int
 data:Int
 virt:Bool
structure GNode where
 network:Bool
 id:Int
 netA:Int
 netB:Int
 flags:Int
 edges:List GEdge
def far:Int:=4294967296
def esOf (g:List GNode) (i:Nat):List GEdge:=match g[i]? with | some n=>n.edges | none=>[]
def okG (g:List GNode):Prop:=∀ n∈g,∀ e∈n.edges,0≤e.cost∧e.cost≤4294967295
theorem esOf_eq {g:List GNode} {i:Nat} (h:i<g.length):esOf g i=g[i].edges:=by unfold esOf;rw[List.getElem?_eq_getElem h]
theorem esOf_cost {g:List GNode} (hg:okG g) {i:Nat} {e:GEdge} (he:e∈esOf g i):0≤e.cost∧e.cost≤4294967295:=by
 unfold esOf at he
 split at he
 ·rename_i n hn
  exact hg n (List.mem_of_getElem? hn) e he
 ·cases he
inductive Way (g:List GNode) (root:Nat):Nat→Int→Prop where
 | here:Way g root root 0
 | on {i j:Nat} {x:Int} {e:GEdge}:Way g root i x→e∈esOf g i→e.dst=j→j<g.length→Way g root j (x+e.cost)
theorem Way.nonneg {g:List GNode} (hg:okG g) {root i:Nat} {x:Int} (h:Way g root i x):0≤x:=by
 induction h with
 | here=>exact Int.le_refl _
 | on _ he _ _ ih=>have:=(esOf_cost hg he).1;omega
def at_ (c:List Int) (i:Nat):Int:=c.getD i far
def Slack (c:List Int) (x:Int) (es:List GEdge):Prop:=∀ e∈es,∀ j:Nat,e.dst=j→j<c.length→at_ c j≤x+e.cost
def part_ (g:List GNode) (cur:Option (Nat × Nat)) (i:Nat):List GEdge:=
 match cur with
 | some (a,k)=>if a=i then (esOf g i).take k else esOf g i
 | none=>esOf g i
structure CInv (g:List GNode) (root:Nat) (c:List Int) (q:List (Int × Int)) (cur:Option (Nat × Nat)):Prop where
 len:c.length=g.length
 root0:at_ c root=0
 rng:∀ i,i<c.length→0≤at_ c i∧at_ c i≤far
 way:∀ i,i<c.length→at_ c i<far→Way g root i (at_ c i)
 que:∀ p∈q,0≤p.1∧p.1<far∧∃ i:Nat,p.2=i∧i<c.length∧at_ c i≤p.1
 done:∀ i,i<c.length→at_ c i<far→(at_ c i,(i:Int))∈q∨Slack c (at_ c i) (part_ g cur i)
theorem CInv.perm {g:List GNode} {root:Nat} {c:List Int} {q q':List (Int × Int)} {cur:Option (Nat × Nat)} (h:CInv g root c q cur) (hp:q'.Perm q):CInv g root c q' cur:=
 ⟨h.len,h.root0,h.rng,h.way,fun p hm=>h.que p (hp.mem_iff.1 hm),fun i hi hf=>(h.done i hi hf).imp (hp.mem_iff.2) id⟩
theorem CInv.stale {g:List GNode} {root:Nat} {c:List Int} {q:List (Int × Int)} {x:Int} {i:Nat} (h:CInv g root c ((x,(i:Int)) :: q) none) (hx:at_ c i<x):CInv g root c q none:=
 ⟨h.len,h.root0,h.rng,h.way,fun p hm=>h.que p (List.mem_cons_of_mem _ hm),fun j hj hf=>by
  rcases h.done j hj hf with h1 | h1
  ·rcases List.mem_cons.1 h1 with h2 | h2
   ·simp only[Prod.mk.injEq] at h2
    have:j=i:=by omega
    subst this
    omega
   ·exact .inl h2
  ·exact .inr h1⟩
theorem CInv.begin {g:List GNode} {root:Nat} {c:List Int} {q:List (Int × Int)} {x:Int} {i:Nat} (h:CInv g root c ((x,(i:Int)) :: q) none) (_hx:at_ c i=x):CInv g root c q (some (i,0)):=
 ⟨h.len,h.root0,h.rng,h.way,fun p hm=>h.que p (List.mem_cons_of_mem _ hm),fun j hj hf=>by
  by_cases hji:i=j
  ·subst hji
   refine .inr ?_
   unfold part_
   simp only[if_true,List.take_zero]
   intro e he;cases he
  ·rcases h.done j hj hf with h1 | h1
   ·rcases List.mem_cons.1 h1 with h2 | h2
    ·simp only[Prod.mk.injEq] at h2
     omega
    ·exact .inl h2
   ·refine .inr ?_
    unfold part_ at h1 ⊢
    simpa only[if_neg hji] using h1⟩
theorem CInv.skip {g:List GNode} {root:Nat} {c:List Int} {q:List (Int × Int)} {i k:Nat} (h:CInv g root c q (some (i,k))) (hk:k<(esOf g i).length)
  (hs:∀ j:Nat,((esOf g i)[k]).dst=j→j<c.length→at_ c j≤at_ c i+((esOf g i)[k]).cost):CInv g root c q (some (i,k+1)):=
 ⟨h.len,h.root0,h.rng,h.way,h.que,fun j hj hf=>by
  rcases h.done j hj hf with h1 | h1
  ·exact .inl h1
  ·refine .inr ?_
   unfold part_ at h1 ⊢
   by_cases hji:i=j
   ·subst hji
    simp only[if_true] at h1 ⊢
    rw[t'k hk]
    intro e he m hm hmc
    rcases List.mem_append.1 he with he | he
    ·exact h1 e he m hm hmc
    ·have:e=(esOf g i)[k]:=by simpa using he
     subst this
     exact hs m hm hmc
   ·simpa only[if_neg hji] using h1⟩
theorem at_set_ne {c:List Int} {t i:Nat} {x:Int} (h:i≠t):at_ (c.set t x) i=at_ c i:=by
 unfold at_;rw[List.getD_eq_getElem?_getD,List.getD_eq_getElem?_getD,List.getElem?_set_ne (Ne.symm h)]
theorem at_set_eq {c:List Int} {t:Nat} {x:Int} (h:t<c.length):at_ (c.set t x) t=x:=by
 unfold at_;rw[List.getD_eq_getElem?_getD,List.getElem?_set_self h];rfl
theorem CInv.step {g:List GNode} {root:Nat} {c:List Int} {q:List (Int × Int)} {i k t:Nat} (hg:okG g) (h:CInv g root c q (some (i,k))) (hi:i<c.length) (hif:at_ c i<far) (hk:k<(esOf g i).length)
  (ht:((esOf g i)[k]).dst=t) (htc:t<c.length) (hlt:at_ c i+((esOf g i)[k]).cost<at_ c t) :
  CInv g root (c.set t (at_ c i+((esOf g i)[k]).cost)) ((at_ c i+((esOf g i)[k]).cost,(t:Int)) :: q) (some (i,k+1)):=by
 have hc:=esOf_cost hg (g'm hk)
 have h0:=(h.rng i hi).1
 have htr:=h.rng t htc
 have hit:i≠t:=by rintro rfl;omega
 have hroot:root≠t:=by rintro rfl;rw[h.root0] at hlt;omega
 have hle:∀ j,at_ (c.set t (at_ c i+((esOf g i)[k]).cost)) j≤at_ c j:=fun j=>by
  by_cases hj:j=t
  ·subst hj;rw[at_set_eq htc];omega
  ·rw[at_set_ne hj];exact Int.le_refl _
 generalize hx:at_ c i+((esOf g i)[k]).cost=x at *
 refine ⟨by rw[List.length_set];exact h.len,by rw[at_set_ne hroot];exact h.root0,fun j hj => ?_,fun j hj hf => ?_,fun p hp => ?_,fun j hj hf => ?_⟩
 ·rw[List.length_set] at hj
  by_cases e:j=t
  ·subst e;rw[at_set_eq htc];omega
  ·rw[at_set_ne e];exact h.rng j hj
 ·rw[List.length_set] at hj
  by_cases e:j=t
  ·subst e
   rw[at_set_eq htc,←hx]
   exact Way.on (h.way i hi hif) (g'm hk) ht (by rw[←h.len];exact htc)
  ·rw[at_set_ne e] at hf ⊢;exact h.way j hj hf
 ·rcases List.mem_cons.1 hp with rfl | hp
  ·exact ⟨by omega,by show x<far;omega,t,rfl,by rw[List.length_set];exact htc,by rw[at_set_eq htc];exact Int.le_refl _⟩
  ·obtain ⟨h1,h2,m,h3,h4,h5⟩:=h.que p hp
   exact ⟨h1,h2,m,h3,by rw[List.length_set];exact h4,Int.le_trans (hle m) h5⟩
 ·rw[List.length_set] at hj
  by_cases e:j=t
  ·subst e
   rw[at_set_eq htc]
   exact .inl (List.mem_cons_self ..)
  ·rw[at_set_ne e] at hf ⊢
   rcases h.done j hj hf with h1 | h1
   ·exact .inl (List.mem_cons_of_mem _ h1)
   ·refine .inr ?_
    unfold part_ at h1 ⊢
    have old:∀ es,Slack c (at_ c j) es→Slack (c.set t x) (at_ c j) es:=fun es hs e' he' m hm hmc=>Int.le_trans (hle m) (hs e' he' m hm (by rw[List.length_set] at hmc;exact hmc))
    by_cases hji:i=j
    ·subst hji
     simp only[if_true] at h1 ⊢
     rw[t'k hk]
     intro e' he' m hm hmc
     rcases List.mem_append.1 he' with he' | he'
     ·exact old _ h1 e' he' m hm hmc
     ·have:e'=(esOf g i)[k]:=by simpa using he'
      subst this
      have hmt:m=t:=by omega
      subst hmt
      rw[at_set_eq htc];omega
    ·simp only[if_neg hji] at h1 ⊢
     exact old _ h1
theorem CInv.finish {g:List GNode} {root:Nat} {c:List Int} {q:List (Int × Int)} {i:Nat} (h:CInv g root c q (some (i,(esOf g i).length))):CInv g root c q none:=
 ⟨h.len,h.root0,h.rng,h.way,h.que,fun j hj hf=>(h.done j hj hf).imp id fun h1=>by
  unfold part_ at h1 ⊢
  by_cases hji:i=j
  ·subst hji;simpa using h1
  ·simpa only[if_neg hji] using h1⟩
structure Costs (g:List GNode) (root:Nat) (c:List Int):Prop where
 len:c.length=g.length
 root0:at_ c root=0
 rng:∀ i,i<c.length→0≤at_ c i∧at_ c i≤far
 way:∀ i,i<c.length→at_ c i<far→Way g root i (at_ c i)
 slack:∀ i,i<c.length→at_ c i<far→Slack c (at_ c i) (esOf g i)
theorem CInv.costs {g:List GNode} {root:Nat} {c:List Int} (h:CInv g root c [] none):Costs g root c:=
 ⟨h.len,h.root0,h.rng,h.way,fun i hi hf=>(h.done i hi hf).resolve_left (by simp)⟩
theorem CInv.start {g:List GNode} {root:Nat} (hr:root<g.length):CInv g root ((List.replicate g.length far).set root 0) [(0,(root:Int))] none:=by
 have hl:root<(List.replicate g.length far).length:=by simpa using hr
 have hoth:∀ j,j≠root→at_ ((List.replicate g.length far).set root 0) j=far:=fun j hj=>by
  rw[at_set_ne hj];unfold at_;rw[List.getD_eq_getElem?_getD,List.getElem?_replicate];split <;> rfl
 have hself:at_ ((List.replicate g.length far).set root 0) root=0:=at_set_eq hl
 refine ⟨by simp,hself,fun i _ => ?_,fun i _ hf => ?_,fun p hp => ?_,fun i _ hf => ?_⟩
 ·by_cases e:i=root
  ·subst e;rw[hself];simp[far]
  ·rw[hoth i e];simp[far]
 ·by_cases e:i=root
  ·subst e;rw[hself];exact Way.here
  ·rw[hoth i e] at hf;exact absurd hf (Int.lt_irrefl _)
 ·have:p=(0,(root:Int)):=by simpa using hp
  subst this
  exact ⟨Int.le_refl _,by simp[far],root,rfl,by simpa using hr,by rw[hself];exact Int.le_refl _⟩
 ·by_cases e:i=root
  ·subst e;rw[hself];exact .inl (by simp)
  ·rw[hoth i e] at hf;exact absurd hf (Int.lt_irrefl _)
def sumC (c:List Int):Nat:=(c.map Int.toNat).sum
theorem sumC_set {c:List Int} {t:Nat} {x:Int} (ht:t<c.length) (h0:0≤x) (hx:x<at_ c t):sumC (c.set t x)+1≤sumC c:=by
 induction c generalizing t with
 | nil=>simp at ht
 | cons y r ih =>
  cases t with
  | zero =>
   have:x<y:=by simpa[at_] using hx
   simp only[sumC,s'z,List.map_cons,List.sum_cons]
   omega
  | succ t =>
   have:=ih (t:=t) (by simpa using ht) (by simpa[at_] using hx)
   simp only[sumC,s's,List.map_cons,List.sum_cons] at this ⊢
   omega
theorem sumC_le {c:List Int} (h:∀ i,i<c.length→at_ c i≤far):sumC c≤c.length*4294967296:=by
 induction c with
 | nil=>simp[sumC]
 | cons y r ih =>
  have h1:=h 0 (by simp)
  have h2:=ih fun i hi=>by have:=h (i+1) (by simpa using hi);simpa[at_] using this
  simp only[at_,List.getD_cons_zero,far] at h1
  simp only[sumC,List.map_cons,List.sum_cons,List.length_cons] at h2 ⊢
  omega
def Sorted (l:List Hop):Prop:=l.Pairwise fun a b=>hopLt a b=true
theorem hopLt_irrefl (a:Hop):hopLt a a=false:=by
 obtain ⟨x,y,z⟩:=a
 cases z <;> simp[hopLt]
theorem hopLt_trans {a b c:Hop} (h:hopLt a b=true) (k:hopLt b c=true):hopLt a c=true:=by
 obtain ⟨a1,a2,a3⟩:=a
 obtain ⟨b1,b2,b3⟩:=b
 obtain ⟨c1,c2,c3⟩:=c
 unfold hopLt at *
 simp only[bne_iff_ne,ne_eq,ite_not] at *
 by_cases e1:a1=b1 <;> by_cases e2:b1=c1 <;> by_cases e3:a2=b2 <;> by_cases e4:b2=c2 <;> simp_all <;> (try split) <;> (try split) <;> (try simp_all) <;> (try omega)
theorem hopLt_total {a b:Hop} (h:hopLt a b=false) (hne:a≠b):hopLt b a=true:=by
 obtain ⟨a1,a2,a3⟩:=a
 obtain ⟨b1,b2,b3⟩:=b
 unfold hopLt at *
 simp only[bne_iff_ne,ne_eq,ite_not] at *
 by_cases e1:a1=b1
 ·subst e1
  by_cases e3:a2=b2
  ·subst e3
   cases a3 <;> cases b3 <;> simp_all
  ·have e4:¬ b2=a2:=fun e=>e3 e.symm
   simp only[if_true,if_neg e3,if_neg e4,decide_eq_false_iff_not,decide_eq_true_eq] at h ⊢
   omega
 ·have e2:¬ b1=a1:=fun e=>e1 e.symm
  simp only[if_neg e1,if_neg e2,decide_eq_false_iff_not,decide_eq_true_eq] at h ⊢
  omega
theorem mem_ins {l:List Hop} {h x:Hop}:x∈ins l h↔x∈l∨x=h:=by
 unfold ins
 split
 ·rename_i e
  constructor
  ·exact .inl
  ·rintro (h1 | rfl)
   ·exact h1
   ·exact List.mem_of_getElem? e
 ·rw[List.mem_append,List.mem_cons]
  constructor
  ·rintro (h1 | rfl | h1)
   ·exact .inl (List.mem_of_mem_take h1)
   ·exact .inr rfl
   ·exact .inl (List.mem_of_mem_drop h1)
  ·rintro (h1 | rfl)
   ·rw[←List.take_append_drop (insAt l h) l,List.mem_append] at h1
    rcases h1 with h1 | h1
    ·exact .inl h1
    ·exact .inr (.inr h1)
   ·exact .inr (.inl rfl)
theorem mem_puts {l m:List Hop} {x:Hop}:x∈puts l m↔x∈l∨x∈m:=by
 induction m generalizing l with
 | nil=>simp[puts]
 | cons y r ih =>
  have:=ih (l:=ins l y)
  simp only[puts,List.foldl_cons] at this ⊢
  rw[this,mem_ins,List.mem_cons,or_assoc]
theorem insAt_lt {l:List Hop} {h:Hop} {i:Nat} (hi:i<insAt l h):∃ hl:i<l.length,hopLt l[i] h=true:=by
 induction l generalizing i with
 | nil=>simp[insAt] at hi
 | cons y r ih =>
  by_cases hy:hopLt y h=true
  ·have e:insAt (y :: r) h=insAt r h+1:=by unfold insAt;rw[List.takeWhile_cons,if_pos hy,List.length_cons]
   cases i with
   | zero=>exact ⟨by simp,hy⟩
   | succ i =>
    obtain ⟨h1,h2⟩:=ih (i:=i) (by omega)
    exact ⟨by simpa using h1,by simpa using h2⟩
  ·have e:insAt (y :: r) h=0:=by unfold insAt;rw[List.takeWhile_cons,if_neg hy];rfl
   omega
theorem insAt_stop {l:List Hop} {h:Hop} (hi:insAt l h<l.length):hopLt l[insAt l h] h=false:=by
 induction l with
 | nil=>simp at hi
 | cons y r ih =>
  by_cases hy:hopLt y h=true
  ·have e:insAt (y :: r) h=insAt r h+1:=by unfold insAt;rw[List.takeWhile_cons,if_pos hy,List.length_cons]
   simp only[e,List.getElem_cons_succ]
   exact ih (by rw[e] at hi;simpa using hi)
  ·have e:insAt (y :: r) h=0:=by unfold insAt;rw[List.takeWhile_cons,if_neg hy];rfl
   simp only[e,List.getElem_cons_zero]
   simpa using hy
theorem Sorted.ins {l:List Hop} (hs:Sorted l) (h:Hop):Sorted (ins l h):=by
 unfold Lo.ins
 split
 ·exact hs
 ·rename_i hne
  have hs':=hs
  unfold Sorted at hs hs' ⊢
  rw[←List.take_append_drop (insAt l h) l,List.pairwise_append] at hs
  obtain ⟨h1,h2,h3⟩:=hs
  have hlow:∀ a∈l.take (insAt l h),hopLt a h=true:=fun a ha=>by
   obtain ⟨i,hi,rfl⟩:=List.mem_iff_getElem.1 ha
   have hi':i<insAt l h:=by rw[List.length_take] at hi;omega
   obtain ⟨_,h4⟩:=insAt_lt hi'
   rw[List.getElem_take];exact h4
  have hhigh:∀ b∈l.drop (insAt l h),hopLt h b=true:=fun b hb=>by
   obtain ⟨i,hi,rfl⟩:=List.mem_iff_getElem.1 hb
   rw[List.length_drop] at hi
   rw[List.getElem_drop]
   have hlt:insAt l h<l.length:=by omega
   have h0:hopLt h l[insAt l h]=true:=hopLt_total (insAt_stop hlt) (fun e=>hne (by rw[List.getElem?_eq_getElem hlt,e]))
   rcases Nat.eq_zero_or_pos i with rfl | hp
   ·exact h0
   ·exact hopLt_trans h0 (List.pairwise_iff_getElem.1 hs' _ _ hlt (by omega) (by omega))
  refine List.pairwise_append.2 ⟨h1,List.pairwise_cons.2 ⟨hhigh,h2⟩,fun a ha b hb => ?_⟩
  rcases List.mem_cons.1 hb with rfl | hb
  ·exact hlow a ha
  ·exact h3 a ha b hb
theorem Sorted.puts {l:List Hop} (hs:Sorted l) (m:List Hop):Sorted (puts l m):=by
 induction m generalizing l with
 | nil=>exact hs
 | cons y r ih=>exact ih (hs.ins y)
theorem Sorted.nodup {l:List Hop} (hs:Sorted l):l.Nodup:=hs.imp fun {a b} h e=>by subst e;rw[hopLt_irrefl] at h;cases h
theorem Sorted.ext {l m:List Hop} (hl:Sorted l) (hm:Sorted m) (h:∀ x,x∈l↔x∈m):l=m:=by
 induction l generalizing m with
 | nil =>
  cases m with
  | nil=>rfl
  | cons y r=>exact absurd ((h y).2 (List.mem_cons_self ..)) (by simp)
 | cons x l ih =>
  cases m with
  | nil=>exact absurd ((h x).1 (List.mem_cons_self ..)) (by simp)
  | cons y m =>
   have hx:=List.pairwise_cons.1 hl
   have hy:=List.pairwise_cons.1 hm
   have hxy:x=y:=by
    rcases List.mem_cons.1 ((h x).1 (List.mem_cons_self ..)) with e | h1
    ·exact e
    ·rcases List.mem_cons.1 ((h y).2 (List.mem_cons_self ..)) with e | h2
     ·exact e.symm
     ·have h3:=hopLt_trans (hy.1 x h1) (hx.1 y h2)
      rw[hopLt_irrefl] at h3;cases h3
   subst hxy
   congr 1
   refine ih hx.2 hy.2 fun z=>⟨fun hz => ?_,fun hz => ?_⟩
   ·rcases List.mem_cons.1 ((h z).1 (List.mem_cons_of_mem _ hz)) with e | h1
    ·subst e;have:=hx.1 z hz;rw[hopLt_irrefl] at this;cases this
    ·exact h1
   ·rcases List.mem_cons.1 ((h z).2 (List.mem_cons_of_mem _ hz)) with e | h1
    ·subst e;have:=hy.1 z hz;rw[hopLt_irrefl] at this;cases this
    ·exact h1
theorem ins_old {l:List Hop} {h:Hop} (hs:(ins l h).length=l.length):ins l h=l∧h∈l:=by
 unfold ins at *
 split
 ·rename_i e;exact ⟨rfl,List.mem_of_getElem? e⟩
 ·rename_i hne
  rw[if_neg hne] at hs
  have:=insAt_le l h
  simp only[l'a,List.length_take,List.length_cons,List.length_drop] at hs;omega
theorem puts_grow (l m:List Hop):l.length≤(puts l m).length:=by
 induction m generalizing l with
 | nil=>exact n'r _
 | cons y r ih=>exact n't (ins_length l y).2 (ih _)
theorem puts_old {l m:List Hop} (h:(puts l m).length=l.length):puts l m=l∧∀ x∈m,x∈l:=by
 induction m generalizing l with
 | nil=>exact ⟨rfl,by simp⟩
 | cons y r ih =>
  have h1:=puts_grow (ins l y) r
  have h2:=(ins_length l y).2
  have h3:(puts (ins l y) r).length=l.length:=h
  have h4:=ins_old (l:=l) (h:=y) (by omega)
  rw[h4.1] at h3
  have h5:=ih h3
  refine ⟨by show puts (ins l y) r=l;rw[h4.1];exact h5.1,fun x hx => ?_⟩
  rcases List.mem_cons.1 hx with rfl | hx
  ·exact h4.2
  ·exact h5.2 x hx
theorem nodup_le {α:Type} [DecidableEq α] {l m:List α} (hl:l.Nodup) (h:∀ x∈l,x∈m):l.length≤m.length:=by
 induction l generalizing m with
 | nil=>simp
 | cons x r ih =>
  have hx:=List.nodup_cons.1 hl
  have h1:x∈m:=h x (List.mem_cons_self ..)
  have h2:=ih (m:=m.erase x) hx.2 (fun y hy=>(List.mem_erase_of_ne (fun e=>hx.1 (by rw[←e];exact hy))).2 (h y (List.mem_cons_of_mem _ hy)))
  rw[List.length_erase_of_mem h1] at h2
  have h3:0<m.length:=List.length_pos_of_mem h1
  simp only[List.length_cons];omega
def netAt (g:List GNode) (i:Nat):Bool:=match g[i]? with | some n=>n.network | none=>false
def idAt (g:List GNode) (i:Nat):Int:=match g[i]? with | some n=>n.id | none=>0
def first_ (g:List GNode) (e:GEdge):Hop:=(e.data,if netAt g e.dst.toNat then 0 else idAt g e.dst.toNat,e.virt)
def on_ (g:List GNode) (i:Nat) (e:GEdge) (h:Hop):Hop:=if netAt g i && h.2.1==0 && !netAt g e.dst.toNat then (h.1,idAt g e.dst.toNat,h.2.2) else h
def stepHops (g:List GNode) (root i:Nat) (e:GEdge) (hi:List Hop):List Hop:=if i=root then [first_ g e] else hi.map (on_ g i e)
def Tight (g:List GNode) (root:Nat) (c:List Int) (i:Nat) (e:GEdge):Prop:=
 0≤e.dst∧e.dst<g.length∧e.dst≠root∧at_ c i+e.cost=at_ c e.dst.toNat∧at_ c e.dst.toNat<far
instance (g:List GNode) (root:Nat) (c:List Int) (i:Nat) (e:GEdge):Decidable (Tight g root c i e):=by unfold Tight;exact inferInstance
inductive HopOf (g:List GNode) (root:Nat) (c:List Int):Nat→Hop→Prop where
 | first {e:GEdge}:e∈esOf g root→Tight g root c root e→HopOf g root c e.dst.toNat (first_ g e)
 | on {i:Nat} {e:GEdge} {h:Hop}:HopOf g root c i h→i≠root→e∈esOf g i→Tight g root c i e→HopOf g root c e.dst.toNat (on_ g i e h)
def hAt (H:List (List Hop)) (i:Nat):List Hop:=H.getD i []
def Closed (g:List GNode) (root:Nat) (c:List Int) (H:List (List Hop)) (i:Nat) (es:List GEdge):Prop:=
 ∀ e∈es,Tight g root c i e→∀ h∈stepHops g root i e (hAt H i),h∈hAt H e.dst.toNat
structure SInv (g:List GNode) (root:Nat) (c:List Int) (todo:List Nat) (H:List (List Hop)) (cur:Option (Nat × Nat)):Prop where
 len:H.length=g.length
 sorted:∀ i,Sorted (hAt H i)
 root0:hAt H root=[]
 sound:∀ i,∀ h∈hAt H i,HopOf g root c i h
 tod:∀ i∈todo,i<g.length∧(i=root∨hAt H i≠[])
 done:∀ i,i<g.length→(i=root∨hAt H i≠[])→i∈todo∨Closed g root c H i (part_ g cur i)
theorem hAt_set_ne {H:List (List Hop)} {t i:Nat} {l:List Hop} (h:i≠t):hAt (H.set t l) i=hAt H i:=by
 unfold hAt;rw[List.getD_eq_getElem?_getD,List.getD_eq_getElem?_getD,List.getElem?_set_ne (Ne.symm h)]
theorem hAt_set_eq {H:List (List Hop)} {t:Nat} {l:List Hop} (h:t<H.length):hAt (H.set t l) t=l:=by
 unfold hAt;rw[List.getD_eq_getElem?_getD,List.getElem?_set_self h];rfl
theorem SInv.begin {g:List GNode} {root:Nat} {c:List Int} {todo:List Nat} {H:List (List Hop)} {i:Nat} (h:SInv g root c (i :: todo) H none):SInv g root c todo H (some (i,0)):=
 ⟨h.len,h.sorted,h.root0,h.sound,fun j hj=>h.tod j (List.mem_cons_of_mem _ hj),fun j hj hr=>by
  by_cases hji:i=j
  ·subst hji
   refine .inr ?_
   unfold part_
   simp only[if_true,List.take_zero]
   intro e he;cases he
  ·rcases h.done j hj hr with h1 | h1
   ·rcases List.mem_cons.1 h1 with h2 | h2
    ·exact absurd h2.symm hji
    ·exact .inl h2
   ·refine .inr ?_
    unfold part_ at h1 ⊢
    simpa only[if_neg hji] using h1⟩
theorem SInv.skip {g:List GNode} {root:Nat} {c:List Int} {todo:List Nat} {H:List (List Hop)} {i k:Nat} (h:SInv g root c todo H (some (i,k))) (hk:k<(esOf g i).length)
  (hs:Tight g root c i (esOf g i)[k]→∀ x∈stepHops g root i (esOf g i)[k] (hAt H i),x∈hAt H ((esOf g i)[k]).dst.toNat):SInv g root c todo H (some (i,k+1)):=
 ⟨h.len,h.sorted,h.root0,h.sound,h.tod,fun j hj hr=>by
  rcases h.done j hj hr with h1 | h1
  ·exact .inl h1
  ·refine .inr ?_
   unfold part_ at h1 ⊢
   by_cases hji:i=j
   ·subst hji
    simp only[if_true] at h1 ⊢
    rw[t'k hk]
    intro e he ht x hx
    rcases List.mem_append.1 he with he | he
    ·exact h1 e he ht x hx
    ·have:e=(esOf g i)[k]:=by simpa using he
     subst this
     exact hs ht x hx
   ·simpa only[if_neg hji] using h1⟩
theorem SInv.step {g:List GNode} {root:Nat} {c:List Int} {todo:List Nat} {H:List (List Hop)} {i k:Nat} (h:SInv g root c todo H (some (i,k))) (hk:k<(esOf g i).length)
  (ht:Tight g root c i (esOf g i)[k]) (hnew:(puts (hAt H ((esOf g i)[k]).dst.toNat) (stepHops g root i (esOf g i)[k] (hAt H i))).length≠(hAt H ((esOf g i)[k]).dst.toNat).length) :
  SInv g root c (todo++[((esOf g i)[k]).dst.toNat]) (H.set ((esOf g i)[k]).dst.toNat (puts (hAt H ((esOf g i)[k]).dst.toNat) (stepHops g root i (esOf g i)[k] (hAt H i)))) (some (i,k+1)):=by
 have hE:=g'm hk
 generalize he:(esOf g i)[k]=e at *
 have ht':=ht
 obtain ⟨h0,h1,h2,_,_⟩:=ht'
 have hlt:e.dst.toNat<g.length:=by omega
 have hltH:e.dst.toNat<H.length:=by rw[h.len];exact hlt
 have hrt:root≠e.dst.toNat:=by omega
 have hmem:∀ j x,x∈hAt H j→x∈hAt (H.set e.dst.toNat (puts (hAt H e.dst.toNat) (stepHops g root i e (hAt H i)))) j:=fun j x hx=>by
  by_cases ej:j=e.dst.toNat
  ·subst ej;rw[hAt_set_eq hltH];exact mem_puts.2 (.inl hx)
  ·rw[hAt_set_ne ej];exact hx
 have hlong:puts (hAt H e.dst.toNat) (stepHops g root i e (hAt H i))≠[]:=fun hn=>by
  have:=puts_grow (hAt H e.dst.toNat) (stepHops g root i e (hAt H i))
  rw[hn] at this hnew
  simp at this hnew
  rw[this] at hnew;simp at hnew
 refine ⟨by rw[List.length_set];exact h.len,fun j => ?_,by rw[hAt_set_ne hrt];exact h.root0,fun j x hx => ?_,fun j hj => ?_,fun j hj hr => ?_⟩
 ·by_cases ej:j=e.dst.toNat
  ·subst ej;rw[hAt_set_eq hltH];exact (h.sorted _).puts _
  ·rw[hAt_set_ne ej];exact h.sorted j
 ·by_cases ej:j=e.dst.toNat
  ·subst ej
   rw[hAt_set_eq hltH] at hx
   rcases mem_puts.1 hx with hx | hx
   ·exact h.sound _ x hx
   ·unfold stepHops at hx
    split at hx
    ·rename_i hir
     have:x=first_ g e:=by simpa using hx
     subst this
     subst hir
     exact HopOf.first hE ht
    ·rename_i hir
     obtain ⟨y,hy,rfl⟩:=List.mem_map.1 hx
     exact HopOf.on (h.sound i y hy) hir hE ht
  ·rw[hAt_set_ne ej] at hx;exact h.sound j x hx
 ·rcases List.mem_append.1 hj with hj | hj
  ·obtain ⟨h3,h4⟩:=h.tod j hj
   refine ⟨h3,h4.imp id fun h5 hn => ?_⟩
   by_cases ej:j=e.dst.toNat
   ·subst ej;rw[hAt_set_eq hltH] at hn;exact hlong hn
   ·rw[hAt_set_ne ej] at hn;exact h5 hn
  ·have:j=e.dst.toNat:=by simpa using hj
   subst this
   exact ⟨hlt,.inr (by rw[hAt_set_eq hltH];exact hlong)⟩
 ·by_cases ej:j=e.dst.toNat
  ·subst ej;exact .inl (List.mem_append_right _ (by simp))
  ·rw[hAt_set_ne ej] at hr
   rcases h.done j hj hr with h3 | h3
   ·exact .inl (List.mem_append_left _ h3)
   ·refine .inr ?_
    have old:∀ es,Closed g root c H j es→Closed g root c (H.set e.dst.toNat (puts (hAt H e.dst.toNat) (stepHops g root i e (hAt H i)))) j es:=fun es hc e' he' ht' x hx=>by
     rw[hAt_set_ne ej] at hx
     exact hmem _ _ (hc e' he' ht' x hx)
    unfold part_ at h3 ⊢
    by_cases hji:i=j
    ·subst hji
     simp only[if_true] at h3 ⊢
     rw[t'k hk,he]
     intro e' he' ht' x hx
     rcases List.mem_append.1 he' with he' | he'
     ·exact old _ h3 e' he' ht' x hx
     ·have:e'=e:=by simpa using he'
      subst this
      rw[hAt_set_ne ej] at hx
      rw[hAt_set_eq hltH]
      exact mem_puts.2 (.inr hx)
    ·simp only[if_neg hji] at h3 ⊢
     exact old _ h3
theorem SInv.finish {g:List GNode} {root:Nat} {c:List Int} {todo:List Nat} {H:List (List Hop)} {i:Nat} (h:SInv g root c todo H (some (i,(esOf g i).length))):SInv g root c todo H none:=
 ⟨h.len,h.sorted,h.root0,h.sound,h.tod,fun j hj hr=>(h.done j hj hr).imp id fun h1=>by
  unfold part_ at h1 ⊢
  by_cases hji:i=j
  ·subst hji;simpa using h1
  ·simpa only[if_neg hji] using h1⟩
theorem SInv.start {g:List GNode} {root:Nat} {c:List Int} (hr:root<g.length):SInv g root c [root] (List.replicate g.length []) none:=by
 have h0:∀ i,hAt (List.replicate g.length ([]:List Hop)) i=[]:=fun i=>by
  unfold hAt;rw[List.getD_eq_getElem?_getD,List.getElem?_replicate];split <;> rfl
 refine ⟨by simp,fun i=>by rw[h0];exact List.Pairwise.nil,h0 _,fun i h hh => ?_,fun i hi => ?_,fun i _ hr' => ?_⟩
 ·rw[h0] at hh;cases hh
 ·have:i=root:=by simpa using hi
  subst this
  exact ⟨hr,.inl rfl⟩
 ·rcases hr' with rfl | h
  ·exact .inl (by simp)
  ·exact absurd (h0 i) h
structure Hops (g:List GNode) (root:Nat) (c:List Int) (H:List (List Hop)):Prop where
 len:H.length=g.length
 sorted:∀ i,Sorted (hAt H i)
 mem:∀ i h,h∈hAt H i↔HopOf g root c i h
theorem SInv.hops {g:List GNode} {root:Nat} {c:List Int} {H:List (List Hop)} (h:SInv g root c [] H none) (hr:root<g.length):Hops g root c H:=by
 refine ⟨h.len,h.sorted,fun i x=>⟨h.sound i x,fun hx => ?_⟩⟩
 have hd:∀ i,i<g.length→(i=root∨hAt H i≠[])→Closed g root c H i (esOf g i):=fun i hi hc=>(h.done i hi hc).resolve_left (by simp)
 induction hx with
 | @first e he ht=>exact hd root hr (.inl rfl) e he ht _ (by unfold stepHops;simp)
 | @on i e y hy hir he ht ih =>
  have hi:i<g.length:=by
   rcases Nat.lt_or_ge i g.length with h1 | h1
   ·exact h1
   ·unfold esOf at he;rw[List.getElem?_eq_none h1] at he;cases he
  exact hd i hi (.inr (fun hn=>by rw[hn] at ih;cases ih)) e he ht _ (by unfold stepHops;rw[if_neg hir];exact List.mem_map_of_mem ih)
def allHops (g:List GNode) (root:Nat):List Hop:=(esOf g root).flatMap fun e=>(0 :: g.map GNode.id).map fun v=>(e.data,v,e.virt)
theorem allHops_len (g:List GNode) (root:Nat):(allHops g root).length=(esOf g root).length*(g.length+1):=by
 unfold allHops
 induction esOf g root with
 | nil=>simp
 | cons e r ih=>rw[List.flatMap_cons,l'a,ih,List.length_cons,Nat.succ_mul];simp;omega
theorem idAt_mem {g:List GNode} {i:Nat}:idAt g i∈(0 :: g.map GNode.id):=by
 unfold idAt
 split
 ·rename_i n hn;exact List.mem_cons_of_mem _ (List.mem_map_of_mem (List.mem_of_getElem? hn))
 ·exact List.mem_cons_self ..
theorem HopOf.all {g:List GNode} {root:Nat} {c:List Int} {i:Nat} {h:Hop} (hh:HopOf g root c i h):h∈allHops g root:=by
 induction hh with
 | @first e he ht =>
  unfold allHops first_
  refine List.mem_flatMap.2 ⟨e,he,List.mem_map.2 ⟨_,?_,rfl⟩⟩
  split
  ·exact List.mem_cons_self ..
  ·exact idAt_mem
 | @on i e y hy hir he ht ih =>
  unfold on_
  split
  ·unfold allHops at ih ⊢
   obtain ⟨e',he',hy'⟩:=List.mem_flatMap.1 ih
   obtain ⟨v,hv,rfl⟩:=List.mem_map.1 hy'
   exact List.mem_flatMap.2 ⟨e',he',List.mem_map.2 ⟨_,idAt_mem,rfl⟩⟩
  ·exact ih
def sumH (H:List (List Hop)):Nat:=(H.map List.length).sum
theorem sumH_set {H:List (List Hop)} {t:Nat} {l:List Hop} (ht:t<H.length) (hl:(hAt H t).length<l.length):sumH H+1≤sumH (H.set t l)∧sumH (H.set t l)+(hAt H t).length=sumH H+l.length:=by
 induction H generalizing t with
 | nil=>simp at ht
 | cons y r ih =>
  cases t with
  | zero =>
   simp only[hAt,List.getD_cons_zero] at hl ⊢
   simp only[sumH,s'z,List.map_cons,List.sum_cons]
   omega
  | succ t =>
   have:=ih (t:=t) (by simpa using ht) (by simpa[hAt] using hl)
   simp only[hAt,List.getD_cons_succ] at this ⊢
   simp only[sumH,s's,List.map_cons,List.sum_cons] at this ⊢
   omega
theorem sumH_le {H:List (List Hop)} {U:Nat} (h:∀ i,(hAt H i).length≤U):sumH H≤H.length*U:=by
 induction H with
 | nil=>simp[sumH]
 | cons y r ih =>
  have h1:=h 0
  have h2:=ih fun i=>by have:=h (i+1);simpa[hAt] using this
  simp only[hAt,List.getD_cons_zero] at h1
  simp only[sumH,List.map_cons,List.sum_cons,List.length_cons,Nat.succ_mul] at h2 ⊢
  omega
theorem SInv.small {g:List GNode} {root:Nat} {c:List Int} {todo:List Nat} {H:List (List Hop)} {cur:Option (Nat × Nat)} (h:SInv g root c todo H cur) (i:Nat):(hAt H i).length≤(esOf g root).length*(g.length+1):=by
 rw[←allHops_len]
 exact nodup_le (h.sorted i).nodup fun x hx=>(h.sound i x hx).all
theorem SInv.sum {g:List GNode} {root:Nat} {c:List Int} {todo:List Nat} {H:List (List Hop)} {cur:Option (Nat × Nat)} (h:SInv g root c todo H cur):sumH H≤g.length*((esOf g root).length*(g.length+1)):=by
 have:=sumH_le h.small
 rw[h.len] at this;exact this
section
variable {g:List GNode} {root:Nat} {c:List Int}
theorem Costs.least (hc:Costs g root c) (hg:okG g) (hr:root<g.length) {i:Nat} {x:Int} (hw:Way g root i x) (hx:x<far):i<g.length∧at_ c i≤x:=by
 induction hw with
 | here=>exact ⟨hr,by rw[hc.root0];exact Int.le_refl _⟩
 | @on i' j x' e hw he hto hj ih =>
  have h0:=(esOf_cost hg he).1
  obtain ⟨h1,h2⟩:=ih (by omega)
  have h3:=hc.slack i' (by rw[hc.len];exact h1) (by omega) e he j hto (by rw[hc.len];exact hj)
  exact ⟨hj,by omega⟩
theorem HopOf.not_root {i:Nat} {h:Hop} (hh:HopOf g root c i h):i≠root∧at_ c i<far∧i<g.length:=by
 cases hh with
 | first he ht=>obtain ⟨h1,h2,h3,_,h5⟩:=ht;exact ⟨by omega,h5,by omega⟩
 | on _ _ he ht=>obtain ⟨h1,h2,h3,_,h5⟩:=ht;exact ⟨by omega,h5,by omega⟩
theorem Hops.root_ {H:List (List Hop)} (hH:Hops g root c H):hAt H root=[]:=by
 cases h:hAt H root with
 | nil=>rfl
 | cons x r=>exact absurd rfl ((hH.mem root x).1 (by rw[h];exact List.mem_cons_self ..)).not_root.1
end
end Go.Lo
namespace Go.Lo
open Go.RowKit
def edgeCells (e:GEdge):List Value:=[.int .i64 e.dst,.int .u32 e.cost,.int .u32 e.data,.bool e.virt]
theorem edgeCells_len (e:GEdge):(edgeCells e).length=4:=rfl
structure NodeRow where
 node:GNode
 ev:Value
 sv:Value
def nodeCells (r:NodeRow):List Value:=[.bool r.node.network,.int .u32 r.node.id,.int .u32 r.node.netA,.int .u8 r.node.netB,.int .u8 r.node.flags,r.ev,r.sv]
theorem nodeCells_len (r:NodeRow):(nodeCells r).length=7:=rfl
def nodesOf (rows:List NodeRow):List GNode:=rows.map NodeRow.node
structure GraphAt (w:World) (B:Nat) (v:Value) (rows:List NodeRow):Prop where
 sl:Sl w B 7 v rows.length (rows.flatMap nodeCells)
 edges:∀ r∈rows,Sl w B 4 r.ev r.node.edges.length (r.node.edges.flatMap edgeCells)
 svs:∀ r∈rows,∃ A n c,r.sv=.slice A n c
theorem GraphAt.below {w w':World} {B:Nat} {v:Value} {rows:List NodeRow} (h:GraphAt w B v rows) (hb:Below B w w'):GraphAt w' B v rows:=
 ⟨h.sl.below hb,fun r hr=>(h.edges r hr).below hb,h.svs⟩
theorem GraphAt.more {w:World} {B B':Nat} {v:Value} {rows:List NodeRow} (h:GraphAt w B v rows) (hB:B≤B'):GraphAt w B' v rows:=
 ⟨h.sl.more hB,fun r hr=>(h.edges r hr).more hB,h.svs⟩
theorem esOf_rows {rows:List NodeRow} {i:Nat} (h:i<rows.length):esOf (nodesOf rows) i=rows[i].node.edges:=by
 rw[esOf_eq (by simpa[nodesOf] using h)];simp[nodesOf]
theorem nodesOf_len (rows:List NodeRow):(nodesOf rows).length=rows.length:=by simp[nodesOf]
def u64s (c:List Int):List Value:=c.map (Value.int .u64)
theorem u64s_get {c:List Int} {i:Nat} (h:i<c.length):(u64s c)[i]?=some (.int .u64 (at_ c i)):=by
 simp[u64s,at_,h]
theorem u64s_set (c:List Int) (i:Nat) (x:Int):(u64s c).set i (.int .u64 x)=u64s (c.set i x):=by simp[u64s,List.map_set]
end Go.Lo
