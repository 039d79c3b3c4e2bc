/- outer.Merge in plain words: each prefix once, nothing better was there, merging again changes nothing. No walk stands here. -/
import Derived.Test.YtiikagabdiphkaaGreatOnBD
import Derived.Test.YtiikagabdiphkaaGreatOnBE
import Derived.Test.YtiikagabdiphkaaGreatOnAN
import Derived.Test.YtiikagabdiphkaaGreatOnAA
namespace Go.Proofs.YtiikagabdiphkaaGreat
open Go.RowKit Go.Lo
theorem betterP_le (a b:WayN):betterP a b≤0↔(a.kind<b.kind∨a.kind=b.kind∧(a.kind=4∧(a.far<b.far∨a.far=b.far∧a.cost≤b.cost)∨a.kind≠4∧a.cost≤b.cost)):=by
 unfold betterP
 simp only[orI,cmpI]
 repeat' split
 all_goals omega
theorem cmpI_swap (a b:Int):cmpI b a =-cmpI a b:=by
 unfold cmpI
 split <;> split <;> first | omega | (split <;> omega)
theorem orI_neg (x y z:Int):orI [-x,-y,-z] =-orI [x,y,z]:=by
 simp only[orI]
 by_cases h1:x=0 <;> by_cases h2:y=0 <;> by_cases h3:z=0 <;> simp[h1,h2,h3]
theorem cmpI_zero {a b:Int} (h:cmpI a b=0):a=b:=by
 unfold cmpI at h
 split at h
 ·omega
 ·split at h <;> omega
theorem betterP_swap (a b:WayN):betterP b a =-betterP a b:=by
 unfold betterP
 rw[←orI_neg,←cmpI_swap a.kind b.kind,←cmpI_swap a.cost b.cost]
 by_cases h:cmpI b.kind a.kind=0
 ·rw[cmpI_zero h]
  by_cases h4:a.kind=4
  ·rw[if_pos h4,if_pos h4,←cmpI_swap a.far b.far]
  ·rw[if_neg h4,if_neg h4]
   rfl
 ·simp only[orI,if_neg h]
theorem betterP_self (a:WayN):betterP a a=0:=by
 have h:=betterP_swap a a
 omega
theorem betterP_range (a b:WayN):-1≤betterP a b∧betterP a b≤1:=by
 unfold betterP
 simp only[orI,cmpI]
 repeat' split
 all_goals omega
theorem betterP_trans (a b c:WayN) (h1:betterP a b≤0) (h2:betterP b c≤0):¬ 0<betterP a c:=by
 rw[betterP_le] at h1 h2
 have:=(betterP_le a c).2 (by omega)
 omega
def keysO (l:List WayG):List K2:=l.map fun o=>keyO o.1
structure MergedOk (E out:List WayG):Prop where
 once:(keysO out).Nodup
 all:∀ e∈E,∃ x∈out,keyO x.1=keyO e.1
 best:∀ e∈E,∀ x∈out,keyO x.1=keyO e.1→0≤betterP e.1 x.1
 from_:∀ x∈out,∃ e∈E,x.1=e.1
theorem keys_inj {l:List WayG} (h:(keysO l).Nodup) {i j:Nat} (hi:i<l.length) (hj:j<l.length) (e:keyO l[i].1=keyO l[j].1):i=j:=by
 have h1:(keysO l)[i]'(by simpa[keysO] using hi)=(keysO l)[j]'(by simpa[keysO] using hj):=by simp[keysO,e]
 rcases Nat.lt_trichotomy i j with hlt | heq | hgt
 ·exact absurd h1 ((List.pairwise_iff_getElem.1 h) i j _ _ hlt)
 ·exact heq
 ·exact absurd h1.symm ((List.pairwise_iff_getElem.1 h) j i _ _ hgt)
theorem keys_set {l:List WayG} {i:Nat} {q:WayG} (hi:i<l.length) (hq:keyO q.1=keyO l[i].1):keysO (l.set i q)=keysO l:=by
 unfold keysO
 rw[List.map_set,hq]
 apply List.ext_getElem
 ·simp
 ·intro n h1 h2
  rw[List.getElem_set]
  split
  ·rename_i h
   subst h
   simp
  ·rfl
theorem mem_set_other {l:List WayG} {i:Nat} {q x:WayG} (hx:x∈l.set i q):x=q∨∃ j,∃ hj:j<l.length,j≠i∧x=l[j]:=by
 obtain ⟨j,hj,rfl⟩:=List.mem_iff_getElem.1 hx
 rw[List.getElem_set]
 by_cases h:i=j
 ·left;rw[if_pos h]
 ·right
  rw[if_neg h]
  exact ⟨j,by simpa using hj,fun e=>h e.symm,rfl⟩
theorem merged_ok (E:List WayG):MergedOk E (mergeP E):=by
 have:∀ n,∀ E:List WayG,E.length=n→MergedOk E (mergeP E):=by
  intro n
  induction n with
  | zero =>
   intro E hE
   obtain rfl:=List.eq_nil_of_length_eq_zero hE
   exact ⟨List.nodup_nil,fun e he=>(by cases he),fun e he=>(by cases he),fun x hx=>(by cases hx)⟩
  | succ n ih =>
   intro E hE
   obtain ⟨l,w,rfl⟩:∃ l w,E=l++[w]:=⟨E.dropLast,E.getLast (fun e=>by rw[e] at hE;cases hE),(List.dropLast_concat_getLast _).symm⟩
   have h:=ih l (by simpa using hE)
   rw[mergeP_snoc]
   generalize mergeP l=out at h
   unfold mergeStep
   cases hat:at_ out (keyO w.1) with
   | none =>
    have hno:=at_none hat
    refine ⟨?_,fun e he => ?_,fun e he x hx hk => ?_,fun x hx => ?_⟩
    ·unfold keysO
     rw[List.map_append,List.nodup_append]
     refine ⟨h.once,by simp,fun a ha b hb e => ?_⟩
     obtain ⟨o,ho,rfl⟩:=List.mem_map.1 ha
     simp only[List.map_cons,List.map_nil,List.mem_singleton] at hb
     exact hno o ho (by rw[e,hb])
    ·rcases List.mem_append.1 he with he | he
     ·obtain ⟨x,hx,hk⟩:=h.all e he
      exact ⟨x,List.mem_append_left _ hx,hk⟩
     ·rw[List.mem_singleton.1 he]
      exact ⟨w,by simp,rfl⟩
    ·rcases List.mem_append.1 he with he | he <;> rcases List.mem_append.1 hx with hx | hx
     ·exact h.best e he x hx hk
     ·rw[List.mem_singleton.1 hx] at hk
      obtain ⟨x0,hx0,hk0⟩:=h.all e he
      exact absurd (hk0.trans hk.symm) (hno x0 hx0)
     ·rw[List.mem_singleton.1 he] at hk
      exact absurd hk (hno x hx)
     ·rw[List.mem_singleton.1 he,List.mem_singleton.1 hx,betterP_self]
      exact Int.le_refl _
    ·rcases List.mem_append.1 hx with hx | hx
     ·obtain ⟨e,he,h1⟩:=h.from_ x hx
      exact ⟨e,List.mem_append_left _ he,h1⟩
     ·rw[List.mem_singleton.1 hx]
      exact ⟨w,by simp,rfl⟩
   | some i =>
    obtain ⟨hi,hki⟩:=at_some hat
    have hgd:out.getD i w=out[i]:=by simp[List.getD_eq_getElem?_getD,hi]
    simp only[hgd]
    have hother:∀ j (hj:j<out.length),j≠i→keyO out[j].1≠keyO w.1:=fun j hj hne e=>hne (keys_inj h.once hj hi (by rw[e,hki]))
    have hr:=betterP_range w.1 out[i].1
    have hset:∀ q:WayG,keyO q.1=keyO out[i].1→(∃ e∈l++[w],q.1=e.1)→0≤betterP w.1 q.1→(∀ e∈l,keyO e.1=keyO w.1→0≤betterP e.1 q.1)→MergedOk (l++[w]) (out.set i q):=fun q hq hqe hqw hqb=>by
     refine ⟨by rw[keys_set hi hq];exact h.once,fun e he => ?_,fun e he x hx hk => ?_,fun x hx => ?_⟩
     ·have:keyO e.1∈keysO out:=by
       rcases List.mem_append.1 he with he | he
       ·obtain ⟨x,hx,hk⟩:=h.all e he
        exact List.mem_map.2 ⟨x,hx,hk⟩
       ·rw[List.mem_singleton.1 he]
        exact List.mem_map.2 ⟨out[i],List.getElem_mem hi,hki⟩
      rw[←keys_set hi hq] at this
      obtain ⟨x,hx,hk⟩:=List.mem_map.1 this
      exact ⟨x,hx,hk⟩
     ·rcases mem_set_other hx with rfl | ⟨j,hj,hji,rfl⟩
      ·rcases List.mem_append.1 he with he | he
       ·exact hqb e he (by rw[←hk,hq,hki])
       ·rw[List.mem_singleton.1 he]
        exact hqw
      ·rcases List.mem_append.1 he with he | he
       ·exact h.best e he _ (List.getElem_mem hj) hk
       ·rw[List.mem_singleton.1 he] at hk
        exact absurd hk (hother j hj hji)
     ·rcases mem_set_other hx with rfl | ⟨j,hj,-,rfl⟩
      ·exact hqe
      ·obtain ⟨e,he,h1⟩:=h.from_ _ (List.getElem_mem hj)
       exact ⟨e,List.mem_append_left _ he,h1⟩
    have hbi:∀ e∈l,keyO e.1=keyO w.1→0≤betterP e.1 out[i].1:=fun e he hk=>h.best e he _ (List.getElem_mem hi) (by rw[hki,hk])
    split
    ·rename_i hz
     refine hset w (by rw[hki]) ⟨w,by simp,rfl⟩ (by rw[betterP_self];exact Int.le_refl _) fun e he hk => ?_
     have h1:=hbi e he hk
     have h2:=betterP_swap e.1 out[i].1
     have h3:=betterP_swap w.1 out[i].1
     apply Int.not_lt.1
     intro hlt
     exact betterP_trans out[i].1 e.1 w.1 (by omega) (by omega) (by omega)
    ·split
     ·rename_i hz
      obtain ⟨e,he,h1⟩:=h.from_ _ (List.getElem_mem hi)
      exact hset (out[i].1,_) rfl ⟨e,List.mem_append_left _ he,h1⟩ (by show 0≤betterP w.1 out[i].1;omega) hbi
     ·have:=hset out[i] rfl (by
       obtain ⟨e,he,h1⟩:=h.from_ _ (List.getElem_mem hi)
       exact ⟨e,List.mem_append_left _ he,h1⟩) (by omega) hbi
      rw[List.set_getElem_self] at this
      exact this
 exact this _ E rfl
def RisesO (l:List WayG):Prop:=l.Pairwise fun a b=>¬ (b.1.addr<a.1.addr∨(b.1.addr=a.1.addr∧b.1.bits<a.1.bits))
theorem rises_of {xs:List WayY} (h:∀ i j:Nat,i<j→∀ (hj:j<xs.length) (hi:i<xs.length),ltO xs[j].1 xs[i].1=false):RisesO (gOf xs):=by
 unfold RisesO
 rw[List.pairwise_iff_getElem]
 intro i j hi hj hij hc
 have hi2:i<xs.length:=by simpa[gOf] using hi
 have hj2:j<xs.length:=by simpa[gOf] using hj
 have h1:=h i j hij hj2 hi2
 have h2:(gOf xs)[i]=(xs[i].1.n,xs[i].2):=by simp[gOf]
 have h3:(gOf xs)[j]=(xs[j].1.n,xs[j].2):=by simp[gOf]
 rw[h2,h3] at hc
 rw[(ltO_iff xs[j].1 xs[i].1).2 hc] at h1
 cases h1
theorem rises_eq {a b:List WayG} (hp:a.Perm b) (hb:(keysO b).Nodup) (ha:RisesO a) (hb2:RisesO b):a=b:=by
 refine List.Perm.eq_of_pairwise (le:=fun a b:WayG=>¬ (b.1.addr<a.1.addr∨(b.1.addr=a.1.addr∧b.1.bits<a.1.bits))) (fun x y hx hy h1 h2 => ?_) ha hb2 hp
 have hk:keyO x.1=keyO y.1:=by
  unfold keyO
  simp only[Prod.mk.injEq]
  omega
 obtain ⟨i,hi,rfl⟩:=List.mem_iff_getElem.1 (hp.mem_iff.1 hx)
 obtain ⟨j,hj,rfl⟩:=List.mem_iff_getElem.1 hy
 have:=keys_inj hb hi hj hk
 subst this
 rfl
end Go.Proofs.YtiikagabdiphkaaGreat
namespace Go.Proofs.YtiikagabdiphkaaGreat
open Go.RowKit Go.Lo
def ltK2 (a b:K2):Bool:=decide (a.1<b.1) || decide (a.1=b.1) && decide (a.2<b.2)
def ahead (l:List WayG) (k:K2):Nat:=(l.takeWhile fun o=>ltK2 (keyO o.1) k).length
def insP (l:List WayG) (w:WayG):List WayG:=
 match l[ahead l (keyO w.1)]? with
 | some o=>if keyO o.1=keyO w.1 then (if betterP w.1 o.1<0 then l.set (ahead l (keyO w.1)) w else if betterP w.1 o.1=0 then l.set (ahead l (keyO w.1)) (o.1,puts (puts [] o.2) w.2) else l) else l.take (ahead l (keyO w.1))++w :: l.drop (ahead l (keyO w.1))
 | none=>l.take (ahead l (keyO w.1))++w :: l.drop (ahead l (keyO w.1))
end Go.Proofs.YtiikagabdiphkaaGreat
namespace Go.Proofs.YtiikagabdiphkaaGreat
open Go.RowKit Go.Lo
def insAll (l:List WayG):List WayG:=l.foldl insP []
theorem insAll_snoc (l:List WayG) (g:WayG):insAll (l++[g])=insP (insAll l) g:=by
 unfold insAll
 rw[List.foldl_append]
 rfl
end Go.Proofs.YtiikagabdiphkaaGreat
namespace Go.Proofs.YtiikagabdiphkaaGreat
open Go.RowKit Go.Lo
def comb (x w:WayG):WayG:=if betterP w.1 x.1<0 then w else if betterP w.1 x.1=0 then (x.1,puts (puts [] x.2) w.2) else x
theorem comb_key {x w:WayG} (h:keyO x.1=keyO w.1):keyO (comb x w).1=keyO w.1:=by
 unfold comb
 split
 ·rfl
 ·split
  ·exact h
  ·exact h
theorem insP_lt {x w:WayG} {r:List WayG} (h:ltK2 (keyO x.1) (keyO w.1)=true):insP (x :: r) w=x :: insP r w:=by
 have h0:ahead (x :: r) (keyO w.1)=ahead r (keyO w.1)+1:=by
  unfold ahead
  rw[List.takeWhile_cons,h]
  simp
 unfold insP
 rw[h0]
 simp only[q's,s's,List.take_succ_cons,List.drop_succ_cons,List.cons_append]
 cases r[ahead r (keyO w.1)]? with
 | none=>rfl
 | some o =>
  simp only
  split
  ·split
   ·rfl
   ·split
    ·rfl
    ·rfl
  ·rfl
theorem insP_ge {x w:WayG} {r:List WayG} (h:ltK2 (keyO x.1) (keyO w.1)=false):insP (x :: r) w=if keyO x.1=keyO w.1 then comb x w :: r else w :: x :: r:=by
 have h0:ahead (x :: r) (keyO w.1)=0:=by
  unfold ahead
  rw[List.takeWhile_cons,h]
  rfl
 unfold insP comb
 rw[h0]
 simp only[q'z,s'z,List.take_zero,List.drop_zero,List.nil_append]
 split
 ·split
  ·rfl
  ·split
   ·rfl
   ·rfl
 ·rfl
theorem ltK2_iff (a b:K2):ltK2 a b=true↔(a.1<b.1∨(a.1=b.1∧a.2<b.2)):=by
 unfold ltK2
 simp
theorem ltK2_trans {a b c:K2} (h1:ltK2 a b=true) (h2:ltK2 b c=true):ltK2 a c=true:=by
 rw[ltK2_iff] at *
 omega
theorem ltK2_ne {a b:K2} (h:ltK2 a b=true):a≠b:=fun e=>by
 rw[ltK2_iff,e] at h
 omega
theorem ltK2_of {a b:K2} (h:ltK2 a b=false) (hne:a≠b):ltK2 b a=true:=by
 have h1:¬ (a.1<b.1∨(a.1=b.1∧a.2<b.2)):=fun e=>by rw[(ltK2_iff a b).2 e] at h;cases h
 rw[ltK2_iff]
 by_cases h2:a.1=b.1
 ·by_cases h3:a.2=b.2
  ·exact absurd (Prod.ext h2 h3) hne
  ·omega
 ·omega
def Strict (l:List WayG):Prop:=l.Pairwise fun a b=>ltK2 (keyO a.1) (keyO b.1)=true
def Came (s:List WayG) (w z:WayG):Prop:=(z∈s∧keyO z.1≠keyO w.1)∨(z=w∧∀ x∈s,keyO x.1≠keyO w.1)∨∃ x∈s,keyO x.1=keyO w.1∧z=comb x w
theorem ins_mem {s:List WayG} (hs:Strict s) (w z:WayG):z∈insP s w↔Came s w z:=by
 induction s with
 | nil =>
  show z∈[w]↔_
  unfold Came
  simp
 | cons x r ih =>
  obtain ⟨hx,hr⟩:=List.pairwise_cons.1 hs
  have ih:=ih hr
  cases hl:ltK2 (keyO x.1) (keyO w.1) with
  | true =>
   have hxw:=ltK2_ne hl
   rw[insP_lt hl,List.mem_cons,ih]
   unfold Came
   simp only[List.mem_cons,forall_eq_or_imp,exists_eq_or_imp]
   constructor
   ·rintro (rfl | h | ⟨h1,h2⟩ | h)
    ·exact .inl ⟨.inl rfl,hxw⟩
    ·exact .inl ⟨.inr h.1,h.2⟩
    ·exact .inr (.inl ⟨h1,hxw,h2⟩)
    ·exact .inr (.inr (.inr h))
   ·rintro (⟨rfl | h1,h2⟩ | ⟨h1,-,h3⟩ | ⟨h1,-⟩ | h)
    ·exact .inl rfl
    ·exact .inr (.inl ⟨h1,h2⟩)
    ·exact .inr (.inr (.inl ⟨h1,h3⟩))
    ·exact absurd h1 hxw
    ·exact .inr (.inr (.inr h))
  | false =>
   rw[insP_ge hl]
   by_cases hk:keyO x.1=keyO w.1
   ·have hrk:∀ y∈r,keyO y.1≠keyO w.1:=fun y hy e=>ltK2_ne (hx y hy) (by rw[hk,e])
    rw[if_pos hk,List.mem_cons]
    unfold Came
    simp only[List.mem_cons,forall_eq_or_imp,exists_eq_or_imp]
    constructor
    ·rintro (h | h)
     ·exact .inr (.inr (.inl ⟨hk,h⟩))
     ·exact .inl ⟨.inr h,hrk z h⟩
    ·rintro (⟨rfl | h1,h2⟩ | ⟨h1,h2,-⟩ | ⟨-,h⟩ | ⟨y,hy,h1,-⟩)
     ·exact absurd hk h2
     ·exact .inr h1
     ·exact absurd hk h2
     ·exact .inl h
     ·exact absurd h1 (hrk y hy)
   ·have hwx:=ltK2_of hl hk
    have hrk:∀ y∈r,keyO y.1≠keyO w.1:=fun y hy e=>ltK2_ne (ltK2_trans hwx (hx y hy)) e.symm
    rw[if_neg hk,List.mem_cons,List.mem_cons]
    unfold Came
    simp only[List.mem_cons,forall_eq_or_imp,exists_eq_or_imp]
    constructor
    ·rintro (h | rfl | h)
     ·exact .inr (.inl ⟨h,hk,hrk⟩)
     ·exact .inl ⟨.inl rfl,hk⟩
     ·exact .inl ⟨.inr h,hrk z h⟩
    ·rintro (⟨rfl | h1,h2⟩ | ⟨h1,-⟩ | ⟨h1,-⟩ | ⟨y,hy,h1,-⟩)
     ·exact .inr (.inl rfl)
     ·exact .inr (.inr h1)
     ·exact .inl h1
     ·exact absurd h1 hk
     ·exact absurd h1 (hrk y hy)
theorem came_key {s:List WayG} {w z:WayG} (h:Came s w z):keyO z.1=keyO w.1∨z∈s:=by
 rcases h with ⟨h,-⟩ | ⟨rfl,-⟩ | ⟨x,-,hx,rfl⟩
 ·exact .inr h
 ·exact .inl rfl
 ·exact .inl (comb_key hx)
theorem ins_strict {s:List WayG} (hs:Strict s) (w:WayG):Strict (insP s w):=by
 induction s with
 | nil=>exact List.pairwise_singleton _ _
 | cons x r ih =>
  obtain ⟨hx,hr⟩:=List.pairwise_cons.1 hs
  cases hl:ltK2 (keyO x.1) (keyO w.1) with
  | true =>
   rw[insP_lt hl]
   refine List.pairwise_cons.2 ⟨fun z hz => ?_,ih hr⟩
   rcases came_key ((ins_mem hr w z).1 hz) with h | h
   ·rw[h];exact hl
   ·exact hx z h
  | false =>
   rw[insP_ge hl]
   by_cases hk:keyO x.1=keyO w.1
   ·rw[if_pos hk]
    refine List.pairwise_cons.2 ⟨fun z hz => ?_,hr⟩
    rw[comb_key hk,←hk]
    exact hx z hz
   ·have hwx:=ltK2_of hl hk
    rw[if_neg hk]
    refine List.pairwise_cons.2 ⟨fun z hz => ?_,hs⟩
    rcases List.mem_cons.1 hz with rfl | hz
    ·exact hwx
    ·exact ltK2_trans hwx (hx z hz)
theorem step_mem {o:List WayG} (ho:(keysO o).Nodup) (w z:WayG):z∈mergeStep o w↔Came o w z:=by
 unfold mergeStep
 cases ha:at_ o (keyO w.1) with
 | none =>
  have hn:=at_none ha
  simp only[List.mem_append,List.mem_singleton]
  unfold Came
  constructor
  ·rintro (h | h)
   ·exact .inl ⟨h,hn z h⟩
   ·exact .inr (.inl ⟨h,hn⟩)
  ·rintro (h | h | ⟨x,hx,h,-⟩)
   ·exact .inl h.1
   ·exact .inr h.1
   ·exact absurd h (hn x hx)
 | some i =>
  obtain ⟨hi,hk⟩:=at_some ha
  have hg:o.getD i w=o[i]:=by simp[List.getD_eq_getElem?_getD,List.getElem?_eq_getElem hi]
  have hb:=betterP_range w.1 o[i].1
  have he:(if betterP w.1 o[i].1 = -1 then o.set i w else if betterP w.1 o[i].1=0 then o.set i (o[i].1,puts (puts [] o[i].2) w.2) else o)=o.set i (comb o[i] w):=by
   unfold comb
   by_cases h1:betterP w.1 o[i].1 = -1
   ·rw[if_pos h1,if_pos (by omega)]
   ·rw[if_neg h1,if_neg (show ¬ betterP w.1 o[i].1<0 by omega)]
    by_cases h2:betterP w.1 o[i].1=0
    ·rw[if_pos h2,if_pos h2]
    ·rw[if_neg h2,if_neg h2,List.set_getElem_self]
  simp only[hg]
  rw[he]
  unfold Came
  constructor
  ·intro h
   rcases mem_set_other h with h | ⟨j,hj,hji,rfl⟩
   ·exact .inr (.inr ⟨o[i],List.getElem_mem hi,hk,h⟩)
   ·exact .inl ⟨List.getElem_mem hj,fun e=>hji (keys_inj ho hj hi (by rw[e,hk]))⟩
  ·rintro (⟨h1,h2⟩ | ⟨-,h⟩ | ⟨x,hx,h1,rfl⟩)
   ·obtain ⟨j,hj,rfl⟩:=List.mem_iff_getElem.1 h1
    have hji:i≠j:=fun e=>by subst e;exact h2 hk
    exact List.mem_iff_getElem.2 ⟨j,by simpa using hj,by rw[List.getElem_set_ne hji]⟩
   ·exact absurd hk (h _ (List.getElem_mem hi))
   ·obtain ⟨j,hj,rfl⟩:=List.mem_iff_getElem.1 hx
    obtain rfl:=keys_inj ho hj hi (by rw[h1,hk])
    exact List.mem_iff_getElem.2 ⟨j,by simpa using hj,by simp⟩
theorem strict_keys {l:List WayG} (h:Strict l):(keysO l).Nodup:=by
 unfold keysO List.Nodup
 rw[List.pairwise_map]
 exact h.imp fun h1=>ltK2_ne h1
theorem strict_rises {l:List WayG} (h:Strict l):RisesO l:=by
 unfold RisesO
 refine h.imp fun {a b} h1 h2 => ?_
 rw[ltK2_iff] at h1
 unfold keyO at h1
 simp only at h1
 omega
theorem nodup_of_keys {l:List WayG} (h:(keysO l).Nodup):l.Nodup:=by
 unfold keysO List.Nodup at h
 rw[List.pairwise_map] at h
 exact h.imp fun h1 e=>h1 (by rw[e])
theorem insAll_is (E:List WayG):Strict (insAll E)∧∀ z,z∈insAll E↔z∈mergeP E:=by
 have:∀ n,∀ E:List WayG,E.length=n→Strict (insAll E)∧∀ z,z∈insAll E↔z∈mergeP E:=by
  intro n
  induction n with
  | zero =>
   intro E hE
   obtain rfl:=List.eq_nil_of_length_eq_zero hE
   exact ⟨List.Pairwise.nil,fun z=>Iff.rfl⟩
  | succ n ih =>
   intro E hE
   have hne:E≠[]:=fun e=>by subst e;simp at hE
   obtain ⟨h1,h2⟩:=ih E.dropLast (by rw[List.length_dropLast];omega)
   rw[←List.dropLast_concat_getLast hne,insAll_snoc,mergeP_snoc]
   refine ⟨ins_strict h1 _,fun z => ?_⟩
   rw[ins_mem h1,step_mem (merged_ok _).once]
   unfold Came
   simp only[h2]
 exact this _ E rfl
theorem merged_is {E ms:List WayG} (hp:ms.Perm (mergeP E)) (hr:RisesO ms):ms=insAll E:=by
 obtain ⟨h1,h2⟩:=insAll_is E
 refine rises_eq (hp.trans ?_) (strict_keys h1) hr (strict_rises h1)
 exact (List.perm_ext_iff_of_nodup (nodup_of_keys (merged_ok E).once) (nodup_of_keys (strict_keys h1))).2 fun z=>(h2 z).symm
end Go.Proofs.YtiikagabdiphkaaGreat
