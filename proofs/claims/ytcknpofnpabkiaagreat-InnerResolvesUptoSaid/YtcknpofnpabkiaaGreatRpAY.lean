/- A law for regions that draw their order: each operation by what its value is to be. No theorem of the program stands here. -/
import Derived.Test.YtcknpofnpabkiaaGreatRpAA
namespace Go.Lo
open Go.RowKit
section
variable {P:Program} {ops:Array Oper} {Q:Exit→Act→World→Prop}
def putFrom:Nat→List (Option Tmp)→(Nat→Value)→Act→Act
 | _,[],_,a=>a
 | k,s :: r,t,a=>putFrom (k+1) r t (a.put s (t k))
theorem put_put (a:Act) (s:Option Tmp) (x y:Value):(a.put s x).put s y=a.put s y:=by
 cases s with
 | none=>rfl
 | some d=>simp[Act.put]
theorem put_comm (a:Act) (s u:Option Tmp) (x y:Value) (h:s=none∨s≠u):(a.put s x).put u y=(a.put u y).put s x:=by
 cases s with
 | none=>rfl
 | some d =>
  cases u with
  | none=>rfl
  | some e =>
   rcases h with h | h
   ·cases h
   ·have hde:d≠e:=fun he=>h (by rw[he])
    simp only[Act.put]
    rw[Array.setIfInBounds_comm _ _ hde]
theorem putFrom_put (r:List (Option Tmp)) (s:Option Tmp) (hs:s=none∨s∉r):∀ (k:Nat) (t:Nat→Value) (a:Act) (v:Value),(putFrom k r t a).put s v=putFrom k r t (a.put s v):=by
 induction r with
 | nil=>intro k t a v;rfl
 | cons u r ih =>
  intro k t a v
  simp only[putFrom]
  rw[ih (hs.imp id fun h hm=>h (List.mem_cons_of_mem _ hm)) (k+1) t _ v,put_comm a s u v (t k) (hs.imp id fun h he=>h (by rw[he];exact List.mem_cons_self))]
def slotsB:List (Option Tmp)→Bool
 | []=>true
 | s :: r=>(s==none || !r.contains s) && slotsB r
theorem putFrom_congr (r:List (Option Tmp)):∀ (k:Nat) (t t':Nat→Value) (a:Act),(∀ i,k≤i→t i=t' i)→putFrom k r t a=putFrom k r t' a:=by
 induction r with
 | nil=>intro k t t' a h;rfl
 | cons s r ih =>
  intro k t t' a h
  simp only[putFrom]
  rw[h k (n'r _)]
  exact ih _ _ _ _ fun i hi=>h i (by omega)
def setV (t:Nat→Value) (i:Nat) (v:Value):Nat→Value:=fun j=>if j=i then v else t j
theorem putFrom_set (r:List (Option Tmp)) (hr:slotsB r=true):∀ (k i:Nat) (t:Nat→Value) (a:Act) (v:Value),i<r.length→(putFrom k r t a).put (r[i]?.getD none) v=putFrom k r (setV t (k+i) v) a:=by
 induction r with
 | nil=>intro k i t a v h;cases h
 | cons s r ih =>
  intro k i t a v h
  simp only[slotsB,Bool.and_eq_true,Bool.or_eq_true,beq_iff_eq,Bool.not_eq_true',List.contains_eq_mem,decide_eq_false_iff_not] at hr
  cases i with
  | zero =>
   simp only[putFrom,q'z,o'g,Nat.add_zero]
   rw[putFrom_put r s hr.1,put_put]
   have h1:setV t k v k=v:=if_pos rfl
   rw[h1]
   exact putFrom_congr r _ _ _ _ fun j hj=>by
    unfold setV
    rw[if_neg (by omega)]
  | succ i =>
   simp only[putFrom,q's]
   rw[ih hr.2 (k+1) i t _ v (by simpa using h)]
   have h1:setV t (k+(i+1)) v k=t k:=if_neg (by omega)
   rw[h1,show k+1+i=k+(i+1) by omega]
theorem putFrom_id (r:List (Option Tmp)):∀ (k:Nat) (t:Nat→Value) (a:Act),(∀ i s,r[i]?=some (some s)→t (k+i)=a.tmps.getD s undef)→putFrom k r t a=a:=by
 induction r with
 | nil=>intro k t a h;rfl
 | cons s r ih =>
  intro k t a h
  simp only[putFrom]
  have h1:a.put s (t k)=a:=by
   cases s with
   | none=>rfl
   | some d =>
    have h2:=h 0 d rfl
    rw[Nat.add_zero] at h2
    rw[h2]
    simp only[Act.put]
    obtain ⟨tm,df⟩:=a
    congr 1
    apply Array.ext_getElem?
    intro j
    rw[Array.getElem?_setIfInBounds]
    by_cases hj:d=j
    ·subst hj
     by_cases hl:d<tm.size
     ·simp[hl]
     ·simp[hl]
    ·simp[hj]
  rw[h1]
  exact ih _ _ _ fun i u hi=>by
   have:=h (i+1) u (by simpa using hi)
   rw[←this]
   congr 1
   omega
def hangs (ops:Array Oper) (i j:Nat):Bool:=((ops[i]?).map fun o=>o.after.any fun e=>Region.binds .any e && e.on==j).getD false
def depsB (ops:Array Oper) (dep:Nat→Nat):Bool:=(List.range ops.size).all fun i=>dep i==i || hangs ops i (dep i)
def reachB (ops:Array Oper):Nat→Nat→Nat→Bool
 | 0,j,i=>j==i
 | f+1,j,i=>j==i || (List.range ops.size).any fun k=>hangs ops j k && reachB ops f k i
theorem done_of_reach {done:Nat→Bool} (hcl:∀ j k,done j=true→hangs ops j k=true→done k=true):∀ (f j i:Nat),reachB ops f j i=true→done j=true→done i=true:=by
 intro f
 induction f with
 | zero =>
  intro j i h hd
  rw[←eq_of_beq h]
  exact hd
 | succ f ih =>
  intro j i h hd
  simp only[reachB,Bool.or_eq_true,beq_iff_eq] at h
  rcases h with rfl | h
  ·exact hd
  ·obtain ⟨k,-,hk⟩:=List.any_eq_true.1 h
   simp only[Bool.and_eq_true] at hk
   exact ih k i hk.2 (hcl j k hd hk.1)
def andD (done:Nat→Bool) (i:Nat):Nat→Bool:=fun j=>if j=i then true else done j
def ValV (vals:List Value) (i:Nat) (v _u:Value) (_W:World):Prop:=vals[i]?=some v
theorem wp_region_done {id:Nat} {a:Act} {w:World} (slots:List (Option Tmp)) (I:(Nat→Bool)→World→Prop) (St:World→World→Prop) (dep:Nat→Nat) (V:Nat→Value→Value→World→Prop)
  (hm:P.follows .mixedOrders=true) (hord:ordB ops=true) (hsl:ops.toList.map (·.dst)=slots) (hnd:slotsB slots=true) (hdp:depsB ops dep=true)
  (hV:∀ i v u W W',St W W'→V i v u W→V i v u W') (h0:I (fun _=>false) w.drew)
  (hs:∀ (done:Nat→Bool) (t:Nat→Value) (W:World) (a':Act),I done W→a'=putFrom 0 slots t a→(∀ j k,done j=true→hangs ops j k=true→done k=true)→∀ i,i<slots.length→done i=false→(∀ j,hangs ops i j=true→V j (t j) (t (dep j)) W)→wpOp P ops Q i (fun a2 W2=>∃ v,a2=a'.put (slots[i]?.getD none) v∧I (andD done i) W2∧St W W2∧V i v (setV t i v (dep i)) W2) a' W)
  (hf:∀ (done:Nat→Bool) (t:Nat→Value) (W:World) (a':Act),I done W→(∀ i,i<slots.length→done i=true)→a'=putFrom 0 slots t a→(∀ i,i<slots.length→V i (t i) (t (dep i)) W)→Q .normal a' W):(Code.region id ops true).wp P Q a w:=by
 have hlen:slots.length=ops.size:=by rw[←hsl];simp
 refine wp_region_inv hm (ord_of hord) (fun L a' W=>∃ t:Nat→Value,a'=putFrom 0 slots t a∧I (fun i=>L.getD i false) W∧(∀ j k,L.getD j false=true→hangs ops j k=true→L.getD k false=true)∧∀ i,i<slots.length→L.getD i false=true→V i (t i) (t (dep i)) W∧L.getD (dep i) false=true) ?_ ?_ ?_
 ·have hz:∀ i,(Array.replicate ops.size false).getD i false=false:=fun i=>by
   simp only[Array.getD_eq_getD_getElem?,Array.getElem?_replicate]
   split <;> rfl
  refine ⟨fun i=>(slots[i]?.getD none).elim undef fun s=>a.tmps.getD s undef,(putFrom_id slots 0 _ a fun i s h => ?_).symm,?_,fun j k h => ?_,fun i hi h => ?_⟩
  ·rw[Nat.zero_add]
   simp only[h,o'g,Option.elim]
  ·simp only[hz]
   exact h0
  ·rw[hz] at h
   cases h
  ·rw[hz] at h
   cases h
 ·rintro L a' W i hL hi ⟨t,rfl,hI,hcl,hv⟩
  obtain ⟨hi1,hi2⟩:=ready_mem hi
  have hdone:∀ j,hangs ops i j=true→j<i∧L.getD j false=true:=fun j hj=>by
   unfold hangs at hj
   rw[Array.getElem?_eq_getElem hi1] at hj
   simp only[Option.map_some,o'g] at hj
   obtain ⟨e,he,hej⟩:=Array.any_eq_true'.1 hj
   simp only[Bool.and_eq_true,beq_iff_eq] at hej
   obtain ⟨hb,rfl⟩:=hej
   have h1:=(Array.all_eq_true'.1 (ready_after hi (Array.getElem?_eq_getElem hi1))) e he
   rw[hb] at h1
   exact ⟨ord_of hord i _ (Array.getElem?_eq_getElem hi1) e he hb,by simpa using h1⟩
  have hdep:∀ j,hangs ops i j=true→V j (t j) (t (dep j)) W:=fun j hj=>(hv j (by have:=hdone j hj;omega) (hdone j hj).2).1
  have hdi:dep i=i∨hangs ops i (dep i)=true:=by
   have:=List.all_eq_true.1 hdp i (List.mem_range.2 hi1)
   simpa using this
  have hset:∀ j,j≠i→∀ v,setV t i v j=t j:=fun j hj v=>if_neg hj
  refine wpOp_mono ?_ (hs (fun i=>L.getD i false) t W _ hI rfl hcl i (by omega) (getD_low hi2) hdep)
  rintro a2 W2 ⟨v,rfl,hI2,hSt,hvi⟩
  refine ⟨setV t i v,?_,?_,fun j k hj hk => ?_,fun j hj hl => ?_⟩
  ·rw[putFrom_set slots hnd 0 i t a v (by omega),Nat.zero_add]
  ·have he:(fun j=>(L.setIfInBounds i true).getD j false)=andD (fun i=>L.getD i false) i:=by
    funext j
    rw[getD_set (by omega)]
    rfl
   rw[he]
   exact hI2
  ·rw[getD_set (by omega)] at hj ⊢
   split
   ·rfl
   ·split at hj
    ·rename_i h1
     subst h1
     exact (hdone k hk).2
    ·exact hcl j k hj hk
  ·rw[getD_set (by omega)] at hl
   by_cases hji:j=i
   ·subst hji
    have h1:setV t j v j=v:=if_pos rfl
    rw[h1]
    refine ⟨hvi,?_⟩
    rw[getD_set (by omega)]
    rcases hdi with h2 | h2
    ·rw[if_pos h2]
    ·split
     ·rfl
     ·exact (hdone _ h2).2
   ·rw[if_neg hji] at hl
    obtain ⟨h2,h3⟩:=hv j hj hl
    have hne:dep j≠i:=fun e=>by
     rw[e,getD_low hi2] at h3
     cases h3
    rw[hset j hji,hset _ hne]
    refine ⟨hV _ _ _ _ _ hSt h2,?_⟩
    rw[getD_set (by omega),if_neg hne]
    exact h3
 ·rintro L a' W hall ⟨t,rfl,hI,hcl,hv⟩
  exact hf _ t W _ hI (fun i hi=>hall i (by omega)) rfl fun i hi=>(hv i hi (hall i (by omega))).1
theorem wp_region_vals {id:Nat} {a:Act} {w:World} (slots:List (Option Tmp)) (I:World→Prop) (St:World→World→Prop) (dep:Nat→Nat) (V:Nat→Value→Value→World→Prop)
  (hm:P.follows .mixedOrders=true) (hord:ordB ops=true) (hsl:ops.toList.map (·.dst)=slots) (hnd:slotsB slots=true) (hdp:depsB ops dep=true)
  (hV:∀ i v u W W',St W W'→V i v u W→V i v u W') (h0:I w.drew)
  (hs:∀ (t:Nat→Value) (W:World) (a':Act),I W→a'=putFrom 0 slots t a→∀ i,i<slots.length→(∀ j,hangs ops i j=true→V j (t j) (t (dep j)) W)→wpOp P ops Q i (fun a2 W2=>∃ v,a2=a'.put (slots[i]?.getD none) v∧I W2∧St W W2∧V i v (setV t i v (dep i)) W2) a' W)
  (hf:∀ (t:Nat→Value) (W:World) (a':Act),I W→a'=putFrom 0 slots t a→(∀ i,i<slots.length→V i (t i) (t (dep i)) W)→Q .normal a' W):(Code.region id ops true).wp P Q a w:=
 wp_region_done slots (fun _=>I) St dep V hm hord hsl hnd hdp hV h0 (fun _ t W a' hI ha _ i hi _ hd=>hs t W a' hI ha i hi hd) (fun _ t W a' hI _ ha hv=>hf t W a' hI ha hv)
end
section
variable {P:Program} {ops:Array Oper} {Q:Exit→Act→World→Prop}
theorem wp_region_deps {id:Nat} {a:Act} {w:World} (slots:List (Option Tmp)) (I:(Nat→Bool)→World→Prop) (St:World→World→Prop) (dep:Nat→Nat) (V:Nat→Value→Value→World→Prop)
  (hm:P.follows .mixedOrders=true) (hord:ordB ops=true) (hsl:ops.toList.map (·.dst)=slots) (hnd:slotsB slots=true) (hdp:depsB ops dep=true)
  (hV:∀ i v u W W',St W W'→V i v u W→V i v u W') (h0:I (fun _=>false) w.drew)
  (hs:∀ (done:Nat→Bool) (t:Nat→Value) (W:World) (a':Act),I done W→a'=putFrom 0 slots t a→(∀ j k,done j=true→hangs ops j k=true→done k=true)→∀ i,i<slots.length→done i=false→(∀ j,hangs ops i j=true→done j=true∧V j (t j) (t (dep j)) W)→wpOp P ops Q i (fun a2 W2=>∃ v,a2=a'.put (slots[i]?.getD none) v∧I (andD done i) W2∧St W W2∧V i v (setV t i v (dep i)) W2) a' W)
  (hf:∀ (done:Nat→Bool) (t:Nat→Value) (W:World) (a':Act),I done W→(∀ i,i<slots.length→done i=true)→a'=putFrom 0 slots t a→(∀ i,i<slots.length→V i (t i) (t (dep i)) W)→Q .normal a' W):(Code.region id ops true).wp P Q a w:=by
 have hlen:slots.length=ops.size:=by rw[←hsl];simp
 refine wp_region_inv hm (ord_of hord) (fun L a' W=>∃ t:Nat→Value,a'=putFrom 0 slots t a∧I (fun i=>L.getD i false) W∧(∀ j k,L.getD j false=true→hangs ops j k=true→L.getD k false=true)∧∀ i,i<slots.length→L.getD i false=true→V i (t i) (t (dep i)) W∧L.getD (dep i) false=true) ?_ ?_ ?_
 ·have hz:∀ i,(Array.replicate ops.size false).getD i false=false:=fun i=>by
   simp only[Array.getD_eq_getD_getElem?,Array.getElem?_replicate]
   split <;> rfl
  refine ⟨fun i=>(slots[i]?.getD none).elim undef fun s=>a.tmps.getD s undef,(putFrom_id slots 0 _ a fun i s h => ?_).symm,?_,fun j k h => ?_,fun i hi h => ?_⟩
  ·rw[Nat.zero_add]
   simp only[h,o'g,Option.elim]
  ·simp only[hz]
   exact h0
  ·rw[hz] at h
   cases h
  ·rw[hz] at h
   cases h
 ·rintro L a' W i hL hi ⟨t,rfl,hI,hcl,hv⟩
  obtain ⟨hi1,hi2⟩:=ready_mem hi
  have hdone:∀ j,hangs ops i j=true→j<i∧L.getD j false=true:=fun j hj=>by
   unfold hangs at hj
   rw[Array.getElem?_eq_getElem hi1] at hj
   simp only[Option.map_some,o'g] at hj
   obtain ⟨e,he,hej⟩:=Array.any_eq_true'.1 hj
   simp only[Bool.and_eq_true,beq_iff_eq] at hej
   obtain ⟨hb,rfl⟩:=hej
   have h1:=(Array.all_eq_true'.1 (ready_after hi (Array.getElem?_eq_getElem hi1))) e he
   rw[hb] at h1
   exact ⟨ord_of hord i _ (Array.getElem?_eq_getElem hi1) e he hb,by simpa using h1⟩
  have hdep:∀ j,hangs ops i j=true→L.getD j false=true∧V j (t j) (t (dep j)) W:=fun j hj=>⟨(hdone j hj).2,(hv j (by have:=hdone j hj;omega) (hdone j hj).2).1⟩
  have hdi:dep i=i∨hangs ops i (dep i)=true:=by
   have:=List.all_eq_true.1 hdp i (List.mem_range.2 hi1)
   simpa using this
  have hset:∀ j,j≠i→∀ v,setV t i v j=t j:=fun j hj v=>if_neg hj
  refine wpOp_mono ?_ (hs (fun i=>L.getD i false) t W _ hI rfl hcl i (by omega) (getD_low hi2) hdep)
  rintro a2 W2 ⟨v,rfl,hI2,hSt,hvi⟩
  refine ⟨setV t i v,?_,?_,fun j k hj hk => ?_,fun j hj hl => ?_⟩
  ·rw[putFrom_set slots hnd 0 i t a v (by omega),Nat.zero_add]
  ·have he:(fun j=>(L.setIfInBounds i true).getD j false)=andD (fun i=>L.getD i false) i:=by
    funext j
    rw[getD_set (by omega)]
    rfl
   rw[he]
   exact hI2
  ·rw[getD_set (by omega)] at hj ⊢
   split
   ·rfl
   ·split at hj
    ·rename_i h1
     subst h1
     exact (hdone k hk).2
    ·exact hcl j k hj hk
  ·rw[getD_set (by omega)] at hl
   by_cases hji:j=i
   ·subst hji
    have h1:setV t j v j=v:=if_pos rfl
    rw[h1]
    refine ⟨hvi,?_⟩
    rw[getD_set (by omega)]
    rcases hdi with h2 | h2
    ·rw[if_pos h2]
    ·split
     ·rfl
     ·exact (hdone _ h2).2
   ·rw[if_neg hji] at hl
    obtain ⟨h2,h3⟩:=hv j hj hl
    have hne:dep j≠i:=fun e=>by
     rw[e,getD_low hi2] at h3
     cases h3
    rw[hset j hji,hset _ hne]
    refine ⟨hV _ _ _ _ _ hSt h2,?_⟩
    rw[getD_set (by omega),if_neg hne]
    exact h3
 ·rintro L a' W hall ⟨t,rfl,hI,hcl,hv⟩
  exact hf _ t W _ hI (fun i hi=>hall i (by omega)) rfl fun i hi=>(hv i hi (hall i (by omega))).1
end
end Go.Lo
