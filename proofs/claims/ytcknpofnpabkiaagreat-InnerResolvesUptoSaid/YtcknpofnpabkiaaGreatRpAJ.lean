/- Ways by virtual steps are resolved, in plain words. No walk stands here. -/
import Derived.Test.YtcknpofnpabkiaaGreatRpAI
import Derived.Test.YtcknpofnpabkiaaGreatRpAA
namespace Go.Proofs.YtcknpofnpabkiaaGreat
open Go.RowKit Go.Lo
def firstR (T:List WayG) (r:Int):Option WayG:=T.find? fun t=>t.1.router==r
def plainP (T:List WayG) (r:Int):List Hop:=match firstR T r with | none=>[] | some t=>t.2.filter fun h => !h.2.2
def oneP (T:List WayG) (h:Hop):List Hop:=if h.2.2=true then plainP T h.2.1 else [h]
def resHops (T:List WayG) (l:List Hop):List Hop:=l.foldl (fun hs h=>puts hs (oneP T h)) []
def keepW (T:List WayG) (w:WayG):Bool:=decide (0<(resHops T w.2).length) || decide (w.2.length=0)
def resP (T l:List WayG):List WayG:=(l.filter (keepW T)).map fun w=>(w.1,resHops T w.2)
theorem resHops_snoc (T:List WayG) (l:List Hop) (h:Hop):resHops T (l++[h])=puts (resHops T l) (oneP T h):=by
 unfold resHops
 rw[List.foldl_append]
 rfl
theorem resHops_sorted (T:List WayG) (l:List Hop):Sorted (resHops T l):=by
 obtain ⟨n,hn⟩:∃ n,l.length=n:=⟨_,rfl⟩
 induction n generalizing l with
 | zero=>rw[List.length_eq_zero_iff.1 hn];exact List.Pairwise.nil
 | succ n ih =>
  rcases List.eq_nil_or_concat l with rfl | ⟨t,s,rfl⟩
  ·exact List.Pairwise.nil
  ·rw[List.concat_eq_append] at hn ⊢
   rw[resHops_snoc]
   exact (ih t (by simpa using hn)).puts _
theorem puts_self {l:List Hop} (h:Sorted l):puts [] l=l:=by
 have hn:Sorted ([]:List Hop):=List.Pairwise.nil
 exact (hn.puts l).ext h fun x=>by rw[mem_puts];simp
theorem puts_one (l:List Hop) (h:Hop):puts l [h]=ins l h:=rfl
theorem puts_len2 (a b:List Hop):(puts a b).length≤a.length+b.length:=by
 induction b generalizing a with
 | nil=>simp[puts]
 | cons h r ih =>
  have h1:=ih (ins a h)
  have h2:=(ins_length a h).1
  show (puts (ins a h) r).length≤_
  simp only[List.length_cons]
  omega
theorem plainP_len {T:List WayG} {m:Nat} (h:∀ t∈T,t.2.length≤m) (r:Int):(plainP T r).length≤m:=by
 unfold plainP
 split
 ·exact Nat.zero_le _
 ·rename_i t ht
  exact n't (List.length_filter_le _ _) (h t (List.mem_of_find?_eq_some ht))
theorem oneP_len {T:List WayG} {m:Nat} (h:∀ t∈T,t.2.length≤m) (hm:1≤m) (x:Hop):(oneP T x).length≤m:=by
 unfold oneP
 split
 ·exact plainP_len h _
 ·simpa using hm
theorem resHops_len {T:List WayG} {m:Nat} (h:∀ t∈T,t.2.length≤m) (hm:1≤m) (l:List Hop):(resHops T l).length≤m*l.length:=by
 obtain ⟨n,hn⟩:∃ n,l.length=n:=⟨_,rfl⟩
 induction n generalizing l with
 | zero=>rw[List.length_eq_zero_iff.1 hn];simp[resHops]
 | succ n ih =>
  rcases List.eq_nil_or_concat l with rfl | ⟨t,s,rfl⟩
  ·simp[resHops]
  ·rw[List.concat_eq_append] at hn ⊢
   have h1:=ih t (by simpa using hn)
   have h2:=puts_len2 (resHops T t) (oneP T s)
   have h3:=oneP_len h hm s
   rw[resHops_snoc,l'a,List.length_singleton,Nat.mul_succ]
   omega
theorem resHops_take (T:List WayG) (l:List Hop) (k:Nat) (hk:k<l.length):resHops T (l.take (k+1))=puts (resHops T (l.take k)) (oneP T l[k]):=by
 rw[t'k hk,resHops_snoc]
theorem resP_take (T l:List WayG) (k:Nat) (hk:k<l.length):resP T (l.take (k+1))=resP T (l.take k)++(if keepW T l[k]=true then [(l[k].1,resHops T l[k].2)] else []):=by
 rw[t'k hk]
 unfold resP
 rw[List.filter_append,List.map_append]
 congr 1
 cases h:keepW T l[k] <;> simp[h]
theorem resHops_plain (T:List WayG) {l:List Hop} (hl:∀ h∈l,h.2.2=false) (hs:Sorted l):resHops T l=l:=by
 have e:∀ l:List Hop,(∀ h∈l,h.2.2=false)→resHops T l=puts [] l:=fun l=>by
  obtain ⟨n,hn⟩:∃ n,l.length=n:=⟨_,rfl⟩
  induction n generalizing l with
  | zero=>intro _;rw[List.length_eq_zero_iff.1 hn];rfl
  | succ n ih =>
   intro hl
   rcases List.eq_nil_or_concat l with rfl | ⟨t,s,rfl⟩
   ·rfl
   ·rw[List.concat_eq_append] at hn hl ⊢
    rw[resHops_snoc,ih t (by simpa using hn) fun h hh=>hl h (by simp[hh])]
    have:oneP T s=[s]:=by
     unfold oneP
     rw[if_neg (by rw[hl s (by simp)];simp)]
    rw[this]
    unfold puts
    rw[List.foldl_append]
 rw[e l hl,puts_self hs]
theorem resP_plain (T:List WayG) {l:List WayG} (hl:∀ g∈l,Sorted g.2∧∀ h∈g.2,h.2.2=false):resP T l=l:=by
 induction l with
 | nil=>rfl
 | cons g r ih =>
  have h1:=hl g (by simp)
  have h2:=resHops_plain T h1.2 h1.1
  have h3:=ih fun x hx=>hl x (by simp[hx])
  have hk:keepW T g=true:=by
   unfold keepW
   rw[h2]
   by_cases h0:g.2.length=0
   ·simp[h0]
   ·rw[d't (show 0<g.2.length by omega)];rfl
  unfold resP at h3 ⊢
  rw[List.filter_cons,if_pos hk,List.map_cons,h3,h2]
theorem resP_mem {T l:List WayG} {g:WayG} (h:g∈resP T l):∃ x∈l,g=(x.1,resHops T x.2):=by
 unfold resP at h
 obtain ⟨x,hx,rfl⟩:=List.mem_map.1 h
 exact ⟨x,(List.mem_filter.1 hx).1,rfl⟩
end Go.Proofs.YtcknpofnpabkiaaGreat
