/- What layer 16's laws ask of states and rows. No walk stands here. -/
import Derived.Test.YtcknpofnpabkiaaGreatGzBJ
import Derived.Test.YtcknpofnpabkiaaGreatGzBN
import Derived.Test.YtcknpofnpabkiaaGreatGzBF
namespace Go.Proofs.YtcknpofnpabkiaaGreat
open Go.RowKit Go.Lo
theorem own_max {w:World} {b s n:Nat} {e:TypeId} {v:Value} {xs:List Value} (h:w.ownsRow b e s v n xs):n≤9223372036854775807:=by
 rcases h.2 with ⟨_,h0⟩ | ⟨g,cap,cur,rfl,_,_,hnc,hcm,_⟩
 ·omega
 ·simp only[maxLen] at hcm
  omega
theorem states_len {w:World} {B:Nat} {sv:Value} {S:List StG} {ls:List StV} (hS:StatesIn w B sv S ls) {m:Nat} (h:∀ s∈S,s.2.length≤m):∀ x∈ls,x.len≤m:=fun x hx=>by
 obtain ⟨k,hk,rfl⟩:=List.getElem_of_mem hx
 have hl:=hS.len
 have h1:=sl_len (hS.bodies k hk (by omega))
 rw[h1]
 exact h _ (List.getElem_mem _)
theorem lens_states {w:World} {B:Nat} {sv:Value} {S:List StG} {ls:List StV} (hS:StatesIn w B sv S ls) {m:Nat} (h:∀ x∈ls,x.len≤m):∀ s∈S,s.2.length≤m:=fun s hs=>by
 obtain ⟨k,hk,rfl⟩:=List.getElem_of_mem hs
 have hl:=hS.len
 have h1:=sl_len (hS.bodies k (by omega) hk)
 rw[←h1]
 exact h _ (List.getElem_mem _)
end Go.Proofs.YtcknpofnpabkiaaGreat
