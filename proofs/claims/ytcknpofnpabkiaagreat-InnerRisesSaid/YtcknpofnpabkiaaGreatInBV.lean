/- What layer 16's laws ask of states and rows. No walk stands here. -/
import Derived.Test.YtcknpofnpabkiaaGreatInBD
import Derived.Test.YtcknpofnpabkiaaGreatInBA
import Derived.Test.YtcknpofnpabkiaaGreatInAY
namespace Go.Proofs.YtcknpofnpabkiaaGreat
open Go.RowKit Go.Lo
theorem states_len {w:World} {B:Nat} {sv:Value} {S:List StG} {ls:List StV} (hS:StatesIn w B sv S ls) {m:Nat} (h:∀ s∈S,s.2.length≤m):∀ x∈ls,x.len≤m:=fun x hx=>by
 obtain ⟨k,hk,rfl⟩:=List.getElem_of_mem hx
 have hl:=hS.len
 have h1:=sl_len (hS.bodies k hk (by omega))
 rw[h1]
 exact h _ (List.getElem_mem _)
theorem lens_states {w:World} {B:Nat} {sv:Value} {S:List StG} {ls:List StV} (hS:StatesIn w B sv S ls) {m:Nat} (h:∀ x∈ls,x.len≤m):∀ s∈S,s.2.length≤m:=fun s hs=>by
 obtain ⟨k,hk,rfl⟩:=List.getElem_of_mem hs
 have hl:=hS.len
 have h1:=sl_len (hS.bodies k (by omega) hk)
 rw[←h1]
 exact h _ (List.getElem_mem _)
end Go.Proofs.YtcknpofnpabkiaaGreat
