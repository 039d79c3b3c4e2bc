/- Ways are compared and looked for. -/
import Derived.RangeFuncNested
import Derived.RangeFuncBound
import Derived.RangeFuncCalls
import Derived.RangeFuncLeaves
import Derived.Test.YtiikagabdiphkaaGreatOnAN
import Derived.Test.YtiikagabdiphkaaGreatOnAU
import Derived.Test.YtiikagabdiphkaaGreatOnAA
namespace Go.Proofs.YtiikagabdiphkaaGreat
open Go.RowKit Go.Lo
theorem cmpI_cases (a b:Int):(a<b∧cmpI a b = -1)∨(a=b∧cmpI a b=0)∨(b<a∧cmpI a b=1):=by
 unfold cmpI
 split
 ·exact .inl ⟨by assumption,rfl⟩
 ·split
  ·exact .inr (.inr ⟨by assumption,rfl⟩)
  ·exact .inr (.inl ⟨by omega,rfl⟩)
theorem wayE:RowE wayL 10:=⟨wayL_len,fun x v hv=>by
 simp only[wayL,List.mem_cons,List.not_mem_nil,or_false] at hv
 rcases hv with rfl | rfl | rfl | rfl | rfl | rfl | rfl | rfl | rfl | rfl <;> simp[Value.oneCell'],by omega⟩
end Go.Proofs.YtiikagabdiphkaaGreat
namespace Go.Proofs.YtiikagabdiphkaaGreat
open Go.RowKit Go.Lo
end Go.Proofs.YtiikagabdiphkaaGreat
