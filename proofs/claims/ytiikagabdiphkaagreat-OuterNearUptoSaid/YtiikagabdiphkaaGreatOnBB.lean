/- The least way to each place, as a map. -/
import Derived.Maps.OwnIn
import Derived.Test.YtiikagabdiphkaaGreatOnAY
import Derived.Test.YtiikagabdiphkaaGreatOnBA
namespace Go.Proofs.YtiikagabdiphkaaGreat
open Go.RowKit Go.Lo Go.Maps
abbrev K3:=Int × Int × Int
def keyG (n:WayN):K3:=(n.addr,n.bits,n.router)
structure InK (k:K3):Prop where
 a:0≤k.1∧k.1<4294967296
 b:0≤k.2.1∧k.2.1<256
 r:0≤k.2.2∧k.2.2<4294967296
theorem wf_u32 {a:Int} (h:0≤a∧a<4294967296):(Lit.int .u32 a).wf=true:=by
 have h1:IntKind.u32.min=0:=by decide
 have h2:IntKind.u32.max=4294967295:=by decide
 simp[Lit.wf,h1,h2]
 omega
theorem wf_u8 {a:Int} (h:0≤a∧a<256):(Lit.int .u8 a).wf=true:=by
 have h1:IntKind.u8.min=0:=by decide
 have h2:IntKind.u8.max=255:=by decide
 simp[Lit.wf,h1,h2]
 omega
theorem lits_pre (d:Nat) (a b:Int) (ha:0≤a∧a<4294967296) (hb:0≤b∧b<256):(Tryz.prog).keyLits (d+2) 35 [.int .u32 a,.int .u8 b]=some [.int .u32 a,.int .u8 b]:=by
 have c2:(Tryz.prog).cellsOf 35=2:=by kernel_rfl
 have c1:(Tryz.prog).cellsOf 24=1:=by kernel_rfl
 have c0:(Tryz.prog).cellsOf 5=1:=by kernel_rfl
 unfold Program.keyLits
 rw[Tryz.underlying35]
 simp only[c2]
 rw[if_pos ⟨rfl,by kernel_rfl⟩]
 simp[Program.keyLits,Tryz.underlying24,Tryz.underlying5,c1,c0,wf_u32 ha,wf_u8 hb]
theorem types_many:∃ d,(Tryz.prog).types.size+1=d+3:=by
 have h1:Nat.ble 2 (Tryz.prog).types.size=true:=by kernel_rfl
 have h2:=Nat.le_of_ble_eq_true h1
 exact ⟨(Tryz.prog).types.size-2,by omega⟩
theorem puts_le (a b:List Hop):(puts a b).length≤a.length+b.length:=by
 induction b generalizing a with
 | nil=>simp[puts]
 | cons h r ih =>
  have h1:=ih (ins a h)
  have h2:=(ins_length a h).1
  show (puts (ins a h) r).length≤_
  simp only[List.length_cons]
  omega
end Go.Proofs.YtiikagabdiphkaaGreat
