/- At most one way is sorted. -/
import Derived.Test.YtcknpofnpabkiaaGreatInAW
import Derived.Test.YtcknpofnpabkiaaGreatInAG
set_option maxRecDepth 100000
namespace Go.Proofs.YtcknpofnpabkiaaGreat
open Go.RowKit Go.Lo
theorem inswB_one (A:Option Addr) (n c:Nat) (cv:Value) (hn:n≤1) (w:World) :
  Calls Tryz.prog 166 #[.slice A n c,.int .i64 0,.int .i64 n,cv] w fun e w'=>e=.returned (.tuple #[])∧w'=w:=by
 have i1:¬ (1:Int)<(n:Int):=by omega
 go_enter Tryz.func166,Tryz.ntmps166
 go_wp2_with fail
 go_loopg [8] 1 (fun m v wr=>m=1∧v=.int .i64 1∧wr=w)
 case atStart=>exact ⟨rfl,rfl,rfl⟩
 case round =>
  obtain ⟨hm,rfl,rfl⟩:=hrel
  go_wp2
  go_end0
  exact ⟨rfl,rfl⟩
set_option maxHeartbeats 1000000 in
theorem pdqwB_one (A:Option Addr) (n c lim:Nat) (cv:Value) (hn:n≤1) (w:World) :
  Calls Tryz.prog 135 #[.slice A n c,.int .i64 0,.int .i64 n,.int .i64 lim,cv] w fun e w'=>e=.returned (.tuple #[])∧w'=w:=by
 have q1:(n:Int)≤12:=by omega
 have q2:IntKind.i64.wrap (n:Int)=(n:Int):=IntWalk.i64_in _ (by omega)
 go_enter Tryz.func135,Tryz.ntmps135
 go_wp2_with fail
 go_loopg [1,2,3,10,11] 1 (fun m va vb vl v8 v9 wr=>m=1∧va=.int .i64 0∧vb=.int .i64 n∧wr=w)
 case atStart=>exact ⟨rfl,rfl,rfl,rfl⟩
 case round =>
  obtain ⟨hm,rfl,rfl,rfl⟩:=hrel
  go_wp2_with (go_at_call 166;refine Calls.mono (inswB_one A n c cv hn _) ?_;rintro e w2 ⟨rfl,rfl⟩)
  refine bodyPost_ret (results_none rfl _ _ _) rfl ?_
  exact ⟨rfl,rfl⟩
theorem sortwB_one (A:Option Addr) (n c:Nat) (cv:Value) (hn:n≤1) (w:World) :
  Calls Tryz.prog 97 #[.slice A n c,cv] w fun e w'=>e=.returned (.tuple #[])∧w'=w:=by
 have q1:IntKind.u64.wrap (n:Int)=(n:Int):=by rw[IntKind.wrap_u64];omega
 have C1:=Tryz.bits_Len (n:Int) w (by omega) (by omega)
 rw[Int.toNat_natCast] at C1
 have C2:=pdqwB_one A n c (Lib.bitLen n) cv hn w
 generalize Lib.bitLen n=L at *
 replace C1:=h'd C1
 replace C2:=h'd C2
 go_enter Tryz.func97,Tryz.ntmps97
 go_wp2_with (first
  | (go_at_call 115;refine Calls.mono C1.out ?_;rintro e w1 ⟨rfl,rfl⟩)
  | (go_at_call 135;refine Calls.mono C2.out ?_;rintro e w2 ⟨rfl,rfl⟩)
  | fail)
 go_end0
 exact ⟨rfl,rfl⟩
end Go.Proofs.YtcknpofnpabkiaaGreat
