/- Layer 18's known run answers true. No condition. -/
import Derived.Test.YtcknpofnpabkiaaGreatInBK
import Derived.Test.YtcknpofnpabkiaaGreatInBT
set_option maxRecDepth 100000
namespace Go.Proofs.YtcknpofnpabkiaaGreat
open Go.RowKit Go.Lo
set_option maxHeartbeats 4000000 in
theorem works18_any (w:World):Calls Tryz.prog 20 #[] w fun e w'=>e=.returned (.bool true)∧Below w.heap.size w w':=by
 have CT:=h'd (ring18_any w)
 have hok:∀ s∈S2,StOk s:=by
  intro s hs
  simp only[S2,List.mem_cons,List.not_mem_nil,or_false] at hs
  rcases hs with rfl | rfl
  all_goals exact ⟨⟨by decide,by decide,by decide,by decide,by decide,by decide,by decide,by decide⟩,by decide,by decide⟩
 have hl8:∀ s∈S2,s.2.length≤8192:=by
  intro s hs
  simp only[S2,List.mem_cons,List.not_mem_nil,or_false] at hs
  rcases hs with rfl | rfl
  all_goals decide
 replace hok:=h'd hok
 replace hl8:=h'd hl8
 go_enter Tryz.func20,Tryz.ntmps20
 go_upto_region 2 with (first
  | (go_at_call 50;refine Calls.mono CT.out ?_;rintro e w1 ⟨v,ls,rfl,hS,hl2,hB1⟩)
  | (go_at_call 21;refine Calls.mono (routes18_any _ v S2 ls w1 7 1 hS (Nat.le_refl _) hok.out hl8.out (by decide)) ?_;rintro e w2 ⟨v1,v2,n,r,rfl,hn,hnh,hr,hrh,hi,-,-,hB2⟩))
 obtain ⟨hin,hir⟩:=ring_is hi
 have hnl:n.length=1:=by have:=congrArg List.length hin;simpa[gOf] using this
 have hrl:r.length=1:=by have:=congrArg List.length hir;simpa[gOf] using this
 obtain ⟨x,rfl⟩:∃ a,n=[a]:=by
  match n,hnl with
  | [a],_=>exact ⟨a,rfl⟩
 obtain ⟨y,rfl⟩:∃ a,r=[a]:=by
  match r,hrl with
  | [a],_=>exact ⟨a,rfl⟩
 obtain ⟨⟨xn,xA,xl,xc⟩,xh⟩:=x
 obtain ⟨⟨yn,yA,yl,yc⟩,yh⟩:=y
 simp only[gOf,List.map_cons,List.map_nil,List.cons.injEq,and_true,net2,rou2,Prod.mk.injEq] at hin hir
 obtain ⟨rfl,rfl⟩:=hin
 obtain ⟨rfl,rfl⟩:=hir
 have hy:=(hrh _ (List.mem_singleton.2 rfl)).sl
 dsimp only at hy
 simp only[List.length_cons,List.length_nil,Nat.zero_add] at hn hr hy
 obtain ⟨-,nA,nc,rfl,-⟩:=id (Sl.of_own hn)
 obtain ⟨-,rA,rc,rfl,-⟩:=id (Sl.of_own hr)
 obtain ⟨-,yA',yc',he,-⟩:=id hy
 simp only[Value.slice.injEq] at he
 obtain ⟨rfl,rfl,rfl⟩:=he
 obtain ⟨bn,on,rfl,hbn,hrn⟩:=Sl.row (f:=yL) (fun x=>rfl) (Sl.of_own hn) (k:=0) (by simp)
 obtain ⟨br,or_,rfl,hbr,hrr⟩:=Sl.row (f:=yL) (fun x=>rfl) (Sl.of_own hr) (k:=0) (by simp)
 obtain ⟨bh,oh,rfl,hbh,hrh2⟩:=Sl.row (f:=hopCells) (l:=[hop2]) (fun x=>rfl) hy (k:=0) (by simp)
 have n0:=hrn 0 _ rfl
 have n1:=hrn 1 _ rfl
 have n5:=hrn 5 _ rfl
 have n6:=hrn 6 _ rfl
 have m2:=hrr 2 _ rfl
 have m9:=hrr 9 _ rfl
 have h0:=hrh2 0 _ rfl
 have h1:=hrh2 1 _ rfl
 have h2:=hrh2 2 _ rfl
 simp only[Nat.add_zero,Nat.zero_mul] at n0 n1 n5 n6 m2 m9 h0 h1 h2
 have q1:∀ W,(binOp .eql 45 (.agg #[.int .u32 167837696,.int .u8 16]) (.agg #[.int .u32 167837696,.int .u8 16])).run Tryz.prog W=.ok (.bool true) W:=fun W=>by kernel_rfl
 have q2:∀ W,(binOp .eql 56 (.agg #[.int .u32 167772161,.int .u32 2,.bool false]) (.agg #[.int .u32 167772161,.int .u32 2,.bool false])).run Tryz.prog W=.ok (.bool true) W:=fun W=>by kernel_rfl
 clear hrn hrr hrh2 hn hr hnh hrh hy hi CT hok hl8
 go_wp2
 go_ret
 exact ⟨rfl,hB1.trans (hB2.mono hB1.size)⟩
end Go.Proofs.YtcknpofnpabkiaaGreat
