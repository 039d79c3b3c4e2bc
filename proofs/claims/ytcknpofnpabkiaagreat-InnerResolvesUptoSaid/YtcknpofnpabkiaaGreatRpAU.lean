/- What a state may hold. -/
import Derived.Test.YtcknpofnpabkiaaGreatRpAT
import Derived.Test.YtcknpofnpabkiaaGreatRpAE
set_option maxRecDepth 100000
namespace Go.Proofs.YtcknpofnpabkiaaGreat
open Go.RowKit Go.Lo
def maskI (b:Int):Int:=if 32<b then 0 else 4294967295*2 ^ (32-b).toNat%4294967296
theorem mask_any (b:Int) (hb:0≤b∧b≤255) (w:World):Calls Tryz.prog 122 #[.int .u8 b] w fun e w'=>e=.returned (.int .u32 (maskI b))∧w'=w:=by
 go_enter Tryz.func122,Tryz.ntmps122
 go_wp2
 all_goals go_ret
 ·refine ⟨?_,rfl⟩
  rw[maskI,if_pos (by assumption)];rfl
 ·refine ⟨?_,rfl⟩
  rw[maskI,if_neg (by omega)];rfl
def bitsN (m:Int):Int:=(32-(Go.Lib.bitLen (bits BinOp.xor IntKind.u32 IntKind.u32.max m).toNat:Int))%256
def bitsB (m:Int):Bool:=maskI (bitsN m)==m
def bitsV (m:Int):Int:=if bitsB m then bitsN m else 0
theorem bits_any (m:Int) (w:World):Calls Tryz.prog 83 #[.int .u32 m] w fun e w'=>e=.returned (.tuple #[.int .u8 (bitsV m),.bool (bitsB m)])∧w'=w:=by
 have hx:0≤bits BinOp.xor IntKind.u32 IntKind.u32.max m∧bits BinOp.xor IntKind.u32 IntKind.u32.max m≤4294967295:=by
  unfold bits
  rw[IntKind.wrap_u32]
  omega
 have CL:=h'd (Tryz.bits_LeadingZeros32 _ w hx.1 hx.2)
 have CM:=h'd (mask_any (bitsN m) (by unfold bitsN;omega) w)
 by_cases hb:maskI (bitsN m)=m
 ·have e1:bitsB m=true:=by unfold bitsB;rw[hb];simp
  have e2:bitsV m=bitsN m:=if_pos e1
  rw[e1,e2]
  have hne:(maskI (bitsN m) != m)=false:=by simp[hb]
  unfold bitsN at *
  go_enter Tryz.func83,Tryz.ntmps83
  go_wp2_with (first
   | (go_at_call 121;refine c'm CL.out ?_;rintro x w1 ⟨rfl,rfl⟩)
   | (go_at_call 122;refine c'm CM.out ?_;rintro x w2 ⟨rfl,rfl⟩)
   | fail)
  refine bodyPost_ret (results_tmp2 rfl _ _ _) rfl ?_
  exact ⟨rfl,rfl⟩
 ·have e1:bitsB m=false:=by unfold bitsB;exact beq_false_of_ne hb
  have e2:bitsV m=0:=if_neg (by rw[e1];simp)
  rw[e1,e2]
  have hne:(maskI (bitsN m) != m)=true:=by simpa using hb
  unfold bitsN at *
  go_enter Tryz.func83,Tryz.ntmps83
  go_wp2_with (first
   | (go_at_call 121;refine c'm CL.out ?_;rintro x w1 ⟨rfl,rfl⟩)
   | (go_at_call 122;refine c'm CM.out ?_;rintro x w2 ⟨rfl,rfl⟩)
   | fail)
  refine bodyPost_ret (results_tmp2 rfl _ _ _) rfl ?_
  exact ⟨rfl,rfl⟩
def may3 (m k:Int):Bool:=bitsB m && !decide (16777215<k)
def may4 (m k:Int):Bool:=(m==0) && bitsB m && !decide (16777215<k)
set_option maxHeartbeats 1000000 in
theorem may3_ok (m k:Int) (hb:bitsB m=true) (hk:¬ 16777215<k) (w:World):Calls Tryz.prog 79 #[.int .u8 3,.agg (sumC m k)] w fun e w'=>e=.returned (.tuple #[])∧Below w.heap.size w w':=by
 have k0:Blk ((w.alloc (.cells (sumC m k) 81)).alloc (.cells (sumC m k) 81)) w.heap.size 81 (sumC m k):=(Blk.new _ _ _).alloc _
 have k1:Blk ((w.alloc (.cells (sumC m k) 81)).alloc (.cells (sumC m k) 81)) (w.heap.size+1) 81 (sumC m k):=heap_alloc2_new w _ _
 have kB:Below w.heap.size w ((w.alloc (.cells (sumC m k) 81)).alloc (.cells (sumC m k) 81)):=((b'r _ _).alloc (n'r _) _).alloc (by simp) _
 go_enter Tryz.func79,Tryz.ntmps79
 go_upto_region 2 with fail
 generalize (w.alloc (.cells (sumC m k) 81)).alloc (.cells (sumC m k) 81)=w1 at k0 k1 kB ⊢
 have x1:=k0.cell 1
 have x2:=k0.cell 2
 have x3:=k0.cell 3
 have x4:=k0.cell 4
 have x8:=k0.cell 8
 have y0:=k1.cell 0
 have y1:=k1.cell 1
 have y2:=k1.cell 2
 have y3:=k1.cell 3
 have y4:=k1.cell 4
 have y5:=k1.cell 5
 have y6:=k1.cell 6
 have y7:=k1.cell 7
 have y8:=k1.cell 8
 have f2:=k1.free 2
 have f4:=k1.free 4
 simp only[q'a,q'z,q's] at x1 x2 x3 x4 x8 y0 y1 y2 y3 y4 y5 y6 y7 y8
 clear k0 k1
 go_wp2_with (go_at_call 83;refine c'm (bits_any m _) ?_;rintro x w2 ⟨rfl,rfl⟩)
 go_loopg [116] 1 (fun m i wr=>m=1∧i=.int .i64 0∧Below w.heap.size w wr)
 case atStart=>exact ⟨rfl,rfl,((kB.setCell (p:=⟨w.heap.size+1,2,none⟩) (Nat.le_succ _) _).setCell (p:=⟨w.heap.size+1,4,none⟩) (Nat.le_succ _) _)⟩
 case round =>
  obtain ⟨hm,rfl,hB⟩:=hrel
  go_wp2
  go_end0
  exact ⟨rfl,hB⟩
set_option maxHeartbeats 1000000 in
theorem may3_mask (m k:Int) (hb:bitsB m=false) (w:World):Calls Tryz.prog 79 #[.int .u8 3,.agg (sumC m k)] w fun e w'=>e=thrown 28∧Below w.heap.size w w':=by
 have k0:Blk ((w.alloc (.cells (sumC m k) 81)).alloc (.cells (sumC m k) 81)) w.heap.size 81 (sumC m k):=(Blk.new _ _ _).alloc _
 have k1:Blk ((w.alloc (.cells (sumC m k) 81)).alloc (.cells (sumC m k) 81)) (w.heap.size+1) 81 (sumC m k):=heap_alloc2_new w _ _
 have kB:Below w.heap.size w ((w.alloc (.cells (sumC m k) 81)).alloc (.cells (sumC m k) 81)):=((b'r _ _).alloc (n'r _) _).alloc (by simp) _
 go_enter Tryz.func79,Tryz.ntmps79
 go_upto_region 2 with fail
 generalize (w.alloc (.cells (sumC m k) 81)).alloc (.cells (sumC m k) 81)=w1 at k0 k1 kB ⊢
 have x1:=k0.cell 1
 have x2:=k0.cell 2
 have x3:=k0.cell 3
 have x4:=k0.cell 4
 have x8:=k0.cell 8
 have y0:=k1.cell 0
 have y1:=k1.cell 1
 have y2:=k1.cell 2
 have y3:=k1.cell 3
 have y4:=k1.cell 4
 have y5:=k1.cell 5
 have y6:=k1.cell 6
 have y7:=k1.cell 7
 have y8:=k1.cell 8
 have f2:=k1.free 2
 have f4:=k1.free 4
 simp only[q'a,q'z,q's] at x1 x2 x3 x4 x8 y0 y1 y2 y3 y4 y5 y6 y7 y8
 clear k0 k1
 go_wp2_with (go_at_call 83;refine c'm (bits_any m _) ?_;rintro x w2 ⟨rfl,rfl⟩)
 exact ⟨rfl,rfl,((kB.setCell (p:=⟨w.heap.size+1,2,none⟩) (Nat.le_succ _) _).setCell (p:=⟨w.heap.size+1,4,none⟩) (Nat.le_succ _) _)⟩
set_option maxHeartbeats 1000000 in
theorem may3_far (m k:Int) (hb:bitsB m=true) (hk:16777215<k) (w:World):Calls Tryz.prog 79 #[.int .u8 3,.agg (sumC m k)] w fun e w'=>e=thrown 28∧Below w.heap.size w w':=by
 have k0:Blk ((w.alloc (.cells (sumC m k) 81)).alloc (.cells (sumC m k) 81)) w.heap.size 81 (sumC m k):=(Blk.new _ _ _).alloc _
 have k1:Blk ((w.alloc (.cells (sumC m k) 81)).alloc (.cells (sumC m k) 81)) (w.heap.size+1) 81 (sumC m k):=heap_alloc2_new w _ _
 have kB:Below w.heap.size w ((w.alloc (.cells (sumC m k) 81)).alloc (.cells (sumC m k) 81)):=((b'r _ _).alloc (n'r _) _).alloc (by simp) _
 go_enter Tryz.func79,Tryz.ntmps79
 go_upto_region 2 with fail
 generalize (w.alloc (.cells (sumC m k) 81)).alloc (.cells (sumC m k) 81)=w1 at k0 k1 kB ⊢
 have x1:=k0.cell 1
 have x2:=k0.cell 2
 have x3:=k0.cell 3
 have x4:=k0.cell 4
 have x8:=k0.cell 8
 have y0:=k1.cell 0
 have y1:=k1.cell 1
 have y2:=k1.cell 2
 have y3:=k1.cell 3
 have y4:=k1.cell 4
 have y5:=k1.cell 5
 have y6:=k1.cell 6
 have y7:=k1.cell 7
 have y8:=k1.cell 8
 have f2:=k1.free 2
 have f4:=k1.free 4
 simp only[q'a,q'z,q's] at x1 x2 x3 x4 x8 y0 y1 y2 y3 y4 y5 y6 y7 y8
 clear k0 k1
 go_wp2_with (go_at_call 83;refine c'm (bits_any m _) ?_;rintro x w2 ⟨rfl,rfl⟩)
 exact ⟨rfl,rfl,((kB.setCell (p:=⟨w.heap.size+1,2,none⟩) (Nat.le_succ _) _).setCell (p:=⟨w.heap.size+1,4,none⟩) (Nat.le_succ _) _)⟩
set_option maxHeartbeats 1000000 in
theorem may4_ok (m k:Int) (hm:m=0) (hb:bitsB m=true) (hk:¬ 16777215<k) (w:World):Calls Tryz.prog 79 #[.int .u8 4,.agg (sumC m k)] w fun e w'=>e=.returned (.tuple #[])∧Below w.heap.size w w':=by
 subst hm
 have k0:Blk ((w.alloc (.cells (sumC 0 k) 81)).alloc (.cells (sumC 0 k) 81)) w.heap.size 81 (sumC 0 k):=(Blk.new _ _ _).alloc _
 have k1:Blk ((w.alloc (.cells (sumC 0 k) 81)).alloc (.cells (sumC 0 k) 81)) (w.heap.size+1) 81 (sumC 0 k):=heap_alloc2_new w _ _
 have kB:Below w.heap.size w ((w.alloc (.cells (sumC 0 k) 81)).alloc (.cells (sumC 0 k) 81)):=((b'r _ _).alloc (n'r _) _).alloc (by simp) _
 go_enter Tryz.func79,Tryz.ntmps79
 go_upto_region 2 with fail
 generalize (w.alloc (.cells (sumC 0 k) 81)).alloc (.cells (sumC 0 k) 81)=w1 at k0 k1 kB ⊢
 have x1:=k0.cell 1
 have x2:=k0.cell 2
 have x3:=k0.cell 3
 have x4:=k0.cell 4
 have x8:=k0.cell 8
 have y0:=k1.cell 0
 have y1:=k1.cell 1
 have y2:=k1.cell 2
 have y3:=k1.cell 3
 have y4:=k1.cell 4
 have y5:=k1.cell 5
 have y6:=k1.cell 6
 have y7:=k1.cell 7
 have y8:=k1.cell 8
 have f2:=k1.free 2
 have f4:=k1.free 4
 simp only[q'a,q'z,q's] at x1 x2 x3 x4 x8 y0 y1 y2 y3 y4 y5 y6 y7 y8
 clear k0 k1
 go_wp2_with (go_at_call 83;refine c'm (bits_any 0 _) ?_;rintro x w2 ⟨rfl,rfl⟩)
 go_loopg [116] 1 (fun m i wr=>m=1∧i=.int .i64 0∧Below w.heap.size w wr)
 case atStart=>exact ⟨rfl,rfl,(kB.setCell (p:=⟨w.heap.size+1,4,none⟩) (Nat.le_succ _) _)⟩
 case round =>
  obtain ⟨hm,rfl,hB⟩:=hrel
  go_wp2
  go_end0
  exact ⟨rfl,hB⟩
set_option maxHeartbeats 1000000 in
theorem may4_mask (m k:Int) (hm:(m==0)=false) (w:World):Calls Tryz.prog 79 #[.int .u8 4,.agg (sumC m k)] w fun e w'=>e=thrown 28∧Below w.heap.size w w':=by
 have k0:Blk ((w.alloc (.cells (sumC m k) 81)).alloc (.cells (sumC m k) 81)) w.heap.size 81 (sumC m k):=(Blk.new _ _ _).alloc _
 have k1:Blk ((w.alloc (.cells (sumC m k) 81)).alloc (.cells (sumC m k) 81)) (w.heap.size+1) 81 (sumC m k):=heap_alloc2_new w _ _
 have kB:Below w.heap.size w ((w.alloc (.cells (sumC m k) 81)).alloc (.cells (sumC m k) 81)):=((b'r _ _).alloc (n'r _) _).alloc (by simp) _
 go_enter Tryz.func79,Tryz.ntmps79
 go_upto_region 2 with fail
 generalize (w.alloc (.cells (sumC m k) 81)).alloc (.cells (sumC m k) 81)=w1 at k0 k1 kB ⊢
 have x1:=k0.cell 1
 have x2:=k0.cell 2
 have x3:=k0.cell 3
 have x4:=k0.cell 4
 have x8:=k0.cell 8
 have y0:=k1.cell 0
 have y1:=k1.cell 1
 have y2:=k1.cell 2
 have y3:=k1.cell 3
 have y4:=k1.cell 4
 have y5:=k1.cell 5
 have y6:=k1.cell 6
 have y7:=k1.cell 7
 have y8:=k1.cell 8
 have f2:=k1.free 2
 have f4:=k1.free 4
 simp only[q'a,q'z,q's] at x1 x2 x3 x4 x8 y0 y1 y2 y3 y4 y5 y6 y7 y8
 have hm0:¬ m=0:=by simpa using hm
 clear k0 k1
 go_wp2_with (go_at_call 83;refine c'm (bits_any m _) ?_;rintro x w2 ⟨rfl,rfl⟩)
 exact ⟨rfl,rfl,(kB.setCell (p:=⟨w.heap.size+1,4,none⟩) (Nat.le_succ _) _)⟩
set_option maxHeartbeats 1000000 in
theorem may4_far (m k:Int) (hm:m=0) (hb:bitsB m=true) (hk:16777215<k) (w:World):Calls Tryz.prog 79 #[.int .u8 4,.agg (sumC m k)] w fun e w'=>e=thrown 28∧Below w.heap.size w w':=by
 subst hm
 have k0:Blk ((w.alloc (.cells (sumC 0 k) 81)).alloc (.cells (sumC 0 k) 81)) w.heap.size 81 (sumC 0 k):=(Blk.new _ _ _).alloc _
 have k1:Blk ((w.alloc (.cells (sumC 0 k) 81)).alloc (.cells (sumC 0 k) 81)) (w.heap.size+1) 81 (sumC 0 k):=heap_alloc2_new w _ _
 have kB:Below w.heap.size w ((w.alloc (.cells (sumC 0 k) 81)).alloc (.cells (sumC 0 k) 81)):=((b'r _ _).alloc (n'r _) _).alloc (by simp) _
 go_enter Tryz.func79,Tryz.ntmps79
 go_upto_region 2 with fail
 generalize (w.alloc (.cells (sumC 0 k) 81)).alloc (.cells (sumC 0 k) 81)=w1 at k0 k1 kB ⊢
 have x1:=k0.cell 1
 have x2:=k0.cell 2
 have x3:=k0.cell 3
 have x4:=k0.cell 4
 have x8:=k0.cell 8
 have y0:=k1.cell 0
 have y1:=k1.cell 1
 have y2:=k1.cell 2
 have y3:=k1.cell 3
 have y4:=k1.cell 4
 have y5:=k1.cell 5
 have y6:=k1.cell 6
 have y7:=k1.cell 7
 have y8:=k1.cell 8
 have f2:=k1.free 2
 have f4:=k1.free 4
 simp only[q'a,q'z,q's] at x1 x2 x3 x4 x8 y0 y1 y2 y3 y4 y5 y6 y7 y8
 clear k0 k1
 go_wp2_with (go_at_call 83;refine c'm (bits_any 0 _) ?_;rintro x w2 ⟨rfl,rfl⟩)
 exact ⟨rfl,rfl,(kB.setCell (p:=⟨w.heap.size+1,4,none⟩) (Nat.le_succ _) _)⟩
end Go.Proofs.YtcknpofnpabkiaaGreat
