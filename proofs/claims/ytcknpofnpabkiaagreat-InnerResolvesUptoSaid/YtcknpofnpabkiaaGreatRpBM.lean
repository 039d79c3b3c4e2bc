/- lodestarlaw16's two: two routers on one network, encoded. No condition. -/
import Derived.Test.YtcknpofnpabkiaaGreatRpBA
import Derived.Test.YtcknpofnpabkiaaGreatRpBL
import Derived.Test.YtcknpofnpabkiaaGreatRpBJ
import Derived.Test.YtcknpofnpabkiaaGreatRpBI
namespace Go.Proofs.YtcknpofnpabkiaaGreat
open Go.RowKit Go.Lo
theorem addP_sh (bs:List Int) (c:Int × Int) (h:0<bs.length) (h2:bs.length≤4000):addP bs c=modC (addL bs c):=by
 rw[addP_step bs c h,List.drop_eq_nil_of_le h2,addP_nil,List.take_of_length_le h2]
def bodyA:List Int:=[0,0,0,1,10,0,0,2,10,0,0,1,2,0,0,3]
def bodyB:List Int:=[0,0,0,1,10,0,0,2,10,0,0,2,2,0,0,5]
def bodyN:List Int:=[255,255,255,0,0,0,0,2,0,0,0,1]
abbrev headA:OHead:=⟨0,0,1,1,1,1,22881,36⟩
abbrev headB_:OHead:=⟨0,0,1,2,2,1,31546,36⟩
abbrev headN:OHead:=⟨0,0,2,167772162,2,1,41258,32⟩
theorem headOkA:HeadOk ⟨0,0,((1:Nat):Int),1,1,1,0,0⟩:=⟨by decide,by decide,by decide,by decide,by decide,by decide,by decide,by decide⟩
theorem headOkB:HeadOk ⟨0,0,((1:Nat):Int),2,2,1,0,0⟩:=⟨by decide,by decide,by decide,by decide,by decide,by decide,by decide,by decide⟩
def S3:List StG:=[(headN,bodyN),(headB_,bodyB),(headA,bodyA)]
theorem rsize1 (A:Option Addr) (c:Nat) (m:Int) (w:World):Calls Tryz.prog 107 #[.int .u8 1,.agg #[.int .u8 0,.slice A 1 c,.int .u32 m,.slice none 0 0,.int .u32 0,.bool false,.int .u32 0,.int .u32 0,.slice none 0 0]] w fun x w'=>x=.returned (.int .i64 16)∧Below w.heap.size w w':=by
 have hB:Below w.heap.size w (w.alloc (.cells #[.int .u8 0,.slice A 1 c,.int .u32 m,.slice none 0 0,.int .u32 0,.bool false,.int .u32 0,.int .u32 0,.slice none 0 0] 81)):=(b'r _ _).alloc (n'r _) _
 go_enter Tryz.func107,Tryz.ntmps107
 go_wp2
 go_ret
 exact ⟨rfl,hB⟩
set_option maxRecDepth 100000
theorem GrO.call {w w':World} {base:Nat} {nv:Value} {rows:List NodR} (h:GrO w base nv rows) (hb:Below w.heap.size w w'):GrO w' base nv rows:=⟨own_below h.nods hb,fun r hr=>own_below (h.edges r hr) hb,fun r hr=>own_below (h.stubs r hr) hb⟩
def isN_ (net:Bool) (id:Int) (r:NodR):Bool:=r.n.network==net && r.n.id==id
theorem findF_any (r:NodR) (net:Bool) (id:Int) (p q:Nat) (w:World) (hp:w.cell? ⟨p,0,none⟩=some (.bool net)) (hq:w.cell? ⟨q,0,none⟩=some (.int .u32 id)) (hpl:p<w.heap.size) (hql:q<w.heap.size) :
  Calls Tryz.prog 47 #[.agg (nodC r).toArray,.pointer (some ⟨p,0,none⟩),.pointer (some ⟨q,0,none⟩)] w fun e w'=>e=.returned (.bool (isN_ net id r))∧Below w.heap.size w w':=by
 obtain ⟨⟨x0,x1,x2,x3,x4,x5,x6⟩,ev,sv⟩:=r
 dsimp only[nodC,isN_]
 have hB:Below w.heap.size w (w.alloc (.cells #[.bool x0,.int .u32 x1,.int .u32 x2,.int .u8 x3,.int .u8 x4,ev,sv] 63)):=(b'r _ _).alloc (n'r _) _
 have k0:=Blk.new w 63 #[.bool x0,.int .u32 x1,.int .u32 x2,.int .u8 x3,.int .u8 x4,ev,sv]
 have hp1:=(hB.cell (p:=⟨p,0,none⟩) hpl).trans hp
 have hq1:=(hB.cell (p:=⟨q,0,none⟩) hql).trans hq
 have c0:=k0.cell 0
 have c1:=k0.cell 1
 simp only[q'a,q'z,q's] at c0 c1
 cases e1:(x0==net) <;> cases e2:(x1==id)
 all_goals
  go_enter Tryz.func47,Tryz.ntmps47
  go_upto_region 1 with fail
  generalize w.alloc (.cells #[.bool x0,.int .u32 x1,.int .u32 x2,.int .u8 x3,.int .u8 x4,ev,sv] 63)=w1 at *
  go_wp2
  go_ret
  exact ⟨rfl,hB⟩
theorem gfind_any (net:Bool) (id:Int) (base:Nat) (nv:Value) (rows:List NodR) (w:World) (h:GrO w base nv rows) (hn:rows.length≤1000000) :
  Calls Tryz.prog 15 #[nv,.bool net,.int .u32 id] w fun e w'=>e=.returned (.int .i64 (idxI (rows.findIdx? (isN_ net id))))∧Below w.heap.size w w':=by
 obtain ⟨w1,hw1⟩:∃ w1,w1=(w.alloc (.cells #[.bool net] 4)).alloc (.cells #[.int .u32 id] 23):=⟨_,rfl⟩
 have k0:Blk w1 w.heap.size 4 #[.bool net]:=by rw[hw1];exact (Blk.new _ _ _).alloc _
 have k1:Blk w1 (w.heap.size+1) 23 #[.int .u32 id]:=by rw[hw1];exact Blk.new_ _ (by simp)
 have kB:Below w.heap.size w w1:=by rw[hw1];exact ((b'r _ _).alloc (n'r _) _).alloc (by simp) _
 have c0:=k0.cell 0
 have c1:=k1.cell 0
 simp only[q'a,q'z] at c0 c1
 have C:=idxNode_any nodC nodC_len (isN_ net id) 47 (.pointer (some ⟨w.heap.size,0,none⟩)) (.pointer (some ⟨w.heap.size+1,0,none⟩)) rows nv w1.heap.size w1 (Sl.of_own (own_below h.nods kB)) (n'r _) hn (enters_of Tryz.func47 (by kernel_rfl) rfl)
  (fun x _ W hW=>findF_any x net id _ _ W ((hW.cell (p:=⟨w.heap.size,0,none⟩) k0.lt).trans c0) ((hW.cell (p:=⟨w.heap.size+1,0,none⟩) k1.lt).trans c1) (Nat.lt_of_lt_of_le k0.lt hW.size) (Nat.lt_of_lt_of_le k1.lt hW.size))
 replace C:=h'd C
 clear k0 k1 c0 c1
 go_enter Tryz.func15,Tryz.ntmps15
 go_upto_region 1 with fail
 rw[←hw1]
 clear hw1
 go_wp2_with (go_at_call 46;refine c'm C.out ?_;rintro e w2 ⟨rfl,hB2⟩)
 go_ret
 exact ⟨rfl,kB.trans (hB2.mono kB.size)⟩
theorem own_max {w:World} {b s n:Nat} {e:TypeId} {v:Value} {xs:List Value} (h:w.ownsRow b e s v n xs):n≤9223372036854775807:=by
 rcases h.2 with ⟨_,h0⟩ | ⟨g,cap,cur,rfl,_,_,hnc,hcm,_⟩
 ·omega
 ·simp only[maxLen] at hcm
  omega
end Go.Proofs.YtcknpofnpabkiaaGreat
