/- A graph as it lies in memory. -/
import Derived.Test.YtcknpofnpabkiaaGreatInAA
import Derived.Test.YtcknpofnpabkiaaGreatInAZ
namespace Go.Lo
open Go.RowKit
def edgeCells (e:GEdge):List Value:=[.int .i64 e.dst,.int .u32 e.cost,.int .u32 e.data,.bool e.virt]
theorem edgeCells_len (e:GEdge):(edgeCells e).length=4:=rfl
structure NodeRow where
 node:GNode
 ev:Value
 sv:Value
def nodeCells (r:NodeRow):List Value:=[.bool r.node.network,.int .u32 r.node.id,.int .u32 r.node.netA,.int .u8 r.node.netB,.int .u8 r.node.flags,r.ev,r.sv]
theorem nodeCells_len (r:NodeRow):(nodeCells r).length=7:=rfl
def nodesOf (rows:List NodeRow):List GNode:=rows.map NodeRow.node
structure GraphAt (w:World) (B:Nat) (v:Value) (rows:List NodeRow):Prop where
 sl:Sl w B 7 v rows.length (rows.flatMap nodeCells)
 edges:∀ r∈rows,Sl w B 4 r.ev r.node.edges.length (r.node.edges.flatMap edgeCells)
 svs:∀ r∈rows,∃ A n c,r.sv=.slice A n c
theorem GraphAt.below {w w':World} {B:Nat} {v:Value} {rows:List NodeRow} (h:GraphAt w B v rows) (hb:Below B w w'):GraphAt w' B v rows:=
 ⟨h.sl.below hb,fun r hr=>(h.edges r hr).below hb,h.svs⟩
theorem GraphAt.more {w:World} {B B':Nat} {v:Value} {rows:List NodeRow} (h:GraphAt w B v rows) (hB:B≤B'):GraphAt w B' v rows:=
 ⟨h.sl.more hB,fun r hr=>(h.edges r hr).more hB,h.svs⟩
theorem esOf_rows {rows:List NodeRow} {i:Nat} (h:i<rows.length):esOf (nodesOf rows) i=rows[i].node.edges:=by
 rw[esOf_eq (by simpa[nodesOf] using h)];simp[nodesOf]
theorem nodesOf_len (rows:List NodeRow):(nodesOf rows).length=rows.length:=by simp[nodesOf]
def u64s (c:List Int):List Value:=c.map (Value.int .u64)
theorem u64s_get {c:List Int} {i:Nat} (h:i<c.length):(u64s c)[i]?=some (.int .u64 (at_ c i)):=by
 simp[u64s,at_,h]
theorem u64s_set (c:List Int) (i:Nat) (x:Int):(u64s c).set i (.int .u64 x)=u64s (c.set i x):=by simp[u64s,List.map_set]
end Go.Lo
