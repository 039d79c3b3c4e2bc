/- Graphs as plain data. -/
import Derived.Test.YtcknpofnpabkiaaGreatGzAA
namespace Go.Lo
structure GEdge where
 dst:Int
 cost:Int
 data:Int
 virt:Bool
def far:Int:=4294967296
def at_ (c:List Int) (i:Nat):Int:=c.getD i far
def sumC (c:List Int):Nat:=(c.map Int.toNat).sum
end Go.Lo
