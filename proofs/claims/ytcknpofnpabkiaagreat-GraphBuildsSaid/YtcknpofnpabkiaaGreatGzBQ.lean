/- A region that draws its order and only reads, whose callees leave all that was there as it was: ONE walk, in the order of the text. No theorem of the program stands here. -/
import Derived.BigQuiet
import Derived.Test.YtcknpofnpabkiaaGreatGzAA
namespace Go.Lo
open Go.RowKit
structure Ext (w:World) where
 val:World
 prop:Below w.heap.size w val
instance {w:World}:Nonempty (Ext w):=⟨⟨w,Below.refl _ _⟩⟩
theorem Ext.cell {w:World} (n:Ext w) {p:Addr} {v:Option Value} (h:w.cell? p=v) (hp:p.block<w.heap.size):n.val.cell? p=v:=(n.prop.cell hp).trans h
theorem ext_call {P:Program} {f:FuncId} {args:Array Value} {w:World} {n:Ext w} {v:Value} (h:Calls P f args n.val fun e w'=>e=.returned v∧Below n.val.heap.size n.val w'):Calls P f args n.val fun e w'=>e=.returned v∧∃ m:Ext w,w'=m.val:=
 Calls.mono h fun _ w' ⟨h1,h2⟩=>⟨h1,⟨w',n.prop.trans (h2.mono n.prop.size)⟩,rfl⟩
theorem wp_region_ext {P:Program} {id:Nat} {Q:Exit→Act→World→Prop} {a:Act} {w:World} {l:List Oper} (hm:P.follows .mixedOrders=true) (hB:Region.lexB .any l.toArray=true)
  (h:wpQuiet P l.toArray (fun w'=>∃ n:Ext w,w'=n.val) (fun a'=>∀ w',(∃ n:Ext w,w'=n.val)→Q .normal a' w') l a):(Code.region id l.toArray true).wp P Q a w:=
 wp_region_quiet (C:=fun w'=>∃ n:Ext w,w'=n.val) hm hB ⟨⟨_,(Below.refl _ _).drew⟩,rfl⟩ (by simpa using h)
end Go.Lo
