/- States as they lie in memory. -/
import Derived.Test.YtcknpofnpabkiaaGreatRpAP
import Derived.Test.YtcknpofnpabkiaaGreatRpAV
import Derived.Test.YtcknpofnpabkiaaGreatRpAT
import Derived.Test.YtcknpofnpabkiaaGreatRpAS
namespace Go.Proofs.YtcknpofnpabkiaaGreat
open Go.RowKit Go.Lo
theorem sl_len {w:World} {B s n c m:Nat} {A:Option Addr} {xs:List Value} (h:Sl w B s (.slice A n c) m xs):n=m:=by
 obtain ⟨-,A7,c7,h7,-⟩:=h
 injection h7
structure StV where
 h:OHead
 A:Option Addr
 len:Nat
 cap:Nat
def stL (x:StV):List Value:=[.int .u16 x.h.age,.int .u8 x.h.opts,.int .u8 x.h.type,.int .u32 x.h.id,.int .u32 x.h.adv,.int .i32 x.h.seq,.int .u16 x.h.sum,.int .u16 x.h.len,.slice x.A x.len x.cap]
theorem stL_len (x:StV):(stL x).length=9:=rfl
abbrev StG:=OHead × List Int
structure StatesIn (w:World) (B:Nat) (sv:Value) (S:List StG) (l:List StV):Prop where
 sl:Sl w B 9 sv l.length (l.flatMap stL)
 map:l.map (·.h)=S.map (·.1)
 bodies:∀ k (h:k<l.length) (h2:k<S.length),Sl w B 1 (.slice l[k].A l[k].len l[k].cap) S[k].2.length (S[k].2.map u8c)
theorem StatesIn.below {w w':World} {B:Nat} {sv:Value} {S:List StG} {l:List StV} (h:StatesIn w B sv S l) (hb:Below B w w'):StatesIn w' B sv S l:=⟨h.sl.below hb,h.map,fun k h1 h2=>(h.bodies k h1 h2).below hb⟩
theorem StatesIn.len {w:World} {B:Nat} {sv:Value} {S:List StG} {l:List StV} (h:StatesIn w B sv S l):l.length=S.length:=by
 have:=congrArg List.length h.map
 simpa using this
def StOk (x:StG):Prop:=HeadOk x.1∧x.2.length≤1099511627776∧∀ b∈x.2,0≤b∧b<256
theorem stT:ElT Tryz.prog 22 71 9 48:=⟨by kernel_rfl,by
 obtain ⟨i,hi,h1,h2,h3⟩:=info_parts (show (Tryz.prog.info? 71).map (fun i=>(i.zero,i.size,i.bytes))=some (some (.agg #[.int .u16 0,.int .u8 0,.int .u8 0,.int .u32 0,.int .u32 0,.int .i32 0,.int .u16 0,.int .u16 0,.slice none 0 0]),9,48) by kernel_rfl)
 exact ⟨i,_,hi,h1,h2,h3,rfl⟩,by omega⟩
abbrev StY:=StV × List Int
abbrev sL (y:StY):List Value:=stL y.1
def sOf (ys:List StY):List StG:=ys.map fun y=>(y.1.h,y.2)
theorem sOf_snoc (ys:List StY) (y:StY):sOf (ys++[y])=sOf ys++[(y.1.h,y.2)]:=by simp[sOf]
end Go.Proofs.YtcknpofnpabkiaaGreat
