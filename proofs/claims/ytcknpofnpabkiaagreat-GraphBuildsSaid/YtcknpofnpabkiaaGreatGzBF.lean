/- Copies of states. -/
import Derived.Test.YtcknpofnpabkiaaGreatGzAP
import Derived.Test.YtcknpofnpabkiaaGreatGzAI
import Derived.Test.YtcknpofnpabkiaaGreatGzAF
import Derived.Test.YtcknpofnpabkiaaGreatGzAE
namespace Go.Proofs.YtcknpofnpabkiaaGreat
open Go.RowKit Go.Lo
def bodySum (l:List StV):Int:=(l.map fun x=>(x.len:Int)).sum
theorem bodySum_snoc (l:List StV) (x:StV):bodySum (l++[x])=bodySum l+(x.len:Int):=by simp[bodySum]
theorem bodySum_le (l:List StV):0≤bodySum l∧∀ x∈l,(x.len:Int)≤bodySum l:=by
 induction l with
 | nil=>exact ⟨by simp[bodySum],fun x hx=>by cases hx⟩
 | cons a r ih =>
  have h1:bodySum (a :: r)=(a.len:Int)+bodySum r:=by simp[bodySum]
  refine ⟨by omega,fun x hx => ?_⟩
  rcases List.mem_cons.1 hx with rfl | hx
  ·omega
  ·have:=ih.2 x hx;omega
theorem stT:ElT Tryz.prog 22 71 9 48:=⟨by kernel_rfl,by
 obtain ⟨i,hi,h1,h2,h3⟩:=info_parts (show (Tryz.prog.info? 71).map (fun i=>(i.zero,i.size,i.bytes))=some (some (.agg #[.int .u16 0,.int .u8 0,.int .u8 0,.int .u32 0,.int .u32 0,.int .i32 0,.int .u16 0,.int .u16 0,.slice none 0 0]),9,48) by kernel_rfl)
 exact ⟨i,_,hi,h1,h2,h3,rfl⟩,by omega⟩
abbrev StY:=StV × List Int
abbrev sL (y:StY):List Value:=stL y.1
def sOf (ys:List StY):List StG:=ys.map fun y=>(y.1.h,y.2)
theorem sOf_snoc (ys:List StY) (y:StY):sOf (ys++[y])=sOf ys++[(y.1.h,y.2)]:=by simp[sOf]
set_option maxRecDepth 100000
set_option maxHeartbeats 1000000 in
theorem sizew_any (l:List StV) (sv:Value) (B:Nat) (w:World) (hl:Sl w B 9 sv l.length (l.flatMap stL)) (hn:l.length≤140737488355328) (hx:∀ x∈l,x.len≤140737488355328) :
  Calls Tryz.prog 30 #[sv] w fun e w'=>∃ n:Int,e=.returned (.int .i64 n)∧w'=w∧(n=20*(l.length:Int)+bodySum l∨2147483647<n):=by
 have hl0:=hl
 obtain ⟨-,A,c,rfl,-⟩:=hl
 go_enter Tryz.func30,Tryz.ntmps30
 have iw:IntKind.i64.wrap (20*(l.length:Int))=20*(l.length:Int):=IntWalk.i64_in _ (by omega)
 go_wp2_with fail
 go_loopg [3,4] l.length (fun m v i wr=>∃ (k:Nat) (nn:Int),k≤l.length∧m=l.length-k∧v=.int .i64 nn∧nn=20*(l.length:Int)+bodySum (l.take k)∧i=.int .i64 k∧wr=w)
 case atStart=>exact ⟨0,_,Nat.zero_le _,rfl,rfl,by simp[bodySum],rfl,rfl⟩
 case round =>
  obtain ⟨k,nn,hk,rfl,rfl,hns,rfl,rfl⟩:=hrel
  have h0:=(bodySum_le (l.take k)).1
  have hnn0:0≤nn:=by omega
  replace hns:=h'd hns
  by_cases hkl:k<l.length
  ·by_cases hnn:nn≤2147483647
   case neg =>
    have ik:(k:Int)<(l.length:Int):=by omega
    go_wp2_with fail
    go_ret
    exact ⟨nn,rfl,rfl,.inr (by omega)⟩
   obtain ⟨b,off,rfl,hb,hrow⟩:=Sl.row stL_len hl0 hkl
   have hxl:=hx l[k] (List.getElem_mem hkl)
   have htk:bodySum (l.take (k+1))=bodySum (l.take k)+(l[k].len:Int):=by rw[List.take_succ_eq_append_getElem hkl,bodySum_snoc]
   obtain ⟨x,hxx⟩:∃ x,x=l[k]:=⟨_,rfl⟩
   rw[←hxx] at hrow hxl htk
   clear hxx
   obtain ⟨xh,xA,xl,xc⟩:=x
   have q8:wr.cell? ⟨b,off+k*9+8,none⟩=some (.slice xA xl xc):=hrow 8 _ rfl
   replace htk:=h'd htk
   dsimp only at hxl
   have iw2:IntKind.i64.wrap (nn+(xl:Int))=nn+(xl:Int):=IntWalk.i64_in _ (by omega)
   have ik:(k:Int)<(l.length:Int):=by omega
   clear hrow h0
   go_wp2_with fail
   go_roundg (l.length-(k+1))
   case measure=>omega
   case rel=>exact ⟨k+1,nn+(xl:Int),by omega,rfl,rfl,by have h2:=htk.out;have h3:=hns.out;omega,by go_num,rfl⟩
  ·obtain rfl:k=l.length:=by omega
   have h3:=hns.out
   rw[List.take_length] at h3
   clear hns
   replace h3:=h'd h3
   have ik:¬ (l.length:Int)<(l.length:Int):=by omega
   go_wp2_with fail
   go_ret
   exact ⟨nn,rfl,rfl,.inl h3.out⟩
set_option maxHeartbeats 4000000 in
theorem heavy16_any (l:List StV) (sv:Value) (B:Nat) (w:World) (hl:Sl w B 9 sv l.length (l.flatMap stL)) (hn:l.length≤140737488355328) (hx:∀ x∈l,x.len≤140737488355328) :
  Calls Tryz.prog 9 #[sv] w fun e w'=>∃ q:Bool,e=.returned (.bool q)∧w'=w∧(q=false→l.length≤60∧∀ x∈l,x.len≤16384):=by
 have hl0:=hl
 obtain ⟨-,A,c,rfl,-⟩:=hl
 have hle:=bodySum_le l
 by_cases h60:60<l.length
 ·have h60':(60:Int)<(l.length:Int):=by omega
  go_enter Tryz.func9,Tryz.ntmps9
  go_wp2_with fail
  go_ret
  exact ⟨true,rfl,rfl,fun h=>by cases h⟩
 ·have h60':¬ (60:Int)<(l.length:Int):=by omega
  have CS:=h'd (sizew_any l _ B w hl0 (by omega) hx)
  go_enter Tryz.func9,Tryz.ntmps9
  go_wp2_with (go_at_call 30;refine Calls.mono CS.out ?_;rintro e w2 ⟨n,rfl,rfl,hn2⟩)
  go_ret
  refine ⟨decide (16384<n),rfl,rfl,fun h => ?_⟩
  have h4:=of_decide_eq_false h
  exact ⟨by omega,fun x hx=>by have:=hle.2 x hx;omega⟩
end Go.Proofs.YtcknpofnpabkiaaGreat
