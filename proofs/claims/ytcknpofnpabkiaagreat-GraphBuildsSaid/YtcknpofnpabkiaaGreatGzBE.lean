/- Hops are joined; numbers are compared; ways as rows. -/
import Derived.Test.YtcknpofnpabkiaaGreatProg
import Derived.Laws.StructEq
import Derived.StillTailTactics
import Derived.Test.YtcknpofnpabkiaaGreatGzAA
set_option maxRecDepth 100000
namespace Go.Proofs.YtcknpofnpabkiaaGreat
open Go.RowKit Go.Lo
end Go.Proofs.YtcknpofnpabkiaaGreat
namespace Go.Lo
open Go.RowKit
def cmpI (a b:Int):Int:=if a<b then -1 else if b<a then 1 else 0
def orI:List Int→Int
 | []=>0
 | x :: r=>if x=0 then orI r else x
theorem orI_all:∀ (l:List Int),(∀ i (h:i<l.length),l[i]=0)→orI l=0
 | [],_=>rfl
 | x :: r,h=>by
  have h0:=h 0 (by simp)
  simp only[List.getElem_cons_zero] at h0
  unfold orI
  rw[if_pos h0]
  exact orI_all r fun i hi=>by have:=h (i+1) (by simpa using hi);simpa using this
theorem orI_at:∀ (l:List Int) (k:Nat) (hk:k<l.length),(∀ i (h:i<l.length),i<k→l[i]=0)→l[k]≠0→orI l=l[k]
 | x :: r,0,_,_,hx=>by
  simp only[List.getElem_cons_zero] at hx ⊢
  unfold orI
  rw[if_neg hx]
 | x :: r,k+1,hk,h,hx=>by
  have h0:=h 0 (by simp) (by omega)
  simp only[List.getElem_cons_zero] at h0
  simp only[List.getElem_cons_succ] at hx ⊢
  unfold orI
  rw[if_pos h0]
  exact orI_at r k (by simpa using hk) (fun i hi hik=>by have:=h (i+1) (by simpa using hi) (by omega);simpa using this) hx
end Go.Lo
namespace Go.Proofs.YtcknpofnpabkiaaGreat
open Go.RowKit Go.Lo
theorem isNaN32_any (a:Int) (w:World):Calls Tryz.prog 117 #[.int .u32 a] w fun e w'=>e=.returned (.bool false)∧w'=w:=by
 go_enter Tryz.func117,Tryz.ntmps117
 go_wp2
 go_ret
 exact ⟨by simp,rfl⟩
theorem isNaN8_any (a:Int) (w:World):Calls Tryz.prog 116 #[.int .u8 a] w fun e w'=>e=.returned (.bool false)∧w'=w:=by
 go_enter Tryz.func116,Tryz.ntmps116
 go_wp2
 go_ret
 exact ⟨by simp,rfl⟩
theorem compare32_any (a b:Int) (w:World):Calls Tryz.prog 73 #[.int .u32 a,.int .u32 b] w fun e w'=>e=.returned (.int .i64 (cmpI a b))∧w'=w:=by
 unfold cmpI
 rcases Int.lt_trichotomy a b with h | h | h
 ·rw[if_pos h]
  go_enter Tryz.func73,Tryz.ntmps73
  go_wp2_with (go_at_call 117;refine Calls.mono (isNaN32_any _ _) ?_;rintro e w1 ⟨rfl,rfl⟩)
  go_ret
  exact ⟨rfl,rfl⟩
 ·have h1:¬ a<b:=by omega
  have h2:¬ b<a:=by omega
  rw[if_neg h1,if_neg h2]
  go_enter Tryz.func73,Tryz.ntmps73
  go_wp2_with (go_at_call 117;refine Calls.mono (isNaN32_any _ _) ?_;rintro e w1 ⟨rfl,rfl⟩)
  go_ret
  exact ⟨rfl,rfl⟩
 ·have h1:¬ a<b:=by omega
  rw[if_neg h1,if_pos h]
  go_enter Tryz.func73,Tryz.ntmps73
  go_wp2_with (go_at_call 117;refine Calls.mono (isNaN32_any _ _) ?_;rintro e w1 ⟨rfl,rfl⟩)
  go_ret
  exact ⟨rfl,rfl⟩
theorem compare8_any (a b:Int) (w:World):Calls Tryz.prog 72 #[.int .u8 a,.int .u8 b] w fun e w'=>e=.returned (.int .i64 (cmpI a b))∧w'=w:=by
 unfold cmpI
 rcases Int.lt_trichotomy a b with h | h | h
 ·rw[if_pos h]
  go_enter Tryz.func72,Tryz.ntmps72
  go_wp2_with (go_at_call 116;refine Calls.mono (isNaN8_any _ _) ?_;rintro e w1 ⟨rfl,rfl⟩)
  go_ret
  exact ⟨rfl,rfl⟩
 ·have h1:¬ a<b:=by omega
  have h2:¬ b<a:=by omega
  rw[if_neg h1,if_neg h2]
  go_enter Tryz.func72,Tryz.ntmps72
  go_wp2_with (go_at_call 116;refine Calls.mono (isNaN8_any _ _) ?_;rintro e w1 ⟨rfl,rfl⟩)
  go_ret
  exact ⟨rfl,rfl⟩
 ·have h1:¬ a<b:=by omega
  rw[if_neg h1,if_pos h]
  go_enter Tryz.func72,Tryz.ntmps72
  go_wp2_with (go_at_call 116;refine Calls.mono (isNaN8_any _ _) ?_;rintro e w1 ⟨rfl,rfl⟩)
  go_ret
  exact ⟨rfl,rfl⟩
theorem or_any (l:List Int) (b c:Nat) (w:World) (hn:l.length≤1000) (hb:∀ i (h:i<l.length),w.cell? ⟨b,i,none⟩=some (.int .i64 l[i])) :
  Calls Tryz.prog 71 #[.slice (some ⟨b,0,none⟩) l.length c] w fun e w'=>e=.returned (.int .i64 (orI l))∧w'=w:=by
 replace hb:=h'd hb
 go_enter Tryz.func71,Tryz.ntmps71
 go_wp2_with fail
 go_loopg [8] l.length (fun m v wr=>∃ k:Nat,k≤l.length∧m=l.length-k∧v=.int .i64 k∧(∀ i (h:i<l.length),i<k→l[i]=0)∧wr=w)
 case atStart=>exact ⟨0,Nat.zero_le _,rfl,rfl,fun _ _ h=>absurd h (by omega),rfl⟩
 case round =>
  obtain ⟨k,hk,rfl,rfl,hz,rfl⟩:=hrel
  replace hz:=h'd hz
  by_cases hkl:k<l.length
  ·have ik:(k:Int)<(l.length:Int):=by omega
   have hc:=hb.out k hkl
   obtain ⟨x,hx⟩:∃ x,x=l[k]:=⟨_,rfl⟩
   rw[←hx] at hc
   by_cases h0:x=0
   ·subst h0
    replace hx:=h'd hx
    go_wp2
    go_roundg (l.length-(k+1))
    case measure=>omega
    case rel=>exact ⟨k+1,by omega,rfl,by go_num,fun i hi hik=>by
           by_cases e:i=k
           ·subst e;exact hx.out.symm
           ·exact hz.out i hi (by omega),rfl⟩
   ·have h0':(x==0)=false:=by simp[h0]
    have hr:=orI_at l k hkl hz.out (by rw[←hx];exact h0)
    rw[←hx] at hr
    replace hr:=h'd hr
    clear hx
    go_wp2
    go_ret
    exact ⟨by rw[hr.out];rfl,rfl⟩
  ·have ik:¬ (k:Int)<(l.length:Int):=by omega
   have hr:=orI_all l fun i hi=>hz.out i hi (by omega)
   go_wp2
   go_ret
   exact ⟨rfl,rfl⟩
end Go.Proofs.YtcknpofnpabkiaaGreat
namespace Go.Lo
open Go.RowKit
end Go.Lo
namespace Go.Proofs.YtcknpofnpabkiaaGreat
open Go.RowKit Go.Lo
end Go.Proofs.YtcknpofnpabkiaaGreat
