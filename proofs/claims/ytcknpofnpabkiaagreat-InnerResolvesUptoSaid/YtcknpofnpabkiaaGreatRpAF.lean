/- Rows of structs are sorted (third part). -/
import Derived.Test.YtcknpofnpabkiaaGreatRpAD
import Derived.Test.YtcknpofnpabkiaaGreatRpAE
set_option maxRecDepth 100000
namespace Go.Proofs.YtcknpofnpabkiaaGreat
open Go.RowKit Go.Lo
section
variable {α:Type} [Inhabited α] {enc:α→List Value} (E:RowE enc 10)
variable {F:FuncId}
def brk (a l:Nat) (st:UInt64 × Array α) (idx:Nat):Nat→UInt64 × Array α
 | 0=>st
 | k+1=>Sort.breakStep a l (1 <<< Sort.bitsLen l) (brk a l st idx k) (idx+k)
theorem brk_size (a l:Nat) (st:UInt64 × Array α) (idx k:Nat):(brk a l st idx k).2.size=st.2.size:=by
 induction k with
 | zero=>rfl
 | succ k ih =>
  unfold brk Sort.breakStep
  simp only
  rw[Sort.size_swp,ih]
theorem brk_eq (d:Array α) (a b l:Nat) (hl:l=b-a) (h8:12<l):Sort.breakPatterns d a b=(brk a l (UInt64.ofNat l,d) (a+l / 4*2-1) 3).2:=by
 subst hl
 unfold Sort.breakPatterns
 simp only
 rw[if_pos (by omega)]
 rfl
theorem pow_bits (l:Nat) (h:0<l):1 <<< Sort.bitsLen l≤2*l∧1≤1 <<< Sort.bitsLen l:=by
 rw[Nat.one_shiftLeft]
 refine ⟨?_,Nat.one_le_two_pow⟩
 have hb:¬ Sort.bitsLen l≤0:=fun hc=>by have:=(Sort.bitsLen_le_iff l 0).1 hc;omega
 have h1:¬ Sort.bitsLen l≤Sort.bitsLen l-1:=by omega
 have h2:¬ l<2 ^ (Sort.bitsLen l-1):=fun hc=>h1 ((Sort.bitsLen_le_iff l _).2 hc)
 obtain ⟨k,hk⟩:∃ k,Sort.bitsLen l=k+1:=⟨Sort.bitsLen l-1,by omega⟩
 rw[hk] at h2 ⊢
 rw[Nat.pow_succ]
 simp at h2
 omega
include E
set_option maxHeartbeats 4000000 in
theorem brkC_any (g n cap:Nat) (rest:List Value) (d:Array α) (a b:Nat) (w:World) (h:RowC enc 48 w g rest d w) (hd:d.size=n) (hl:12<b-a) (hb:b≤n) (hn:n≤1099511627776) :
  Calls Tryz.prog 168 #[.slice (some ⟨g,0,none⟩) n cap,.int .i64 a,.int .i64 b,.func (.func F) #[] #[]] w (RowPC enc w g rest (Sort.breakPatterns d a b)):=by
 have hg:g<w.heap.size:=h.blk.lt
 obtain ⟨l,hle⟩:∃ l,l=b-a:=⟨_,rfl⟩
 obtain ⟨T,hT⟩:∃ T,T=Sort.breakPatterns d a b:=⟨_,rfl⟩
 rw[←hT]
 rw[brk_eq d a b l hle (by omega)] at hT
 obtain ⟨q,hq⟩:∃ q,q=l / 4:=⟨_,rfl⟩
 rw[←hq] at hT
 obtain ⟨x0,hx0⟩:∃ x,x=a+q*2-1:=⟨_,rfl⟩
 rw[←hx0] at hT
 obtain ⟨m,hm⟩:∃ m,m=1 <<< Sort.bitsLen l:=⟨_,rfl⟩
 obtain ⟨hm1,hm2⟩:=pow_bits l (by omega)
 rw[←hm] at hm1 hm2
 have el:(b:Int)-(a:Int)=(l:Int):=by omega
 have ew:IntKind.i64.wrap (l:Int)=(l:Int):=IntWalk.i64_in _ (by omega)
 have eu:IntKind.u64.wrap (l:Int)=(l:Int):=by rw[IntKind.wrap_u64];omega
 have eq4:Int.tdiv (l:Int) 4=(q:Int):=by rw[hq,Int.tdiv_eq_ediv_of_nonneg (by omega)];omega
 have h8:(8:Int)≤(l:Int):=by omega
 have s1:(a:Int)+(q:Int)*2-1=(x0:Int):=by omega
 have bx:x0+3≤n∧a≤x0∧x0+2<b∧a+q*2=x0+1:=by omega
 have al:a+l=b:=by omega
 have NP:=npot_any l (by omega)
 rw[←hm] at NP
 have hk1:Blk (w.alloc (.cells #[.int .u64 l] 265)) w.heap.size 265 #[.int .u64 l]:=Blk.new _ _ _
 have hr1:=h.alloc (.cells #[.int .u64 l] 265)
 have hl12:12<l:=by omega
 have hln:l≤n:=by omega
 clear hle hq hx0 hl h
 replace hT:=h'd hT
 replace NP:=h'd NP
 replace hm:=h'd hm
 replace E:=h'd E
 go_enter Tryz.func168,Tryz.ntmps168
 go_upto_region 4 with (go_at_call 180;refine c'm (NP.out _) ?_;rintro e w1 ⟨rfl,rfl⟩)
 generalize (w.alloc (.cells #[.int .u64 l] 265))=w1 at *
 go_wp2_with fail
 go_loopg [11] 3 (fun mm v wr=>∃ (k X:Nat) (D:Array α),k≤3∧mm=3-k∧v=.int .i64 ((x0+k:Nat):Int)∧(brk a l (UInt64.ofNat l,d) x0 k).1.toNat=X∧(brk a l (UInt64.ofNat l,d) x0 k).2=D∧RowC enc 48 w g rest D wr∧Blk wr w.heap.size 265 #[.int .u64 X])
 case atStart=>exact ⟨0,l,d,by omega,rfl,congrArg (Value.int .i64) (by omega),(by show (UInt64.ofNat l).toNat=l;simp;omega),rfl,hr1,hk1⟩
 case round =>
  clear hr1 hk1 s1
  obtain ⟨k,X,D,hk3,hmm,rfl,hX,hD,hR,hK⟩:=hrel
  obtain ⟨w2,rfl⟩:∃ x:World,x=wr:=⟨_,rfl⟩
  replace hmm:=h'd hmm
  have hDn:D.size=n:=by rw[←hD,brk_size];exact hd
  by_cases hk:k<3
  ·have hXl:X<18446744073709551616:=by rw[←hX];exact UInt64.toNat_lt _
   obtain ⟨Y,hY⟩:∃ Y,Y=Sort.xorNextN X:=⟨_,rfl⟩
   have hYl:Y<18446744073709551616:=by rw[hY];exact Sort.xorNextN_lt X hXl
   obtain ⟨o,ho⟩:∃ o,o=Y &&& (m-1):=⟨_,rfl⟩
   have hol:o≤m-1:=by rw[ho];exact Nat.and_le_right
   have eo1:IntKind.u64.wrap ((m:Int)-1)=((m-1:Nat):Int):=by rw[IntKind.wrap_u64];omega
   have eo2:bits .and .u64 (Y:Int) ((m-1:Nat):Int)=(o:Int):=by rw[bits_and_u64_nat _ _ hYl (by omega),ho]
   have eo3:IntKind.i64.wrap (o:Int)=(o:Int):=IntWalk.i64_in _ (by omega)
   obtain ⟨o2,ho2⟩:∃ o2,o2=if o≥l then o-l else o:=⟨_,rfl⟩
   have hstep:brk a l (UInt64.ofNat l,d) x0 (k+1)=(Sort.xorNext (brk a l (UInt64.ofNat l,d) x0 k).1,Sort.swp D (x0+k) (a+o2)):=by
    conv=>lhs;unfold brk Sort.breakStep
    simp only
    rw[Sort.xorNext_toNat,hX,←hY,←hm.out,←ho,←ho2,hD]
   have hXn:(brk a l (UInt64.ofNat l,d) x0 (k+1)).1.toNat=Y:=by
    rw[hstep]
    show (Sort.xorNext _).toNat=Y
    rw[Sort.xorNext_toNat,hX,hY]
   have hDn2:(brk a l (UInt64.ofNat l,d) x0 (k+1)).2=Sort.swp D (x0+k) (a+o2):=by rw[hstep]
   have NX:=next32_any w.heap.size X hXl w2 hK
   rw[←hY] at NX
   have hR3:=(hR.far (p:=⟨w.heap.size,0,none⟩) (n'r _) hg (.int .u64 (Y:Int))).drewN 3
   have hK3:Blk ((w2.setCell ⟨w.heap.size,0,none⟩ (.int .u64 (Y:Int))).drewN 3) w.heap.size 265 #[.int .u64 Y]:=hK.set_ 0 _
   have dc:((x0+k:Nat):Int)≤(a:Int)+(q:Int)*2+1:=by omega
   have dc2:(x0:Int)+(k:Int)≤(a:Int)+(q:Int)*2+1:=by omega
   have hi1:x0+k<n:=by omega
   replace NX:=h'd NX
   replace hXn:=h'd hXn
   replace hDn2:=h'd hDn2
   replace hR3:=h'd hR3
   replace hK3:=h'd hK3
   clear hstep hX hD hR hK hY ho eo3
   have eo3:IntKind.i64.wrap (o:Int)=(o:Int):=IntWalk.i64_in _ (by omega)
   go_upto_region 8 with (go_at_call 181;refine c'm NX.out ?_;rintro e w3 ⟨rfl,rfl⟩)
   clear dc dc2 eo1 eo2 NX
   generalize ((w2.setCell ⟨w.heap.size,0,none⟩ (.int .u64 (Y:Int))).drewN 3)=w4 at *
   by_cases hge:o≥l
   ·rw[if_pos hge] at ho2
    have g1:(l:Int)≤(o:Int):=by omega
    have g2:(o:Int)-(l:Int)=(o2:Int):=by omega
    have h2l:o2<l:=by omega
    clear ho2
    have h:=hR3.out
    have wA:IntKind.i64.wrap ((a:Int)+(o2:Int))=(a:Int)+(o2:Int):=IntWalk.i64_in _ (by omega)
    have z1:(0:Int)≤(a:Int)+(o2:Int):=by omega
    have z2:(a:Int)+(o2:Int)<(n:Int):=by omega
    have z3:((a:Int)+(o2:Int)).toNat=a+o2:=by omega
    have z4:(x0:Int)+(k:Int)<(n:Int):=by omega
    have z5:(0:Int)≤(x0:Int)+(k:Int):=by omega
    have z6:((x0:Int)+(k:Int)).toNat=x0+k:=by omega
    go_upto_region 10 with fail
    obtain ⟨W1,W2,s1,s2,hsw,hfar⟩:=h.drew.swpK E.out wRowT (i:=x0+k) (j:=a+o2) (by omega) (by omega)
    have e1:=h.drew.load E.out wRowT (i:=a+o2) (by omega) _ rfl
    have e0:=h.drew.load E.out wRowT (i:=x0+k) (by omega) _ rfl
    have hsz:=Sort.size_swp D (x0+k) (a+o2)
    replace hsw:=h'd hsw
    replace hsz:=h'd hsz
    clear h
    generalize (enc D[x0+k]!).toArray=xa at *
    generalize (enc D[a+o2]!).toArray=xb at *
    refine wp_region_swp 17 19 [some 49,some 50,some 51,some 52,some 53,some 54,some 55,some 56,some 57,some 58,some 59,some 60,some 61,some 62,some 63,some 64,some 65,none,some 66,none] [.slice (some ⟨g,0,none⟩) n cap,.int .i64 ((x0:Int)+(k:Int)),.slice (some ⟨g,0,none⟩) n cap,.int .i64 a,.int .i64 o2,.int .i64 ((a:Int)+(o2:Int)),.slice (some ⟨g,0,none⟩) n cap,.int .i64 a,.int .i64 o2,.int .i64 ((a:Int)+(o2:Int)),.pointer (some ⟨g,(a+o2)*10,none⟩),.agg xb,.slice (some ⟨g,0,none⟩) n cap,.int .i64 ((x0:Int)+(k:Int)),.pointer (some ⟨g,(x0+k)*10,none⟩),.agg xa,.pointer (some ⟨g,(x0+k)*10,none⟩),undef,.pointer (some ⟨g,(a+o2)*10,none⟩),undef] W1 W2 ?A1 ?hA1 (by kernel_rfl) rfl (by kernel_rfl) (by kernel_rfl) (by kernel_rfl) ?hrun1 48 48 (.tmp 65) (.tmp 60) (.tmp 66) (.tmp 64) rfl rfl ?hs1 ?ht1 ?hf1
    case hA1=>simp only[putL,Act.put,s'a,s'z,s's];rfl
    case hs1=>exact s1
    case ht1=>exact s2
    case hrun1 =>
     simp only[RunL,RunOp]
     clear hsw hfar
     have hbA:((x0+k:Nat):Int)<(n:Int):=by omega
     have hbB:((a+o2:Nat):Int)<(n:Int):=by omega
     clear hsz
     refine ⟨fun W=>rfl,?_,fun W=>rfl,fun W=>rfl,?_,?_,fun W=>rfl,fun W=>rfl,?_,?_,?_,e1,fun W=>rfl,?_,?_,e0,?_,trivial,?_,trivial,trivial⟩
     all_goals (intro W;go_simp)
    clear s1 s2 e0 e1 W1
    have hK5:=hK3.out.drew_.same (hfar w.heap.size (by show w.heap.size≠g;omega))
    replace hK5:=h'd hK5
    go_wp2_with fail
    go_roundg (3-(k+1))
    case measure=>have:=hmm.out;omega
    case rel=>exact ⟨k+1,Y,Sort.swp D (x0+k) (a+o2),by omega,rfl,congrArg (Value.int .i64) (by omega),hXn.out,hDn2.out,hsw.out,hK5.out⟩
   ·rw[if_neg hge] at ho2
    have g1:¬ (l:Int)≤(o:Int):=by omega
    subst ho2
    have h2l:o2<l:=by omega
    have h:=hR3.out
    have wA:IntKind.i64.wrap ((a:Int)+(o2:Int))=(a:Int)+(o2:Int):=IntWalk.i64_in _ (by omega)
    have z1:(0:Int)≤(a:Int)+(o2:Int):=by omega
    have z2:(a:Int)+(o2:Int)<(n:Int):=by omega
    have z3:((a:Int)+(o2:Int)).toNat=a+o2:=by omega
    have z4:(x0:Int)+(k:Int)<(n:Int):=by omega
    have z5:(0:Int)≤(x0:Int)+(k:Int):=by omega
    have z6:((x0:Int)+(k:Int)).toNat=x0+k:=by omega
    go_upto_region 10 with fail
    obtain ⟨W1,W2,s1,s2,hsw,hfar⟩:=h.drew.swpK E.out wRowT (i:=x0+k) (j:=a+o2) (by omega) (by omega)
    have e1:=h.drew.load E.out wRowT (i:=a+o2) (by omega) _ rfl
    have e0:=h.drew.load E.out wRowT (i:=x0+k) (by omega) _ rfl
    have hsz:=Sort.size_swp D (x0+k) (a+o2)
    replace hsw:=h'd hsw
    replace hsz:=h'd hsz
    clear h
    generalize (enc D[x0+k]!).toArray=xa at *
    generalize (enc D[a+o2]!).toArray=xb at *
    refine wp_region_swp 17 19 [some 49,some 50,some 51,some 52,some 53,some 54,some 55,some 56,some 57,some 58,some 59,some 60,some 61,some 62,some 63,some 64,some 65,none,some 66,none] [.slice (some ⟨g,0,none⟩) n cap,.int .i64 ((x0:Int)+(k:Int)),.slice (some ⟨g,0,none⟩) n cap,.int .i64 a,.int .i64 o2,.int .i64 ((a:Int)+(o2:Int)),.slice (some ⟨g,0,none⟩) n cap,.int .i64 a,.int .i64 o2,.int .i64 ((a:Int)+(o2:Int)),.pointer (some ⟨g,(a+o2)*10,none⟩),.agg xb,.slice (some ⟨g,0,none⟩) n cap,.int .i64 ((x0:Int)+(k:Int)),.pointer (some ⟨g,(x0+k)*10,none⟩),.agg xa,.pointer (some ⟨g,(x0+k)*10,none⟩),undef,.pointer (some ⟨g,(a+o2)*10,none⟩),undef] W1 W2 ?A2 ?hA2 (by kernel_rfl) rfl (by kernel_rfl) (by kernel_rfl) (by kernel_rfl) ?hrun2 48 48 (.tmp 65) (.tmp 60) (.tmp 66) (.tmp 64) rfl rfl ?hs2 ?ht2 ?hf2
    case hA2=>simp only[putL,Act.put,s'a,s'z,s's];rfl
    case hs2=>exact s1
    case ht2=>exact s2
    case hrun2 =>
     simp only[RunL,RunOp]
     clear hsw hfar
     have hbA:((x0+k:Nat):Int)<(n:Int):=by omega
     have hbB:((a+o2:Nat):Int)<(n:Int):=by omega
     clear hsz
     refine ⟨fun W=>rfl,?_,fun W=>rfl,fun W=>rfl,?_,?_,fun W=>rfl,fun W=>rfl,?_,?_,?_,e1,fun W=>rfl,?_,?_,e0,?_,trivial,?_,trivial,trivial⟩
     all_goals (intro W;go_simp)
    clear s1 s2 e0 e1 W1
    have hK5:=hK3.out.drew_.same (hfar w.heap.size (by show w.heap.size≠g;omega))
    replace hK5:=h'd hK5
    go_wp2_with fail
    go_roundg (3-(k+1))
    case measure=>have:=hmm.out;omega
    case rel=>exact ⟨k+1,Y,Sort.swp D (x0+k) (a+o2),by omega,rfl,congrArg (Value.int .i64) (by omega),hXn.out,hDn2.out,hsw.out,hK5.out⟩
  ·obtain rfl:k=3:=by omega
   have dc:¬ ((x0+3:Nat):Int)≤(a:Int)+(q:Int)*2+1:=by omega
   have dc2:¬ (x0:Int)+3≤(a:Int)+(q:Int)*2+1:=by omega
   have hTD:T=D:=hT.out.trans hD
   clear hD hX
   subst hTD
   go_wp2_with fail
   go_end0
   exact ⟨rfl,hR⟩
end
end Go.Proofs.YtcknpofnpabkiaaGreat
