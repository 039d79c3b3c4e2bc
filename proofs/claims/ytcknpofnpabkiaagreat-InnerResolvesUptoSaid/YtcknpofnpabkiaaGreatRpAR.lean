/- The whole of a sum; the reader of octets. -/
import Derived.ChangeKeysEq
import Derived.Test.YtcknpofnpabkiaaGreatRpAQ
set_option maxRecDepth 100000
namespace Go.Proofs.YtcknpofnpabkiaaGreat
open Go.RowKit Go.Lo
def wholeB (bs:List Int):Bool:=(addP bs (0,0)).1==0 && (addP bs (0,0)).2==0
theorem intT:ElT Tryz.prog 205 3 1 8:=⟨by kernel_rfl,by
 obtain ⟨i,hi,h1,h2,h3⟩:=info_parts (show (Tryz.prog.info? 3).map (fun i=>(i.zero,i.size,i.bytes))=some (some (.int .i64 0),1,8) by kernel_rfl)
 exact ⟨i,_,hi,h1,h2,h3,rfl⟩,by omega⟩
theorem eql_both (p q:Int) (w:World):(binOp .eql 261 (.agg #[.int .i64 p,.int .i64 q]) (.agg #[.int .i64 0,.int .i64 0])).run Tryz.prog w=.ok (.bool (p==0 && q==0)) w:=by
 obtain ⟨i,_,hi,-⟩:=intT.info
 rw[run_eql_struct,run_equalIn_array w 9999 _ _ Tryz.underlying261 hi,show Tryz.prog.cellsOf 3=1 by kernel_rfl,show List.range 2=[0,1] from rfl]
 have hp:∀ x y W,(part 3 #[Value.int .i64 x,Value.int .i64 y] 0).run Tryz.prog W=.ok (.int .i64 x) W:=fun x y W=>by kernel_rfl
 have hq:∀ x y W,(part 3 #[Value.int .i64 x,Value.int .i64 y] 1).run Tryz.prog W=.ok (.int .i64 y) W:=fun x y W=>by kernel_rfl
 simp only[Op.eqItems,Sem.run_bind,Nat.zero_mul,Nat.one_mul,hp,Result.andThen_ok,run_equalIn_int _ _ _ _ _ _ _ Tryz.underlying3]
 cases (p==0)
 ·simp
 ·simp only[Bool.not_true,Bool.false_eq_true,if_false,Sem.run_bind,hq,Result.andThen_ok,run_equalIn_int _ _ _ _ _ _ _ Tryz.underlying3]
  cases (q==0) <;> simp
theorem whole8_any (B:Nat) (xv:Value) (bs:List Int) (w:World) (hx:Sl w B 1 xv bs.length (bs.map u8c)) (hB:B≤w.heap.size) (hl:∀ x∈bs,0≤x∧x<256) (hn:bs.length≤140737488355328) :
  Calls Tryz.prog 139 #[xv] w fun x w'=>x=.returned (.bool (wholeB bs))∧Below w.heap.size w w':=by
 have hB0:Below w.heap.size w (w.alloc (.cells #[.int .i64 0,.int .i64 0] 261)):=(b'r _ _).alloc (n'r _) _
 have CA:=h'd (add_any w.heap.size B (0,0) (by simp) xv bs (w.alloc (.cells #[.int .i64 0,.int .i64 0] 261)) (Blk.new _ _ _) (hx.below (hB0.mono hB)) hB hl hn)
 obtain ⟨-,A,c,rfl,-⟩:=hx
 go_enter Tryz.func139,Tryz.ntmps139
 go_upto_region 3 with (go_at_call 176;refine c'm CA.out ?_;rintro x w1 ⟨rfl,hb1,hp1⟩)
 have hB1:=hp1.below hB0 (n'r _)
 have x0:=hb1.cell 0
 have x1:=hb1.cell 1
 simp only[q'a,q'z,q's] at x0 x1
 have he:=fun W=>eql_both (addP bs (0,0)).1 (addP bs (0,0)).2 W
 clear hb1 hp1 CA
 go_wp2
 go_ret
 exact ⟨rfl,hB1⟩
end Go.Proofs.YtcknpofnpabkiaaGreat
namespace Go.Lo
open Go.RowKit
theorem mid_ex {P:Program} {t e:TypeId} {s bytes:Nat} (E:ElT P t e s bytes) (A:Option Addr) (n c lo hi:Nat) (h1:lo≤hi) (h2:hi≤n) (h3:n≤c) :
  ∃ v2,(∀ W,(Instr.sliceAt t (.slice A n c) (some (.int .i64 (lo:Int))) (some (.int .i64 (hi:Int))) (some (.int .i64 (hi:Int)))).run P W=.ok v2 W)∧∀ (w:World) (B:Nat) (xs:List Value),Sl w B s (.slice A n c) n xs→Sl w B s v2 (hi-lo) ((xs.drop (lo*s)).take ((hi-lo)*s)):=by
 obtain ⟨i,z,hi',hz,hsz,hby,hzs⟩:=E.info
 have he:P.elem t=e:=by simp[Program.elem,E.sl]
 have hu:P.underlying t=some (.slice (P.elem t)):=by rw[he];exact E.sl
 refine ⟨.slice (if hi=lo then A else A.map (·.add (lo*s))) (hi-lo) (hi-lo),fun W => ?_,fun w B xs h => ?_⟩
 ·rw[run_sliceAt_slice W t _ _ _ _ hu,run_slice_lhm W t A n c hu .i64 .i64 .i64 lo hi hi (by omega) (by omega) (by omega) (by omega),he]
  simp[sizeOf,typeInfo,hi',hsz,sliced]
 ·obtain ⟨h4,A',c',hv,_,h5,h6⟩:=h
  simp only[Value.slice.injEq] at hv
  obtain ⟨rfl,_,rfl⟩:=hv
  have hle:hi*s≤n*s:=Nat.mul_le_mul_right _ h2
  have hlo:lo*s≤hi*s:=Nat.mul_le_mul_right _ h1
  refine ⟨by rw[List.length_take,List.length_drop,h4,Nat.sub_mul];omega,_,_,rfl,n'r _,by omega,fun h0 => ?_⟩
  obtain ⟨b,off,rfl,hb,hc⟩:=h6 (by omega)
  rw[if_neg (by omega)]
  refine ⟨b,off+lo*s,by simp[addr_add],hb,fun j u hu => ?_⟩
  rw[List.getElem?_take] at hu
  split at hu
  ·rw[List.getElem?_drop] at hu
   rw[Nat.add_assoc]
   exact hc _ u hu
  ·cases hu
end Go.Lo
namespace Go.Proofs.YtcknpofnpabkiaaGreat
open Go.RowKit Go.Lo
def Rd (w:World) (b:Nat) (bs:List Int) (at_:Nat) (e:Int):Prop:=
 at_≤bs.length∧∃ v,Blk w b 211 #[v,.int .i64 at_,.int .i64 e,.bool true]∧Sl w b 1 v bs.length (bs.map u8c)
theorem rnone_any (b:Nat) (bs:List Int) (at_:Nat) (e:Int) (w:World) (h:Rd w b bs at_ e):Calls Tryz.prog 120 #[.pointer (some ⟨b,0,none⟩)] w fun x w'=>x=.returned (.bool false)∧w'=w:=by
 obtain ⟨_,v,hb,_⟩:=h
 have c3:=hb.cell 3
 simp only[q'a,q'z,q's] at c3
 clear hb
 go_enter Tryz.func120,Tryz.ntmps120
 go_wp2
 go_ret
 exact ⟨rfl,rfl⟩
theorem rerr_any (b:Nat) (bs:List Int) (at_:Nat) (e:Int) (w:World) (h:Rd w b bs at_ e):Calls Tryz.prog 77 #[.pointer (some ⟨b,0,none⟩)] w fun x w'=>x=.returned (.int .i64 e)∧w'=w:=by
 have CN:=h'd (rnone_any b bs at_ e w h)
 obtain ⟨_,v,hb,_⟩:=h
 have c2:=hb.cell 2
 simp only[q'a,q'z,q's] at c2
 clear hb
 go_enter Tryz.func77,Tryz.ntmps77
 go_wp2_with (go_at_call 120;refine c'm CN.out ?_;rintro x w1 ⟨rfl,rfl⟩)
 go_ret
 exact ⟨rfl,rfl⟩
def leftR (bs:List Int) (at_:Nat) (e:Int):Int:=if e=0 then (bs.length:Int)-at_ else 0
theorem rleft_any (b:Nat) (bs:List Int) (at_:Nat) (e:Int) (w:World) (h:Rd w b bs at_ e) (hn:bs.length≤140737488355328):Calls Tryz.prog 78 #[.pointer (some ⟨b,0,none⟩)] w fun x w'=>x=.returned (.int .i64 (leftR bs at_ e))∧Below w.heap.size w w':=by
 have CN:=h'd (rnone_any b bs at_ e w h)
 obtain ⟨hle,v,hb,hs⟩:=h
 obtain ⟨-,A,c,rfl,-⟩:=hs
 have c0:=hb.cell 0
 have c1:=hb.cell 1
 have c2:=hb.cell 2
 simp only[q'a,q'z,q's] at c0 c1 c2
 clear hb
 have iw:IntKind.i64.wrap ((bs.length:Int)-(at_:Int))=(bs.length:Int)-(at_:Int):=IntWalk.i64_in _ (by omega)
 by_cases he:e=0
 ·subst he
  rw[show leftR bs at_ 0=(bs.length:Int)-at_ from if_pos rfl]
  go_enter Tryz.func78,Tryz.ntmps78
  go_wp2_with (go_at_call 120;refine c'm CN.out ?_;rintro x w1 ⟨rfl,rfl⟩)
  go_region
  go_wp2
  go_ret
  exact ⟨rfl,(b'r _ _).drew⟩
 ·rw[show leftR bs at_ e=0 from if_neg he]
  have he2:(e != 0)=true:=by simpa using he
  go_enter Tryz.func78,Tryz.ntmps78
  go_wp2_with (go_at_call 120;refine c'm CN.out ?_;rintro x w1 ⟨rfl,rfl⟩)
  go_ret
  exact ⟨rfl,b'r _ _⟩
def nextS (bs:List Int) (at_:Nat) (e:Int) (n:Nat):Nat × Int:=
 if e≠0 then (at_,e) else if (bs.length:Int)-at_<n then (at_,10) else (at_+n,0)
def nextB (bs:List Int) (at_:Nat) (e:Int) (n:Nat):List Int:=
 if e≠0 then [] else if (bs.length:Int)-at_<n then [] else (bs.drop at_).take n
set_option maxHeartbeats 1000000 in
theorem next_any (b:Nat) (bs:List Int) (at_:Nat) (e:Int) (n:Nat) (w:World) (h:Rd w b bs at_ e) (hn:bs.length≤140737488355328) (hm:n≤140737488355328):Calls Tryz.prog 193 #[.pointer (some ⟨b,0,none⟩),.int .i64 n] w fun x w' =>
  ∃ v q,x=.returned (.tuple #[v,.bool q])∧Sl w' b 1 v (nextB bs at_ e n).length ((nextB bs at_ e n).map u8c)∧Rd w' b bs (nextS bs at_ e n).1 (nextS bs at_ e n).2∧Put w b 211 w':=by
 have CN:=h'd (rnone_any b bs at_ e w h)
 have H:=h'd h
 obtain ⟨hle,v,hb,hs⟩:=h
 have hs0:=hs
 obtain ⟨-,A,c,rfl,hc1,hc2,-⟩:=hs
 have c0:=hb.cell 0
 have c1:=hb.cell 1
 have c2:=hb.cell 2
 have f1:=hb.free 1
 have f2:=hb.free 2
 simp only[q'a,q'z,q's] at c0 c1 c2
 have hp0:=Put.refl_ hb
 by_cases he:e=0
 ·subst he
  have iw:IntKind.i64.wrap ((bs.length:Int)-(at_:Int))=(bs.length:Int)-(at_:Int):=IntWalk.i64_in _ (by omega)
  have n0:¬ (n:Int)<0:=by omega
  by_cases hsh:(bs.length:Int)-at_<n
  ·rw[show nextS bs at_ 0 n=(at_,10) by simp only[nextS];rw[if_neg (by simp),if_pos hsh],show nextB bs at_ 0 n=[] by simp only[nextB];rw[if_neg (by simp),if_pos hsh]]
   replace hb:=h'd hb
   replace hs0:=h'd hs0
   replace hp0:=h'd hp0
   go_enter Tryz.func193,Tryz.ntmps193
   go_wp2_with (go_at_call 120;refine c'm CN.out ?_;rintro x w1 ⟨rfl,rfl⟩)
   go_region
   go_wp2
   refine bodyPost_ret (results_tmp2 rfl _ _ _) rfl ?_
   have hB:Below b w1 (w1.drew.setCell ⟨b,2,none⟩ (.int .i64 10)):=(b'r _ _).drew.setCell (p:=⟨b,2,none⟩) (n'r _) _
   exact ⟨_,_,rfl,Sl.nil _ _ _,⟨hle,_,(Blk.drew_ hb.out).set_ 2 _,hs0.out.below hB⟩,hp0.out.drew_.cell_ 2 _⟩
  ·rw[show nextS bs at_ 0 n=(at_+n,0) by simp only[nextS];rw[if_neg (by simp),if_neg hsh],show nextB bs at_ 0 n=(bs.drop at_).take n by simp only[nextB];rw[if_neg (by simp),if_neg hsh]]
   replace hb:=h'd hb
   replace hs0:=h'd hs0
   replace hp0:=h'd hp0
   have wa:wrap64 ((at_:Int)+n)=(at_:Int)+n:=by unfold wrap64;omega
   have ia:IntKind.i64.wrap ((at_:Int)+n-(n:Int))=(at_:Int):=by rw[IntWalk.i64_in _ (by omega)];omega
   go_enter Tryz.func193,Tryz.ntmps193
   go_wp2_with (go_at_call 120;refine c'm CN.out ?_;rintro x w1 ⟨rfl,rfl⟩)
   go_region
   go_upto_region 10 with fail
   have K1:=(hb.out.set_ 1 (.int .i64 ((at_:Int)+n))).drew_
   have P1:=(hp0.out.cell_ 1 (.int .i64 ((at_:Int)+n))).drew_
   have S1:=hs0.out.below (P1.below (B:=b) (a:=w1) (b'r _ _) (n'r _))
   simp only[s'a,s'z,s's] at K1
   obtain ⟨v2,hv2,hv2s⟩:=mid_ex u8T A bs.length c at_ (at_+n) (by omega) (by omega) hc1
   have S2:=hv2s _ b _ S1
   rw[Nat.mul_one,Nat.mul_one,show at_+n-at_=n by omega,←List.map_drop,←List.map_take] at S2
   clear hb hs0 hp0 hv2s c0 c1 c2 f1 f2
   generalize (w1.setCell ⟨b,1,none⟩ (.int .i64 ((at_:Int)+n))).drew=w2 at K1 P1 S1 S2 ⊢
   have c0:=K1.cell 0
   have c1:=K1.cell 1
   simp only[q'a,q'z,q's] at c0 c1
   have hl2:((bs.drop at_).take n).length=n:=by rw[List.length_take,List.length_drop];omega
   simp only[show ((at_+n:Nat):Int)=(at_:Int)+n by omega] at hv2
   replace K1:=h'd K1
   replace P1:=h'd P1
   replace S1:=h'd S1
   replace S2:=h'd S2
   go_region
   go_wp2
   refine bodyPost_ret (results_tmp2 rfl _ _ _) rfl ?_
   have hRd:Rd w2.drew b bs (at_+n) 0:=⟨by omega,_,(show ((at_+n:Nat):Int)=(at_:Int)+n by omega) ▸ K1.out.drew_,S1.out⟩
   exact ⟨v2,true,rfl,by rw[hl2];exact S2.out,hRd,P1.out.drew_⟩
 ·rw[show nextS bs at_ e n=(at_,e) from if_pos he,show nextB bs at_ e n=[] from if_pos he]
  have he2:(e != 0)=true:=by simpa using he
  clear hb hs0
  go_enter Tryz.func193,Tryz.ntmps193
  go_wp2_with (go_at_call 120;refine c'm CN.out ?_;rintro x w1 ⟨rfl,rfl⟩)
  refine bodyPost_ret (results_tmp2 rfl _ _ _) rfl ?_
  exact ⟨_,_,rfl,Sl.nil _ _ _,H.out,hp0⟩
def numB (l:List Int):Int:=l.foldl (fun v c=>bits BinOp.or IntKind.u32 (v*256%4294967296) c) 0
theorem numB_snoc (l:List Int) (x:Int):numB (l++[x])=bits BinOp.or IntKind.u32 (numB l*256%4294967296) x:=by simp[numB]
set_option maxHeartbeats 1000000 in
theorem rnum_any (b:Nat) (bs:List Int) (at_:Nat) (e:Int) (n:Nat) (h1:1≤n) (h4:n≤4) (w:World) (h:Rd w b bs at_ e) (hn:bs.length≤140737488355328) (hl:∀ x∈bs,0≤x∧x<256):Calls Tryz.prog 185 #[.pointer (some ⟨b,0,none⟩),.int .i64 n] w fun x w' =>
  x=.returned (.int .u32 (numB (nextB bs at_ e n)))∧Rd w' b bs (nextS bs at_ e n).1 (nextS bs at_ e n).2∧Put w b 211 w':=by
 have CN:=h'd (next_any b bs at_ e n w h hn (by omega))
 have i1:¬ (n:Int)<1:=by omega
 have i4:¬ (4:Int)<(n:Int):=by omega
 clear h
 go_enter Tryz.func185,Tryz.ntmps185
 go_upto_region 4 with (go_at_call 193;refine c'm CN.out ?_;rintro x w1 ⟨v,q,rfl,hs,hr,hp⟩;have hs0:=h'd hs;obtain ⟨-,A,c,rfl,-⟩:=hs)
 have hlB:∀ x∈nextB bs at_ e n,0≤x∧x<256:=fun x hx=>by
  unfold nextB at hx
  split at hx
  ·cases hx
  ·split at hx
   ·cases hx
   ·exact hl x (List.mem_of_mem_drop (List.mem_of_mem_take hx))
 have hxl:(nextB bs at_ e n).length≤4:=by
  unfold nextB
  split
  ·simp
  ·split
   ·simp
   ·rw[List.length_take];omega
 obtain ⟨xs,hxs⟩:∃ xs,xs=nextB bs at_ e n:=⟨_,rfl⟩
 rw[←hxs] at hs0 hlB hxl ⊢
 replace hxs:=h'd hxs
 replace hr:=h'd hr
 replace hp:=h'd hp
 go_wp2_with fail
 go_loopg [7,24] xs.length (fun m v i wr=>∃ k:Nat,k≤xs.length∧m=xs.length-k∧v=.int .u32 (numB (xs.take k))∧i=.int .i64 k∧wr=w1)
 case atStart=>exact ⟨0,Nat.zero_le _,rfl,rfl,rfl,rfl⟩
 case round =>
  obtain ⟨k,hk,hmk,rfl,rfl,rfl⟩:=hrel
  by_cases hkl:k<xs.length
  ·have hs:=hs0.out
   obtain ⟨-,A',c',hv,-,-,hA⟩:=hs
   simp only[Value.slice.injEq] at hv
   obtain ⟨rfl,-,rfl⟩:=hv
   obtain ⟨b2,o2,rfl,hb2,hc⟩:=hA (by omega)
   have ck:=hc k _ (by rw[List.getElem?_map,List.getElem?_eq_getElem hkl];rfl)
   simp only[u8c] at ck
   have hx:=hlB _ (g'm hkl)
   have hsn:=numB_snoc (xs.take k) xs[k]
   rw[←t'k hkl] at hsn
   generalize xs[k]=x at ck hx hsn
   generalize numB (xs.take k)=y at hsn ⊢
   clear hc hA
   replace hsn:=h'd hsn
   go_wp2_with fail
   go_roundg (xs.length-(k+1))
   case measure=>omega
   case rel=>exact ⟨k+1,by omega,rfl,by rw[hsn.out],by go_num,rfl⟩
  ·obtain rfl:k=xs.length:=by omega
   rw[List.take_length]
   go_wp2
   go_ret
   rw[←hxs.out]
   exact ⟨rfl,hr.out,hp.out⟩
end Go.Proofs.YtcknpofnpabkiaaGreat
