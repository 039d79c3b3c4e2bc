/- OuterNear's walk: every way dearer by so much: the same routes, each dearer by so much. Conditions: the states, their bodies, the ways and their hops lie in memory. -/
import Derived.Test.YtiikagabdiphkaaGreatOnBK
import Derived.Test.YtiikagabdiphkaaGreatOnBG
import Derived.Test.YtiikagabdiphkaaGreatOnBL
import Derived.Test.YtiikagabdiphkaaGreatOnAN
import Derived.Test.YtiikagabdiphkaaGreatOnBM
import Derived.Test.YtiikagabdiphkaaGreatOnBQ
set_option maxRecDepth 100000
namespace Go.Proofs.YtiikagabdiphkaaGreat
open Go.RowKit Go.Lo
def NoF (s:StG):Prop:=(decD s.1.len s.1.type.toNat s.2).2=0→(decD s.1.len s.1.type.toNat s.2).1.fw=0
theorem chk_code {h:OHead} {body:List Int} {e:Int} (hc:chkP h body e=0):e=0:=by
 unfold chkP at hc
 split at hc
 ·omega
 split at hc
 ·omega
 split at hc
 ·omega
 ·exact hc
theorem noFw_of {S:List StG} (h:∀ s∈S,NoF s) (hb:∀ s∈S,s.2.length≤8192):NoFw S:=by
 intro s hs t _ hty hc
 have h1:=h s hs
 have hl:=chk_lenO hc
 have he:=chk_code hc
 unfold NoF at h1
 have e1:s.1.type.toNat=t:=by rw[hty];rfl
 have e2:decD s.1.len s.1.type.toNat s.2=decQ t s.2:=by
  unfold decD
  rw[if_pos hl,e1,dec_same t s.2 (by have:=hb s hs;omega)]
 rw[e2] at h1
 exact h1 he
theorem splice_cost (l:List WayY):∀ (i:Nat) (hi:i<l.length) (y:WayY) (u:Value),splice (yL l[i]) 6 [u]=yL y→splice (l.flatMap yL) (i*10+6) [u]=(l.set i y).flatMap yL:=by
 induction l with
 | nil=>intro i hi;cases hi
 | cons x r ih =>
  intro i hi y u he
  have hx:(yL x).length=10:=yE.len x
  cases i with
  | zero =>
   simp only[List.getElem_cons_zero] at he
   simp only[List.flatMap_cons,s'z,Nat.zero_mul,Nat.zero_add]
   rw[←he]
   unfold splice
   simp only[List.length_singleton]
   rw[List.take_append_of_le_length (by rw[hx];omega),List.drop_append_of_le_length (by rw[hx];omega)]
   simp only[List.append_assoc]
  | succ i =>
   have hi2:i<r.length:=by simpa using hi
   simp only[List.getElem_cons_succ] at he
   have h1:=ih i hi2 y u he
   simp only[List.flatMap_cons,s's]
   rw[←h1]
   unfold splice
   rw[show (i+1)*10+6=(yL x).length+(i*10+6) by rw[hx];omega,Nat.add_assoc,List.take_length_add_append,List.drop_length_add_append]
   simp only[List.append_assoc]
def growY (d:Int) (x:WayY):WayY:=(⟨growN d x.1.n,x.1.A,x.1.len,x.1.cap⟩,x.2)
theorem gOf_grow (d:Int) (xs:List WayY):gOf (xs.map (growY d))=(gOf xs).map (growG d):=by
 unfold gOf
 rw[List.map_map,List.map_map]
 rfl
def midY (d:Int) (k:Nat) (xs:List WayY):List WayY:=(xs.take k).map (growY d)++xs.drop k
theorem midY_zero (d:Int) (xs:List WayY):midY d 0 xs=xs:=by unfold midY;simp
theorem midY_all (d:Int) (xs:List WayY):midY d xs.length xs=xs.map (growY d):=by unfold midY;simp
theorem midY_len (d:Int) (k:Nat) (xs:List WayY):(midY d k xs).length=xs.length:=by
 unfold midY
 rw[List.length_append,List.length_map,List.length_take,List.length_drop]
 omega
theorem midY_get (d:Int) (k:Nat) (xs:List WayY) (h:k<(midY d k xs).length) (h2:k<xs.length):(midY d k xs)[k]=xs[k]:=by
 have h1:(midY d k xs)[k]?=some xs[k]:=by
  unfold midY
  rw[List.drop_eq_getElem_cons h2,List.getElem?_append_right (by simp;omega),show k-(List.map (growY d) (xs.take k)).length=0 by simp;omega]
  rfl
 exact (List.getElem?_eq_some_iff.1 h1).2
theorem midY_set (d:Int) (k:Nat) (xs:List WayY) (h:k<xs.length):(midY d k xs).set k (growY d xs[k])=midY d (k+1) xs:=by
 unfold midY
 rw[List.drop_eq_getElem_cons h,List.set_append_right _ _ (by simp;omega),List.take_succ_eq_append_getElem h,List.map_append,List.append_assoc]
 congr 1
 rw[show k-(List.map (growY d) (xs.take k)).length=0 by simp;omega]
 rfl
theorem ImpR.set {w0 wr w':World} {xs:List WayY} {y:WayY} {k:Nat} {v:Value} (h:ImpR w0 xs v wr) (hk:k<xs.length) (h1:y.1.A=xs[k].1.A) (h2:y.1.len=xs[k].1.len) (h3:y.1.cap=xs[k].1.cap) (h4:y.2=xs[k].2) (ho:w'.ownsRow w0.heap.size 38 10 v (xs.set k y).length ((xs.set k y).flatMap yL)) (hg:wr.grownBy w' v.ownBlock):ImpR w0 (xs.set k y) v w':=by
 refine ⟨ho,fun z hz => ?_,h.below.trans (below_of_grown hg h.below.size fun g hg=>(h.own.lt g hg).1)⟩
 rcases List.mem_or_eq_of_mem_set hz with hz | rfl
 ·exact own_grown h.own (h.hops z hz) hg (by decide)
 ·rw[h1,h2,h3,h4]
  exact own_grown h.own (h.hops _ (List.getElem_mem hk)) hg (by decide)
def OutW (base:Nat) (L:List WayG) (v:Value) (W:World):Prop:=∃ (A:Option Addr) (c:Nat) (xs:List WayY),v=.slice A xs.length c∧W.ownsRow base 38 10 (.slice A xs.length c) xs.length (xs.flatMap yL)∧gOf xs=insAll L
theorem OutW.call {base:Nat} {L:List WayG} {v:Value} {W W':World} (hB:Below W.heap.size W W') (h:OutW base L v W):OutW base L v W':=by
 obtain ⟨A,c,xs,h1,h2,h3⟩:=h
 exact ⟨A,c,xs,h1,own_below h2 hB,h3⟩
theorem OutW.of {base:Nat} {L:List WayG} {w w':World} {e:Ending} (h:ORoutesPost L w e w') (hb:base≤w.heap.size):∃ v,e=.returned v∧OutW base L v w'∧Below w.heap.size w w':=by
 obtain ⟨v,xs,rfl,ho,-,hp,hs,hB⟩:=h
 obtain ⟨-,A,c,rfl,-⟩:=id (Sl.of_own ho)
 exact ⟨_,rfl,⟨A,c,xs,rfl,own_less ho hb,routes_are hp hs⟩,hB⟩
theorem OutW.nil {base:Nat} {v:Value} {W:World} (h:OutW base [] v W):∃ a b,v=.slice a 0 b:=by
 obtain ⟨A,c,xs,h1,-,h3⟩:=h
 have h4:xs=[]:=List.map_eq_nil_iff.1 h3
 subst h4
 exact ⟨A,c,h1⟩
def NeaK (S:List StG) (R:List WayG) (base:Nat) (L:List WayG):Nat→Option Value→Value→Value→World→Prop
 | 0,o,v,_,_=>o=some v
 | 1,_,v,_,W=>∃ (A:Option Addr) (c:Nat) (ys:List StY),v=.slice A ys.length c∧sOf ys=S∧StatesIn W W.heap.size (.slice A ys.length c) S (ys.map (·.1))
 | 2,_,v,_,W=>∃ (A:Option Addr) (c:Nat) (xs:List WayY),v=.slice A xs.length c∧WaysIn W W.heap.size (.slice A xs.length c) R (xs.map (·.1))
 | 3,_,v,_,W=>OutW base L v W
 | _,_,v,u,_=>v=u
theorem NeaK.call {S:List StG} {R:List WayG} {base:Nat} {L:List WayG}:∀ (t:Nat) (o:Option Value) (v u:Value) (W W':World),Below W.heap.size W W'→NeaK S R base L t o v u W→NeaK S R base L t o v u W'
 | 0,_,_,_,_,_,_,h=>h
 | 1,_,_,_,_,_,hB,⟨A,c,ys,h1,h2,h3⟩=>⟨A,c,ys,h1,h2,(h3.below hB).more hB.size⟩
 | 2,_,_,_,_,_,hB,⟨A,c,xs,h1,h2⟩=>⟨A,c,xs,h1,(h2.below hB).more hB.size⟩
 | 3,_,_,_,_,_,hB,h=>OutW.call hB h
 | _+4,_,_,_,_,_,_,h=>h
def NeaV (tags:List Nat) (vals:List Value) (S:List StG) (R:List WayG) (base:Nat) (L:List WayG) (i:Nat) (v u:Value) (W:World):Prop:=NeaK S R base L (tags.getD i 0) vals[i]? v u W
theorem sl_max20 {w:World} {B s n:Nat} {v:Value} {xs:List Value} (h:Sl w B s v n xs):n≤9223372036854775807:=by
 obtain ⟨-,A,c,-,h1,h2,-⟩:=h
 have:maxLen≤9223372036854775807:=by decide
 omega
theorem neq_preN (a b:Int) (w:World):(binOp .neq 35 (.agg #[.int .u32 a,.int .u8 b]) (.agg #[.int .u32 a,.int .u8 b])).run Tryz.prog w=.ok (.bool false) w:=by
 rw[run_neq_struct,run_equalIn_agg _ _ _ _ _ (by kernel_rfl) (by kernel_rfl)]
 go_simp
set_option maxHeartbeats 4000000 in
theorem outerNear_any (S:List StG) (ls:List StV) (sv:Value) (self:Int) (nssa:Bool) (R:List WayG) (lw:List WayV) (lv:Value) (nA:Option Addr) (nl nc0:Nat) (d:Int) (w:World) (hS:StatesIn w w.heap.size sv S ls) (hSo:ArgS S) (hls:ls.length≤2000000) (hW:WaysIn w w.heap.size lv R lw) (hRo:ArgR R) (hlw:lw.length≤2000000) (hd:0≤d∧d<65536) :
  Calls Tryz.prog 13 #[.agg #[sv,.int .u32 self,.bool nssa,lv,.slice nA nl nc0],.int .u16 d] w fun e w'=>e=.returned (.bool true)∧Below w.heap.size w w':=by
 obtain ⟨-,sA,sc,rfl,-⟩:=id hS.sl
 obtain ⟨-,lA,lc,rfl,-⟩:=id hW.sl
 have hB0:Below w.heap.size w (w.alloc (.cells #[.slice sA ls.length sc,.int .u32 self,.bool nssa,.slice lA lw.length lc,.slice nA nl nc0] 89)):=Below.alloc (Below.refl _ _) (Nat.le_refl _) _
 have kc:=Blk.new w 89 #[.slice sA ls.length sc,.int .u32 self,.bool nssa,.slice lA lw.length lc,.slice nA nl nc0]
 go_enter Tryz.func13,Tryz.ntmps13
 go_upto_region 1 with fail
 generalize w.alloc (.cells #[.slice sA ls.length sc,.int .u32 self,.bool nssa,.slice lA lw.length lc,.slice nA nl nc0] 89)=w0 at *
 have hz0:=hB0.size
 have hS0:=hS.below hB0
 have hW0:=hW.below hB0
 have x0:=kc.cell 0
 have x3:=kc.cell 3
 simp only[q'a,q'z,q's] at x0 x3
 have CH:=Lib.hid (heavy20_any ls _ w.heap.size w0 hS0.sl hls (hS0.lens fun s hs=>(hSo s hs).2.1))
 have CB:=Lib.hid (big20_any lw _ w.heap.size w0 hW0.sl hz0 (by omega) (hW0.bigs hRo))
 go_cut [20] (fun v wx=>GuardR ls lw w0 v wx)
 case first =>
  go_wp2_with (first
   | (go_at_call 44;refine Calls.mono CH.out ?_;rintro e w1 ⟨q1,rfl,rfl,hq1⟩;cases q1)
   | (go_at_call 35;refine Calls.mono CB.out ?_;rintro e w2 ⟨q2,rfl,hq2,hB2⟩)
   | fail)
  ·go_meet
   case rel=>exact ⟨q2,rfl,fun h=>⟨hq1 (by first | rfl | trivial),hq2 h⟩,hB2⟩
  ·go_meet
   case rel=>exact ⟨true,rfl,fun h=>(by cases h),Below.refl _ _⟩
 case rest =>
  obtain ⟨q,rfl,hq,hBc⟩:=hcut
  have hBw:=hB0.trans (hBc.mono hz0)
  cases q
  ·obtain ⟨⟨h60,h8⟩,hw60,hw4⟩:=hq rfl
   have kc1:=Blk.call hBc kc
   clear CH CB x0 x3 hq
   have hzc:=hBc.size
   have hmix:(Tryz.prog).follows .mixedOrders=true:=by kernel_rfl
   have hSc:=hS0.below (hBc.mono hz0)
   have hWc:=hW0.below (hBc.mono hz0)
   have hlS:=hS.len
   clear hS hW hS0 hW0 hB0
   have hS8:∀ s∈S,s.2.length≤8192:=fun s hs=>by
    obtain ⟨j,hj,rfl⟩:=List.mem_iff_getElem.1 hs
    have hj2:j<ls.length:=by omega
    have h3:=h8 _ (List.getElem_mem hj2)
    rw[sl_len (hSc.bodies j hj2 hj)] at h3
    exact h3
   have hR400:∀ r∈R,r.2.length≤400:=fun r hr=>by
    obtain ⟨j,hj,rfl⟩:=List.mem_iff_getElem.1 hr
    have hj2:j<lw.length:=by rw[hWc.len];exact hj
    have h3:=hw4 _ (List.getElem_mem hj2)
    rw[sl_len (hWc.hops j hj2 hj)] at h3
    exact h3
   have hww:w.heap.size≤wc.heap.size:=hBw.size
   replace hSc:=Lib.hid hSc
   replace hWc:=Lib.hid hWc
   replace hSo:=Lib.hid hSo
   replace hRo:=Lib.hid hRo
   replace hS8:=Lib.hid hS8
   replace hR400:=Lib.hid hR400
   replace hlS:=Lib.hid hlS
   replace h8:=Lib.hid h8
   replace hw4:=Lib.hid hw4
   go_wp2_with fail
   go_loopg [5] ls.length (fun c iv wx=>∃ k:Nat,k≤ls.length∧c=ls.length-k∧iv=.int .i64 k∧(∀ s∈S.take k,NoF s)∧Below wc.heap.size wc wx)
   case atStart=>exact ⟨0,Nat.zero_le _,rfl,rfl,fun s hs=>(by simp at hs),Below.refl _ _⟩
   case round =>
    obtain ⟨k,hk,rfl,rfl,hNF,hBr⟩:=hrel
    obtain ⟨w1,rfl⟩:∃ x:World,x=wr:=⟨_,rfl⟩
    have hz1:=hBr.size
    replace hNF:=Lib.hid hNF
    have kcr:=kc1.below hBr kc1.lt
    have x0:=kcr.cell 0
    simp only[q'a,q'z] at x0
    by_cases hkl:k<ls.length
    ·have hkS:k<S.length:=by have:=hlS.out;omega
     have hS1:=hSc.out.below (hBr.mono hww)
     obtain ⟨b,off,hwA,hb0,hrow⟩:=Sl.row stL_len hS1.sl hkl
     subst hwA
     have hbd:=hS1.bodies k hkl hkS
     have hmp:ls[k].h=S[k].1:=by
      have h1:=congrArg (fun z=>z[k]?) hS1.map
      simp only[List.getElem?_map,List.getElem?_eq_getElem hkl,List.getElem?_eq_getElem hkS,Option.map_some,Option.some.injEq] at h1
      exact h1
     have hso:=hSo.out _ (List.getElem_mem hkS)
     have hs8:=hS8.out _ (List.getElem_mem hkS)
     have htk:∀ s∈S.take (k+1),s∈S.take k∨s=S[k]:=fun s hs=>by
      rw[List.take_succ_eq_append_getElem hkS] at hs
      rcases List.mem_append.1 hs with h | h
      ·exact .inl h
      ·exact .inr (List.mem_singleton.1 h)
     have hrg:w1.rangeAt b (off+k*9) (stL ls[k]):=hrow
     clear hrow hS1
     replace htk:=Lib.hid htk
     generalize S[k]=s at *
     generalize ls[k]=x at hrg hbd hmp
     obtain ⟨h,xA,xn,xc⟩:=x
     dsimp only at hmp hbd
     subst hmp
     obtain rfl:xn=s.2.length:=sl_len hbd
     have ik:(k:Int)<(ls.length:Int):=by omega
     have hty:=hso.1.type
     have htn:((s.1.type.toNat:Nat):Int)=s.1.type:=by omega
     have CD:=rdecode_any s.1.type.toNat (by omega) s.1 w.heap.size (.slice xA s.2.length xc) s.2 w1 hbd (by omega) (by omega) hso.2.2 htn.symm hso.1.len
     dsimp only[stateVal,RDecPost] at CD
     obtain ⟨dd,hdd⟩:∃ x,x=decD s.1.len s.1.type.toNat s.2:=⟨_,rfl⟩
     rw[←hdd] at CD
     have hnf:dd.2=0→dd.1.fw=0→NoF s:=fun _ h2=>by
      unfold NoF
      rw[←hdd]
      exact fun _=>h2
     have hnf2:dd.2≠0→NoF s:=fun h2=>by
      unfold NoF
      rw[←hdd]
      exact fun h=>absurd h h2
     clear hdd
     obtain ⟨⟨fl,lks,mk,rs,me,t2,fw,tg,ds⟩,de⟩:=dd
     dsimp only at CD hnf hnf2
     replace CD:=Lib.hid CD
     replace hnf:=Lib.hid hnf
     replace hnf2:=Lib.hid hnf2
     clear hty htn
     go_upto_region 7 with (first
      | (refine wpList_load_mid rfl 54 (.tmp 33) rfl b (off+k*9) rfl (stL ⟨s.1,xA,s.2.length,xc⟩) _ hrg Tryz.underlying54 rfl (by kernel_rfl) ?_;dsimp only[stL])
      | (go_at_call 45;refine Calls.mono CD.out ?_;rintro x w3 ⟨csd,rfl,hBAd,hB3⟩;obtain ⟨A1,c1,A2,c2,A3,c3,rfl,-⟩:=hBAd;dsimp only[bodyC]))
     have hB4:Below wc.heap.size wc (w3.alloc (.cells (#[.int .u8 fl,.slice A1 lks.length c1,.int .u32 mk,.slice A2 rs.length c2,.int .u32 me,.bool t2,.int .u32 fw,.int .u32 tg,.slice A3 ds.length c3]:Array Value) 93)):=(hBr.trans (hB3.mono hz1)).alloc (Nat.le_trans hz1 hB3.size) _
     have kb:=Blk.new w3 93 #[.int .u8 fl,.slice A1 lks.length c1,.int .u32 mk,.slice A2 rs.length c2,.int .u32 me,.bool t2,.int .u32 fw,.int .u32 tg,.slice A3 ds.length c3]
     clear hrg CD x0 hbd
     generalize w3.alloc (.cells (#[.int .u8 fl,.slice A1 lks.length c1,.int .u32 mk,.slice A2 rs.length c2,.int .u32 me,.bool t2,.int .u32 fw,.int .u32 tg,.slice A3 ds.length c3]:Array Value) 93)=w4 at hB4 kb ⊢
     have y6:=kb.cell 6
     simp only[q'a,q'z,q's] at y6
     by_cases hde:de=0
     ·subst hde
      by_cases hfw:fw=0
      ·subst hfw
       have hNs:=Lib.hid (hnf.out rfl rfl)
       go_wp2_with fail
       go_roundg (ls.length-(k+1))
       case measure=>omega
       case rel =>
        refine ⟨k+1,by omega,rfl,by go_num,fun s' hs' => ?_,hB4⟩
        rcases htk.out s' hs' with h | h
        ·exact hNF.out s' h
        ·rw[h];exact hNs.out
      ·have e1:(fw != 0)=true:=by simpa using hfw
       go_wp2_with (go_at_call 36;refine Calls.mono (works20_any _) ?_;rintro e w5 ⟨rfl,hB5⟩)
       go_ret
       exact ⟨rfl,hBw.trans ((hB4.trans (hB5.mono hB4.size)).mono hww)⟩
     ·have e1:(de==0)=false:=by simpa using hde
      have hNs:=Lib.hid (hnf2.out hde)
      replace hde:=Lib.hid hde
      go_wp2_with fail
      go_roundg (ls.length-(k+1))
      case measure=>omega
      case rel =>
       refine ⟨k+1,by omega,rfl,by go_num,fun s' hs' => ?_,hB4⟩
       rcases htk.out s' hs' with h | h
       ·exact hNF.out s' h
       ·rw[h];exact hNs.out
    ·obtain rfl:k=ls.length:=by omega
     have hfw:=noFw_of (S:=S) (fun s hs=>hNF.out s (by rw[hlS.out,List.take_length];exact hs)) hS8.out
     replace hfw:=Lib.hid hfw
     clear hNF x0 kcr
     have kcr:=kc1.below hBr kc1.lt
     have x0:=kcr.cell 0
     have x3:=kcr.cell 3
     simp only[q'a,q'z,q's] at x0 x3
     have ik:¬ (ls.length:Int)<(ls.length:Int):=by omega
     have hW1:=hWc.out.below (hBr.mono hww)
     have CW:=Lib.hid (ways20_any w.heap.size _ R lw w1 hW1 (by omega) (fun r hr=>by have:=hR400.out r hr;omega) hlw)
     have hz1:=hBr.size
     go_wp2_with (go_at_call 40;refine Calls.mono CW.out ?_;rintro e w2 ⟨v2,xs0,rfl,hgx,hI0⟩;obtain ⟨-,vA,vc,rfl,-⟩:=id (Sl.of_own hI0.own))
     have hx60:xs0.length≤60:=by
      have h1:(gOf xs0).length=R.length:=by rw[hgx]
      rw[←hWc.out.len] at h1
      simp only[gOf,List.length_map] at h1
      omega
     clear CW x0 x3 kcr hW1
     go_loopg [9] xs0.length (fun c iv wx=>∃ k:Nat,k≤xs0.length∧c=xs0.length-k∧iv=.int .i64 k∧(∀ x∈xs0.take k,x.1.n.cost≤1073741824)∧ImpR w1 (midY d k xs0) (.slice vA xs0.length vc) wx)
     case atStart=>exact ⟨0,Nat.zero_le _,rfl,rfl,fun s hs=>(by simp at hs),by rw[midY_zero];exact hI0⟩
     case round =>
      clear hI0
      obtain ⟨k,hk,rfl,rfl,hcs,hI⟩:=hrel
      obtain ⟨w3,rfl⟩:∃ x:World,x=wr:=⟨_,rfl⟩
      have hB3:=hBr.trans (hI.below.mono hz1)
      have hz3:=hI.below.size
      replace hcs:=Lib.hid hcs
      by_cases hkx:k<xs0.length
      ·have hkm:k<(midY d k xs0).length:=by rw[midY_len];exact hkx
       obtain ⟨g,cap,hv,-,hg0,hgl,-,hrow⟩:=own_row yE.len hI.own hkm
       simp only[Value.slice.injEq] at hv
       obtain ⟨rfl,-,rfl⟩:=hv
       rw[midY_get d k xs0 hkm hkx] at hrow
       have hst:=midY_set d k xs0 hkx
       have htk:∀ x∈xs0.take (k+1),x∈xs0.take k∨x=xs0[k]:=fun x hx=>by
        rw[List.take_succ_eq_append_getElem hkx] at hx
        rcases List.mem_append.1 hx with h | h
        ·exact .inl h
        ·exact .inr (List.mem_singleton.1 h)
       have hown:=hI.own
       rw[midY_len] at hown
       have hsp:=fun y u=>splice_cost (midY d k xs0) k hkm y u
       have hset:=fun y=>hI.set (y:=y) (w':=w3) hkm
       clear hset
       rw[midY_get d k xs0 hkm hkx] at hsp
       have hgt:=midY_get d k xs0 hkm hkx
       obtain ⟨x,hx⟩:∃ x,x=xs0[k]:=⟨_,rfl⟩
       rw[←hx] at hrow hst htk hsp hgt
       replace hx:=Lib.hid hx
       obtain ⟨⟨⟨y0,y1,y2,y3,y4,y5,y6,y7,y8⟩,yA,yn,yc⟩,yh⟩:=x
       have hgo:=hsp (growY d ⟨⟨⟨y0,y1,y2,y3,y4,y5,y6,y7,y8⟩,yA,yn,yc⟩,yh⟩) (.int .u32 (y6+d)) rfl
       have q6:w3.cell? ⟨g,k*10+6,none⟩=some (.int .u32 y6):=hrow 6 _ rfl
       have ik:(k:Int)<(xs0.length:Int):=by omega
       have hy6:0≤y6∧y6<4294967296:=by
        have h1:=hx.out
        have h2:((⟨y0,y1,y2,y3,y4,y5,y6,y7,y8⟩,yh):WayG)∈R:=by
         rw[←hgx]
         exact List.mem_map.2 ⟨xs0[k],List.getElem_mem hkx,by rw[←h1]⟩
        exact (hRo.out _ h2).1
       clear hrow hsp
       replace hst:=Lib.hid hst
       replace hgo:=Lib.hid hgo
       replace htk:=Lib.hid htk
       replace hgt:=Lib.hid hgt
       by_cases hc:1073741824<y6
       ·go_wp2_with (go_at_call 36;refine Calls.mono (works20_any _) ?_;rintro e w5 ⟨rfl,hB5⟩)
        go_ret
        exact ⟨rfl,hBw.trans ((hB3.trans (hB5.mono (Nat.le_trans hz1 hz3))).mono hww)⟩
       ·have iw0:IntKind.u32.wrap d=d:=IntWalk.u32_in _ (by omega)
        have iw1:IntKind.u32.wrap (y6+d)=y6+d:=IntWalk.u32_in _ (by omega)
        replace hI:=Lib.hid hI
        go_wp2_with (refine wpList_store_own rfl 24 (.tmp 73) (.tmp 71) rfl (k:=k*10+6) [.int .u32 (y6+d)] rfl rfl hown rfl (by kernel_rfl) (by simp[Value.oneCell']) (by simp;omega) ?_;intro w5 ho5 hg5)
        go_roundg (xs0.length-(k+1))
        case measure=>omega
        case rel =>
         refine ⟨k+1,by omega,rfl,by go_num,fun x hx' => ?_,?_⟩
         ·rcases htk.out x hx' with h | h
          ·exact hcs.out x h
          ·rw[h];exact (by omega:y6≤1073741824)
         ·rw[←hst.out]
          rw[hgo.out] at ho5
          refine hI.out.set hkm ?_ ?_ ?_ ?_ ?_ hg5
          ·rw[hgt.out];rfl
          ·rw[hgt.out];rfl
          ·rw[hgt.out];rfl
          ·rw[hgt.out];rfl
          ·rw[List.length_set,midY_len];exact ho5
      ·obtain rfl:k=xs0.length:=by omega
       have ik:¬ (xs0.length:Int)<(xs0.length:Int):=by omega
       have hcR:∀ r∈R,r.1.cost≤1073741824:=fun r hr=>by
        rw[←hgx] at hr
        obtain ⟨x,hx,rfl⟩:=List.mem_map.1 hr
        exact hcs.out x (by rw[List.take_length];exact hx)
       rw[midY_all] at hI
       have hIf:=hI
       have hBr3:=hI.below
       have HBw3:∀ W,Below w3.heap.size w3 W→Below w3.heap.size w3 W:=fun _ h=>h
       have CS0:∀ W2,Below w3.heap.size w3 W2→Calls Tryz.prog 19 #[.slice sA ls.length sc] W2 fun e w'=>∃ v ys,e=.returned v∧sOf ys=S∧StR W2 ys v w':=fun W2 h2=>copystates_any w.heap.size _ S ls W2 (hSc.out.below ((hB3.trans (h2.mono (Nat.le_trans hz1 hz3))).mono hww)) (by have:=h2.size;omega) (fun s hs=>(hSo.out s hs).2.1) hls
       have CW0:∀ W2,Below w3.heap.size w3 W2→Calls Tryz.prog 40 #[.slice lA lw.length lc] W2 fun e w'=>∃ v xs,e=.returned v∧gOf xs=R∧ImpR W2 xs v w':=fun W2 h2=>ways20_any w.heap.size _ R lw W2 (hWc.out.below ((hB3.trans (h2.mono (Nat.le_trans hz1 hz3))).mono hww)) (by have:=h2.size;omega) (fun r hr=>by have:=hR400.out r hr;omega) hlw
       have hok:∀ s∈S,StOk s:=fun s hs=>⟨(hSo.out s hs).1,by have:=(hSo.out s hs).2.1;omega,(hSo.out s hs).2.2⟩
       have hSl:S.length≤60:=by have:=hlS.out;omega
       have hRl:R.length≤60:=by rw[←hWc.out.len];exact hw60
       have CR0:∀ W2,Below w3.heap.size w3 W2→∀ (A1:Option Addr) (c1:Nat) (ys:List StY) (v2:Value) (R2:List WayG) (l2:List WayV),sOf ys=S→StatesIn W2 W2.heap.size (.slice A1 ys.length c1) S (ys.map (·.1))→WaysIn W2 W2.heap.size v2 R2 l2→(∀ r∈R2,r.2.length≤400)→(∀ r∈R2,0≤r.1.cost∧r.1.cost<4294967296)→l2.length≤60→Calls Tryz.prog 46 #[.slice A1 ys.length c1,.int .u32 self,.bool nssa,v2,.slice none 0 0] W2 fun e w'=>∃ v,e=.returned v∧OutW w3.heap.size (routesG S self nssa R2) v w'∧Below W2.heap.size W2 w':=fun W2 h2 A1 c1 ys v2 R2 l2 hys hst hwx h400 hcc hl2=>by
        have C:=oroutes_any W2.heap.size _ S (ys.map (·.1)) self nssa v2 (.slice none 0 0) R2 l2 W2 hst hok hwx (Nat.le_refl _) (by omega) (by rw[←hst.len] at hSl;exact hSl) (fun r hr=>by have:=h400 r hr;omega) hcc hfw.out
        exact Calls.mono C fun e w' h=>OutW.of h h2.size
       have CN0:∀ W2,Below w3.heap.size w3 W2→∀ (A1:Option Addr) (c1:Nat) (ys:List StY),sOf ys=S→StatesIn W2 W2.heap.size (.slice A1 ys.length c1) S (ys.map (·.1))→Calls Tryz.prog 46 #[.slice A1 ys.length c1,.int .u32 self,.bool nssa,.slice none 0 0,.slice none 0 0] W2 fun e w'=>∃ v,e=.returned v∧OutW w3.heap.size [] v w'∧Below W2.heap.size W2 w':=fun W2 h2 A1 c1 ys hys hst=>by
        have C:=CR0 W2 h2 A1 c1 ys (.slice none 0 0) [] [] hys hst ⟨Sl.nil _ _ _,rfl,fun k h=>absurd h (by simp)⟩ (fun r hr=>(by cases hr)) (fun r hr=>(by cases hr)) (by simp)
        rw[routesG_nil] at C
        exact C
       have CF0:∀ W2,Below w3.heap.size w3 W2→∀ (A1:Option Addr) (c1:Nat) (ys:List StY),sOf ys=S→StatesIn W2 W2.heap.size (.slice A1 ys.length c1) S (ys.map (·.1))→Calls Tryz.prog 46 #[.slice A1 ys.length c1,.int .u32 self,.bool nssa,.slice vA xs0.length vc,.slice none 0 0] W2 fun e w'=>∃ v,e=.returned v∧OutW w3.heap.size ((routesG S self nssa R).map (growG d)) v w'∧Below W2.heap.size W2 w':=fun W2 h2 A1 c1 ys hys hst=>by
        have hw2:=(hIf.call h2).ways
        rw[gOf_grow,hgx] at hw2
        have C:=CR0 W2 h2 A1 c1 ys _ (R.map (growG d)) _ hys hst hw2 (fun r hr=>by obtain ⟨r0,h0,rfl⟩:=List.mem_map.1 hr;exact hR400.out r0 h0) (fun r hr=>by obtain ⟨r0,h0,rfl⟩:=List.mem_map.1 hr;have h1:=hcR r0 h0;have h3:=(hRo.out r0 h0).1;show 0≤r0.1.cost+d∧r0.1.cost+d<4294967296;omega) (by simpa using hx60)
        rw[routesG_grow S self nssa R d hcR hd.1 hd.2] at C
        exact C
       have hcost:=routesG_cost S self nssa R hcR (fun r hr=>(hRo.out r hr).1.1)
       replace CR0:=fun W2 h2 A1 c1 ys v2 h5 h6 l2 h7=>CR0 W2 h2 A1 c1 ys v2 R l2 h5 h6 h7 (fun r hr=>hR400.out r hr) (fun r hr=>(hRo.out r hr).1)
       generalize routesG S self nssa R=L at *
       replace CS0:=Lib.hid CS0
       replace CW0:=Lib.hid CW0
       replace CR0:=Lib.hid CR0
       replace CN0:=Lib.hid CN0
       replace CF0:=Lib.hid CF0
       replace HBw3:=Lib.hid HBw3
       replace hcost:=Lib.hid hcost
       replace hcR:=Lib.hid hcR
       replace hok:=Lib.hid hok
       clear hIf
       replace hI:=Lib.hid hI
       go_upto_region 16 with fail
       refine wp_region_vals [some 74,some 75,some 76,some 77,some 78,some 79,some 80,some 81,some 82,some 83,some 84,some 10] (fun W=>Below w3.heap.size w3 W) (fun W W'=>Below W.heap.size W W') (fun i=>if i=11 then 10 else i) (NeaV [0,0,1,0,0,0,0,0,0,2,3,4] [.pointer (some ⟨w.heap.size,0,none⟩),.slice sA ls.length sc,undef,.pointer (some ⟨w.heap.size,1,none⟩),.int .u32 self,.pointer (some ⟨w.heap.size,2,none⟩),.bool nssa,.pointer (some ⟨w.heap.size,3,none⟩),.slice lA lw.length lc,undef,undef,undef] S R w3.heap.size L) hmix (by kernel_rfl) rfl (by decide) (by kernel_rfl) (fun i=>NeaK.call _ _) (Below.refl _ _).drew ?_ ?_
       ·intro t w' a' hI ha i hlt hd'
        simp only[putFrom,Act.put,Nat.reduceAdd,s'a,s'z,s's] at ha
        subst ha
        replace hlt:i<12:=hlt
        have hzw:=hI.size
        have hI3:=HBw3.out w' hI
        rcases (show i=0∨i=1∨i=2∨i=3∨i=4∨i=5∨i=6∨i=7∨i=8∨i=9∨i=10∨i=11 by omega) with rfl | rfl | rfl | rfl | rfl | rfl | rfl | rfl | rfl | rfl | rfl | rfl
        ·refine wpOp_step rfl (fun K' hK => ?_)
         replace hK:=Lib.hid hK
         go_wp2
         exact hK.out _ _ ⟨_,(by simp only[Act.put,q'z,o'g,s'a,s'z,s's]),hI,Below.refl _ _,rfl⟩
        ·have d0:t 0=.pointer (some ⟨w.heap.size,0,none⟩):=(Option.some.inj (hd' 0 (by kernel_rfl))).symm
         rw[d0]
         have hx:=(kc1.below (hB3.trans (hI3.mono (Nat.le_trans hz1 hz3))) kc1.lt).cell 0
         simp only[q'a,q'z] at hx
         refine wpOp_step rfl (fun K' hK => ?_)
         replace hK:=Lib.hid hK
         go_wp2
         exact hK.out _ _ ⟨_,(by simp only[Act.put,q'z,q's,o'g,s'a,s'z,s's]),hI,Below.refl _ _,rfl⟩
        ·have d1:t 1=.slice sA ls.length sc:=(Option.some.inj (hd' 1 (by kernel_rfl))).symm
         rw[d1]
         have CC:=Lib.hid (CS0.out w' hI3)
         refine wpOp_step rfl (fun K' hK => ?_)
         replace hK:=Lib.hid hK
         go_wp2_with (go_at_call 19;refine Calls.mono CC.out ?_;rintro e w4 ⟨vv,ys,rfl,hys,hSt⟩)
         have hst:=hSt.states
         rw[hys] at hst
         obtain ⟨-,Av,cv,rfl,-⟩:=id (Sl.of_own hSt.own)
         exact hK.out _ _ ⟨_,(by simp only[Act.put,q'z,q's,o'g,s'a,s'z,s's]),hI.trans (hSt.below.mono hzw),hSt.below,⟨Av,cv,ys,rfl,hys,hst⟩⟩
        ·refine wpOp_step rfl (fun K' hK => ?_)
         replace hK:=Lib.hid hK
         go_wp2
         exact hK.out _ _ ⟨_,(by simp only[Act.put,q'z,q's,o'g,s'a,s'z,s's]),hI,Below.refl _ _,rfl⟩
        ·have d3:t 3=.pointer (some ⟨w.heap.size,1,none⟩):=(Option.some.inj (hd' 3 (by kernel_rfl))).symm
         rw[d3]
         have hx:=(kc1.below (hB3.trans (hI3.mono (Nat.le_trans hz1 hz3))) kc1.lt).cell 1
         simp only[q'a,q'z,q's] at hx
         refine wpOp_step rfl (fun K' hK => ?_)
         replace hK:=Lib.hid hK
         go_wp2
         exact hK.out _ _ ⟨_,(by simp only[Act.put,q'z,q's,o'g,s'a,s'z,s's]),hI,Below.refl _ _,rfl⟩
        ·refine wpOp_step rfl (fun K' hK => ?_)
         replace hK:=Lib.hid hK
         go_wp2
         exact hK.out _ _ ⟨_,(by simp only[Act.put,q'z,q's,o'g,s'a,s'z,s's]),hI,Below.refl _ _,rfl⟩
        ·have d5:t 5=.pointer (some ⟨w.heap.size,2,none⟩):=(Option.some.inj (hd' 5 (by kernel_rfl))).symm
         rw[d5]
         have hx:=(kc1.below (hB3.trans (hI3.mono (Nat.le_trans hz1 hz3))) kc1.lt).cell 2
         simp only[q'a,q'z,q's] at hx
         refine wpOp_step rfl (fun K' hK => ?_)
         replace hK:=Lib.hid hK
         go_wp2
         exact hK.out _ _ ⟨_,(by simp only[Act.put,q'z,q's,o'g,s'a,s'z,s's]),hI,Below.refl _ _,rfl⟩
        ·refine wpOp_step rfl (fun K' hK => ?_)
         replace hK:=Lib.hid hK
         go_wp2
         exact hK.out _ _ ⟨_,(by simp only[Act.put,q'z,q's,o'g,s'a,s'z,s's]),hI,Below.refl _ _,rfl⟩
        ·have d7:t 7=.pointer (some ⟨w.heap.size,3,none⟩):=(Option.some.inj (hd' 7 (by kernel_rfl))).symm
         rw[d7]
         have hx:=(kc1.below (hB3.trans (hI3.mono (Nat.le_trans hz1 hz3))) kc1.lt).cell 3
         simp only[q'a,q'z,q's] at hx
         refine wpOp_step rfl (fun K' hK => ?_)
         replace hK:=Lib.hid hK
         go_wp2
         exact hK.out _ _ ⟨_,(by simp only[Act.put,q'z,q's,o'g,s'a,s'z,s's]),hI,Below.refl _ _,rfl⟩
        ·have d8:t 8=.slice lA lw.length lc:=(Option.some.inj (hd' 8 (by kernel_rfl))).symm
         rw[d8]
         have CC:=Lib.hid (CW0.out w' hI3)
         refine wpOp_step rfl (fun K' hK => ?_)
         replace hK:=Lib.hid hK
         go_wp2_with (go_at_call 40;refine Calls.mono CC.out ?_;rintro e w4 ⟨vv,xs,rfl,hgx',hIx⟩)
         have hwx:=hIx.ways
         rw[hgx'] at hwx
         obtain ⟨-,Av,cv,rfl,-⟩:=id (Sl.of_own hIx.own)
         exact hK.out _ _ ⟨_,(by simp only[Act.put,q'z,q's,o'g,s'a,s'z,s's]),hI.trans (hIx.below.mono hzw),hIx.below,⟨Av,cv,xs,rfl,hwx⟩⟩
        ·obtain ⟨A1,c1,ys,d2,hys,hst⟩:=hd' 2 (by kernel_rfl)
         rw[d2]
         have d4:t 4=.int .u32 self:=(Option.some.inj (hd' 4 (by kernel_rfl))).symm
         rw[d4]
         have d6:t 6=.bool nssa:=(Option.some.inj (hd' 6 (by kernel_rfl))).symm
         rw[d6]
         obtain ⟨A2,c2,xs,d9,hwx⟩:=hd' 9 (by kernel_rfl)
         rw[d9]
         have CC:=Lib.hid (CR0.out w' hI3 A1 c1 ys (.slice A2 xs.length c2) hys hst (xs.map (·.1)) hwx (by rw[hwx.len];exact hRl))
         refine wpOp_step rfl (fun K' hK => ?_)
         replace hK:=Lib.hid hK
         go_wp2_with (go_at_call 46;refine Calls.mono CC.out ?_;rintro e w4 ⟨v4,rfl,hO4,hB4⟩)
         exact hK.out _ _ ⟨_,(by simp only[Act.put,q'z,q's,o'g,s'a,s'z,s's]),hI.trans (hB4.mono hzw),hB4,hO4⟩
        ·refine wpOp_step rfl (fun K' hK => ?_)
         replace hK:=Lib.hid hK
         go_wp2
         exact hK.out _ _ ⟨(t 10),(by simp only[Act.put,q'z,q's,o'g,s'a,s'z,s's]),hI,Below.refl _ _,rfl⟩
       ·intro t wr a' hI ha hv
        simp only[putFrom,Act.put,Nat.reduceAdd,s'a,s'z,s's] at ha
        subst ha
        obtain ⟨Na,nc,xs1,h10,ho1,hg1⟩:=hv 10 (by decide)
        have h11:t 11=t 10:=hv 11 (by decide)
        rw[h10] at h11
        rw[h11]
        clear hv h10 h11
        obtain ⟨w5,rfl⟩:∃ x:World,x=wr:=⟨_,rfl⟩
        have hB5:=hI
        have hz5:=hB5.size
        have HBw5:=Lib.hid (fun (W:World) (h:Below w5.heap.size w5 W)=>hB5.trans (h.mono hz5))
        replace ho1:=Lib.hid ho1
        replace hg1:=Lib.hid hg1
        go_upto_region 17 with fail
        refine wp_region_vals [some 85,some 86,some 87,some 88,some 89,some 90,some 91,some 92,some 93,some 11] (fun W=>Below w5.heap.size w5 W) (fun W W'=>Below W.heap.size W W') (fun i=>if i=9 then 8 else i) (NeaV [0,0,1,0,0,0,0,0,3,4] [.pointer (some ⟨w.heap.size,0,none⟩),.slice sA ls.length sc,undef,.pointer (some ⟨w.heap.size,1,none⟩),.int .u32 self,.pointer (some ⟨w.heap.size,2,none⟩),.bool nssa,.slice vA xs0.length vc,undef,undef] S R w3.heap.size (L.map (growG d))) hmix (by kernel_rfl) rfl (by decide) (by kernel_rfl) (fun i=>NeaK.call _ _) (Below.refl _ _).drew ?_ ?_
        ·intro t w' a' hI ha i hlt hd'
         simp only[putFrom,Act.put,Nat.reduceAdd,s'a,s'z,s's] at ha
         subst ha
         replace hlt:i<10:=hlt
         have hzw:=hI.size
         have hI3:=HBw5.out w' hI
         rcases (show i=0∨i=1∨i=2∨i=3∨i=4∨i=5∨i=6∨i=7∨i=8∨i=9 by omega) with rfl | rfl | rfl | rfl | rfl | rfl | rfl | rfl | rfl | rfl
         ·refine wpOp_step rfl (fun K' hK => ?_)
          replace hK:=Lib.hid hK
          go_wp2
          exact hK.out _ _ ⟨_,(by simp only[Act.put,q'z,o'g,s'a,s'z,s's]),hI,Below.refl _ _,rfl⟩
         ·have d0:t 0=.pointer (some ⟨w.heap.size,0,none⟩):=(Option.some.inj (hd' 0 (by kernel_rfl))).symm
          rw[d0]
          have hx:=(kc1.below (hB3.trans (hI3.mono (Nat.le_trans hz1 hz3))) kc1.lt).cell 0
          simp only[q'a,q'z] at hx
          refine wpOp_step rfl (fun K' hK => ?_)
          replace hK:=Lib.hid hK
          go_wp2
          exact hK.out _ _ ⟨_,(by simp only[Act.put,q'z,q's,o'g,s'a,s'z,s's]),hI,Below.refl _ _,rfl⟩
         ·have d1:t 1=.slice sA ls.length sc:=(Option.some.inj (hd' 1 (by kernel_rfl))).symm
          rw[d1]
          have CC:=Lib.hid (CS0.out w' hI3)
          refine wpOp_step rfl (fun K' hK => ?_)
          replace hK:=Lib.hid hK
          go_wp2_with (go_at_call 19;refine Calls.mono CC.out ?_;rintro e w4 ⟨vv,ys,rfl,hys,hSt⟩)
          have hst:=hSt.states
          rw[hys] at hst
          obtain ⟨-,Av,cv,rfl,-⟩:=id (Sl.of_own hSt.own)
          exact hK.out _ _ ⟨_,(by simp only[Act.put,q'z,q's,o'g,s'a,s'z,s's]),hI.trans (hSt.below.mono hzw),hSt.below,⟨Av,cv,ys,rfl,hys,hst⟩⟩
         ·refine wpOp_step rfl (fun K' hK => ?_)
          replace hK:=Lib.hid hK
          go_wp2
          exact hK.out _ _ ⟨_,(by simp only[Act.put,q'z,q's,o'g,s'a,s'z,s's]),hI,Below.refl _ _,rfl⟩
         ·have d3:t 3=.pointer (some ⟨w.heap.size,1,none⟩):=(Option.some.inj (hd' 3 (by kernel_rfl))).symm
          rw[d3]
          have hx:=(kc1.below (hB3.trans (hI3.mono (Nat.le_trans hz1 hz3))) kc1.lt).cell 1
          simp only[q'a,q'z,q's] at hx
          refine wpOp_step rfl (fun K' hK => ?_)
          replace hK:=Lib.hid hK
          go_wp2
          exact hK.out _ _ ⟨_,(by simp only[Act.put,q'z,q's,o'g,s'a,s'z,s's]),hI,Below.refl _ _,rfl⟩
         ·refine wpOp_step rfl (fun K' hK => ?_)
          replace hK:=Lib.hid hK
          go_wp2
          exact hK.out _ _ ⟨_,(by simp only[Act.put,q'z,q's,o'g,s'a,s'z,s's]),hI,Below.refl _ _,rfl⟩
         ·have d5:t 5=.pointer (some ⟨w.heap.size,2,none⟩):=(Option.some.inj (hd' 5 (by kernel_rfl))).symm
          rw[d5]
          have hx:=(kc1.below (hB3.trans (hI3.mono (Nat.le_trans hz1 hz3))) kc1.lt).cell 2
          simp only[q'a,q'z,q's] at hx
          refine wpOp_step rfl (fun K' hK => ?_)
          replace hK:=Lib.hid hK
          go_wp2
          exact hK.out _ _ ⟨_,(by simp only[Act.put,q'z,q's,o'g,s'a,s'z,s's]),hI,Below.refl _ _,rfl⟩
         ·refine wpOp_step rfl (fun K' hK => ?_)
          replace hK:=Lib.hid hK
          go_wp2
          exact hK.out _ _ ⟨_,(by simp only[Act.put,q'z,q's,o'g,s'a,s'z,s's]),hI,Below.refl _ _,rfl⟩
         ·obtain ⟨A1,c1,ys,d2,hys,hst⟩:=hd' 2 (by kernel_rfl)
          rw[d2]
          have d4:t 4=.int .u32 self:=(Option.some.inj (hd' 4 (by kernel_rfl))).symm
          rw[d4]
          have d6:t 6=.bool nssa:=(Option.some.inj (hd' 6 (by kernel_rfl))).symm
          rw[d6]
          have d7:t 7=.slice vA xs0.length vc:=(Option.some.inj (hd' 7 (by kernel_rfl))).symm
          rw[d7]
          have CC:=Lib.hid (CF0.out w' hI3 A1 c1 ys hys hst)
          refine wpOp_step rfl (fun K' hK => ?_)
          replace hK:=Lib.hid hK
          go_wp2_with (go_at_call 46;refine Calls.mono CC.out ?_;rintro e w4 ⟨v4,rfl,hO4,hB4⟩)
          exact hK.out _ _ ⟨_,(by simp only[Act.put,q'z,q's,o'g,s'a,s'z,s's]),hI.trans (hB4.mono hzw),hB4,hO4⟩
         ·refine wpOp_step rfl (fun K' hK => ?_)
          replace hK:=Lib.hid hK
          go_wp2
          exact hK.out _ _ ⟨(t 8),(by simp only[Act.put,q'z,q's,o'g,s'a,s'z,s's]),hI,Below.refl _ _,rfl⟩
        ·intro t wr a' hI ha hv
         simp only[putFrom,Act.put,Nat.reduceAdd,s'a,s'z,s's] at ha
         subst ha
         obtain ⟨Fa,fc,xs2,h8',ho2,hg2⟩:=hv 8 (by decide)
         have h9:t 9=t 8:=hv 9 (by decide)
         rw[h8'] at h9
         rw[h9]
         clear hv h8' h9
         obtain ⟨w7,rfl⟩:∃ x:World,x=wr:=⟨_,rfl⟩
         have hB7:=hB5.trans (hI.mono hz5)
         have hz7:=hB7.size
         have HBw7:=Lib.hid (fun (W:World) (h:Below w7.heap.size w7 W)=>hB7.trans (h.mono hz7))
         replace ho1:=Lib.hid (own_below ho1.out hI)
         have hgg:gOf xs2=(gOf xs1).map (growG d):=by rw[hg2,insAll_grow,←hg1.out]
         have hlen:xs2.length=xs1.length:=by
          have h1:=congrArg List.length hgg
          simpa[gOf] using h1
         replace ho2:=Lib.hid ho2
         clear hg2
         replace hgg:=Lib.hid hgg
         rw[hlen]
         replace hlen:=Lib.hid hlen
         have hne:((xs1.length:Int) != (xs1.length:Int))=false:=by simp
         go_upto_region 18 with fail
         refine wp_region_vals [some 94,some 95,some 96,some 97,some 98,some 99,some 100,some 101,some 102,some 103,some 104,some 105,some 106,some 107,some 108,some 109,some 110] (fun W=>Below w7.heap.size w7 W) (fun W W'=>Below W.heap.size W W') (id) (NeaV [0,0,0,0,0,0,0,0,1,0,0,0,0,3,0,0,0] [.slice Na xs1.length nc,.int .i64 xs1.length,.slice Fa xs1.length fc,.int .i64 xs1.length,.bool false,.bool false,.pointer (some ⟨w.heap.size,0,none⟩),.slice sA ls.length sc,undef,.pointer (some ⟨w.heap.size,1,none⟩),.int .u32 self,.pointer (some ⟨w.heap.size,2,none⟩),.bool nssa,undef,.int .i64 0,.bool false,.bool false] S R w3.heap.size []) hmix (by kernel_rfl) rfl (by decide) (by kernel_rfl) (fun i=>NeaK.call _ _) (Below.refl _ _).drew ?_ ?_
         ·intro t w' a' hI ha i hlt hd'
          simp only[putFrom,Act.put,Nat.reduceAdd,s'a,s'z,s's] at ha
          subst ha
          replace hlt:i<17:=hlt
          have hzw:=hI.size
          have hI3:=HBw7.out w' hI
          rcases (show i=0∨i=1∨i=2∨i=3∨i=4∨i=5∨i=6∨i=7∨i=8∨i=9∨i=10∨i=11∨i=12∨i=13∨i=14∨i=15∨i=16 by omega) with rfl | rfl | rfl | rfl | rfl | rfl | rfl | rfl | rfl | rfl | rfl | rfl | rfl | rfl | rfl | rfl | rfl
          ·refine wpOp_step rfl (fun K' hK => ?_)
           replace hK:=Lib.hid hK
           go_wp2
           exact hK.out _ _ ⟨_,(by simp only[Act.put,q'z,o'g,s'a,s'z,s's]),hI,Below.refl _ _,rfl⟩
          ·have d0:t 0=.slice Na xs1.length nc:=(Option.some.inj (hd' 0 (by kernel_rfl))).symm
           rw[d0]
           refine wpOp_step rfl (fun K' hK => ?_)
           replace hK:=Lib.hid hK
           go_wp2
           exact hK.out _ _ ⟨_,(by simp only[Act.put,q'z,q's,o'g,s'a,s'z,s's]),hI,Below.refl _ _,rfl⟩
          ·refine wpOp_step rfl (fun K' hK => ?_)
           replace hK:=Lib.hid hK
           go_wp2
           exact hK.out _ _ ⟨_,(by simp only[Act.put,q'z,q's,o'g,s'a,s'z,s's]),hI,Below.refl _ _,rfl⟩
          ·have d2:t 2=.slice Fa xs1.length fc:=(Option.some.inj (hd' 2 (by kernel_rfl))).symm
           rw[d2]
           refine wpOp_step rfl (fun K' hK => ?_)
           replace hK:=Lib.hid hK
           go_wp2
           exact hK.out _ _ ⟨_,(by simp only[Act.put,q'z,q's,o'g,s'a,s'z,s's]),hI,Below.refl _ _,rfl⟩
          ·have d1:t 1=.int .i64 xs1.length:=(Option.some.inj (hd' 1 (by kernel_rfl))).symm
           rw[d1]
           have d3:t 3=.int .i64 xs1.length:=(Option.some.inj (hd' 3 (by kernel_rfl))).symm
           rw[d3]
           refine wpOp_step rfl (fun K' hK => ?_)
           replace hK:=Lib.hid hK
           go_wp2
           exact hK.out _ _ ⟨_,(by simp only[Act.put,q'z,q's,o'g,s'a,s'z,s's]),hI,Below.refl _ _,rfl⟩
          ·have d4:t 4=.bool false:=(Option.some.inj (hd' 4 (by kernel_rfl))).symm
           rw[d4]
           refine wpOp_step rfl (fun K' hK => ?_)
           replace hK:=Lib.hid hK
           go_wp2
           exact hK.out _ _ ⟨_,(by simp only[Act.put,q'z,q's,o'g,s'a,s'z,s's]),hI,Below.refl _ _,rfl⟩
          ·have d5:t 5=.bool false:=(Option.some.inj (hd' 5 (by kernel_rfl))).symm
           rw[d5]
           refine wpOp_step rfl (fun K' hK => ?_)
           replace hK:=Lib.hid hK
           go_wp2
           exact hK.out _ _ ⟨_,(by simp only[Act.put,q'z,q's,o'g,s'a,s'z,s's]),hI,Below.refl _ _,rfl⟩
          ·have d5:t 5=.bool false:=(Option.some.inj (hd' 5 (by kernel_rfl))).symm
           rw[d5]
           have d6:t 6=.pointer (some ⟨w.heap.size,0,none⟩):=(Option.some.inj (hd' 6 (by kernel_rfl))).symm
           rw[d6]
           have hx:=(kc1.below (hB3.trans (hI3.mono (Nat.le_trans hz1 hz3))) kc1.lt).cell 0
           simp only[q'a,q'z] at hx
           refine wpOp_step rfl (fun K' hK => ?_)
           replace hK:=Lib.hid hK
           go_wp2
           exact hK.out _ _ ⟨_,(by simp only[Act.put,q'z,q's,o'g,s'a,s'z,s's]),hI,Below.refl _ _,rfl⟩
          ·have d5:t 5=.bool false:=(Option.some.inj (hd' 5 (by kernel_rfl))).symm
           rw[d5]
           have d7:t 7=.slice sA ls.length sc:=(Option.some.inj (hd' 7 (by kernel_rfl))).symm
           rw[d7]
           have CC:=Lib.hid (CS0.out w' hI3)
           refine wpOp_step rfl (fun K' hK => ?_)
           replace hK:=Lib.hid hK
           go_wp2_with (go_at_call 19;refine Calls.mono CC.out ?_;rintro e w4 ⟨vv,ys,rfl,hys,hSt⟩)
           have hst:=hSt.states
           rw[hys] at hst
           obtain ⟨-,Av,cv,rfl,-⟩:=id (Sl.of_own hSt.own)
           exact hK.out _ _ ⟨_,(by simp only[Act.put,q'z,q's,o'g,s'a,s'z,s's]),hI.trans (hSt.below.mono hzw),hSt.below,⟨Av,cv,ys,rfl,hys,hst⟩⟩
          ·have d5:t 5=.bool false:=(Option.some.inj (hd' 5 (by kernel_rfl))).symm
           rw[d5]
           refine wpOp_step rfl (fun K' hK => ?_)
           replace hK:=Lib.hid hK
           go_wp2
           exact hK.out _ _ ⟨_,(by simp only[Act.put,q'z,q's,o'g,s'a,s'z,s's]),hI,Below.refl _ _,rfl⟩
          ·have d5:t 5=.bool false:=(Option.some.inj (hd' 5 (by kernel_rfl))).symm
           rw[d5]
           have d9:t 9=.pointer (some ⟨w.heap.size,1,none⟩):=(Option.some.inj (hd' 9 (by kernel_rfl))).symm
           rw[d9]
           have hx:=(kc1.below (hB3.trans (hI3.mono (Nat.le_trans hz1 hz3))) kc1.lt).cell 1
           simp only[q'a,q'z,q's] at hx
           refine wpOp_step rfl (fun K' hK => ?_)
           replace hK:=Lib.hid hK
           go_wp2
           exact hK.out _ _ ⟨_,(by simp only[Act.put,q'z,q's,o'g,s'a,s'z,s's]),hI,Below.refl _ _,rfl⟩
          ·have d5:t 5=.bool false:=(Option.some.inj (hd' 5 (by kernel_rfl))).symm
           rw[d5]
           refine wpOp_step rfl (fun K' hK => ?_)
           replace hK:=Lib.hid hK
           go_wp2
           exact hK.out _ _ ⟨_,(by simp only[Act.put,q'z,q's,o'g,s'a,s'z,s's]),hI,Below.refl _ _,rfl⟩
          ·have d5:t 5=.bool false:=(Option.some.inj (hd' 5 (by kernel_rfl))).symm
           rw[d5]
           have d11:t 11=.pointer (some ⟨w.heap.size,2,none⟩):=(Option.some.inj (hd' 11 (by kernel_rfl))).symm
           rw[d11]
           have hx:=(kc1.below (hB3.trans (hI3.mono (Nat.le_trans hz1 hz3))) kc1.lt).cell 2
           simp only[q'a,q'z,q's] at hx
           refine wpOp_step rfl (fun K' hK => ?_)
           replace hK:=Lib.hid hK
           go_wp2
           exact hK.out _ _ ⟨_,(by simp only[Act.put,q'z,q's,o'g,s'a,s'z,s's]),hI,Below.refl _ _,rfl⟩
          ·have d5:t 5=.bool false:=(Option.some.inj (hd' 5 (by kernel_rfl))).symm
           rw[d5]
           obtain ⟨A1,c1,ys,d8,hys,hst⟩:=hd' 8 (by kernel_rfl)
           rw[d8]
           have d10:t 10=.int .u32 self:=(Option.some.inj (hd' 10 (by kernel_rfl))).symm
           rw[d10]
           have d12:t 12=.bool nssa:=(Option.some.inj (hd' 12 (by kernel_rfl))).symm
           rw[d12]
           have CC:=Lib.hid (CN0.out w' hI3 A1 c1 ys hys hst)
           refine wpOp_step rfl (fun K' hK => ?_)
           replace hK:=Lib.hid hK
           go_wp2_with (go_at_call 46;refine Calls.mono CC.out ?_;rintro e w4 ⟨v4,rfl,hO4,hB4⟩)
           exact hK.out _ _ ⟨_,(by simp only[Act.put,q'z,q's,o'g,s'a,s'z,s's]),hI.trans (hB4.mono hzw),hB4,hO4⟩
          ·have d5:t 5=.bool false:=(Option.some.inj (hd' 5 (by kernel_rfl))).symm
           rw[d5]
           obtain ⟨z1,z2,d13⟩:=OutW.nil (hd' 13 (by kernel_rfl))
           rw[d13]
           refine wpOp_step rfl (fun K' hK => ?_)
           replace hK:=Lib.hid hK
           go_wp2
           exact hK.out _ _ ⟨_,(by simp only[Act.put,q'z,q's,o'g,s'a,s'z,s's]),hI,Below.refl _ _,rfl⟩
          ·have d5:t 5=.bool false:=(Option.some.inj (hd' 5 (by kernel_rfl))).symm
           rw[d5]
           have d14:t 14=.int .i64 0:=(Option.some.inj (hd' 14 (by kernel_rfl))).symm
           rw[d14]
           refine wpOp_step rfl (fun K' hK => ?_)
           replace hK:=Lib.hid hK
           go_wp2
           exact hK.out _ _ ⟨_,(by simp only[Act.put,q'z,q's,o'g,s'a,s'z,s's]),hI,Below.refl _ _,rfl⟩
          ·have d5:t 5=.bool false:=(Option.some.inj (hd' 5 (by kernel_rfl))).symm
           rw[d5]
           have d15:t 15=.bool false:=(Option.some.inj (hd' 15 (by kernel_rfl))).symm
           rw[d15]
           refine wpOp_step rfl (fun K' hK => ?_)
           replace hK:=Lib.hid hK
           go_wp2
           exact hK.out _ _ ⟨_,(by simp only[Act.put,q'z,q's,o'g,s'a,s'z,s's]),hI,Below.refl _ _,rfl⟩
         ·intro t wr a' hI ha hv
          simp only[putFrom,Act.put,Nat.reduceAdd,s'a,s'z,s's] at ha
          subst ha
          have h16:t 16=.bool false:=(Option.some.inj (hv 16 (by decide))).symm
          rw[h16]
          clear hv h16
          obtain ⟨w9,rfl⟩:∃ x:World,x=wr:=⟨_,rfl⟩
          have hB9:=hB7.trans (hI.mono hz7)
          have hz9:=hB9.size
          have hs1:=Lib.hid (Sl.of_own (own_below ho1.out hI))
          have hs2:=Lib.hid (Sl.of_own (own_below ho2.out hI))
          have hmx:=sl_max20 hs1.out
          clear ho1 ho2
          go_wp2_with fail
          go_loopg [12] xs1.length (fun c iv wx=>∃ k:Nat,k≤xs1.length∧c=xs1.length-k∧iv=.int .i64 k∧Below w9.heap.size w9 wx)
          case atStart=>exact ⟨0,Nat.zero_le _,rfl,rfl,Below.refl _ _⟩
          case round =>
           obtain ⟨k,hk,rfl,rfl,hBr⟩:=hrel
           obtain ⟨w2,rfl⟩:∃ x:World,x=wr:=⟨_,rfl⟩
           have hz2:=hBr.size
           by_cases hkm:k<xs1.length
           ·have hk2:k<xs2.length:=by have:=hlen.out;omega
            obtain ⟨b1,o1,hv1,hb1,hr1⟩:=Sl.row yE.len hs1.out hkm
            subst hv1
            obtain ⟨b2,o2,hv2,hb2,hr2⟩:=Sl.row yE.len hs2.out hk2
            subst hv2
            have hxy:((xs2[k].1.n,xs2[k].2):WayG)=growG d (xs1[k].1.n,xs1[k].2):=by
             have h1:=congrArg (fun z=>z[k]?) hgg.out
             simp only[gOf,List.getElem?_map,List.getElem?_eq_getElem hk2,List.getElem?_eq_getElem hkm,Option.map_some,Option.some.injEq] at h1
             exact h1
            have hcx:0≤xs1[k].1.n.cost∧xs1[k].1.n.cost≤1090519039:=by
             have h1:((xs1[k].1.n,xs1[k].2):WayG)∈gOf xs1:=List.mem_map.2 ⟨_,List.getElem_mem hkm,rfl⟩
             rw[hg1.out] at h1
             exact insAll_all (P:=fun n=>0≤n.cost∧n.cost≤1090519039) hcost.out _ h1
            obtain ⟨x,hx⟩:∃ x,x=xs1[k]:=⟨_,rfl⟩
            rw[←hx] at hr1 hxy hcx
            clear hx
            obtain ⟨y,hy⟩:∃ y,y=xs2[k]:=⟨_,rfl⟩
            rw[←hy] at hr2 hxy
            clear hy
            obtain ⟨⟨⟨y0,y1,y2,y3,y4,y5,y6,y7,y8⟩,xA,xn,xc⟩,xh⟩:=x
            obtain ⟨⟨yw,yA,yn,yc⟩,yh⟩:=y
            have hyw:yw=growN d ⟨y0,y1,y2,y3,y4,y5,y6,y7,y8⟩:=congrArg Prod.fst hxy
            subst hyw
            dsimp only at hcx
            clear hxy
            have cc1:=Lib.hid (fun (W:World) (h:Below w9.heap.size w9 W) (q:Nat) (u:Value) (hu:(yL ((⟨⟨y0,y1,y2,y3,y4,y5,y6,y7,y8⟩,xA,xn,xc⟩,xh):WayY))[q]?=some u)=>(h.cell (p:=⟨b1,o1+k*10+q,none⟩) hb1).trans (hr1 q u hu))
            have cc2:=Lib.hid (fun (W:World) (h:Below w9.heap.size w9 W) (q:Nat) (u:Value) (hu:(yL ((⟨⟨y0,y1,y2,y3,y4,y5,y6+d,y7,y8⟩,yA,yn,yc⟩,yh):WayY))[q]?=some u)=>(h.cell (p:=⟨b2,o2+k*10+q,none⟩) hb2).trans (hr2 q u hu))
            clear hr1 hr2
            have CBt:=fun W=>better_any ⟨y0,y1,y2,y3,y4,y5,y6,y7,y8⟩ (growN d ⟨y0,y1,y2,y3,y4,y5,y6,y7,y8⟩) (.slice xA xn xc) (.slice yA yn yc) W
            have hbp:¬ (0:Int)<betterP ⟨y0,y1,y2,y3,y4,y5,y6,y7,y8⟩ (growN d ⟨y0,y1,y2,y3,y4,y5,y6,y7,y8⟩):=by have:=better_dearer d hd.1 ⟨y0,y1,y2,y3,y4,y5,y6,y7,y8⟩;omega
            generalize betterP ⟨y0,y1,y2,y3,y4,y5,y6,y7,y8⟩ (growN d ⟨y0,y1,y2,y3,y4,y5,y6,y7,y8⟩)=bp at CBt hbp
            dsimp only[wayC,growN] at CBt
            replace CBt:=Lib.hid CBt
            have heqp:=fun W=>neq_preN y0 y1 W
            have iw0:IntKind.u32.wrap d=d:=IntWalk.u32_in _ (by omega)
            have iw1:IntKind.u32.wrap (y6+d)=y6+d:=IntWalk.u32_in _ (by omega)
            have hn6:((y6+d) != (y6+d))=false:=by simp
            have hn4:(y4 != y4)=false:=by simp
            have ik:(k:Int)<(xs1.length:Int):=by omega
            go_upto_region 23 with fail
            refine wp_region_vals [some 117,some 118,some 119,some 120,some 121,some 122,some 123,some 124,some 125,some 126,some 127,some 128,some 129,some 130,some 131,some 132,some 133,some 134,some 135,some 136,some 137,some 138,some 139,some 140,some 141,some 142,some 143,some 144,some 145,some 146,some 147,some 148,some 149,some 150,some 151,some 152,some 153,some 154,some 155,some 156,some 157,some 158,some 159,some 160,some 161,some 162,some 163,some 164,some 165,some 166,some 167,some 168] (fun W=>Below w2.heap.size w2 W) (fun W W'=>Below W.heap.size W W') id (ValV [.slice (some ⟨b1,o1,none⟩) xs1.length nc,.int .i64 k,.pointer (some ⟨b1,o1+k*10,none⟩),.pointer (some ⟨b1,o1+k*10,none⟩),.agg #[.int .u32 y0,.int .u8 y1],.slice (some ⟨b2,o2,none⟩) xs1.length fc,.int .i64 k,.pointer (some ⟨b2,o2+k*10,none⟩),.pointer (some ⟨b2,o2+k*10,none⟩),.agg #[.int .u32 y0,.int .u8 y1],.bool false,.bool false,.slice (some ⟨b1,o1,none⟩) xs1.length nc,.int .i64 k,.pointer (some ⟨b1,o1+k*10,none⟩),.agg #[.int .u32 y0,.int .u8 y1,.int .u32 y2,.int .u8 y3,.int .u8 y4,.int .u32 y5,.int .u32 y6,.int .u32 y7,.int .u32 y8,.slice xA xn xc],.slice (some ⟨b2,o2,none⟩) xs1.length fc,.int .i64 k,.pointer (some ⟨b2,o2+k*10,none⟩),.agg #[.int .u32 y0,.int .u8 y1,.int .u32 y2,.int .u8 y3,.int .u8 y4,.int .u32 y5,.int .u32 (y6+d),.int .u32 y7,.int .u32 y8,.slice yA yn yc],.int .i64 bp,.bool false,.bool false,.bool false,.slice (some ⟨b2,o2,none⟩) xs1.length fc,.int .i64 k,.pointer (some ⟨b2,o2+k*10,none⟩),.pointer (some ⟨b2,o2+k*10+6,none⟩),.int .u32 (y6+d),.slice (some ⟨b1,o1,none⟩) xs1.length nc,.int .i64 k,.pointer (some ⟨b1,o1+k*10,none⟩),.pointer (some ⟨b1,o1+k*10+6,none⟩),.int .u32 y6,.int .u16 d,.int .u32 d,.int .u32 (y6+d),.bool false,.bool false,.bool false,.slice (some ⟨b1,o1,none⟩) xs1.length nc,.int .i64 k,.pointer (some ⟨b1,o1+k*10,none⟩),.pointer (some ⟨b1,o1+k*10+4,none⟩),.int .u8 y4,.slice (some ⟨b2,o2,none⟩) xs1.length fc,.int .i64 k,.pointer (some ⟨b2,o2+k*10,none⟩),.pointer (some ⟨b2,o2+k*10+4,none⟩),.int .u8 y4,.bool false,.bool false]) hmix (by kernel_rfl) rfl (by decide) (by kernel_rfl) (fun _ _ _ _ _ _ h=>h) (Below.refl _ _).drew ?_ ?_
            ·intro t w' a' hI' ha j' hlt' hd'
             simp only[putFrom,Act.put,Nat.reduceAdd,s'a,s'z,s's] at ha
             subst ha
             replace hlt':j'<52:=hlt'
             have hzw:=hI'.size
             have hJ:=hBr.trans (hI'.mono hz2)
             rcases (show j'=0∨j'=1∨j'=2∨j'=3∨j'=4∨j'=5∨j'=6∨j'=7∨j'=8∨j'=9∨j'=10∨j'=11∨j'=12∨j'=13∨j'=14∨j'=15∨j'=16∨j'=17∨j'=18∨j'=19∨j'=20∨j'=21∨j'=22∨j'=23∨j'=24∨j'=25∨j'=26∨j'=27∨j'=28∨j'=29∨j'=30∨j'=31∨j'=32∨j'=33∨j'=34∨j'=35∨j'=36∨j'=37∨j'=38∨j'=39∨j'=40∨j'=41∨j'=42∨j'=43∨j'=44∨j'=45∨j'=46∨j'=47∨j'=48∨j'=49∨j'=50∨j'=51 by omega) with rfl | rfl | rfl | rfl | rfl | rfl | rfl | rfl | rfl | rfl | rfl | rfl | rfl | rfl | rfl | rfl | rfl | rfl | rfl | rfl | rfl | rfl | rfl | rfl | rfl | rfl | rfl | rfl | rfl | rfl | rfl | rfl | rfl | rfl | rfl | rfl | rfl | rfl | rfl | rfl | rfl | rfl | rfl | rfl | rfl | rfl | rfl | rfl | rfl | rfl | rfl | rfl
             ·refine wpOp_step rfl (fun K' hK => ?_)
              replace hK:=Lib.hid hK
              go_wp2
              exact hK.out _ _ ⟨_,(by simp only[Act.put,q'z,o'g,s'a,s'z,s's]),hI',Below.refl _ _,rfl⟩
             ·refine wpOp_step rfl (fun K' hK => ?_)
              replace hK:=Lib.hid hK
              go_wp2
              exact hK.out _ _ ⟨_,(by simp only[Act.put,q'z,q's,o'g,s'a,s'z,s's]),hI',Below.refl _ _,rfl⟩
             ·have d0:t 0=.slice (some ⟨b1,o1,none⟩) xs1.length nc:=(Option.some.inj (hd' 0 (by kernel_rfl))).symm
              rw[d0]
              have d1:t 1=.int .i64 k:=(Option.some.inj (hd' 1 (by kernel_rfl))).symm
              rw[d1]
              refine wpOp_step rfl (fun K' hK => ?_)
              replace hK:=Lib.hid hK
              go_wp2
              exact hK.out _ _ ⟨_,(by simp only[Act.put,q'z,q's,o'g,s'a,s'z,s's]),hI',Below.refl _ _,rfl⟩
             ·have d2:t 2=.pointer (some ⟨b1,o1+k*10,none⟩):=(Option.some.inj (hd' 2 (by kernel_rfl))).symm
              rw[d2]
              refine wpOp_step rfl (fun K' hK => ?_)
              replace hK:=Lib.hid hK
              go_wp2
              exact hK.out _ _ ⟨_,(by simp only[Act.put,q'z,q's,o'g,s'a,s'z,s's]),hI',Below.refl _ _,rfl⟩
             ·have d3:t 3=.pointer (some ⟨b1,o1+k*10,none⟩):=(Option.some.inj (hd' 3 (by kernel_rfl))).symm
              rw[d3]
              have f0:w'.cell? ⟨b1,o1+k*10,none⟩=some (.int .u32 y0):=cc1.out w' hJ 0 _ rfl
              have f1:w'.cell? ⟨b1,o1+k*10+1,none⟩=some (.int .u8 y1):=cc1.out w' hJ 1 _ rfl
              refine wpOp_step rfl (fun K' hK => ?_)
              replace hK:=Lib.hid hK
              go_wp2
              exact hK.out _ _ ⟨_,(by simp only[Act.put,q'z,q's,o'g,s'a,s'z,s's]),hI',Below.refl _ _,rfl⟩
             ·refine wpOp_step rfl (fun K' hK => ?_)
              replace hK:=Lib.hid hK
              go_wp2
              exact hK.out _ _ ⟨_,(by simp only[Act.put,q'z,q's,o'g,s'a,s'z,s's]),hI',Below.refl _ _,rfl⟩
             ·refine wpOp_step rfl (fun K' hK => ?_)
              replace hK:=Lib.hid hK
              go_wp2
              exact hK.out _ _ ⟨_,(by simp only[Act.put,q'z,q's,o'g,s'a,s'z,s's]),hI',Below.refl _ _,rfl⟩
             ·have d5:t 5=.slice (some ⟨b2,o2,none⟩) xs1.length fc:=(Option.some.inj (hd' 5 (by kernel_rfl))).symm
              rw[d5]
              have d6:t 6=.int .i64 k:=(Option.some.inj (hd' 6 (by kernel_rfl))).symm
              rw[d6]
              refine wpOp_step rfl (fun K' hK => ?_)
              replace hK:=Lib.hid hK
              go_wp2
              exact hK.out _ _ ⟨_,(by simp only[Act.put,q'z,q's,o'g,s'a,s'z,s's]),hI',Below.refl _ _,rfl⟩
             ·have d7:t 7=.pointer (some ⟨b2,o2+k*10,none⟩):=(Option.some.inj (hd' 7 (by kernel_rfl))).symm
              rw[d7]
              refine wpOp_step rfl (fun K' hK => ?_)
              replace hK:=Lib.hid hK
              go_wp2
              exact hK.out _ _ ⟨_,(by simp only[Act.put,q'z,q's,o'g,s'a,s'z,s's]),hI',Below.refl _ _,rfl⟩
             ·have d8:t 8=.pointer (some ⟨b2,o2+k*10,none⟩):=(Option.some.inj (hd' 8 (by kernel_rfl))).symm
              rw[d8]
              have f0:w'.cell? ⟨b2,o2+k*10,none⟩=some (.int .u32 y0):=cc2.out w' hJ 0 _ rfl
              have f1:w'.cell? ⟨b2,o2+k*10+1,none⟩=some (.int .u8 y1):=cc2.out w' hJ 1 _ rfl
              refine wpOp_step rfl (fun K' hK => ?_)
              replace hK:=Lib.hid hK
              go_wp2
              exact hK.out _ _ ⟨_,(by simp only[Act.put,q'z,q's,o'g,s'a,s'z,s's]),hI',Below.refl _ _,rfl⟩
             ·have d4:t 4=.agg #[.int .u32 y0,.int .u8 y1]:=(Option.some.inj (hd' 4 (by kernel_rfl))).symm
              rw[d4]
              have d9:t 9=.agg #[.int .u32 y0,.int .u8 y1]:=(Option.some.inj (hd' 9 (by kernel_rfl))).symm
              rw[d9]
              have heq1:=heqp w'
              refine wpOp_step rfl (fun K' hK => ?_)
              replace hK:=Lib.hid hK
              go_wp2
              exact hK.out _ _ ⟨_,(by simp only[Act.put,q'z,q's,o'g,s'a,s'z,s's]),hI',Below.refl _ _,rfl⟩
             ·have d10:t 10=.bool false:=(Option.some.inj (hd' 10 (by kernel_rfl))).symm
              rw[d10]
              refine wpOp_step rfl (fun K' hK => ?_)
              replace hK:=Lib.hid hK
              go_wp2
              exact hK.out _ _ ⟨_,(by simp only[Act.put,q'z,q's,o'g,s'a,s'z,s's]),hI',Below.refl _ _,rfl⟩
             ·have d11:t 11=.bool false:=(Option.some.inj (hd' 11 (by kernel_rfl))).symm
              rw[d11]
              refine wpOp_step rfl (fun K' hK => ?_)
              replace hK:=Lib.hid hK
              go_wp2
              exact hK.out _ _ ⟨_,(by simp only[Act.put,q'z,q's,o'g,s'a,s'z,s's]),hI',Below.refl _ _,rfl⟩
             ·have d11:t 11=.bool false:=(Option.some.inj (hd' 11 (by kernel_rfl))).symm
              rw[d11]
              refine wpOp_step rfl (fun K' hK => ?_)
              replace hK:=Lib.hid hK
              go_wp2
              exact hK.out _ _ ⟨_,(by simp only[Act.put,q'z,q's,o'g,s'a,s'z,s's]),hI',Below.refl _ _,rfl⟩
             ·have d12:t 12=.slice (some ⟨b1,o1,none⟩) xs1.length nc:=(Option.some.inj (hd' 12 (by kernel_rfl))).symm
              rw[d12]
              have d13:t 13=.int .i64 k:=(Option.some.inj (hd' 13 (by kernel_rfl))).symm
              rw[d13]
              have d11:t 11=.bool false:=(Option.some.inj (hd' 11 (by kernel_rfl))).symm
              rw[d11]
              refine wpOp_step rfl (fun K' hK => ?_)
              replace hK:=Lib.hid hK
              go_wp2
              exact hK.out _ _ ⟨_,(by simp only[Act.put,q'z,q's,o'g,s'a,s'z,s's]),hI',Below.refl _ _,rfl⟩
             ·have d14:t 14=.pointer (some ⟨b1,o1+k*10,none⟩):=(Option.some.inj (hd' 14 (by kernel_rfl))).symm
              rw[d14]
              have d11:t 11=.bool false:=(Option.some.inj (hd' 11 (by kernel_rfl))).symm
              rw[d11]
              have f0:w'.cell? ⟨b1,o1+k*10,none⟩=some (.int .u32 y0):=cc1.out w' hJ 0 _ rfl
              have f1:w'.cell? ⟨b1,o1+k*10+1,none⟩=some (.int .u8 y1):=cc1.out w' hJ 1 _ rfl
              have f2:w'.cell? ⟨b1,o1+k*10+2,none⟩=some (.int .u32 y2):=cc1.out w' hJ 2 _ rfl
              have f3:w'.cell? ⟨b1,o1+k*10+3,none⟩=some (.int .u8 y3):=cc1.out w' hJ 3 _ rfl
              have f4:w'.cell? ⟨b1,o1+k*10+4,none⟩=some (.int .u8 y4):=cc1.out w' hJ 4 _ rfl
              have f5:w'.cell? ⟨b1,o1+k*10+5,none⟩=some (.int .u32 y5):=cc1.out w' hJ 5 _ rfl
              have f6:w'.cell? ⟨b1,o1+k*10+6,none⟩=some (.int .u32 y6):=cc1.out w' hJ 6 _ rfl
              have f7:w'.cell? ⟨b1,o1+k*10+7,none⟩=some (.int .u32 y7):=cc1.out w' hJ 7 _ rfl
              have f8:w'.cell? ⟨b1,o1+k*10+8,none⟩=some (.int .u32 y8):=cc1.out w' hJ 8 _ rfl
              have f9:w'.cell? ⟨b1,o1+k*10+9,none⟩=some (.slice xA xn xc):=cc1.out w' hJ 9 _ rfl
              refine wpOp_step rfl (fun K' hK => ?_)
              replace hK:=Lib.hid hK
              go_wp2
              exact hK.out _ _ ⟨_,(by simp only[Act.put,q'z,q's,o'g,s'a,s'z,s's]),hI',Below.refl _ _,rfl⟩
             ·have d11:t 11=.bool false:=(Option.some.inj (hd' 11 (by kernel_rfl))).symm
              rw[d11]
              refine wpOp_step rfl (fun K' hK => ?_)
              replace hK:=Lib.hid hK
              go_wp2
              exact hK.out _ _ ⟨_,(by simp only[Act.put,q'z,q's,o'g,s'a,s'z,s's]),hI',Below.refl _ _,rfl⟩
             ·have d11:t 11=.bool false:=(Option.some.inj (hd' 11 (by kernel_rfl))).symm
              rw[d11]
              refine wpOp_step rfl (fun K' hK => ?_)
              replace hK:=Lib.hid hK
              go_wp2
              exact hK.out _ _ ⟨_,(by simp only[Act.put,q'z,q's,o'g,s'a,s'z,s's]),hI',Below.refl _ _,rfl⟩
             ·have d16:t 16=.slice (some ⟨b2,o2,none⟩) xs1.length fc:=(Option.some.inj (hd' 16 (by kernel_rfl))).symm
              rw[d16]
              have d17:t 17=.int .i64 k:=(Option.some.inj (hd' 17 (by kernel_rfl))).symm
              rw[d17]
              have d11:t 11=.bool false:=(Option.some.inj (hd' 11 (by kernel_rfl))).symm
              rw[d11]
              refine wpOp_step rfl (fun K' hK => ?_)
              replace hK:=Lib.hid hK
              go_wp2
              exact hK.out _ _ ⟨_,(by simp only[Act.put,q'z,q's,o'g,s'a,s'z,s's]),hI',Below.refl _ _,rfl⟩
             ·have d18:t 18=.pointer (some ⟨b2,o2+k*10,none⟩):=(Option.some.inj (hd' 18 (by kernel_rfl))).symm
              rw[d18]
              have d11:t 11=.bool false:=(Option.some.inj (hd' 11 (by kernel_rfl))).symm
              rw[d11]
              have f0:w'.cell? ⟨b2,o2+k*10,none⟩=some (.int .u32 y0):=cc2.out w' hJ 0 _ rfl
              have f1:w'.cell? ⟨b2,o2+k*10+1,none⟩=some (.int .u8 y1):=cc2.out w' hJ 1 _ rfl
              have f2:w'.cell? ⟨b2,o2+k*10+2,none⟩=some (.int .u32 y2):=cc2.out w' hJ 2 _ rfl
              have f3:w'.cell? ⟨b2,o2+k*10+3,none⟩=some (.int .u8 y3):=cc2.out w' hJ 3 _ rfl
              have f4:w'.cell? ⟨b2,o2+k*10+4,none⟩=some (.int .u8 y4):=cc2.out w' hJ 4 _ rfl
              have f5:w'.cell? ⟨b2,o2+k*10+5,none⟩=some (.int .u32 y5):=cc2.out w' hJ 5 _ rfl
              have f6:w'.cell? ⟨b2,o2+k*10+6,none⟩=some (.int .u32 (y6+d)):=cc2.out w' hJ 6 _ rfl
              have f7:w'.cell? ⟨b2,o2+k*10+7,none⟩=some (.int .u32 y7):=cc2.out w' hJ 7 _ rfl
              have f8:w'.cell? ⟨b2,o2+k*10+8,none⟩=some (.int .u32 y8):=cc2.out w' hJ 8 _ rfl
              have f9:w'.cell? ⟨b2,o2+k*10+9,none⟩=some (.slice yA yn yc):=cc2.out w' hJ 9 _ rfl
              refine wpOp_step rfl (fun K' hK => ?_)
              replace hK:=Lib.hid hK
              go_wp2
              exact hK.out _ _ ⟨_,(by simp only[Act.put,q'z,q's,o'g,s'a,s'z,s's]),hI',Below.refl _ _,rfl⟩
             ·have d15:t 15=.agg #[.int .u32 y0,.int .u8 y1,.int .u32 y2,.int .u8 y3,.int .u8 y4,.int .u32 y5,.int .u32 y6,.int .u32 y7,.int .u32 y8,.slice xA xn xc]:=(Option.some.inj (hd' 15 (by kernel_rfl))).symm
              rw[d15]
              have d19:t 19=.agg #[.int .u32 y0,.int .u8 y1,.int .u32 y2,.int .u8 y3,.int .u8 y4,.int .u32 y5,.int .u32 (y6+d),.int .u32 y7,.int .u32 y8,.slice yA yn yc]:=(Option.some.inj (hd' 19 (by kernel_rfl))).symm
              rw[d19]
              have d11:t 11=.bool false:=(Option.some.inj (hd' 11 (by kernel_rfl))).symm
              rw[d11]
              have CC:=Lib.hid (CBt.out w')
              refine wpOp_step rfl (fun K' hK => ?_)
              replace hK:=Lib.hid hK
              go_wp2_with (go_at_call 38;refine Calls.mono CC.out ?_;rintro e w4 ⟨rfl,hB4⟩)
              exact hK.out _ _ ⟨_,(by simp only[Act.put,q'z,q's,o'g,s'a,s'z,s's]),hI'.trans (hB4.mono hzw),hB4,rfl⟩
             ·have d20:t 20=.int .i64 bp:=(Option.some.inj (hd' 20 (by kernel_rfl))).symm
              rw[d20]
              have d11:t 11=.bool false:=(Option.some.inj (hd' 11 (by kernel_rfl))).symm
              rw[d11]
              refine wpOp_step rfl (fun K' hK => ?_)
              replace hK:=Lib.hid hK
              go_wp2
              exact hK.out _ _ ⟨_,(by simp only[Act.put,q'z,q's,o'g,s'a,s'z,s's]),hI',Below.refl _ _,rfl⟩
             ·have d11:t 11=.bool false:=(Option.some.inj (hd' 11 (by kernel_rfl))).symm
              rw[d11]
              have d21:t 21=.bool false:=(Option.some.inj (hd' 21 (by kernel_rfl))).symm
              rw[d21]
              refine wpOp_step rfl (fun K' hK => ?_)
              replace hK:=Lib.hid hK
              go_wp2
              exact hK.out _ _ ⟨_,(by simp only[Act.put,q'z,q's,o'g,s'a,s'z,s's]),hI',Below.refl _ _,rfl⟩
             ·have d22:t 22=.bool false:=(Option.some.inj (hd' 22 (by kernel_rfl))).symm
              rw[d22]
              refine wpOp_step rfl (fun K' hK => ?_)
              replace hK:=Lib.hid hK
              go_wp2
              exact hK.out _ _ ⟨_,(by simp only[Act.put,q'z,q's,o'g,s'a,s'z,s's]),hI',Below.refl _ _,rfl⟩
             ·have d23:t 23=.bool false:=(Option.some.inj (hd' 23 (by kernel_rfl))).symm
              rw[d23]
              refine wpOp_step rfl (fun K' hK => ?_)
              replace hK:=Lib.hid hK
              go_wp2
              exact hK.out _ _ ⟨_,(by simp only[Act.put,q'z,q's,o'g,s'a,s'z,s's]),hI',Below.refl _ _,rfl⟩
             ·have d23:t 23=.bool false:=(Option.some.inj (hd' 23 (by kernel_rfl))).symm
              rw[d23]
              refine wpOp_step rfl (fun K' hK => ?_)
              replace hK:=Lib.hid hK
              go_wp2
              exact hK.out _ _ ⟨_,(by simp only[Act.put,q'z,q's,o'g,s'a,s'z,s's]),hI',Below.refl _ _,rfl⟩
             ·have d24:t 24=.slice (some ⟨b2,o2,none⟩) xs1.length fc:=(Option.some.inj (hd' 24 (by kernel_rfl))).symm
              rw[d24]
              have d25:t 25=.int .i64 k:=(Option.some.inj (hd' 25 (by kernel_rfl))).symm
              rw[d25]
              have d23:t 23=.bool false:=(Option.some.inj (hd' 23 (by kernel_rfl))).symm
              rw[d23]
              refine wpOp_step rfl (fun K' hK => ?_)
              replace hK:=Lib.hid hK
              go_wp2
              exact hK.out _ _ ⟨_,(by simp only[Act.put,q'z,q's,o'g,s'a,s'z,s's]),hI',Below.refl _ _,rfl⟩
             ·have d26:t 26=.pointer (some ⟨b2,o2+k*10,none⟩):=(Option.some.inj (hd' 26 (by kernel_rfl))).symm
              rw[d26]
              have d23:t 23=.bool false:=(Option.some.inj (hd' 23 (by kernel_rfl))).symm
              rw[d23]
              refine wpOp_step rfl (fun K' hK => ?_)
              replace hK:=Lib.hid hK
              go_wp2
              exact hK.out _ _ ⟨_,(by simp only[Act.put,q'z,q's,o'g,s'a,s'z,s's]),hI',Below.refl _ _,rfl⟩
             ·have d27:t 27=.pointer (some ⟨b2,o2+k*10+6,none⟩):=(Option.some.inj (hd' 27 (by kernel_rfl))).symm
              rw[d27]
              have d23:t 23=.bool false:=(Option.some.inj (hd' 23 (by kernel_rfl))).symm
              rw[d23]
              have f6:w'.cell? ⟨b2,o2+k*10+6,none⟩=some (.int .u32 (y6+d)):=cc2.out w' hJ 6 _ rfl
              refine wpOp_step rfl (fun K' hK => ?_)
              replace hK:=Lib.hid hK
              go_wp2
              exact hK.out _ _ ⟨_,(by simp only[Act.put,q'z,q's,o'g,s'a,s'z,s's]),hI',Below.refl _ _,rfl⟩
             ·have d23:t 23=.bool false:=(Option.some.inj (hd' 23 (by kernel_rfl))).symm
              rw[d23]
              refine wpOp_step rfl (fun K' hK => ?_)
              replace hK:=Lib.hid hK
              go_wp2
              exact hK.out _ _ ⟨_,(by simp only[Act.put,q'z,q's,o'g,s'a,s'z,s's]),hI',Below.refl _ _,rfl⟩
             ·have d23:t 23=.bool false:=(Option.some.inj (hd' 23 (by kernel_rfl))).symm
              rw[d23]
              refine wpOp_step rfl (fun K' hK => ?_)
              replace hK:=Lib.hid hK
              go_wp2
              exact hK.out _ _ ⟨_,(by simp only[Act.put,q'z,q's,o'g,s'a,s'z,s's]),hI',Below.refl _ _,rfl⟩
             ·have d29:t 29=.slice (some ⟨b1,o1,none⟩) xs1.length nc:=(Option.some.inj (hd' 29 (by kernel_rfl))).symm
              rw[d29]
              have d30:t 30=.int .i64 k:=(Option.some.inj (hd' 30 (by kernel_rfl))).symm
              rw[d30]
              have d23:t 23=.bool false:=(Option.some.inj (hd' 23 (by kernel_rfl))).symm
              rw[d23]
              refine wpOp_step rfl (fun K' hK => ?_)
              replace hK:=Lib.hid hK
              go_wp2
              exact hK.out _ _ ⟨_,(by simp only[Act.put,q'z,q's,o'g,s'a,s'z,s's]),hI',Below.refl _ _,rfl⟩
             ·have d31:t 31=.pointer (some ⟨b1,o1+k*10,none⟩):=(Option.some.inj (hd' 31 (by kernel_rfl))).symm
              rw[d31]
              have d23:t 23=.bool false:=(Option.some.inj (hd' 23 (by kernel_rfl))).symm
              rw[d23]
              refine wpOp_step rfl (fun K' hK => ?_)
              replace hK:=Lib.hid hK
              go_wp2
              exact hK.out _ _ ⟨_,(by simp only[Act.put,q'z,q's,o'g,s'a,s'z,s's]),hI',Below.refl _ _,rfl⟩
             ·have d32:t 32=.pointer (some ⟨b1,o1+k*10+6,none⟩):=(Option.some.inj (hd' 32 (by kernel_rfl))).symm
              rw[d32]
              have d23:t 23=.bool false:=(Option.some.inj (hd' 23 (by kernel_rfl))).symm
              rw[d23]
              have f6:w'.cell? ⟨b1,o1+k*10+6,none⟩=some (.int .u32 y6):=cc1.out w' hJ 6 _ rfl
              refine wpOp_step rfl (fun K' hK => ?_)
              replace hK:=Lib.hid hK
              go_wp2
              exact hK.out _ _ ⟨_,(by simp only[Act.put,q'z,q's,o'g,s'a,s'z,s's]),hI',Below.refl _ _,rfl⟩
             ·have d23:t 23=.bool false:=(Option.some.inj (hd' 23 (by kernel_rfl))).symm
              rw[d23]
              refine wpOp_step rfl (fun K' hK => ?_)
              replace hK:=Lib.hid hK
              go_wp2
              exact hK.out _ _ ⟨_,(by simp only[Act.put,q'z,q's,o'g,s'a,s'z,s's]),hI',Below.refl _ _,rfl⟩
             ·have d34:t 34=.int .u16 d:=(Option.some.inj (hd' 34 (by kernel_rfl))).symm
              rw[d34]
              have d23:t 23=.bool false:=(Option.some.inj (hd' 23 (by kernel_rfl))).symm
              rw[d23]
              refine wpOp_step rfl (fun K' hK => ?_)
              replace hK:=Lib.hid hK
              go_wp2
              exact hK.out _ _ ⟨_,(by simp only[Act.put,q'z,q's,o'g,s'a,s'z,s's]),hI',Below.refl _ _,rfl⟩
             ·have d33:t 33=.int .u32 y6:=(Option.some.inj (hd' 33 (by kernel_rfl))).symm
              rw[d33]
              have d35:t 35=.int .u32 d:=(Option.some.inj (hd' 35 (by kernel_rfl))).symm
              rw[d35]
              have d23:t 23=.bool false:=(Option.some.inj (hd' 23 (by kernel_rfl))).symm
              rw[d23]
              refine wpOp_step rfl (fun K' hK => ?_)
              replace hK:=Lib.hid hK
              go_wp2
              exact hK.out _ _ ⟨_,(by simp only[Act.put,q'z,q's,o'g,s'a,s'z,s's]),hI',Below.refl _ _,rfl⟩
             ·have d28:t 28=.int .u32 (y6+d):=(Option.some.inj (hd' 28 (by kernel_rfl))).symm
              rw[d28]
              have d36:t 36=.int .u32 (y6+d):=(Option.some.inj (hd' 36 (by kernel_rfl))).symm
              rw[d36]
              have d23:t 23=.bool false:=(Option.some.inj (hd' 23 (by kernel_rfl))).symm
              rw[d23]
              refine wpOp_step rfl (fun K' hK => ?_)
              replace hK:=Lib.hid hK
              go_wp2
              exact hK.out _ _ ⟨_,(by simp only[Act.put,q'z,q's,o'g,s'a,s'z,s's]),hI',Below.refl _ _,rfl⟩
             ·have d23:t 23=.bool false:=(Option.some.inj (hd' 23 (by kernel_rfl))).symm
              rw[d23]
              have d37:t 37=.bool false:=(Option.some.inj (hd' 37 (by kernel_rfl))).symm
              rw[d37]
              refine wpOp_step rfl (fun K' hK => ?_)
              replace hK:=Lib.hid hK
              go_wp2
              exact hK.out _ _ ⟨_,(by simp only[Act.put,q'z,q's,o'g,s'a,s'z,s's]),hI',Below.refl _ _,rfl⟩
             ·have d38:t 38=.bool false:=(Option.some.inj (hd' 38 (by kernel_rfl))).symm
              rw[d38]
              refine wpOp_step rfl (fun K' hK => ?_)
              replace hK:=Lib.hid hK
              go_wp2
              exact hK.out _ _ ⟨_,(by simp only[Act.put,q'z,q's,o'g,s'a,s'z,s's]),hI',Below.refl _ _,rfl⟩
             ·have d39:t 39=.bool false:=(Option.some.inj (hd' 39 (by kernel_rfl))).symm
              rw[d39]
              refine wpOp_step rfl (fun K' hK => ?_)
              replace hK:=Lib.hid hK
              go_wp2
              exact hK.out _ _ ⟨_,(by simp only[Act.put,q'z,q's,o'g,s'a,s'z,s's]),hI',Below.refl _ _,rfl⟩
             ·have d39:t 39=.bool false:=(Option.some.inj (hd' 39 (by kernel_rfl))).symm
              rw[d39]
              refine wpOp_step rfl (fun K' hK => ?_)
              replace hK:=Lib.hid hK
              go_wp2
              exact hK.out _ _ ⟨_,(by simp only[Act.put,q'z,q's,o'g,s'a,s'z,s's]),hI',Below.refl _ _,rfl⟩
             ·have d40:t 40=.slice (some ⟨b1,o1,none⟩) xs1.length nc:=(Option.some.inj (hd' 40 (by kernel_rfl))).symm
              rw[d40]
              have d41:t 41=.int .i64 k:=(Option.some.inj (hd' 41 (by kernel_rfl))).symm
              rw[d41]
              have d39:t 39=.bool false:=(Option.some.inj (hd' 39 (by kernel_rfl))).symm
              rw[d39]
              refine wpOp_step rfl (fun K' hK => ?_)
              replace hK:=Lib.hid hK
              go_wp2
              exact hK.out _ _ ⟨_,(by simp only[Act.put,q'z,q's,o'g,s'a,s'z,s's]),hI',Below.refl _ _,rfl⟩
             ·have d42:t 42=.pointer (some ⟨b1,o1+k*10,none⟩):=(Option.some.inj (hd' 42 (by kernel_rfl))).symm
              rw[d42]
              have d39:t 39=.bool false:=(Option.some.inj (hd' 39 (by kernel_rfl))).symm
              rw[d39]
              refine wpOp_step rfl (fun K' hK => ?_)
              replace hK:=Lib.hid hK
              go_wp2
              exact hK.out _ _ ⟨_,(by simp only[Act.put,q'z,q's,o'g,s'a,s'z,s's]),hI',Below.refl _ _,rfl⟩
             ·have d43:t 43=.pointer (some ⟨b1,o1+k*10+4,none⟩):=(Option.some.inj (hd' 43 (by kernel_rfl))).symm
              rw[d43]
              have d39:t 39=.bool false:=(Option.some.inj (hd' 39 (by kernel_rfl))).symm
              rw[d39]
              have f4:w'.cell? ⟨b1,o1+k*10+4,none⟩=some (.int .u8 y4):=cc1.out w' hJ 4 _ rfl
              refine wpOp_step rfl (fun K' hK => ?_)
              replace hK:=Lib.hid hK
              go_wp2
              exact hK.out _ _ ⟨_,(by simp only[Act.put,q'z,q's,o'g,s'a,s'z,s's]),hI',Below.refl _ _,rfl⟩
             ·have d39:t 39=.bool false:=(Option.some.inj (hd' 39 (by kernel_rfl))).symm
              rw[d39]
              refine wpOp_step rfl (fun K' hK => ?_)
              replace hK:=Lib.hid hK
              go_wp2
              exact hK.out _ _ ⟨_,(by simp only[Act.put,q'z,q's,o'g,s'a,s'z,s's]),hI',Below.refl _ _,rfl⟩
             ·have d39:t 39=.bool false:=(Option.some.inj (hd' 39 (by kernel_rfl))).symm
              rw[d39]
              refine wpOp_step rfl (fun K' hK => ?_)
              replace hK:=Lib.hid hK
              go_wp2
              exact hK.out _ _ ⟨_,(by simp only[Act.put,q'z,q's,o'g,s'a,s'z,s's]),hI',Below.refl _ _,rfl⟩
             ·have d45:t 45=.slice (some ⟨b2,o2,none⟩) xs1.length fc:=(Option.some.inj (hd' 45 (by kernel_rfl))).symm
              rw[d45]
              have d46:t 46=.int .i64 k:=(Option.some.inj (hd' 46 (by kernel_rfl))).symm
              rw[d46]
              have d39:t 39=.bool false:=(Option.some.inj (hd' 39 (by kernel_rfl))).symm
              rw[d39]
              refine wpOp_step rfl (fun K' hK => ?_)
              replace hK:=Lib.hid hK
              go_wp2
              exact hK.out _ _ ⟨_,(by simp only[Act.put,q'z,q's,o'g,s'a,s'z,s's]),hI',Below.refl _ _,rfl⟩
             ·have d47:t 47=.pointer (some ⟨b2,o2+k*10,none⟩):=(Option.some.inj (hd' 47 (by kernel_rfl))).symm
              rw[d47]
              have d39:t 39=.bool false:=(Option.some.inj (hd' 39 (by kernel_rfl))).symm
              rw[d39]
              refine wpOp_step rfl (fun K' hK => ?_)
              replace hK:=Lib.hid hK
              go_wp2
              exact hK.out _ _ ⟨_,(by simp only[Act.put,q'z,q's,o'g,s'a,s'z,s's]),hI',Below.refl _ _,rfl⟩
             ·have d48:t 48=.pointer (some ⟨b2,o2+k*10+4,none⟩):=(Option.some.inj (hd' 48 (by kernel_rfl))).symm
              rw[d48]
              have d39:t 39=.bool false:=(Option.some.inj (hd' 39 (by kernel_rfl))).symm
              rw[d39]
              have f4:w'.cell? ⟨b2,o2+k*10+4,none⟩=some (.int .u8 y4):=cc2.out w' hJ 4 _ rfl
              refine wpOp_step rfl (fun K' hK => ?_)
              replace hK:=Lib.hid hK
              go_wp2
              exact hK.out _ _ ⟨_,(by simp only[Act.put,q'z,q's,o'g,s'a,s'z,s's]),hI',Below.refl _ _,rfl⟩
             ·have d44:t 44=.int .u8 y4:=(Option.some.inj (hd' 44 (by kernel_rfl))).symm
              rw[d44]
              have d49:t 49=.int .u8 y4:=(Option.some.inj (hd' 49 (by kernel_rfl))).symm
              rw[d49]
              have d39:t 39=.bool false:=(Option.some.inj (hd' 39 (by kernel_rfl))).symm
              rw[d39]
              refine wpOp_step rfl (fun K' hK => ?_)
              replace hK:=Lib.hid hK
              go_wp2
              exact hK.out _ _ ⟨_,(by simp only[Act.put,q'z,q's,o'g,s'a,s'z,s's]),hI',Below.refl _ _,rfl⟩
             ·have d39:t 39=.bool false:=(Option.some.inj (hd' 39 (by kernel_rfl))).symm
              rw[d39]
              have d50:t 50=.bool false:=(Option.some.inj (hd' 50 (by kernel_rfl))).symm
              rw[d50]
              refine wpOp_step rfl (fun K' hK => ?_)
              replace hK:=Lib.hid hK
              go_wp2
              exact hK.out _ _ ⟨_,(by simp only[Act.put,q'z,q's,o'g,s'a,s'z,s's]),hI',Below.refl _ _,rfl⟩
            ·intro t w' a' hI' ha hv
             simp only[putFrom,Act.put,Nat.reduceAdd,s'a,s'z,s's] at ha
             subst ha
             have dl:t 51=.bool false:=(Option.some.inj (hv 51 (by decide))).symm
             rw[dl]
             clear hv dl
             go_wp2_with fail
             go_roundg (xs1.length-(k+1))
             case measure=>omega
             case rel=>exact ⟨k+1,by omega,rfl,by go_num,hBr.trans (hI'.mono hz2)⟩
           ·obtain rfl:k=xs1.length:=by omega
            have ik:¬ (xs1.length:Int)<(xs1.length:Int):=by omega
            go_wp2_with (go_at_call 36;refine Calls.mono (works20_any _) ?_;rintro e w5 ⟨rfl,hB5⟩)
            go_ret
            exact ⟨rfl,hBw.trans ((hB3.trans ((hB9.trans ((hBr.trans (hB5.mono hz2)).mono hz9)).mono (Nat.le_trans hz1 hz3))).mono hww)⟩
  ·go_wp2_with (go_at_call 36;refine Calls.mono (works20_any _) ?_;rintro e w3 ⟨rfl,hB3⟩)
   go_ret
   exact ⟨rfl,hBw.trans (hB3.mono hBw.size)⟩
end Go.Proofs.YtiikagabdiphkaaGreat
