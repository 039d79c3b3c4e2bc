/- lodestarlaw16's GraphOld answers true. Conditions: the states and the bytes lie in memory. -/
import Derived.Deep.CutBlock
import Derived.Test.YtiikagabdiphkaaGreatGtBR
import Derived.Test.YtiikagabdiphkaaGreatGtBT
import Derived.Test.YtiikagabdiphkaaGreatGtAR
set_option maxRecDepth 100000
namespace Go.Proofs.YtiikagabdiphkaaGreat
open Go.RowKit Go.Lo
theorem StR.beside {w0 wr w':World} {ys:List StY} {v:Value} (h:StR w0 ys v wr) {n:Nat} {v2:Value} {xs:List Value} (ho:wr.ownsRow w0.heap.size 54 9 v2 n xs) (hg:wr.grownBy w' v2.ownBlock) (hap:∀ g,v.ownBlock=some g→v2.ownBlock≠some g):StR w0 ys v w':=
 ⟨own_same h.own fun k hk=>hg.block k (h.own.lt k hk).2 fun hc=>hap k hk hc.symm,fun y hy=>own_grown ho (h.bodies y hy) hg (by decide),h.below.trans (below_of_grown hg h.below.size fun g hg=>(ho.lt g hg).1)⟩
structure TwoS (w0:World) (ls ps:List StY) (lv pv:Value) (W:World):Prop where
 left:StR w0 ls lv W
 right:StR w0 ps pv W
 apart:∀ g,pv.ownBlock=some g→lv.ownBlock≠some g
theorem TwoS.start (w:World):TwoS w [] [] (.slice none 0 0) (.slice none 0 0) w:=
 ⟨⟨World.ownsRow_nil _ _ _ _,fun _ h=>(by cases h),Below.refl _ _⟩,⟨World.ownsRow_nil _ _ _ _,fun _ h=>(by cases h),Below.refl _ _⟩,fun _ h=>(by cases h)⟩
theorem TwoS.call {w0 W W':World} {ls ps:List StY} {lv pv:Value} (h:TwoS w0 ls ps lv pv W) (hb:Below W.heap.size W W'):TwoS w0 ls ps lv pv W':=⟨h.left.call hb,h.right.call hb,h.apart⟩
theorem TwoS.addL {w0 W W':World} {ls ps:List StY} {y:StY} {lv pv lv':Value} (h:TwoS w0 ls ps lv pv W) (hh:W.ownsRow w0.heap.size 5 1 (.slice y.1.A y.1.len y.1.cap) y.2.length (y.2.map u8c)) (ho:W'.ownsRow w0.heap.size 54 9 lv' (ls.length+1) (ls.flatMap sL++sL y)) (hg:W.grownBy W' lv.ownBlock) (hob:lv'.ownBlock=lv.ownBlock∨lv'.ownBlock=some W.heap.size):TwoS w0 (ls++[y]) ps lv' pv W':=by
 refine ⟨h.left.grow hh (by rw[List.length_append,List.flatMap_append];simpa using ho) hg,h.right.beside h.left.own hg h.apart,fun g h1 h2 => ?_⟩
 rcases hob with e | e
 ·rw[e] at h2;exact h.apart g h1 h2
 ·rw[e] at h2
  have:=(h.right.own.lt g h1).2
  have e2:W.heap.size=g:=o'i h2
  omega
theorem TwoS.addR {w0 W W':World} {ls ps:List StY} {y:StY} {lv pv pv':Value} (h:TwoS w0 ls ps lv pv W) (hh:W.ownsRow w0.heap.size 5 1 (.slice y.1.A y.1.len y.1.cap) y.2.length (y.2.map u8c)) (ho:W'.ownsRow w0.heap.size 54 9 pv' (ps.length+1) (ps.flatMap sL++sL y)) (hg:W.grownBy W' pv.ownBlock) (hob:pv'.ownBlock=pv.ownBlock∨pv'.ownBlock=some W.heap.size):TwoS w0 ls (ps++[y]) lv pv' W':=by
 have hap:∀ g,lv.ownBlock=some g→pv.ownBlock≠some g:=fun g h1 h2=>h.apart g h2 h1
 refine ⟨h.left.beside h.right.own hg hap,h.right.grow hh (by rw[List.length_append,List.flatMap_append];simpa using ho) hg,fun g h1 h2 => ?_⟩
 rcases hob with e | e
 ·rw[e] at h1;exact h.apart g h1 h2
 ·rw[e] at h1
  have:=(h.left.own.lt g h2).2
  have e2:W.heap.size=g:=o'i h1
  omega
theorem bits_u16 (op:BinOp) (a b:Int):0≤bits op .u16 a b∧bits op .u16 a b<65536:=by
 unfold bits
 rw[IntKind.wrap_u16]
 omega
theorem spoil_ok (h:Int) {s:StG} (ok:StOk s):StOk (spoil h s):=by
 obtain ⟨⟨a0,a1,a2,a3,a4,a5,a6,a7⟩,r⟩:=ok
 have e1:(0:Int)≤3600∧(3600:Int)<65536:=by decide
 have e2:(0:Int)≤36368∧(36368:Int)<65536:=by decide
 have e3:=bits_u16 BinOp.xor s.1.sum 1
 unfold spoil
 split
 ·exact ⟨⟨e1,a1,a2,a3,a4,a5,a6,a7⟩,r⟩
 ·split
  ·exact ⟨⟨e2,a1,a2,a3,a4,a5,a6,a7⟩,r⟩
  ·split
   ·exact ⟨⟨a0,a1,a2,a3,a4,a5,e3,a7⟩,r⟩
   ·exact ⟨⟨a0,a1,a2,a3,a4,a5,a6,a7⟩,r⟩
theorem spoil_body (h:Int) (s:StG):(spoil h s).2=s.2:=by
 unfold spoil sumX
 split
 ·rfl
 ·split
  ·rfl
  ·split <;> rfl
def chkE (s:StG):Int:=chkP s.1 s.2 (decQ s.1.type.toNat s.2).2
theorem chk0_is (s:StG):chk0 s=(chkE s==0):=rfl
theorem rchk_any (s:StG) (ok:StOk s) (B:Nat) (bv:Value) (w:World) (hb:Sl w B 1 bv s.2.length (s.2.map u8c)) (hB:B≤w.heap.size) :
  Calls Tryz.prog 34 #[stateVal s.1 bv] w fun x w'=>x=.returned (.int .i64 (chkE s))∧Below w.heap.size w w':=by
 have h:=ok.1.type
 exact rcheck_any s.1.type.toNat (by omega) s.1 ok.1 B bv s.2 w hb hB ok.2.1 ok.2.2 (by omega)
def SwR (w0:World) (ws:List Int) (S:List StG) (k:Nat) (ps:List StY) (pv:Value) (g:Nat) (hd:OHead) (bv:Value) (body:List Int) (v:Value) (W:World):Prop:=
 ∃ (ls:List StY) (A:Option Addr) (c:Nat),v=.slice A ls.length c∧TwoS w0 ls ps v pv W∧sOf ls=leftN ws S (k+1)∧Blk W g 54 #[.int .u16 hd.age,.int .u8 hd.opts,.int .u8 hd.type,.int .u32 hd.id,.int .u32 hd.adv,.int .i32 hd.seq,.int .u16 hd.sum,.int .u16 hd.len,bv]∧W.ownsRow w0.heap.size 5 1 bv body.length (body.map u8c)
def FineTo (ws:List Int) (S:List StG) (k:Nat):Prop:=∀ i (hi:i<S.length),i<k→howF ws i=3→chk0 S[i]=true→chk0 (sumX S[i])=false
theorem FineTo.step {ws:List Int} {S:List StG} {k:Nat} (h:FineTo ws S k) (hk:k<S.length) (hq:howF ws k=3→chk0 S[k]=true→chk0 (sumX S[k])=false):FineTo ws S (k+1):=fun i hi hlt=>by
 by_cases e:i=k
 ·subst e;exact hq
 ·exact h i hi (by omega)
theorem leftN_mem {ws:List Int} {S:List StG} {s:StG}:∀ {k:Nat},s∈leftN ws S k→s∈S
 | 0,h=>by cases h
 | k+1,h=>by
  simp only[leftN] at h
  rcases List.mem_append.1 h with h | h
  ·exact leftN_mem h
  ·cases hk:S[k]? with
   | none=>rw[hk] at h;cases h
   | some x =>
    rw[hk] at h
    simp only at h
    split at h
    ·rw[List.mem_singleton.1 h]
     exact List.mem_of_getElem? hk
    ·cases h
theorem howF_lt {ws:List Int} {k:Nat} (h:k<ws.length):howF ws k=ws[k]%4:=by
 unfold howF
 rw[List.getElem?_eq_getElem h]
theorem howF_ge {ws:List Int} {k:Nat} (h:¬ k<ws.length):howF ws k=0:=by
 unfold howF
 rw[List.getElem?_eq_none (by omega)]
set_option maxHeartbeats 8000000 in
theorem graphOld_any (B:Nat) (sv wv:Value) (S:List StG) (ls:List StV) (ws:List Int) (w:World) (hS:StatesIn w B sv S ls) (hW:Sl w B 1 wv ws.length (ws.map u8c)) (hw8:∀ x∈ws,0≤x∧x<256) (hB:B≤w.heap.size) (hok:∀ s∈S,HeadOk s.1∧∀ b∈s.2,0≤b∧b<256) (hh:∀ s∈S,s.2.length≤140737488355328) (hn:ls.length≤140737488355328) :
  Calls Tryz.prog 9 #[sv,wv] w fun e w'=>e=.returned (.bool true)∧Below w.heap.size w w':=by
 have CH:=heavy16_any ls sv B w hS.sl hn (states_len hS hh)
 have CW:=fun W=>works16_any W
 have LS:∀ m,(∀ x∈ls,x.len≤m)→∀ s∈S,s.2.length≤m:=fun m h=>lens_states hS h
 replace LS:=h'd LS
 replace CH:=h'd CH
 replace CW:=h'd CW
 have hsl:=hS.len
 obtain ⟨-,lA,lc,rfl,-⟩:=id hS.sl
 obtain ⟨-,wA,wc,rfl,-⟩:=id hW
 replace hS:=h'd hS
 replace hW:=h'd hW
 replace hsl:=h'd hsl
 go_enter Tryz.func9,Tryz.ntmps9
 go_upto_if 12 with (go_at_call 23;refine Calls.mono CH.out ?_;rintro e w1 ⟨q,rfl,rfl,hq⟩)
 cases q with
 | true =>
  go_wp2_with (go_at_call 24;refine Calls.mono (CW.out _) ?_;rintro e w2 ⟨rfl,hB2⟩)
  go_ret
  exact ⟨rfl,hB2⟩
 | false =>
  obtain ⟨h60,h16⟩:=hq rfl
  have hso:∀ s∈S,StOk s:=fun s hs=>⟨(hok s hs).1,Nat.le_trans (LS.out _ h16 s hs) (by omega),(hok s hs).2⟩
  have hsz:=LS.out _ h16
  replace hso:=h'd hso
  replace hsz:=h'd hsz
  clear CH hq h16 LS
  go_upto_region 5 with fail
  go_loopg [5,6,7] ls.length (fun m lv pv u wr=>∃ (k:Nat) (lys pys:List StY),k≤ls.length∧m=ls.length-k∧u=.int .i64 k∧TwoS w1 lys pys lv pv wr∧sOf lys=leftN ws S k∧sOf pys=spoiltN ws S k)
  case atStart=>exact ⟨0,[],[],Nat.zero_le _,rfl,rfl,TwoS.start _,rfl,rfl⟩
  case round =>
   obtain ⟨k,lys,pys,hk,rfl,rfl,hT,hL,hP⟩:=hrel
   obtain ⟨w3,rfl⟩:∃ x:World,x=wr:=⟨_,rfl⟩
   have hB3:=hT.left.below
   have hz3:=hB3.size
   by_cases hkl:k<ls.length
   ·have hkS:k<S.length:=by rw[←hsl.out];exact hkl
    have hS1:=hS.out.below (hB3.mono hB)
    have hW1:=hW.out.below (hB3.mono hB)
    obtain ⟨b,off,hwA,hb0,hrow⟩:=Sl.row stL_len hS1.sl hkl
    subst hwA
    have hbd:=hS1.bodies k hkl hkS
    have hgh:=hsz.out _ (List.getElem_mem hkS)
    have hsk:=hso.out _ (List.getElem_mem hkS)
    have htl:=leftN_succ (ws:=ws) hkS
    have htp:=spoiltN_succ (ws:=ws) hkS
    rw[←hL] at htl
    rw[←hP] at htp
    have hhd:ls[k].h=S[k].1:=by
     have:=congrArg (fun z=>z[k]?) hS1.map
     simpa[hkl,hkS] using this
    have hpl:pys.length≤60:=by
     have h1:=congrArg List.length hP
     rw[spoiltN_len (by rw[←hsl.out];exact hk)] at h1
     unfold sOf at h1
     rw[List.length_map] at h1
     omega
    have hll:lys.length≤60:=by
     have h1:=congrArg List.length hL
     have h2:=leftN_len ws S k
     unfold sOf at h1
     rw[List.length_map] at h1
     omega
    have ik:(k:Int)<(ls.length:Int):=by omega
    obtain ⟨x,hx⟩:∃ x,x=ls[k]:=⟨_,rfl⟩
    rw[←hx] at hrow hbd hhd
    obtain ⟨s,hs⟩:∃ s,s=S[k]:=⟨_,rfl⟩
    rw[←hs] at hbd hgh hsk htl htp hhd
    clear hx hs hP hL
    obtain ⟨hd,body⟩:=s
    obtain ⟨⟨h0,h1,h2,h3,h4,h5,h6,h7⟩,xA,xl,xc⟩:=x
    simp only at hhd
    subst hhd
    obtain rfl:xl=body.length:=sl_len hbd
    replace hgh:body.length≤16384:=hgh
    have q0:w3.cell? ⟨b,off+k*9,none⟩=some (.int .u16 h0):=hrow 0 _ rfl
    have q1:w3.cell? ⟨b,off+k*9+1,none⟩=some (.int .u8 h1):=hrow 1 _ rfl
    have q2:w3.cell? ⟨b,off+k*9+2,none⟩=some (.int .u8 h2):=hrow 2 _ rfl
    have q3:w3.cell? ⟨b,off+k*9+3,none⟩=some (.int .u32 h3):=hrow 3 _ rfl
    have q4:w3.cell? ⟨b,off+k*9+4,none⟩=some (.int .u32 h4):=hrow 4 _ rfl
    have q5:w3.cell? ⟨b,off+k*9+5,none⟩=some (.int .i32 h5):=hrow 5 _ rfl
    have q6:w3.cell? ⟨b,off+k*9+6,none⟩=some (.int .u16 h6):=hrow 6 _ rfl
    have q7:w3.cell? ⟨b,off+k*9+7,none⟩=some (.int .u16 h7):=hrow 7 _ rfl
    have q8:w3.cell? ⟨b,off+k*9+8,none⟩=some (.slice xA body.length xc):=hrow 8 _ rfl
    have CW2:=copystate_any ⟨h0,h1,h2,h3,h4,h5,h6,h7⟩ B (.slice xA body.length xc) body w3 hbd (Nat.le_trans hB hz3) (by omega)
    dsimp only[stateVal] at CW2
    replace CW2:=h'd CW2
    replace htl:=h'd htl
    replace htp:=h'd htp
    replace hpl:=h'd hpl
    replace hll:=h'd hll
    have hTS:=h'd hT
    obtain ⟨-,pA,pc,rfl,-⟩:=id (Sl.of_own hT.right.own)
    obtain ⟨-,eA,ec,rfl,-⟩:=id (Sl.of_own hT.left.own)
    replace hT:=h'd hT
    clear hrow hS1 hbd hTS
    go_upto_region 8 with (go_at_call 21;refine Calls.mono CW2.out ?_;rintro e w4 ⟨vv,rfl,hoy,hBy⟩;obtain ⟨-,Av,cv,rfl,-⟩:=id (Sl.of_own hoy))
    have kt:=Blk.new w4 54 #[.int .u16 h0,.int .u8 h1,.int .u8 h2,.int .u32 h3,.int .u32 h4,.int .i32 h5,.int .u16 h6,.int .u16 h7,.slice Av body.length cv]
    have hb45:Below w4.heap.size w4 (w4.alloc (.cells #[.int .u16 h0,.int .u8 h1,.int .u8 h2,.int .u32 h3,.int .u32 h4,.int .i32 h5,.int .u16 h6,.int .u16 h7,.slice Av body.length cv] 54)):=Below.alloc (Below.refl _ _) (Nat.le_refl _) _
    have hz4:=hBy.size
    have hB35:Below w3.heap.size w3 (w4.alloc (.cells #[.int .u16 h0,.int .u8 h1,.int .u8 h2,.int .u32 h3,.int .u32 h4,.int .i32 h5,.int .u16 h6,.int .u16 h7,.slice Av body.length cv] 54)):=hBy.trans (hb45.mono hz4)
    have hoy4:=own_less hoy hz3
    generalize w4.alloc (.cells #[.int .u16 h0,.int .u8 h1,.int .u8 h2,.int .u32 h3,.int .u32 h4,.int .i32 h5,.int .u16 h6,.int .u16 h7,.slice Av body.length cv] 54)=w5 at kt hb45 hB35 ⊢
    obtain ⟨g8,hg8⟩:∃ x,x=w4.heap.size:=⟨_,rfl⟩
    rw[←hg8] at kt ⊢
    have hg8l:w3.heap.size≤g8:=by rw[hg8];exact hz4
    have hg8e:w4.heap.size≤g8:=by rw[hg8];exact Nat.le_refl _
    replace hg8:=h'd hg8
    have hT4:=hT.out.call hBy
    have hne:∀ q,(Value.slice eA lys.length ec).ownBlock=some q→g8≠q:=fun q h=>by
     have:=(hT.out.left.own.lt q h).2
     omega
    have hz34:w1.heap.size≤w4.heap.size:=Nat.le_trans hz3 hz4
    have hW5:=hW1.below (hB35.mono (Nat.le_trans hB hz3))
    have hz5:=hB35.size
    clear q0 q1 q2 q3 q4 q5 q6 q7 q8 CW2 hoy hT hW1
    obtain ⟨how,hhow⟩:∃ z,z=howF ws k:=⟨_,rfl⟩
    rw[←hhow] at htl htp
    have hhow0:k<ws.length→∃ c:Int,ws[k]?=some c∧how=c%4:=fun h=>⟨_,List.getElem?_eq_getElem h,by rw[hhow,howF_lt h]⟩
    have hhow1:¬ k<ws.length→how=0:=fun h=>by rw[hhow,howF_ge h]
    replace hhow:=h'd hhow
    replace hhow0:=h'd hhow0
    replace hhow1:=h'd hhow1
    replace hT4:=h'd hT4
    replace hoy4:=h'd hoy4
    replace hne:=h'd hne
    go_upto_if 28 with fail
    go_cut [9] (fun v wx=>v=.int .u8 how∧wx=w5)
    case first =>
     by_cases hkw:k<ws.length
     ·obtain ⟨c,hc,hhc⟩:=hhow0.out hkw
      obtain ⟨wb,wo,hwA2,hwb,hwr⟩:=(show ∃ b off,wA=some ⟨b,off,none⟩∧b<B∧∀ j u,(ws.map u8c)[j]?=some u→w5.cell? ⟨b,off+j,none⟩=some u by
       obtain ⟨-,A',c',hv,-,-,hat⟩:=hW5
       simp only[Value.slice.injEq,true_and] at hv
       obtain ⟨rfl,rfl⟩:=hv
       exact hat (by omega))
      subst hwA2
      have r0:w5.cell? ⟨wb,wo+k,none⟩=some (.int .u8 c):=hwr k _ (by rw[List.getElem?_map,hc];rfl)
      have c8:=hw8 c (List.mem_of_getElem? hc)
      have ikw:(k:Int)<(ws.length:Int):=by omega
      clear hwr hc
      have wm:Int.tmod c 4=how:=by rw[hhc,Int.tmod_eq_emod_of_nonneg c8.1]
      replace hhc:=h'd hhc
      go_wp2
      go_meet
      case rel=>exact ⟨by rw[hhc.out],rfl⟩
     ·have ikw:¬ (k:Int)<(ws.length:Int):=by omega
      go_wp2
      go_meet
      case rel=>exact ⟨by rw[hhow1.out hkw],rfl⟩
    case rest =>
     obtain ⟨rfl,rfl⟩:=hcut
     obtain ⟨w5,rfl⟩:∃ x:World,x=wc:=⟨_,rfl⟩
     clear hW5 hhow0 hhow1
     obtain ⟨sp,hsp⟩:∃ sp,sp=spoil how (⟨h0,h1,h2,h3,h4,h5,h6,h7⟩,body):=⟨_,rfl⟩
     have hspb:sp.2=body:=by rw[hsp];exact spoil_body _ _
     have htp2:=htp.out
     rw[←hsp] at htp2
     obtain ⟨⟨d0,d1,d2,d3,d4,d5,d6,d7⟩,body2⟩:=sp
     obtain rfl:body2=body:=hspb
     replace htp2:=h'd htp2
     have CWF:=fun (W:World) (h:Below w4.heap.size w4 W)=>copystate_any ⟨h0,h1,h2,h3,h4,h5,h6,h7⟩ W.heap.size (.slice Av body2.length cv) body2 W (Sl.of_own (own_below hoy4.out h)) (Nat.le_refl _) (by omega)
     have CKF:=fun (W:World) (h:Below w4.heap.size w4 W)=>rchk_any (⟨h0,h1,h2,h3,h4,h5,h6,h7⟩,body2) hsk W.heap.size (.slice Av body2.length cv) W (Sl.of_own (own_below hoy4.out h)) (Nat.le_refl _)
     dsimp only[stateVal] at CWF CKF
     replace CWF:=h'd CWF
     replace CKF:=h'd CKF
     go_upto_block 2 with fail
     go_cut [5] (fun v wx=>SwR w1 ws S k pys (.slice pA pys.length pc) g8 ⟨d0,d1,d2,d3,d4,d5,d6,d7⟩ (.slice Av body2.length cv) body2 v wx)
     case first =>
      replace hsp:=hsp
      by_cases e1:how=1
      ·have f1:(how==1)=true:=by simp[e1]
       have x0:=kt.cell 0
       have z0:=kt.free 0
       simp only[q'a,q'z] at x0
       unfold spoil at hsp
       rw[if_pos e1] at hsp
       simp only[Prod.mk.injEq,OHead.mk.injEq,and_true] at hsp
       obtain ⟨rfl,rfl,rfl,rfl,rfl,rfl,rfl,rfl⟩:=hsp
       have htl2:=htl.out
       rw[show keepP how (⟨h0,d1,d2,d3,d4,d5,d6,d7⟩,body2)=false by unfold keepP;rw[if_pos e1],if_neg Bool.false_ne_true,List.append_nil] at htl2
       replace htl2:=h'd htl2
       clear e1
       have hbs:=hb45.setCell (p:=⟨g8,0,none⟩) hg8e (.int .u16 3600)
       have kts:=kt.set_ 0 (.int .u16 3600)
       simp only[s'a,s'z] at kts
       go_wp2
       go_meet
       case rel=>exact ⟨lys,eA,ec,rfl,hT4.out.call hbs,htl2.out.symm,kts,own_below hoy4.out hbs⟩
      ·have f1:(how==1)=false:=by simp[e1]
       by_cases e2:how=2
       ·have f2:(how==2)=true:=by simp[e2]
        have x0:=kt.cell 0
        have z0:=kt.free 0
        simp only[q'a,q'z] at x0
        unfold spoil at hsp
        rw[if_neg e1,if_pos e2] at hsp
        simp only[Prod.mk.injEq,OHead.mk.injEq,and_true] at hsp
        obtain ⟨rfl,rfl,rfl,rfl,rfl,rfl,rfl,rfl⟩:=hsp
        have htl2:=htl.out
        rw[show keepP how (⟨h0,d1,d2,d3,d4,d5,d6,d7⟩,body2)=false by unfold keepP;rw[if_neg e1,if_pos e2],if_neg Bool.false_ne_true,List.append_nil] at htl2
        replace htl2:=h'd htl2
        clear e1 e2
        have hbs:=hb45.setCell (p:=⟨g8,0,none⟩) hg8e (.int .u16 36368)
        have kts:=kt.set_ 0 (.int .u16 36368)
        simp only[s'a,s'z] at kts
        go_wp2
        go_meet
        case rel=>exact ⟨lys,eA,ec,rfl,hT4.out.call hbs,htl2.out.symm,kts,own_below hoy4.out hbs⟩
       ·have f2:(how==2)=false:=by simp[e2]
        have yc0:=kt.cell 0
        have yc1:=kt.cell 1
        have yc2:=kt.cell 2
        have yc3:=kt.cell 3
        have yc4:=kt.cell 4
        have yc5:=kt.cell 5
        have yc6:=kt.cell 6
        have yc7:=kt.cell 7
        have yc8:=kt.cell 8
        simp only[q'a,q'z,q's] at yc0 yc1 yc2 yc3 yc4 yc5 yc6 yc7 yc8
        by_cases e3:how=3
        ·have f3:(how==3)=true:=by simp[e3]
         have CK:=CKF.out w5 hb45
         cases hc:chk0 (⟨h0,h1,h2,h3,h4,h5,h6,h7⟩,body2) with
         | true =>
          have hce:chkE (⟨h0,h1,h2,h3,h4,h5,h6,h7⟩,body2)=0:=by rw[chk0_is] at hc;simpa using hc
          rw[hce] at CK
          unfold spoil at hsp
          rw[if_neg e1,if_neg e2,if_pos ⟨e3,hc⟩] at hsp
          unfold sumX at hsp
          simp only[Prod.mk.injEq,OHead.mk.injEq,and_true] at hsp
          obtain ⟨rfl,rfl,rfl,rfl,rfl,rfl,hx6,rfl⟩:=hsp
          have htl2:=htl.out
          rw[show keepP how (⟨d0,d1,d2,d3,d4,d5,h6,d7⟩,body2)=false by unfold keepP;rw[if_neg e1,if_neg e2,if_pos ⟨e3,hc⟩],if_neg Bool.false_ne_true,List.append_nil] at htl2
          replace htl2:=h'd htl2
          replace hx6:bits BinOp.xor IntKind.u16 h6 1=d6:=hx6.symm
          replace CK:=h'd CK
          replace hc:=h'd hc
          replace hce:=h'd hce
          clear e1 e2 e3
          go_wp2_with (go_at_call 34;refine Calls.mono CK.out ?_;rintro e w6 ⟨rfl,hB6⟩;have kt6:=kt.below hB6 kt.lt;have x6:=kt6.cell 6;have z6:=kt6.free 6;simp only[q'a,q'z,q's] at x6)
          have hbs:=(hb45.trans (hB6.mono hb45.size)).setCell (p:=⟨g8,6,none⟩) hg8e (.int .u16 d6)
          have kts:=kt6.set_ 6 (.int .u16 d6)
          simp only[s'a,s'z,s's] at kts
          go_meet
          case rel=>exact ⟨lys,eA,ec,rfl,hT4.out.call hbs,htl2.out.symm,kts,own_below hoy4.out hbs⟩
         | false =>
          have hce:(chkE (⟨h0,h1,h2,h3,h4,h5,h6,h7⟩,body2)==0)=false:=by rw[←chk0_is];exact hc
          have hn3:¬ (how=3∧chk0 (⟨h0,h1,h2,h3,h4,h5,h6,h7⟩,body2)=true):=fun h=>by rw[hc] at h;cases h.2
          obtain ⟨ce,hcee⟩:∃ z,z=chkE (⟨h0,h1,h2,h3,h4,h5,h6,h7⟩,body2):=⟨_,rfl⟩
          rw[←hcee] at CK hce
          replace hcee:=h'd hcee
          replace CK:=h'd CK
          replace hc:=h'd hc
          clear e3
          unfold spoil at hsp
          rw[if_neg e1,if_neg e2,if_neg hn3] at hsp
          simp only[Prod.mk.injEq,OHead.mk.injEq,and_true] at hsp
          obtain ⟨rfl,rfl,rfl,rfl,rfl,rfl,rfl,rfl⟩:=hsp
          have htl2:=htl.out
          rw[show keepP how (⟨d0,d1,d2,d3,d4,d5,d6,d7⟩,body2)=true by unfold keepP;rw[if_neg e1,if_neg e2,if_neg hn3],if_pos rfl] at htl2
          replace htl2:=h'd htl2
          replace hn3:=h'd hn3
          replace e1:=h'd e1
          replace e2:=h'd e2
          have hll2:=hll.out
          go_wp2_with (first
           | (go_at_call 21;refine Calls.mono (CWF.out _ hbd) ?_;rintro e w7 ⟨v7,rfl,ho7,hB7⟩;obtain ⟨-,A7,c7,rfl,-⟩:=id (Sl.of_own ho7);have hb47:=(hbd.trans (hB7.mono hbd.size)).alloc (Nat.le_trans hbd.size hB7.size) (.cells #[.int .u16 d0,.int .u8 d1,.int .u8 d2,.int .u32 d3,.int .u32 d4,.int .i32 d5,.int .u16 d6,.int .u16 d7,.slice A7 body2.length c7] 54);have hT8:=hT4.out.call hb47;have ho8:=own_alloc (own_less ho7 (Nat.le_trans hz34 hbd.size)) (.cells #[.int .u16 d0,.int .u8 d1,.int .u8 d2,.int .u32 d3,.int .u32 d4,.int .i32 d5,.int .u16 d6,.int .u16 d7,.slice A7 body2.length c7] 54);have kt8:=(ktd.below hB7 ktd.lt).alloc (.cells #[.int .u16 d0,.int .u8 d1,.int .u8 d2,.int .u32 d3,.int .u32 d4,.int .i32 d5,.int .u16 d6,.int .u16 d7,.slice A7 body2.length c7] 54);have hoy8:=own_below hoy4.out hb47;have hz7:=Nat.le_trans hbd.size hB7.size)
           | (go_at_call 34;refine Calls.mono CK.out ?_;rintro e w6 ⟨rfl,hB6⟩;have ktd:=kt.below hB6 kt.lt;have hbd:=hb45.trans (hB6.mono hb45.size);have zc0:=ktd.cell 0;have zc1:=ktd.cell 1;have zc2:=ktd.cell 2;have zc3:=ktd.cell 3;have zc4:=ktd.cell 4;have zc5:=ktd.cell 5;have zc6:=ktd.cell 6;have zc7:=ktd.cell 7;have zc8:=ktd.cell 8;simp only[q'a,q'z,q's] at zc0 zc1 zc2 zc3 zc4 zc5 zc6 zc7 zc8)
           | (at_builtin;refine wpList_append rfl (.tmp 34) (.tmp 37) 23 rfl w1.heap.size stT (.slice eA lys.length ec) lys.length (lys.flatMap sL) rfl hT8.left.own _ _ 1 [.int .u16 d0,.int .u8 d1,.int .u8 d2,.int .u32 d3,.int .u32 d4,.int .i32 d5,.int .u16 d6,.int .u16 d7,.slice A7 body2.length c7] rfl (Sl.lit w7 #[.int .u16 d0,.int .u8 d1,.int .u8 d2,.int .u32 d3,.int .u32 d4,.int .i32 d5,.int .u16 d6,.int .u16 d7,.slice A7 body2.length c7] 54 (by simp[maxLen]) rfl) (by simp[Value.oneCell']) (by simp only[maxLen];omega) (by omega) (by simp;omega) ?_;intro v9 w9 ho9 hg9 hob9;obtain ⟨-,A9,c9,rfl,-⟩:=id (Sl.of_own ho9)))
          go_meet
          case rel =>
           refine ⟨lys++[((⟨⟨d0,d1,d2,d3,d4,d5,d6,d7⟩,A7,body2.length,c7⟩,body2):StY)],A9,c9,by rw[List.length_append];rfl,hT8.addL ho8 ho9 hg9 hob9,by rw[sOf_snoc,htl2.out],kt8.same (hg9.block g8 kt8.lt fun e=>hne.out _ e.symm rfl),own_grown hT8.left.own hoy8 hg9 (by decide)⟩
        ·have f3:(how==3)=false:=by simp[e3]
         have hn3:¬ (how=3∧chk0 (⟨h0,h1,h2,h3,h4,h5,h6,h7⟩,body2)=true):=fun h=>e3 h.1
         have hbd:=hb45
         have ktd:=kt
         clear e3
         unfold spoil at hsp
         rw[if_neg e1,if_neg e2,if_neg hn3] at hsp
         simp only[Prod.mk.injEq,OHead.mk.injEq,and_true] at hsp
         obtain ⟨rfl,rfl,rfl,rfl,rfl,rfl,rfl,rfl⟩:=hsp
         have htl2:=htl.out
         rw[show keepP how (⟨d0,d1,d2,d3,d4,d5,d6,d7⟩,body2)=true by unfold keepP;rw[if_neg e1,if_neg e2,if_neg hn3],if_pos rfl] at htl2
         replace htl2:=h'd htl2
         replace hn3:=h'd hn3
         replace e1:=h'd e1
         replace e2:=h'd e2
         have hll2:=hll.out
         go_wp2_with (first
          | (go_at_call 21;refine Calls.mono (CWF.out _ hbd) ?_;rintro e w7 ⟨v7,rfl,ho7,hB7⟩;obtain ⟨-,A7,c7,rfl,-⟩:=id (Sl.of_own ho7);have hb47:=(hbd.trans (hB7.mono hbd.size)).alloc (Nat.le_trans hbd.size hB7.size) (.cells #[.int .u16 d0,.int .u8 d1,.int .u8 d2,.int .u32 d3,.int .u32 d4,.int .i32 d5,.int .u16 d6,.int .u16 d7,.slice A7 body2.length c7] 54);have hT8:=hT4.out.call hb47;have ho8:=own_alloc (own_less ho7 (Nat.le_trans hz34 hbd.size)) (.cells #[.int .u16 d0,.int .u8 d1,.int .u8 d2,.int .u32 d3,.int .u32 d4,.int .i32 d5,.int .u16 d6,.int .u16 d7,.slice A7 body2.length c7] 54);have kt8:=(ktd.below hB7 ktd.lt).alloc (.cells #[.int .u16 d0,.int .u8 d1,.int .u8 d2,.int .u32 d3,.int .u32 d4,.int .i32 d5,.int .u16 d6,.int .u16 d7,.slice A7 body2.length c7] 54);have hoy8:=own_below hoy4.out hb47;have hz7:=Nat.le_trans hbd.size hB7.size)
          | (go_at_call 34;refine Calls.mono CK.out ?_;rintro e w6 ⟨rfl,hB6⟩;have ktd:=kt.below hB6 kt.lt;have hbd:=hb45.trans (hB6.mono hb45.size);have zc0:=ktd.cell 0;have zc1:=ktd.cell 1;have zc2:=ktd.cell 2;have zc3:=ktd.cell 3;have zc4:=ktd.cell 4;have zc5:=ktd.cell 5;have zc6:=ktd.cell 6;have zc7:=ktd.cell 7;have zc8:=ktd.cell 8;simp only[q'a,q'z,q's] at zc0 zc1 zc2 zc3 zc4 zc5 zc6 zc7 zc8)
          | (at_builtin;refine wpList_append rfl (.tmp 34) (.tmp 37) 23 rfl w1.heap.size stT (.slice eA lys.length ec) lys.length (lys.flatMap sL) rfl hT8.left.own _ _ 1 [.int .u16 d0,.int .u8 d1,.int .u8 d2,.int .u32 d3,.int .u32 d4,.int .i32 d5,.int .u16 d6,.int .u16 d7,.slice A7 body2.length c7] rfl (Sl.lit w7 #[.int .u16 d0,.int .u8 d1,.int .u8 d2,.int .u32 d3,.int .u32 d4,.int .i32 d5,.int .u16 d6,.int .u16 d7,.slice A7 body2.length c7] 54 (by simp[maxLen]) rfl) (by simp[Value.oneCell']) (by simp only[maxLen];omega) (by omega) (by simp;omega) ?_;intro v9 w9 ho9 hg9 hob9;obtain ⟨-,A9,c9,rfl,-⟩:=id (Sl.of_own ho9)))
         go_meet
         case rel =>
          refine ⟨lys++[((⟨⟨d0,d1,d2,d3,d4,d5,d6,d7⟩,A7,body2.length,c7⟩,body2):StY)],A9,c9,by rw[List.length_append];rfl,hT8.addL ho8 ho9 hg9 hob9,by rw[sOf_snoc,htl2.out],kt8.same (hg9.block g8 kt8.lt fun e=>hne.out _ e.symm rfl),own_grown hT8.left.own hoy8 hg9 (by decide)⟩
     case rest =>
      obtain ⟨lys2,A2,c2,rfl,hT2,hL2,kb,hob2⟩:=hcut
      obtain ⟨w6,rfl⟩:∃ x:World,x=wc:=⟨_,rfl⟩
      have hT3:=hT2.call ((Below.refl w6.heap.size w6).alloc (Nat.le_refl _) (.cells #[.int .u16 d0,.int .u8 d1,.int .u8 d2,.int .u32 d3,.int .u32 d4,.int .i32 d5,.int .u16 d6,.int .u16 d7,.slice Av body2.length cv] 54))
      have hob3:=own_alloc hob2 (.cells #[.int .u16 d0,.int .u8 d1,.int .u8 d2,.int .u32 d3,.int .u32 d4,.int .i32 d5,.int .u16 d6,.int .u16 d7,.slice Av body2.length cv] 54)
      have hz6:=hT2.left.below.size
      have hpl2:=hpl.out
      replace hL2:=h'd hL2
      replace hT2:=h'd hT2
      clear kt CWF CKF hsp
      go_wp2_with (first
       | (refine wpList_load_row rfl 54 (.tmp 8) rfl g8 rfl 54 #[.int .u16 d0,.int .u8 d1,.int .u8 d2,.int .u32 d3,.int .u32 d4,.int .i32 d5,.int .u16 d6,.int .u16 d7,.slice Av body2.length cv] (0,0) _ kb Tryz.underlying54 rfl (by kernel_rfl) ?_)
       | (at_builtin;refine wpList_append rfl (.tmp 63) (.tmp 65) 23 rfl w1.heap.size stT (.slice pA pys.length pc) pys.length (pys.flatMap sL) rfl hT3.right.own _ _ 1 [.int .u16 d0,.int .u8 d1,.int .u8 d2,.int .u32 d3,.int .u32 d4,.int .i32 d5,.int .u16 d6,.int .u16 d7,.slice Av body2.length cv] rfl (Sl.lit w6 #[.int .u16 d0,.int .u8 d1,.int .u8 d2,.int .u32 d3,.int .u32 d4,.int .i32 d5,.int .u16 d6,.int .u16 d7,.slice Av body2.length cv] 54 (by simp[maxLen]) rfl) (by simp[Value.oneCell']) (by simp only[maxLen];omega) (by omega) (by simp;omega) ?_;intro v9 w9 ho9 hg9 hob9))
      go_roundg (ls.length-(k+1))
      case measure=>omega
      case rel=>exact ⟨k+1,lys2,pys++[((⟨⟨d0,d1,d2,d3,d4,d5,d6,d7⟩,Av,body2.length,cv⟩,body2):StY)],by omega,rfl,by go_num,hT3.addR hob3 ho9 hg9 hob9,hL2.out,by rw[sOf_snoc,htp2.out]⟩
   ·obtain rfl:k=ls.length:=by omega
    have hTS:=h'd hT
    have hpn:pys.length=ls.length:=by
     have h1:=congrArg List.length hP
     rw[spoiltN_len (by rw[←hsl.out];exact Nat.le_refl _)] at h1
     unfold sOf at h1
     rw[List.length_map] at h1
     exact h1
    have hkn:S.length=ls.length:=hsl.out.symm
    obtain ⟨-,pA,pc,rfl,-⟩:=id (Sl.of_own hT.right.own)
    obtain ⟨-,eA,ec,rfl,-⟩:=id (Sl.of_own hT.left.own)
    replace hT:=h'd hT
    replace hP:=h'd hP
    replace hL:=h'd hL
    replace hpn:=h'd hpn
    replace hkn:=h'd hkn
    clear hTS hkl
    have hp60:pys.length≤60:=by rw[hpn.out];omega
    go_upto_region 20 with fail
    go_loopg [10] pys.length (fun m u wr=>∃ k:Nat,k≤pys.length∧m=pys.length-k∧u=.int .i64 k∧FineTo ws S k∧Below w3.heap.size w3 wr)
    case atStart=>exact ⟨0,Nat.zero_le _,rfl,rfl,fun i hi h=>absurd h (Nat.not_lt_zero _),Below.refl _ _⟩
    case round =>
     obtain ⟨k,hk,rfl,rfl,hF,hBk⟩:=hrel
     obtain ⟨w5,rfl⟩:∃ x:World,x=wr:=⟨_,rfl⟩
     have hB5:=hB3.trans (hBk.mono hz3)
     have hz5:=hB5.size
     have hT5:=hT.out.call hBk
     by_cases hkl:k<pys.length
     ·have hkS:k<S.length:=by rw[hkn.out,←hpn.out];exact hkl
      have hkls:k<ls.length:=by rw[←hpn.out];exact hkl
      have hS1:=hS.out.below (hB5.mono hB)
      have hW1:=hW.out.below (hB5.mono hB)
      obtain ⟨b,off,hwA,hb0,hrow⟩:=Sl.row stL_len hS1.sl hkls
      subst hwA
      have hbd:=hS1.bodies k hkls hkS
      have hsk:=hso.out _ (List.getElem_mem hkS)
      have hhd:ls[k].h=S[k].1:=by
       have:=congrArg (fun z=>z[k]?) hS1.map
       simpa[hkls,hkS] using this
      obtain ⟨pb,po,hpA,hpb,hprow⟩:=Sl.row (f:=sL) (s:=9) (fun _=>rfl) (Sl.of_own hT5.right.own) hkl
      subst hpA
      have hpbd:=Sl.of_own (hT5.right.bodies _ (List.getElem_mem hkl))
      have hpe:((pys[k].1.h,pys[k].2):StG)=spoil (howF ws k) S[k]:=by
       have h1:=spoiltN_at (ws:=ws) (S:=S) (k:=ls.length) (by rw[hkn.out];exact Nat.le_refl _) hkls
       rw[←hP.out] at h1
       unfold sOf at h1
       rw[List.getElem?_map,List.getElem?_eq_getElem hkl] at h1
       exact o'i h1
      have hFs:=hF.step hkS
      obtain ⟨x,hx⟩:∃ x,x=ls[k]:=⟨_,rfl⟩
      rw[←hx] at hrow hbd hhd
      obtain ⟨s,hs⟩:∃ s,s=S[k]:=⟨_,rfl⟩
      rw[←hs] at hbd hsk hhd hpe hFs
      obtain ⟨y,hy⟩:∃ y,y=pys[k]:=⟨_,rfl⟩
      rw[←hy] at hprow hpbd hpe
      clear hx hs hy
      obtain ⟨hd,body⟩:=s
      obtain ⟨⟨h0,h1,h2,h3,h4,h5,h6,h7⟩,xA,xl,xc⟩:=x
      simp only at hhd
      subst hhd
      obtain rfl:xl=body.length:=sl_len hbd
      obtain ⟨⟨⟨d0,d1,d2,d3,d4,d5,d6,d7⟩,yA,yl,yc⟩,body2⟩:=y
      have hpb2:body2=body:=by
       have h:=congrArg Prod.snd hpe
       rw[spoil_body] at h
       exact h
      subst hpb2
      obtain rfl:yl=body2.length:=sl_len hpbd
      have hspk:StOk ((⟨d0,d1,d2,d3,d4,d5,d6,d7⟩,body2):StG):=by rw[show ((⟨d0,d1,d2,d3,d4,d5,d6,d7⟩,body2):StG)=_ from hpe];exact spoil_ok _ hsk
      have q0:w5.cell? ⟨b,off+k*9,none⟩=some (.int .u16 h0):=hrow 0 _ rfl
      have q1:w5.cell? ⟨b,off+k*9+1,none⟩=some (.int .u8 h1):=hrow 1 _ rfl
      have q2:w5.cell? ⟨b,off+k*9+2,none⟩=some (.int .u8 h2):=hrow 2 _ rfl
      have q3:w5.cell? ⟨b,off+k*9+3,none⟩=some (.int .u32 h3):=hrow 3 _ rfl
      have q4:w5.cell? ⟨b,off+k*9+4,none⟩=some (.int .u32 h4):=hrow 4 _ rfl
      have q5:w5.cell? ⟨b,off+k*9+5,none⟩=some (.int .i32 h5):=hrow 5 _ rfl
      have q6:w5.cell? ⟨b,off+k*9+6,none⟩=some (.int .u16 h6):=hrow 6 _ rfl
      have q7:w5.cell? ⟨b,off+k*9+7,none⟩=some (.int .u16 h7):=hrow 7 _ rfl
      have q8:w5.cell? ⟨b,off+k*9+8,none⟩=some (.slice xA body2.length xc):=hrow 8 _ rfl
      have hpr:∀ j u,(sL ((⟨⟨d0,d1,d2,d3,d4,d5,d6,d7⟩,yA,body2.length,yc⟩,body2):StY))[j]?=some u→w5.cell? ⟨pb,po+k*9+j,none⟩=some u:=hprow
      have hpbl:pb<w5.heap.size:=hpb
      have CK1:=rchk_any (⟨h0,h1,h2,h3,h4,h5,h6,h7⟩,body2) hsk B (.slice xA body2.length xc) w5 hbd (Nat.le_trans hB hz5)
      have CK2:=fun (W:World) (h:Below w5.heap.size w5 W)=>rchk_any (⟨d0,d1,d2,d3,d4,d5,d6,d7⟩,body2) hspk w5.heap.size (.slice yA body2.length yc) W (hpbd.below h) h.size
      dsimp only[stateVal] at CK1 CK2
      have ik:(k:Int)<(ls.length:Int):=by omega
      have ikp:(k:Int)<(pys.length:Int):=by omega
      have hpe2:howF ws k=3→chk0 (⟨h0,h1,h2,h3,h4,h5,h6,h7⟩,body2)=true→((⟨d0,d1,d2,d3,d4,d5,d6,d7⟩,body2):StG)=sumX (⟨h0,h1,h2,h3,h4,h5,h6,h7⟩,body2):=fun h3 hc=>by
       have h:((⟨d0,d1,d2,d3,d4,d5,d6,d7⟩,body2):StG)=_:=hpe
       rw[h,h3]
       unfold spoil
       rw[if_neg (by decide),if_neg (by decide),if_pos ⟨rfl,hc⟩]
      replace CK1:=h'd CK1
      replace CK2:=h'd CK2
      replace hpe2:=h'd hpe2
      replace hFs:=h'd hFs
      replace hspk:=h'd hspk
      replace hpr:=h'd hpr
      clear hrow hprow hpe hS1 hbd hpbd hT5 hF
      by_cases hkw:k<ws.length
      ·obtain ⟨wb,wo,hwA2,hwb,hwr⟩:=(show ∃ b off,wA=some ⟨b,off,none⟩∧b<B∧∀ j u,(ws.map u8c)[j]?=some u→w5.cell? ⟨b,off+j,none⟩=some u by
        obtain ⟨-,A',c',hv,-,-,hat⟩:=hW1
        simp only[Value.slice.injEq,true_and] at hv
        obtain ⟨rfl,rfl⟩:=hv
        exact hat (by omega))
       subst hwA2
       obtain ⟨c,hc⟩:∃ c,c=ws[k]:=⟨_,rfl⟩
       have r0:w5.cell? ⟨wb,wo+k,none⟩=some (.int .u8 c):=hwr k _ (by rw[List.getElem?_map,List.getElem?_eq_getElem hkw,hc];rfl)
       have c8:=hw8 c (by rw[hc];exact List.getElem_mem _)
       have ikw:(k:Int)<(ws.length:Int):=by omega
       have hhc:howF ws k=c%4:=by rw[howF_lt hkw,hc]
       have wm:Int.tmod c 4=c%4:=by rw[Int.tmod_eq_emod_of_nonneg c8.1]
       obtain ⟨how,hhow⟩:∃ z,z=c%4:=⟨_,rfl⟩
       rw[←hhow] at hhc wm
       clear hwr hc hhow c8
       replace hhc:=h'd hhc
       by_cases e3:how=3
       ·have f3:(how==3)=true:=by simp[e3]
        have h33:howF ws k=3:=by rw[hhc.out,e3]
        cases hc1:chk0 (⟨h0,h1,h2,h3,h4,h5,h6,h7⟩,body2) with
        | false =>
         have hce:(chkE (⟨h0,h1,h2,h3,h4,h5,h6,h7⟩,body2)==0)=false:=by rw[←chk0_is];exact hc1
         have CK:=CK1.out
         obtain ⟨ce,hcee⟩:∃ z,z=chkE (⟨h0,h1,h2,h3,h4,h5,h6,h7⟩,body2):=⟨_,rfl⟩
         rw[←hcee] at CK hce
         have hF2:=hFs.out fun _ h=>by rw[hc1] at h;cases h
         replace hF2:=h'd hF2
         replace hcee:=h'd hcee
         replace CK:=h'd CK
         replace hc1:=h'd hc1
         replace h33:=h'd h33
         clear e3
         go_wp2_with (go_at_call 34;refine Calls.mono CK.out ?_;rintro e w6 ⟨rfl,hB6⟩)
         go_roundg (pys.length-(k+1))
         case measure=>omega
         case rel=>exact ⟨k+1,by omega,rfl,by go_num,hF2.out,hBk.trans (hB6.mono hBk.size)⟩
        | true =>
         have hce:chkE (⟨h0,h1,h2,h3,h4,h5,h6,h7⟩,body2)=0:=by rw[chk0_is] at hc1;simpa using hc1
         have CKa:=CK1.out
         rw[hce] at CKa
         have hpx:=hpe2.out h33 hc1
         cases hc2:chk0 (sumX (⟨h0,h1,h2,h3,h4,h5,h6,h7⟩,body2)) with
         | true =>
          rw[←hpx] at hc2
          have hce2:chkE (⟨d0,d1,d2,d3,d4,d5,d6,d7⟩,body2)=0:=by rw[chk0_is] at hc2;simpa using hc2
          have CKb:=CK2.out
          rw[hce2] at CKb
          replace CKa:=h'd CKa
          replace CKb:=h'd CKb
          replace hce:=h'd hce
          replace hce2:=h'd hce2
          replace hc1:=h'd hc1
          replace hc2:=h'd hc2
          replace h33:=h'd h33
          replace hpx:=h'd hpx
          clear e3
          go_wp2_with (first
           | (go_at_call 24;refine Calls.mono (CW.out _) ?_;rintro e w8 ⟨rfl,hB8⟩)
           | (go_at_call 34;with_reducible refine Calls.mono (CKb.out _ hB6) ?_;rintro e w7 ⟨rfl,hB7⟩)
           | (go_at_call 34;refine Calls.mono CKa.out ?_;rintro e w6 ⟨rfl,hB6⟩;have z0:=fun j u hu=>(hB6.cell (p:=⟨pb,po+k*9+j,none⟩) hpbl).trans (hpr.out j u hu);have zc0:w6.cell? ⟨pb,po+k*9,none⟩=some (.int .u16 d0):=z0 0 _ rfl;have zc1:w6.cell? ⟨pb,po+k*9+1,none⟩=some (.int .u8 d1):=z0 1 _ rfl;have zc2:w6.cell? ⟨pb,po+k*9+2,none⟩=some (.int .u8 d2):=z0 2 _ rfl;have zc3:w6.cell? ⟨pb,po+k*9+3,none⟩=some (.int .u32 d3):=z0 3 _ rfl;have zc4:w6.cell? ⟨pb,po+k*9+4,none⟩=some (.int .u32 d4):=z0 4 _ rfl;have zc5:w6.cell? ⟨pb,po+k*9+5,none⟩=some (.int .i32 d5):=z0 5 _ rfl;have zc6:w6.cell? ⟨pb,po+k*9+6,none⟩=some (.int .u16 d6):=z0 6 _ rfl;have zc7:w6.cell? ⟨pb,po+k*9+7,none⟩=some (.int .u16 d7):=z0 7 _ rfl;have zc8:w6.cell? ⟨pb,po+k*9+8,none⟩=some (.slice yA body2.length yc):=z0 8 _ rfl;clear z0))
          go_ret
          exact ⟨rfl,hB5.trans ((hB6.trans ((hB7.trans (hB8.mono hB7.size)).mono hB6.size)).mono hz5)⟩
         | false =>
          have hF2:=hFs.out fun _ _=>hc2
          rw[←hpx] at hc2
          have hce2:(chkE (⟨d0,d1,d2,d3,d4,d5,d6,d7⟩,body2)==0)=false:=by rw[←chk0_is];exact hc2
          have CKb:=CK2.out
          obtain ⟨ce,hcee⟩:∃ z,z=chkE (⟨d0,d1,d2,d3,d4,d5,d6,d7⟩,body2):=⟨_,rfl⟩
          rw[←hcee] at CKb hce2
          replace hcee:=h'd hcee
          replace CKa:=h'd CKa
          replace CKb:=h'd CKb
          replace hce:=h'd hce
          replace hc1:=h'd hc1
          replace hc2:=h'd hc2
          replace h33:=h'd h33
          replace hpx:=h'd hpx
          replace hF2:=h'd hF2
          clear e3
          go_wp2_with (first
           | (go_at_call 34;with_reducible refine Calls.mono (CKb.out _ hB6) ?_;rintro e w7 ⟨rfl,hB7⟩)
           | (go_at_call 34;refine Calls.mono CKa.out ?_;rintro e w6 ⟨rfl,hB6⟩;have z0:=fun j u hu=>(hB6.cell (p:=⟨pb,po+k*9+j,none⟩) hpbl).trans (hpr.out j u hu);have zc0:w6.cell? ⟨pb,po+k*9,none⟩=some (.int .u16 d0):=z0 0 _ rfl;have zc1:w6.cell? ⟨pb,po+k*9+1,none⟩=some (.int .u8 d1):=z0 1 _ rfl;have zc2:w6.cell? ⟨pb,po+k*9+2,none⟩=some (.int .u8 d2):=z0 2 _ rfl;have zc3:w6.cell? ⟨pb,po+k*9+3,none⟩=some (.int .u32 d3):=z0 3 _ rfl;have zc4:w6.cell? ⟨pb,po+k*9+4,none⟩=some (.int .u32 d4):=z0 4 _ rfl;have zc5:w6.cell? ⟨pb,po+k*9+5,none⟩=some (.int .i32 d5):=z0 5 _ rfl;have zc6:w6.cell? ⟨pb,po+k*9+6,none⟩=some (.int .u16 d6):=z0 6 _ rfl;have zc7:w6.cell? ⟨pb,po+k*9+7,none⟩=some (.int .u16 d7):=z0 7 _ rfl;have zc8:w6.cell? ⟨pb,po+k*9+8,none⟩=some (.slice yA body2.length yc):=z0 8 _ rfl;clear z0))
          go_roundg (pys.length-(k+1))
          case measure=>omega
          case rel=>exact ⟨k+1,by omega,rfl,by go_num,hF2.out,hBk.trans ((hB6.trans (hB7.mono hB6.size)).mono hBk.size)⟩
       ·have f3:(how==3)=false:=by simp[e3]
        have hF2:=hFs.out fun h _=>absurd (hhc.out.symm.trans h) e3
        replace hF2:=h'd hF2
        clear e3
        go_wp2
        go_roundg (pys.length-(k+1))
        case measure=>omega
        case rel=>exact ⟨k+1,by omega,rfl,by go_num,hF2.out,hBk⟩
      ·have ikw:¬ (k:Int)<(ws.length:Int):=by omega
       have hF2:=hFs.out fun h _=>by rw[howF_ge hkw] at h;cases h
       replace hF2:=h'd hF2
       go_wp2
       go_roundg (pys.length-(k+1))
       case measure=>omega
       case rel=>exact ⟨k+1,by omega,rfl,by go_num,hF2.out,hBk⟩
     ·obtain rfl:k=pys.length:=by omega
      have hsame:graphG (nodesG (sOf pys))=graphG (nodesG (sOf lys)):=by
       have h:=nodes_left (ws:=ws) (S:=S) fun i hi=>hF i hi (by rw[hpn.out,←hkn.out];exact hi)
       rw[hP.out,hL.out,←hkn.out,h]
      have hokP:∀ s∈sOf pys,StOk s:=by
       rw[hP.out]
       intro s hs
       obtain ⟨j,hj,rfl⟩:=List.getElem_of_mem hs
       have hj2:j<ls.length:=by rw[spoiltN_len (by rw[hkn.out];exact Nat.le_refl _)] at hj;exact hj
       have h1:=spoiltN_at (ws:=ws) (S:=S) (k:=ls.length) (by rw[hkn.out];exact Nat.le_refl _) hj2
       rw[List.getElem?_eq_getElem hj] at h1
       rw[o'i h1]
       exact spoil_ok _ (hso.out _ (List.getElem_mem _))
      have hokL:∀ s∈sOf lys,StOk s:=by
       rw[hL.out]
       exact fun s hs=>hso.out _ (leftN_mem hs)
      have hl60:lys.length≤60:=by
       have h1:=congrArg List.length hL.out
       have h2:=leftN_len ws S ls.length
       unfold sOf at h1
       rw[List.length_map] at h1
       omega
      have CB1:=build_any w5.heap.size (.slice pA pys.length pc) (sOf pys) (pys.map (·.1)) w5 hT5.right.states (Nat.le_refl _) hokP (by rw[List.length_map];omega)
      have CB2:=fun (W:World) (h:Below w5.heap.size w5 W)=>rbuild_any W.heap.size (.slice eA lys.length ec) (sOf lys) (lys.map (·.1)) W (hT5.call h).left.states (Nat.le_refl _) hokL (by rw[List.length_map];omega)
      replace CB1:=h'd CB1
      replace CB2:=h'd CB2
      replace hsame:=h'd hsame
      clear hT5 hokP hokL hF
      go_wp2_with (first
       | (go_at_call 24;with_reducible refine Calls.mono (CW.out _) ?_;rintro e w9 ⟨rfl,hB9⟩)
       | (go_at_call 28;with_reducible refine Calls.mono (eq16_any _ _ _ _ ra rd _ (hG.call hB7) hD (hga.trans (hsame.out.trans hgd.symm))) ?_;rintro e w8 ⟨rfl,hB8⟩)
       | (go_at_call 27;with_reducible refine Calls.mono (CB2.out _ hB6) ?_;rintro e w7 ⟨dv,rd,rfl,hD,hgd,hB7⟩)
       | (go_at_call 26;with_reducible refine Calls.mono CB1.out ?_;rintro e w6 ⟨av,ra,rfl,hG,hga,hB6⟩))
      go_ret
      exact ⟨rfl,hB5.trans ((hB6.trans ((hB7.trans ((hB8.trans (hB9.mono hB8.size)).mono hB7.size)).mono hB6.size)).mono hz5)⟩
end Go.Proofs.YtiikagabdiphkaaGreat
