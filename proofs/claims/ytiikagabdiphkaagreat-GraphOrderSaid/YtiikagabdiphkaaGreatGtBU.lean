/- lodestarlaw16's GraphOrder answers true. Conditions: the states lie in memory. -/
import Derived.Test.YtiikagabdiphkaaGreatGtBR
import Derived.Test.YtiikagabdiphkaaGreatGtBT
import Derived.Test.YtiikagabdiphkaaGreatGtAR
set_option maxRecDepth 100000
namespace Go.Proofs.YtiikagabdiphkaaGreat
open Go.RowKit Go.Lo
theorem lt_case13 (j:Nat) (h:j<13):j=0∨j=1∨j=2∨j=3∨j=4∨j=5∨j=6∨j=7∨j=8∨j=9∨j=10∨j=11∨j=12:=by omega
theorem lo_ex {P:Program} {t e:TypeId} {s bytes:Nat} (E:ElT P t e s bytes) (A:Option Addr) (n c lo:Nat) (h1:lo≤n) :
  ∃ v2,(∀ W,(Instr.sliceAt t (.slice A n c) (some (.int .i64 (lo:Int))) none none).run P W=.ok v2 W)∧∀ (w:World) (B:Nat) (xs:List Value),Sl w B s (.slice A n c) n xs→Sl w B s v2 (n-lo) (xs.drop (lo*s)):=by
 obtain ⟨i,z,hi',hz,hsz,hby,hzs⟩:=E.info
 have he:P.elem t=e:=by simp[Program.elem,E.sl]
 have hu:P.underlying t=some (.slice (P.elem t)):=by rw[he];exact E.sl
 refine ⟨.slice (if c=lo then A else A.map (·.add (lo*s))) (n-lo) (c-lo),fun W => ?_,fun w B xs h=>h.drop h1⟩
 rw[run_sliceAt_slice W t _ _ _ _ hu,run_slice_l W t A n c hu .i64 lo (by omega) (by omega),he]
 simp[sizeOf,typeInfo,hi',hsz,sliced]
theorem hi_ex {P:Program} {t e:TypeId} {s bytes:Nat} (E:ElT P t e s bytes) (A:Option Addr) (n c hi:Nat) (h1:hi≤n) (h3:n≤c) :
  ∃ v2,(∀ W,(Instr.sliceAt t (.slice A n c) none (some (.int .i64 (hi:Int))) none).run P W=.ok v2 W)∧∀ (w:World) (B:Nat) (xs:List Value),Sl w B s (.slice A n c) n xs→Sl w B s v2 hi (xs.take (hi*s)):=by
 obtain ⟨i,z,hi',hz,hsz,hby,hzs⟩:=E.info
 have he:P.elem t=e:=by simp[Program.elem,E.sl]
 have hu:P.underlying t=some (.slice (P.elem t)):=by rw[he];exact E.sl
 have ea:(if c=0 then A else A.map (·.add (0*s)))=A:=by
  split
  ·rfl
  ·cases A with
   | none=>rfl
   | some a =>
    obtain ⟨b,off,f⟩:=a
    cases f <;> simp[Addr.add]
 refine ⟨.slice (if c=0 then A else A.map (·.add (0*s))) hi c,fun W => ?_,fun w B xs h=>by rw[ea];exact h.take h1⟩
 rw[run_sliceAt_slice W t _ _ _ _ hu,run_slice_h W t A n c hu .i64 hi (by omega) (by omega),he]
 simp[sizeOf,typeInfo,hi',hsz,sliced]
theorem states_drop {w:World} {B n:Nat} {sv v2:Value} {S:List StG} {ls:List StV} (h:StatesIn w B sv S ls) (hs:Sl w B 9 v2 (ls.length-n) ((ls.flatMap stL).drop (n*9))):StatesIn w B v2 (S.drop n) (ls.drop n):=by
 refine ⟨by rw[List.length_drop,←flat_drop stL_len];exact hs,by rw[List.map_drop,List.map_drop,h.map],fun k h1 h2 => ?_⟩
 rw[List.length_drop] at h1 h2
 simp only[List.getElem_drop]
 exact h.bodies (n+k) (by omega) (by omega)
theorem states_take {w:World} {B n:Nat} {sv v2:Value} {S:List StG} {ls:List StV} (h:StatesIn w B sv S ls) (hn:n≤ls.length) (hs:Sl w B 9 v2 n ((ls.flatMap stL).take (n*9))):StatesIn w B v2 (S.take n) (ls.take n):=by
 refine ⟨by rw[List.length_take,Nat.min_eq_left hn,←flat_take stL_len];exact hs,by rw[List.map_take,List.map_take,h.map],fun k h1 h2 => ?_⟩
 rw[List.length_take] at h1 h2
 simp only[List.getElem_take]
 exact h.bodies k (by omega) (by omega)
theorem StR.joined {w0 wa wb w':World} {ys zs:List StY} {v v2 v':Value} (h:StR w0 ys v wa) (h2:StR wa zs v2 wb) (ho:w'.ownsRow w0.heap.size 54 9 v' (ys.length+zs.length) (ys.flatMap sL++zs.flatMap sL)) (hg:wb.grownBy w' v.ownBlock):StR w0 (ys++zs) v' w':=by
 have hb:=h.call h2.below
 refine ⟨by rw[List.length_append,List.flatMap_append];exact ho,fun z hz => ?_,hb.below.trans (below_of_grown hg hb.below.size fun g hg=>(hb.own.lt g hg).1)⟩
 rcases List.mem_append.1 hz with hz | hz
 ·exact own_grown hb.own (hb.bodies z hz) hg (by decide)
 ·exact own_grown hb.own (own_less (h2.bodies z hz) h.below.size) hg (by decide)
theorem sOf_append (ys zs:List StY):sOf (ys++zs)=sOf ys++sOf zs:=by simp[sOf]
theorem sLs_oneCell (zs:List StY):∀ u∈zs.flatMap sL,u.oneCell'=true:=by
 intro u hu
 obtain ⟨x,-,hx⟩:=List.mem_flatMap.1 hu
 simp only[sL,stL,List.mem_cons,List.not_mem_nil,or_false] at hx
 rcases hx with rfl | rfl | rfl | rfl | rfl | rfl | rfl | rfl | rfl <;> simp[Value.oneCell']
theorem eql_key (a b c a2 b2 c2:Int) (w:World):(binOp .eql 75 (.agg #[.int .u8 a,.int .u32 b,.int .u32 c]) (.agg #[.int .u8 a2,.int .u32 b2,.int .u32 c2])).run Tryz.prog w=.ok (.bool (decide ((a,b,c)=(a2,b2,c2)))) w:=by
 rw[run_eql_struct,run_equalIn_agg _ _ _ _ _ (by kernel_rfl) (by kernel_rfl)]
 go_simp
 by_cases h1:a=a2 <;> by_cases h2:b=b2 <;> by_cases h3:c=c2 <;> simp[h1,h2,h3]
theorem rkey_any (h:OHead) (w:World):Calls Tryz.prog 33 #[.agg #[.int .u16 h.age,.int .u8 h.opts,.int .u8 h.type,.int .u32 h.id,.int .u32 h.adv,.int .i32 h.seq,.int .u16 h.sum,.int .u16 h.len]] w fun e w'=>e=.returned (.agg #[.int .u8 h.type,.int .u32 h.id,.int .u32 h.adv])∧Below w.heap.size w w':=by
 obtain ⟨h0,h1,h2,h3,h4,h5,h6,h7⟩:=h
 dsimp only
 have k0:Blk ((w.alloc (.cells #[.int .u16 h0,.int .u8 h1,.int .u8 h2,.int .u32 h3,.int .u32 h4,.int .i32 h5,.int .u16 h6,.int .u16 h7] 51)).alloc (.cells #[.int .u8 0,.int .u32 0,.int .u32 0] 75)) w.heap.size 51 #[.int .u16 h0,.int .u8 h1,.int .u8 h2,.int .u32 h3,.int .u32 h4,.int .i32 h5,.int .u16 h6,.int .u16 h7]:=(Blk.new _ _ _).alloc _
 have k1:Blk ((w.alloc (.cells #[.int .u16 h0,.int .u8 h1,.int .u8 h2,.int .u32 h3,.int .u32 h4,.int .i32 h5,.int .u16 h6,.int .u16 h7] 51)).alloc (.cells #[.int .u8 0,.int .u32 0,.int .u32 0] 75)) (w.heap.size+1) 75 #[.int .u8 0,.int .u32 0,.int .u32 0]:=Blk.new_ _ (by simp)
 have kB:Below w.heap.size w ((w.alloc (.cells #[.int .u16 h0,.int .u8 h1,.int .u8 h2,.int .u32 h3,.int .u32 h4,.int .i32 h5,.int .u16 h6,.int .u16 h7] 51)).alloc (.cells #[.int .u8 0,.int .u32 0,.int .u32 0] 75)):=((Below.refl _ _).alloc (Nat.le_refl _) _).alloc (by simp) _
 go_enter Tryz.func33,Tryz.ntmps33
 go_upto_region 1 with fail
 generalize (w.alloc (.cells #[.int .u16 h0,.int .u8 h1,.int .u8 h2,.int .u32 h3,.int .u32 h4,.int .i32 h5,.int .u16 h6,.int .u16 h7] 51)).alloc (.cells #[.int .u8 0,.int .u32 0,.int .u32 0] 75)=w1 at k0 k1 kB ⊢
 have c2:=k0.cell 2
 have c3:=k0.cell 3
 have c4:=k0.cell 4
 simp only[q'a,q'z,q's] at c2 c3 c4
 go_wp2_with (refine wpList_store_row rfl 75 (.tmp 2) (.tmp 9) rfl (w.heap.size+1) #[.int .u8 h2,.int .u32 h3,.int .u32 h4] rfl rfl 75 #[.int .u8 0,.int .u32 0,.int .u32 0] k1 (by kernel_rfl) rfl (by simp[Value.oneCell']) ?_)
 refine bodyPost_ret (results_cell_row rfl _ _ (w.heap.size+1) 75 #[.int .u8 h2,.int .u32 h3,.int .u32 h4] (0,0) _ rfl (blk_setRow k1) Tryz.underlying75 rfl (by kernel_rfl)) rfl ?_
 exact ⟨rfl,below_setRow kB (by omega) _⟩
def UnTo (S:List StG) (i:Nat):Prop:=∀ (a b:Nat) (hb:b<S.length) (hab:a<b),b<i→keyS (S[a]'(by omega))≠keyS S[b]
theorem UnTo.done {S:List StG} {i:Nat} (h:UnTo S i) (hi:i=S.length):Unlike S:=by
 unfold Unlike
 rw[List.pairwise_iff_getElem]
 exact fun a b ha hb hab=>h a b hb hab (by omega)
theorem UnTo.step {S:List StG} {i:Nat} (h:UnTo S i) (hi:i<S.length) (hq:∀ k (hk:k<i),keyS (S[k]'(by omega))≠keyS S[i]):UnTo S (i+1):=fun a b hb hab hlt=>by
 by_cases e:b=i
 ·subst e;exact hq a hab
 ·exact h a b hb hab (by omega)
set_option maxHeartbeats 8000000 in
theorem graphOrder_any (B:Nat) (sv:Value) (S:List StG) (ls:List StV) (y:Int) (hy:0≤y∧y<256) (w:World) (hS:StatesIn w B sv S ls) (hB:B≤w.heap.size) (hok:∀ s∈S,HeadOk s.1∧∀ b∈s.2,0≤b∧b<256) (hh:∀ s∈S,s.2.length≤140737488355328) (hn:ls.length≤140737488355328) :
  Calls Tryz.prog 8 #[sv,.int .u8 y] w fun e w'=>e=.returned (.bool true)∧Below w.heap.size w w':=by
 have hmix:=h'd (show (Tryz.prog).follows .mixedOrders=true by kernel_rfl)
 have CH:=heavy16_any ls sv B w hS.sl hn (states_len hS hh)
 have CW:=fun W=>works16_any W
 have LS:∀ m,(∀ x∈ls,x.len≤m)→∀ s∈S,s.2.length≤m:=fun m h=>lens_states hS h
 replace LS:=h'd LS
 replace CH:=h'd CH
 replace CW:=h'd CW
 have hsl:=hS.len
 obtain ⟨-,lA,lc,rfl,hlc,-⟩:=id hS.sl
 replace hS:=h'd hS
 replace hsl:=h'd hsl
 replace hlc:=h'd hlc
 go_enter Tryz.func8,Tryz.ntmps8
 go_upto_region 1 with fail
 go_cut [16] (fun v wx=>∃ q:Bool,v=.bool q∧wx=w∧(q=false→0<ls.length∧ls.length≤60∧∀ x∈ls,x.len≤16384))
 case first =>
  by_cases e0:ls.length=0
  ·have e1:((ls.length:Int)==0)=true:=by rw[beq_iff_eq];omega
   replace e0:=h'd e0
   go_wp2_with (go_at_call 23;refine Calls.mono CH.out ?_;rintro e w1 ⟨q,rfl,rfl,hq⟩;cases q)
   all_goals
    go_meet
    case rel=>exact ⟨true,rfl,rfl,fun h=>by cases h⟩
  ·have e1:((ls.length:Int)==0)=false:=by rw[beq_eq_false_iff_ne];omega
   replace e0:=h'd e0
   go_wp2_with (go_at_call 23;refine Calls.mono CH.out ?_;rintro e w1 ⟨q,rfl,rfl,hq⟩;cases q)
   ·go_meet
    case rel=>exact ⟨false,rfl,rfl,fun _=>⟨by have:=e0.out;omega,hq (by first | rfl | trivial)⟩⟩
   ·go_meet
    case rel=>exact ⟨true,rfl,rfl,fun h=>by cases h⟩
 case rest =>
  obtain ⟨q,rfl,rfl,hq⟩:=hcut
  obtain ⟨w,rfl⟩:∃ x:World,x=wc:=⟨_,rfl⟩
  cases q with
  | true =>
   go_wp2_with (go_at_call 24;refine Calls.mono (CW.out _) ?_;rintro e w2 ⟨rfl,hB2⟩)
   go_ret
   exact ⟨rfl,hB2⟩
  | false =>
   obtain ⟨hpos,h60,h16⟩:=hq rfl
   have hso:∀ s∈S,StOk s:=fun s hs=>⟨(hok s hs).1,Nat.le_trans (LS.out _ h16 s hs) (by omega),(hok s hs).2⟩
   have hsz:=LS.out _ h16
   replace hso:=h'd hso
   replace hsz:=h'd hsz
   clear CH hq h16 LS
   obtain ⟨b,off,hlA,hb0,-⟩:=Sl.row stL_len hS.out.sl (k:=0) hpos
   subst hlA
   have hrow:=h'd (fun (W:World) (hW:Below w.heap.size w W) (i:Nat) (hi:i<ls.length)=>show (i<S.length)∧∃ (s:StG) (h2:i<S.length),s=S[i]∧∃ (A:Option Addr) (n c:Nat),∀ j u,(stL ⟨s.1,A,n,c⟩)[j]?=some u→W.cell? ⟨b,off+i*9+j,none⟩=some u by
    have hiS:i<S.length:=by rw[←hsl.out];exact hi
    have hS1:=hS.out.below (hW.mono hB)
    obtain ⟨b2,off2,e,-,hr⟩:=Sl.row stL_len hS1.sl hi
    simp only[Option.some.injEq,Addr.mk.injEq,and_true] at e
    obtain ⟨rfl,rfl⟩:=e
    have hhd:ls[i].h=S[i].1:=by
     have:=congrArg (fun z=>z[i]?) hS1.map
     simpa[hi,hiS] using this
    refine ⟨hiS,_,hiS,rfl,ls[i].A,ls[i].len,ls[i].cap,fun j u hu=>hr j u ?_⟩
    rw[←hhd] at hu
    exact hu)
   go_upto_region 4 with fail
   go_loopg [5] ls.length (fun m u wr=>∃ i:Nat,i≤ls.length∧m=ls.length-i∧u=.int .i64 i∧UnTo S i∧Below w.heap.size w wr)
   case atStart=>exact ⟨0,Nat.zero_le _,rfl,rfl,fun a b hb hab h=>absurd h (Nat.not_lt_zero _),Below.refl _ _⟩
   case round =>
    obtain ⟨i,hi,rfl,rfl,hU,hBi⟩:=hrel
    obtain ⟨w4,rfl⟩:∃ x:World,x=wr:=⟨_,rfl⟩
    by_cases hil:i<ls.length
    ·have ii:(i:Int)<(ls.length:Int):=by omega
     have hiS:i<S.length:=by rw[←hsl.out];exact hil
     have hUs:=hU.step hiS
     replace hUs:=h'd hUs
     clear hU
     go_upto_region 7 with fail
     go_loopg [6] i (fun m u wr=>∃ k:Nat,k≤i∧m=i-k∧u=.int .i64 k∧(∀ a (ha:a<k) (hai:a<S.length),keyS S[a]≠keyS S[i])∧Below w4.heap.size w4 wr)
     case atStart=>exact ⟨0,Nat.zero_le _,rfl,rfl,fun a ha=>absurd ha (Nat.not_lt_zero _),Below.refl _ _⟩
     case round =>
      obtain ⟨k,hk,rfl,rfl,hP,hBk⟩:=hrel
      obtain ⟨w5,rfl⟩:∃ x:World,x=wr:=⟨_,rfl⟩
      have hB5:=hBi.trans (hBk.mono hBi.size)
      by_cases hki:k<i
      ·have kk:(k:Int)<(i:Int):=by omega
       have kl:(k:Int)<(ls.length:Int):=by omega
       have hb5:b<w5.heap.size:=Nat.lt_of_lt_of_le (Nat.lt_of_lt_of_le hb0 hB) hB5.size
       obtain ⟨-,s,h1i,hsi,Ai,ni,ci,zi⟩:=hrow.out w5 hB5 i hil
       obtain ⟨hkS,x,h1k,hxk,Ak,nk,ck,xk⟩:=hrow.out w5 hB5 k (by omega)
       have hPs:keyS x≠keyS s→∀ a (ha:a<k+1) (hai:a<S.length),keyS S[a]≠keyS S[i]:=fun hne a ha hai=>by
        by_cases e:a=k
        ·subst e;rw[←hxk,←hsi];exact hne
        ·exact hP a (by omega) hai
       clear hsi hxk hP
       obtain ⟨⟨z0,z1,z2,z3,z4,z5,z6,z7⟩,sb⟩:=s
       obtain ⟨⟨x0,x1,x2,x3,x4,x5,x6,x7⟩,xb⟩:=x
       replace zi:=h'd zi
       replace xk:=h'd xk
       by_cases hE:(z2,z3,z4)=(x2,x3,x4)
       ·have hq:decide ((z2,z3,z4)=(x2,x3,x4))=true:=decide_eq_true hE
        clear hE hPs
        go_upto_region 9 with fail
        refine wp_region_vals [some 29,some 30,some 31,some 32,some 33,some 34,some 35,some 36,some 37,some 38,some 39,some 40,some 41] (fun W=>Below w5.heap.size w5 W) (fun W W'=>Below W.heap.size W W') id (ValV [.slice (some ⟨b,off,none⟩) ls.length lc,.int .i64 i,.pointer (some ⟨b,off+i*9,none⟩),.pointer (some ⟨b,off+i*9,none⟩),.agg #[.int .u16 z0,.int .u8 z1,.int .u8 z2,.int .u32 z3,.int .u32 z4,.int .i32 z5,.int .u16 z6,.int .u16 z7],.agg #[.int .u8 z2,.int .u32 z3,.int .u32 z4],.slice (some ⟨b,off,none⟩) ls.length lc,.int .i64 k,.pointer (some ⟨b,off+k*9,none⟩),.pointer (some ⟨b,off+k*9,none⟩),.agg #[.int .u16 x0,.int .u8 x1,.int .u8 x2,.int .u32 x3,.int .u32 x4,.int .i32 x5,.int .u16 x6,.int .u16 x7],.agg #[.int .u8 x2,.int .u32 x3,.int .u32 x4],.bool true]) hmix.out (by kernel_rfl) rfl (by decide) (by kernel_rfl) (fun _ _ _ _ _ _ h=>h) (Below.refl _ _).drew ?_ ?_
        ·intro t w' a' hI' ha j' hlt' hd
         simp only[putFrom,Act.put,Nat.reduceAdd,s'a,s'z,s's] at ha
         subst ha
         replace hlt':j'<13:=hlt'
         have hzw:=hI'.size
         rcases lt_case13 j' hlt' with rfl | rfl | rfl | rfl | rfl | rfl | rfl | rfl | rfl | rfl | rfl | rfl | rfl
         ·refine w'k rfl fun K' hK => ?_
          go_wp2
          exact hK.out _ _ ⟨_,rfl,hI',Below.refl _ _,rfl⟩
         ·refine w'k rfl fun K' hK => ?_
          go_wp2
          exact hK.out _ _ ⟨_,rfl,hI',Below.refl _ _,rfl⟩
         ·rw[←o'i (hd 0 (by kernel_rfl))]
          rw[←o'i (hd 1 (by kernel_rfl))]
          refine w'k rfl fun K' hK => ?_
          go_wp2
          exact hK.out _ _ ⟨_,rfl,hI',Below.refl _ _,rfl⟩
         ·rw[←o'i (hd 2 (by kernel_rfl))]
          refine w'k rfl fun K' hK => ?_
          go_wp2
          exact hK.out _ _ ⟨_,rfl,hI',Below.refl _ _,rfl⟩
         ·rw[←o'i (hd 3 (by kernel_rfl))]
          have f0:w'.cell? ⟨b,off+i*9,none⟩=some (.int .u16 z0):=(hI'.cell (p:=⟨b,off+i*9+0,none⟩) hb5).trans (zi.out 0 _ rfl)
          have f1:w'.cell? ⟨b,off+i*9+1,none⟩=some (.int .u8 z1):=(hI'.cell (p:=⟨b,off+i*9+1,none⟩) hb5).trans (zi.out 1 _ rfl)
          have f2:w'.cell? ⟨b,off+i*9+2,none⟩=some (.int .u8 z2):=(hI'.cell (p:=⟨b,off+i*9+2,none⟩) hb5).trans (zi.out 2 _ rfl)
          have f3:w'.cell? ⟨b,off+i*9+3,none⟩=some (.int .u32 z3):=(hI'.cell (p:=⟨b,off+i*9+3,none⟩) hb5).trans (zi.out 3 _ rfl)
          have f4:w'.cell? ⟨b,off+i*9+4,none⟩=some (.int .u32 z4):=(hI'.cell (p:=⟨b,off+i*9+4,none⟩) hb5).trans (zi.out 4 _ rfl)
          have f5:w'.cell? ⟨b,off+i*9+5,none⟩=some (.int .i32 z5):=(hI'.cell (p:=⟨b,off+i*9+5,none⟩) hb5).trans (zi.out 5 _ rfl)
          have f6:w'.cell? ⟨b,off+i*9+6,none⟩=some (.int .u16 z6):=(hI'.cell (p:=⟨b,off+i*9+6,none⟩) hb5).trans (zi.out 6 _ rfl)
          have f7:w'.cell? ⟨b,off+i*9+7,none⟩=some (.int .u16 z7):=(hI'.cell (p:=⟨b,off+i*9+7,none⟩) hb5).trans (zi.out 7 _ rfl)
          refine w'k rfl fun K' hK => ?_
          go_wp2
          exact hK.out _ _ ⟨_,rfl,hI',Below.refl _ _,rfl⟩
         ·rw[←o'i (hd 4 (by kernel_rfl))]
          have CC:=h'd (rkey_any ⟨z0,z1,z2,z3,z4,z5,z6,z7⟩ w')
          refine w'k rfl fun K' hK => ?_
          go_wp2_with (go_at_call 33;refine Calls.mono CC.out ?_;rintro e w4' ⟨rfl,hB4⟩)
          exact hK.out _ _ ⟨_,rfl,hI'.trans (hB4.mono hzw),hB4,rfl⟩
         ·refine w'k rfl fun K' hK => ?_
          go_wp2
          exact hK.out _ _ ⟨_,rfl,hI',Below.refl _ _,rfl⟩
         ·refine w'k rfl fun K' hK => ?_
          go_wp2
          exact hK.out _ _ ⟨_,rfl,hI',Below.refl _ _,rfl⟩
         ·rw[←o'i (hd 6 (by kernel_rfl))]
          rw[←o'i (hd 7 (by kernel_rfl))]
          refine w'k rfl fun K' hK => ?_
          go_wp2
          exact hK.out _ _ ⟨_,rfl,hI',Below.refl _ _,rfl⟩
         ·rw[←o'i (hd 8 (by kernel_rfl))]
          refine w'k rfl fun K' hK => ?_
          go_wp2
          exact hK.out _ _ ⟨_,rfl,hI',Below.refl _ _,rfl⟩
         ·rw[←o'i (hd 9 (by kernel_rfl))]
          have f0:w'.cell? ⟨b,off+k*9,none⟩=some (.int .u16 x0):=(hI'.cell (p:=⟨b,off+k*9+0,none⟩) hb5).trans (xk.out 0 _ rfl)
          have f1:w'.cell? ⟨b,off+k*9+1,none⟩=some (.int .u8 x1):=(hI'.cell (p:=⟨b,off+k*9+1,none⟩) hb5).trans (xk.out 1 _ rfl)
          have f2:w'.cell? ⟨b,off+k*9+2,none⟩=some (.int .u8 x2):=(hI'.cell (p:=⟨b,off+k*9+2,none⟩) hb5).trans (xk.out 2 _ rfl)
          have f3:w'.cell? ⟨b,off+k*9+3,none⟩=some (.int .u32 x3):=(hI'.cell (p:=⟨b,off+k*9+3,none⟩) hb5).trans (xk.out 3 _ rfl)
          have f4:w'.cell? ⟨b,off+k*9+4,none⟩=some (.int .u32 x4):=(hI'.cell (p:=⟨b,off+k*9+4,none⟩) hb5).trans (xk.out 4 _ rfl)
          have f5:w'.cell? ⟨b,off+k*9+5,none⟩=some (.int .i32 x5):=(hI'.cell (p:=⟨b,off+k*9+5,none⟩) hb5).trans (xk.out 5 _ rfl)
          have f6:w'.cell? ⟨b,off+k*9+6,none⟩=some (.int .u16 x6):=(hI'.cell (p:=⟨b,off+k*9+6,none⟩) hb5).trans (xk.out 6 _ rfl)
          have f7:w'.cell? ⟨b,off+k*9+7,none⟩=some (.int .u16 x7):=(hI'.cell (p:=⟨b,off+k*9+7,none⟩) hb5).trans (xk.out 7 _ rfl)
          refine w'k rfl fun K' hK => ?_
          go_wp2
          exact hK.out _ _ ⟨_,rfl,hI',Below.refl _ _,rfl⟩
         ·rw[←o'i (hd 10 (by kernel_rfl))]
          have CC:=h'd (rkey_any ⟨x0,x1,x2,x3,x4,x5,x6,x7⟩ w')
          refine w'k rfl fun K' hK => ?_
          go_wp2_with (go_at_call 33;refine Calls.mono CC.out ?_;rintro e w4' ⟨rfl,hB4⟩)
          exact hK.out _ _ ⟨_,rfl,hI'.trans (hB4.mono hzw),hB4,rfl⟩
         ·rw[←o'i (hd 5 (by kernel_rfl))]
          rw[←o'i (hd 11 (by kernel_rfl))]
          have he:=fun W=>eql_key z2 z3 z4 x2 x3 x4 W
          rw[hq] at he
          refine w'k rfl fun K' hK => ?_
          go_wp2
          exact hK.out _ _ ⟨_,rfl,hI',Below.refl _ _,rfl⟩
        ·intro t w' a' hI' ha hv
         simp only[putFrom,Act.put,Nat.reduceAdd,s'a,s'z,s's] at ha
         subst ha
         have dl:t 12=.bool true:=(o'i (hv 12 (by decide))).symm
         rw[dl]
         clear hv dl
         go_wp2_with (go_at_call 24;refine Calls.mono (CW.out _) ?_;rintro e w8 ⟨rfl,hB8⟩)
         go_ret
         exact ⟨rfl,hB5.trans ((hI'.trans (hB8.mono hI'.size)).mono hB5.size)⟩
       ·have hq:decide ((z2,z3,z4)=(x2,x3,x4))=false:=decide_eq_false hE
        have hPs:=hPs fun h=>hE h.symm
        replace hPs:=h'd hPs
        clear hE
        go_upto_region 9 with fail
        refine wp_region_vals [some 29,some 30,some 31,some 32,some 33,some 34,some 35,some 36,some 37,some 38,some 39,some 40,some 41] (fun W=>Below w5.heap.size w5 W) (fun W W'=>Below W.heap.size W W') id (ValV [.slice (some ⟨b,off,none⟩) ls.length lc,.int .i64 i,.pointer (some ⟨b,off+i*9,none⟩),.pointer (some ⟨b,off+i*9,none⟩),.agg #[.int .u16 z0,.int .u8 z1,.int .u8 z2,.int .u32 z3,.int .u32 z4,.int .i32 z5,.int .u16 z6,.int .u16 z7],.agg #[.int .u8 z2,.int .u32 z3,.int .u32 z4],.slice (some ⟨b,off,none⟩) ls.length lc,.int .i64 k,.pointer (some ⟨b,off+k*9,none⟩),.pointer (some ⟨b,off+k*9,none⟩),.agg #[.int .u16 x0,.int .u8 x1,.int .u8 x2,.int .u32 x3,.int .u32 x4,.int .i32 x5,.int .u16 x6,.int .u16 x7],.agg #[.int .u8 x2,.int .u32 x3,.int .u32 x4],.bool false]) hmix.out (by kernel_rfl) rfl (by decide) (by kernel_rfl) (fun _ _ _ _ _ _ h=>h) (Below.refl _ _).drew ?_ ?_
        ·intro t w' a' hI' ha j' hlt' hd
         simp only[putFrom,Act.put,Nat.reduceAdd,s'a,s'z,s's] at ha
         subst ha
         replace hlt':j'<13:=hlt'
         have hzw:=hI'.size
         rcases lt_case13 j' hlt' with rfl | rfl | rfl | rfl | rfl | rfl | rfl | rfl | rfl | rfl | rfl | rfl | rfl
         ·refine w'k rfl fun K' hK => ?_
          go_wp2
          exact hK.out _ _ ⟨_,rfl,hI',Below.refl _ _,rfl⟩
         ·refine w'k rfl fun K' hK => ?_
          go_wp2
          exact hK.out _ _ ⟨_,rfl,hI',Below.refl _ _,rfl⟩
         ·rw[←o'i (hd 0 (by kernel_rfl))]
          rw[←o'i (hd 1 (by kernel_rfl))]
          refine w'k rfl fun K' hK => ?_
          go_wp2
          exact hK.out _ _ ⟨_,rfl,hI',Below.refl _ _,rfl⟩
         ·rw[←o'i (hd 2 (by kernel_rfl))]
          refine w'k rfl fun K' hK => ?_
          go_wp2
          exact hK.out _ _ ⟨_,rfl,hI',Below.refl _ _,rfl⟩
         ·rw[←o'i (hd 3 (by kernel_rfl))]
          have f0:w'.cell? ⟨b,off+i*9,none⟩=some (.int .u16 z0):=(hI'.cell (p:=⟨b,off+i*9+0,none⟩) hb5).trans (zi.out 0 _ rfl)
          have f1:w'.cell? ⟨b,off+i*9+1,none⟩=some (.int .u8 z1):=(hI'.cell (p:=⟨b,off+i*9+1,none⟩) hb5).trans (zi.out 1 _ rfl)
          have f2:w'.cell? ⟨b,off+i*9+2,none⟩=some (.int .u8 z2):=(hI'.cell (p:=⟨b,off+i*9+2,none⟩) hb5).trans (zi.out 2 _ rfl)
          have f3:w'.cell? ⟨b,off+i*9+3,none⟩=some (.int .u32 z3):=(hI'.cell (p:=⟨b,off+i*9+3,none⟩) hb5).trans (zi.out 3 _ rfl)
          have f4:w'.cell? ⟨b,off+i*9+4,none⟩=some (.int .u32 z4):=(hI'.cell (p:=⟨b,off+i*9+4,none⟩) hb5).trans (zi.out 4 _ rfl)
          have f5:w'.cell? ⟨b,off+i*9+5,none⟩=some (.int .i32 z5):=(hI'.cell (p:=⟨b,off+i*9+5,none⟩) hb5).trans (zi.out 5 _ rfl)
          have f6:w'.cell? ⟨b,off+i*9+6,none⟩=some (.int .u16 z6):=(hI'.cell (p:=⟨b,off+i*9+6,none⟩) hb5).trans (zi.out 6 _ rfl)
          have f7:w'.cell? ⟨b,off+i*9+7,none⟩=some (.int .u16 z7):=(hI'.cell (p:=⟨b,off+i*9+7,none⟩) hb5).trans (zi.out 7 _ rfl)
          refine w'k rfl fun K' hK => ?_
          go_wp2
          exact hK.out _ _ ⟨_,rfl,hI',Below.refl _ _,rfl⟩
         ·rw[←o'i (hd 4 (by kernel_rfl))]
          have CC:=h'd (rkey_any ⟨z0,z1,z2,z3,z4,z5,z6,z7⟩ w')
          refine w'k rfl fun K' hK => ?_
          go_wp2_with (go_at_call 33;refine Calls.mono CC.out ?_;rintro e w4' ⟨rfl,hB4⟩)
          exact hK.out _ _ ⟨_,rfl,hI'.trans (hB4.mono hzw),hB4,rfl⟩
         ·refine w'k rfl fun K' hK => ?_
          go_wp2
          exact hK.out _ _ ⟨_,rfl,hI',Below.refl _ _,rfl⟩
         ·refine w'k rfl fun K' hK => ?_
          go_wp2
          exact hK.out _ _ ⟨_,rfl,hI',Below.refl _ _,rfl⟩
         ·rw[←o'i (hd 6 (by kernel_rfl))]
          rw[←o'i (hd 7 (by kernel_rfl))]
          refine w'k rfl fun K' hK => ?_
          go_wp2
          exact hK.out _ _ ⟨_,rfl,hI',Below.refl _ _,rfl⟩
         ·rw[←o'i (hd 8 (by kernel_rfl))]
          refine w'k rfl fun K' hK => ?_
          go_wp2
          exact hK.out _ _ ⟨_,rfl,hI',Below.refl _ _,rfl⟩
         ·rw[←o'i (hd 9 (by kernel_rfl))]
          have f0:w'.cell? ⟨b,off+k*9,none⟩=some (.int .u16 x0):=(hI'.cell (p:=⟨b,off+k*9+0,none⟩) hb5).trans (xk.out 0 _ rfl)
          have f1:w'.cell? ⟨b,off+k*9+1,none⟩=some (.int .u8 x1):=(hI'.cell (p:=⟨b,off+k*9+1,none⟩) hb5).trans (xk.out 1 _ rfl)
          have f2:w'.cell? ⟨b,off+k*9+2,none⟩=some (.int .u8 x2):=(hI'.cell (p:=⟨b,off+k*9+2,none⟩) hb5).trans (xk.out 2 _ rfl)
          have f3:w'.cell? ⟨b,off+k*9+3,none⟩=some (.int .u32 x3):=(hI'.cell (p:=⟨b,off+k*9+3,none⟩) hb5).trans (xk.out 3 _ rfl)
          have f4:w'.cell? ⟨b,off+k*9+4,none⟩=some (.int .u32 x4):=(hI'.cell (p:=⟨b,off+k*9+4,none⟩) hb5).trans (xk.out 4 _ rfl)
          have f5:w'.cell? ⟨b,off+k*9+5,none⟩=some (.int .i32 x5):=(hI'.cell (p:=⟨b,off+k*9+5,none⟩) hb5).trans (xk.out 5 _ rfl)
          have f6:w'.cell? ⟨b,off+k*9+6,none⟩=some (.int .u16 x6):=(hI'.cell (p:=⟨b,off+k*9+6,none⟩) hb5).trans (xk.out 6 _ rfl)
          have f7:w'.cell? ⟨b,off+k*9+7,none⟩=some (.int .u16 x7):=(hI'.cell (p:=⟨b,off+k*9+7,none⟩) hb5).trans (xk.out 7 _ rfl)
          refine w'k rfl fun K' hK => ?_
          go_wp2
          exact hK.out _ _ ⟨_,rfl,hI',Below.refl _ _,rfl⟩
         ·rw[←o'i (hd 10 (by kernel_rfl))]
          have CC:=h'd (rkey_any ⟨x0,x1,x2,x3,x4,x5,x6,x7⟩ w')
          refine w'k rfl fun K' hK => ?_
          go_wp2_with (go_at_call 33;refine Calls.mono CC.out ?_;rintro e w4' ⟨rfl,hB4⟩)
          exact hK.out _ _ ⟨_,rfl,hI'.trans (hB4.mono hzw),hB4,rfl⟩
         ·rw[←o'i (hd 5 (by kernel_rfl))]
          rw[←o'i (hd 11 (by kernel_rfl))]
          have he:=fun W=>eql_key z2 z3 z4 x2 x3 x4 W
          rw[hq] at he
          refine w'k rfl fun K' hK => ?_
          go_wp2
          exact hK.out _ _ ⟨_,rfl,hI',Below.refl _ _,rfl⟩
        ·intro t w' a' hI' ha hv
         simp only[putFrom,Act.put,Nat.reduceAdd,s'a,s'z,s's] at ha
         subst ha
         have dl:t 12=.bool false:=(o'i (hv 12 (by decide))).symm
         rw[dl]
         clear hv dl
         go_wp2
         go_roundg (i-(k+1))
         case measure=>omega
         case rel=>exact ⟨k+1,by omega,rfl,by go_num,hPs.out,hBk.trans (hI'.mono hBk.size)⟩
      ·obtain rfl:k=i:=by omega
       have hU2:=hUs.out fun a ha=>hP a ha (by omega)
       replace hU2:=h'd hU2
       clear hP
       go_wp2
       go_roundg (ls.length-(k+1))
       case measure=>omega
       case rel=>exact ⟨k+1,by omega,rfl,by go_num,hU2.out,hB5⟩
    ·obtain rfl:i=ls.length:=by omega
     have hUn:=hU.done hsl.out
     clear hU hil
     obtain ⟨n,hn2⟩:∃ n:Nat,n=y.toNat%ls.length:=⟨_,rfl⟩
     have hnl:n<ls.length:=by rw[hn2];exact Nat.mod_lt _ hpos
     have wm:Int.tmod y (ls.length:Int)=(n:Int):=by
      rw[Int.tmod_eq_emod_of_nonneg hy.1,hn2,Int.natCast_emod]
      congr 1
      omega
     have wy:wrap64 y=y:=by unfold wrap64;omega
     have nz:((ls.length:Int)==0)=false:=by rw[beq_eq_false_iff_ne];omega
     have hnodes:=nodes_turned hUn n
     replace hnodes:=h'd hnodes
     replace hn2:=h'd hn2
     replace hUn:=h'd hUn
     obtain ⟨v1,hv1,hs1⟩:=lo_ex stT (some ⟨b,off,none⟩) ls.length lc n (by omega)
     obtain ⟨v2,hv2,hs2⟩:=hi_ex stT (some ⟨b,off,none⟩) ls.length lc n (by omega) hlc.out
     have hS4:=hS.out.below (hBi.mono hB)
     have hSd:=states_drop (n:=n) hS4 (hs1 w4 B _ hS4.sl)
     have hSt:=fun (W:World) (h:Below w4.heap.size w4 W)=>(states_take (n:=n) hS4 (by omega) (hs2 w4 B _ hS4.sl)).below (h.mono (Nat.le_trans hB hBi.size))
     have hz4:=hBi.size
     have CD:=copystates_any B v1 (S.drop n) (ls.drop n) w4 hSd (Nat.le_trans hB hz4) (fun s hs=>by have:=hsz.out s (List.mem_of_mem_drop hs);omega) (by rw[List.length_drop];omega)
     have CT:=fun (W:World) (h:Below w4.heap.size w4 W)=>copystates_any B v2 (S.take n) (ls.take n) W (hSt W h) (Nat.le_trans hB (Nat.le_trans hz4 h.size)) (fun s hs=>by have:=hsz.out s (List.mem_of_mem_take hs);omega) (by rw[List.length_take];omega)
     have CA:=fun (W:World) (h:Below w4.heap.size w4 W)=>copystates_any B (.slice (some ⟨b,off,none⟩) ls.length lc) S ls W (hS4.below (h.mono (Nat.le_trans hB hz4))) (Nat.le_trans hB (Nat.le_trans hz4 h.size)) (fun s hs=>by have:=hsz.out s hs;omega) (by omega)
     have CR:=fun (W:World) (h:Below w4.heap.size w4 W)=>rbuild_any B (.slice (some ⟨b,off,none⟩) ls.length lc) S ls W (hS4.below (h.mono (Nat.le_trans hB hz4))) (Nat.le_trans hB (Nat.le_trans hz4 h.size)) hso.out (by omega)
     replace CD:=h'd CD
     replace CT:=h'd CT
     replace CA:=h'd CA
     replace CR:=h'd CR
     clear hS4 hSd hSt hs1 hs2 hrow
     have hldr:(ls.drop n).length+(ls.take n).length=ls.length:=by rw[List.length_drop,List.length_take];omega
     go_upto_region 13 with (go_at_call 19;refine Calls.mono CD.out ?_;rintro e w5 ⟨va,ya,rfl,hya,hRa⟩)
     obtain ⟨-,aA,ac,rfl,-⟩:=id (Sl.of_own hRa.own)
     have hy60:ya.length≤60:=by
      have h:=congrArg List.length hya
      unfold sOf at h
      rw[List.length_map,List.length_drop] at h
      have:=hsl.out
      omega
     replace hya:=h'd hya
     have hB45:=hRa.below
     replace hRa:=h'd hRa
     have hz45:=hB45.size
     go_upto_region 14 with (first
      | (go_at_call 19;refine Calls.mono (CT.out _ hB45) ?_;rintro e w6 ⟨vb,yb,rfl,hyb,hRb⟩;have hb60:yb.length≤60:=(by have h:=congrArg List.length hyb;unfold sOf at h;rw[List.length_map,List.length_take] at h;omega);replace hyb:=h'd hyb;have hR6:=hRa.out.call hRb.below;obtain ⟨-,bA,bc,rfl,-⟩:=id (Sl.of_own hRb.own);have hz56:=hRb.below.size)
      | (at_builtin;(refine wpList_append rfl (.tmp 52) (.tmp 56) 23 rfl w4.heap.size stT (.slice aA ya.length ac) ya.length (ya.flatMap sL) rfl hR6.own w6.heap.size (.slice bA yb.length bc) yb.length (yb.flatMap sL) rfl (Sl.of_own hRb.own) (sLs_oneCell yb) (by simp only[maxLen];omega) (by omega) (by omega) ?_);intro v7 w7 ho7 hg7 hob7;obtain ⟨-,tA,tc,rfl,-⟩:=id (Sl.of_own ho7)))
     have hR7:=hRa.out.joined hRb ho7 hg7
     have hB47:=hR7.below
     have hlen7:(ya++yb).length=ya.length+yb.length:=List.length_append
     rw[←hlen7] at hR7 ⊢
     have hS7:sOf (ya++yb)=S.drop n++S.take n:=by rw[sOf_append,hya.out,hyb.out]
     have hok7:∀ s∈sOf (ya++yb),StOk s:=by
      rw[hS7]
      intro s hs
      rcases List.mem_append.1 hs with hs | hs
      ·exact hso.out _ (List.mem_of_mem_drop hs)
      ·exact hso.out _ (List.mem_of_mem_take hs)
     have hl7:(ya++yb).length≤120:=by rw[hlen7];omega
     have hn7:nodesG (sOf (ya++yb))=nodesG S:=by rw[hS7,hnodes.out]
     generalize ya++yb=yt at hR7 hS7 hok7 hl7 hn7 hlen7 ⊢
     clear hlen7 hS7 ho7 hg7 hob7 hRb hR6 hb60
     replace hR7:=h'd hR7
     replace hok7:=h'd hok7
     replace hn7:=h'd hn7
     have hz47:=hB47.size
     have CB:=fun (W:World) (h:Below w7.heap.size w7 W)=>build_any W.heap.size (.slice tA yt.length tc) (sOf yt) (yt.map (·.1)) W (hR7.out.call h).states (Nat.le_refl _) hok7.out (by rw[List.length_map];omega)
     have CE:=fun (W:World) (h:Below w7.heap.size w7 W)=>rbuild_any W.heap.size (.slice tA yt.length tc) (sOf yt) (yt.map (·.1)) W (hR7.out.call h).states (Nat.le_refl _) hok7.out (by rw[List.length_map];omega)
     replace CB:=h'd CB
     replace CE:=h'd CE
     go_upto_region 15 with (first
      | (go_at_call 19;refine Calls.mono (CA.out _ hB47) ?_;rintro e w8 ⟨vc,yc,rfl,hyc,hRc⟩;have hB78:=hRc.below;have hst8:=hRc.states;have hl8:yc.length≤60:=(by have h:=congrArg List.length hyc;unfold sOf at h;rw[List.length_map,←hsl.out] at h;omega);rw[hyc] at hst8;replace hyc:=h'd hyc)
      | (go_at_call 26;refine Calls.mono (build_any _ vc S (yc.map (·.1)) w8 hst8 (Nat.le_refl _) hso.out (by rw[List.length_map];omega)) ?_;rintro e w9 ⟨av,ra,rfl,hGa,hga,hB89⟩))
     have hB79:=hB78.trans (hB89.mono hB78.size)
     have hz79:=hB79.size
     obtain ⟨-,gA,gc,rfl,-⟩:=id (Sl.of_own hGa.nods)
     replace hga:=h'd hga
     replace hGa:=h'd hGa
     clear hst8 hRc hl8
     go_wp2_with (first
      | (go_at_call 24;with_reducible refine Calls.mono (CW.out _) ?_;rintro e u6 ⟨rfl,hE6⟩)
      | (go_at_call 28;with_reducible refine Calls.mono (eq16_any _ _ _ _ ra re _ (hGa.out.call (hE1.trans ((hE2.trans ((hE3.trans (hE4.mono hE3.size)).mono hE2.size)).mono hE1.size))) hDe (hga.out.trans (by rw[hge,hn7.out]))) ?_;rintro e u5 ⟨rfl,hE5⟩)
      | (go_at_call 27;with_reducible refine Calls.mono (CE.out _ (hB79.trans ((hE1.trans ((hE2.trans (hE3.mono hE2.size)).mono hE1.size)).mono hB79.size))) ?_;rintro e u4 ⟨ev,re,rfl,hDe,hge,hE4⟩)
      | (go_at_call 28;with_reducible refine Calls.mono (eq16_any _ _ _ _ rb rd _ (hGb.call hE2) hDd (hgb.trans (by rw[hgd,hn7.out]))) ?_;rintro e u3 ⟨rfl,hE3⟩)
      | (go_at_call 27;with_reducible refine Calls.mono (CR.out _ (hB47.trans ((hB79.trans (hE1.mono hB79.size)).mono hB47.size))) ?_;rintro e u2 ⟨dv,rd,rfl,hDd,hgd,hE2⟩)
      | (go_at_call 26;with_reducible refine Calls.mono (CB.out _ hB79) ?_;rintro e u1 ⟨bv,rb,rfl,hGb,hgb,hE1⟩))
     go_ret
     exact ⟨rfl,hBi.trans ((hB47.trans ((hB79.trans ((hE1.trans ((hE2.trans ((hE3.trans ((hE4.trans ((hE5.trans (hE6.mono hE5.size)).mono hE4.size)).mono hE3.size)).mono hE2.size)).mono hE1.size)).mono hB79.size)).mono hB47.size)).mono hz4)⟩
end Go.Proofs.YtiikagabdiphkaaGreat
