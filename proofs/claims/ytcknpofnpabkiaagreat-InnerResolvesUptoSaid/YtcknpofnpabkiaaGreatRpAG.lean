/- Rows of structs are sorted (last part). -/
import Derived.Test.YtcknpofnpabkiaaGreatRpAD
import Derived.Test.YtcknpofnpabkiaaGreatRpAF
set_option maxRecDepth 100000
namespace Go.Proofs.YtcknpofnpabkiaaGreat
open Go.RowKit Go.Lo
section
variable {α:Type} [Inhabited α] {enc:α→List Value} (E:RowE enc 10) {lt:α→α→Bool} {F:FuncId} (HC:CmpF enc lt F)
def PdqPostC (enc:α→List Value) (lt:α→α→Bool) (w:World) (g:Nat) (rest:List Value) (d:Array α) (a b:Nat) (e:Ending) (w':World):Prop:=
 e=.returned (.tuple #[])∧∃ d',RowC enc 48 w g rest d' w'∧Sort.PermIn a b d d'∧Sort.SortedIn lt a b d'
structure PdqJ (enc:α→List Value) (lt:α→α→Bool) (w:World) (g n:Nat) (rest:List Value) (d:Array α) (a b a1 b1:Nat) (D:Array α) (wr:World):Prop where
 row:RowC enc 48 w g rest D wr
 size:D.size=n
 le:a1≤b1
 hi:b1≤n
 small:b1-a1≤b-a
 below:Sort.Below lt a1 b1 D
 fin:∀ R,Sort.PermIn a1 b1 D R→Sort.SortedIn lt a1 b1 R→Sort.PermIn a b d R∧Sort.SortedIn lt a b R
theorem PdqJ.perm {w wr wr':World} {g n a b a1 b1:Nat} {rest:List Value} {d D D':Array α} (h:PdqJ enc lt w g n rest d a b a1 b1 D wr) (hp:Sort.PermIn a1 b1 D D') (hr:RowC enc 48 w g rest D' wr'):PdqJ enc lt w g n rest d a b a1 b1 D' wr':=
 ⟨hr,hp.1.trans h.size,h.le,h.hi,h.small,h.below.perm (by rw[h.size];exact h.hi) hp,fun R hR hS=>h.fin R (Sort.permIn_trans _ _ _ a1 b1 hp hR) hS⟩
theorem PdqJ.drewN {w wr:World} {g n a b a1 b1:Nat} {rest:List Value} {d D:Array α} (h:PdqJ enc lt w g n rest d a b a1 b1 D wr) (k:Nat):PdqJ enc lt w g n rest d a b a1 b1 D (wr.drewN k):={ h with row:=h.row.drewN k }
theorem PdqJ.drew {w wr:World} {g n a b a1 b1:Nat} {rest:List Value} {d D:Array α} (h:PdqJ enc lt w g n rest d a b a1 b1 D wr):PdqJ enc lt w g n rest d a b a1 b1 D wr.drew:={ h with row:=h.row.drew }
def PdqK (enc:α→List Value) (lt:α→α→Bool) (w:World) (g n:Nat) (rest:List Value) (d:Array α) (a b a1 b1:Nat) (wr:World):Prop:=∃ D,PdqJ enc lt w g n rest d a b a1 b1 D wr
def NatV (v:Value) (hi:Nat):Prop:=∃ k:Nat,v=.int .i64 k∧k≤hi
def PivV (v:Value) (a b:Nat):Prop:=∃ k:Nat,v=.int .i64 k∧a≤k∧k<b
def IntV (v:Value):Prop:=∃ k:Int,v=.int .i64 k
theorem PdqJ.call {w wr wr':World} {g n a b a1 b1:Nat} {rest:List Value} {d D:Array α} (h:PdqJ enc lt w g n rest d a b a1 b1 D wr) (hb:Below wr.heap.size wr wr'):PdqJ enc lt w g n rest d a b a1 b1 D wr':={ h with row:=h.row.call hb }
include E HC
set_option maxHeartbeats 4000000 in
theorem pdqC_any (hS:Sort.SWO lt) (g n cap:Nat) (rest:List Value) (hn:n≤1099511627776):∀ (N:Nat) (d:Array α) (a b lim:Nat) (w:World),b-a≤N→RowC enc 48 w g rest d w→d.size=n→a≤b→b≤n→lim≤1000→Sort.Below lt a b d →
  Calls Tryz.prog 135 #[.slice (some ⟨g,0,none⟩) n cap,.int .i64 a,.int .i64 b,.int .i64 lim,.func (.func F) #[] #[]] w (PdqPostC enc lt w g rest d a b):=by
 intro N
 induction N using Nat.strongRecOn with
 | _ N ih =>
 intro d a b lim w hN h hd hab hb hlim hB
 have h0:PdqJ enc lt w g n rest d a b a b d w:=⟨h,hd,hab,hb,n'r _,hB,fun R h1 h2=>⟨h1,h2⟩⟩
 replace h0:=h'd h0
 have IH:∀ (D:Array α) (a1 b1 l1:Nat) (w1:World),b1-a1<b-a→RowC enc 48 w1 g rest D w1→D.size=n→a1≤b1→b1≤n→l1≤1000→Sort.Below lt a1 b1 D→Calls Tryz.prog 135 #[.slice (some ⟨g,0,none⟩) n cap,.int .i64 a1,.int .i64 b1,.int .i64 l1,.func (.func F) #[] #[]] w1 (PdqPostC enc lt w1 g rest D a1 b1):=
  fun D a1 b1 l1 w1 hlt h1 h2 h3 h4 h5 h6=>ih (b1-a1) (by omega) D a1 b1 l1 w1 (n'r _) h1 h2 h3 h4 h5 h6
 replace IH:=h'd IH
 clear ih h hd hab hb hB hN
 have hEF:=HC.enters
 have HC1:=h'd HC.call
 go_enter Tryz.func135,Tryz.ntmps135
 go_wp2_with fail
 go_loopg [1,2,3,10,11] (b-a) (fun m va vb vl v8 v9 wr=>∃ (a1 b1 l1:Nat) (wb wp:Bool) (D:Array α),m=b1-a1∧va=.int .i64 a1∧vb=.int .i64 b1∧vl=.int .i64 l1∧v8=.bool wb∧v9=.bool wp∧l1≤1000∧PdqJ enc lt w g n rest d a b a1 b1 D wr)
 case atStart=>exact ⟨a,b,lim,true,true,d,rfl,rfl,rfl,rfl,rfl,rfl,hlim,h0.out⟩
 case round =>
  clear h0
  obtain ⟨a1,b1,l1,wb,wp,D,hm,rfl,rfl,rfl,rfl,rfl,hl1,hI⟩:=hrel
  obtain ⟨w1,rfl⟩:∃ x:World,x=wr:=⟨_,rfl⟩
  have hle:=hI.le
  have hhi:=hI.hi
  have hsm:=hI.small
  replace hm:=h'd hm
  obtain ⟨l,hl⟩:∃ l,l=b1-a1:=⟨_,rfl⟩
  have el:(b1:Int)-(a1:Int)=(l:Int):=by omega
  clear hl
  by_cases h12:l≤12
  ·have q1:(l:Int)≤12:=by omega
   have C:=insC_any E HC g n cap rest D a1 b1 w1 hI.row.self hI.size hle hhi hn
   have hsrt:=Sort.insertionSort_holds (lt:=lt) hS D a1 b1 hle (by rw[hI.size];exact hhi)
   have hfin:=hI.fin _ hsrt.1 hsrt.2
   have hrow:=hI.row
   replace C:=h'd C
   replace hfin:=h'd hfin
   replace hrow:=h'd hrow
   clear hI hsrt
   go_wp2_with (go_at_call 166;refine c'm C.out ?_;rintro e w2 ⟨rfl,hR2⟩)
   go_end0
   exact ⟨rfl,_,hrow.out.trans hR2,hfin.out.1,hfin.out.2⟩
  ·have q1:¬ (l:Int)≤12:=by omega
   by_cases hl0:l1=0
   ·subst hl0
    have C:=heapC_any E HC g n cap rest D a1 b1 w1 hI.row.self hI.size (by omega) hhi hn
    have hsrt:=Sort.heapSort_holds (lt:=lt) hS D a1 b1 hle (by rw[hI.size];exact hhi)
    have hfin:=hI.fin _ hsrt.1 hsrt.2
    have hrow:=hI.row
    replace C:=h'd C
    replace hfin:=h'd hfin
    replace hrow:=h'd hrow
    clear hI hsrt
    go_wp2_with (go_at_call 167;refine c'm C.out ?_;rintro e w2 ⟨rfl,hR2⟩)
    go_end0
    exact ⟨rfl,_,hrow.out.trans hR2,hfin.out.1,hfin.out.2⟩
   ·have q2:((l1:Int)==0)=false:=by simp;omega
    have q2':¬ (l1:Int)=0:=by omega
    replace hI:=h'd hI
    go_upto_if 39 with fail
    go_cut [3] (fun v wx=>NatV v 1000∧PdqK enc lt w g n rest d a b a1 b1 wx)
    case first =>
     cases wb with
     | true =>
      go_wp2_with fail
      go_meet
      case rel=>exact ⟨⟨l1,rfl,hl1⟩,_,hI.out⟩
     | false =>
      have C:=brkC_any E (F:=F) g n cap rest D a1 b1 w1 hI.out.row.self hI.out.size (by omega) hhi hn
      have hp:=Sort.breakPatterns_holds D a1 b1 hle (by rw[hI.out.size];exact hhi)
      replace C:=h'd C
      replace hp:=h'd hp
      go_wp2_with (go_at_call 168;refine c'm C.out ?_;rintro e w2 ⟨rfl,hR2⟩)
      go_meet
      case rel=>exact ⟨⟨l1-1,congrArg (Value.int .i64) (by omega),by omega⟩,_,hI.out.perm hp.out (hI.out.row.trans hR2)⟩
    case rest =>
     obtain ⟨⟨l2,rfl,hl2⟩,D1,hI1⟩:=hcut
     clear hI
     have hI:=h'd hI1
     clear hI1
     have C:=chooseC_any E HC g n cap rest D1 a1 b1 wc hI.out.row.self hI.out.size (by omega) hhi hn
     have hcp:=Sort.choosePivot_holds lt D1 a1 b1 (by omega)
     obtain ⟨R,hR⟩:∃ R,R=Sort.choosePivot lt D1 a1 b1:=⟨_,rfl⟩
     rw[←hR] at C hcp
     obtain ⟨p,hint⟩:=R
     simp only at C hcp
     replace C:=h'd C
     clear hR
     obtain ⟨hp1,hp2⟩:=hcp
     go_upto_if 56 with (go_at_call 169;refine c'm C.out ?_;rintro e w2 ⟨rfl,hR2⟩)
     have hI2:PdqJ enc lt w g n rest d a b a1 b1 D1 w2:=hI.out.perm (Sort.permIn_refl _ _ _) (hI.out.row.trans hR2)
     clear hI hR2 C
     have hI:=h'd hI2
     clear hI2
     go_cut [13,14] (fun vp vh wx=>PivV vp a1 b1∧IntV vh∧PdqK enc lt w g n rest d a b a1 b1 wx)
     case first =>
      cases hint with
      | decreasing =>
       have C:=revC_any E (F:=F) g n cap rest D1 a1 b1 w2 hI.out.row.self hI.out.size (by omega) hhi hn
       have hp:=Sort.reverseRange_holds D1 a1 b1 hle (by rw[hI.out.size];exact hhi)
       replace C:=h'd C
       replace hp:=h'd hp
       go_wp2_with (go_at_call 170;refine c'm C.out ?_;rintro e w3 ⟨rfl,hR2⟩)
       go_meet
       case rel=>exact ⟨⟨(b1-1)-(p-a1),congrArg (Value.int .i64) (by omega),by omega,by omega⟩,⟨_,rfl⟩,_,hI.out.perm hp.out (hI.out.row.trans hR2)⟩
      | unknown =>
       go_wp2_with fail
       go_meet
       case rel=>exact ⟨⟨p,rfl,hp1,hp2⟩,⟨_,rfl⟩,_,hI.out⟩
      | increasing =>
       go_wp2_with fail
       go_meet
       case rel=>exact ⟨⟨p,rfl,hp1,hp2⟩,⟨_,rfl⟩,_,hI.out⟩
     case rest =>
      obtain ⟨⟨p2,rfl,hq1,hq2⟩,⟨hc,rfl⟩,D2,hI2⟩:=hcut
      clear hI hp1 hp2
      have hI:=h'd hI2
      clear hI2
      go_upto_region 15 with fail
      go_cut [75] (fun v wx=>(∃ c:Bool,v=.bool c)∧PdqJ enc lt w g n rest d a b a1 b1 D2 wx)
      case first =>
       cases wb with
       | false =>
        go_wp2_with fail
        go_meet
        case rel=>exact ⟨⟨_,rfl⟩,hI.out⟩
       | true =>
        cases wp with
        | false =>
         go_wp2_with fail
         go_meet
         case rel=>exact ⟨⟨_,rfl⟩,hI.out⟩
        | true =>
         go_wp2_with fail
         go_meet
         case rel=>exact ⟨⟨_,rfl⟩,hI.out⟩
      case rest =>
       obtain ⟨⟨cnd,rfl⟩,hI2⟩:=hcut
       clear hI
       have hI:=h'd hI2
       clear hI2
       go_upto_if 75 with fail
       go_cut [15] (fun _ wx=>PdqK enc lt w g n rest d a b a1 b1 wx)
       case first =>
        cases cnd with
        | false =>
         go_wp2_with fail
         go_meet
         case rel=>exact ⟨_,hI.out⟩
        | true =>
         have C:=pinsC_any E HC g n cap rest D2 a1 b1 wc hI.out.row.self hI.out.size (by omega) hhi hn
         have hp:=Sort.partialInsertionSort_holds (lt:=lt) hS D2 a1 b1 (by omega) (by rw[hI.out.size];exact hhi) hI.out.below
         obtain ⟨R,hR⟩:∃ R,R=Sort.partialInsertionSort lt D2 a1 b1:=⟨_,rfl⟩
         rw[←hR] at C hp
         clear hR
         obtain ⟨D9,c2⟩:=R
         simp only at C hp
         replace C:=h'd C
         cases c2 with
         | true =>
          have hfin:=hI.out.fin _ hp.1 (hp.2 rfl)
          replace hfin:=h'd hfin
          clear hp
          go_wp2_with (go_at_call 171;refine c'm C.out ?_;rintro e w3 ⟨rfl,hR2⟩)
          go_end0
          exact ⟨rfl,_,hI.out.row.trans hR2,hfin.out.1,hfin.out.2⟩
         | false =>
          replace hp:=h'd hp.1
          go_wp2_with (go_at_call 171;refine c'm C.out ?_;rintro e w3 ⟨rfl,hR2⟩)
          go_meet
          case rel=>exact ⟨_,hI.out.perm hp.out (hI.out.row.trans hR2)⟩
       case rest =>
        obtain ⟨D3,hI2⟩:=hcut
        clear hI
        have hI:=h'd hI2
        clear hI2
        have h3n:=hI.out.size
        go_upto_region 17 with fail
        go_cut [97] (fun v wx=>v=.bool (decide (0<a1) && !lt D3[a1-1]! D3[p2]!)∧PdqJ enc lt w g n rest d a b a1 b1 D3 wx)
        case first =>
         by_cases ha:0<a1
         ·have dg:decide ((0:Int)<(a1:Int))=true:=d't (by omega)
          have dg':decide (0<a1)=true:=d't ha
          have iw1:IntKind.i64.wrap ((a1:Int)-1)=(a1:Int)-1:=IntWalk.i64_in _ (by omega)
          have im:(0:Int)≤(a1:Int)-1:=by omega
          have ip1:(1:Int)≤(a1:Int):=by omega
          have ip2:1≤a1:=by omega
          have im2:(a1:Int)-1<(n:Int):=by omega
          have im3:(p2:Int)<(n:Int):=by omega
          have tn:((a1:Int)-1).toNat=a1-1:=by omega
          have c1:=hI.out.row.load E wRowT (i:=a1-1) (by omega)
          have c0:=hI.out.row.load E wRowT (i:=p2) (by omega)
          obtain ⟨x,hx⟩:∃ x,x=D3[a1-1]!:=⟨_,rfl⟩
          obtain ⟨y,hy⟩:∃ y,y=D3[p2]!:=⟨_,rfl⟩
          rw[←hx] at c1
          rw[←hy] at c0
          replace hx:=h'd hx
          replace hy:=h'd hy
          refine wp_region_still_tail 13 (by kernel_rfl) (by kernel_rfl) ?_
          simp only[List.take_succ_cons,List.take_zero,List.drop_succ_cons,List.drop_zero]
          repeat (first | (refine wpStill_load rfl 48 _ rfl _ (c1 _ rfl) ?_;try simp only[Act.put,s'a,s'z,s's]) | (refine wpStill_load rfl 48 _ rfl _ (c0 _ rfl) ?_;try simp only[Act.put,s'a,s'z,s's]) | still_step)
          refine wpStill_nil ?_
          go_wp2_with (refine c'm (HC1.out _ _ _) ?_;rintro e w3 ⟨c,rfl,hc,hB3⟩;have hr3:=hI.out.drew.call hB3)
          go_meet
          case rel=>exact ⟨by rw[←hx.out,←hy.out,←hc];simp[ha],hr3⟩
         ·have dg:decide ((0:Int)<(a1:Int))=false:=d'f (by omega)
          have dg':decide (0<a1)=false:=d'f ha
          go_quiet (fail)
          go_wp2_with fail
          go_meet
          case rel=>exact ⟨by simp[ha],hI.out.drewN nq⟩
        case rest =>
         obtain ⟨rfl,hI2⟩:=hcut
         clear hI
         have hI:=h'd hI2
         clear hI2
         cases hcc:(decide (0<a1) && !lt D3[a1-1]! D3[p2]!) with
         | true =>
          simp only[Bool.and_eq_true,decide_eq_true_eq,Bool.not_eq_true'] at hcc
          have C:=parteqC_any E HC g n cap rest D3 a1 b1 p2 wc hI.out.row.self h3n hq1 hq2 hhi hn
          obtain ⟨R,hR⟩:∃ R,R=Sort.partitionEqual lt D3 a1 b1 p2:=⟨_,rfl⟩
          rw[←hR] at C
          obtain ⟨mid,D4⟩:=R
          simp only at C
          obtain ⟨g1,g2,g3,g4,g5⟩:=Sort.round_eq hS (Sort.partitionEqual_holds lt) hcc.1 hq1 hq2 (by rw[h3n];exact hhi) hI.out.below hcc.2 hR.symm
          have hJ:∀ wr,RowC enc 48 w g rest D4 wr→PdqJ enc lt w g n rest d a b mid b1 D4 wr:=fun wr hr =>
           ⟨hr,g3.trans h3n,g2,hhi,by omega,g4,fun R h1 h2=>by
            obtain ⟨k1,k2⟩:=g5 R h1 h2
            exact hI.out.fin R k1 k2⟩
          replace C:=h'd C
          replace hJ:=h'd hJ
          clear hR hcc g3 g4 g5
          go_wp2_with (go_at_call 172;refine c'm C.out ?_;rintro e w3 ⟨rfl,hR2⟩)
          go_roundg (b1-mid)
          case measure=>have:=hm.out;omega
          case rel=>exact ⟨mid,b1,l2,wb,wp,D4,rfl,rfl,rfl,rfl,rfl,rfl,hl2,hJ.out _ (hI.out.row.trans hR2)⟩
         | false =>
          clear hcc
          have C:=partC_any E HC g n cap rest D3 a1 b1 p2 wc hI.out.row.self h3n hq1 hq2 hhi hn
          obtain ⟨R,hR⟩:∃ R,R=Sort.partition lt D3 a1 b1 p2:=⟨_,rfl⟩
          rw[←hR] at C
          obtain ⟨mid,ap,D4⟩:=R
          simp only at C
          obtain ⟨g1,g2,g3,g4,g5,g6,g7⟩:=Sort.round_part hS (Sort.partition_holds lt) hq1 hq2 (by rw[h3n];exact hhi) hI.out.below hR.symm
          have h4n:=g3.trans h3n
          replace C:=h'd C
          replace g4:=h'd g4
          replace g5:=h'd g5
          replace g6:=h'd g6
          replace g7:=h'd g7
          clear hR g3
          have q8:Int.tdiv (l:Int) 8=((l / 8:Nat):Int):=by rw[Int.tdiv_eq_ediv_of_nonneg (by omega)];omega
          go_upto_region 24 with (go_at_call 173;refine c'm C.out ?_;rintro e w3 ⟨rfl,hR2⟩)
          have hrow:=h'd (hI.out.row.trans hR2)
          by_cases hq:mid-a1<b1-mid
          ·have q9:(mid:Int)-(a1:Int)<(b1:Int)-(mid:Int):=by omega
           have C2:=IH.out D4 a1 mid l2 w3 (by omega) hrow.out.self h4n g1 (by omega) (by omega) g4.out
           replace C2:=h'd C2
           go_wp2_with (go_at_call 135;refine c'm (by first | exact C2.out | (have C3:=C2.out;push_cast at C3;exact C3)) ?_;rintro e w4 ⟨rfl,d5,hR3,hperm,hsort⟩)
           have hJ:∀ wr,RowC enc 48 w g rest d5 wr→PdqJ enc lt w g n rest d a b (mid+1) (b1) d5 wr:=fun wr hr =>
            ⟨hr,hperm.1.trans h4n,by omega,by omega,by omega,(g6.out d5 hperm hsort).1,fun R k1 k2=>by
             obtain ⟨k3,k4⟩:=(g6.out d5 hperm hsort).2 R k1 k2
             exact hI.out.fin R k3 k4⟩
           replace hJ:=h'd hJ
           go_roundg (b1-(mid+1))
           case measure=>have:=hm.out;omega
           case rel=>exact ⟨mid+1,b1,l2,_,ap,d5,rfl,congrArg (Value.int .i64) (by omega),rfl,rfl,rfl,rfl,hl2,hJ.out _ (hrow.out.trans hR3)⟩
          ·have q9:¬ (mid:Int)-(a1:Int)<(b1:Int)-(mid:Int):=by omega
           have C2:=IH.out D4 (mid+1) b1 l2 w3 (by omega) hrow.out.self h4n (by omega) hhi (by omega) g5.out
           replace C2:=h'd C2
           go_wp2_with (go_at_call 135;refine c'm (by first | exact C2.out | (have C3:=C2.out;push_cast at C3;exact C3)) ?_;rintro e w4 ⟨rfl,d5,hR3,hperm,hsort⟩)
           have hJ:∀ wr,RowC enc 48 w g rest d5 wr→PdqJ enc lt w g n rest d a b (a1) (mid) d5 wr:=fun wr hr =>
            ⟨hr,hperm.1.trans h4n,by omega,by omega,by omega,(g7.out d5 hperm hsort).1,fun R k1 k2=>by
             obtain ⟨k3,k4⟩:=(g7.out d5 hperm hsort).2 R k1 k2
             exact hI.out.fin R k3 k4⟩
           replace hJ:=h'd hJ
           go_roundg (mid-a1)
           case measure=>have:=hm.out;omega
           case rel=>exact ⟨a1,mid,l2,_,ap,d5,rfl,rfl,rfl,rfl,rfl,rfl,hl2,hJ.out _ (hrow.out.trans hR3)⟩
end
theorem bitLenAux_leC:∀ f x,Lib.bitLenAux f x≤f
 | 0,_=>n'r _
 | f+1,x=>by
  unfold Lib.bitLenAux
  split
  ·omega
  ·have:=bitLenAux_leC f (x / 2);omega
section
variable {α:Type} [Inhabited α] {enc:α→List Value} (E:RowE enc 10) {lt:α→α→Bool} {F:FuncId} (HC:CmpF enc lt F)
include E HC
theorem sortC_any (hS:Sort.SWO lt) (g n cap:Nat) (rest:List Value) (hn:n≤1099511627776) (d:Array α) (w:World) (h:RowC enc 48 w g rest d w) (hd:d.size=n) :
  Calls Tryz.prog 97 #[.slice (some ⟨g,0,none⟩) n cap,.func (.func F) #[] #[]] w (PdqPostC enc lt w g rest d 0 n):=by
 have hl:Lib.bitLen n≤1000:=n't (bitLenAux_leC 64 n) (by omega)
 have q1:IntKind.u64.wrap (n:Int)=(n:Int):=by rw[IntKind.wrap_u64];omega
 have C1:=Tryz.bits_Len (n:Int) w (by omega) (by omega)
 rw[Int.toNat_natCast] at C1
 have C2:=pdqC_any E HC hS g n cap rest hn n d 0 n (Lib.bitLen n) w (by omega) h hd (by omega) (n'r _) hl (.inl rfl)
 generalize Lib.bitLen n=L at *
 replace C1:=h'd C1
 replace C2:=h'd C2
 clear h hd E HC
 go_enter Tryz.func97,Tryz.ntmps97
 go_wp2_with (first
  | (go_at_call 115;refine c'm C1.out ?_;rintro e w1 ⟨rfl,rfl⟩)
  | (go_at_call 135;refine c'm C2.out ?_;rintro e w2 ⟨rfl,hR⟩)
  | fail)
 go_end0
 exact ⟨rfl,hR⟩
end
end Go.Proofs.YtcknpofnpabkiaaGreat
