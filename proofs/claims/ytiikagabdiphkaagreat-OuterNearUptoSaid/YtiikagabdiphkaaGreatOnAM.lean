/- Hops are joined; which of two ways is better; the way to a router. -/
import Derived.Test.YtiikagabdiphkaaGreatProg
import Derived.Laws.StructEq
import Derived.StillTailTactics
import Derived.Test.YtiikagabdiphkaaGreatOnAA
set_option maxRecDepth 100000
namespace Go.Proofs.YtiikagabdiphkaaGreat
open Go.RowKit Go.Lo
theorem hopT:ElT Tryz.prog 36 47 3 12:=⟨by kernel_rfl,by
 obtain ⟨i,hi,h1,h2,h3⟩:=info_parts (show (Tryz.prog.info? 47).map (fun i=>(i.zero,i.size,i.bytes))=some (some (.agg #[.int .u32 0,.int .u32 0,.bool false]),3,12) by kernel_rfl)
 exact ⟨i,_,hi,h1,h2,h3,rfl⟩,by omega⟩
set_option maxHeartbeats 400000 in
theorem before_any (a b:Hop) (w:World) :
  Calls Tryz.prog 139 #[.agg #[.int .u32 a.1,.int .u32 a.2.1,.bool a.2.2],.agg #[.int .u32 b.1,.int .u32 b.2.1,.bool b.2.2]] w
   fun e w'=>e=.returned (.bool (hopLt a b))∧Below w.heap.size w w':=by
 obtain ⟨a1,a2,a3⟩:=a
 obtain ⟨b1,b2,b3⟩:=b
 go_enter Tryz.func139,Tryz.ntmps139
 go_wp2
 all_goals go_ret
 all_goals refine ⟨?_,((Below.refl _ _).alloc (Nat.le_refl _) _).alloc (by simp) _⟩
 all_goals simp[hopLt, *]
set_option maxHeartbeats 400000 in
theorem eql_hop (a b:Hop) (w:World):(binOp .eql 47 (.agg #[.int .u32 a.1,.int .u32 a.2.1,.bool a.2.2]) (.agg #[.int .u32 b.1,.int .u32 b.2.1,.bool b.2.2])).run Tryz.prog w=.ok (.bool (decide (a=b))) w:=by
 rw[run_eql_struct,run_equalIn_agg _ _ _ _ _ (by kernel_rfl) (by kernel_rfl)]
 go_simp
 obtain ⟨a1,a2,a3⟩:=a
 obtain ⟨b1,b2,b3⟩:=b
 by_cases h1:a1=b1 <;> by_cases h2:a2=b2 <;> by_cases h3:a3=b3 <;> simp[h1,h2,h3]
def HPutRel (base:Nat) (w:World) (lv:Value) (l more:List Hop) (k:Nat) (v:Value) (wr:World):Prop:=
 wr.ownsRow base 47 3 v (puts l (more.take k)).length ((puts l (more.take k)).flatMap hopCells)∧w.grownBy wr lv.ownBlock∧(v.ownBlock=lv.ownBlock∨∃ g,v.ownBlock=some g∧w.heap.size≤g)
set_option maxHeartbeats 400000 in
theorem hput_any (base:Nat) (lv:Value) (l more:List Hop) (mv:Value) (w:World) (hbase:base≤w.heap.size)
  (hown:w.ownsRow base 47 3 lv l.length (l.flatMap hopCells)) (hmv:Sl w w.heap.size 3 mv more.length (more.flatMap hopCells)) (hne:0<more.length→mv.ownBlock=none∨mv.ownBlock≠lv.ownBlock)
  (hn:l.length+more.length≤1000000) :
  Calls Tryz.prog 97 #[lv,mv] w
   fun e w'=>∃ v,e=.returned v∧HPutRel base w lv l more more.length v w':=by
 obtain ⟨_,A,c,rfl,_,_,hat⟩:=hmv
 go_enter Tryz.func97,Tryz.ntmps97
 go_wp2
 go_loopw [0,10] (fun v i wr=>∃ k:Nat,k≤more.length∧i=.int .i64 k∧HPutRel base w lv l more k v wr) (fun _ i _=>more.length-(intOf i).toNat)
 case atStart=>exact ⟨0,Nat.zero_le _,rfl,by simpa[puts] using hown,World.grownBy.refl _ _,.inl rfl⟩
 case round =>
  obtain ⟨k,hk,rfl,hrel⟩:=hrel
  obtain ⟨w1,rfl⟩:∃ x:World,x=wr:=⟨_,rfl⟩
  by_cases hlt:k<more.length
  ·obtain ⟨b,off,rfl,hb,hc⟩:=hat (by omega)
   obtain ⟨hown1,hgr1,hob1⟩:=hrel
   have hcw:∀ j,w1.cell? ⟨b,off+j,none⟩=w.cell? ⟨b,off+j,none⟩:=fun j=>hgr1.cell_far _ hb (by rcases hne (by omega) with h | h <;> simp[Value.ownBlock] at h ⊢;exact h)
   have hget:∀ j u,(hopCells more[k])[j]?=some u→w1.cell? ⟨b,off+(k*3+j),none⟩=some u:=fun j u hu=>by
    rw[hcw];exact hc _ _ (by rw[flat_get hopCells_len _ _ _ (List.getElem?_eq_some_iff.1 hu).1 hlt];exact hu)
   have hc0:=hget 0 _ rfl
   have hc1:=hget 1 _ rfl
   have hc2:=hget 2 _ rfl
   simp only[Nat.add_zero,←Nat.add_assoc] at hc0 hc1 hc2
   clear hget hcw
   generalize hcur:puts l (more.take k)=cur at *
   have Hcur:=Lib.hid hcur
   clear hcur
   generalize hh:more[k]=h at *
   have Hh:=Lib.hid hh
   clear hh
   have hcl:cur.length≤l.length+more.length:=by
    have:=puts_length l (more.take k)
    rw[Hcur.out,List.length_take] at this
    omega
   go_wp2
   have ho:=hown1.alloc (Obj.cells #[.int .u32 h.1,.int .u32 h.2.1,.bool h.2.2] 47)
   have hx0:(w1.alloc (Obj.cells #[.int .u32 h.1,.int .u32 h.2.1,.bool h.2.2] 47)).cell? ⟨w1.heap.size,0,none⟩=some (.int .u32 h.1):=by rw[World.cell?_alloc_at _ _ _ _ rfl];rfl
   have hx1:(w1.alloc (Obj.cells #[.int .u32 h.1,.int .u32 h.2.1,.bool h.2.2] 47)).cell? ⟨w1.heap.size,1,none⟩=some (.int .u32 h.2.1):=by rw[World.cell?_alloc_at _ _ _ _ rfl];rfl
   have hx2:(w1.alloc (Obj.cells #[.int .u32 h.1,.int .u32 h.2.1,.bool h.2.2] 47)).cell? ⟨w1.heap.size,2,none⟩=some (.bool h.2.2):=by rw[World.cell?_alloc_at _ _ _ _ rfl];rfl
   have hbo:Below w1.heap.size w1 (w1.alloc (Obj.cells #[.int .u32 h.1,.int .u32 h.2.1,.bool h.2.2] 47)):=(Below.refl _ _).alloc (Nat.le_refl _) _
   have hso:w1.heap.size<(w1.alloc (Obj.cells #[.int .u32 h.1,.int .u32 h.2.1,.bool h.2.2] 47)).heap.size:=by simp
   generalize w1.alloc (Obj.cells #[.int .u32 h.1,.int .u32 h.2.1,.bool h.2.2] 47)=wo at *
   go_loopw [7] (fun a wi=>∃ j:Nat,j≤cur.length∧a=.int .i64 j∧(∀ i (hi:i<cur.length),i<j→hopLt cur[i] h=true)∧Below wo.heap.size wo wi) (fun a _=>cur.length-(intOf a).toNat)
   case atStart=>exact ⟨0,Nat.zero_le _,rfl,fun _ _ h=>absurd h (by omega),Below.refl _ _⟩
   case round =>
    obtain ⟨j,hj,rfl,hall,hbi⟩:=hrel
    obtain ⟨wi,rfl⟩:∃ x:World,x=wr:=⟨_,rfl⟩
    have hoi:=own_below ho hbi
    have hy0:=(hbi.cell (p:=⟨w1.heap.size,0,none⟩) hso).trans hx0
    have hy1:=(hbi.cell (p:=⟨w1.heap.size,1,none⟩) hso).trans hx1
    have hy2:=(hbi.cell (p:=⟨w1.heap.size,2,none⟩) hso).trans hx2
    clear hx0 hx1 hx2
    by_cases hjl:j<cur.length
    ·obtain ⟨g,cap,rfl,hcap,hbg,hg,hfz,hrow⟩:=own_row hopCells_len hoi hjl
     have hr0:=hrow 0 _ rfl
     have hr1:=hrow 1 _ rfl
     have hr2:=hrow 2 _ rfl
     simp only[Nat.add_zero] at hr0 hr1 hr2
     clear hrow hat hc
     cases hbool:hopLt cur[j] h with
     | true =>
      have Hb:=Lib.hid hbool
      clear hbool
      go_wp2
      go_still_tail 10,(by kernel_rfl)
      go_wp2_with (go_at_call 139;refine (before_any cur[j] h _).mono ?_;rintro e w2 ⟨rfl,hb2'⟩;have hb2:Below wi.heap.size wi w2:=below_of_drew hb2';clear hb2';rw[Hb.out])
      go_roundw
      case rel=>exact ⟨j+1,by omega,by go_num,fun i hi hij=>by
             by_cases e:i=j
             ·subst e;exact Hb.out
             ·exact hall i hi (by omega),hbi.trans (hb2.mono (by have:=hbi.size;omega))⟩
      case measure=>simp[intOf];omega
     | false =>
      have Hb:=Lib.hid hbool
      clear hbool
      go_wp2
      go_still_tail 10,(by kernel_rfl)
      go_wp2_with (go_at_call 139;refine (before_any cur[j] h _).mono ?_;rintro e w2 ⟨rfl,hb2'⟩;have hb2:Below wi.heap.size wi w2:=below_of_drew hb2';clear hb2';rw[Hb.out])
      have hsw:w1.heap.size<wi.heap.size:=by have:=hbi.size;omega
      have hz0:=(hb2.cell (p:=⟨w1.heap.size,0,none⟩) hsw).trans hy0
      have hz1:=(hb2.cell (p:=⟨w1.heap.size,1,none⟩) hsw).trans hy1
      have hz2:=(hb2.cell (p:=⟨w1.heap.size,2,none⟩) hsw).trans hy2
      have hs0:=(hb2.cell (p:=⟨g,j*3,none⟩) hg).trans hr0
      have hs1:=(hb2.cell (p:=⟨g,j*3+1,none⟩) hg).trans hr1
      have hs2:=(hb2.cell (p:=⟨g,j*3+2,none⟩) hg).trans hr2
      have ho2:=own_below hoi hb2
      have hbw:Below w1.heap.size w1 w2:=hbo.trans ((hbi.mono (by omega)).trans (hb2.mono (by omega)))
      have hsz:wi.heap.size≤w2.heap.size:=hb2.size
      clear hb2 hy0 hy1 hy2 hr0 hr1 hr2
      by_cases hq:cur[j]=h
      ·have heq:=fun W=>eql_hop cur[j] h W
       rw[decide_eq_true hq] at heq
       have Hq:=Lib.hid hq
       clear hq
       go_quiet (fail)
       go_wp2
       go_roundw
       case rel =>
        have hins:ins cur h=cur:=ins_at (insAt_of hj hall (fun _=>Hb.out)) hjl Hq.out
        have hpt:puts l (more.take (k+1))=cur:=by rw[puts_take _ _ _ hlt,Hcur.out,Hh.out,hins]
        refine ⟨k+1,by omega,by go_num,?_⟩
        unfold HPutRel
        rw[hpt]
        exact ⟨ho2,grown_trans hgr1 (grown_of_below (below_drewN hbw _) _),hob1⟩
       case measure=>simp[intOf];omega
      ·have heq:=fun W=>eql_hop cur[j] h W
       rw[decide_eq_false hq] at heq
       have Hq:=Lib.hid hq
       clear hq
       go_quiet (fail)
       have hins:=insAt_of hj hall (fun _=>Hb.out)
       have hne3:∀ hi:j<cur.length,cur[j]≠h:=fun _=>Hq.out
       have ho3:(w2.drewN nq).ownsRow base 47 3 (.slice (some ⟨g,0,none⟩) cur.length cap) cur.length (cur.flatMap hopCells):=ho2
       have hb3:Below w1.heap.size w1 (w2.drewN nq):=below_drewN hbw nq
       have hz0:(w2.drewN nq).cell? ⟨w1.heap.size,0,none⟩=some (.int .u32 h.1):=hz0
       have hz1:(w2.drewN nq).cell? ⟨w1.heap.size,1,none⟩=some (.int .u32 h.2.1):=hz1
       have hz2:(w2.drewN nq).cell? ⟨w1.heap.size,2,none⟩=some (.bool h.2.2):=hz2
       have hs3:w1.heap.size<(w2.drewN nq).heap.size:=by simp;omega
       clear ho2 hbw hs0 hs1 hs2 heq
       have Hins:=Lib.hid hins
       clear hins
       generalize w2.drewN nq=w3 at *
       go_wp2_with (at_builtin;refine wpList_append rfl (.tmp 40) (.tmp 42) 36 rfl base hopT _ cur.length (cur.flatMap hopCells) rfl (ho3.alloc _) _ _ 1 [.int .u32 0,.int .u32 0,.bool false] rfl (Sl.lit w3 #[.int .u32 0,.int .u32 0,.bool false] 47 (by simp[maxLen]) rfl) (by simp[Value.oneCell']) (by simp only[maxLen];omega) (by omega) (by have:=hb3.size;have:=hgr1.size;simp;omega) ?_;intro v4 w4 hown4 hgr4 hob4)
       have hvl:=fun q hq=>(hown1.lt q hq).2
       have hpos4:0<cur.length+1:=by omega
       obtain ⟨g4,cap4,rfl,hbg4,hg4⟩:=hown4.form hpos4
       clear hpos4
       have hcap4:cur.length+1≤cap4:=own_cap hown4
       have hj4:¬ cap4=j:=by omega
       have hr4:(Value.slice (some ⟨g4,0,none⟩) (cur.length+1) cap4).ownBlock=lv.ownBlock∨∃ q,(Value.slice (some ⟨g4,0,none⟩) (cur.length+1) cap4).ownBlock=some q∧w.heap.size≤q:=by
        rcases hob4 with h4 | h4
        ·rw[h4];exact hob1
        ·exact .inr ⟨_,h4,by have:=hgr1.size;have:=hb3.size;simp;omega⟩
       have hg4ne:w1.heap.size≠g4:=by
        rcases hob4 with h4 | h4
        ·have:=hvl g4 h4.symm;omega
        ·have h4':some g4=some _:=h4
         simp at h4';omega
       have hgw4:w.grownBy w4 lv.ownBlock:=grown_step (grown_trans hgr1 (grown_of_below (hb3.alloc (by omega) _) _)) hgr4 (Or.imp_right Or.inr hob1)
       have hs34:w1.heap.size<(w3.alloc (Obj.cells #[.int .u32 0,.int .u32 0,.bool false] 47)).heap.size:=by simp;omega
       have hx0:=(hgr4.cell_far ⟨w1.heap.size,0,none⟩ hs34 (fun e=>absurd (hvl _ e.symm) (Nat.lt_irrefl _))).trans ((World.cell?_alloc_lt _ _ _ hs3).trans hz0)
       have hx1:=(hgr4.cell_far ⟨w1.heap.size,1,none⟩ hs34 (fun e=>absurd (hvl _ e.symm) (Nat.lt_irrefl _))).trans ((World.cell?_alloc_lt _ _ _ hs3).trans hz1)
       have hx2:=(hgr4.cell_far ⟨w1.heap.size,2,none⟩ hs34 (fun e=>absurd (hvl _ e.symm) (Nat.lt_irrefl _))).trans ((World.cell?_alloc_lt _ _ _ hs3).trans hz2)
       have hs4:w1.heap.size<w4.heap.size:=by have:=hgr4.size;simp at this;omega
       clear hz0 hz1 hz2 hgr4 hob4 hvl
       have hq1:IntKind.i64.wrap ((j:Int)+1)=(j:Int)+1:=IntWalk.i64_in _ (by omega)
       have hq2:(0:Int)≤(j:Int)+1:=by omega
       have hq3:((j:Int)+1).toNat=j+1:=by omega
       have hq4:(j:Int)≤(cur.length:Int)+1:=by omega
       have hq5:j≤cur.length+1:=by omega
       go_still_tail 7,(by kernel_rfl)
       clear hq1 hq2 hq3 hq4 hq5
       have hflen:=flat_len hopCells_len cur
       have hdlen:((cur.drop j).flatMap hopCells).length=(cur.length-j)*3:=by rw[flat_len hopCells_len,List.length_drop]
       refine wpList_copy_row rfl (.tmp 47) (.tmp 50) 36 36 rfl hopT _ _ _ _ _ _ rfl rfl (k:=(j+1)*3) (m:=cur.length-j) hown4.drew ((cur.drop j).flatMap hopCells) (by show _=min _ _;omega) hdlen (fun hm=>⟨if_neg (by omega),_,rfl,fun i u hu => ?_⟩) (fun _=>by split <;> simp) (by rw[hdlen];omega) hops_oneCell ?_
       ·have hil:i<(cur.length-j)*3:=by have:=(List.getElem?_eq_some_iff.1 hu).1;omega
        have:(⟨g4,j*3,none⟩:Addr).add i=⟨g4,j*3+i,none⟩:=addr_add _ _ _
        rw[this]
        show w4.cell? _=_
        rw[hown4.cellAt _ (by omega),List.getElem?_append_left (by omega),←hu,←flat_drop hopCells_len,List.getElem?_drop]
       intro w5 hown5 hgr5
       have hy0:=(hgr5.cell_far ⟨w1.heap.size,0,none⟩ hs4 (by simpa using hg4ne)).trans hx0
       have hy1:=(hgr5.cell_far ⟨w1.heap.size,1,none⟩ hs4 (by simpa using hg4ne)).trans hx1
       have hy2:=(hgr5.cell_far ⟨w1.heap.size,2,none⟩ hs4 (by simpa using hg4ne)).trans hx2
       have hgw5:w.grownBy w5 lv.ownBlock:=grown_step hgw4 (show w4.grownBy w5 _ from ⟨hgr5.os,hgr5.tape,hgr5.output,hgr5.size,hgr5.block⟩) (Or.imp_right Or.inr hr4)
       clear hx0 hx1 hx2 hflen hdlen hj4
       go_wp2_with (refine wpList_store_own rfl 47 (.tmp 55) (.tmp 54) rfl (k:=j*3) (hopCells h) rfl rfl hown5 rfl (by kernel_rfl) (by simp[hopCells,Value.oneCell']) (by simp only[hopCells_len];omega) ?_;intro w6 hown6 hgr6)
       go_roundw
       case rel =>
        have hpt:puts l (more.take (k+1))=cur.take j++h :: cur.drop j:=by rw[puts_take _ _ _ hlt,Hcur.out,Hh.out,ins_new Hins.out hne3]
        have hpl:(cur.take j++h :: cur.drop j).length=cur.length+1:=by simp only[List.length_append,List.length_take,List.length_cons,List.length_drop];omega
        refine ⟨k+1,by omega,by go_num,?_⟩
        unfold HPutRel
        rw[hpt,hpl,←flat_insert hopCells_len cur [.int .u32 0,.int .u32 0,.bool false] rfl j hj h]
        exact ⟨hown6,grown_step hgw5 hgr6 (Or.imp_right Or.inr hr4),hr4⟩
       case measure=>simp[intOf];omega
    ·obtain rfl:j=cur.length:=by omega
     have hins:=insAt_of hj hall (fun hi=>absurd hi (by omega))
     have hne3:∀ hi:cur.length<cur.length,cur[cur.length]≠h:=fun hi=>absurd hi (by omega)
     have Hins:=Lib.hid hins
     clear hins
     obtain ⟨_,A0,c0,rfl,_,_,_⟩:=Sl.of_own hoi
     go_wp2
     go_quiet (fail)
     obtain ⟨n1,rfl⟩:∃ x,x=nq:=⟨_,rfl⟩
     go_wp2_with fail
     go_quiet (fail)
     have ho3:((wi.drewN n1).drewN nq).ownsRow base 47 3 (.slice A0 cur.length c0) cur.length (cur.flatMap hopCells):=hoi
     have hb3:Below w1.heap.size w1 ((wi.drewN n1).drewN nq):=below_drewN (below_drewN (hbo.trans (hbi.mono (by omega))) n1) nq
     have hz0:((wi.drewN n1).drewN nq).cell? ⟨w1.heap.size,0,none⟩=some (.int .u32 h.1):=hy0
     have hz1:((wi.drewN n1).drewN nq).cell? ⟨w1.heap.size,1,none⟩=some (.int .u32 h.2.1):=hy1
     have hz2:((wi.drewN n1).drewN nq).cell? ⟨w1.heap.size,2,none⟩=some (.bool h.2.2):=hy2
     have hs3:w1.heap.size<((wi.drewN n1).drewN nq).heap.size:=by have:=hbi.size;simp;omega
     clear hy0 hy1 hy2 hat hc
     generalize (wi.drewN n1).drewN nq=w3 at *
     go_wp2_with (at_builtin;refine wpList_append rfl (.tmp 40) (.tmp 42) 36 rfl base hopT _ cur.length (cur.flatMap hopCells) rfl (ho3.alloc _) _ _ 1 [.int .u32 0,.int .u32 0,.bool false] rfl (Sl.lit w3 #[.int .u32 0,.int .u32 0,.bool false] 47 (by simp[maxLen]) rfl) (by simp[Value.oneCell']) (by simp only[maxLen];omega) (by omega) (by have:=hb3.size;have:=hgr1.size;simp;omega) ?_;intro v4 w4 hown4 hgr4 hob4)
     have hvl:=fun q hq=>(hown1.lt q hq).2
     have hpos4:0<cur.length+1:=by omega
     obtain ⟨g4,cap4,rfl,hbg4,hg4⟩:=hown4.form hpos4
     clear hpos4
     have hcap4:cur.length+1≤cap4:=own_cap hown4
     have hj4:¬ cap4=cur.length:=by omega
     have hr4:(Value.slice (some ⟨g4,0,none⟩) (cur.length+1) cap4).ownBlock=lv.ownBlock∨∃ q,(Value.slice (some ⟨g4,0,none⟩) (cur.length+1) cap4).ownBlock=some q∧w.heap.size≤q:=by
      rcases hob4 with h4 | h4
      ·rw[h4];exact hob1
      ·exact .inr ⟨_,h4,by have:=hgr1.size;have:=hb3.size;simp;omega⟩
     have hg4ne:w1.heap.size≠g4:=by
      rcases hob4 with h4 | h4
      ·have:=hvl g4 h4.symm;omega
      ·have h4':some g4=some _:=h4
       simp at h4';omega
     have hgw4:w.grownBy w4 lv.ownBlock:=grown_step (grown_trans hgr1 (grown_of_below (hb3.alloc (by omega) _) _)) hgr4 (Or.imp_right Or.inr hob1)
     have hs34:w1.heap.size<(w3.alloc (Obj.cells #[.int .u32 0,.int .u32 0,.bool false] 47)).heap.size:=by simp;omega
     have hx0:=(hgr4.cell_far ⟨w1.heap.size,0,none⟩ hs34 (fun e=>absurd (hvl _ e.symm) (Nat.lt_irrefl _))).trans ((World.cell?_alloc_lt _ _ _ hs3).trans hz0)
     have hx1:=(hgr4.cell_far ⟨w1.heap.size,1,none⟩ hs34 (fun e=>absurd (hvl _ e.symm) (Nat.lt_irrefl _))).trans ((World.cell?_alloc_lt _ _ _ hs3).trans hz1)
     have hx2:=(hgr4.cell_far ⟨w1.heap.size,2,none⟩ hs34 (fun e=>absurd (hvl _ e.symm) (Nat.lt_irrefl _))).trans ((World.cell?_alloc_lt _ _ _ hs3).trans hz2)
     have hs4:w1.heap.size<w4.heap.size:=by have:=hgr4.size;simp at this;omega
     clear hz0 hz1 hz2 hgr4 hob4 hvl
     have hq1:IntKind.i64.wrap ((cur.length:Int)+1)=(cur.length:Int)+1:=IntWalk.i64_in _ (by omega)
     have hq2:(0:Int)≤(cur.length:Int)+1:=by omega
     have hq3:((cur.length:Int)+1).toNat=cur.length+1:=by omega
     have hq4:(cur.length:Int)≤(cur.length:Int)+1:=by omega
     have hq5:cur.length≤cur.length+1:=by omega
     go_still_tail 7,(by kernel_rfl)
     clear hq1 hq2 hq3 hq4 hq5
     have hflen:=flat_len hopCells_len cur
     have hdlen:((cur.drop cur.length).flatMap hopCells).length=(cur.length-cur.length)*3:=by rw[flat_len hopCells_len,List.length_drop]
     refine wpList_copy_row rfl (.tmp 47) (.tmp 50) 36 36 rfl hopT _ _ _ _ _ _ rfl rfl (k:=(cur.length+1)*3) (m:=cur.length-cur.length) hown4.drew ((cur.drop cur.length).flatMap hopCells) (by show _=min _ _;omega) hdlen (fun hm=>⟨if_neg (by omega),_,rfl,fun i u hu => ?_⟩) (fun _=>by split <;> simp) (by rw[hdlen];omega) hops_oneCell ?_
     ·have hil:i<(cur.length-cur.length)*3:=by have:=(List.getElem?_eq_some_iff.1 hu).1;omega
      have:(⟨g4,cur.length*3,none⟩:Addr).add i=⟨g4,cur.length*3+i,none⟩:=addr_add _ _ _
      rw[this]
      show w4.cell? _=_
      rw[hown4.cellAt _ (by omega),List.getElem?_append_left (by omega),←hu,←flat_drop hopCells_len,List.getElem?_drop]
     intro w5 hown5 hgr5
     have hy0:=(hgr5.cell_far ⟨w1.heap.size,0,none⟩ hs4 (by simpa using hg4ne)).trans hx0
     have hy1:=(hgr5.cell_far ⟨w1.heap.size,1,none⟩ hs4 (by simpa using hg4ne)).trans hx1
     have hy2:=(hgr5.cell_far ⟨w1.heap.size,2,none⟩ hs4 (by simpa using hg4ne)).trans hx2
     have hgw5:w.grownBy w5 lv.ownBlock:=grown_step hgw4 (show w4.grownBy w5 _ from ⟨hgr5.os,hgr5.tape,hgr5.output,hgr5.size,hgr5.block⟩) (Or.imp_right Or.inr hr4)
     clear hx0 hx1 hx2 hflen hdlen hj4
     go_wp2_with (refine wpList_store_own rfl 47 (.tmp 55) (.tmp 54) rfl (k:=cur.length*3) (hopCells h) rfl rfl hown5 rfl (by kernel_rfl) (by simp[hopCells,Value.oneCell']) (by simp only[hopCells_len];omega) ?_;intro w6 hown6 hgr6)
     go_roundw
     case rel =>
      have hpt:puts l (more.take (k+1))=cur.take cur.length++h :: cur.drop cur.length:=by rw[puts_take _ _ _ hlt,Hcur.out,Hh.out,ins_new Hins.out hne3]
      have hpl:(cur.take cur.length++h :: cur.drop cur.length).length=cur.length+1:=by simp only[List.length_append,List.length_take,List.length_cons,List.length_drop];omega
      refine ⟨k+1,by omega,by go_num,?_⟩
      unfold HPutRel
      rw[hpt,hpl,←flat_insert hopCells_len cur [.int .u32 0,.int .u32 0,.bool false] rfl cur.length (Nat.le_refl _) h]
      exact ⟨hown6,grown_step hgw5 hgr6 (Or.imp_right Or.inr hr4),hr4⟩
     case measure=>simp[intOf];omega
  ·obtain rfl:k=more.length:=by omega
   obtain ⟨hown1,hgr1,hob1⟩:=hrel
   go_wp2
   go_ret
   exact ⟨_,rfl,hown1,hgr1,hob1⟩
theorem sl_notown {w:World} {B s n:Nat} {v:Value} {xs:List Value} {q:Nat} (h:Sl w B s v n xs) (hn:0<n) (hv:v.ownBlock=some q):q<B:=by
 obtain ⟨_,A,c,rfl,_,_,hat⟩:=h
 obtain ⟨b,off,rfl,hb,_⟩:=hat hn
 injection hv with hv
 rw[←hv];exact hb
def HopsPost (w:World) (l:List Hop) (e:Ending) (w':World):Prop:=
 ∃ v,e=.returned v∧w'.ownsRow w.heap.size 47 3 v l.length (l.flatMap hopCells)∧Below w.heap.size w w'
set_option maxHeartbeats 400000 in
theorem join_any (a b:List Hop) (av bv:Value) (w:World) (ha:Sl w w.heap.size 3 av a.length (a.flatMap hopCells)) (hb:Sl w w.heap.size 3 bv b.length (b.flatMap hopCells)) (hn:a.length+b.length≤500000) :
  Calls Tryz.prog 53 #[av,bv] w (HopsPost w (puts (puts [] a) b)):=by
 go_enter Tryz.func53,Tryz.ntmps53
 go_wp2_with fail
 refine Calls.mono (hput_any w.heap.size (.slice none 0 0) [] a av _ (Nat.le_refl _) (World.ownsRow_nil _ _ _ _) ha (fun _ => ?_) (by simp;omega)) ?_
 ·cases h:av.ownBlock <;> simp[Value.ownBlock]
 rintro e w1 ⟨v1,rfl,ho1,hg1,hob1⟩
 rw[List.take_length] at ho1
 have hl1:=puts_length [] a
 have hB1:Below w.heap.size w w1:=below_of_grown hg1 (Nat.le_refl _) (by simp[Value.ownBlock])
 go_wp2_with fail
 refine Calls.mono (hput_any w.heap.size v1 (puts [] a) b bv _ hB1.size ho1 ((hb.below hB1).more hB1.size) (fun hp => ?_) (by simp at hl1;omega)) ?_
 ·cases h:bv.ownBlock with
  | none=>exact .inl rfl
  | some q =>
   refine .inr fun h2 => ?_
   have:=sl_notown hb hp h
   have:=(ho1.lt q h2.symm).1
   omega
 rintro e w2 ⟨v2,rfl,ho2,hg2,hob2⟩
 rw[List.take_length] at ho2
 go_wp2
 go_ret
 exact ⟨v2,rfl,ho2,hB1.trans (below_of_grown hg2 hB1.size (fun g hg=>(ho1.lt g hg).1))⟩
end Go.Proofs.YtiikagabdiphkaaGreat
namespace Go.Lo
open Go.RowKit
structure WayN where
 addr:Int
 bits:Int
 router:Int
 flags:Int
 kind:Int
 area:Int
 cost:Int
 far:Int
 tag:Int
 deriving DecidableEq,Inhabited
abbrev wayC (x:WayN) (hv:Value):Array Value:=#[.int .u32 x.addr,.int .u8 x.bits,.int .u32 x.router,.int .u8 x.flags,.int .u8 x.kind,.int .u32 x.area,.int .u32 x.cost,.int .u32 x.far,.int .u32 x.tag,hv]
def cmpI (a b:Int):Int:=if a<b then -1 else if b<a then 1 else 0
def orI:List Int→Int
 | []=>0
 | x :: r=>if x=0 then orI r else x
def betterP (a b:WayN):Int:=orI [cmpI a.kind b.kind,if a.kind=4 then cmpI a.far b.far else 0,cmpI a.cost b.cost]
theorem orI_all:∀ (l:List Int),(∀ i (h:i<l.length),l[i]=0)→orI l=0
 | [],_=>rfl
 | x :: r,h=>by
  have h0:=h 0 (by simp)
  simp only[List.getElem_cons_zero] at h0
  unfold orI
  rw[if_pos h0]
  exact orI_all r fun i hi=>by have:=h (i+1) (by simpa using hi);simpa using this
theorem orI_at:∀ (l:List Int) (k:Nat) (hk:k<l.length),(∀ i (h:i<l.length),i<k→l[i]=0)→l[k]≠0→orI l=l[k]
 | x :: r,0,_,_,hx=>by
  simp only[List.getElem_cons_zero] at hx ⊢
  unfold orI
  rw[if_neg hx]
 | x :: r,k+1,hk,h,hx=>by
  have h0:=h 0 (by simp) (by omega)
  simp only[List.getElem_cons_zero] at h0
  simp only[List.getElem_cons_succ] at hx ⊢
  unfold orI
  rw[if_pos h0]
  exact orI_at r k (by simpa using hk) (fun i hi hik=>by have:=h (i+1) (by simpa using hi) (by omega);simpa using this) hx
end Go.Lo
namespace Go.Proofs.YtiikagabdiphkaaGreat
open Go.RowKit Go.Lo
theorem isNaN32_any (a:Int) (w:World):Calls Tryz.prog 121 #[.int .u32 a] w fun e w'=>e=.returned (.bool false)∧w'=w:=by
 go_enter Tryz.func121,Tryz.ntmps121
 go_wp2
 go_ret
 exact ⟨by simp,rfl⟩
theorem isNaN8_any (a:Int) (w:World):Calls Tryz.prog 122 #[.int .u8 a] w fun e w'=>e=.returned (.bool false)∧w'=w:=by
 go_enter Tryz.func122,Tryz.ntmps122
 go_wp2
 go_ret
 exact ⟨by simp,rfl⟩
theorem compare32_any (a b:Int) (w:World):Calls Tryz.prog 79 #[.int .u32 a,.int .u32 b] w fun e w'=>e=.returned (.int .i64 (cmpI a b))∧w'=w:=by
 unfold cmpI
 rcases Int.lt_trichotomy a b with h | h | h
 ·rw[if_pos h]
  go_enter Tryz.func79,Tryz.ntmps79
  go_wp2_with (go_at_call 121;refine Calls.mono (isNaN32_any _ _) ?_;rintro e w1 ⟨rfl,rfl⟩)
  go_ret
  exact ⟨rfl,rfl⟩
 ·have h1:¬ a<b:=by omega
  have h2:¬ b<a:=by omega
  rw[if_neg h1,if_neg h2]
  go_enter Tryz.func79,Tryz.ntmps79
  go_wp2_with (go_at_call 121;refine Calls.mono (isNaN32_any _ _) ?_;rintro e w1 ⟨rfl,rfl⟩)
  go_ret
  exact ⟨rfl,rfl⟩
 ·have h1:¬ a<b:=by omega
  rw[if_neg h1,if_pos h]
  go_enter Tryz.func79,Tryz.ntmps79
  go_wp2_with (go_at_call 121;refine Calls.mono (isNaN32_any _ _) ?_;rintro e w1 ⟨rfl,rfl⟩)
  go_ret
  exact ⟨rfl,rfl⟩
theorem compare8_any (a b:Int) (w:World):Calls Tryz.prog 81 #[.int .u8 a,.int .u8 b] w fun e w'=>e=.returned (.int .i64 (cmpI a b))∧w'=w:=by
 unfold cmpI
 rcases Int.lt_trichotomy a b with h | h | h
 ·rw[if_pos h]
  go_enter Tryz.func81,Tryz.ntmps81
  go_wp2_with (go_at_call 122;refine Calls.mono (isNaN8_any _ _) ?_;rintro e w1 ⟨rfl,rfl⟩)
  go_ret
  exact ⟨rfl,rfl⟩
 ·have h1:¬ a<b:=by omega
  have h2:¬ b<a:=by omega
  rw[if_neg h1,if_neg h2]
  go_enter Tryz.func81,Tryz.ntmps81
  go_wp2_with (go_at_call 122;refine Calls.mono (isNaN8_any _ _) ?_;rintro e w1 ⟨rfl,rfl⟩)
  go_ret
  exact ⟨rfl,rfl⟩
 ·have h1:¬ a<b:=by omega
  rw[if_neg h1,if_pos h]
  go_enter Tryz.func81,Tryz.ntmps81
  go_wp2_with (go_at_call 122;refine Calls.mono (isNaN8_any _ _) ?_;rintro e w1 ⟨rfl,rfl⟩)
  go_ret
  exact ⟨rfl,rfl⟩
theorem or_any (l:List Int) (b c:Nat) (w:World) (hn:l.length≤1000) (hb:∀ i (h:i<l.length),w.cell? ⟨b,i,none⟩=some (.int .i64 l[i])) :
  Calls Tryz.prog 80 #[.slice (some ⟨b,0,none⟩) l.length c] w fun e w'=>e=.returned (.int .i64 (orI l))∧w'=w:=by
 replace hb:=Lib.hid hb
 go_enter Tryz.func80,Tryz.ntmps80
 go_wp2_with fail
 go_loopg [8] l.length (fun m v wr=>∃ k:Nat,k≤l.length∧m=l.length-k∧v=.int .i64 k∧(∀ i (h:i<l.length),i<k→l[i]=0)∧wr=w)
 case atStart=>exact ⟨0,Nat.zero_le _,rfl,rfl,fun _ _ h=>absurd h (by omega),rfl⟩
 case round =>
  obtain ⟨k,hk,rfl,rfl,hz,rfl⟩:=hrel
  replace hz:=Lib.hid hz
  by_cases hkl:k<l.length
  ·have ik:(k:Int)<(l.length:Int):=by omega
   have hc:=hb.out k hkl
   obtain ⟨x,hx⟩:∃ x,x=l[k]:=⟨_,rfl⟩
   rw[←hx] at hc
   by_cases h0:x=0
   ·subst h0
    replace hx:=Lib.hid hx
    go_wp2
    go_roundg (l.length-(k+1))
    case measure=>omega
    case rel=>exact ⟨k+1,by omega,rfl,by go_num,fun i hi hik=>by
           by_cases e:i=k
           ·subst e;exact hx.out.symm
           ·exact hz.out i hi (by omega),rfl⟩
   ·have h0':(x==0)=false:=by simp[h0]
    have hr:=orI_at l k hkl hz.out (by rw[←hx];exact h0)
    rw[←hx] at hr
    replace hr:=Lib.hid hr
    clear hx
    go_wp2
    go_ret
    exact ⟨by rw[hr.out];rfl,rfl⟩
  ·have ik:¬ (k:Int)<(l.length:Int):=by omega
   have hr:=orI_all l fun i hi=>hz.out i hi (by omega)
   go_wp2
   go_ret
   exact ⟨rfl,rfl⟩
set_option maxHeartbeats 1000000 in
theorem better_any (x y:WayN) (xh yh:Value) (w:World) :
  Calls Tryz.prog 38 #[.agg (wayC x xh),.agg (wayC y yh)] w fun e w'=>e=.returned (.int .i64 (betterP x y))∧Below w.heap.size w w':=by
 obtain ⟨x0,x1,x2,x3,x4,x5,x6,x7,x8⟩:=x
 obtain ⟨y0,y1,y2,y3,y4,y5,y6,y7,y8⟩:=y
 have e:betterP ⟨x0,x1,x2,x3,x4,x5,x6,x7,x8⟩ ⟨y0,y1,y2,y3,y4,y5,y6,y7,y8⟩=orI [cmpI x4 y4,if x4=4 then cmpI x7 y7 else 0,cmpI x6 y6]:=rfl
 rw[e]
 clear e
 obtain ⟨f,hf⟩:∃ f:Int,f=(if x4=4 then cmpI x7 y7 else 0):=⟨_,rfl⟩
 rw[←hf]
 replace hf:=Lib.hid hf
 dsimp only[wayC]
 have k0:Blk ((w.alloc (.cells #[.int .u32 x0,.int .u8 x1,.int .u32 x2,.int .u8 x3,.int .u8 x4,.int .u32 x5,.int .u32 x6,.int .u32 x7,.int .u32 x8,xh] 38)).alloc (.cells #[.int .u32 y0,.int .u8 y1,.int .u32 y2,.int .u8 y3,.int .u8 y4,.int .u32 y5,.int .u32 y6,.int .u32 y7,.int .u32 y8,yh] 38)) w.heap.size 38 #[.int .u32 x0,.int .u8 x1,.int .u32 x2,.int .u8 x3,.int .u8 x4,.int .u32 x5,.int .u32 x6,.int .u32 x7,.int .u32 x8,xh]:=(Blk.new _ _ _).alloc _
 have k1:Blk ((w.alloc (.cells #[.int .u32 x0,.int .u8 x1,.int .u32 x2,.int .u8 x3,.int .u8 x4,.int .u32 x5,.int .u32 x6,.int .u32 x7,.int .u32 x8,xh] 38)).alloc (.cells #[.int .u32 y0,.int .u8 y1,.int .u32 y2,.int .u8 y3,.int .u8 y4,.int .u32 y5,.int .u32 y6,.int .u32 y7,.int .u32 y8,yh] 38)) (w.heap.size+1) 38 #[.int .u32 y0,.int .u8 y1,.int .u32 y2,.int .u8 y3,.int .u8 y4,.int .u32 y5,.int .u32 y6,.int .u32 y7,.int .u32 y8,yh]:=heap_alloc2_new w _ _
 have kB:Below w.heap.size w ((w.alloc (.cells #[.int .u32 x0,.int .u8 x1,.int .u32 x2,.int .u8 x3,.int .u8 x4,.int .u32 x5,.int .u32 x6,.int .u32 x7,.int .u32 x8,xh] 38)).alloc (.cells #[.int .u32 y0,.int .u8 y1,.int .u32 y2,.int .u8 y3,.int .u8 y4,.int .u32 y5,.int .u32 y6,.int .u32 y7,.int .u32 y8,yh] 38)):=((Below.refl _ _).alloc (Nat.le_refl _) _).alloc (by simp) _
 go_enter Tryz.func38,Tryz.ntmps38
 go_upto_region 2 with fail
 generalize (w.alloc (.cells #[.int .u32 x0,.int .u8 x1,.int .u32 x2,.int .u8 x3,.int .u8 x4,.int .u32 x5,.int .u32 x6,.int .u32 x7,.int .u32 x8,xh] 38)).alloc (.cells #[.int .u32 y0,.int .u8 y1,.int .u32 y2,.int .u8 y3,.int .u8 y4,.int .u32 y5,.int .u32 y6,.int .u32 y7,.int .u32 y8,yh] 38)=w1 at k0 k1 kB ⊢
 have c4:=k0.cell 4
 have c6:=k0.cell 6
 have c7:=k0.cell 7
 have d4:=k1.cell 4
 have d6:=k1.cell 6
 have d7:=k1.cell 7
 have hz:=k1.lt
 simp only[q'a,q'z,q's] at c4 c6 c7 d4 d6 d7
 clear k0 k1
 have q4:∀ W,Below (w.heap.size+1+1) w1 W→W.cell? ⟨w.heap.size,4,none⟩=some (.int .u8 x4):=fun W h=>(h.cell (p:=⟨w.heap.size,4,none⟩) (by show w.heap.size<w.heap.size+1+1;omega)).trans c4
 have q6:∀ W,Below (w.heap.size+1+1) w1 W→W.cell? ⟨w.heap.size,6,none⟩=some (.int .u32 x6):=fun W h=>(h.cell (p:=⟨w.heap.size,6,none⟩) (by show w.heap.size<w.heap.size+1+1;omega)).trans c6
 have r4:∀ W,Below (w.heap.size+1+1) w1 W→W.cell? ⟨w.heap.size+1,4,none⟩=some (.int .u8 y4):=fun W h=>(h.cell (p:=⟨w.heap.size+1,4,none⟩) (by show w.heap.size+1<w.heap.size+1+1;omega)).trans d4
 have r6:∀ W,Below (w.heap.size+1+1) w1 W→W.cell? ⟨w.heap.size+1,6,none⟩=some (.int .u32 y6):=fun W h=>(h.cell (p:=⟨w.heap.size+1,6,none⟩) (by show w.heap.size+1<w.heap.size+1+1;omega)).trans d6
 go_upto_if 8 with fail
 go_cut [5] (fun v wx=>v=.int .i64 f∧wx=w1)
 case first =>
  clear q4 q6 r4 r6
  by_cases h4:x4=4
  ·subst h4
   go_wp2_with (go_at_call 79;refine Calls.mono (compare32_any _ _ _) ?_;rintro e w2 ⟨rfl,rfl⟩)
   go_meet
   case rel=>exact ⟨by rw[hf.out];simp,rfl⟩
  ·have h4':(x4==4)=false:=by simp[h4]
   go_wp2_with fail
   go_meet
   case rel=>exact ⟨by rw[hf.out];simp[h4],rfl⟩
 case rest =>
  obtain ⟨rfl,rfl⟩:=hcut
  clear c4 c6 c7 d4 d6 d7
  obtain ⟨w1,rfl⟩:∃ x:World,x=wc:=⟨_,rfl⟩
  have hle:w.heap.size+1+1≤w1.heap.size:=by omega
  go_upto_region 4 with fail
  go_region_held3 (fun W=>Below (w.heap.size+1+1) w1 W) (first | assumption | exact (Below.refl _ _).drew | exact Below.refl _ _ | exact (below_alloc (Below.refl _ _) hle _).drew | fail)
   (first
    | (go_at_call 81;refine Calls.mono (compare8_any _ _ _) ?_;rintro e w2 ⟨rfl,rfl⟩)
    | (go_at_call 79;refine Calls.mono (compare32_any _ _ _) ?_;rintro e w3 ⟨rfl,rfl⟩)
    | (go_at_call 80;refine Calls.mono (or_any [cmpI x4 y4,f,cmpI x6 y6] _ 3 _ (by simp) (fun i hi=>by simp only[List.length_cons,List.length_nil] at hi;show (w1.alloc _).cell? _=_;rw[World.cell?_alloc_at _ _ _ _ rfl];rcases (show i=0∨i=1∨i=2 by omega) with rfl | rfl | rfl <;> rfl)) ?_;rintro e w4 ⟨rfl,rfl⟩)
    | fail)
  go_wp2
  go_ret
  exact ⟨rfl,kB.trans ((below_alloc (Below.refl _ _) (by omega) _).drew.mono (by omega))⟩
end Go.Proofs.YtiikagabdiphkaaGreat
namespace Go.Lo
open Go.RowKit
structure WayV where
 n:WayN
 A:Option Addr
 len:Nat
 cap:Nat
 deriving Inhabited
abbrev WayV.cells (x:WayV):Array Value:=wayC x.n (.slice x.A x.len x.cap)
def wayL (x:WayV):List Value:=[.int .u32 x.n.addr,.int .u8 x.n.bits,.int .u32 x.n.router,.int .u8 x.n.flags,.int .u8 x.n.kind,.int .u32 x.n.area,.int .u32 x.n.cost,.int .u32 x.n.far,.int .u32 x.n.tag,.slice x.A x.len x.cap]
theorem wayL_len (x:WayV):(wayL x).length=10:=rfl
def zeroN:WayN:=⟨0,0,0,0,0,0,0,0,0⟩
def zeroW:WayV:=⟨zeroN,none,0,0⟩
def insideP (x:WayN):Bool:=x.kind==1 && x.area != 0
def countsR (id:Int) (x:WayN):Bool:=x.router==id && bits BinOp.and IntKind.u8 x.flags 2 != 0
def nearer (a b:WayN):Bool:=if insideP a != insideP b then insideP a else decide (a.cost<b.cost) || (a.cost==b.cost && decide (b.area<a.area))
def pickStep (id:Int) (s:WayV × Bool) (x:WayV):WayV × Bool:=if countsR id x.n && (!s.2 || nearer x.n s.1.n) then (x,true) else s
def pickP (id:Int) (l:List WayV):WayV × Bool:=l.foldl (pickStep id) (zeroW,false)
end Go.Lo
namespace Go.Proofs.YtiikagabdiphkaaGreat
open Go.RowKit Go.Lo
theorem wayT:ElT Tryz.prog 30 38 10 56:=⟨by kernel_rfl,by
 obtain ⟨i,hi,h1,h2,h3⟩:=info_parts (show (Tryz.prog.info? 38).map (fun i=>(i.zero,i.size,i.bytes))=some (some (.agg #[.int .u32 0,.int .u8 0,.int .u32 0,.int .u8 0,.int .u8 0,.int .u32 0,.int .u32 0,.int .u32 0,.int .u32 0,.slice none 0 0]),10,56) by kernel_rfl)
 exact ⟨i,_,hi,h1,h2,h3,rfl⟩,by omega⟩
theorem inside_any (x:WayV) (w:World):Calls Tryz.prog 157 #[.agg x.cells] w fun e w'=>e=.returned (.bool (insideP x.n))∧Below w.heap.size w w':=by
 obtain ⟨⟨x0,x1,x2,x3,x4,x5,x6,x7,x8⟩,xA,xn,xc⟩:=x
 dsimp only[WayV.cells,wayC,insideP]
 have hB:Below w.heap.size w (w.alloc (.cells #[.int .u32 x0,.int .u8 x1,.int .u32 x2,.int .u8 x3,.int .u8 x4,.int .u32 x5,.int .u32 x6,.int .u32 x7,.int .u32 x8,.slice xA xn xc] 38)):=(Below.refl _ _).alloc (Nat.le_refl _) _
 go_enter Tryz.func157,Tryz.ntmps157
 go_wp2
 all_goals go_ret
 all_goals refine ⟨?_,(Below.refl _ _).alloc (Nat.le_refl _) _⟩
 all_goals simp[*]
theorem counts_any (x:WayV) (id:Int) (p:Nat) (w:World) (hp:w.cell? ⟨p,0,none⟩=some (.int .u32 id)) (hl:p<w.heap.size) :
  Calls Tryz.prog 159 #[.agg x.cells,.pointer (some ⟨p,0,none⟩)] w fun e w'=>e=.returned (.bool (countsR id x.n))∧Below w.heap.size w w':=by
 obtain ⟨⟨x0,x1,x2,x3,x4,x5,x6,x7,x8⟩,xA,xn,xc⟩:=x
 dsimp only[WayV.cells,wayC,countsR]
 have hB:Below w.heap.size w (w.alloc (.cells #[.int .u32 x0,.int .u8 x1,.int .u32 x2,.int .u8 x3,.int .u8 x4,.int .u32 x5,.int .u32 x6,.int .u32 x7,.int .u32 x8,.slice xA xn xc] 38)):=(Below.refl _ _).alloc (Nat.le_refl _) _
 have hp1:=(hB.cell (p:=⟨p,0,none⟩) hl).trans hp
 go_enter Tryz.func159,Tryz.ntmps159
 go_wp2
 all_goals go_ret
 all_goals refine ⟨?_,(Below.refl _ _).alloc (Nat.le_refl _) _⟩
 all_goals simp[*]
set_option maxHeartbeats 2000000 in
theorem nearer_any (a b:WayV) (p:Nat) (w:World) (hp:w.cell? ⟨p,0,none⟩=some (.func (.func 157) #[] #[])) (hl:p<w.heap.size) :
  Calls Tryz.prog 160 #[.agg a.cells,.agg b.cells,.pointer (some ⟨p,0,none⟩)] w fun e w'=>e=.returned (.bool (nearer a.n b.n))∧Below w.heap.size w w':=by
 have C1:=Lib.hid (fun W=>inside_any a W)
 have C2:=Lib.hid (fun W=>inside_any b W)
 obtain ⟨ia,hia⟩:∃ z,z=insideP a.n:=⟨_,rfl⟩
 obtain ⟨ib,hib⟩:∃ z,z=insideP b.n:=⟨_,rfl⟩
 have e:nearer a.n b.n=if ia != ib then ia else decide (a.n.cost<b.n.cost) || (a.n.cost==b.n.cost && decide (b.n.area<a.n.area)):=by rw[hia,hib];rfl
 rw[e]
 rw[←hia] at C1
 rw[←hib] at C2
 clear e hia hib
 obtain ⟨⟨a0,a1,a2,a3,a4,a5,a6,a7,a8⟩,aA,an,ac⟩:=a
 obtain ⟨⟨b0,b1,b2,b3,b4,b5,b6,b7,b8⟩,bA,bn,bc⟩:=b
 dsimp only[WayV.cells,wayC] at *
 have k0:Blk ((w.alloc (.cells #[.int .u32 a0,.int .u8 a1,.int .u32 a2,.int .u8 a3,.int .u8 a4,.int .u32 a5,.int .u32 a6,.int .u32 a7,.int .u32 a8,.slice aA an ac] 38)).alloc (.cells #[.int .u32 b0,.int .u8 b1,.int .u32 b2,.int .u8 b3,.int .u8 b4,.int .u32 b5,.int .u32 b6,.int .u32 b7,.int .u32 b8,.slice bA bn bc] 38)) w.heap.size 38 #[.int .u32 a0,.int .u8 a1,.int .u32 a2,.int .u8 a3,.int .u8 a4,.int .u32 a5,.int .u32 a6,.int .u32 a7,.int .u32 a8,.slice aA an ac]:=(Blk.new _ _ _).alloc _
 have k1:Blk ((w.alloc (.cells #[.int .u32 a0,.int .u8 a1,.int .u32 a2,.int .u8 a3,.int .u8 a4,.int .u32 a5,.int .u32 a6,.int .u32 a7,.int .u32 a8,.slice aA an ac] 38)).alloc (.cells #[.int .u32 b0,.int .u8 b1,.int .u32 b2,.int .u8 b3,.int .u8 b4,.int .u32 b5,.int .u32 b6,.int .u32 b7,.int .u32 b8,.slice bA bn bc] 38)) (w.heap.size+1) 38 #[.int .u32 b0,.int .u8 b1,.int .u32 b2,.int .u8 b3,.int .u8 b4,.int .u32 b5,.int .u32 b6,.int .u32 b7,.int .u32 b8,.slice bA bn bc]:=heap_alloc2_new w _ _
 have kB:Below w.heap.size w ((w.alloc (.cells #[.int .u32 a0,.int .u8 a1,.int .u32 a2,.int .u8 a3,.int .u8 a4,.int .u32 a5,.int .u32 a6,.int .u32 a7,.int .u32 a8,.slice aA an ac] 38)).alloc (.cells #[.int .u32 b0,.int .u8 b1,.int .u32 b2,.int .u8 b3,.int .u8 b4,.int .u32 b5,.int .u32 b6,.int .u32 b7,.int .u32 b8,.slice bA bn bc] 38)):=((Below.refl _ _).alloc (Nat.le_refl _) _).alloc (by simp) _
 have hp1:=(kB.cell (p:=⟨p,0,none⟩) hl).trans hp
 go_enter Tryz.func160,Tryz.ntmps160
 go_upto_region 1 with fail
 generalize ((w.alloc (.cells #[.int .u32 a0,.int .u8 a1,.int .u32 a2,.int .u8 a3,.int .u8 a4,.int .u32 a5,.int .u32 a6,.int .u32 a7,.int .u32 a8,.slice aA an ac] 38)).alloc (.cells #[.int .u32 b0,.int .u8 b1,.int .u32 b2,.int .u8 b3,.int .u8 b4,.int .u32 b5,.int .u32 b6,.int .u32 b7,.int .u32 b8,.slice bA bn bc] 38))=w1 at k0 k1 kB hp1 ⊢
 have hz:=k1.lt
 have c0:=k0.cell 0
 have d0:=k1.cell 0
 have c1:=k0.cell 1
 have d1:=k1.cell 1
 have c2:=k0.cell 2
 have d2:=k1.cell 2
 have c3:=k0.cell 3
 have d3:=k1.cell 3
 have c4:=k0.cell 4
 have d4:=k1.cell 4
 have c5:=k0.cell 5
 have d5:=k1.cell 5
 have c6:=k0.cell 6
 have d6:=k1.cell 6
 have c7:=k0.cell 7
 have d7:=k1.cell 7
 have c8:=k0.cell 8
 have d8:=k1.cell 8
 have c9:=k0.cell 9
 have d9:=k1.cell 9
 simp only[q'a,q'z,q's] at c0 d0 c1 d1 c2 d2 c3 d3 c4 d4 c5 d5 c6 d6 c7 d7 c8 d8 c9 d9
 have q0:∀ W,Below (w.heap.size+1+1) w1 W→W.cell? ⟨w.heap.size,0,none⟩=some (.int .u32 a0):=fun W h=>(h.cell (p:=⟨w.heap.size,0,none⟩) (by show w.heap.size<w.heap.size+1+1;omega)).trans c0
 have r0:∀ W,Below (w.heap.size+1+1) w1 W→W.cell? ⟨w.heap.size+1,0,none⟩=some (.int .u32 b0):=fun W h=>(h.cell (p:=⟨w.heap.size+1,0,none⟩) (by show w.heap.size+1<w.heap.size+1+1;omega)).trans d0
 have q1:∀ W,Below (w.heap.size+1+1) w1 W→W.cell? ⟨w.heap.size,1,none⟩=some (.int .u8 a1):=fun W h=>(h.cell (p:=⟨w.heap.size,1,none⟩) (by show w.heap.size<w.heap.size+1+1;omega)).trans c1
 have r1:∀ W,Below (w.heap.size+1+1) w1 W→W.cell? ⟨w.heap.size+1,1,none⟩=some (.int .u8 b1):=fun W h=>(h.cell (p:=⟨w.heap.size+1,1,none⟩) (by show w.heap.size+1<w.heap.size+1+1;omega)).trans d1
 have q2:∀ W,Below (w.heap.size+1+1) w1 W→W.cell? ⟨w.heap.size,2,none⟩=some (.int .u32 a2):=fun W h=>(h.cell (p:=⟨w.heap.size,2,none⟩) (by show w.heap.size<w.heap.size+1+1;omega)).trans c2
 have r2:∀ W,Below (w.heap.size+1+1) w1 W→W.cell? ⟨w.heap.size+1,2,none⟩=some (.int .u32 b2):=fun W h=>(h.cell (p:=⟨w.heap.size+1,2,none⟩) (by show w.heap.size+1<w.heap.size+1+1;omega)).trans d2
 have q3:∀ W,Below (w.heap.size+1+1) w1 W→W.cell? ⟨w.heap.size,3,none⟩=some (.int .u8 a3):=fun W h=>(h.cell (p:=⟨w.heap.size,3,none⟩) (by show w.heap.size<w.heap.size+1+1;omega)).trans c3
 have r3:∀ W,Below (w.heap.size+1+1) w1 W→W.cell? ⟨w.heap.size+1,3,none⟩=some (.int .u8 b3):=fun W h=>(h.cell (p:=⟨w.heap.size+1,3,none⟩) (by show w.heap.size+1<w.heap.size+1+1;omega)).trans d3
 have q4:∀ W,Below (w.heap.size+1+1) w1 W→W.cell? ⟨w.heap.size,4,none⟩=some (.int .u8 a4):=fun W h=>(h.cell (p:=⟨w.heap.size,4,none⟩) (by show w.heap.size<w.heap.size+1+1;omega)).trans c4
 have r4:∀ W,Below (w.heap.size+1+1) w1 W→W.cell? ⟨w.heap.size+1,4,none⟩=some (.int .u8 b4):=fun W h=>(h.cell (p:=⟨w.heap.size+1,4,none⟩) (by show w.heap.size+1<w.heap.size+1+1;omega)).trans d4
 have q5:∀ W,Below (w.heap.size+1+1) w1 W→W.cell? ⟨w.heap.size,5,none⟩=some (.int .u32 a5):=fun W h=>(h.cell (p:=⟨w.heap.size,5,none⟩) (by show w.heap.size<w.heap.size+1+1;omega)).trans c5
 have r5:∀ W,Below (w.heap.size+1+1) w1 W→W.cell? ⟨w.heap.size+1,5,none⟩=some (.int .u32 b5):=fun W h=>(h.cell (p:=⟨w.heap.size+1,5,none⟩) (by show w.heap.size+1<w.heap.size+1+1;omega)).trans d5
 have q6:∀ W,Below (w.heap.size+1+1) w1 W→W.cell? ⟨w.heap.size,6,none⟩=some (.int .u32 a6):=fun W h=>(h.cell (p:=⟨w.heap.size,6,none⟩) (by show w.heap.size<w.heap.size+1+1;omega)).trans c6
 have r6:∀ W,Below (w.heap.size+1+1) w1 W→W.cell? ⟨w.heap.size+1,6,none⟩=some (.int .u32 b6):=fun W h=>(h.cell (p:=⟨w.heap.size+1,6,none⟩) (by show w.heap.size+1<w.heap.size+1+1;omega)).trans d6
 have q7:∀ W,Below (w.heap.size+1+1) w1 W→W.cell? ⟨w.heap.size,7,none⟩=some (.int .u32 a7):=fun W h=>(h.cell (p:=⟨w.heap.size,7,none⟩) (by show w.heap.size<w.heap.size+1+1;omega)).trans c7
 have r7:∀ W,Below (w.heap.size+1+1) w1 W→W.cell? ⟨w.heap.size+1,7,none⟩=some (.int .u32 b7):=fun W h=>(h.cell (p:=⟨w.heap.size+1,7,none⟩) (by show w.heap.size+1<w.heap.size+1+1;omega)).trans d7
 have q8:∀ W,Below (w.heap.size+1+1) w1 W→W.cell? ⟨w.heap.size,8,none⟩=some (.int .u32 a8):=fun W h=>(h.cell (p:=⟨w.heap.size,8,none⟩) (by show w.heap.size<w.heap.size+1+1;omega)).trans c8
 have r8:∀ W,Below (w.heap.size+1+1) w1 W→W.cell? ⟨w.heap.size+1,8,none⟩=some (.int .u32 b8):=fun W h=>(h.cell (p:=⟨w.heap.size+1,8,none⟩) (by show w.heap.size+1<w.heap.size+1+1;omega)).trans d8
 have q9:∀ W,Below (w.heap.size+1+1) w1 W→W.cell? ⟨w.heap.size,9,none⟩=some (.slice aA an ac):=fun W h=>(h.cell (p:=⟨w.heap.size,9,none⟩) (by show w.heap.size<w.heap.size+1+1;omega)).trans c9
 have r9:∀ W,Below (w.heap.size+1+1) w1 W→W.cell? ⟨w.heap.size+1,9,none⟩=some (.slice bA bn bc):=fun W h=>(h.cell (p:=⟨w.heap.size+1,9,none⟩) (by show w.heap.size+1<w.heap.size+1+1;omega)).trans d9
 have qp:∀ W,Below (w.heap.size+1+1) w1 W→W.cell? ⟨p,0,none⟩=some (.func (.func 157) #[] #[]):=fun W h=>(h.cell (p:=⟨p,0,none⟩) (by show p<w.heap.size+1+1;omega)).trans hp1
 have hle:w.heap.size+1+1≤w1.heap.size:=by omega
 clear c0 d0 c1 d1 c2 d2 c3 d3 c4 d4 c5 d5 c6 d6 c7 d7 c8 d8 c9 d9 hp1 hp
 have QK:=Lib.hid k0
 have QL:=Lib.hid k1
 clear k0 k1
 go_region_held3 (fun W=>Below (w.heap.size+1+1) w1 W) (first | assumption | exact (Below.refl _ _).drew | exact Below.refl _ _ | fail)
  (first
   | (go_at_call 157;with_reducible refine Calls.mono (C1.out _) ?_;rintro e w2 ⟨rfl,hB2⟩;have hS2:=below_call (B:=w.heap.size+1+1) (a:=w1) (by first | assumption | exact (Below.refl _ _).drew) hB2 hle;clear hB2)
   | (go_at_call 157;with_reducible refine Calls.mono (C2.out _) ?_;rintro e w3 ⟨rfl,hB3⟩;have hS3:=below_call (B:=w.heap.size+1+1) (a:=w1) (by first | assumption | exact (Below.refl _ _).drew) hB3 hle;clear hB3)
   | fail)
 have K0:=QK.out.below hS3 (by omega)
 have K1:=QL.out.below hS3 (by omega)
 have hp3:=qp _ hS3
 have QB:=Lib.hid (kB.trans (hS3.mono (by omega)))
 have hz3:=K1.lt
 clear q0 r0 q1 r1 q2 r2 q3 r3 q4 r4 q5 r5 q6 r6 q7 r7 q8 r8 q9 r9 qp hS2 hS3 QK QL kB
 have c5:=K0.cell 5
 have c6:=K0.cell 6
 have d5:=K1.cell 5
 have d6:=K1.cell 6
 simp only[q'a,q'z,q's] at c5 c6 d5 d6
 cases ia <;> cases ib
 ·go_wp2
  all_goals go_ret
  all_goals refine ⟨?_,QB.out⟩
  all_goals simp[*]
 ·go_wp2_with (first
   | (refine wpList_load_row rfl 38 (.tmp 3) rfl w.heap.size rfl 38 #[.int .u32 a0,.int .u8 a1,.int .u32 a2,.int .u8 a3,.int .u8 a4,.int .u32 a5,.int .u32 a6,.int .u32 a7,.int .u32 a8,.slice aA an ac] (0,0) _ K0 Tryz.underlying38 rfl (by kernel_rfl) ?_)
   | (go_at_call 157;refine Calls.mono (C1.out _) ?_;rintro e w4 ⟨rfl,hB4⟩))
  go_ret
  exact ⟨by simp,QB.out.trans (hB4.mono QB.out.size)⟩
 ·go_wp2_with (first
   | (refine wpList_load_row rfl 38 (.tmp 3) rfl w.heap.size rfl 38 #[.int .u32 a0,.int .u8 a1,.int .u32 a2,.int .u8 a3,.int .u8 a4,.int .u32 a5,.int .u32 a6,.int .u32 a7,.int .u32 a8,.slice aA an ac] (0,0) _ K0 Tryz.underlying38 rfl (by kernel_rfl) ?_)
   | (go_at_call 157;refine Calls.mono (C1.out _) ?_;rintro e w4 ⟨rfl,hB4⟩))
  go_ret
  exact ⟨by simp,QB.out.trans (hB4.mono QB.out.size)⟩
 ·go_wp2
  all_goals go_ret
  all_goals refine ⟨?_,QB.out⟩
  all_goals simp[*]
end Go.Proofs.YtiikagabdiphkaaGreat
