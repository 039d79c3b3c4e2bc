/- Hops are joined; numbers are compared; ways as rows. -/
import Derived.Test.YtcknpofnpabkiaaGreatProg
import Derived.Laws.StructEq
import Derived.StillTailTactics
import Derived.Test.YtcknpofnpabkiaaGreatInAA
set_option maxRecDepth 100000
namespace Go.Proofs.YtcknpofnpabkiaaGreat
open Go.RowKit Go.Lo
theorem hopT:ElT Tryz.prog 46 56 3 12:=⟨by kernel_rfl,by
 obtain ⟨i,hi,h1,h2,h3⟩:=info_parts (show (Tryz.prog.info? 56).map (fun i=>(i.zero,i.size,i.bytes))=some (some (.agg #[.int .u32 0,.int .u32 0,.bool false]),3,12) by kernel_rfl)
 exact ⟨i,_,hi,h1,h2,h3,rfl⟩,by omega⟩
set_option maxHeartbeats 400000 in
theorem before_any (a b:Hop) (w:World) :
  Calls Tryz.prog 106 #[.agg #[.int .u32 a.1,.int .u32 a.2.1,.bool a.2.2],.agg #[.int .u32 b.1,.int .u32 b.2.1,.bool b.2.2]] w
   fun e w'=>e=.returned (.bool (hopLt a b))∧Below w.heap.size w w':=by
 obtain ⟨a1,a2,a3⟩:=a
 obtain ⟨b1,b2,b3⟩:=b
 go_enter Tryz.func106,Tryz.ntmps106
 go_wp2
 all_goals go_ret
 all_goals refine ⟨?_,((Below.refl _ _).alloc (Nat.le_refl _) _).alloc (by simp) _⟩
 all_goals simp[hopLt, *]
set_option maxHeartbeats 400000 in
theorem eql_hop (a b:Hop) (w:World):(binOp .eql 56 (.agg #[.int .u32 a.1,.int .u32 a.2.1,.bool a.2.2]) (.agg #[.int .u32 b.1,.int .u32 b.2.1,.bool b.2.2])).run Tryz.prog w=.ok (.bool (decide (a=b))) w:=by
 rw[run_eql_struct,run_equalIn_agg _ _ _ _ _ (by kernel_rfl) (by kernel_rfl)]
 go_simp
 obtain ⟨a1,a2,a3⟩:=a
 obtain ⟨b1,b2,b3⟩:=b
 by_cases h1:a1=b1 <;> by_cases h2:a2=b2 <;> by_cases h3:a3=b3 <;> simp[h1,h2,h3]
def HPutRel (base:Nat) (w:World) (lv:Value) (l more:List Hop) (k:Nat) (v:Value) (wr:World):Prop:=
 wr.ownsRow base 56 3 v (puts l (more.take k)).length ((puts l (more.take k)).flatMap hopCells)∧w.grownBy wr lv.ownBlock∧(v.ownBlock=lv.ownBlock∨∃ g,v.ownBlock=some g∧w.heap.size≤g)
set_option maxHeartbeats 400000 in
theorem hput_any (base:Nat) (lv:Value) (l more:List Hop) (mv:Value) (w:World) (hbase:base≤w.heap.size)
  (hown:w.ownsRow base 56 3 lv l.length (l.flatMap hopCells)) (hmv:Sl w w.heap.size 3 mv more.length (more.flatMap hopCells)) (hne:0<more.length→mv.ownBlock=none∨mv.ownBlock≠lv.ownBlock)
  (hn:l.length+more.length≤1000000) :
  Calls Tryz.prog 65 #[lv,mv] w
   fun e w'=>∃ v,e=.returned v∧HPutRel base w lv l more more.length v w':=by
 obtain ⟨_,A,c,rfl,_,_,hat⟩:=hmv
 go_enter Tryz.func65,Tryz.ntmps65
 go_wp2
 go_loopw [0,10] (fun v i wr=>∃ k:Nat,k≤more.length∧i=.int .i64 k∧HPutRel base w lv l more k v wr) (fun _ i _=>more.length-(intOf i).toNat)
 case atStart=>exact ⟨0,Nat.zero_le _,rfl,by simpa[puts] using hown,World.grownBy.refl _ _,.inl rfl⟩
 case round =>
  obtain ⟨k,hk,rfl,hrel⟩:=hrel
  obtain ⟨w1,rfl⟩:∃ x:World,x=wr:=⟨_,rfl⟩
  by_cases hlt:k<more.length
  ·obtain ⟨b,off,rfl,hb,hc⟩:=hat (by omega)
   obtain ⟨hown1,hgr1,hob1⟩:=hrel
   have hcw:∀ j,w1.cell? ⟨b,off+j,none⟩=w.cell? ⟨b,off+j,none⟩:=fun j=>hgr1.cell_far _ hb (by rcases hne (by omega) with h | h <;> simp[Value.ownBlock] at h ⊢;exact h)
   have hget:∀ j u,(hopCells more[k])[j]?=some u→w1.cell? ⟨b,off+(k*3+j),none⟩=some u:=fun j u hu=>by
    rw[hcw];exact hc _ _ (by rw[flat_get hopCells_len _ _ _ (List.getElem?_eq_some_iff.1 hu).1 hlt];exact hu)
   have hc0:=hget 0 _ rfl
   have hc1:=hget 1 _ rfl
   have hc2:=hget 2 _ rfl
   simp only[Nat.add_zero,←Nat.add_assoc] at hc0 hc1 hc2
   clear hget hcw
   generalize hcur:puts l (more.take k)=cur at *
   have Hcur:=h'd hcur
   clear hcur
   generalize hh:more[k]=h at *
   have Hh:=h'd hh
   clear hh
   have hcl:cur.length≤l.length+more.length:=by
    have:=puts_length l (more.take k)
    rw[Hcur.out,List.length_take] at this
    omega
   go_wp2
   have ho:=hown1.alloc (Obj.cells #[.int .u32 h.1,.int .u32 h.2.1,.bool h.2.2] 56)
   have hx0:(w1.alloc (Obj.cells #[.int .u32 h.1,.int .u32 h.2.1,.bool h.2.2] 56)).cell? ⟨w1.heap.size,0,none⟩=some (.int .u32 h.1):=by rw[World.cell?_alloc_at _ _ _ _ rfl];rfl
   have hx1:(w1.alloc (Obj.cells #[.int .u32 h.1,.int .u32 h.2.1,.bool h.2.2] 56)).cell? ⟨w1.heap.size,1,none⟩=some (.int .u32 h.2.1):=by rw[World.cell?_alloc_at _ _ _ _ rfl];rfl
   have hx2:(w1.alloc (Obj.cells #[.int .u32 h.1,.int .u32 h.2.1,.bool h.2.2] 56)).cell? ⟨w1.heap.size,2,none⟩=some (.bool h.2.2):=by rw[World.cell?_alloc_at _ _ _ _ rfl];rfl
   have hbo:Below w1.heap.size w1 (w1.alloc (Obj.cells #[.int .u32 h.1,.int .u32 h.2.1,.bool h.2.2] 56)):=(Below.refl _ _).alloc (Nat.le_refl _) _
   have hso:w1.heap.size<(w1.alloc (Obj.cells #[.int .u32 h.1,.int .u32 h.2.1,.bool h.2.2] 56)).heap.size:=by simp
   generalize w1.alloc (Obj.cells #[.int .u32 h.1,.int .u32 h.2.1,.bool h.2.2] 56)=wo at *
   go_loopw [7] (fun a wi=>∃ j:Nat,j≤cur.length∧a=.int .i64 j∧(∀ i (hi:i<cur.length),i<j→hopLt cur[i] h=true)∧Below wo.heap.size wo wi) (fun a _=>cur.length-(intOf a).toNat)
   case atStart=>exact ⟨0,Nat.zero_le _,rfl,fun _ _ h=>absurd h (by omega),Below.refl _ _⟩
   case round =>
    obtain ⟨j,hj,rfl,hall,hbi⟩:=hrel
    obtain ⟨wi,rfl⟩:∃ x:World,x=wr:=⟨_,rfl⟩
    have hoi:=own_below ho hbi
    have hy0:=(hbi.cell (p:=⟨w1.heap.size,0,none⟩) hso).trans hx0
    have hy1:=(hbi.cell (p:=⟨w1.heap.size,1,none⟩) hso).trans hx1
    have hy2:=(hbi.cell (p:=⟨w1.heap.size,2,none⟩) hso).trans hx2
    clear hx0 hx1 hx2
    by_cases hjl:j<cur.length
    ·obtain ⟨g,cap,rfl,hcap,hbg,hg,hfz,hrow⟩:=own_row hopCells_len hoi hjl
     have hr0:=hrow 0 _ rfl
     have hr1:=hrow 1 _ rfl
     have hr2:=hrow 2 _ rfl
     simp only[Nat.add_zero] at hr0 hr1 hr2
     clear hrow hat hc
     cases hbool:hopLt cur[j] h with
     | true =>
      have Hb:=h'd hbool
      clear hbool
      go_wp2
      go_still_tail 10,(by kernel_rfl)
      go_wp2_with (go_at_call 106;refine (before_any cur[j] h _).mono ?_;rintro e w2 ⟨rfl,hb2'⟩;have hb2:Below wi.heap.size wi w2:=below_of_drew hb2';clear hb2';rw[Hb.out])
      go_roundw
      case rel=>exact ⟨j+1,by omega,by go_num,fun i hi hij=>by
             by_cases e:i=j
             ·subst e;exact Hb.out
             ·exact hall i hi (by omega),hbi.trans (hb2.mono (by have:=hbi.size;omega))⟩
      case measure=>simp[intOf];omega
     | false =>
      have Hb:=h'd hbool
      clear hbool
      go_wp2
      go_still_tail 10,(by kernel_rfl)
      go_wp2_with (go_at_call 106;refine (before_any cur[j] h _).mono ?_;rintro e w2 ⟨rfl,hb2'⟩;have hb2:Below wi.heap.size wi w2:=below_of_drew hb2';clear hb2';rw[Hb.out])
      have hsw:w1.heap.size<wi.heap.size:=by have:=hbi.size;omega
      have hz0:=(hb2.cell (p:=⟨w1.heap.size,0,none⟩) hsw).trans hy0
      have hz1:=(hb2.cell (p:=⟨w1.heap.size,1,none⟩) hsw).trans hy1
      have hz2:=(hb2.cell (p:=⟨w1.heap.size,2,none⟩) hsw).trans hy2
      have hs0:=(hb2.cell (p:=⟨g,j*3,none⟩) hg).trans hr0
      have hs1:=(hb2.cell (p:=⟨g,j*3+1,none⟩) hg).trans hr1
      have hs2:=(hb2.cell (p:=⟨g,j*3+2,none⟩) hg).trans hr2
      have ho2:=own_below hoi hb2
      have hbw:Below w1.heap.size w1 w2:=hbo.trans ((hbi.mono (by omega)).trans (hb2.mono (by omega)))
      have hsz:wi.heap.size≤w2.heap.size:=hb2.size
      clear hb2 hy0 hy1 hy2 hr0 hr1 hr2
      by_cases hq:cur[j]=h
      ·have heq:=fun W=>eql_hop cur[j] h W
       rw[decide_eq_true hq] at heq
       have Hq:=h'd hq
       clear hq
       go_quiet (fail)
       go_wp2
       go_roundw
       case rel =>
        have hins:ins cur h=cur:=ins_at (insAt_of hj hall (fun _=>Hb.out)) hjl Hq.out
        have hpt:puts l (more.take (k+1))=cur:=by rw[puts_take _ _ _ hlt,Hcur.out,Hh.out,hins]
        refine ⟨k+1,by omega,by go_num,?_⟩
        unfold HPutRel
        rw[hpt]
        exact ⟨ho2,grown_trans hgr1 (grown_of_below (below_drewN hbw _) _),hob1⟩
       case measure=>simp[intOf];omega
      ·have heq:=fun W=>eql_hop cur[j] h W
       rw[decide_eq_false hq] at heq
       have Hq:=h'd hq
       clear hq
       go_quiet (fail)
       have hins:=insAt_of hj hall (fun _=>Hb.out)
       have hne3:∀ hi:j<cur.length,cur[j]≠h:=fun _=>Hq.out
       have ho3:(w2.drewN nq).ownsRow base 56 3 (.slice (some ⟨g,0,none⟩) cur.length cap) cur.length (cur.flatMap hopCells):=ho2
       have hb3:Below w1.heap.size w1 (w2.drewN nq):=below_drewN hbw nq
       have hz0:(w2.drewN nq).cell? ⟨w1.heap.size,0,none⟩=some (.int .u32 h.1):=hz0
       have hz1:(w2.drewN nq).cell? ⟨w1.heap.size,1,none⟩=some (.int .u32 h.2.1):=hz1
       have hz2:(w2.drewN nq).cell? ⟨w1.heap.size,2,none⟩=some (.bool h.2.2):=hz2
       have hs3:w1.heap.size<(w2.drewN nq).heap.size:=by simp;omega
       clear ho2 hbw hs0 hs1 hs2 heq
       have Hins:=h'd hins
       clear hins
       generalize w2.drewN nq=w3 at *
       go_wp2_with (at_builtin;refine wpList_append rfl (.tmp 40) (.tmp 42) 46 rfl base hopT _ cur.length (cur.flatMap hopCells) rfl (ho3.alloc _) _ _ 1 [.int .u32 0,.int .u32 0,.bool false] rfl (Sl.lit w3 #[.int .u32 0,.int .u32 0,.bool false] 56 (by simp[maxLen]) rfl) (by simp[Value.oneCell']) (by simp only[maxLen];omega) (by omega) (by have:=hb3.size;have:=hgr1.size;simp;omega) ?_;intro v4 w4 hown4 hgr4 hob4)
       have hvl:=fun q hq=>(hown1.lt q hq).2
       have hpos4:0<cur.length+1:=by omega
       obtain ⟨g4,cap4,rfl,hbg4,hg4⟩:=hown4.form hpos4
       clear hpos4
       have hcap4:cur.length+1≤cap4:=own_cap hown4
       have hj4:¬ cap4=j:=by omega
       have hr4:(Value.slice (some ⟨g4,0,none⟩) (cur.length+1) cap4).ownBlock=lv.ownBlock∨∃ q,(Value.slice (some ⟨g4,0,none⟩) (cur.length+1) cap4).ownBlock=some q∧w.heap.size≤q:=by
        rcases hob4 with h4 | h4
        ·rw[h4];exact hob1
        ·exact .inr ⟨_,h4,by have:=hgr1.size;have:=hb3.size;simp;omega⟩
       have hg4ne:w1.heap.size≠g4:=by
        rcases hob4 with h4 | h4
        ·have:=hvl g4 h4.symm;omega
        ·have h4':some g4=some _:=h4
         simp at h4';omega
       have hgw4:w.grownBy w4 lv.ownBlock:=grown_step (grown_trans hgr1 (grown_of_below (hb3.alloc (by omega) _) _)) hgr4 (Or.imp_right Or.inr hob1)
       have hs34:w1.heap.size<(w3.alloc (Obj.cells #[.int .u32 0,.int .u32 0,.bool false] 56)).heap.size:=by simp;omega
       have hx0:=(hgr4.cell_far ⟨w1.heap.size,0,none⟩ hs34 (fun e=>absurd (hvl _ e.symm) (Nat.lt_irrefl _))).trans ((World.cell?_alloc_lt _ _ _ hs3).trans hz0)
       have hx1:=(hgr4.cell_far ⟨w1.heap.size,1,none⟩ hs34 (fun e=>absurd (hvl _ e.symm) (Nat.lt_irrefl _))).trans ((World.cell?_alloc_lt _ _ _ hs3).trans hz1)
       have hx2:=(hgr4.cell_far ⟨w1.heap.size,2,none⟩ hs34 (fun e=>absurd (hvl _ e.symm) (Nat.lt_irrefl _))).trans ((World.cell?_alloc_lt _ _ _ hs3).trans hz2)
       have hs4:w1.heap.size<w4.heap.size:=by have:=hgr4.size;simp at this;omega
       clear hz0 hz1 hz2 hgr4 hob4 hvl
       have hq1:IntKind.i64.wrap ((j:Int)+1)=(j:Int)+1:=IntWalk.i64_in _ (by omega)
       have hq2:(0:Int)≤(j:Int)+1:=by omega
       have hq3:((j:Int)+1).toNat=j+1:=by omega
       have hq4:(j:Int)≤(cur.length:Int)+1:=by omega
       have hq5:j≤cur.length+1:=by omega
       go_still_tail 7,(by kernel_rfl)
       clear hq1 hq2 hq3 hq4 hq5
       have hflen:=flat_len hopCells_len cur
       have hdlen:((cur.drop j).flatMap hopCells).length=(cur.length-j)*3:=by rw[flat_len hopCells_len,List.length_drop]
       refine wpList_copy_row rfl (.tmp 47) (.tmp 50) 46 46 rfl hopT _ _ _ _ _ _ rfl rfl (k:=(j+1)*3) (m:=cur.length-j) hown4.drew ((cur.drop j).flatMap hopCells) (by show _=min _ _;omega) hdlen (fun hm=>⟨if_neg (by omega),_,rfl,fun i u hu => ?_⟩) (fun _=>by split <;> simp) (by rw[hdlen];omega) hops_oneCell ?_
       ·have hil:i<(cur.length-j)*3:=by have:=(List.getElem?_eq_some_iff.1 hu).1;omega
        have:(⟨g4,j*3,none⟩:Addr).add i=⟨g4,j*3+i,none⟩:=addr_add _ _ _
        rw[this]
        show w4.cell? _=_
        rw[hown4.cellAt _ (by omega),List.getElem?_append_left (by omega),←hu,←flat_drop hopCells_len,List.getElem?_drop]
       intro w5 hown5 hgr5
       have hy0:=(hgr5.cell_far ⟨w1.heap.size,0,none⟩ hs4 (by simpa using hg4ne)).trans hx0
       have hy1:=(hgr5.cell_far ⟨w1.heap.size,1,none⟩ hs4 (by simpa using hg4ne)).trans hx1
       have hy2:=(hgr5.cell_far ⟨w1.heap.size,2,none⟩ hs4 (by simpa using hg4ne)).trans hx2
       have hgw5:w.grownBy w5 lv.ownBlock:=grown_step hgw4 (show w4.grownBy w5 _ from ⟨hgr5.os,hgr5.tape,hgr5.output,hgr5.size,hgr5.block⟩) (Or.imp_right Or.inr hr4)
       clear hx0 hx1 hx2 hflen hdlen hj4
       go_wp2_with (refine wpList_store_own rfl 56 (.tmp 55) (.tmp 54) rfl (k:=j*3) (hopCells h) rfl rfl hown5 rfl (by kernel_rfl) (by simp[hopCells,Value.oneCell']) (by simp only[hopCells_len];omega) ?_;intro w6 hown6 hgr6)
       go_roundw
       case rel =>
        have hpt:puts l (more.take (k+1))=cur.take j++h :: cur.drop j:=by rw[puts_take _ _ _ hlt,Hcur.out,Hh.out,ins_new Hins.out hne3]
        have hpl:(cur.take j++h :: cur.drop j).length=cur.length+1:=by simp only[List.length_append,List.length_take,List.length_cons,List.length_drop];omega
        refine ⟨k+1,by omega,by go_num,?_⟩
        unfold HPutRel
        rw[hpt,hpl,←flat_insert hopCells_len cur [.int .u32 0,.int .u32 0,.bool false] rfl j hj h]
        exact ⟨hown6,grown_step hgw5 hgr6 (Or.imp_right Or.inr hr4),hr4⟩
       case measure=>simp[intOf];omega
    ·obtain rfl:j=cur.length:=by omega
     have hins:=insAt_of hj hall (fun hi=>absurd hi (by omega))
     have hne3:∀ hi:cur.length<cur.length,cur[cur.length]≠h:=fun hi=>absurd hi (by omega)
     have Hins:=h'd hins
     clear hins
     obtain ⟨_,A0,c0,rfl,_,_,_⟩:=Sl.of_own hoi
     go_wp2
     go_quiet (fail)
     obtain ⟨n1,rfl⟩:∃ x,x=nq:=⟨_,rfl⟩
     go_wp2_with fail
     go_quiet (fail)
     have ho3:((wi.drewN n1).drewN nq).ownsRow base 56 3 (.slice A0 cur.length c0) cur.length (cur.flatMap hopCells):=hoi
     have hb3:Below w1.heap.size w1 ((wi.drewN n1).drewN nq):=below_drewN (below_drewN (hbo.trans (hbi.mono (by omega))) n1) nq
     have hz0:((wi.drewN n1).drewN nq).cell? ⟨w1.heap.size,0,none⟩=some (.int .u32 h.1):=hy0
     have hz1:((wi.drewN n1).drewN nq).cell? ⟨w1.heap.size,1,none⟩=some (.int .u32 h.2.1):=hy1
     have hz2:((wi.drewN n1).drewN nq).cell? ⟨w1.heap.size,2,none⟩=some (.bool h.2.2):=hy2
     have hs3:w1.heap.size<((wi.drewN n1).drewN nq).heap.size:=by have:=hbi.size;simp;omega
     clear hy0 hy1 hy2 hat hc
     generalize (wi.drewN n1).drewN nq=w3 at *
     go_wp2_with (at_builtin;refine wpList_append rfl (.tmp 40) (.tmp 42) 46 rfl base hopT _ cur.length (cur.flatMap hopCells) rfl (ho3.alloc _) _ _ 1 [.int .u32 0,.int .u32 0,.bool false] rfl (Sl.lit w3 #[.int .u32 0,.int .u32 0,.bool false] 56 (by simp[maxLen]) rfl) (by simp[Value.oneCell']) (by simp only[maxLen];omega) (by omega) (by have:=hb3.size;have:=hgr1.size;simp;omega) ?_;intro v4 w4 hown4 hgr4 hob4)
     have hvl:=fun q hq=>(hown1.lt q hq).2
     have hpos4:0<cur.length+1:=by omega
     obtain ⟨g4,cap4,rfl,hbg4,hg4⟩:=hown4.form hpos4
     clear hpos4
     have hcap4:cur.length+1≤cap4:=own_cap hown4
     have hj4:¬ cap4=cur.length:=by omega
     have hr4:(Value.slice (some ⟨g4,0,none⟩) (cur.length+1) cap4).ownBlock=lv.ownBlock∨∃ q,(Value.slice (some ⟨g4,0,none⟩) (cur.length+1) cap4).ownBlock=some q∧w.heap.size≤q:=by
      rcases hob4 with h4 | h4
      ·rw[h4];exact hob1
      ·exact .inr ⟨_,h4,by have:=hgr1.size;have:=hb3.size;simp;omega⟩
     have hg4ne:w1.heap.size≠g4:=by
      rcases hob4 with h4 | h4
      ·have:=hvl g4 h4.symm;omega
      ·have h4':some g4=some _:=h4
       simp at h4';omega
     have hgw4:w.grownBy w4 lv.ownBlock:=grown_step (grown_trans hgr1 (grown_of_below (hb3.alloc (by omega) _) _)) hgr4 (Or.imp_right Or.inr hob1)
     have hs34:w1.heap.size<(w3.alloc (Obj.cells #[.int .u32 0,.int .u32 0,.bool false] 56)).heap.size:=by simp;omega
     have hx0:=(hgr4.cell_far ⟨w1.heap.size,0,none⟩ hs34 (fun e=>absurd (hvl _ e.symm) (Nat.lt_irrefl _))).trans ((World.cell?_alloc_lt _ _ _ hs3).trans hz0)
     have hx1:=(hgr4.cell_far ⟨w1.heap.size,1,none⟩ hs34 (fun e=>absurd (hvl _ e.symm) (Nat.lt_irrefl _))).trans ((World.cell?_alloc_lt _ _ _ hs3).trans hz1)
     have hx2:=(hgr4.cell_far ⟨w1.heap.size,2,none⟩ hs34 (fun e=>absurd (hvl _ e.symm) (Nat.lt_irrefl _))).trans ((World.cell?_alloc_lt _ _ _ hs3).trans hz2)
     have hs4:w1.heap.size<w4.heap.size:=by have:=hgr4.size;simp at this;omega
     clear hz0 hz1 hz2 hgr4 hob4 hvl
     have hq1:IntKind.i64.wrap ((cur.length:Int)+1)=(cur.length:Int)+1:=IntWalk.i64_in _ (by omega)
     have hq2:(0:Int)≤(cur.length:Int)+1:=by omega
     have hq3:((cur.length:Int)+1).toNat=cur.length+1:=by omega
     have hq4:(cur.length:Int)≤(cur.length:Int)+1:=by omega
     have hq5:cur.length≤cur.length+1:=by omega
     go_still_tail 7,(by kernel_rfl)
     clear hq1 hq2 hq3 hq4 hq5
     have hflen:=flat_len hopCells_len cur
     have hdlen:((cur.drop cur.length).flatMap hopCells).length=(cur.length-cur.length)*3:=by rw[flat_len hopCells_len,List.length_drop]
     refine wpList_copy_row rfl (.tmp 47) (.tmp 50) 46 46 rfl hopT _ _ _ _ _ _ rfl rfl (k:=(cur.length+1)*3) (m:=cur.length-cur.length) hown4.drew ((cur.drop cur.length).flatMap hopCells) (by show _=min _ _;omega) hdlen (fun hm=>⟨if_neg (by omega),_,rfl,fun i u hu => ?_⟩) (fun _=>by split <;> simp) (by rw[hdlen];omega) hops_oneCell ?_
     ·have hil:i<(cur.length-cur.length)*3:=by have:=(List.getElem?_eq_some_iff.1 hu).1;omega
      have:(⟨g4,cur.length*3,none⟩:Addr).add i=⟨g4,cur.length*3+i,none⟩:=addr_add _ _ _
      rw[this]
      show w4.cell? _=_
      rw[hown4.cellAt _ (by omega),List.getElem?_append_left (by omega),←hu,←flat_drop hopCells_len,List.getElem?_drop]
     intro w5 hown5 hgr5
     have hy0:=(hgr5.cell_far ⟨w1.heap.size,0,none⟩ hs4 (by simpa using hg4ne)).trans hx0
     have hy1:=(hgr5.cell_far ⟨w1.heap.size,1,none⟩ hs4 (by simpa using hg4ne)).trans hx1
     have hy2:=(hgr5.cell_far ⟨w1.heap.size,2,none⟩ hs4 (by simpa using hg4ne)).trans hx2
     have hgw5:w.grownBy w5 lv.ownBlock:=grown_step hgw4 (show w4.grownBy w5 _ from ⟨hgr5.os,hgr5.tape,hgr5.output,hgr5.size,hgr5.block⟩) (Or.imp_right Or.inr hr4)
     clear hx0 hx1 hx2 hflen hdlen hj4
     go_wp2_with (refine wpList_store_own rfl 56 (.tmp 55) (.tmp 54) rfl (k:=cur.length*3) (hopCells h) rfl rfl hown5 rfl (by kernel_rfl) (by simp[hopCells,Value.oneCell']) (by simp only[hopCells_len];omega) ?_;intro w6 hown6 hgr6)
     go_roundw
     case rel =>
      have hpt:puts l (more.take (k+1))=cur.take cur.length++h :: cur.drop cur.length:=by rw[puts_take _ _ _ hlt,Hcur.out,Hh.out,ins_new Hins.out hne3]
      have hpl:(cur.take cur.length++h :: cur.drop cur.length).length=cur.length+1:=by simp only[List.length_append,List.length_take,List.length_cons,List.length_drop];omega
      refine ⟨k+1,by omega,by go_num,?_⟩
      unfold HPutRel
      rw[hpt,hpl,←flat_insert hopCells_len cur [.int .u32 0,.int .u32 0,.bool false] rfl cur.length (Nat.le_refl _) h]
      exact ⟨hown6,grown_step hgw5 hgr6 (Or.imp_right Or.inr hr4),hr4⟩
     case measure=>simp[intOf];omega
  ·obtain rfl:k=more.length:=by omega
   obtain ⟨hown1,hgr1,hob1⟩:=hrel
   go_wp2
   go_ret
   exact ⟨_,rfl,hown1,hgr1,hob1⟩
theorem sl_notown {w:World} {B s n:Nat} {v:Value} {xs:List Value} {q:Nat} (h:Sl w B s v n xs) (hn:0<n) (hv:v.ownBlock=some q):q<B:=by
 obtain ⟨_,A,c,rfl,_,_,hat⟩:=h
 obtain ⟨b,off,rfl,hb,_⟩:=hat hn
 injection hv with hv
 rw[←hv];exact hb
def HopsPost (w:World) (l:List Hop) (e:Ending) (w':World):Prop:=
 ∃ v,e=.returned v∧w'.ownsRow w.heap.size 56 3 v l.length (l.flatMap hopCells)∧Below w.heap.size w w'
set_option maxHeartbeats 400000 in
theorem join_any (a b:List Hop) (av bv:Value) (w:World) (ha:Sl w w.heap.size 3 av a.length (a.flatMap hopCells)) (hb:Sl w w.heap.size 3 bv b.length (b.flatMap hopCells)) (hn:a.length+b.length≤500000) :
  Calls Tryz.prog 29 #[av,bv] w (HopsPost w (puts (puts [] a) b)):=by
 go_enter Tryz.func29,Tryz.ntmps29
 go_wp2_with fail
 refine Calls.mono (hput_any w.heap.size (.slice none 0 0) [] a av _ (Nat.le_refl _) (World.ownsRow_nil _ _ _ _) ha (fun _ => ?_) (by simp;omega)) ?_
 ·cases h:av.ownBlock <;> simp[Value.ownBlock]
 rintro e w1 ⟨v1,rfl,ho1,hg1,hob1⟩
 rw[List.take_length] at ho1
 have hl1:=puts_length [] a
 have hB1:Below w.heap.size w w1:=below_of_grown hg1 (Nat.le_refl _) (by simp[Value.ownBlock])
 go_wp2_with fail
 refine Calls.mono (hput_any w.heap.size v1 (puts [] a) b bv _ hB1.size ho1 ((hb.below hB1).more hB1.size) (fun hp => ?_) (by simp at hl1;omega)) ?_
 ·cases h:bv.ownBlock with
  | none=>exact .inl rfl
  | some q =>
   refine .inr fun h2 => ?_
   have:=sl_notown hb hp h
   have:=(ho1.lt q h2.symm).1
   omega
 rintro e w2 ⟨v2,rfl,ho2,hg2,hob2⟩
 rw[List.take_length] at ho2
 go_wp2
 go_ret
 exact ⟨v2,rfl,ho2,hB1.trans (below_of_grown hg2 hB1.size (fun g hg=>(ho1.lt g hg).1))⟩
end Go.Proofs.YtcknpofnpabkiaaGreat
namespace Go.Lo
open Go.RowKit
structure WayN where
 addr:Int
 bits:Int
 router:Int
 flags:Int
 kind:Int
 area:Int
 cost:Int
 far:Int
 tag:Int
 deriving DecidableEq,Inhabited
abbrev wayC (x:WayN) (hv:Value):Array Value:=#[.int .u32 x.addr,.int .u8 x.bits,.int .u32 x.router,.int .u8 x.flags,.int .u8 x.kind,.int .u32 x.area,.int .u32 x.cost,.int .u32 x.far,.int .u32 x.tag,hv]
def cmpI (a b:Int):Int:=if a<b then -1 else if b<a then 1 else 0
def orI:List Int→Int
 | []=>0
 | x :: r=>if x=0 then orI r else x
theorem orI_all:∀ (l:List Int),(∀ i (h:i<l.length),l[i]=0)→orI l=0
 | [],_=>rfl
 | x :: r,h=>by
  have h0:=h 0 (by simp)
  simp only[List.getElem_cons_zero] at h0
  unfold orI
  rw[if_pos h0]
  exact orI_all r fun i hi=>by have:=h (i+1) (by simpa using hi);simpa using this
theorem orI_at:∀ (l:List Int) (k:Nat) (hk:k<l.length),(∀ i (h:i<l.length),i<k→l[i]=0)→l[k]≠0→orI l=l[k]
 | x :: r,0,_,_,hx=>by
  simp only[List.getElem_cons_zero] at hx ⊢
  unfold orI
  rw[if_neg hx]
 | x :: r,k+1,hk,h,hx=>by
  have h0:=h 0 (by simp) (by omega)
  simp only[List.getElem_cons_zero] at h0
  simp only[List.getElem_cons_succ] at hx ⊢
  unfold orI
  rw[if_pos h0]
  exact orI_at r k (by simpa using hk) (fun i hi hik=>by have:=h (i+1) (by simpa using hi) (by omega);simpa using this) hx
end Go.Lo
namespace Go.Proofs.YtcknpofnpabkiaaGreat
open Go.RowKit Go.Lo
theorem isNaN32_any (a:Int) (w:World):Calls Tryz.prog 117 #[.int .u32 a] w fun e w'=>e=.returned (.bool false)∧w'=w:=by
 go_enter Tryz.func117,Tryz.ntmps117
 go_wp2
 go_ret
 exact ⟨by simp,rfl⟩
theorem isNaN8_any (a:Int) (w:World):Calls Tryz.prog 116 #[.int .u8 a] w fun e w'=>e=.returned (.bool false)∧w'=w:=by
 go_enter Tryz.func116,Tryz.ntmps116
 go_wp2
 go_ret
 exact ⟨by simp,rfl⟩
theorem compare32_any (a b:Int) (w:World):Calls Tryz.prog 73 #[.int .u32 a,.int .u32 b] w fun e w'=>e=.returned (.int .i64 (cmpI a b))∧w'=w:=by
 unfold cmpI
 rcases Int.lt_trichotomy a b with h | h | h
 ·rw[if_pos h]
  go_enter Tryz.func73,Tryz.ntmps73
  go_wp2_with (go_at_call 117;refine Calls.mono (isNaN32_any _ _) ?_;rintro e w1 ⟨rfl,rfl⟩)
  go_ret
  exact ⟨rfl,rfl⟩
 ·have h1:¬ a<b:=by omega
  have h2:¬ b<a:=by omega
  rw[if_neg h1,if_neg h2]
  go_enter Tryz.func73,Tryz.ntmps73
  go_wp2_with (go_at_call 117;refine Calls.mono (isNaN32_any _ _) ?_;rintro e w1 ⟨rfl,rfl⟩)
  go_ret
  exact ⟨rfl,rfl⟩
 ·have h1:¬ a<b:=by omega
  rw[if_neg h1,if_pos h]
  go_enter Tryz.func73,Tryz.ntmps73
  go_wp2_with (go_at_call 117;refine Calls.mono (isNaN32_any _ _) ?_;rintro e w1 ⟨rfl,rfl⟩)
  go_ret
  exact ⟨rfl,rfl⟩
theorem compare8_any (a b:Int) (w:World):Calls Tryz.prog 72 #[.int .u8 a,.int .u8 b] w fun e w'=>e=.returned (.int .i64 (cmpI a b))∧w'=w:=by
 unfold cmpI
 rcases Int.lt_trichotomy a b with h | h | h
 ·rw[if_pos h]
  go_enter Tryz.func72,Tryz.ntmps72
  go_wp2_with (go_at_call 116;refine Calls.mono (isNaN8_any _ _) ?_;rintro e w1 ⟨rfl,rfl⟩)
  go_ret
  exact ⟨rfl,rfl⟩
 ·have h1:¬ a<b:=by omega
  have h2:¬ b<a:=by omega
  rw[if_neg h1,if_neg h2]
  go_enter Tryz.func72,Tryz.ntmps72
  go_wp2_with (go_at_call 116;refine Calls.mono (isNaN8_any _ _) ?_;rintro e w1 ⟨rfl,rfl⟩)
  go_ret
  exact ⟨rfl,rfl⟩
 ·have h1:¬ a<b:=by omega
  rw[if_neg h1,if_pos h]
  go_enter Tryz.func72,Tryz.ntmps72
  go_wp2_with (go_at_call 116;refine Calls.mono (isNaN8_any _ _) ?_;rintro e w1 ⟨rfl,rfl⟩)
  go_ret
  exact ⟨rfl,rfl⟩
theorem or_any (l:List Int) (b c:Nat) (w:World) (hn:l.length≤1000) (hb:∀ i (h:i<l.length),w.cell? ⟨b,i,none⟩=some (.int .i64 l[i])) :
  Calls Tryz.prog 71 #[.slice (some ⟨b,0,none⟩) l.length c] w fun e w'=>e=.returned (.int .i64 (orI l))∧w'=w:=by
 replace hb:=h'd hb
 go_enter Tryz.func71,Tryz.ntmps71
 go_wp2_with fail
 go_loopg [8] l.length (fun m v wr=>∃ k:Nat,k≤l.length∧m=l.length-k∧v=.int .i64 k∧(∀ i (h:i<l.length),i<k→l[i]=0)∧wr=w)
 case atStart=>exact ⟨0,Nat.zero_le _,rfl,rfl,fun _ _ h=>absurd h (by omega),rfl⟩
 case round =>
  obtain ⟨k,hk,rfl,rfl,hz,rfl⟩:=hrel
  replace hz:=h'd hz
  by_cases hkl:k<l.length
  ·have ik:(k:Int)<(l.length:Int):=by omega
   have hc:=hb.out k hkl
   obtain ⟨x,hx⟩:∃ x,x=l[k]:=⟨_,rfl⟩
   rw[←hx] at hc
   by_cases h0:x=0
   ·subst h0
    replace hx:=h'd hx
    go_wp2
    go_roundg (l.length-(k+1))
    case measure=>omega
    case rel=>exact ⟨k+1,by omega,rfl,by go_num,fun i hi hik=>by
           by_cases e:i=k
           ·subst e;exact hx.out.symm
           ·exact hz.out i hi (by omega),rfl⟩
   ·have h0':(x==0)=false:=by simp[h0]
    have hr:=orI_at l k hkl hz.out (by rw[←hx];exact h0)
    rw[←hx] at hr
    replace hr:=h'd hr
    clear hx
    go_wp2
    go_ret
    exact ⟨by rw[hr.out];rfl,rfl⟩
  ·have ik:¬ (k:Int)<(l.length:Int):=by omega
   have hr:=orI_all l fun i hi=>hz.out i hi (by omega)
   go_wp2
   go_ret
   exact ⟨rfl,rfl⟩
end Go.Proofs.YtcknpofnpabkiaaGreat
namespace Go.Lo
open Go.RowKit
structure WayV where
 n:WayN
 A:Option Addr
 len:Nat
 cap:Nat
 deriving Inhabited
abbrev WayV.cells (x:WayV):Array Value:=wayC x.n (.slice x.A x.len x.cap)
def wayL (x:WayV):List Value:=[.int .u32 x.n.addr,.int .u8 x.n.bits,.int .u32 x.n.router,.int .u8 x.n.flags,.int .u8 x.n.kind,.int .u32 x.n.area,.int .u32 x.n.cost,.int .u32 x.n.far,.int .u32 x.n.tag,.slice x.A x.len x.cap]
theorem wayL_len (x:WayV):(wayL x).length=10:=rfl
end Go.Lo
namespace Go.Proofs.YtcknpofnpabkiaaGreat
open Go.RowKit Go.Lo
theorem wayT:ElT Tryz.prog 36 48 10 56:=⟨by kernel_rfl,by
 obtain ⟨i,hi,h1,h2,h3⟩:=info_parts (show (Tryz.prog.info? 48).map (fun i=>(i.zero,i.size,i.bytes))=some (some (.agg #[.int .u32 0,.int .u8 0,.int .u32 0,.int .u8 0,.int .u8 0,.int .u32 0,.int .u32 0,.int .u32 0,.int .u32 0,.slice none 0 0]),10,56) by kernel_rfl)
 exact ⟨i,_,hi,h1,h2,h3,rfl⟩,by omega⟩
set_option maxRecDepth 100000
abbrev Ent:=Int × Int
def entCells (e:Ent):List Value:=[.int .u64 e.1,.int .i64 e.2]
theorem entCells_len (e:Ent):(entCells e).length=2:=rfl
set_option maxHeartbeats 400000 in
theorem swap_any (base:Nat) (v:Value) (l:List Ent) (i k:Nat) (w:World) (hi:i<l.length) (hk:k<l.length) (hown:w.ownsRow base 223 2 v l.length (l.flatMap entCells)) (_hn:l.length≤1099511627776) :
  Calls Tryz.prog 217 #[v,.int .i64 i,.int .i64 k] w
   fun e w'=>e=.returned (.tuple #[])∧w'.ownsRow base 223 2 v l.length (((l.set i l[k]).set k l[i]).flatMap entCells)∧w.grownBy w' v.ownBlock:=by
 have hri:=own_row entCells_len hown hi
 obtain ⟨g,cap,rfl,hcap,hbg,hg,hfz,hrow⟩:=hri
 obtain ⟨g',cap',hv,_,_,_,_,hrow'⟩:=own_row entCells_len hown hk
 simp only[Value.slice.injEq,Option.some.injEq,Addr.mk.injEq,and_true,true_and] at hv
 obtain ⟨rfl,rfl⟩:=hv
 have hi0:=hrow 0 _ rfl
 have hi1:=hrow 1 _ rfl
 have hk0:=hrow' 0 _ rfl
 have hk1:=hrow' 1 _ rfl
 simp only[Nat.add_zero] at hi0 hk0
 clear hrow hrow'
 have hf1:=hfz (i*2)
 have hf2:=hfz (i*2+1)
 have hf3:=hfz (k*2)
 have hf4:=hfz (k*2+1)
 have hend:∀ (n:Nat),((((((w.setCell ⟨g,i*2,none⟩ (.int .u64 l[k].1)).setCell ⟨g,i*2+1,none⟩ (.int .i64 l[k].2)).setCell ⟨g,k*2,none⟩ (.int .u64 l[i].1)).setCell ⟨g,k*2+1,none⟩ (.int .i64 l[i].2)).drewN n).ownsRow base 223 2 (.slice (some ⟨g,0,none⟩) l.length cap) l.length (((l.set i l[k]).set k l[i]).flatMap entCells)) ∧
   w.grownBy (((((w.setCell ⟨g,i*2,none⟩ (.int .u64 l[k].1)).setCell ⟨g,i*2+1,none⟩ (.int .i64 l[k].2)).setCell ⟨g,k*2,none⟩ (.int .u64 l[i].1)).setCell ⟨g,k*2+1,none⟩ (.int .i64 l[i].2)).drewN n) (some g):=fun n=>by
  obtain ⟨o1,g1⟩:=hown.stored (i*2) (.int .u64 l[k].1)
  obtain ⟨o2,g2⟩:=o1.stored (i*2+1) (.int .i64 l[k].2)
  obtain ⟨o3,g3⟩:=o2.stored (k*2) (.int .u64 l[i].1)
  obtain ⟨o4,g4⟩:=o3.stored (k*2+1) (.int .i64 l[i].2)
  have e1:=flat_set2 (a:=fun y:Ent=>.int .u64 y.1) (b:=fun y=>.int .i64 y.2) l i l[k]
  have e2:=flat_set2 (a:=fun y:Ent=>.int .u64 y.1) (b:=fun y=>.int .i64 y.2) (l.set i l[k]) k l[i]
  have e3:=grown_trans (grown_trans (grown_trans g1 g2) g3) g4
  refine ⟨?_,⟨e3.os,e3.tape,e3.output,e3.size,e3.block⟩⟩
  show World.ownsRow _ _ _ _ _ _ _
  have o4':World.ownsRow _ base 223 2 (.slice (some ⟨g,0,none⟩) l.length cap) l.length (((((l.flatMap fun y:Ent=>[.int .u64 y.1,.int .i64 y.2]).set (i*2) (.int .u64 l[k].1)).set (i*2+1) (.int .i64 l[k].2)).set (k*2) (.int .u64 l[i].1)).set (k*2+1) (.int .i64 l[i].2)):=o4
  rw[e1,e2] at o4'
  exact o4'
 have Hend:=h'd hend
 clear hend
 by_cases hik:i=k
 ·subst hik
  go_enter Tryz.func217,Tryz.ntmps217
  go_wp2
  go_region
  go_end0
  exact ⟨rfl,Hend.out 1⟩
 ·go_enter Tryz.func217,Tryz.ntmps217
  go_wp2
  go_region
  go_end0
  exact ⟨rfl,Hend.out 1⟩
theorem len_any (A:Option Addr) (n c:Nat) (w:World) :
  Calls Tryz.prog 131 #[.slice A n c] w fun e w'=>e=.returned (.int .i64 n)∧w=w':=by
 go_enter Tryz.func131,Tryz.ntmps131
 go_wp2
 go_ret
 exact ⟨rfl,rfl⟩
set_option maxHeartbeats 400000 in
theorem less_any (base:Nat) (v:Value) (l:List Ent) (i k:Nat) (w:World) (hi:i<l.length) (hk:k<l.length) (hown:w.ownsRow base 223 2 v l.length (l.flatMap entCells)) (_hn:l.length≤1099511627776) :
  Calls Tryz.prog 214 #[v,.int .i64 i,.int .i64 k] w
   fun e w'=>e=.returned (.bool (decide (l[i].1<l[k].1)))∧∃ n,w'=w.drewN n:=by
 have hri:=own_row entCells_len hown hi
 obtain ⟨g,cap,rfl,hcap,hbg,hg,hfz,hrow⟩:=hri
 obtain ⟨g',cap',hv,_,_,_,_,hrow'⟩:=own_row entCells_len hown hk
 simp only[Value.slice.injEq,Option.some.injEq,Addr.mk.injEq,and_true,true_and] at hv
 obtain ⟨rfl,rfl⟩:=hv
 have hi0:=hrow 0 _ rfl
 have hk0:=hrow' 0 _ rfl
 simp only[Nat.add_zero] at hi0 hk0
 clear hrow hrow'
 go_enter Tryz.func214,Tryz.ntmps214
 go_wp2
 go_quiet (fail)
 go_wp2
 go_ret
 exact ⟨rfl,_,rfl⟩
def QueueAt (w:World) (base q:Nat) (l:List Ent):Prop:=
 base≤q∧∃ v,w.heap[q]?=some (.cells #[v] 225 (0,0))∧v.ownBlock≠some q∧w.ownsRow base 223 2 v l.length (l.flatMap entCells)
def QF (w:World) (q k:Nat):Prop:=k=q∨∃ v,w.heap[q]?=some (.cells #[v] 225 (0,0))∧v.ownBlock=some k
structure QStep (w w':World) (q:Nat):Prop where
 os:w'.os=w.os
 tape:w'.tape=w.tape
 output:w'.output=w.output
 size:w.heap.size≤w'.heap.size
 block:∀ k,k<w.heap.size→¬ QF w q k→w'.heap[k]?=w.heap[k]?
 foot:∀ k,QF w' q k→QF w q k∨w.heap.size≤k
theorem QStep.refl (w:World) (q:Nat):QStep w w q:=⟨rfl,rfl,rfl,Nat.le_refl _,fun _ _ _=>rfl,fun _ h=>.inl h⟩
theorem QStep.trans {a b c:World} {q:Nat} (h:QStep a b q) (k:QStep b c q):QStep a c q:=
 ⟨k.os.trans h.os,k.tape.trans h.tape,k.output.trans h.output,Nat.le_trans h.size k.size,
  fun i hi hn=>(k.block i (Nat.lt_of_lt_of_le hi h.size) (fun hf=>by
   rcases h.foot i hf with h' | h'
   ·exact hn h'
   ·omega)).trans (h.block i hi hn),
  fun i hf=>by
   rcases k.foot i hf with h' | h'
   ·exact h.foot i h'
   ·exact .inr (Nat.le_trans h.size h')⟩
theorem QStep.drewN {a b:World} {q:Nat} (h:QStep a b q) (n:Nat):QStep a (b.drewN n) q:=⟨h.os,h.tape,h.output,h.size,h.block,h.foot⟩
theorem QF.ge {w:World} {base q k:Nat} {l:List Ent} (hq:QueueAt w base q l) (h:QF w q k):base≤k:=by
 obtain ⟨hb,v,hcell,_,hown⟩:=hq
 rcases h with rfl | ⟨v',hc,hk⟩
 ·exact hb
 ·rw[hcell] at hc
  injection hc with hc;injection hc with hc
  have:v=v':=by simpa using hc
  subst this
  exact (hown.lt k hk).1
theorem QF.lt {w:World} {base q k:Nat} {l:List Ent} (hq:QueueAt w base q l) (h:QF w q k):k<w.heap.size:=by
 obtain ⟨hb,v,hcell,_,hown⟩:=hq
 rcases h with rfl | ⟨v',hc,hk⟩
 ·exact lt_of_block hcell
 ·rw[hcell] at hc
  injection hc with hc;injection hc with hc
  have:v=v':=by simpa using hc
  subst this
  exact (hown.lt k hk).2
theorem QStep.below {w w':World} {base q:Nat} {l:List Ent} (h:QStep w w' q) (hq:QueueAt w base q l):Below base w w':=
 ⟨h.os,h.tape,h.output,h.size,fun k hk=>by
  have:q<w.heap.size:=by obtain ⟨_,v,hcell,_,_⟩:=hq;exact lt_of_block hcell
  have hb:base≤q:=hq.1
  exact h.block k (by omega) (fun hf=>by have:=QF.ge hq hf;omega)⟩
set_option maxHeartbeats 400000 in
theorem qpop_any (base q:Nat) (l:List Ent) (x:Ent) (w:World) (hq:QueueAt w base q (l++[x])) (hn:l.length≤1099511627776) :
  Calls Tryz.prog 215 #[.pointer (some ⟨q,0,none⟩)] w
   fun e w'=>e=.returned (.iface 223 (.agg #[.int .u64 x.1,.int .i64 x.2]))∧QueueAt w' base q l∧QStep w w' q:=by
 obtain ⟨hb,v,hcell,hne,hown⟩:=hq
 have hbl:base≤w.heap.size:=Nat.le_trans hb (Nat.le_of_lt (lt_of_block hcell))
 have hlen:(l++[x]).length=l.length+1:=by simp
 obtain ⟨g,cap,rfl,hcap,hbg,hg,hfz,hrow⟩:=own_row (k:=l.length) entCells_len hown (by simp)
 have hx0:=hrow 0 (.int .u64 x.1) (by simp[entCells])
 have hx1:=hrow 1 (.int .i64 x.2) (by simp[entCells])
 simp only[Nat.add_zero] at hx0 hx1
 clear hrow
 have hc0:=cell_of_one hcell
 have hf0:=free_of_one hcell
 rw[hlen] at hc0
 have hql:=lt_of_block hcell
 have Hcell:=h'd hcell
 clear hcell
 go_enter Tryz.func215,Tryz.ntmps215
 go_wp2
 go_ret
 have hqg:g≠q:=fun h=>hne (by rw[h];rfl)
 have h1:=own_take hown (m:=l.length) (by simp)
 rw[flat_take entCells_len,List.take_left] at h1
 refine ⟨rfl,⟨hb,.slice (some ⟨g,0,none⟩) l.length cap,(Below.heap_alloc _ _ _ (by simpa using hql)).trans (one_setCell Hcell.out),fun h=>hqg (by injection h),(ownsRow_setCell_other h1 (fun h=>hqg (by injection h)) _).alloc _⟩,
  ⟨rfl,rfl,rfl,by simp,fun k hk hn=>(Below.heap_alloc _ _ _ (by simpa using hk)).trans (Below.heap_setCell _ _ _ _ (fun e=>hn (.inl e))),fun k hf=>.inl ?_⟩⟩
 have hnew:((w.setCell ⟨q,0,none⟩ (.slice (some ⟨g,0,none⟩) l.length cap)).alloc (Obj.cells #[.int .u64 x.1,.int .i64 x.2] 223)).heap[q]?=some (.cells #[.slice (some ⟨g,0,none⟩) l.length cap] 225 (0,0)):=(Below.heap_alloc _ _ _ (by simpa using hql)).trans (one_setCell Hcell.out)
 rcases hf with rfl | ⟨v',hc,hk⟩
 ·exact .inl rfl
 ·rw[hnew] at hc
  injection hc with hc;injection hc with hc
  have:Value.slice (some ⟨g,0,none⟩) l.length cap=v':=by simpa using hc
  subst this
  exact .inr ⟨_,Hcell.out,hk⟩
theorem entT:ElT Tryz.prog 225 223 2 16:=⟨by kernel_rfl,by
 obtain ⟨i,hi,h1,h2,h3⟩:=info_parts (show (Tryz.prog.info? 223).map (fun i=>(i.zero,i.size,i.bytes))=some (some (.agg #[.int .u64 0,.int .i64 0]),2,16) by kernel_rfl)
 exact ⟨i,_,hi,h1,h2,h3,rfl⟩,by omega⟩
theorem assert_entry (a b:Value) (w:World):(Instr.typeAssert (.iface 223 (.agg #[a,b])) 20 223 false).run Tryz.prog w=.ok (.agg #[a,b]) w:=by kernel_rfl
set_option maxHeartbeats 400000 in
theorem qadd_any (base q:Nat) (l:List Ent) (x:Ent) (w:World) (hbw:base≤w.heap.size) (hq:QueueAt w base q l) (hn:l.length≤1099511627776) :
  Calls Tryz.prog 218 #[.pointer (some ⟨q,0,none⟩),.iface 223 (.agg #[.int .u64 x.1,.int .i64 x.2])] w
   fun e w'=>e=.returned (.tuple #[])∧QueueAt w' base q (l++[x])∧QStep w w' q:=by
 obtain ⟨hb,v,hcell,hne,hown⟩:=hq
 have hql:=lt_of_block hcell
 have hc0:=cell_of_one hcell
 have hf0:=free_of_one hcell
 have Hcell:=h'd hcell
 clear hcell
 have has:=assert_entry (.int .u64 x.1) (.int .i64 x.2)
 go_enter Tryz.func218,Tryz.ntmps218
 go_wp2_with fail
 go_region_law (refine step_append (w:=w.drew.alloc (.cells #[.int .u64 x.1,.int .i64 x.2] 223)) rfl (.tmp 7) (.tmp 10) 225 rfl base entT v l.length (l.flatMap entCells) rfl (hown.drew.alloc _) _ _ 1 (entCells x) rfl (Sl.lit w.drew #[.int .u64 x.1,.int .i64 x.2] 223 (by simp[maxLen]) rfl) (by simp[entCells,Value.oneCell']) (by simp only[maxLen];omega) (by omega) (by simp;omega) ?_;intro v' w1 hown1 hgr1 hob1;obtain ⟨_,A1,c1,rfl,_⟩:=Sl.of_own hown1;have hc1:=(hgr1.cell_far ⟨q,0,none⟩ (show q<_ by simp;omega) hne.symm).trans ((World.cell?_alloc_lt _ _ _ hql).trans hc0);have hf1:=(hgr1.frozen_far ⟨q,0,none⟩ (show q<_ by simp;omega) hne.symm).trans ((Below.frozen ((Below.refl _ _).alloc (Nat.le_refl _) _) hql).trans hf0))
 all_goals go_end0
 all_goals
  have hxs:l.flatMap entCells++entCells x=(l++[x]).flatMap entCells:=by simp
  have hq1:w1.heap[q]?=some (.cells #[v] 225 (0,0)):=(hgr1.block q (by simp;omega) hne.symm).trans ((Below.heap_alloc _ _ _ hql).trans Hcell.out)
  have hnq:(Value.slice A1 (l.length+1) c1).ownBlock≠some q:=by
   rcases hob1 with h | h
   ·rw[h];exact hne
   ·rw[h];simp;omega
  refine ⟨rfl,⟨hb,_,one_setCell hq1,hnq,?_⟩,⟨hgr1.os,hgr1.tape,hgr1.output,Nat.le_trans (by simp) (Nat.le_trans hgr1.size (by simp)),fun k hk hn => ?_,fun k hf => ?_⟩⟩
  ·rw[←hxs]
   simpa using ownsRow_setCell_other hown1 hnq _
  ·exact (Below.heap_setCell _ _ _ _ (fun e=>hn (.inl e))).trans ((hgr1.block k (by simp;omega) (fun e=>hn (.inr ⟨v,Hcell.out,e.symm⟩))).trans (Below.heap_alloc _ _ _ hk))
  ·rcases hf with rfl | ⟨v',hc,hk⟩
   ·exact .inl (.inl rfl)
   ·rw[one_setCell hq1] at hc
    injection hc with hc;injection hc with hc
    have:Value.slice A1 (l.length+1) c1=v':=by simpa using hc
    subst this
    rcases hob1 with h | h
    ·exact .inl (.inr ⟨v,Hcell.out,by rw[←h];exact hk⟩)
    ·rw[hk] at h
     have:k=_:=o'i h
     exact .inr (by rw[this];simp)
set_option maxRecDepth 100000
theorem meth_len (n q:Nat) (v:Value) (W:World) (hc:W.cell? ⟨q,0,none⟩=some v):(method (n+1) 221 (.pointer (some ⟨q,0,none⟩)) "Len").run Tryz.prog W=.ok (131,v) W:=
 method_val (e:=225) (by kernel_rfl) (by kernel_rfl) n q v W (by go_simp)
theorem meth_less (n q:Nat) (v:Value) (W:World) (hc:W.cell? ⟨q,0,none⟩=some v):(method (n+1) 221 (.pointer (some ⟨q,0,none⟩)) "Less").run Tryz.prog W=.ok (214,v) W:=
 method_val (e:=225) (by kernel_rfl) (by kernel_rfl) n q v W (by go_simp)
theorem meth_swap (n q:Nat) (v:Value) (W:World) (hc:W.cell? ⟨q,0,none⟩=some v):(method (n+1) 221 (.pointer (some ⟨q,0,none⟩)) "Swap").run Tryz.prog W=.ok (217,v) W:=
 method_val (e:=225) (by kernel_rfl) (by kernel_rfl) n q v W (by go_simp)
theorem meth_pop (n q:Nat) (W:World):(method (n+1) 221 (.pointer (some ⟨q,0,none⟩)) "Pop").run Tryz.prog W=.ok (215,.pointer (some ⟨q,0,none⟩)) W:=
 method_ptr (e:=225) (by kernel_rfl) (by kernel_rfl) n q W
theorem meth_push (n q:Nat) (W:World):(method (n+1) 221 (.pointer (some ⟨q,0,none⟩)) "Push").run Tryz.prog W=.ok (216,.pointer (some ⟨q,0,none⟩)) W:=
 method_ptr (e:=225) (by kernel_rfl) (by kernel_rfl) n q W
def Queued (w0 w:World) (base q:Nat) (l:List Ent):Prop:=∃ l',QueueAt w base q l'∧l'.Perm l∧QStep w0 w q
theorem qswap_any (base q i k:Nat) (l:List Ent) (v:Value) (w:World) (hb:base≤q) (hcell:w.heap[q]?=some (.cells #[v] 225 (0,0))) (hne:v.ownBlock≠some q) (hown:w.ownsRow base 223 2 v l.length (l.flatMap entCells)) (hi:i<l.length) (hk:k<l.length) (hn:l.length≤1099511627776) :
  Calls Tryz.prog 217 #[v,.int .i64 i,.int .i64 k] w fun e w'=>e=.returned (.tuple #[])∧Queued w w' base q l:=by
 refine (swap_any base v l i k w hi hk hown hn).mono fun e w' ⟨he,ho,hg⟩=>⟨he,(l.set i l[k]).set k l[i],⟨hb,v,?_,hne,by simpa using ho⟩,List.set_set_perm hi hk,⟨hg.os,hg.tape,hg.output,hg.size,fun j hj hn=>hg.block j hj (fun e=>hn (.inr ⟨v,hcell,e.symm⟩)),fun j hf=>.inl ?_⟩⟩
 ·exact (hg.block q (lt_of_block hcell) hne.symm).trans hcell
 ·unfold QF at hf ⊢
  rw[hg.block q (lt_of_block hcell) hne.symm] at hf
  exact hf
theorem qless_any (base i k:Nat) (x y:Int) (hx:x=i) (hy:y=k) (l:List Ent) (v:Value) (w:World) (hi:i<l.length) (hk:k<l.length) (hown:w.ownsRow base 223 2 v l.length (l.flatMap entCells)) (hn:l.length≤1099511627776) :
  Calls Tryz.prog 214 #[v,.int .i64 x,.int .i64 y] w fun e w'=>∃ b n,e=.returned (.bool b)∧w'=w.drewN n:=by
 subst hx hy
 exact (less_any base v l i k w hi hk hown hn).mono fun e w' ⟨he,n,hw⟩=>⟨_,n,he,hw⟩
theorem qswap_int (base q i k:Nat) (x y:Int) (hx:x=i) (hy:y=k) (l:List Ent) (v:Value) (w:World) (hb:base≤q) (hcell:w.heap[q]?=some (.cells #[v] 225 (0,0))) (hne:v.ownBlock≠some q) (hown:w.ownsRow base 223 2 v l.length (l.flatMap entCells)) (hi:i<l.length) (hk:k<l.length) (hn:l.length≤1099511627776) :
  Calls Tryz.prog 217 #[v,.int .i64 x,.int .i64 y] w fun e w'=>e=.returned (.tuple #[])∧Queued w w' base q l:=by
 subst hx hy
 exact qswap_any base q i k l v w hb hcell hne hown hi hk hn
def BoolQueued (w:World) (base q:Nat) (l:List Ent) (e:Ending) (w':World):Prop:=∃ b,e=.returned (.bool b)∧Queued w w' base q l
theorem Queued.on {w w1 w2:World} {base q:Nat} {l l1:List Ent} (hp:l1.Perm l) (hb:QStep w w1 q) (h:Queued w1 w2 base q l1):Queued w w2 base q l:=
 let ⟨l2,h1,h2,h3⟩:=h
 ⟨l2,h1,h2.trans hp,hb.trans h3⟩
set_option maxHeartbeats 1000000 in
theorem hdown_any (base q n:Nat) (l:List Ent) (w:World) (hq:QueueAt w base q l) (hnl:n≤l.length) (hn:l.length≤1099511627776) :
  Calls Tryz.prog 164 #[.iface 221 (.pointer (some ⟨q,0,none⟩)),.int .i64 0,.int .i64 n] w (BoolQueued w base q l):=by
 go_enter Tryz.func164,Tryz.ntmps164
 go_wp2_with fail
 go_loopw [7] (fun i wr=>∃ k:Nat,k≤n∧i=.int .i64 k∧Queued w wr base q l) (fun i _=>n+1-(intOf i).toNat)
 case atStart=>exact ⟨0,Nat.zero_le _,rfl,l,hq,List.Perm.refl _,QStep.refl _ _⟩
 case round =>
  obtain ⟨k,hk,rfl,l1,⟨hb,v,hcell,hne,hown⟩,hperm,hbel⟩:=hrel
  have hl1:=hperm.length_eq
  have Hl:=h'd hl1
  have hle:n≤l1.length:=by omega
  have hle2:l1.length≤1099511627776:=by omega
  clear hl1
  have hql:=lt_of_block hcell
  have hc0:=cell_of_one hcell
  have Hcell:=h'd hcell
  clear hcell
  by_cases hj:2*k+1<n
  ·have hm1:=fun (m:Nat) (W:World)=>meth_less m q v W
   have hm2:=fun (m:Nat) (W:World)=>meth_swap m q v W
   by_cases hj2:2*k+2<n
   ·go_wp2_with fail
    refine Calls.mono (qless_any base (2*k+2) (2*k+1) _ _ (by omega) (by omega) l1 v _ (by omega) (by omega) hown hle2) ?_
    rintro e w2 ⟨b1,n1,rfl,rfl⟩
    cases b1
    ·go_wp2_with fail
     refine Calls.mono (qless_any base (2*k+1) k _ _ (by omega) (by omega) l1 v _ (by omega) (by omega) hown hle2) ?_
     rintro e w2 ⟨b2,n2,rfl,rfl⟩
     cases b2
     ·go_wp2_with fail
      go_ret
      exact ⟨_,rfl,l1,⟨hb,v,Hcell.out,hne,hown⟩,hperm,hbel.drewN _⟩
     ·go_wp2_with fail
      refine Calls.mono (qswap_int base q k (2*k+1) _ _ (by omega) (by omega) l1 v _ hb Hcell.out hne hown (by omega) (by omega) hle2) ?_
      rintro e w2 ⟨rfl,hQ⟩
      go_wp2_with fail
      go_roundw
      case rel=>exact ⟨2*k+1,by omega,by go_num,Queued.on hperm (hbel.drewN _) hQ⟩
      case measure=>simp[intOf];omega
    ·go_wp2_with fail
     refine Calls.mono (qless_any base (2*k+2) k _ _ (by omega) (by omega) l1 v _ (by omega) (by omega) hown hle2) ?_
     rintro e w2 ⟨b2,n2,rfl,rfl⟩
     cases b2
     ·go_wp2_with fail
      go_ret
      exact ⟨_,rfl,l1,⟨hb,v,Hcell.out,hne,hown⟩,hperm,hbel.drewN _⟩
     ·go_wp2_with fail
      refine Calls.mono (qswap_int base q k (2*k+2) _ _ (by omega) (by omega) l1 v _ hb Hcell.out hne hown (by omega) (by omega) hle2) ?_
      rintro e w2 ⟨rfl,hQ⟩
      go_wp2_with fail
      go_roundw
      case rel=>exact ⟨2*k+2,by omega,by go_num,Queued.on hperm (hbel.drewN _) hQ⟩
      case measure=>simp[intOf];omega
   ·go_wp2_with fail
    refine Calls.mono (qless_any base (2*k+1) k _ _ (by omega) (by omega) l1 v _ (by omega) (by omega) hown hle2) ?_
    rintro e w2 ⟨b2,n2,rfl,rfl⟩
    cases b2
    ·go_wp2_with fail
     go_ret
     exact ⟨_,rfl,l1,⟨hb,v,Hcell.out,hne,hown⟩,hperm,hbel.drewN _⟩
    ·go_wp2_with fail
     refine Calls.mono (qswap_int base q k (2*k+1) _ _ (by omega) (by omega) l1 v _ hb Hcell.out hne hown (by omega) (by omega) hle2) ?_
     rintro e w2 ⟨rfl,hQ⟩
     go_wp2_with fail
     go_roundw
     case rel=>exact ⟨2*k+1,by omega,by go_num,Queued.on hperm (hbel.drewN _) hQ⟩
     case measure=>simp[intOf];omega
  ·go_wp2_with fail
   go_ret
   exact ⟨_,rfl,l1,⟨hb,v,Hcell.out,hne,hown⟩,hperm,hbel⟩
set_option maxHeartbeats 1000000 in
theorem hup_any (base q j:Nat) (l:List Ent) (w:World) (hq:QueueAt w base q l) (hj:j<l.length) (hn:l.length≤1099511627776) :
  Calls Tryz.prog 165 #[.iface 221 (.pointer (some ⟨q,0,none⟩)),.int .i64 j] w fun e w'=>e=.returned (.tuple #[])∧Queued w w' base q l:=by
 go_enter Tryz.func165,Tryz.ntmps165
 go_wp2_with fail
 go_loopw [1] (fun i wr=>∃ k:Nat,k<l.length∧i=.int .i64 k∧Queued w wr base q l) (fun i _=>(intOf i).toNat)
 case atStart=>exact ⟨j,hj,rfl,l,hq,List.Perm.refl _,QStep.refl _ _⟩
 case round =>
  obtain ⟨k,hk,rfl,l1,⟨hb,v,hcell,hne,hown⟩,hperm,hbel⟩:=hrel
  have hl1:=hperm.length_eq
  have Hl:=h'd hl1
  have hle:k<l1.length:=by omega
  have hle2:l1.length≤1099511627776:=by omega
  clear hl1
  have hql:=lt_of_block hcell
  have hc0:=cell_of_one hcell
  have Hcell:=h'd hcell
  clear hcell
  by_cases hk0:k=0
  ·subst hk0
   go_wp2_with fail
   go_end0
   exact ⟨rfl,l1,⟨hb,v,Hcell.out,hne,hown⟩,hperm,hbel⟩
  ·have hm1:=fun (m:Nat) (W:World)=>meth_less m q v W
   have hm2:=fun (m:Nat) (W:World)=>meth_swap m q v W
   have hdiv:((k:Int)-1) / 2=(((k-1) / 2:Nat):Int):=by omega
   have heq:((((k:Int)-1) / 2)==(k:Int))=false:=by rw[beq_eq_false_iff_ne];omega
   go_wp2_with fail
   refine Calls.mono (qless_any base k ((k-1) / 2) _ _ (by omega) (by omega) l1 v _ (by omega) (by omega) hown hle2) ?_
   rintro e w2 ⟨b2,n2,rfl,rfl⟩
   cases b2
   ·go_wp2_with fail
    go_end0
    exact ⟨rfl,l1,⟨hb,v,Hcell.out,hne,hown⟩,hperm,hbel.drewN _⟩
   ·go_wp2_with fail
    refine Calls.mono (qswap_int base q ((k-1) / 2) k _ _ (by omega) (by omega) l1 v _ hb Hcell.out hne hown (by omega) (by omega) hle2) ?_
    rintro e w2 ⟨rfl,hQ⟩
    go_wp2_with fail
    go_roundw
    case rel=>exact ⟨(k-1) / 2,by omega,by go_num,Queued.on hperm (hbel.drewN _) hQ⟩
    case measure=>simp[intOf];omega
def Popped (w:World) (base q:Nat) (l:List Ent) (e:Ending) (w':World):Prop:=
 ∃ x l',e=.returned (.iface 223 (.agg #[.int .u64 x.1,.int .i64 x.2]))∧QueueAt w' base q l'∧(x :: l').Perm l∧QStep w w' q
set_option maxHeartbeats 400000 in
theorem hpop_any (base q:Nat) (l:List Ent) (w:World) (hq:QueueAt w base q l) (h0:0<l.length) (hn:l.length≤1099511627776) :
  Calls Tryz.prog 132 #[.iface 221 (.pointer (some ⟨q,0,none⟩))] w (Popped w base q l):=by
 obtain ⟨hb,v,hcell,hne,hown⟩:=hq
 have hc0:=cell_of_one hcell
 have Hcell:=h'd hcell
 clear hcell
 obtain ⟨_,A,c,rfl,_,_,_⟩:=Sl.of_own hown
 have hm0:=fun (m:Nat) (W:World)=>meth_len m q (.slice A l.length c) W
 have hm1:=fun (m:Nat) (W:World)=>meth_swap m q (.slice A l.length c) W
 have hm2:=fun (m:Nat) (W:World)=>meth_pop m q W
 go_enter Tryz.func132,Tryz.ntmps132
 go_wp2_with fail
 refine Calls.mono (len_any _ _ _ _) ?_
 rintro e w2 ⟨rfl,rfl⟩
 go_wp2_with fail
 refine Calls.mono (qswap_int base q 0 (l.length-1) _ _ (by omega) (by omega) l _ _ hb Hcell.out hne hown (by omega) (by omega) hn) ?_
 rintro e w2 ⟨rfl,l2,hQ2,hp2,hb2⟩
 have hl2:=hp2.length_eq
 have hle2:l.length-1≤l2.length:=by omega
 have hle3:l2.length≤1099511627776:=by omega
 have Hl2:=h'd hl2
 clear hl2 hc0
 have hc2:(l.length:Int)-1=((l.length-1:Nat):Int):=by omega
 go_wp2_with fail
 refine Calls.mono (hdown_any base q (l.length-1) l2 _ hQ2 hle2 hle3) ?_
 rintro e w3 ⟨b,rfl,l3,hQ3,hp3,hb3⟩
 have hl3:=hp3.length_eq
 have hl30:l3≠[]:=by
  intro h
  rw[h,Hl2.out] at hl3
  simp at hl3;omega
 obtain ⟨l4,x,rfl⟩:∃ l4 x,l3=l4++[x]:=⟨_,_,(List.dropLast_concat_getLast hl30).symm⟩
 have hle4:l4.length≤1099511627776:=by simp at hl3;omega
 have Hl3:=h'd hl3
 clear hl3 hl30
 go_wp2_with fail
 refine Calls.mono (qpop_any base q l4 x _ hQ3 hle4) ?_
 rintro e w4 ⟨rfl,hQ4,hb4⟩
 go_wp2
 go_ret
 exact ⟨x,l4,rfl,hQ4,(List.perm_append_comm (l₁:=[x]) (l₂:=l4)).trans (hp3.trans hp2),hb2.trans (hb3.trans hb4)⟩
theorem qpush_any (base q:Nat) (l:List Ent) (x:Ent) (w:World) (hbw:base≤w.heap.size) (hq:QueueAt w base q l) (hn:l.length≤1099511627776) :
  Calls Tryz.prog 216 #[.pointer (some ⟨q,0,none⟩),.iface 223 (.agg #[.int .u64 x.1,.int .i64 x.2])] w
   fun e w'=>e=.returned (.tuple #[])∧QueueAt w' base q (l++[x])∧QStep w w' q:=by
 go_enter Tryz.func216,Tryz.ntmps216
 go_wp2_with fail
 refine Calls.mono (qadd_any base q l x _ hbw hq hn) ?_
 rintro e w2 ⟨rfl,hQ,hB⟩
 go_wp2_with fail
 go_end0
 exact ⟨rfl,hQ,hB⟩
def Pushed (w:World) (base q:Nat) (l:List Ent) (x:Ent) (e:Ending) (w':World):Prop:=
 e=.returned (.tuple #[])∧∃ l',QueueAt w' base q l'∧l'.Perm (x :: l)∧QStep w w' q
set_option maxHeartbeats 400000 in
theorem hpush_any (base q:Nat) (l:List Ent) (x:Ent) (w:World) (hbw:base≤w.heap.size) (hq:QueueAt w base q l) (hn:l.length<1099511627776) :
  Calls Tryz.prog 133 #[.iface 221 (.pointer (some ⟨q,0,none⟩)),.iface 223 (.agg #[.int .u64 x.1,.int .i64 x.2])] w (Pushed w base q l x):=by
 have hm1:=fun (m:Nat) (W:World)=>meth_push m q W
 go_enter Tryz.func133,Tryz.ntmps133
 go_wp2_with fail
 refine Calls.mono (qpush_any base q l x _ hbw hq (Nat.le_of_lt hn)) ?_
 rintro e w2 ⟨rfl,hQ2,hb2⟩
 obtain ⟨hb,v,hcell,hne,hown⟩:=hQ2
 have hc0:=cell_of_one hcell
 have Hcell:=h'd hcell
 clear hcell
 obtain ⟨_,A,c,rfl,_,_,_⟩:=Sl.of_own hown
 have hm0:=fun (m:Nat) (W:World)=>meth_len m q (.slice A (l++[x]).length c) W
 have hlen:(l++[x]).length=l.length+1:=by simp
 have hle:(l++[x]).length≤1099511627776:=by rw[hlen];omega
 have hpos:0<(l++[x]).length:=by rw[hlen];omega
 have hperm:(l++[x]).Perm (x :: l):=List.perm_append_comm
 clear hlen
 generalize l++[x]=l2 at *
 go_wp2_with fail
 refine Calls.mono (len_any _ _ _ _) ?_
 rintro e w3 ⟨rfl,rfl⟩
 have hc2:(l2.length:Int)-1=((l2.length-1:Nat):Int):=by omega
 go_wp2_with fail
 refine Calls.mono (hup_any base q (l2.length-1) l2 _ ⟨hb,_,Hcell.out,hne,hown⟩ (by omega) hle) ?_
 rintro e w4 ⟨rfl,l3,hQ3,hp3,hb3⟩
 go_wp2_with fail
 go_end0
 exact ⟨rfl,l3,hQ3,hp3.trans hperm,hb2.trans hb3⟩
end Go.Proofs.YtcknpofnpabkiaaGreat
