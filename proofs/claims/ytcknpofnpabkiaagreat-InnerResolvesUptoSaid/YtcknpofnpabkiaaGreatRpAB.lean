/- Hops are joined; numbers are compared; ways as rows. -/
import Derived.Test.YtcknpofnpabkiaaGreatProg
import Derived.Laws.StructEq
import Derived.StillTailTactics
import Derived.Test.YtcknpofnpabkiaaGreatRpAA
set_option maxRecDepth 100000
namespace Go.Proofs.YtcknpofnpabkiaaGreat
open Go.RowKit Go.Lo
theorem hopT:ElT Tryz.prog 46 56 3 12:=⟨by kernel_rfl,by
 obtain ⟨i,hi,h1,h2,h3⟩:=info_parts (show (Tryz.prog.info? 56).map (fun i=>(i.zero,i.size,i.bytes))=some (some (.agg #[.int .u32 0,.int .u32 0,.bool false]),3,12) by kernel_rfl)
 exact ⟨i,_,hi,h1,h2,h3,rfl⟩,by omega⟩
set_option maxHeartbeats 400000 in
theorem before_any (a b:Hop) (w:World) :
  Calls Tryz.prog 106 #[.agg #[.int .u32 a.1,.int .u32 a.2.1,.bool a.2.2],.agg #[.int .u32 b.1,.int .u32 b.2.1,.bool b.2.2]] w
   fun e w'=>e=.returned (.bool (hopLt a b))∧Below w.heap.size w w':=by
 obtain ⟨a1,a2,a3⟩:=a
 obtain ⟨b1,b2,b3⟩:=b
 go_enter Tryz.func106,Tryz.ntmps106
 go_wp2
 all_goals go_ret
 all_goals refine ⟨?_,((b'r _ _).alloc (n'r _) _).alloc (by simp) _⟩
 all_goals simp[hopLt, *]
set_option maxHeartbeats 400000 in
theorem eql_hop (a b:Hop) (w:World):(binOp .eql 56 (.agg #[.int .u32 a.1,.int .u32 a.2.1,.bool a.2.2]) (.agg #[.int .u32 b.1,.int .u32 b.2.1,.bool b.2.2])).run Tryz.prog w=.ok (.bool (decide (a=b))) w:=by
 rw[run_eql_struct,run_equalIn_agg _ _ _ _ _ (by kernel_rfl) (by kernel_rfl)]
 go_simp
 obtain ⟨a1,a2,a3⟩:=a
 obtain ⟨b1,b2,b3⟩:=b
 by_cases h1:a1=b1 <;> by_cases h2:a2=b2 <;> by_cases h3:a3=b3 <;> simp[h1,h2,h3]
def HPutRel (base:Nat) (w:World) (lv:Value) (l more:List Hop) (k:Nat) (v:Value) (wr:World):Prop:=
 wr.ownsRow base 56 3 v (puts l (more.take k)).length ((puts l (more.take k)).flatMap hopCells)∧w.grownBy wr lv.ownBlock∧(v.ownBlock=lv.ownBlock∨∃ g,v.ownBlock=some g∧w.heap.size≤g)
set_option maxHeartbeats 400000 in
theorem hput_any (base:Nat) (lv:Value) (l more:List Hop) (mv:Value) (w:World) (hbase:base≤w.heap.size)
  (hown:w.ownsRow base 56 3 lv l.length (l.flatMap hopCells)) (hmv:Sl w w.heap.size 3 mv more.length (more.flatMap hopCells)) (hne:0<more.length→mv.ownBlock=none∨mv.ownBlock≠lv.ownBlock)
  (hn:l.length+more.length≤1000000) :
  Calls Tryz.prog 65 #[lv,mv] w
   fun e w'=>∃ v,e=.returned v∧HPutRel base w lv l more more.length v w':=by
 obtain ⟨_,A,c,rfl,_,_,hat⟩:=hmv
 go_enter Tryz.func65,Tryz.ntmps65
 go_wp2
 go_loopw [0,10] (fun v i wr=>∃ k:Nat,k≤more.length∧i=.int .i64 k∧HPutRel base w lv l more k v wr) (fun _ i _=>more.length-(intOf i).toNat)
 case atStart=>exact ⟨0,Nat.zero_le _,rfl,by simpa[puts] using hown,World.grownBy.refl _ _,.inl rfl⟩
 case round =>
  obtain ⟨k,hk,rfl,hrel⟩:=hrel
  obtain ⟨w1,rfl⟩:∃ x:World,x=wr:=⟨_,rfl⟩
  by_cases hlt:k<more.length
  ·obtain ⟨b,off,rfl,hb,hc⟩:=hat (by omega)
   obtain ⟨hown1,hgr1,hob1⟩:=hrel
   have hcw:∀ j,w1.cell? ⟨b,off+j,none⟩=w.cell? ⟨b,off+j,none⟩:=fun j=>hgr1.cell_far _ hb (by rcases hne (by omega) with h | h <;> simp[Value.ownBlock] at h ⊢;exact h)
   have hget:∀ j u,(hopCells more[k])[j]?=some u→w1.cell? ⟨b,off+(k*3+j),none⟩=some u:=fun j u hu=>by
    rw[hcw];exact hc _ _ (by rw[flat_get hopCells_len _ _ _ (List.getElem?_eq_some_iff.1 hu).1 hlt];exact hu)
   have hc0:=hget 0 _ rfl
   have hc1:=hget 1 _ rfl
   have hc2:=hget 2 _ rfl
   simp only[Nat.add_zero,←Nat.add_assoc] at hc0 hc1 hc2
   clear hget hcw
   generalize hcur:puts l (more.take k)=cur at *
   have Hcur:=h'd hcur
   clear hcur
   generalize hh:more[k]=h at *
   have Hh:=h'd hh
   clear hh
   have hcl:cur.length≤l.length+more.length:=by
    have:=puts_length l (more.take k)
    rw[Hcur.out,List.length_take] at this
    omega
   go_wp2
   have ho:=hown1.alloc (Obj.cells #[.int .u32 h.1,.int .u32 h.2.1,.bool h.2.2] 56)
   have hx0:(w1.alloc (Obj.cells #[.int .u32 h.1,.int .u32 h.2.1,.bool h.2.2] 56)).cell? ⟨w1.heap.size,0,none⟩=some (.int .u32 h.1):=by rw[World.cell?_alloc_at _ _ _ _ rfl];rfl
   have hx1:(w1.alloc (Obj.cells #[.int .u32 h.1,.int .u32 h.2.1,.bool h.2.2] 56)).cell? ⟨w1.heap.size,1,none⟩=some (.int .u32 h.2.1):=by rw[World.cell?_alloc_at _ _ _ _ rfl];rfl
   have hx2:(w1.alloc (Obj.cells #[.int .u32 h.1,.int .u32 h.2.1,.bool h.2.2] 56)).cell? ⟨w1.heap.size,2,none⟩=some (.bool h.2.2):=by rw[World.cell?_alloc_at _ _ _ _ rfl];rfl
   have hbo:Below w1.heap.size w1 (w1.alloc (Obj.cells #[.int .u32 h.1,.int .u32 h.2.1,.bool h.2.2] 56)):=(b'r _ _).alloc (n'r _) _
   have hso:w1.heap.size<(w1.alloc (Obj.cells #[.int .u32 h.1,.int .u32 h.2.1,.bool h.2.2] 56)).heap.size:=by simp
   generalize w1.alloc (Obj.cells #[.int .u32 h.1,.int .u32 h.2.1,.bool h.2.2] 56)=wo at *
   go_loopw [7] (fun a wi=>∃ j:Nat,j≤cur.length∧a=.int .i64 j∧(∀ i (hi:i<cur.length),i<j→hopLt cur[i] h=true)∧Below wo.heap.size wo wi) (fun a _=>cur.length-(intOf a).toNat)
   case atStart=>exact ⟨0,Nat.zero_le _,rfl,fun _ _ h=>absurd h (by omega),b'r _ _⟩
   case round =>
    obtain ⟨j,hj,rfl,hall,hbi⟩:=hrel
    obtain ⟨wi,rfl⟩:∃ x:World,x=wr:=⟨_,rfl⟩
    have hoi:=own_below ho hbi
    have hy0:=(hbi.cell (p:=⟨w1.heap.size,0,none⟩) hso).trans hx0
    have hy1:=(hbi.cell (p:=⟨w1.heap.size,1,none⟩) hso).trans hx1
    have hy2:=(hbi.cell (p:=⟨w1.heap.size,2,none⟩) hso).trans hx2
    clear hx0 hx1 hx2
    by_cases hjl:j<cur.length
    ·obtain ⟨g,cap,rfl,hcap,hbg,hg,hfz,hrow⟩:=own_row hopCells_len hoi hjl
     have hr0:=hrow 0 _ rfl
     have hr1:=hrow 1 _ rfl
     have hr2:=hrow 2 _ rfl
     simp only[Nat.add_zero] at hr0 hr1 hr2
     clear hrow hat hc
     cases hbool:hopLt cur[j] h with
     | true =>
      have Hb:=h'd hbool
      clear hbool
      go_wp2
      go_still_tail 10,(by kernel_rfl)
      go_wp2_with (go_at_call 106;refine (before_any cur[j] h _).mono ?_;rintro e w2 ⟨rfl,hb2'⟩;have hb2:Below wi.heap.size wi w2:=below_of_drew hb2';clear hb2';rw[Hb.out])
      go_roundw
      case rel=>exact ⟨j+1,by omega,by go_num,fun i hi hij=>by
             by_cases e:i=j
             ·subst e;exact Hb.out
             ·exact hall i hi (by omega),hbi.trans (hb2.mono (by have:=hbi.size;omega))⟩
      case measure=>simp[intOf];omega
     | false =>
      have Hb:=h'd hbool
      clear hbool
      go_wp2
      go_still_tail 10,(by kernel_rfl)
      go_wp2_with (go_at_call 106;refine (before_any cur[j] h _).mono ?_;rintro e w2 ⟨rfl,hb2'⟩;have hb2:Below wi.heap.size wi w2:=below_of_drew hb2';clear hb2';rw[Hb.out])
      have hsw:w1.heap.size<wi.heap.size:=by have:=hbi.size;omega
      have hz0:=(hb2.cell (p:=⟨w1.heap.size,0,none⟩) hsw).trans hy0
      have hz1:=(hb2.cell (p:=⟨w1.heap.size,1,none⟩) hsw).trans hy1
      have hz2:=(hb2.cell (p:=⟨w1.heap.size,2,none⟩) hsw).trans hy2
      have hs0:=(hb2.cell (p:=⟨g,j*3,none⟩) hg).trans hr0
      have hs1:=(hb2.cell (p:=⟨g,j*3+1,none⟩) hg).trans hr1
      have hs2:=(hb2.cell (p:=⟨g,j*3+2,none⟩) hg).trans hr2
      have ho2:=own_below hoi hb2
      have hbw:Below w1.heap.size w1 w2:=hbo.trans ((hbi.mono (by omega)).trans (hb2.mono (by omega)))
      have hsz:wi.heap.size≤w2.heap.size:=hb2.size
      clear hb2 hy0 hy1 hy2 hr0 hr1 hr2
      by_cases hq:cur[j]=h
      ·have heq:=fun W=>eql_hop cur[j] h W
       rw[d't hq] at heq
       have Hq:=h'd hq
       clear hq
       go_quiet (fail)
       go_wp2
       go_roundw
       case rel =>
        have hins:ins cur h=cur:=ins_at (insAt_of hj hall (fun _=>Hb.out)) hjl Hq.out
        have hpt:puts l (more.take (k+1))=cur:=by rw[puts_take _ _ _ hlt,Hcur.out,Hh.out,hins]
        refine ⟨k+1,by omega,by go_num,?_⟩
        unfold HPutRel
        rw[hpt]
        exact ⟨ho2,grown_trans hgr1 (grown_of_below (below_drewN hbw _) _),hob1⟩
       case measure=>simp[intOf];omega
      ·have heq:=fun W=>eql_hop cur[j] h W
       rw[d'f hq] at heq
       have Hq:=h'd hq
       clear hq
       go_quiet (fail)
       have hins:=insAt_of hj hall (fun _=>Hb.out)
       have hne3:∀ hi:j<cur.length,cur[j]≠h:=fun _=>Hq.out
       have ho3:(w2.drewN nq).ownsRow base 56 3 (.slice (some ⟨g,0,none⟩) cur.length cap) cur.length (cur.flatMap hopCells):=ho2
       have hb3:Below w1.heap.size w1 (w2.drewN nq):=below_drewN hbw nq
       have hz0:(w2.drewN nq).cell? ⟨w1.heap.size,0,none⟩=some (.int .u32 h.1):=hz0
       have hz1:(w2.drewN nq).cell? ⟨w1.heap.size,1,none⟩=some (.int .u32 h.2.1):=hz1
       have hz2:(w2.drewN nq).cell? ⟨w1.heap.size,2,none⟩=some (.bool h.2.2):=hz2
       have hs3:w1.heap.size<(w2.drewN nq).heap.size:=by simp;omega
       clear ho2 hbw hs0 hs1 hs2 heq
       have Hins:=h'd hins
       clear hins
       generalize w2.drewN nq=w3 at *
       go_wp2_with (at_builtin;refine wpList_append rfl (.tmp 40) (.tmp 42) 46 rfl base hopT _ cur.length (cur.flatMap hopCells) rfl (ho3.alloc _) _ _ 1 [.int .u32 0,.int .u32 0,.bool false] rfl (Sl.lit w3 #[.int .u32 0,.int .u32 0,.bool false] 56 (by simp[maxLen]) rfl) (by simp[Value.oneCell']) (by simp only[maxLen];omega) (by omega) (by have:=hb3.size;have:=hgr1.size;simp;omega) ?_;intro v4 w4 hown4 hgr4 hob4)
       have hvl:=fun q hq=>(hown1.lt q hq).2
       have hpos4:0<cur.length+1:=by omega
       obtain ⟨g4,cap4,rfl,hbg4,hg4⟩:=hown4.form hpos4
       clear hpos4
       have hcap4:cur.length+1≤cap4:=own_cap hown4
       have hj4:¬ cap4=j:=by omega
       have hr4:(Value.slice (some ⟨g4,0,none⟩) (cur.length+1) cap4).ownBlock=lv.ownBlock∨∃ q,(Value.slice (some ⟨g4,0,none⟩) (cur.length+1) cap4).ownBlock=some q∧w.heap.size≤q:=by
        rcases hob4 with h4 | h4
        ·rw[h4];exact hob1
        ·exact .inr ⟨_,h4,by have:=hgr1.size;have:=hb3.size;simp;omega⟩
       have hg4ne:w1.heap.size≠g4:=by
        rcases hob4 with h4 | h4
        ·have:=hvl g4 h4.symm;omega
        ·have h4':some g4=some _:=h4
         simp at h4';omega
       have hgw4:w.grownBy w4 lv.ownBlock:=grown_step (grown_trans hgr1 (grown_of_below (hb3.alloc (by omega) _) _)) hgr4 (Or.imp_right Or.inr hob1)
       have hs34:w1.heap.size<(w3.alloc (Obj.cells #[.int .u32 0,.int .u32 0,.bool false] 56)).heap.size:=by simp;omega
       have hx0:=(hgr4.cell_far ⟨w1.heap.size,0,none⟩ hs34 (fun e=>absurd (hvl _ e.symm) (Nat.lt_irrefl _))).trans ((World.cell?_alloc_lt _ _ _ hs3).trans hz0)
       have hx1:=(hgr4.cell_far ⟨w1.heap.size,1,none⟩ hs34 (fun e=>absurd (hvl _ e.symm) (Nat.lt_irrefl _))).trans ((World.cell?_alloc_lt _ _ _ hs3).trans hz1)
       have hx2:=(hgr4.cell_far ⟨w1.heap.size,2,none⟩ hs34 (fun e=>absurd (hvl _ e.symm) (Nat.lt_irrefl _))).trans ((World.cell?_alloc_lt _ _ _ hs3).trans hz2)
       have hs4:w1.heap.size<w4.heap.size:=by have:=hgr4.size;simp at this;omega
       clear hz0 hz1 hz2 hgr4 hob4 hvl
       have hq1:IntKind.i64.wrap ((j:Int)+1)=(j:Int)+1:=IntWalk.i64_in _ (by omega)
       have hq2:(0:Int)≤(j:Int)+1:=by omega
       have hq3:((j:Int)+1).toNat=j+1:=by omega
       have hq4:(j:Int)≤(cur.length:Int)+1:=by omega
       have hq5:j≤cur.length+1:=by omega
       go_still_tail 7,(by kernel_rfl)
       clear hq1 hq2 hq3 hq4 hq5
       have hflen:=flat_len hopCells_len cur
       have hdlen:((cur.drop j).flatMap hopCells).length=(cur.length-j)*3:=by rw[flat_len hopCells_len,List.length_drop]
       refine wpList_copy_row rfl (.tmp 47) (.tmp 50) 46 46 rfl hopT _ _ _ _ _ _ rfl rfl (k:=(j+1)*3) (m:=cur.length-j) hown4.drew ((cur.drop j).flatMap hopCells) (by show _=min _ _;omega) hdlen (fun hm=>⟨if_neg (by omega),_,rfl,fun i u hu => ?_⟩) (fun _=>by split <;> simp) (by rw[hdlen];omega) hops_oneCell ?_
       ·have hil:i<(cur.length-j)*3:=by have:=(List.getElem?_eq_some_iff.1 hu).1;omega
        have:(⟨g4,j*3,none⟩:Addr).add i=⟨g4,j*3+i,none⟩:=addr_add _ _ _
        rw[this]
        show w4.cell? _=_
        rw[hown4.cellAt _ (by omega),List.getElem?_append_left (by omega),←hu,←flat_drop hopCells_len,List.getElem?_drop]
       intro w5 hown5 hgr5
       have hy0:=(hgr5.cell_far ⟨w1.heap.size,0,none⟩ hs4 (by simpa using hg4ne)).trans hx0
       have hy1:=(hgr5.cell_far ⟨w1.heap.size,1,none⟩ hs4 (by simpa using hg4ne)).trans hx1
       have hy2:=(hgr5.cell_far ⟨w1.heap.size,2,none⟩ hs4 (by simpa using hg4ne)).trans hx2
       have hgw5:w.grownBy w5 lv.ownBlock:=grown_step hgw4 (show w4.grownBy w5 _ from ⟨hgr5.os,hgr5.tape,hgr5.output,hgr5.size,hgr5.block⟩) (Or.imp_right Or.inr hr4)
       clear hx0 hx1 hx2 hflen hdlen hj4
       go_wp2_with (refine wpList_store_own rfl 56 (.tmp 55) (.tmp 54) rfl (k:=j*3) (hopCells h) rfl rfl hown5 rfl (by kernel_rfl) (by simp[hopCells,Value.oneCell']) (by simp only[hopCells_len];omega) ?_;intro w6 hown6 hgr6)
       go_roundw
       case rel =>
        have hpt:puts l (more.take (k+1))=cur.take j++h :: cur.drop j:=by rw[puts_take _ _ _ hlt,Hcur.out,Hh.out,ins_new Hins.out hne3]
        have hpl:(cur.take j++h :: cur.drop j).length=cur.length+1:=by simp only[l'a,List.length_take,List.length_cons,List.length_drop];omega
        refine ⟨k+1,by omega,by go_num,?_⟩
        unfold HPutRel
        rw[hpt,hpl,←flat_insert hopCells_len cur [.int .u32 0,.int .u32 0,.bool false] rfl j hj h]
        exact ⟨hown6,grown_step hgw5 hgr6 (Or.imp_right Or.inr hr4),hr4⟩
       case measure=>simp[intOf];omega
    ·obtain rfl:j=cur.length:=by omega
     have hins:=insAt_of hj hall (fun hi=>absurd hi (by omega))
     have hne3:∀ hi:cur.length<cur.length,cur[cur.length]≠h:=fun hi=>absurd hi (by omega)
     have Hins:=h'd hins
     clear hins
     obtain ⟨_,A0,c0,rfl,_,_,_⟩:=Sl.of_own hoi
     go_wp2
     go_quiet (fail)
     obtain ⟨n1,rfl⟩:∃ x,x=nq:=⟨_,rfl⟩
     go_wp2_with fail
     go_quiet (fail)
     have ho3:((wi.drewN n1).drewN nq).ownsRow base 56 3 (.slice A0 cur.length c0) cur.length (cur.flatMap hopCells):=hoi
     have hb3:Below w1.heap.size w1 ((wi.drewN n1).drewN nq):=below_drewN (below_drewN (hbo.trans (hbi.mono (by omega))) n1) nq
     have hz0:((wi.drewN n1).drewN nq).cell? ⟨w1.heap.size,0,none⟩=some (.int .u32 h.1):=hy0
     have hz1:((wi.drewN n1).drewN nq).cell? ⟨w1.heap.size,1,none⟩=some (.int .u32 h.2.1):=hy1
     have hz2:((wi.drewN n1).drewN nq).cell? ⟨w1.heap.size,2,none⟩=some (.bool h.2.2):=hy2
     have hs3:w1.heap.size<((wi.drewN n1).drewN nq).heap.size:=by have:=hbi.size;simp;omega
     clear hy0 hy1 hy2 hat hc
     generalize (wi.drewN n1).drewN nq=w3 at *
     go_wp2_with (at_builtin;refine wpList_append rfl (.tmp 40) (.tmp 42) 46 rfl base hopT _ cur.length (cur.flatMap hopCells) rfl (ho3.alloc _) _ _ 1 [.int .u32 0,.int .u32 0,.bool false] rfl (Sl.lit w3 #[.int .u32 0,.int .u32 0,.bool false] 56 (by simp[maxLen]) rfl) (by simp[Value.oneCell']) (by simp only[maxLen];omega) (by omega) (by have:=hb3.size;have:=hgr1.size;simp;omega) ?_;intro v4 w4 hown4 hgr4 hob4)
     have hvl:=fun q hq=>(hown1.lt q hq).2
     have hpos4:0<cur.length+1:=by omega
     obtain ⟨g4,cap4,rfl,hbg4,hg4⟩:=hown4.form hpos4
     clear hpos4
     have hcap4:cur.length+1≤cap4:=own_cap hown4
     have hj4:¬ cap4=cur.length:=by omega
     have hr4:(Value.slice (some ⟨g4,0,none⟩) (cur.length+1) cap4).ownBlock=lv.ownBlock∨∃ q,(Value.slice (some ⟨g4,0,none⟩) (cur.length+1) cap4).ownBlock=some q∧w.heap.size≤q:=by
      rcases hob4 with h4 | h4
      ·rw[h4];exact hob1
      ·exact .inr ⟨_,h4,by have:=hgr1.size;have:=hb3.size;simp;omega⟩
     have hg4ne:w1.heap.size≠g4:=by
      rcases hob4 with h4 | h4
      ·have:=hvl g4 h4.symm;omega
      ·have h4':some g4=some _:=h4
       simp at h4';omega
     have hgw4:w.grownBy w4 lv.ownBlock:=grown_step (grown_trans hgr1 (grown_of_below (hb3.alloc (by omega) _) _)) hgr4 (Or.imp_right Or.inr hob1)
     have hs34:w1.heap.size<(w3.alloc (Obj.cells #[.int .u32 0,.int .u32 0,.bool false] 56)).heap.size:=by simp;omega
     have hx0:=(hgr4.cell_far ⟨w1.heap.size,0,none⟩ hs34 (fun e=>absurd (hvl _ e.symm) (Nat.lt_irrefl _))).trans ((World.cell?_alloc_lt _ _ _ hs3).trans hz0)
     have hx1:=(hgr4.cell_far ⟨w1.heap.size,1,none⟩ hs34 (fun e=>absurd (hvl _ e.symm) (Nat.lt_irrefl _))).trans ((World.cell?_alloc_lt _ _ _ hs3).trans hz1)
     have hx2:=(hgr4.cell_far ⟨w1.heap.size,2,none⟩ hs34 (fun e=>absurd (hvl _ e.symm) (Nat.lt_irrefl _))).trans ((World.cell?_alloc_lt _ _ _ hs3).trans hz2)
     have hs4:w1.heap.size<w4.heap.size:=by have:=hgr4.size;simp at this;omega
     clear hz0 hz1 hz2 hgr4 hob4 hvl
     have hq1:IntKind.i64.wrap ((cur.length:Int)+1)=(cur.length:Int)+1:=IntWalk.i64_in _ (by omega)
     have hq2:(0:Int)≤(cur.length:Int)+1:=by omega
     have hq3:((cur.length:Int)+1).toNat=cur.length+1:=by omega
     have hq4:(cur.length:Int)≤(cur.length:Int)+1:=by omega
     have hq5:cur.length≤cur.length+1:=by omega
     go_still_tail 7,(by kernel_rfl)
     clear hq1 hq2 hq3 hq4 hq5
     have hflen:=flat_len hopCells_len cur
     have hdlen:((cur.drop cur.length).flatMap hopCells).length=(cur.length-cur.length)*3:=by rw[flat_len hopCells_len,List.length_drop]
     refine wpList_copy_row rfl (.tmp 47) (.tmp 50) 46 46 rfl hopT _ _ _ _ _ _ rfl rfl (k:=(cur.length+1)*3) (m:=cur.length-cur.length) hown4.drew ((cur.drop cur.length).flatMap hopCells) (by show _=min _ _;omega) hdlen (fun hm=>⟨if_neg (by omega),_,rfl,fun i u hu => ?_⟩) (fun _=>by split <;> simp) (by rw[hdlen];omega) hops_oneCell ?_
     ·have hil:i<(cur.length-cur.length)*3:=by have:=(List.getElem?_eq_some_iff.1 hu).1;omega
      have:(⟨g4,cur.length*3,none⟩:Addr).add i=⟨g4,cur.length*3+i,none⟩:=addr_add _ _ _
      rw[this]
      show w4.cell? _=_
      rw[hown4.cellAt _ (by omega),List.getElem?_append_left (by omega),←hu,←flat_drop hopCells_len,List.getElem?_drop]
     intro w5 hown5 hgr5
     have hy0:=(hgr5.cell_far ⟨w1.heap.size,0,none⟩ hs4 (by simpa using hg4ne)).trans hx0
     have hy1:=(hgr5.cell_far ⟨w1.heap.size,1,none⟩ hs4 (by simpa using hg4ne)).trans hx1
     have hy2:=(hgr5.cell_far ⟨w1.heap.size,2,none⟩ hs4 (by simpa using hg4ne)).trans hx2
     have hgw5:w.grownBy w5 lv.ownBlock:=grown_step hgw4 (show w4.grownBy w5 _ from ⟨hgr5.os,hgr5.tape,hgr5.output,hgr5.size,hgr5.block⟩) (Or.imp_right Or.inr hr4)
     clear hx0 hx1 hx2 hflen hdlen hj4
     go_wp2_with (refine wpList_store_own rfl 56 (.tmp 55) (.tmp 54) rfl (k:=cur.length*3) (hopCells h) rfl rfl hown5 rfl (by kernel_rfl) (by simp[hopCells,Value.oneCell']) (by simp only[hopCells_len];omega) ?_;intro w6 hown6 hgr6)
     go_roundw
     case rel =>
      have hpt:puts l (more.take (k+1))=cur.take cur.length++h :: cur.drop cur.length:=by rw[puts_take _ _ _ hlt,Hcur.out,Hh.out,ins_new Hins.out hne3]
      have hpl:(cur.take cur.length++h :: cur.drop cur.length).length=cur.length+1:=by simp only[l'a,List.length_take,List.length_cons,List.length_drop];omega
      refine ⟨k+1,by omega,by go_num,?_⟩
      unfold HPutRel
      rw[hpt,hpl,←flat_insert hopCells_len cur [.int .u32 0,.int .u32 0,.bool false] rfl cur.length (n'r _) h]
      exact ⟨hown6,grown_step hgw5 hgr6 (Or.imp_right Or.inr hr4),hr4⟩
     case measure=>simp[intOf];omega
  ·obtain rfl:k=more.length:=by omega
   obtain ⟨hown1,hgr1,hob1⟩:=hrel
   go_wp2
   go_ret
   exact ⟨_,rfl,hown1,hgr1,hob1⟩
theorem sl_notown {w:World} {B s n:Nat} {v:Value} {xs:List Value} {q:Nat} (h:Sl w B s v n xs) (hn:0<n) (hv:v.ownBlock=some q):q<B:=by
 obtain ⟨_,A,c,rfl,_,_,hat⟩:=h
 obtain ⟨b,off,rfl,hb,_⟩:=hat hn
 injection hv with hv
 rw[←hv];exact hb
def HopsPost (w:World) (l:List Hop) (e:Ending) (w':World):Prop:=
 ∃ v,e=.returned v∧w'.ownsRow w.heap.size 56 3 v l.length (l.flatMap hopCells)∧Below w.heap.size w w'
set_option maxHeartbeats 400000 in
theorem join_any (a b:List Hop) (av bv:Value) (w:World) (ha:Sl w w.heap.size 3 av a.length (a.flatMap hopCells)) (hb:Sl w w.heap.size 3 bv b.length (b.flatMap hopCells)) (hn:a.length+b.length≤500000) :
  Calls Tryz.prog 29 #[av,bv] w (HopsPost w (puts (puts [] a) b)):=by
 go_enter Tryz.func29,Tryz.ntmps29
 go_wp2_with fail
 refine c'm (hput_any w.heap.size (.slice none 0 0) [] a av _ (n'r _) (World.ownsRow_nil _ _ _ _) ha (fun _ => ?_) (by simp;omega)) ?_
 ·cases h:av.ownBlock <;> simp[Value.ownBlock]
 rintro e w1 ⟨v1,rfl,ho1,hg1,hob1⟩
 rw[List.take_length] at ho1
 have hl1:=puts_length [] a
 have hB1:Below w.heap.size w w1:=below_of_grown hg1 (n'r _) (by simp[Value.ownBlock])
 go_wp2_with fail
 refine c'm (hput_any w.heap.size v1 (puts [] a) b bv _ hB1.size ho1 ((hb.below hB1).more hB1.size) (fun hp => ?_) (by simp at hl1;omega)) ?_
 ·cases h:bv.ownBlock with
  | none=>exact .inl rfl
  | some q =>
   refine .inr fun h2 => ?_
   have:=sl_notown hb hp h
   have:=(ho1.lt q h2.symm).1
   omega
 rintro e w2 ⟨v2,rfl,ho2,hg2,hob2⟩
 rw[List.take_length] at ho2
 go_wp2
 go_ret
 exact ⟨v2,rfl,ho2,hB1.trans (below_of_grown hg2 hB1.size (fun g hg=>(ho1.lt g hg).1))⟩
end Go.Proofs.YtcknpofnpabkiaaGreat
namespace Go.Lo
open Go.RowKit
structure WayN where
 addr:Int
 bits:Int
 router:Int
 flags:Int
 kind:Int
 area:Int
 cost:Int
 far:Int
 tag:Int
 deriving DecidableEq,Inhabited
abbrev wayC (x:WayN) (hv:Value):Array Value:=#[.int .u32 x.addr,.int .u8 x.bits,.int .u32 x.router,.int .u8 x.flags,.int .u8 x.kind,.int .u32 x.area,.int .u32 x.cost,.int .u32 x.far,.int .u32 x.tag,hv]
def cmpI (a b:Int):Int:=if a<b then -1 else if b<a then 1 else 0
def orI:List Int→Int
 | []=>0
 | x :: r=>if x=0 then orI r else x
theorem orI_all:∀ (l:List Int),(∀ i (h:i<l.length),l[i]=0)→orI l=0
 | [],_=>rfl
 | x :: r,h=>by
  have h0:=h 0 (by simp)
  simp only[List.getElem_cons_zero] at h0
  unfold orI
  rw[if_pos h0]
  exact orI_all r fun i hi=>by have:=h (i+1) (by simpa using hi);simpa using this
theorem orI_at:∀ (l:List Int) (k:Nat) (hk:k<l.length),(∀ i (h:i<l.length),i<k→l[i]=0)→l[k]≠0→orI l=l[k]
 | x :: r,0,_,_,hx=>by
  simp only[List.getElem_cons_zero] at hx ⊢
  unfold orI
  rw[if_neg hx]
 | x :: r,k+1,hk,h,hx=>by
  have h0:=h 0 (by simp) (by omega)
  simp only[List.getElem_cons_zero] at h0
  simp only[List.getElem_cons_succ] at hx ⊢
  unfold orI
  rw[if_pos h0]
  exact orI_at r k (by simpa using hk) (fun i hi hik=>by have:=h (i+1) (by simpa using hi) (by omega);simpa using this) hx
end Go.Lo
namespace Go.Proofs.YtcknpofnpabkiaaGreat
open Go.RowKit Go.Lo
theorem isNaN32_any (a:Int) (w:World):Calls Tryz.prog 117 #[.int .u32 a] w fun e w'=>e=.returned (.bool false)∧w'=w:=by
 go_enter Tryz.func117,Tryz.ntmps117
 go_wp2
 go_ret
 exact ⟨by simp,rfl⟩
theorem isNaN8_any (a:Int) (w:World):Calls Tryz.prog 116 #[.int .u8 a] w fun e w'=>e=.returned (.bool false)∧w'=w:=by
 go_enter Tryz.func116,Tryz.ntmps116
 go_wp2
 go_ret
 exact ⟨by simp,rfl⟩
theorem compare32_any (a b:Int) (w:World):Calls Tryz.prog 73 #[.int .u32 a,.int .u32 b] w fun e w'=>e=.returned (.int .i64 (cmpI a b))∧w'=w:=by
 unfold cmpI
 rcases Int.lt_trichotomy a b with h | h | h
 ·rw[if_pos h]
  go_enter Tryz.func73,Tryz.ntmps73
  go_wp2_with (go_at_call 117;refine c'm (isNaN32_any _ _) ?_;rintro e w1 ⟨rfl,rfl⟩)
  go_ret
  exact ⟨rfl,rfl⟩
 ·have h1:¬ a<b:=by omega
  have h2:¬ b<a:=by omega
  rw[if_neg h1,if_neg h2]
  go_enter Tryz.func73,Tryz.ntmps73
  go_wp2_with (go_at_call 117;refine c'm (isNaN32_any _ _) ?_;rintro e w1 ⟨rfl,rfl⟩)
  go_ret
  exact ⟨rfl,rfl⟩
 ·have h1:¬ a<b:=by omega
  rw[if_neg h1,if_pos h]
  go_enter Tryz.func73,Tryz.ntmps73
  go_wp2_with (go_at_call 117;refine c'm (isNaN32_any _ _) ?_;rintro e w1 ⟨rfl,rfl⟩)
  go_ret
  exact ⟨rfl,rfl⟩
theorem compare8_any (a b:Int) (w:World):Calls Tryz.prog 72 #[.int .u8 a,.int .u8 b] w fun e w'=>e=.returned (.int .i64 (cmpI a b))∧w'=w:=by
 unfold cmpI
 rcases Int.lt_trichotomy a b with h | h | h
 ·rw[if_pos h]
  go_enter Tryz.func72,Tryz.ntmps72
  go_wp2_with (go_at_call 116;refine c'm (isNaN8_any _ _) ?_;rintro e w1 ⟨rfl,rfl⟩)
  go_ret
  exact ⟨rfl,rfl⟩
 ·have h1:¬ a<b:=by omega
  have h2:¬ b<a:=by omega
  rw[if_neg h1,if_neg h2]
  go_enter Tryz.func72,Tryz.ntmps72
  go_wp2_with (go_at_call 116;refine c'm (isNaN8_any _ _) ?_;rintro e w1 ⟨rfl,rfl⟩)
  go_ret
  exact ⟨rfl,rfl⟩
 ·have h1:¬ a<b:=by omega
  rw[if_neg h1,if_pos h]
  go_enter Tryz.func72,Tryz.ntmps72
  go_wp2_with (go_at_call 116;refine c'm (isNaN8_any _ _) ?_;rintro e w1 ⟨rfl,rfl⟩)
  go_ret
  exact ⟨rfl,rfl⟩
theorem or_any (l:List Int) (b c:Nat) (w:World) (hn:l.length≤1000) (hb:∀ i (h:i<l.length),w.cell? ⟨b,i,none⟩=some (.int .i64 l[i])) :
  Calls Tryz.prog 71 #[.slice (some ⟨b,0,none⟩) l.length c] w fun e w'=>e=.returned (.int .i64 (orI l))∧w'=w:=by
 replace hb:=h'd hb
 go_enter Tryz.func71,Tryz.ntmps71
 go_wp2_with fail
 go_loopg [8] l.length (fun m v wr=>∃ k:Nat,k≤l.length∧m=l.length-k∧v=.int .i64 k∧(∀ i (h:i<l.length),i<k→l[i]=0)∧wr=w)
 case atStart=>exact ⟨0,Nat.zero_le _,rfl,rfl,fun _ _ h=>absurd h (by omega),rfl⟩
 case round =>
  obtain ⟨k,hk,rfl,rfl,hz,rfl⟩:=hrel
  replace hz:=h'd hz
  by_cases hkl:k<l.length
  ·have ik:(k:Int)<(l.length:Int):=by omega
   have hc:=hb.out k hkl
   obtain ⟨x,hx⟩:∃ x,x=l[k]:=⟨_,rfl⟩
   rw[←hx] at hc
   by_cases h0:x=0
   ·subst h0
    replace hx:=h'd hx
    go_wp2
    go_roundg (l.length-(k+1))
    case measure=>omega
    case rel=>exact ⟨k+1,by omega,rfl,by go_num,fun i hi hik=>by
           by_cases e:i=k
           ·subst e;exact hx.out.symm
           ·exact hz.out i hi (by omega),rfl⟩
   ·have h0':(x==0)=false:=by simp[h0]
    have hr:=orI_at l k hkl hz.out (by rw[←hx];exact h0)
    rw[←hx] at hr
    replace hr:=h'd hr
    clear hx
    go_wp2
    go_ret
    exact ⟨by rw[hr.out];rfl,rfl⟩
  ·have ik:¬ (k:Int)<(l.length:Int):=by omega
   have hr:=orI_all l fun i hi=>hz.out i hi (by omega)
   go_wp2
   go_ret
   exact ⟨rfl,rfl⟩
end Go.Proofs.YtcknpofnpabkiaaGreat
namespace Go.Lo
open Go.RowKit
structure WayV where
 n:WayN
 A:Option Addr
 len:Nat
 cap:Nat
 deriving Inhabited
abbrev WayV.cells (x:WayV):Array Value:=wayC x.n (.slice x.A x.len x.cap)
def wayL (x:WayV):List Value:=[.int .u32 x.n.addr,.int .u8 x.n.bits,.int .u32 x.n.router,.int .u8 x.n.flags,.int .u8 x.n.kind,.int .u32 x.n.area,.int .u32 x.n.cost,.int .u32 x.n.far,.int .u32 x.n.tag,.slice x.A x.len x.cap]
theorem wayL_len (x:WayV):(wayL x).length=10:=rfl
end Go.Lo
namespace Go.Proofs.YtcknpofnpabkiaaGreat
open Go.RowKit Go.Lo
theorem wayT:ElT Tryz.prog 36 48 10 56:=⟨by kernel_rfl,by
 obtain ⟨i,hi,h1,h2,h3⟩:=info_parts (show (Tryz.prog.info? 48).map (fun i=>(i.zero,i.size,i.bytes))=some (some (.agg #[.int .u32 0,.int .u8 0,.int .u32 0,.int .u8 0,.int .u8 0,.int .u32 0,.int .u32 0,.int .u32 0,.int .u32 0,.slice none 0 0]),10,56) by kernel_rfl)
 exact ⟨i,_,hi,h1,h2,h3,rfl⟩,by omega⟩
set_option maxRecDepth 100000
theorem rhopT:ElT Tryz.prog 122 131 3 12:=⟨by kernel_rfl,by
 obtain ⟨i,hi,h1,h2,h3⟩:=info_parts (show (Tryz.prog.info? 131).map (fun i=>(i.zero,i.size,i.bytes))=some (some (.agg #[.int .u32 0,.int .u32 0,.bool false]),3,12) by kernel_rfl)
 exact ⟨i,_,hi,h1,h2,h3,rfl⟩,by omega⟩
set_option maxHeartbeats 400000 in
theorem refbefore_any (a b:Hop) (w:World) :
  Calls Tryz.prog 59 #[.agg #[.int .u32 a.1,.int .u32 a.2.1,.bool a.2.2],.agg #[.int .u32 b.1,.int .u32 b.2.1,.bool b.2.2]] w
   fun e w'=>e=.returned (.bool (hopLt a b))∧Below w.heap.size w w':=by
 obtain ⟨a1,a2,a3⟩:=a
 obtain ⟨b1,b2,b3⟩:=b
 go_enter Tryz.func59,Tryz.ntmps59
 go_wp2
 all_goals go_ret
 all_goals refine ⟨?_,((b'r _ _).alloc (n'r _) _).alloc (by simp) _⟩
 all_goals simp[hopLt, *]
theorem bit_any (a i:Int) (hi:0≤i∧i<32) (w:World):Calls Tryz.prog 103 #[.int .u32 a,.int .u8 i] w fun e w'=>(∃ v,e=.returned (.int .u32 v))∧w'=w:=by
 have e1:IntKind.u8.wrap (31-i)=31-i:=by show (31-i)%256=_;omega
 go_enter Tryz.func103,Tryz.ntmps103
 go_wp2
 go_ret
 exact ⟨⟨_,rfl⟩,rfl⟩
def SomeBool (w:World) (e:Ending) (w':World):Prop:=∃ q:Bool,e=.returned (.bool q)∧Below w.heap.size w w'
theorem is_any (a b:Int) (hb:0≤b∧b<256) (w:World):Calls Tryz.prog 58 #[.agg #[.int .u32 a,.int .u8 b]] w (SomeBool w):=by
 have kB:Below w.heap.size w (w.alloc (.cells #[.int .u32 a,.int .u8 b] 45)):=(b'r _ _).alloc (n'r _) _
 have k0:=Blk.new w 45 #[.int .u32 a,.int .u8 b]
 go_enter Tryz.func58,Tryz.ntmps58
 go_upto_region 1 with fail
 generalize w.alloc (.cells #[.int .u32 a,.int .u8 b] 45)=w1 at k0 kB ⊢
 have c0:=k0.cell 0
 have c1:=k0.cell 1
 simp only[q'a,q'z,q's] at c0 c1
 by_cases h:32<b
 ·go_wp2
  go_ret
  exact ⟨_,rfl,kB⟩
 ·go_wp2
  go_loopg [3] (32-b).toNat (fun m v wr=>∃ i:Int,0≤i∧i≤32∧m=(32-i).toNat∧v=.int .u8 i∧wr=w1)
  case atStart=>exact ⟨b,hb.1,by omega,rfl,rfl,rfl⟩
  case round =>
   obtain ⟨i,hi0,hi1,rfl,rfl,rfl⟩:=hrel
   by_cases hi:i<32
   ·have e1:IntKind.u8.wrap (i+1)=i+1:=by show (i+1)%256=_;omega
    go_upto_if 17 with (go_at_call 103;refine c'm (bit_any a i ⟨hi0,hi⟩ _) ?_;rintro e w2 ⟨⟨v,rfl⟩,rfl⟩)
    by_cases hv:v=0
    ·subst hv
     go_wp2
     go_roundg (32-(i+1)).toNat
     case measure=>omega
     case rel=>exact ⟨i+1,by omega,by omega,rfl,rfl,rfl⟩
    ·have hv':(v != 0)=true:=by simp[hv]
     go_wp2
     go_ret
     exact ⟨_,rfl,kB⟩
   ·go_wp2
    go_ret
    exact ⟨_,rfl,kB⟩
theorem neq_pre0 (a b:Int) (w:World):(binOp .neq 45 (.agg #[.int .u32 a,.int .u8 b]) (.agg #[.int .u32 0,.int .u8 0])).run Tryz.prog w=.ok (.bool (!(decide (a=0) && decide (b=0)))) w:=by
 rw[run_neq_struct,run_equalIn_agg _ _ _ _ _ (by kernel_rfl) (by kernel_rfl)]
 go_simp
 by_cases h1:a=0 <;> by_cases h2:b=0 <;> simp[h1,h2]
def CondB (w:World) (v:Value) (wx:World):Prop:=∃ q:Bool,v=.bool q∧Below w.heap.size w wx
def lenSum (l:List WayV):Int:=(l.map fun x=>(x.len:Int)).sum
theorem lenSum_snoc (l:List WayV) (x:WayV):lenSum (l++[x])=lenSum l+(x.len:Int):=by simp[lenSum]
theorem lenSum_le (l:List WayV):0≤lenSum l∧∀ x∈l,(x.len:Int)≤lenSum l:=by
 induction l with
 | nil=>exact ⟨by simp[lenSum],fun x hx=>by cases hx⟩
 | cons a r ih =>
  have h1:lenSum (a :: r)=(a.len:Int)+lenSum r:=by simp[lenSum]
  refine ⟨by omega,fun x hx => ?_⟩
  rcases List.mem_cons.1 hx with rfl | hx
  ·omega
  ·have:=ih.2 x hx;omega
set_option maxRecDepth 100000
set_option maxHeartbeats 400000 in
theorem eql_rhop (a b:Hop) (w:World):(binOp .eql 131 (.agg #[.int .u32 a.1,.int .u32 a.2.1,.bool a.2.2]) (.agg #[.int .u32 b.1,.int .u32 b.2.1,.bool b.2.2])).run Tryz.prog w=.ok (.bool (decide (a=b))) w:=by
 rw[run_eql_struct,run_equalIn_agg _ _ _ _ _ (by kernel_rfl) (by kernel_rfl)]
 go_simp
 obtain ⟨a1,a2,a3⟩:=a
 obtain ⟨b1,b2,b3⟩:=b
 by_cases h1:a1=b1 <;> by_cases h2:a2=b2 <;> by_cases h3:a3=b3 <;> simp[h1,h2,h3]
def RefPost (base:Nat) (w:World) (l:List Hop) (e:Ending) (w':World):Prop:=
 ∃ v,e=.returned v∧w'.ownsRow base 131 3 v l.length (l.flatMap hopCells)∧Below w.heap.size w w'
set_option maxHeartbeats 2000000 in
theorem refput_any (base:Nat) (l:List Hop) (h:Hop) (lv:Value) (w:World) (hbase:base≤w.heap.size) (hown:w.ownsRow base 131 3 lv l.length (l.flatMap hopCells)) (hn:l.length≤1000000) :
  Calls Tryz.prog 62 #[lv,.agg #[.int .u32 h.1,.int .u32 h.2.1,.bool h.2.2]] w (RefPost base w (ins l h)):=by
 have hl:=Sl.of_own hown
 have hl0:=hl
 replace hown:=h'd hown
 obtain ⟨_,A,c,rfl,hnc,_,hat⟩:=hl
 go_enter Tryz.func62,Tryz.ntmps62
 go_wp2_with fail
 have hx:Blk (w.alloc (Obj.cells #[.int .u32 h.1,.int .u32 h.2.1,.bool h.2.2] 131)) w.heap.size 131 #[.int .u32 h.1,.int .u32 h.2.1,.bool h.2.2]:=Blk.new _ _ _
 have hB0:Below w.heap.size w (w.alloc (Obj.cells #[.int .u32 h.1,.int .u32 h.2.1,.bool h.2.2] 131)):=(b'r _ _).alloc (n'r _) _
 have hz0:=hx.lt
 generalize w.alloc (Obj.cells #[.int .u32 h.1,.int .u32 h.2.1,.bool h.2.2] 131)=w0 at *
 go_loopg [5] l.length (fun m a wi=>∃ j:Nat,j≤l.length∧m=l.length-j∧a=.int .i64 j∧(∀ i (hi:i<l.length),i<j→hopLt l[i] h=true)∧Below w0.heap.size w0 wi)
 case atStart=>exact ⟨0,Nat.zero_le _,rfl,rfl,fun _ _ h=>absurd h (by omega),b'r _ _⟩
 case round =>
  obtain ⟨j,hj,rfl,rfl,hall,hbi⟩:=hrel
  obtain ⟨wi,rfl⟩:∃ x:World,x=wr:=⟨_,rfl⟩
  have Hall:=h'd hall
  clear hall
  have hxi:=hx.below hbi hz0
  have hBi:Below w.heap.size w wi:=hB0.trans (hbi.mono (by omega))
  have hy0:wi.cell? ⟨w.heap.size,0,none⟩=some (.int .u32 h.1):=hxi.cell 0
  have hy1:wi.cell? ⟨w.heap.size,1,none⟩=some (.int .u32 h.2.1):=hxi.cell 1
  have hy2:wi.cell? ⟨w.heap.size,2,none⟩=some (.bool h.2.2):=hxi.cell 2
  have hzi:=hbi.size
  by_cases hjl:j<l.length
  ·obtain ⟨b,off,rfl,hb,hc⟩:=hat (by omega)
   have hget:∀ i u,(hopCells l[j])[i]?=some u→wi.cell? ⟨b,off+(j*3+i),none⟩=some u:=fun i u hu =>
    (hBi.cell (p:=⟨b,off+(j*3+i),none⟩) hb).trans (hc _ _ (by rw[flat_get hopCells_len _ _ _ (List.getElem?_eq_some_iff.1 hu).1 hjl];exact hu))
   have hr0:=hget 0 _ rfl
   have hr1:=hget 1 _ rfl
   have hr2:=hget 2 _ rfl
   simp only[Nat.add_zero,←Nat.add_assoc] at hr0 hr1 hr2
   clear hget hc hat
   have hbw:b<wi.heap.size:=by omega
   cases hbool:hopLt l[j] h with
   | true =>
    have Hb:=h'd hbool
    clear hbool
    go_wp2_with fail
    go_still_tail 10,(by kernel_rfl)
    go_wp2_with (go_at_call 59;refine c'm (refbefore_any l[j] h _) ?_;rintro e w2 ⟨rfl,hb2'⟩;have hb2:Below wi.heap.size wi w2:=below_of_drew hb2';clear hb2';rw[Hb.out])
    go_roundg (l.length-(j+1))
    case measure=>omega
    case rel=>exact ⟨j+1,by omega,rfl,by go_num,fun i hi hij=>by
           by_cases e:i=j
           ·subst e;exact Hb.out
           ·exact Hall.out i hi (by omega),hbi.trans (hb2.mono hzi)⟩
   | false =>
    have Hb:=h'd hbool
    clear hbool
    go_wp2_with fail
    go_still_tail 10,(by kernel_rfl)
    go_wp2_with (go_at_call 59;refine c'm (refbefore_any l[j] h _) ?_;rintro e w2 ⟨rfl,hb2'⟩;have hb2:Below wi.heap.size wi w2:=below_of_drew hb2';clear hb2';rw[Hb.out])
    have hs0:=(hb2.cell (p:=⟨b,off+j*3,none⟩) hbw).trans hr0
    have hs1:=(hb2.cell (p:=⟨b,off+j*3+1,none⟩) hbw).trans hr1
    have hs2:=(hb2.cell (p:=⟨b,off+j*3+2,none⟩) hbw).trans hr2
    have hv0:=(hb2.cell (p:=⟨w.heap.size,0,none⟩) (show w.heap.size<_ by omega)).trans hy0
    have hv1:=(hb2.cell (p:=⟨w.heap.size,1,none⟩) (show w.heap.size<_ by omega)).trans hy1
    have hv2:=(hb2.cell (p:=⟨w.heap.size,2,none⟩) (show w.heap.size<_ by omega)).trans hy2
    have hB2:Below w.heap.size w w2:=hBi.trans (hb2.mono (by omega))
    have hz2:w.heap.size<w2.heap.size:=by have:=hb2.size;omega
    clear hr0 hr1 hr2 hy0 hy1 hy2 hb2
    by_cases hq:l[j]=h
    ·have heq:=fun W=>eql_rhop l[j] h W
     rw[d't hq] at heq
     have Hq:=h'd hq
     clear hq
     go_quiet (fail)
     go_wp2_with fail
     go_ret
     have hins:ins l h=l:=ins_at (insAt_of hj Hall.out (fun _=>Hb.out)) hjl Hq.out
     unfold RefPost
     rw[hins]
     exact ⟨_,rfl,own_below hown.out (below_drewN hB2 _),below_drewN hB2 _⟩
    ·have heq:=fun W=>eql_rhop l[j] h W
     rw[d'f hq] at heq
     have Hq:=h'd hq
     clear hq
     go_quiet (fail)
     have Hins:=h'd (insAt_of hj Hall.out (fun _=>Hb.out))
     have hne3:∀ hi:j<l.length,l[j]≠h:=fun _=>Hq.out
     clear hs0 hs1 hs2 heq
     have hB3:Below w.heap.size w (w2.drewN nq):=below_drewN hB2 nq
     have hv0:(w2.drewN nq).cell? ⟨w.heap.size,0,none⟩=some (.int .u32 h.1):=hv0
     have hv1:(w2.drewN nq).cell? ⟨w.heap.size,1,none⟩=some (.int .u32 h.2.1):=hv1
     have hv2:(w2.drewN nq).cell? ⟨w.heap.size,2,none⟩=some (.bool h.2.2):=hv2
     have hz3:w.heap.size<(w2.drewN nq).heap.size:=hz2
     generalize (w2.drewN nq)=w3 at *
     obtain ⟨vt,hrt,hst⟩:=take_ex rhopT (some ⟨b,off,none⟩) l.length c j hj hnc
     obtain ⟨vd,hrd,hsd⟩:=drop_ex rhopT (some ⟨b,off,none⟩) l.length c j hj hnc
     have hl3:Sl w3 w.heap.size 3 (.slice (some ⟨b,off,none⟩) l.length c) l.length (l.flatMap hopCells):=hl0.below hB3
     have ht3:=hst w3 w.heap.size _ hl3
     have Hst:=h'd hst
     have Hsd:=h'd hsd
     have hft:=flat_take hopCells_len l j
     have hfd:=flat_drop hopCells_len l j
     rw[hft] at ht3
     have Hft:=h'd hft
     have Hfd:=h'd hfd
     clear hst hsd hft hfd
     go_wp2_with (first
      | (at_builtin;refine wpList_append rfl (.tmp 34) (.tmp 37) 122 rfl w3.heap.size rhopT (.slice none 0 0) 0 [] rfl (World.ownsRow_nil _ _ _ _) w.heap.size vt j ((l.take j).flatMap hopCells) rfl ht3 hops_oneCell (by simp only[maxLen];omega) (by omega) (n'r _) ?_;intro va w4 ho4 hg4 hob4;have hB4:Below w3.heap.size w3 w4:=below_of_grown hg4 (n'r _) (by simp[Value.ownBlock]);have hx0:=(hB4.cell (p:=⟨w.heap.size,0,none⟩) hz3).trans hv0;have hx1:=(hB4.cell (p:=⟨w.heap.size,1,none⟩) hz3).trans hv1;have hx2:=(hB4.cell (p:=⟨w.heap.size,2,none⟩) hz3).trans hv2;have hz4:=hB4.size;simp only[Nat.zero_add,List.nil_append] at ho4;clear hg4 hob4 hrt ht3 hv0 hv1 hv2)
      | (at_builtin;refine wpList_append rfl (.tmp 39) (.tmp 41) 122 rfl w3.heap.size rhopT va j _ rfl (ho4.alloc _) _ _ 1 (hopCells h) rfl (Sl.lit w4 #[.int .u32 h.1,.int .u32 h.2.1,.bool h.2.2] 131 (by simp[maxLen]) rfl) (by simp[hopCells,Value.oneCell']) (by simp only[maxLen];omega) (by omega) (by simp;omega) ?_;intro vb w5 ho5 hg5 hob5;have hB5:Below w3.heap.size w3 w5:=Below.trans (hB4.alloc hz4 _) (below_of_grown hg5 (by simp;omega) (fun g hg=>(ho4.lt g hg).1));have hz5:=hB5.size;have hl5:Sl w5 w.heap.size 3 (.slice (some ⟨b,off,none⟩) l.length c) l.length (l.flatMap hopCells):=hl3.below (hB5.mono (by omega));have hd5:=Hsd.out w5 w.heap.size _ hl5;rw[Hfd.out] at hd5;clear hg5 hob5 hx0 hx1 hx2)
      | (at_builtin;refine wpList_append rfl (.tmp 43) (.tmp 46) 122 rfl w3.heap.size rhopT vb (j+1) _ rfl ho5 w.heap.size vd (l.length-j) ((l.drop j).flatMap hopCells) rfl hd5 hops_oneCell (by simp only[maxLen];omega) (by omega) hz5 ?_;intro vc w6 ho6 hg6 hob6))
     go_ret
     have hB6:Below w3.heap.size w3 w6:=hB5.trans (below_of_grown hg6 hz5 (fun g hg=>(ho5.lt g hg).1))
     have hins:=ins_new Hins.out hne3
     unfold RefPost
     rw[hins]
     have hfl:(l.take j++h :: l.drop j).length=j+1+(l.length-j):=by simp only[l'a,List.length_take,List.length_cons,List.length_drop];omega
     refine ⟨vc,rfl,?_,hB3.trans (hB6.mono (by omega))⟩
     rw[hfl,List.flatMap_append,List.flatMap_cons,←List.append_assoc]
     exact own_less ho6 (by omega)
  ·have hjn:j=l.length:=by omega
   have Hjn:=h'd hjn
   have hn1:decide (j<l.length)=false:=d'f (by omega)
   clear hjn
   go_wp2_with fail
   go_quiet (fail)
   obtain ⟨n1,rfl⟩:∃ x,x=nq:=⟨_,rfl⟩
   go_wp2_with fail
   go_quiet (fail)
   have Hins:=h'd (insAt_of hj Hall.out (fun hi=>absurd hi (by rw[Hjn.out];exact Nat.lt_irrefl _)))
   have hne3:∀ hi:j<l.length,l[j]≠h:=fun hi=>absurd hi (by rw[Hjn.out];exact Nat.lt_irrefl _)
   clear hn1
   have hB3:Below w.heap.size w ((wi.drewN n1).drewN nq):=below_drewN (below_drewN hBi n1) nq
   have hv0:((wi.drewN n1).drewN nq).cell? ⟨w.heap.size,0,none⟩=some (.int .u32 h.1):=hy0
   have hv1:((wi.drewN n1).drewN nq).cell? ⟨w.heap.size,1,none⟩=some (.int .u32 h.2.1):=hy1
   have hv2:((wi.drewN n1).drewN nq).cell? ⟨w.heap.size,2,none⟩=some (.bool h.2.2):=hy2
   have hz3:w.heap.size<((wi.drewN n1).drewN nq).heap.size:=(show w.heap.size<wi.heap.size by omega)
   generalize ((wi.drewN n1).drewN nq)=w3 at *
   obtain ⟨vt,hrt,hst⟩:=take_ex rhopT A l.length c j hj hnc
   obtain ⟨vd,hrd,hsd⟩:=drop_ex rhopT A l.length c j hj hnc
   have hl3:Sl w3 w.heap.size 3 (.slice A l.length c) l.length (l.flatMap hopCells):=hl0.below hB3
   have ht3:=hst w3 w.heap.size _ hl3
   have Hst:=h'd hst
   have Hsd:=h'd hsd
   have hft:=flat_take hopCells_len l j
   have hfd:=flat_drop hopCells_len l j
   rw[hft] at ht3
   have Hft:=h'd hft
   have Hfd:=h'd hfd
   clear hst hsd hft hfd
   go_wp2_with (first
    | (at_builtin;refine wpList_append rfl (.tmp 34) (.tmp 37) 122 rfl w3.heap.size rhopT (.slice none 0 0) 0 [] rfl (World.ownsRow_nil _ _ _ _) w.heap.size vt j ((l.take j).flatMap hopCells) rfl ht3 hops_oneCell (by simp only[maxLen];omega) (by omega) (n'r _) ?_;intro va w4 ho4 hg4 hob4;have hB4:Below w3.heap.size w3 w4:=below_of_grown hg4 (n'r _) (by simp[Value.ownBlock]);have hx0:=(hB4.cell (p:=⟨w.heap.size,0,none⟩) hz3).trans hv0;have hx1:=(hB4.cell (p:=⟨w.heap.size,1,none⟩) hz3).trans hv1;have hx2:=(hB4.cell (p:=⟨w.heap.size,2,none⟩) hz3).trans hv2;have hz4:=hB4.size;simp only[Nat.zero_add,List.nil_append] at ho4;clear hg4 hob4 hrt ht3 hv0 hv1 hv2)
    | (at_builtin;refine wpList_append rfl (.tmp 39) (.tmp 41) 122 rfl w3.heap.size rhopT va j _ rfl (ho4.alloc _) _ _ 1 (hopCells h) rfl (Sl.lit w4 #[.int .u32 h.1,.int .u32 h.2.1,.bool h.2.2] 131 (by simp[maxLen]) rfl) (by simp[hopCells,Value.oneCell']) (by simp only[maxLen];omega) (by omega) (by simp;omega) ?_;intro vb w5 ho5 hg5 hob5;have hB5:Below w3.heap.size w3 w5:=Below.trans (hB4.alloc hz4 _) (below_of_grown hg5 (by simp;omega) (fun g hg=>(ho4.lt g hg).1));have hz5:=hB5.size;have hl5:Sl w5 w.heap.size 3 (.slice A l.length c) l.length (l.flatMap hopCells):=hl3.below (hB5.mono (by omega));have hd5:=Hsd.out w5 w.heap.size _ hl5;rw[Hfd.out] at hd5;clear hg5 hob5 hx0 hx1 hx2)
    | (at_builtin;refine wpList_append rfl (.tmp 43) (.tmp 46) 122 rfl w3.heap.size rhopT vb (j+1) _ rfl ho5 w.heap.size vd (l.length-j) ((l.drop j).flatMap hopCells) rfl hd5 hops_oneCell (by simp only[maxLen];omega) (by omega) hz5 ?_;intro vc w6 ho6 hg6 hob6))
   go_ret
   have hB6:Below w3.heap.size w3 w6:=hB5.trans (below_of_grown hg6 hz5 (fun g hg=>(ho5.lt g hg).1))
   have hins:=ins_new Hins.out hne3
   unfold RefPost
   rw[hins]
   have hfl:(l.take j++h :: l.drop j).length=j+1+(l.length-j):=by simp only[l'a,List.length_take,List.length_cons,List.length_drop];omega
   refine ⟨vc,rfl,?_,hB3.trans (hB6.mono (by omega))⟩
   rw[hfl,List.flatMap_append,List.flatMap_cons,←List.append_assoc]
   exact own_less ho6 (by omega)
set_option maxHeartbeats 2000000 in
theorem refjoin_any (a b:List Hop) (av bv:Value) (w:World) (ha:Sl w w.heap.size 3 av a.length (a.flatMap hopCells)) (hb:Sl w w.heap.size 3 bv b.length (b.flatMap hopCells)) (hn:a.length+b.length≤500000) :
  Calls Tryz.prog 63 #[av,bv] w (RefPost w.heap.size w (puts (puts [] a) b)):=by
 obtain ⟨_,A,c,rfl,_,_,hat⟩:=ha
 obtain ⟨_,A',c',rfl,_,_,hat'⟩:=hb
 have hl1:=puts_length [] a
 go_enter Tryz.func63,Tryz.ntmps63
 go_wp2_with fail
 go_loopg [5,6] a.length (fun m v i wr=>∃ k:Nat,k≤a.length∧m=a.length-k∧i=.int .i64 k∧wr.ownsRow w.heap.size 131 3 v (puts [] (a.take k)).length ((puts [] (a.take k)).flatMap hopCells)∧Below w.heap.size w wr)
 case atStart=>exact ⟨0,Nat.zero_le _,rfl,rfl,World.ownsRow_nil _ _ _ _,b'r _ _⟩
 case round =>
  obtain ⟨k,hk,rfl,rfl,ho,hB⟩:=hrel
  obtain ⟨w1,rfl⟩:∃ x:World,x=wr:=⟨_,rfl⟩
  by_cases hka:k<a.length
  ·obtain ⟨b1,off,rfl,hb1,hc⟩:=hat (by omega)
   have hget:∀ i u,(hopCells a[k])[i]?=some u→w1.cell? ⟨b1,off+(k*3+i),none⟩=some u:=fun i u hu =>
    (hB.cell (p:=⟨b1,off+(k*3+i),none⟩) hb1).trans (hc _ _ (by rw[flat_get hopCells_len _ _ _ (List.getElem?_eq_some_iff.1 hu).1 hka];exact hu))
   have hr0:=hget 0 _ rfl
   have hr1:=hget 1 _ rfl
   have hr2:=hget 2 _ rfl
   simp only[Nat.add_zero,←Nat.add_assoc] at hr0 hr1 hr2
   clear hget hc hat
   have hlk:=puts_length [] (a.take k)
   rw[List.length_take] at hlk
   have hlk':(puts [] (a.take k)).length≤1000000:=by simp at hlk;omega
   have hpt:=puts_take [] a k hka
   have Hpt:=h'd hpt
   clear hpt hlk
   go_wp2_with fail
   refine c'm (refput_any w.heap.size _ a[k] _ _ hB.size ho hlk') ?_
   rintro e w2 ⟨v2,rfl,ho2,hB2⟩
   go_wp2_with fail
   go_roundg (a.length-(k+1))
   case measure=>omega
   case rel=>exact ⟨k+1,by omega,rfl,by go_num,by rw[Hpt.out];exact ho2,hB.trans (hB2.mono hB.size)⟩
  ·obtain rfl:k=a.length:=by omega
   rw[List.take_length] at ho
   go_wp2_with fail
   go_loopg [5,7] b.length (fun m v i wr=>∃ k:Nat,k≤b.length∧m=b.length-k∧i=.int .i64 k∧wr.ownsRow w.heap.size 131 3 v (puts (puts [] a) (b.take k)).length ((puts (puts [] a) (b.take k)).flatMap hopCells)∧Below w.heap.size w wr)
   case atStart=>exact ⟨0,Nat.zero_le _,rfl,rfl,by simpa[puts] using ho,hB⟩
   case round =>
    obtain ⟨k,hk,rfl,rfl,ho,hB⟩:=hrel
    obtain ⟨w1,rfl⟩:∃ x:World,x=wr:=⟨_,rfl⟩
    by_cases hka:k<b.length
    ·obtain ⟨b1,off,rfl,hb1,hc⟩:=hat' (by omega)
     have hget:∀ i u,(hopCells b[k])[i]?=some u→w1.cell? ⟨b1,off+(k*3+i),none⟩=some u:=fun i u hu =>
      (hB.cell (p:=⟨b1,off+(k*3+i),none⟩) hb1).trans (hc _ _ (by rw[flat_get hopCells_len _ _ _ (List.getElem?_eq_some_iff.1 hu).1 hka];exact hu))
     have hr0:=hget 0 _ rfl
     have hr1:=hget 1 _ rfl
     have hr2:=hget 2 _ rfl
     simp only[Nat.add_zero,←Nat.add_assoc] at hr0 hr1 hr2
     clear hget hc hat'
     have hlk:=puts_length (puts [] a) (b.take k)
     rw[List.length_take] at hlk
     have hlk':(puts (puts [] a) (b.take k)).length≤1000000:=by simp at hlk hl1;omega
     have hpt:=puts_take (puts [] a) b k hka
     have Hpt:=h'd hpt
     clear hpt hlk
     go_wp2_with fail
     refine c'm (refput_any w.heap.size _ b[k] _ _ hB.size ho hlk') ?_
     rintro e w2 ⟨v2,rfl,ho2,hB2⟩
     go_wp2_with fail
     go_roundg (b.length-(k+1))
     case measure=>omega
     case rel=>exact ⟨k+1,by omega,rfl,by go_num,by rw[Hpt.out];exact ho2,hB.trans (hB2.mono hB.size)⟩
    ·obtain rfl:k=b.length:=by omega
     rw[List.take_length] at ho
     go_wp2_with fail
     go_ret
     exact ⟨_,rfl,ho,hB⟩
end Go.Proofs.YtcknpofnpabkiaaGreat
