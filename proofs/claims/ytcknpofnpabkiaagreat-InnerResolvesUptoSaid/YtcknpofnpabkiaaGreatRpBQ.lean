/- tree.costs: what the search for the shortest ways answers. -/
import Derived.Test.YtcknpofnpabkiaaGreatRpBP
import Derived.Test.YtcknpofnpabkiaaGreatRpAA
set_option maxRecDepth 100000
namespace Go.Proofs.YtcknpofnpabkiaaGreat
open Go.RowKit Go.Lo
theorem u64T:ElT Tryz.prog 181 49 1 8:=⟨by kernel_rfl,by
 obtain ⟨i,hi,h1,h2,h3⟩:=info_parts (show (Tryz.prog.info? 49).map (fun i=>(i.zero,i.size,i.bytes))=some (some (.int .u64 0),1,8) by kernel_rfl)
 exact ⟨i,_,hi,h1,h2,h3,rfl⟩,by omega⟩
theorem QueueAt.same {w w':World} {base q:Nat} {l:List Ent} (h:QueueAt w base q l) (hb:∀ k,QF w q k→w'.heap[k]?=w.heap[k]?):QueueAt w' base q l:=by
 obtain ⟨h1,v,h2,h3,h4⟩:=h
 exact ⟨h1,v,(hb q (.inl rfl)).trans h2,h3,own_same h4 fun k hk=>hb k (.inr ⟨v,h2,hk⟩)⟩
theorem QueueAt.alloc {w:World} {base q:Nat} {l:List Ent} (h:QueueAt w base q l) (o:Obj):QueueAt (w.alloc o) base q l:=h.same fun _ hk=>Below.heap_alloc _ _ _ (QF.lt h hk)
theorem QueueAt.far {w:World} {base q:Nat} {l:List Ent} (h:QueueAt w base q l) {p:Addr} (hp:¬ QF w q p.block) (u:Value):QueueAt (w.setCell p u) base q l:=
 h.same fun k hk=>Below.heap_setCell _ _ _ _ (fun e=>hp (by rw[←e];exact hk))
def CostPost (w:World) (g:List GNode) (root:Nat) (e:Ending) (w':World):Prop:=
 ∃ v c,e=.returned v∧w'.ownsRow w.heap.size 49 1 v c.length (u64s c)∧Costs g root c∧Below w.heap.size w w'
def CRel (rows:List NodeRow) (root:Nat) (w:World) (base q m:Nat) (c:List Int) (ql:List Ent) (cur:Option (Nat × Nat)) (wr:World):Prop:=
 2*sumC c+ql.length≤m∧sumC c+ql.length≤1+rows.length*4294967296∧CInv (nodesOf rows) root c ql cur ∧
  wr.ownsRow w.heap.size 49 1 (.slice (some ⟨w.heap.size,0,none⟩) rows.length rows.length) rows.length (u64s c)∧QueueAt wr base q ql∧Below w.heap.size w wr∧base≤wr.heap.size
def InRel (rows:List NodeRow) (root:Nat) (w:World) (base q bx i:Nat) (x:Int) (m k:Nat) (wr:World):Prop:=
 ∃ c ql,at_ c i=x∧2*sumC c+ql.length≤m∧sumC c+ql.length≤1+rows.length*4294967296∧CInv (nodesOf rows) root c ql (some (i,k)) ∧
  wr.ownsRow w.heap.size 49 1 (.slice (some ⟨w.heap.size,0,none⟩) rows.length rows.length) rows.length (u64s c)∧QueueAt wr base q ql∧Below w.heap.size w wr ∧
  Blk wr bx 223 #[.int .u64 x,.int .i64 i]∧¬ QF wr q bx∧base≤wr.heap.size
set_option maxHeartbeats 2000000 in
theorem costs_any (rows:List NodeRow) (gv:Value) (root:Nat) (w:World) (hg:GraphAt w w.heap.size gv rows) (hok:okG (nodesOf rows)) (hr:root<rows.length) (hn:rows.length≤250) :
  Calls Tryz.prog 95 #[gv,.int .i64 root] w (CostPost w (nodesOf rows) root):=by
 have hgs:=hg.sl
 obtain ⟨_,A,c,rfl,_,_,hat⟩:=hgs
 go_enter Tryz.func95,Tryz.ntmps95
 go_wp2_with (at_make;refine wpList_make rfl (.tmp 13) (.tmp 13) 181 rfl w.heap.size u64T (fun x:Int=>[.int .u64 x]) (fun _=>rfl) 0 (by kernel_rfl) .i64 .i64 _ _ rows.length rfl rfl rfl rfl (by omega) (by simp only[maxLen];omega) (n'r _) ?_;intro w1 hown1 hgr1)
 have hb1:Below w.heap.size w w1:=below_of_grown hgr1 (n'r _) (by simp)
 have hsz1:w.heap.size<w1.heap.size:=(hown1.lt w.heap.size rfl).2
 have hown1:w1.ownsRow w.heap.size 49 1 (.slice (some ⟨w.heap.size,0,none⟩) rows.length rows.length) rows.length (u64s (List.replicate rows.length 0)):=by
  have e:(List.replicate rows.length (0:Int)).flatMap (fun x=>[Value.int .u64 x])=u64s (List.replicate rows.length 0):=by simp[u64s,List.flatMap_def]
  rw[←e];exact hown1
 clear hgr1
 go_loopg [17] rows.length (fun m i wr=>∃ k:Nat,k≤rows.length∧m=rows.length-k∧i=.int .i64 k∧wr.ownsRow w.heap.size 49 1 (.slice (some ⟨w.heap.size,0,none⟩) rows.length rows.length) rows.length (u64s (List.replicate k far++List.replicate (rows.length-k) 0))∧Below w.heap.size w wr∧w.heap.size<wr.heap.size)
 case atStart=>exact ⟨0,Nat.zero_le _,rfl,rfl,by simpa using hown1,hb1,hsz1⟩
 case round =>
  obtain ⟨k,hk,rfl,rfl,hownk,hbk,hszk⟩:=hrel
  by_cases hkl:k<rows.length
  ·have hcell:=hownk.cellAt k (by omega)
   have hfz:=hownk.frozenAt k
   rw[u64s_get (by simp;omega)] at hcell
   have hnext:=hownk.stored k (.int .u64 far)
   have hset:(List.replicate k far++List.replicate (rows.length-k) 0).set k far=List.replicate (k+1) far++List.replicate (rows.length-(k+1)) 0:=by
    rw[List.set_append_right _ _ (by simp)]
    simp only[List.length_replicate,Nat.sub_self]
    rw[show rows.length-k=(rows.length-(k+1))+1 by omega,List.replicate_succ,s'z,List.replicate_succ',List.append_assoc]
    rfl
   rw[u64s_set,hset] at hnext
   have Hnext:=h'd hnext
   clear hnext hset hownk
   go_wp2
   go_roundg (rows.length-(k+1))
   case measure=>omega
   case rel=>exact ⟨k+1,by omega,rfl,by go_num,Hnext.out.1,hbk.setCell (n'r _) _,by simpa using hszk⟩
  ·obtain rfl:k=rows.length:=by omega
   obtain ⟨w2,rfl⟩:∃ x:World,x=wr:=⟨_,rfl⟩
   have hfz:=hownk.frozenAt root
   have hcell:=hownk.cellAt root (by omega)
   rw[u64s_get (by simp;omega)] at hcell
   have hnext:=(hownk.stored root (.int .u64 0)).1
   rw[u64s_set,Nat.sub_self,List.replicate_zero,List.append_nil] at hnext
   have Hnext:=h'd hnext
   clear hnext hownk
   go_wp2_with fail
   have hQ0:QueueAt (((w2.setCell ⟨w.heap.size,root,none⟩ (.int .u64 0)).alloc (.cells #[.int .u64 0,.int .i64 root] 223)).alloc (.cells #[.slice (some ⟨w2.heap.size,0,none⟩) 1 1] 225)) w2.heap.size (w2.heap.size+1) [(0,(root:Int))]:=by
    have hl:=World.ownsRow_lit (base:=w2.heap.size) (e:=223) (size:=2) (w2.setCell ⟨w.heap.size,root,none⟩ (.int .u64 0)) #[.int .u64 0,.int .i64 root] 1 (by simp) (by simp[maxLen]) rfl
    have hz:(w2.setCell ⟨w.heap.size,root,none⟩ (.int .u64 0)).heap.size=w2.heap.size:=by simp
    rw[hz] at hl
    refine ⟨by omega,.slice (some ⟨w2.heap.size,0,none⟩) 1 1,?_,by simp[Value.ownBlock],hl.alloc _⟩
    have:=heap_alloc_new ((w2.setCell ⟨w.heap.size,root,none⟩ (.int .u64 0)).alloc (.cells #[.int .u64 0,.int .i64 root] 223)) (.cells #[.slice (some ⟨w2.heap.size,0,none⟩) 1 1] 225)
    simpa using this
   have hR0:CRel rows root w w2.heap.size (w2.heap.size+1) (2*(rows.length*4294967296)+1) ((List.replicate rows.length far).set root 0) [(0,(root:Int))] none (((w2.setCell ⟨w.heap.size,root,none⟩ (.int .u64 0)).alloc (.cells #[.int .u64 0,.int .i64 root] 223)).alloc (.cells #[.slice (some ⟨w2.heap.size,0,none⟩) 1 1] 225)):=by
    have hci:=CInv.start (g:=nodesOf rows) (root:=root) (by rw[nodesOf_len];exact hr)
    rw[nodesOf_len] at hci
    have hs:=sumC_le (fun i hi=>(hci.rng i hi).2)
    rw[List.length_set,List.length_replicate] at hs
    exact ⟨by simp;omega,by simp;omega,hci,(Hnext.out.alloc _).alloc _,hQ0,((hbk.setCell (n'r _) _).alloc (by simp;omega) _).alloc (by simp;omega) _,by simp;omega⟩
   clear hQ0 Hnext
   generalize hbase:w2.heap.size=base at *
   have Hbase:=h'd hbase
   clear hbase
   generalize (((w2.setCell ⟨w.heap.size,root,none⟩ (.int .u64 0)).alloc (.cells #[.int .u64 0,.int .i64 root] 223)).alloc (.cells #[.slice (some ⟨base,0,none⟩) 1 1] 225))=w3 at *
   go_loopg [] (2*(rows.length*4294967296)+1) (fun m wr=>∃ c ql,CRel rows root w base (base+1) m c ql none wr)
   case atStart=>exact ⟨_,_,hR0⟩
   case round =>
    obtain ⟨c,ql,hm,hsum,hci,hown,hQ,hB,hbs⟩:=hrel
    obtain ⟨w4,rfl⟩:∃ x:World,x=wr:=⟨_,rfl⟩
    have hQ':=hQ
    obtain ⟨hbq,v,hcell,hne,hownq⟩:=hQ'
    have hc0:=cell_of_one hcell
    clear hcell
    obtain ⟨_,A1,c1,rfl,_,_,_⟩:=Sl.of_own hownq
    have hqle:ql.length≤1099511627776:=by have:=Nat.mul_le_mul_right 4294967296 hn;omega
    by_cases hq0:0<ql.length
    ·go_wp2_with fail
     refine c'm (len_any _ _ _ _) ?_
     rintro e w5 ⟨rfl,rfl⟩
     go_wp2_with fail
     refine c'm (hpop_any base (base+1) ql _ hQ hq0 hqle) ?_
     rintro e w5 ⟨⟨xc,xi⟩,l5,rfl,hQ5,hp5,hs5⟩
     have hci5:=hci.perm hp5
     have hxq:=hci5.que (xc,xi) (List.mem_cons_self ..)
     obtain ⟨hx0,hxf,i,hxi,hil,hle⟩:=hxq
     simp only at hx0 hxf hxi hle
     subst hxi
     have hil':i<rows.length:=by rw[hci.len,nodesOf_len] at hil;exact hil
     have hbw:base≤w5.heap.size:=n't hbs hs5.size
     have hBB:w.heap.size<base:=hszk
     have hg5:w.heap.size<w5.heap.size:=by omega
     have hB5:Below w.heap.size w w5:=hB.trans ((hs5.below hQ).mono (by omega))
     have hown5:=own_same hown (fun k hk=>(hs5.below hQ).block k (by injection hk with hk;rw[←hk];exact hBB))
     have has:=assert_entry (.int .u64 xc) (.int .i64 i)
     have hcg:=hown5.cellAt i (by omega)
     rw[u64s_get hil] at hcg
     have hgw:=hg.below hB5
     clear hc0
     have hl5:l5.length+1=ql.length:=by have:=hp5.length_eq;simpa using this
     have Hl5:=h'd hl5
     have hl5m:l5.length<ql.length:=by omega
     clear hl5
     by_cases hst:at_ c i<xc
     ·go_wp2_with fail
      go_quiet (fail)
      go_wp2_with fail
      go_roundg (2*sumC c+l5.length)
      case measure=>omega
      case rel=>exact ⟨c,l5,n'r _,by omega,hci5.stale hst,hown5.alloc _,hQ5.alloc _,below_drewN (hB5.alloc (by omega) _) _,by simp;omega⟩
     ·obtain rfl:at_ c i=xc:=by omega
      obtain ⟨bg,og,rfl,hbg,hrow⟩:=Sl.row nodeCells_len hgw.sl hil'
      have hev:=hrow 5 _ rfl
      obtain ⟨hel,A2,c2,hev2,hec2,hcm2,hat2⟩:=hgw.edges rows[i] (g'm hil')
      have hesl:rows[i].node.edges.length≤9223372036854775807:=by unfold maxLen at hcm2;omega
      rw[hev2] at hev
      have hbg5:bg<w5.heap.size:=by omega
      have Hev2:=h'd hev2
      clear hev2 hrow
      generalize hes:rows[i].node.edges=es at *
      have Hes:=h'd hes
      clear hes
      go_wp2_with fail
      go_quiet (fail)
      go_wp2_with fail
      have hbx:Blk ((w5.alloc (.cells #[.int .u64 (at_ c i),.int .i64 i] 223)).drewN nq) w5.heap.size 223 #[.int .u64 (at_ c i),.int .i64 i]:=Blk.new _ _ _
      have hQx:QueueAt ((w5.alloc (.cells #[.int .u64 (at_ c i),.int .i64 i] 223)).drewN nq) base (base+1) l5:=hQ5.alloc _
      have hox:((w5.alloc (.cells #[.int .u64 (at_ c i),.int .i64 i] 223)).drewN nq).ownsRow w.heap.size 49 1 (.slice (some ⟨w.heap.size,0,none⟩) rows.length rows.length) rows.length (u64s c):=hown5.alloc _
      have hBx:Below w.heap.size w ((w5.alloc (.cells #[.int .u64 (at_ c i),.int .i64 i] 223)).drewN nq):=below_drewN (hB5.alloc (by omega) _) _
      have hfx:¬ QF ((w5.alloc (.cells #[.int .u64 (at_ c i),.int .i64 i] 223)).drewN nq) (base+1) w5.heap.size:=fun h=>by
       rcases h with h | ⟨v',hc,hk⟩
       ·have:=(QF.lt hQ5 (.inl rfl));omega
       ·have hc':w5.heap[base+1]?=some (.cells #[v'] 225 (0,0)):=(Below.heap_alloc w5 _ _ (QF.lt hQ5 (.inl rfl))).symm.trans hc
        have:=QF.lt hQ5 (.inr ⟨v',hc',hk⟩);omega
      have hsx:w5.heap.size<((w5.alloc (.cells #[.int .u64 (at_ c i),.int .i64 i] 223)).drewN nq).heap.size:=by simp
      generalize (w5.alloc (.cells #[.int .u64 (at_ c i),.int .i64 i] 223)).drewN nq=w6 at *
      have hrelI:InRel rows root w base (base+1) w5.heap.size i (at_ c i) (2*sumC c+l5.length) 0 w6:=⟨c,l5,rfl,n'r _,by omega,by have:=hci5.begin rfl;exact this,hox,hQx,hBx,hbx,hfx,by omega⟩
      have hcix:(0:Int)≤at_ c i:=hx0
      have hcif:at_ c i<far:=hxf
      generalize hxc:at_ c i=xc at *
      have Hxc:=h'd hxc
      clear hxc hbx hQx hox hBx hfx hsx hcg hev
      go_loopg [55] es.length (fun m kk wr=>∃ k:Nat,k≤es.length∧m=es.length-k∧kk=.int .i64 k∧InRel rows root w base (base+1) w5.heap.size i xc (2*sumC c+l5.length) k wr)
      case atStart=>exact ⟨0,Nat.zero_le _,rfl,rfl,hrelI⟩
      case round =>
       obtain ⟨k,hk,rfl,rfl,c7,l7,h7x,h7m,h7s,h7i,h7o,h7q,h7B,h7b,h7f,h7z⟩:=hrel
       obtain ⟨w7,rfl⟩:∃ x:World,x=wr:=⟨_,rfl⟩
       have hEs:esOf (nodesOf rows) i=es:=by rw[esOf_rows hil',Hes.out]
       by_cases hkE:k<es.length
       ·obtain ⟨be,oe,rfl,hbe,hce⟩:=hat2 (by omega)
        have hget:∀ j u,(edgeCells es[k])[j]?=some u→w7.cell? ⟨be,oe+(k*4+j),none⟩=some u:=fun j u hu=>by
         have h1:=hce (k*4+j) u (by rw[flat_get edgeCells_len _ _ _ (List.getElem?_eq_some_iff.1 hu).1 hkE];exact hu)
         exact (h7B.cell (p:=⟨be,oe+(k*4+j),none⟩) hbe).trans ((hB5.cell (p:=⟨be,oe+(k*4+j),none⟩) hbe).symm.trans h1)
        have he0:=hget 0 _ rfl
        have he1:=hget 1 _ rfl
        have he2:=hget 2 _ rfl
        have he3:=hget 3 _ rfl
        simp only[Nat.add_zero,←Nat.add_assoc] at he0 he1 he2 he3
        have hek:∃ e,es[k]=e:=⟨_,rfl⟩
        obtain ⟨⟨eto,ecost,edata,evirt⟩,hek⟩:=hek
        have hcost:0≤ecost∧ecost≤4294967295:=by
         have:=esOf_cost hok (i:=i) (e:=es[k]) (by rw[hEs];exact g'm hkE)
         rw[hek] at this;exact this
        obtain ⟨hc0',hc1'⟩:=hcost
        rw[hek] at he0 he1 he2 he3
        simp only at he0 he1 he2 he3
        have Hek:=h'd hek
        have HEs:=h'd hEs
        clear hek hEs hget hce hat2
        have hx7:=h7b.cell 0
        have hxb:w5.heap.size<w7.heap.size:=h7b.lt
        have hgb:w.heap.size<w7.heap.size:=by omega
        have hf7:xc<4294967296:=hcif
        have hskip:(∀ j:Nat,eto=j→j<c7.length→at_ c7 j≤xc+ecost)→InRel rows root w base (base+1) w5.heap.size i xc (2*sumC c+l5.length) (k+1) (w7.alloc (.cells #[.int .i64 eto,.int .u32 ecost,.int .u32 edata,.bool evirt] 65)):=fun hs=>by
         refine ⟨c7,l7,h7x,h7m,h7s,?_,h7o.alloc _,h7q.alloc _,h7B.alloc (by omega) _,h7b.alloc _,fun h => ?_,by simp;omega⟩
         ·refine h7i.skip (by rw[HEs.out];exact hkE) ?_
          intro j hj hjc
          have e1:(esOf (nodesOf rows) i)[k]'(by rw[HEs.out];exact hkE)=es[k]:=by congr 1 <;> first | exact HEs.out | rfl
          rw[e1,Hek.out] at hj ⊢
          rw[h7x]
          exact hs j hj hjc
         ·rcases h with h | ⟨v',hc,hk⟩
          ·have:=QF.lt h7q (.inl rfl);exact h7f (.inl h)
          ·exact h7f (.inr ⟨v',(Below.heap_alloc w7 _ _ (QF.lt h7q (.inl rfl))).symm.trans hc,hk⟩)
        have Hskip:=h'd hskip
        clear hskip
        by_cases h1:0≤eto
        ·obtain ⟨t,rfl⟩:=Int.eq_ofNat_of_zero_le h1
         by_cases h2:t<rows.length
         ·have hct:=h7o.cellAt t (by omega)
          have htc:t<c7.length:=by rw[h7i.len,nodesOf_len];exact h2
          rw[u64s_get htc] at hct
          by_cases h3:xc+ecost<at_ c7 t
          ·have hft:=h7o.frozenAt t
           have hti:t≠i:=fun e=>by rw[e,h7x] at h3;omega
           have hQp:QueueAt ((w7.setCell ⟨w.heap.size,t,none⟩ (.int .u64 (xc+ecost))).alloc (.cells #[.int .i64 t,.int .u32 ecost,.int .u32 edata,.bool evirt] 65)) base (base+1) l7:=
            (h7q.far (p:=⟨w.heap.size,t,none⟩) (fun h=>by have:base≤w.heap.size:=QF.ge h7q h;omega) _).alloc _
           have hbp:Blk ((w7.setCell ⟨w.heap.size,t,none⟩ (.int .u64 (xc+ecost))).alloc (.cells #[.int .i64 t,.int .u32 ecost,.int .u32 edata,.bool evirt] 65)) w5.heap.size 223 #[.int .u64 xc,.int .i64 i]:=
            (h7b.far (p:=⟨w.heap.size,t,none⟩) (show w5.heap.size≠w.heap.size by omega) _).alloc _
           have hop:=((h7o.stored t (.int .u64 (xc+ecost))).1).alloc (.cells #[.int .i64 t,.int .u32 ecost,.int .u32 edata,.bool evirt] 65)
           rw[u64s_set] at hop
           have hBp:Below w.heap.size w ((w7.setCell ⟨w.heap.size,t,none⟩ (.int .u64 (xc+ecost))).alloc (.cells #[.int .i64 t,.int .u32 ecost,.int .u32 edata,.bool evirt] 65)):=
            (h7B.setCell (n'r _) _).alloc (by simp;omega) _
           have hfp:¬ QF ((w7.setCell ⟨w.heap.size,t,none⟩ (.int .u64 (xc+ecost))).alloc (.cells #[.int .i64 t,.int .u32 ecost,.int .u32 edata,.bool evirt] 65)) (base+1) w5.heap.size:=fun h=>by
            rcases h with h | ⟨v',hc,hk⟩
            ·exact h7f (.inl h)
            ·refine h7f (.inr ⟨v',?_,hk⟩)
             have e1:=Below.heap_alloc (w7.setCell ⟨w.heap.size,t,none⟩ (.int .u64 (xc+ecost))) (.cells #[.int .i64 t,.int .u32 ecost,.int .u32 edata,.bool evirt] 65) (base+1) (by simpa using QF.lt h7q (.inl rfl))
             have e2:=Below.heap_setCell w7 ⟨w.heap.size,t,none⟩ (.int .u64 (xc+ecost)) (base+1) (show base+1≠w.heap.size by omega)
             exact (e1.trans e2).symm.trans hc
           have Hop:=h'd hop
           have hzp:w7.heap.size<((w7.setCell ⟨w.heap.size,t,none⟩ (.int .u64 (xc+ecost))).alloc (.cells #[.int .i64 t,.int .u32 ecost,.int .u32 edata,.bool evirt] 65)).heap.size:=by simp
           clear hop
           go_wp2_with fail
           generalize (w7.setCell ⟨w.heap.size,t,none⟩ (.int .u64 (xc+ecost))).alloc (.cells #[.int .i64 t,.int .u32 ecost,.int .u32 edata,.bool evirt] 65)=wp at *
           refine c'm (hpush_any base (base+1) l7 (xc+ecost,(t:Int)) wp (by omega) hQp (by have:=Nat.mul_le_mul_right 4294967296 hn;omega)) ?_
           rintro e w8 ⟨rfl,l8,hQ8,hp8,hs8⟩
           go_wp2_with fail
           go_roundg (es.length-(k+1))
           case measure=>omega
           case rel =>
            have hl8:l8.length=l7.length+1:=by have:=hp8.length_eq;simpa using this
            have hsum8:=sumC_set htc (by omega:0≤xc+ecost) h3
            have e1:(esOf (nodesOf rows) i)[k]'(by rw[HEs.out];exact hkE)=es[k]:=by congr 1 <;> first | exact HEs.out | rfl
            have hst:=h7i.step hok (by rw[h7i.len,nodesOf_len];exact hil') (by rw[h7x];exact hcif) (by rw[HEs.out];exact hkE) (t:=t) (by rw[e1,Hek.out]) htc (by rw[e1,Hek.out,h7x];exact h3)
            rw[e1,Hek.out,h7x] at hst
            refine ⟨k+1,by omega,rfl,by go_num,c7.set t (xc+ecost),l8,by rw[at_set_ne (Ne.symm hti)];exact h7x,by omega,by omega,hst.perm hp8,?_,hQ8,hBp.trans ((hs8.below hQp).mono (by omega)),hbp.same (hs8.block _ hbp.lt hfp),fun h => ?_,by have:=hs8.size;omega⟩
            ·exact own_same Hop.out fun j hj=>hs8.block j (by injection hj with hj;rw[←hj];show w.heap.size<wp.heap.size;omega) (fun h=>by
              injection hj with hj
              have h':base≤j:=QF.ge hQp h
              have:w.heap.size=j:=hj
              omega)
            ·rcases hs8.foot _ h with h | h
             ·exact hfp h
             ·omega
          ·go_wp2_with fail
           go_roundg (es.length-(k+1))
           case measure=>omega
           case rel=>exact ⟨k+1,by omega,rfl,by go_num,Hskip.out (fun j hj _=>by rw[show j=t by omega];omega)⟩
         ·go_wp2_with fail
          go_roundg (es.length-(k+1))
          case measure=>omega
          case rel=>exact ⟨k+1,by omega,rfl,by go_num,Hskip.out (fun j hj hjc=>by rw[h7i.len,nodesOf_len] at hjc;omega)⟩
        ·go_wp2_with fail
         go_roundg (es.length-(k+1))
         case measure=>omega
         case rel=>exact ⟨k+1,by omega,rfl,by go_num,Hskip.out (fun j hj _=>by omega)⟩
       ·obtain rfl:k=es.length:=by omega
        go_wp2_with fail
        go_roundg (2*sumC c+l5.length)
        case measure=>omega
        case rel =>
         rw[←hEs] at h7i
         exact ⟨c7,l7,h7m,h7s,h7i.finish,h7o,h7q,h7B,h7z⟩
    ·go_wp2_with fail
     refine c'm (len_any _ _ _ _) ?_
     rintro e w5 ⟨rfl,rfl⟩
     go_wp2_with fail
     go_ret
     have hnil:ql=[]:=List.eq_nil_of_length_eq_zero (by omega)
     subst hnil
     have hlen:=hci.len
     rw[nodesOf_len] at hlen
     exact ⟨_,c,rfl,by rw[hlen];exact hown,hci.costs,hB⟩
end Go.Proofs.YtcknpofnpabkiaaGreat
