/- tree's walk.hops: the hops that go on by an edge. -/
import Derived.Test.YtcknpofnpabkiaaGreatRpBQ
import Derived.Test.YtcknpofnpabkiaaGreatRpBR
import Derived.Test.YtcknpofnpabkiaaGreatRpAA
set_option maxRecDepth 100000
namespace Go.Proofs.YtcknpofnpabkiaaGreat
open Go.RowKit Go.Lo
structure ReachRow where
 is:Bool
 cost:Int
 hv:Value
 hops:List Hop
def reachCells (r:ReachRow):List Value:=[.bool r.is,.int .u32 r.cost,r.hv]
theorem reachCells_len (r:ReachRow):(reachCells r).length=3:=rfl
structure OutAt (w:World) (base:Nat) (v:Value) (rs:List ReachRow):Prop where
 row:w.ownsRow base 117 3 v rs.length (rs.flatMap reachCells)
 hop:∀ r∈rs,w.ownsRow base 56 3 r.hv r.hops.length (r.hops.flatMap hopCells)
theorem hopValue {w:World} {base:Nat} {v:Value} {n:Nat} {xs:List Value} {e:TypeId} {s:Nat} (h:w.ownsRow base e s v n xs):∃ A c,v=.slice A n c:=by
 obtain ⟨_,A,c,h,_⟩:=Sl.of_own h
 exact ⟨A,c,h⟩
theorem OutAt.same {w w':World} {base:Nat} {v:Value} {rs:List ReachRow} (h:OutAt w base v rs) (hb:∀ k,k<w.heap.size→w'.heap[k]?=w.heap[k]?):OutAt w' base v rs:=
 ⟨own_same h.row fun k hk=>hb k (h.row.lt k hk).2,fun r hr=>own_same (h.hop r hr) fun k hk=>hb k ((h.hop r hr).lt k hk).2⟩
theorem netAt_rows {rows:List NodeRow} {i:Nat} (h:i<rows.length):netAt (nodesOf rows) i=rows[i].node.network:=by simp[netAt,nodesOf,h]
theorem idAt_rows {rows:List NodeRow} {i:Nat} (h:i<rows.length):idAt (nodesOf rows) i=rows[i].node.id:=by simp[idAt,nodesOf,h]
set_option maxHeartbeats 1000000 in
theorem hops_first (rows:List NodeRow) (B wb:Nat) (gv cv ov:Value) (root t:Nat) (cost data:Int) (virt:Bool) (w:World)
  (hw:Blk w wb 184 #[gv,.int .i64 root,cv,ov]) (hg:GraphAt w B gv rows) (hB:B≤w.heap.size) (ht:t<rows.length) (_hn:rows.length≤250) (_hrl:root<rows.length) :
  Calls Tryz.prog 134 #[.pointer (some ⟨wb,0,none⟩),.int .i64 root,.agg #[.int .i64 t,.int .u32 cost,.int .u32 data,.bool virt]] w
   fun e w'=>∃ v,e=.returned v∧w'.ownsRow w.heap.size 56 3 v 1 ([first_ (nodesOf rows) ⟨t,cost,data,virt⟩].flatMap hopCells)∧Below w.heap.size w w':=by
 have hwl:=hw.lt
 have hw0:=hw.cell 0
 have hw1:=hw.cell 1
 have hgs:=hg.sl
 obtain ⟨_,A,c,rfl,_,_,_⟩:=hgs
 obtain ⟨bg,og,rfl,hbg,hrow⟩:=Sl.row nodeCells_len hg.sl ht
 have hbl:bg<w.heap.size:=by omega
 have h0:=hrow 0 _ rfl
 have h1:=hrow 1 _ rfl
 have h2:=hrow 2 _ rfl
 have h3:=hrow 3 _ rfl
 have h4:=hrow 4 _ rfl
 have h5:=hrow 5 _ rfl
 have h6:=hrow 6 _ rfl
 simp only[Nat.add_zero] at h0
 obtain ⟨_,A5,c5,he5,_⟩:=hg.edges _ (g'm ht)
 obtain ⟨A6,n6,c6,he6⟩:=hg.svs _ (g'm ht)
 rw[he5] at h5
 rw[he6] at h6
 have He5:=h'd he5
 have He6:=h'd he6
 clear hrow he5 he6
 go_enter Tryz.func134,Tryz.ntmps134
 go_wp2
 go_region
 go_wp2
 all_goals go_ret
 all_goals refine ⟨_,rfl,?_,?_⟩
 ·have hl:=World.ownsRow_lit (base:=w.heap.size) (e:=56) (size:=3) (((w.alloc (Obj.cells #[.int .i64 t,.int .u32 cost,.int .u32 data,.bool virt] 65)).alloc (Obj.cells #[.bool rows[t].node.network,.int .u32 rows[t].node.id,.int .u32 rows[t].node.netA,.int .u8 rows[t].node.netB,.int .u8 rows[t].node.flags,.slice A5 rows[t].node.edges.length c5,.slice A6 n6 c6] 63)).alloc (Obj.cells #[.int .u32 data,.int .u32 rows[t].node.id,.bool virt] 56)) #[.int .u32 data,.int .u32 rows[t].node.id,.bool virt] 1 (by simp;omega) (by simp[maxLen]) rfl
  have hnet:rows[t].node.network=false:=by simpa using ‹(!rows[t].node.network)=true›
  simpa[first_,netAt_rows ht,idAt_rows ht,hopCells,hnet] using hl.drew
 ·exact (((((b'r _ _).alloc (n'r _) _).alloc (by simp) _).alloc (by simp;omega) _).alloc (by simp;omega) _).drew
 ·have hl:=World.ownsRow_lit (base:=w.heap.size) (e:=56) (size:=3) (((w.alloc (Obj.cells #[.int .i64 t,.int .u32 cost,.int .u32 data,.bool virt] 65)).alloc (Obj.cells #[.bool rows[t].node.network,.int .u32 rows[t].node.id,.int .u32 rows[t].node.netA,.int .u8 rows[t].node.netB,.int .u8 rows[t].node.flags,.slice A5 rows[t].node.edges.length c5,.slice A6 n6 c6] 63)).alloc (Obj.cells #[.int .u32 data,.int .u32 0,.bool virt] 56)) #[.int .u32 data,.int .u32 0,.bool virt] 1 (by simp;omega) (by simp[maxLen]) rfl
  have hnet:rows[t].node.network=true:=by simpa using ‹(!rows[t].node.network)=false›
  simpa[first_,netAt_rows ht,idAt_rows ht,hopCells,hnet] using hl.drew
 ·exact (((((b'r _ _).alloc (n'r _) _).alloc (by simp) _).alloc (by simp;omega) _).alloc (by simp;omega) _).drew
theorem mix_same {α:Type} (f:α→α) (l:List α) (k:Nat) (hk:k<l.length) (h:f l[k]=l[k]):mix f l (k+1)=mix f l k:=by
 have h1:=mix_get f l k hk
 rw[←mix_succ f l k hk,h]
 conv=>lhs;arg 3;rw[←h1]
 exact List.set_getElem_self _
set_option maxHeartbeats 2000000 in
theorem hops_on (rows:List NodeRow) (B base wb:Nat) (gv cv ov:Value) (rs:List ReachRow) (root i t:Nat) (cost data:Int) (virt:Bool) (w:World)
  (hw:Blk w wb 184 #[gv,.int .i64 root,cv,ov]) (hg:GraphAt w B gv rows) (hB:B≤w.heap.size) (ht:t<rows.length) (_hn:rows.length≤250) (hi:i<rows.length) (hir:i≠root) (_hrl:root<rows.length)
  (ho:OutAt w base ov rs) (hrs:rs.length=rows.length) (hlen:rs[i].hops.length≤500000) :
  Calls Tryz.prog 134 #[.pointer (some ⟨wb,0,none⟩),.int .i64 i,.agg #[.int .i64 t,.int .u32 cost,.int .u32 data,.bool virt]] w
   fun e w'=>∃ v,e=.returned v∧w'.ownsRow w.heap.size 56 3 v rs[i].hops.length ((rs[i].hops.map (on_ (nodesOf rows) i ⟨t,cost,data,virt⟩)).flatMap hopCells)∧Below w.heap.size w w':=by
 have hwl:=hw.lt
 have hil:i<rs.length:=by omega
 obtain ⟨go,co,rfl,hco,_,hgo,_,hro⟩:=own_row reachCells_len ho.row hil
 have hh:=hro 2 _ rfl
 have hhop:=ho.hop rs[i] (g'm hil)
 have hgs:=hg.sl
 obtain ⟨_,A,c,rfl,_,_,_⟩:=hgs
 obtain ⟨bg,og,rfl,hbg,hrow⟩:=Sl.row nodeCells_len hg.sl ht
 have hbl:bg<w.heap.size:=by omega
 have h0:=hrow 0 _ rfl
 have h1:=hrow 1 _ rfl
 have h2:=hrow 2 _ rfl
 have h3:=hrow 3 _ rfl
 have h4:=hrow 4 _ rfl
 have h5:=hrow 5 _ rfl
 have h6:=hrow 6 _ rfl
 obtain ⟨bg',og',hbe,_,hrowi⟩:=Sl.row nodeCells_len hg.sl hi
 simp only[o'j,Addr.mk.injEq,and_true] at hbe
 obtain ⟨rfl,rfl⟩:=hbe
 have hi0:=hrowi 0 _ rfl
 simp only[Nat.add_zero] at h0 hi0
 obtain ⟨_,A5,c5,he5,_⟩:=hg.edges _ (g'm ht)
 obtain ⟨A6,n6,c6,he6⟩:=hg.svs _ (g'm ht)
 rw[he5] at h5
 rw[he6] at h6
 have He5:=h'd he5
 have He6:=h'd he6
 clear hrow he5 he6 hrowi hro
 have hw0:w.cell? ⟨wb,0,none⟩=some (.slice (some ⟨bg,og,none⟩) rows.length c):=hw.cell 0
 have hw1:w.cell? ⟨wb,1,none⟩=some (.int .i64 root):=hw.cell 1
 have hw3:w.cell? ⟨wb,3,none⟩=some (.slice (some ⟨go,0,none⟩) rs.length co):=hw.cell 3
 have hne:((i:Int)==(root:Int))=false:=beq_eq_false_iff_ne.2 fun h=>hir (Int.ofNat.inj h)
 have Hw:=h'd hw
 clear hw
 go_enter Tryz.func134,Tryz.ntmps134
 go_wp2
 go_region
 go_wp2_with (at_builtin;go_loud (refine wpList_append rfl (.const (.slice none 0 0)) (.tmp 45) 46 rfl w.heap.size hopT (.slice none 0 0) 0 [] rfl (World.ownsRow_nil _ _ _ _) _ _ _ _ rfl ((Sl.of_own hhop).below (by repeat (first | exact b'r _ _ | refine Below.drew ?_ | refine Below.alloc ?_ (by simp) _ | refine Below.alloc ?_ (by simp;omega) _))) hops_oneCell (by simp only[maxLen];omega) (by omega) (by simp;try omega) ?_;intro v1 w1 hown1 hgr1 hob1;simp only[Nat.zero_add,List.nil_append] at hown1;obtain ⟨A1,c1,rfl⟩:=hopValue hown1))
 have hz0:w.heap.size+1<w1.heap.size:=by have:=hgr1.size;simp at this;omega
 have hbw1:Below w.heap.size w w1:=by
  refine Below.trans ?_ (below_of_grown hgr1 (by simp;omega) (by simp[Value.ownBlock]))
  repeat (first | exact b'r _ _ | refine Below.drew ?_ | refine Below.alloc ?_ (by simp) _ | refine Below.alloc ?_ (by simp;omega) _)
 have hb0:w1.cell? ⟨w.heap.size+1,0,none⟩=some (.bool rows[t].node.network):=(hgr1.cell_far ⟨w.heap.size+1,0,none⟩ (by simp) (by simp[Value.ownBlock])).trans (by go_simp)
 have hb1:w1.cell? ⟨w.heap.size+1,1,none⟩=some (.int .u32 rows[t].node.id):=(hgr1.cell_far ⟨w.heap.size+1,1,none⟩ (by simp) (by simp[Value.ownBlock])).trans (by go_simp)
 have hvb:∀ q,(Value.slice A1 rs[i].hops.length c1).ownBlock=some q→q=w.heap.size+2:=fun q hq=>by
  rcases hob1 with h | h
  ·rw[hq] at h;cases h
  ·rw[hq] at h;have:=o'i h;simp at this;omega
 have hvb':=hown1.lt
 clear hgr1 hob1 h0 h1 h2 h3 h4 h5 h6 hh hhop
 generalize hL:rs[i].hops=l at *
 have HL:=h'd hL
 clear hL
 generalize hN1:rows[i].node.network=net1 at *
 generalize hN2:rows[t].node.network=net2 at *
 generalize hID:rows[t].node.id=idt at *
 have Hon:Hid (∀ h:Hop,on_ (nodesOf rows) i ⟨t,cost,data,virt⟩ h=if net1 && h.2.1==0 && !net2 then (h.1,idt,h.2.2) else h):=fun h=>by
  unfold on_;simp[netAt_rows hi,netAt_rows ht,idAt_rows ht,hN1,hN2,hID]
 clear hN1 hN2 hID
 go_loopg [49] l.length (fun m kk wr=>∃ k:Nat,k≤l.length∧m=l.length-k∧kk=.int .i64 k∧wr.ownsRow w.heap.size 56 3 (.slice A1 l.length c1) l.length ((mix (on_ (nodesOf rows) i ⟨t,cost,data,virt⟩) l k).flatMap hopCells)∧w1.grownBy wr (Value.slice A1 l.length c1).ownBlock)
 case atStart=>exact ⟨0,Nat.zero_le _,rfl,rfl,by rw[mix_zero];exact hown1,grown_refl _ _⟩
 case round =>
  obtain ⟨k,hk,rfl,rfl,hok,hgk⟩:=hrel
  by_cases hkl:k<l.length
  ·have hm:=mix_len (on_ (nodesOf rows) i ⟨t,cost,data,virt⟩) l k
   have hok':=hok
   rw[←hm] at hok'
   obtain ⟨g1,cap1,hv1,_,_,hg1,hfz,hrk⟩:=own_row (k:=k) hopCells_len hok' (by rw[hm];exact hkl)
   simp only[Value.slice.injEq] at hv1
   obtain ⟨rfl,_,rfl⟩:=hv1
   rw[mix_get _ _ _ hkl] at hrk
   have hr1:=hrk 1 _ rfl
   have hf1:=hfz (k*3+1)
   have hg1e:g1=w.heap.size+2:=hvb g1 rfl
   have hc0:=(hgk.cell_far ⟨w.heap.size+1,0,none⟩ hz0 (by simp[Value.ownBlock];omega)).trans hb0
   have hc1:=(hgk.cell_far ⟨w.heap.size+1,1,none⟩ hz0 (by simp[Value.ownBlock];omega)).trans hb1
   have hz1:w.heap.size≤w1.heap.size:=by omega
   have hcw:∀ b o,b<w.heap.size→wr.cell? ⟨b,o,none⟩=w.cell? ⟨b,o,none⟩:=fun b o hb=>(hgk.cell_far ⟨b,o,none⟩ (show b<_ by omega) (by simp[Value.ownBlock];omega)).trans (hbw1.cell (p:=⟨b,o,none⟩) hb)
   have hd0:=(hcw bg (og+i*7) hbl).trans hi0
   have hd1:=(hcw wb 0 hwl).trans hw0
   have hst:=hok.stored (k*3+1) (.int .u32 idt)
   have Hst:=h'd hst
   have Hg1e:=h'd hg1e
   clear hrk hfz hm hok' hcw hst hw0 hw1 hw3 hi0 hb0 hb1 hg1e
   cases net1
   ·go_wp2
    go_roundg (l.length-(k+1))
    case measure=>omega
    case rel=>exact ⟨k+1,by omega,rfl,by go_num,by rw[mix_same _ _ _ hkl (by rw[Hon.out];rfl)];exact hok,hgk⟩
   ·by_cases hv:l[k].2.1=0
    ·have hvb0:(l[k].2.1==0)=true:=beq_iff_eq.2 hv
     have Hv:=h'd hvb0
     clear hvb0 hv
     cases net2
     ·have hvb0:=Hv.out
      go_wp2
      go_roundg (l.length-(k+1))
      case measure=>omega
      case rel =>
       refine ⟨k+1,by omega,rfl,by go_num,?_,grown_setCell (p:=⟨g1,k*3+1,none⟩) (g:=g1) hgk (.inl rfl) _⟩
       have h1:=Hst.out.1
       rw[flat_set1 hopCells_len (mix (on_ (nodesOf rows) i ⟨t,cost,data,virt⟩) l k) k 1 (by rw[mix_len];exact hkl) (by omega) (l[k].1,idt,l[k].2.2) _ (by rw[mix_get _ _ _ hkl];rfl)] at h1
       rw[←mix_succ _ _ _ hkl,Hon.out,if_pos (by simp[Hv.out])]
       exact h1
     ·have hvb0:=Hv.out
      go_wp2
      go_roundg (l.length-(k+1))
      case measure=>omega
      case rel=>exact ⟨k+1,by omega,rfl,by go_num,by rw[mix_same _ _ _ hkl (by rw[Hon.out];simp)];exact hok,hgk⟩
    ·have hvb0:(l[k].2.1==0)=false:=beq_eq_false_iff_ne.2 hv
     go_wp2
     go_roundg (l.length-(k+1))
     case measure=>omega
     case rel=>exact ⟨k+1,by omega,rfl,by go_num,by rw[mix_same _ _ _ hkl (by rw[Hon.out,hvb0];simp)];exact hok,hgk⟩
  ·obtain rfl:k=l.length:=by omega
   go_wp2
   go_ret
   rw[mix_all] at hok
   exact ⟨.slice A1 l.length c1,rfl,by rw[HL.out];exact hok,hbw1.trans (below_of_grown hgk (by omega) (fun q hq=>by have:=hvb q hq;omega))⟩
theorem hops_any (rows:List NodeRow) (B base wb:Nat) (gv cv ov:Value) (rs:List ReachRow) (root i t:Nat) (cost data:Int) (virt:Bool) (w:World)
  (hw:Blk w wb 184 #[gv,.int .i64 root,cv,ov]) (hg:GraphAt w B gv rows) (hB:B≤w.heap.size) (ht:t<rows.length) (hn:rows.length≤250) (hi:i<rows.length) (hrl:root<rows.length)
  (ho:OutAt w base ov rs) (hrs:rs.length=rows.length) (hlen:rs[i].hops.length≤500000) :
  Calls Tryz.prog 134 #[.pointer (some ⟨wb,0,none⟩),.int .i64 i,.agg #[.int .i64 t,.int .u32 cost,.int .u32 data,.bool virt]] w
   fun e w'=>∃ v,e=.returned v∧w'.ownsRow w.heap.size 56 3 v (stepHops (nodesOf rows) root i ⟨t,cost,data,virt⟩ rs[i].hops).length ((stepHops (nodesOf rows) root i ⟨t,cost,data,virt⟩ rs[i].hops).flatMap hopCells)∧Below w.heap.size w w':=by
 unfold stepHops
 by_cases hir:i=root
 ·subst hir
  rw[if_pos rfl]
  exact hops_first rows B wb gv cv ov i t cost data virt w hw hg hB ht hn hrl
 ·rw[if_neg hir,List.length_map]
  exact hops_on rows B base wb gv cv ov rs root i t cost data virt w hw hg hB ht hn hi hir hrl ho hrs hlen
set_option maxRecDepth 100000
theorem intT:ElT Tryz.prog 205 3 1 8:=⟨by kernel_rfl,by
 obtain ⟨i,hi,h1,h2,h3⟩:=info_parts (show (Tryz.prog.info? 3).map (fun i=>(i.zero,i.size,i.bytes))=some (some (.int .i64 0),1,8) by kernel_rfl)
 exact ⟨i,_,hi,h1,h2,h3,rfl⟩,by omega⟩
def ints (l:List Nat):List Value:=l.map fun (i:Nat)=>.int .i64 (i:Int)
theorem own_ne {w:World} {b1 b2 e1 e2 s1 s2 n1 n2 k:Nat} {v1 v2:Value} {x1 x2:List Value} (h1:w.ownsRow b1 e1 s1 v1 n1 x1) (h2:w.ownsRow b2 e2 s2 v2 n2 x2) (hne:e1≠e2) (h:v1.ownBlock=some k):v2.ownBlock≠some k:=by
 rcases h1.2 with ⟨rfl,_⟩ | ⟨g1,c1,cur1,rfl,_,hg1,_⟩
 ·cases h
 ·rcases h2.2 with ⟨rfl,_⟩ | ⟨g2,c2,cur2,rfl,_,hg2,_⟩
  ·simp[Value.ownBlock]
  ·intro h3
   injection h with h
   injection h3 with h3
   have e:g1=g2:=h.trans h3.symm
   rw[e,hg2] at hg1
   injection hg1 with hg1
   injection hg1 with _ ht
   exact hne ht.symm
theorem run_tail {P:Program} {t e:TypeId} {s bytes:Nat} (E:ElT P t e s bytes) (A:Option Addr) (n cap:Nat) (_hc:n+1≤cap) (W:World) :
  (Instr.sliceAt t (.slice A (n+1) cap) (some (.int .i64 1)) none none).run P W=.ok (.slice (if cap=1 then A else A.map (·.add (1*s))) n (cap-1)) W:=by
 obtain ⟨i,z,hi,hz,hsz,hby,hzs⟩:=E.info
 have he:P.elem t=e:=by simp[Program.elem,E.sl]
 have hu:P.underlying t=some (.slice (P.elem t)):=by rw[he];exact E.sl
 rw[run_sliceAt_slice W t _ _ _ _ hu,run_slice_l W t A (n+1) cap hu .i64 1 (by omega) (by omega),he]
 simp[sizeOf,typeInfo,hi,hsz,sliced]
theorem tail_ex {P:Program} {t e:TypeId} {s bytes:Nat} (E:ElT P t e s bytes) {w:World} {base n:Nat} {v:Value} {x xs:List Value} (h:OwnO w base e s v (n+1) (x++xs)) (hx:x.length=s) :
  ∃ v2,(∀ W,(Instr.sliceAt t v (some (.int .i64 1)) none none).run P W=.ok v2 W)∧OwnO w base e s v2 n xs∧v2.ownBlock=v.ownBlock:=by
 have h':=h
 obtain ⟨_,A,cap,rfl,hc,_,hA,hcell⟩:=h'
 refine ⟨_,run_tail E A n cap hc,OwnO.tail h hx,?_⟩
 cases A with
 | none=>have:=hA rfl;omega
 | some ad =>
  obtain ⟨g,off,cur,rfl,_⟩:=hcell ad rfl
  split
  ·rfl
  ·simp[Value.ownBlock,addr_add]
theorem graph_keep {w w':World} {B:Nat} {v:Value} {rows:List NodeRow} (h:GraphAt w B v rows) (hk:∀ p:Addr,p.block<B→w'.cell? p=w.cell? p):GraphAt w' B v rows:=
 ⟨h.sl.keep hk,fun r hr=>(h.edges r hr).keep hk,h.svs⟩
def SRel (rows:List NodeRow) (root base:Nat) (w:World) (ov:Value) (c:List Int) (ics:List (Bool × Int)) (cur:Option (Nat × Nat)) (m:Nat) (tv:Value) (wr:World):Prop:=
 ∃ todo rs,SInv (nodesOf rows) root c todo (rs.map ReachRow.hops) cur∧rs.map (fun r=>(r.is,r.cost))=ics ∧
  2*(rows.length*((esOf (nodesOf rows) root).length*(rows.length+1))-sumH (rs.map ReachRow.hops))+todo.length≤m∧todo.length≤1+sumH (rs.map ReachRow.hops) ∧
  OwnO wr w.heap.size 3 1 tv todo.length (ints todo)∧OutAt wr base ov rs∧w.grownBy wr ov.ownBlock
theorem SRel.keep {rows:List NodeRow} {root base:Nat} {w:World} {ov:Value} {c:List Int} {ics:List (Bool × Int)} {cur:Option (Nat × Nat)} {m:Nat} {tv:Value} {wr wr':World}
  (h:SRel rows root base w ov c ics cur m tv wr) (hb:Below wr.heap.size wr wr'):SRel rows root base w ov c ics cur m tv wr':=by
 obtain ⟨todo,rs,h1,h2,h3,h4,h5,h6,h7⟩:=h
 exact ⟨todo,rs,h1,h2,h3,h4,h5.keep fun k hk _ _=>hb.block k hk,h6.same fun k hk=>hb.block k hk,grown_trans h7 (grown_of_below hb _)⟩
theorem own_mono {w:World} {base base':Nat} {e:TypeId} {s:Nat} {v:Value} {n:Nat} {xs:List Value} (h:w.ownsRow base e s v n xs) (hb:base'≤base):w.ownsRow base' e s v n xs:=
 ⟨h.1,h.2.imp id fun ⟨g,cap,cur,h1,h2,h3⟩=>⟨g,cap,cur,h1,n't hb h2,h3⟩⟩
theorem own_apart {w1 w2:World} {b1 e1 s1 n1 e2 s2 n2:Nat} {v1 v2:Value} {x1 x2:List Value} (h1:w1.ownsRow b1 e1 s1 v1 n1 x1) (h2:w2.ownsRow w1.heap.size e2 s2 v2 n2 x2):v2.ownBlock=none∨v2.ownBlock≠v1.ownBlock:=by
 cases h:v2.ownBlock with
 | none=>exact .inl rfl
 | some q =>
  refine .inr fun h3 => ?_
  have:=(h2.lt q h).1
  have:=(h1.lt q h3.symm).2
  omega
theorem own_apart2 {w2:World} {b2 e2 s2 n2:Nat} {v1 v2:Value} {x2:List Value} (h2:w2.ownsRow b2 e2 s2 v2 n2 x2) (h1:v1.ownBlock=none∨v1.ownBlock=some w2.heap.size):v2.ownBlock=none∨v2.ownBlock≠v1.ownBlock:=by
 cases h:v2.ownBlock with
 | none=>exact .inl rfl
 | some q =>
  refine .inr fun h3 => ?_
  have:=(h2.lt q h).2
  rcases h1 with h1 | h1 <;> rw[←h3] at h1
  ·cases h1
  ·injection h1 with h1;omega
theorem hAt_rows {rs:List ReachRow} {t:Nat} (h:t<rs.length):hAt (rs.map ReachRow.hops) t=rs[t].hops:=by simp[hAt,h]
theorem step_len (g:List GNode) (root i:Nat) (e:GEdge) (l:List Hop):(stepHops g root i e l).length≤l.length+1:=by
 unfold stepHops
 split <;> simp
theorem graph_edge {w:World} {B:Nat} {v:Value} {rows:List NodeRow} (h:GraphAt w B v rows) {i k n c:Nat} {A:Option Addr} {es:List GEdge} (hi:i<rows.length) (hev:rows[i].ev=.slice A n c) (hes:rows[i].node.edges=es) (hk:k<es.length) :
  ∃ be oe,A=some ⟨be,oe,none⟩∧be<B∧∀ j u,(edgeCells es[k])[j]?=some u→w.cell? ⟨be,oe+k*4+j,none⟩=some u:=by
 subst hes
 have h1:=h.edges _ (g'm hi)
 rw[hev] at h1
 have h2:=h1
 obtain ⟨_,A',c',hv,_⟩:=h2
 simp only[Value.slice.injEq] at hv
 obtain ⟨rfl,rfl,rfl⟩:=hv
 exact Sl.row edgeCells_len h1 hk
set_option maxHeartbeats 16000000 in
theorem spread_any (rows:List NodeRow) (B base wb:Nat) (gv cv ov:Value) (root:Nat) (c:List Int) (rs0:List ReachRow) (w:World)
  (hw:Blk w wb 184 #[gv,.int .i64 root,cv,ov]) (hg:GraphAt w B gv rows) (hBb:B≤base) (hbw:base≤w.heap.size) (hok:okG (nodesOf rows)) (hr:root<rows.length) (hn:rows.length≤250)
  (hU:(esOf (nodesOf rows) root).length*(rows.length+1)≤400000)
  (hc:w.ownsRow base 49 1 cv c.length (u64s c)) (hcl:c.length=rows.length) (hcr:∀ i,i<c.length→0≤at_ c i∧at_ c i≤far) (hwo:ov.ownBlock≠some wb)
  (ho:OutAt w base ov rs0) (hrs:rs0.length=rows.length) (hh0:rs0.map ReachRow.hops=List.replicate rows.length []) :
  Calls Tryz.prog 96 #[.pointer (some ⟨wb,0,none⟩)] w
   fun e w'=>e=.returned (.tuple #[])∧∃ rs,Hops (nodesOf rows) root c (rs.map ReachRow.hops)∧rs.map (fun r=>(r.is,r.cost))=rs0.map (fun r=>(r.is,r.cost))∧OutAt w' base ov rs∧w.grownBy w' ov.ownBlock:=by
 have hwl:=hw.lt
 have hw1:w.cell? ⟨wb,1,none⟩=some (.int .i64 root):=hw.cell 1
 obtain ⟨gc,cc,rfl,hcb,hcg⟩:=hc.form (by omega)
 have Hcr:=h'd hcr
 clear hcr
 go_enter Tryz.func96,Tryz.ntmps96
 go_wp2_with fail
 have hN:∀ i,(esOf (nodesOf rows) i).length=(esOf (nodesOf rows) i).length:=fun _=>rfl
 clear hN
 go_loopg [2] (2*(rows.length*((esOf (nodesOf rows) root).length*(rows.length+1)))+1) (fun m tv wr=>SRel rows root base w ov c (rs0.map fun r=>(r.is,r.cost)) none m tv wr∧w.heap.size<wr.heap.size)
 case atStart =>
  refine ⟨⟨[root],rs0,?_,rfl,?_,?_,?_,?_,?_⟩,by simp⟩
  ·rw[hh0]
   have:=SInv.start (g:=nodesOf rows) (c:=c) (root:=root) (by rw[nodesOf_len];exact hr)
   rw[nodesOf_len] at this;exact this
  ·simp;omega
  ·simp
  ·exact OwnO.of_own (World.ownsRow_lit (base:=w.heap.size) (e:=3) (size:=1) w #[.int .i64 root] 1 (n'r _) (by simp[maxLen]) rfl)
  ·exact ho.same fun k hk=>Below.heap_alloc _ _ _ hk
  ·exact grown_alloc (grown_refl _ _) _
 case round =>
  obtain ⟨⟨todo,rs,hinv,hics,hm,htl,hto,hoa,hgr⟩,hz⟩:=hrel
  obtain ⟨w1,rfl⟩:∃ x:World,x=wr:=⟨_,rfl⟩
  cases todo with
  | nil =>
   obtain ⟨_,A,cap,rfl,_⟩:=hto
   go_wp2
   go_end0
   exact ⟨rfl,rs,hinv.hops (by rw[nodesOf_len];exact hr),hics,hoa,hgr⟩
  | cons t0 rest =>
   have hto':OwnO w1 w.heap.size 3 1 u2 (rest.length+1) ([.int .i64 (t0:Int)]++ints rest):=hto
   obtain ⟨tv2,hsl,hto2,hob2⟩:=tail_ex intT hto' rfl
   obtain ⟨g2,o2,cap2,rfl,hc2,_,hbg2,hg2,hcell2⟩:=hto'.at_ (by omega)
   have ht0:=hcell2 0 _ rfl
   have htin:=hinv.tod t0 (List.mem_cons_self ..)
   have hlt:t0<rows.length:=by have:=htin.1;rw[nodesOf_len] at this;exact this
   simp only[Nat.add_zero] at ht0
   clear hcell2 hto hto'
   have hvl:=ho.row.lt
   have hwb1:=hw.same (hgr.block wb hwl hwo.symm)
   have hg1:GraphAt w1 B gv rows:=graph_keep hg fun p hp=>hgr.cell_far p (by omega) (fun e=>by have:=(hvl p.block e.symm).1;omega)
   have hcw1:=own_same hc (fun k hk=>hgr.block k (hc.lt k hk).2 (fun e=>own_ne hc ho.row (by decide) hk e.symm))
   have hgv:=hg1.sl
   obtain ⟨_,Ag,cg,rfl,_,_,_⟩:=hgv
   obtain ⟨bg,og,rfl,hbg,hrow⟩:=Sl.row nodeCells_len hg1.sl hlt
   have hev:=hrow 5 _ rfl
   obtain ⟨hel,A3,c3,he3,hec3,hcm3,hat3⟩:=hg1.edges _ (g'm hlt)
   rw[he3] at hev
   have He3:=h'd he3
   have hd0:w1.cell? ⟨wb,0,none⟩=some (.slice (some ⟨bg,og,none⟩) rows.length cg):=hwb1.cell 0
   have hesl:rows[t0].node.edges.length≤9223372036854775807:=by unfold maxLen at hcm3;omega
   clear hrow he3
   generalize hes:rows[t0].node.edges=es at *
   have Hes:=h'd hes
   clear hes
   go_wp2_with fail
   clear hsl ht0 hev hd0
   have hEs:esOf (nodesOf rows) t0=es:=by rw[esOf_rows hlt,Hes.out]
   have hrel1:SRel rows root base w ov c (rs0.map fun r=>(r.is,r.cost)) (some (t0,0)) (2*(rows.length*((esOf (nodesOf rows) root).length*(rows.length+1))-sumH (rs.map ReachRow.hops))+rest.length) tv2 w1:=
    ⟨rest,rs,hinv.begin,hics,n'r _,by simp at htl;omega,hto2,hoa,hgr⟩
   have hmm:2*(rows.length*((esOf (nodesOf rows) root).length*(rows.length+1))-sumH (rs.map ReachRow.hops))+rest.length<gk:=by simp at hm;omega
   generalize 2*(rows.length*((esOf (nodesOf rows) root).length*(rows.length+1))-sumH (rs.map ReachRow.hops))+rest.length=M at *
   have Hes2:=h'd hEs
   clear hEs hinv hics hm htl hto2 hoa hgr hg1 hcw1 hwb1 htin hob2
   go_loopg [2,29] es.length (fun m tv kk wr=>∃ k:Nat,k≤es.length∧m=es.length-k∧kk=.int .i64 k∧SRel rows root base w ov c (rs0.map fun r=>(r.is,r.cost)) (some (t0,k)) M tv wr∧w.heap.size<wr.heap.size∧w1.heap.size≤wr.heap.size)
   case atStart=>exact ⟨0,Nat.zero_le _,rfl,rfl,hrel1,hz,n'r _⟩
   case round =>
    clear hrel1 hrs hh0
    obtain ⟨k,hk,rfl,rfl,⟨todo,rs,hinv,hics,hm,htl,hto,hoa,hgr⟩,hz4,hz41⟩:=hrel
    obtain ⟨w4,rfl⟩:∃ x:World,x=wr:=⟨_,rfl⟩
    by_cases hkE:k<es.length
    ·have hwb4:=hw.same (hgr.block wb hwl hwo.symm)
     have hg4:GraphAt w4 B (.slice (some ⟨bg,og,none⟩) rows.length cg) rows:=graph_keep hg fun p hp=>hgr.cell_far p (by omega) (fun e=>by have:=(hvl p.block e.symm).1;omega)
     have hcw4:=own_same hc (fun k hk=>hgr.block k (hc.lt k hk).2 (fun e=>own_ne hc ho.row (by decide) hk e.symm))
     obtain ⟨be,oe,rfl,hbe,hee⟩:=graph_edge hg4 hlt He3.out Hes.out hkE
     have he0:=hee 0 _ rfl
     have he1:=hee 1 _ rfl
     have he2:=hee 2 _ rfl
     have he3:=hee 3 _ rfl
     simp only[Nat.add_zero] at he0
     have hek:∃ e,es[k]=e:=⟨_,rfl⟩
     obtain ⟨⟨eto,ecost,edata,evirt⟩,hek⟩:=hek
     have hcost:0≤ecost∧ecost≤4294967295:=by
      have:=esOf_cost hok (i:=t0) (e:=es[k]) (by rw[Hes2.out];exact g'm hkE)
      rw[hek] at this;exact this
     obtain ⟨hc0',hc1'⟩:=hcost
     rw[hek] at he0 he1 he2 he3
     simp only at he0 he1 he2 he3
     have hek2:(esOf (nodesOf rows) t0)[k]'(by rw[Hes2.out];exact hkE)=⟨eto,ecost,edata,evirt⟩:=by
      have e1:(esOf (nodesOf rows) t0)[k]'(by rw[Hes2.out];exact hkE)=es[k]:=by congr 1 <;> first | exact Hes2.out | rfl
      rw[e1,hek]
     have Hek:=h'd hek2
     have hq1:wb<w4.heap.size:=by omega
     have hq2:be<w4.heap.size:=by omega
     clear hee hek hek2
     have hd0:w4.cell? ⟨wb,0,none⟩=some (.slice (some ⟨bg,og,none⟩) rows.length cg):=hwb4.cell 0
     have hd1:w4.cell? ⟨wb,1,none⟩=some (.int .i64 root):=hwb4.cell 1
     have hd2:w4.cell? ⟨wb,2,none⟩=some (.slice (some ⟨gc,0,none⟩) c.length cc):=hwb4.cell 2
     have hd3:w4.cell? ⟨wb,3,none⟩=some ov:=hwb4.cell 3
     have hgc4:gc<w4.heap.size:=by omega
     have hct0:=hcw4.cellAt t0 (by omega)
     rw[u64s_get (by omega)] at hct0
     have hr0:=Hcr.out t0 (by omega)
     obtain ⟨hr00,hr01⟩:=hr0
     have hr02:at_ c t0≤4294967296:=hr01
     have hskip:∀ W,Below w4.heap.size w4 W→¬ Tight (nodesOf rows) root c t0 ⟨eto,ecost,edata,evirt⟩→SRel rows root base w ov c (rs0.map fun r=>(r.is,r.cost)) (some (t0,k+1)) M u2 W∧w.heap.size<W.heap.size∧w1.heap.size≤W.heap.size:=fun W hW hnt =>
      ⟨SRel.keep ⟨todo,rs,hinv.skip (by rw[Hes2.out];exact hkE) (fun ht=>absurd (by rw[Hek.out] at ht;exact ht) hnt),hics,hm,htl,hto,hoa,hgr⟩ hW,by have:=hW.size;omega,by have:=hW.size;omega⟩
     have Hskip:=h'd hskip
     have Hinv:=h'd hinv
     have Hics:=h'd hics
     have Htl:=h'd htl
     have Hg4:=h'd hg4
     clear hskip hinv hics htl hg4 hr01
     by_cases h1:0≤eto
     ·obtain ⟨t,rfl⟩:=Int.eq_ofNat_of_zero_le h1
      have hn1:decide ((t:Int)<0)=false:=d'f (by omega)
      by_cases h2:t<rows.length
      ·have hn2:decide ((rows.length:Int)≤(t:Int))=false:=d'f (by omega)
       have hn3:decide (rows.length≤t)=false:=d'f (by omega)
       have hct:=hcw4.cellAt t (by omega)
       rw[u64s_get (by omega)] at hct
       by_cases h3:t=root
       ·have hb3:((t:Int)==(root:Int))=true:=beq_iff_eq.2 (by rw[h3])
        have H3:=h'd h3
        clear h3
        go_wp2_with fail
        go_quiet (fail)
        go_wp2_with fail
        go_roundg (es.length-(k+1))
        case measure=>omega
        case rel=>exact ⟨k+1,by omega,rfl,by go_num,Hskip.out _ (below_drewN ((b'r _ _).alloc (n'r _) _) _) (fun ht=>ht.2.2.1 (by rw[H3.out]))⟩
       ·have hb3:((t:Int)==(root:Int))=false:=beq_eq_false_iff_ne.2 fun h=>h3 (Int.ofNat.inj h)
        by_cases h4:at_ c t0+ecost=at_ c t
        ·have hb4:(at_ c t0+ecost != at_ c t)=false:=by rw[h4];simp
         have H4:=h'd h4
         clear h4
         by_cases h5:at_ c t<far
         ·have h5':decide ((4294967296:Int)≤at_ c t)=false:=d'f (by unfold far at h5;omega)
          have H5:=h'd h5
          clear h5
          have htl:t<rs.length:=by
           have:=Hinv.out.len
           rw[List.length_map,nodesOf_len] at this;omega
          have ht0l:t0<rs.length:=by
           have:=Hinv.out.len
           rw[List.length_map,nodesOf_len] at this;omega
          obtain ⟨go,co,rfl,hco,hbgo,hgo,hgf,hro⟩:=own_row reachCells_len hoa.row htl
          have hrv:=hro 2 _ rfl
          have hhop:=hoa.hop _ (g'm htl)
          have hsm:=Hinv.out.small
          have hl1:rs[t].hops.length≤400000:=by
           have:=hsm t
           rw[hAt_rows htl,nodesOf_len] at this;omega
          have hl0:rs[t0].hops.length≤400000:=by
           have:=hsm t0
           rw[hAt_rows ht0l,nodesOf_len] at this;omega
          clear hsm
          go_wp2_with fail
          go_quiet (fail)
          go_wp2_with fail
          have hBx:Below w4.heap.size w4 ((w4.alloc (.cells #[.int .i64 t,.int .u32 ecost,.int .u32 edata,.bool evirt] 65)).drewN nq):=below_drewN ((b'r _ _).alloc (n'r _) _) nq
          have hbx:Blk ((w4.alloc (.cells #[.int .i64 t,.int .u32 ecost,.int .u32 edata,.bool evirt] 65)).drewN nq) w4.heap.size 65 #[.int .i64 t,.int .u32 ecost,.int .u32 edata,.bool evirt]:=Blk.new _ _ _
          generalize (w4.alloc (.cells #[.int .i64 t,.int .u32 ecost,.int .u32 edata,.bool evirt] 65)).drewN nq=w7 at *
          have hz7:w4.heap.size<w7.heap.size:=hbx.lt
          have hB0:Below w4.heap.size w4 w7:=hBx
          have hwb7:=hwb4.below hBx hq1
          have hg7:GraphAt w7 B (.slice (some ⟨bg,og,none⟩) rows.length cg) rows:=Hg4.out.below (hBx.mono (by omega))
          have hoa7:=hoa.same fun k hk=>hBx.block k hk
          have hhop7:=hoa7.hop _ (g'm htl)
          have hrow7:=own_row reachCells_len hoa7.row htl
          have hrv7:=(hBx.cell (p:=⟨go,t*3+2,none⟩) hgo).trans hrv
          have hto7:=hto.keep fun k hk _ _=>hBx.block k hk
          have hgr7:=grown_trans hgr (grown_of_below hBx _)
          have hgo7:go<w7.heap.size:=by omega
          have hwb7l:wb<w7.heap.size:=by omega
          have hS0:∀ W,Below w7.heap.size w7 W→W.cell? ⟨wb,3,none⟩=some (.slice (some ⟨go,0,none⟩) rs.length co):=fun W h=>(h.cell (p:=⟨wb,3,none⟩) hwb7l).trans (hwb7.cell 3)
          have hS1:∀ W,Below w7.heap.size w7 W→W.cell? ⟨w4.heap.size,0,none⟩=some (.int .i64 t):=fun W h=>(h.cell (p:=⟨w4.heap.size,0,none⟩) hz7).trans (hbx.cell 0)
          have hS2:∀ W,Below w7.heap.size w7 W→W.cell? ⟨w4.heap.size,1,none⟩=some (.int .u32 ecost):=fun W h=>(h.cell (p:=⟨w4.heap.size,1,none⟩) hz7).trans (hbx.cell 1)
          have hS3:∀ W,Below w7.heap.size w7 W→W.cell? ⟨w4.heap.size,2,none⟩=some (.int .u32 edata):=fun W h=>(h.cell (p:=⟨w4.heap.size,2,none⟩) hz7).trans (hbx.cell 2)
          have hS4:∀ W,Below w7.heap.size w7 W→W.cell? ⟨w4.heap.size,3,none⟩=some (.bool evirt):=fun W h=>(h.cell (p:=⟨w4.heap.size,3,none⟩) hz7).trans (hbx.cell 3)
          have hS5:∀ W,Below w7.heap.size w7 W→W.cell? ⟨go,t*3+2,none⟩=some rs[t].hv:=fun W h=>(h.cell (p:=⟨go,t*3+2,none⟩) hgo7).trans hrv7
          have hH:∀ W,Below w7.heap.size w7 W→Calls Tryz.prog 134 #[.pointer (some ⟨wb,0,none⟩),.int .i64 t0,.agg #[.int .i64 t,.int .u32 ecost,.int .u32 edata,.bool evirt]] W
            fun e w'=>∃ v,e=.returned v∧w'.ownsRow W.heap.size 56 3 v (stepHops (nodesOf rows) root t0 ⟨t,ecost,edata,evirt⟩ rs[t0].hops).length ((stepHops (nodesOf rows) root t0 ⟨t,ecost,edata,evirt⟩ rs[t0].hops).flatMap hopCells)∧Below W.heap.size W w':=fun W h =>
           hops_any rows B base wb _ _ _ rs root t0 t ecost edata evirt W (hwb7.below h hwb7l) (hg7.below (h.mono (by omega))) (by have:=h.size;omega) h2 hn hlt hr (hoa7.same fun k hk=>h.block k hk) (by have:=Hinv.out.len;rw[List.length_map,nodesOf_len] at this;exact this) (by omega)
          have hml:=step_len (nodesOf rows) root t0 ⟨t,ecost,edata,evirt⟩ rs[t0].hops
          generalize hmore:stepHops (nodesOf rows) root t0 ⟨t,ecost,edata,evirt⟩ rs[t0].hops=more at *
          have Hmore:=h'd hmore
          clear hmore hd0 hd1 hd2 hd3 he0 he1 he2 he3 hct0 hct hrv hro hrow7 hwb4
          have HH:=h'd hH
          have Hhop:=h'd hhop7
          have Hoa:=h'd hoa7
          have Hto:=h'd hto7
          have Hgr:=h'd hgr7
          clear hH hhop7 hoa7 hto7 hgr7 hoa hto hgr hcw4 hhop
          go_region_held3 (fun W=>Below w7.heap.size w7 W) (first | exact (b'r _ _).drew | assumption)
           (first
            | (refine step_append rfl (.const (.slice none 0 0)) (.tmp 96) 46 rfl w7.heap.size hopT (.slice none 0 0) 0 [] rfl (World.ownsRow_nil _ _ _ _) w7.heap.size _ _ _ rfl ((Sl.of_own Hhop.out).below (by assumption)) hops_oneCell (by simp only[maxLen];omega) (by omega) (Below.size (by assumption)) ?_;intro va wa howna hgra hoba;simp only[Nat.zero_add,List.nil_append] at howna;have hBa:Below w7.heap.size w7 wa:=Below.trans (by assumption) (below_of_grown hgra (Below.size (by assumption)) (by simp[Value.ownBlock])))
            | (go_at_call 134;refine c'm (HH.out _ (by assumption)) ?_;rintro e wh ⟨vh,rfl,hownh,hBh⟩;have hBh':Below w7.heap.size w7 wh:=Below.trans (by assumption) (hBh.mono (Below.size (by assumption))))
            | (go_at_call 65;first
              | (refine c'm (hput_any w7.heap.size va rs[t].hops more vh _ (Below.size (by assumption)) (own_below howna hBh) (Sl.of_own hownh) (fun _=>own_apart howna hownh) (by omega)) ?_;rintro e wp ⟨vp,rfl,hpo,hpg,hpob⟩;have hBp:Below w7.heap.size w7 wp:=Below.trans (by assumption) (below_of_grown hpg (Below.size (by assumption)) (fun q hq=>(howna.lt q hq).1)))
              | (refine c'm (hput_any w7.heap.size va rs[t].hops more vh _ (Below.size (by assumption)) howna (Sl.of_own (own_below hownh (below_of_grown hgra (n'r _) (by simp[Value.ownBlock])))) (fun _=>own_apart2 hownh (by simpa[Value.ownBlock] using hoba)) (by omega)) ?_;rintro e wp ⟨vp,rfl,hpo,hpg,hpob⟩;have hBp:Below w7.heap.size w7 wp:=Below.trans (by assumption) (below_of_grown hpg (Below.size (by assumption)) (fun q hq=>(howna.lt q hq).1)))))
          all_goals
           rw[List.take_length] at hpo
           have hT0:=hS0 wp hBp
           have hT1:=hS1 wp hBp
           have hT5:=hS5 wp hBp
           obtain ⟨Ah,ch,hhv⟩:=hopValue Hhop.out
           rw[hhv] at hT5
           have Hhv:=h'd hhv
           have hnpl:=puts_length rs[t].hops more
           generalize hnp:puts rs[t].hops more=np at *
           have Hnp:=h'd hnp
           obtain ⟨Ap,cp,rfl⟩:=hopValue hpo
           clear hhv hnp hS0 hS1 hS2 hS3 hS4 hS5 howna hownh hgra hoba hBa hBh hBh' hpg hpob
           have hzp:w7.heap.size≤wp.heap.size:=hBp.size
           by_cases hlen:np.length=rs[t].hops.length
           ·have hnb:((np.length:Int) != (rs[t].hops.length:Int))=false:=by rw[hlen];simp
            have hnb2:(np.length != rs[t].hops.length)=false:=by rw[hlen];simp
            have Hlen:=h'd hlen
            clear hlen
            go_wp2_with fail
            go_quiet (fail)
            go_wp2_with fail
            go_roundg (es.length-(k+1))
            case measure=>omega
            case rel =>
             have hpo2:=puts_old (l:=rs[t].hops) (m:=more) (by rw[Hnp.out];exact Hlen.out)
             refine ⟨k+1,by omega,rfl,by go_num,⟨todo,rs,Hinv.out.skip (by rw[Hes2.out];exact hkE) (fun _ x hx => ?_),Hics.out,hm,Htl.out,Hto.out.keep (fun k hk _ _=>hBp.block k hk),Hoa.out.same (fun k hk=>hBp.block k hk),grown_trans Hgr.out (grown_of_below (below_drewN hBp _) _)⟩,by simp;omega,by simp;omega⟩
             rw[Hek.out] at hx ⊢
             rw[hAt_rows ht0l,Hmore.out] at hx
             show x∈hAt (rs.map ReachRow.hops) t
             rw[hAt_rows htl]
             exact hpo2.2 x hx
           ·have hnb:((np.length:Int) != (rs[t].hops.length:Int))=true:=bne_iff_ne.2 (fun h=>hlen (Int.ofNat.inj h))
            have hnb2:(np.length != rs[t].hops.length)=true:=bne_iff_ne.2 hlen
            have Hlen:=h'd hlen
            clear hlen
            go_wp2_with fail
            go_quiet (fail)
            go_wp2_with fail
            have hoap:=own_below Hoa.out.row hBp
            have hgf1:=hoap.frozenAt (t*3+2)
            have hgow:go<w.heap.size:=(hvl go rfl).2
            have hst:=(hoap.stored (t*3+2) (.slice Ap np.length cp)).1
            rw[flat_set1 reachCells_len rs t 2 htl (by omega) (ReachRow.mk rs[t].is rs[t].cost (.slice Ap np.length cp) np) _ rfl] at hst
            have hto8:OwnO (wp.setCell ⟨go,t*3+2,none⟩ (.slice Ap np.length cp)) w.heap.size 3 1 u2 todo.length (ints todo):=
             Hto.out.keep fun k hk hkb _=>(Below.heap_setCell _ _ _ _ (show k≠go by omega)).trans (hBp.block k hk)
            have hhop8:∀ r∈rs.set t (ReachRow.mk rs[t].is rs[t].cost (.slice Ap np.length cp) np),(wp.setCell ⟨go,t*3+2,none⟩ (.slice Ap np.length cp)).ownsRow base 56 3 r.hv r.hops.length (r.hops.flatMap hopCells):=fun r hr=>by
             have hmem:r∈rs∨r=(ReachRow.mk rs[t].is rs[t].cost (.slice Ap np.length cp) np):=List.mem_or_eq_of_mem_set hr
             rcases hmem with hmem | rfl
             ·have h9:=own_below (Hoa.out.hop r hmem) hBp
              exact ownsRow_setCell_other (a:=⟨go,t*3+2,none⟩) h9 (own_ne hoap h9 (by decide) rfl) _
             ·have h9:wp.ownsRow base 56 3 (.slice Ap np.length cp) np.length (np.flatMap hopCells):=own_mono hpo (by omega)
              exact ownsRow_setCell_other (a:=⟨go,t*3+2,none⟩) h9 (own_ne hoap h9 (by decide) rfl) _
            have hgr8:w.grownBy (wp.setCell ⟨go,t*3+2,none⟩ (.slice Ap np.length cp)) (some go):=grown_setCell (p:=⟨go,t*3+2,none⟩) (grown_trans Hgr.out (grown_of_below hBp _)) (.inl rfl) _
            have htd:todo.length≤200000000:=by
             have h9:=Hinv.out.sum
             have h10:=Htl.out
             rw[nodesOf_len] at h9
             have h11:rows.length*((esOf (nodesOf rows) root).length*(rows.length+1))≤250*400000:=Nat.mul_le_mul hn hU
             omega
            have hbx8:(wp.setCell ⟨go,t*3+2,none⟩ (.slice Ap np.length cp)).cell? ⟨w4.heap.size,0,none⟩=some (.int .i64 t):=by
             rw[World.cell?_setCell_other _ _ _ _ (by intro e;injection e;omega)];exact hT1
            have Hto8:=h'd hto8
            have Hst8:=h'd hst
            have Hhop8:=h'd hhop8
            have Hgr8:=h'd hgr8
            clear hto8 hst hhop8 hgr8
            go_region
            have Hto9:Hid (OwnO ((wp.drewN (nq+1)).setCell ⟨go,t*3+2,none⟩ (.slice Ap np.length cp)) w.heap.size 3 1 u2 todo.length (ints todo)):=Hto8
            have Hrow9:Hid (((wp.drewN (nq+1)).setCell ⟨go,t*3+2,none⟩ (.slice Ap np.length cp)).ownsRow base 117 3 (.slice (some ⟨go,0,none⟩) rs.length co) rs.length ((rs.set t (ReachRow.mk rs[t].is rs[t].cost (.slice Ap np.length cp) np)).flatMap reachCells)):=Hst8
            have Hhop9:Hid (∀ r∈rs.set t (ReachRow.mk rs[t].is rs[t].cost (.slice Ap np.length cp) np),((wp.drewN (nq+1)).setCell ⟨go,t*3+2,none⟩ (.slice Ap np.length cp)).ownsRow base 56 3 r.hv r.hops.length (r.hops.flatMap hopCells)):=Hhop8
            have Hgr9:Hid (w.grownBy ((wp.drewN (nq+1)).setCell ⟨go,t*3+2,none⟩ (.slice Ap np.length cp)) (some go)):=⟨Hgr8.out.os,Hgr8.out.tape,Hgr8.out.output,Hgr8.out.size,Hgr8.out.block⟩
            have hbx9:((wp.drewN (nq+1)).setCell ⟨go,t*3+2,none⟩ (.slice Ap np.length cp)).cell? ⟨w4.heap.size,0,none⟩=some (.int .i64 t):=hbx8
            have hz9:w7.heap.size≤((wp.drewN (nq+1)).setCell ⟨go,t*3+2,none⟩ (.slice Ap np.length cp)).heap.size:=by simpa using hzp
            clear Hto8 Hst8 Hhop8 Hgr8 hbx8 hgf1
            generalize (wp.drewN (nq+1)).setCell ⟨go,t*3+2,none⟩ (.slice Ap np.length cp)=w9 at *
            go_wp2_with (at_builtin;refine wpList_append_o (v:=u2) rfl (.tmp 125) (.tmp 128) 205 rfl intT rfl (Hto9.out.keep (fun k hk _ _=>Below.heap_alloc _ _ _ hk)) _ _ 1 [.int .i64 t] rfl (Sl.lit w9 #[.int .i64 t] 3 (by simp[maxLen]) rfl) (by simp[Value.oneCell']) (by simp only[maxLen];omega) (by omega) (by simp;omega) ?_;intro vt w10 hto10 hgr10 hob10)
            go_roundg (es.length-(k+1))
            case measure=>omega
            case rel =>
             have hstep:=Hinv.out.step (by rw[Hes2.out];exact hkE) (by rw[Hek.out];exact ⟨by simp,by rw[nodesOf_len];simp;omega,fun h=>h3 (Int.ofNat.inj h),H4.out,H5.out⟩) (by
              rw[Hek.out]
              show (puts (hAt (rs.map ReachRow.hops) t) (stepHops (nodesOf rows) root t0 ⟨t,ecost,edata,evirt⟩ (hAt (rs.map ReachRow.hops) t0))).length≠(hAt (rs.map ReachRow.hops) t).length
              rw[hAt_rows htl,hAt_rows ht0l,Hmore.out,Hnp.out];exact Hlen.out)
             rw[Hek.out] at hstep
             have hstep:SInv (nodesOf rows) root c (todo++[t]) ((rs.map ReachRow.hops).set t (puts (hAt (rs.map ReachRow.hops) t) (stepHops (nodesOf rows) root t0 ⟨t,ecost,edata,evirt⟩ (hAt (rs.map ReachRow.hops) t0)))) (some (t0,k+1)):=hstep
             rw[hAt_rows htl,hAt_rows ht0l,Hmore.out,Hnp.out] at hstep
             have hmap:(rs.set t (ReachRow.mk rs[t].is rs[t].cost (.slice Ap np.length cp) np)).map ReachRow.hops=(rs.map ReachRow.hops).set t np:=by rw[List.map_set]
             have hics':(rs.set t (ReachRow.mk rs[t].is rs[t].cost (.slice Ap np.length cp) np)).map (fun r=>(r.is,r.cost))=rs0.map fun r=>(r.is,r.cost):=by
              rw[List.map_set,←Hics.out]
              have e1:(rs.map fun r=>(r.is,r.cost))[t]'(by simpa using htl)=(rs[t].is,rs[t].cost):=by simp
              rw[←e1,List.set_getElem_self]
             have hgrow:(hAt (rs.map ReachRow.hops) t).length<np.length:=by
              rw[hAt_rows htl]
              have h9:=puts_grow rs[t].hops more
              rw[Hnp.out] at h9
              have h10:=Hlen.out
              omega
             have hsum:=(sumH_set (H:=rs.map ReachRow.hops) (t:=t) (l:=np) (by simpa using htl) hgrow).1
             have hsumN:=hstep.sum
             rw[nodesOf_len] at hsumN
             rw[←hmap] at hstep hsum hsumN
             have hne10:∀ k,base≤k→k<w9.heap.size→some k≠u2.ownBlock→w10.heap[k]?=w9.heap[k]?:=fun k _ hk hne=>(hgr10.block k (by simp;omega) hne).trans (Below.heap_alloc _ _ _ hk)
             have htw:=Htl.out
             have hm1:2*(rows.length*((esOf (nodesOf rows) root).length*(rows.length+1))-sumH ((rs.set t (ReachRow.mk rs[t].is rs[t].cost (.slice Ap np.length cp) np)).map ReachRow.hops))+(todo.length+1)≤M:=by
              generalize rows.length*((esOf (nodesOf rows) root).length*(rows.length+1))=N at hm hsumN ⊢
              omega
             have hm2:todo.length+1≤1+sumH ((rs.set t (ReachRow.mk rs[t].is rs[t].cost (.slice Ap np.length cp) np)).map ReachRow.hops):=by
              clear hm hm1 hsumN
              omega
             refine ⟨k+1,by omega,rfl,by go_num,⟨todo++[t],_,hstep,hics',by simpa only[l'a,List.length_singleton] using hm1,by simpa only[l'a,List.length_singleton] using hm2,?_,⟨?_,fun r hr => ?_⟩,?_⟩,by have:=hgr10.size;simp at this;omega,by have:=hgr10.size;simp at this;omega⟩
             ·have e1:ints (todo++[t])=ints todo++[.int .i64 (t:Int)]:=by simp[ints]
              rw[e1,l'a]
              exact hto10
             ·rw[List.length_set]
              exact own_same Hrow9.out fun k hk=>hne10 k (Hrow9.out.lt k hk).1 (Hrow9.out.lt k hk).2 (Hto9.out.ne_ Hrow9.out (by decide) hk)
             ·have h9:=Hhop9.out r hr
              exact own_same h9 fun k hk=>hne10 k (h9.lt k hk).1 (h9.lt k hk).2 (Hto9.out.ne_ h9 (by decide) hk)
             ·refine grown_step (grown_alloc Hgr9.out _) hgr10 ?_
              cases hu:u2.ownBlock with
              | none=>exact .inr (.inl rfl)
              | some q=>exact .inr (.inr ⟨q,rfl,(Hto9.out.lt q hu).1⟩)
         ·have h5':decide ((4294967296:Int)≤at_ c t)=true:=d't (by unfold far at h5;omega)
          have H5:=h'd h5
          clear h5
          go_wp2_with fail
          go_quiet (fail)
          go_wp2_with fail
          go_roundg (es.length-(k+1))
          case measure=>omega
          case rel=>exact ⟨k+1,by omega,rfl,by go_num,Hskip.out _ (below_drewN ((b'r _ _).alloc (n'r _) _) _) (fun ht=>absurd ht.2.2.2.2 (Int.not_lt.2 H5.out))⟩
        ·have hb4:(at_ c t0+ecost != at_ c t)=true:=bne_iff_ne.2 h4
         have H4:=h'd h4
         clear h4
         go_wp2_with fail
         go_quiet (fail)
         go_wp2_with fail
         go_roundg (es.length-(k+1))
         case measure=>omega
         case rel=>exact ⟨k+1,by omega,rfl,by go_num,Hskip.out _ (below_drewN ((b'r _ _).alloc (n'r _) _) _) (fun ht=>H4.out ht.2.2.2.1)⟩
      ·have hn2:decide ((rows.length:Int)≤(t:Int))=true:=d't (by omega)
       have hn3:decide (rows.length≤t)=true:=d't (by omega)
       go_wp2_with fail
       go_quiet (fail)
       go_wp2_with fail
       go_roundg (es.length-(k+1))
       case measure=>omega
       case rel=>exact ⟨k+1,by omega,rfl,by go_num,Hskip.out _ (below_drewN ((b'r _ _).alloc (n'r _) _) _) (fun ht=>by have:=ht.2.1;rw[nodesOf_len] at this;simp at this;omega)⟩
     ·have h1':eto<0:=by omega
      have H1:=h'd h1
      clear h1
      go_wp2_with fail
      go_quiet (fail)
      go_wp2_with fail
      go_roundg (es.length-(k+1))
      case measure=>omega
      case rel=>exact ⟨k+1,by omega,rfl,by go_num,Hskip.out _ (below_drewN ((b'r _ _).alloc (n'r _) _) _) (fun ht=>absurd ht.1 (Int.not_le.2 H1.out))⟩
    ·obtain rfl:k=es.length:=by omega
     go_wp2_with fail
     go_roundg M
     case measure=>omega
     case rel =>
      rw[←Hes2.out] at hinv
      exact ⟨⟨todo,rs,hinv.finish,hics,hm,htl,hto,hoa,hgr⟩,hz4⟩
set_option maxRecDepth 100000
theorem reachT:ElT Tryz.prog 114 117 3 32:=⟨by kernel_rfl,by
 obtain ⟨i,hi,h1,h2,h3⟩:=info_parts (show (Tryz.prog.info? 117).map (fun i=>(i.zero,i.size,i.bytes))=some (some (.agg #[.bool false,.int .u32 0,.slice none 0 0]),3,32) by kernel_rfl)
 exact ⟨i,_,hi,h1,h2,h3,rfl⟩,by omega⟩
theorem make_ex {P:Program} {t e:TypeId} {size bytes:Nat} (E:ElT P t e size bytes) {α:Type} (f:α→List Value) (hf:∀ x,(f x).length=size) (x0:α) (hz:(P.info? e).map (fun i=>i.zero.map fun z=>z.cells.toList)=some (some (f x0)))
  (n:Nat) (b2:bytes*n≤281474976710656) (b3:n≤9223372036854775807) :
  ∃ Z:Array Value,Z.toList=(List.replicate n x0).flatMap f∧∀ W:World,(Instr.makeSlice t (.int .i64 (n:Int)) (.int .i64 (n:Int))).run P W=.ok (.slice (some ⟨W.heap.size,0,none⟩) n n) (W.alloc (.cells Z e)):=by
 obtain ⟨i,z,hi,hz',hsz,hby,hzs⟩:=E.info
 have hzz:z.cells.toList=f x0:=by simpa[hi,hz'] using hz
 refine ⟨_,made_flat hf x0 n z.cells hzz E.pos,fun W => ?_⟩
 have hb:(i.bytes:Int)*(n:Int)≤281474976710656:=by
  have h:((i.bytes*n:Nat):Int)≤281474976710656:=by rw[hby];omega
  rwa[Int.natCast_mul] at h
 have hr:=run_make (P:=P) W t e i z E.sl hi hz' .i64 .i64 n n (by omega) (by omega) hb (by omega)
 simp only[Int.toNat_natCast] at hr
 rw[hr,hsz]
theorem flat_splice {α:Type} {f:α→List Value} {s:Nat} (hf:∀ x,(f x).length=s) (l:List α) (k:Nat) (hk:k<l.length) (x:α):splice (l.flatMap f) (k*s) (f x)=(l.set k x).flatMap f:=by
 unfold splice
 rw[flat_take hf,hf,show k*s+s=(k+1)*s by rw[Nat.succ_mul],flat_drop hf,List.set_eq_take_append_cons_drop,if_pos hk,List.flatMap_append,List.flatMap_cons]
def rowOf (x:Int):ReachRow:=if x<far then ReachRow.mk true x (.slice none 0 0) [] else ReachRow.mk false 0 (.slice none 0 0) []
def rowsTo (cs:List Int) (n k:Nat):List ReachRow:=(cs.take k).map rowOf++List.replicate (n-k) (ReachRow.mk false 0 (.slice none 0 0) [])
theorem rowsTo_len {cs:List Int} {n k:Nat} (hc:cs.length=n) (hk:k≤n):(rowsTo cs n k).length=n:=by simp[rowsTo];omega
theorem rowsTo_succ {cs:List Int} {n k:Nat} (hc:cs.length=n) (hk:k<n):(rowsTo cs n k).set k (rowOf (at_ cs k))=rowsTo cs n (k+1):=by
 unfold rowsTo
 have e1:cs.take (k+1)=cs.take k++[at_ cs k]:=by
  rw[t'k (by omega)]
  simp[at_,show k<cs.length by omega]
 have hl:((cs.take k).map rowOf).length=k:=by simp;omega
 rw[List.set_append_right _ _ (by omega),hl,Nat.sub_self,show n-k=(n-(k+1))+1 by omega,List.replicate_succ,s'z,e1,List.map_append,List.append_assoc]
 rfl
theorem rowsTo_same {cs:List Int} {n k:Nat} (hc:cs.length=n) (hk:k<n) (h:¬ at_ cs k<far):rowsTo cs n (k+1)=rowsTo cs n k:=by
 rw[←rowsTo_succ hc hk]
 have hl:((cs.take k).map rowOf).length=k:=by simp;omega
 have e1:rowOf (at_ cs k)=ReachRow.mk false 0 (.slice none 0 0) []:=by unfold rowOf;rw[if_neg h]
 rw[e1]
 unfold rowsTo
 rw[List.set_append_right _ _ (by omega),hl,Nat.sub_self,show n-k=(n-(k+1))+1 by omega,List.replicate_succ,s'z]
theorem rowsTo_all {cs:List Int} {n:Nat} (hc:cs.length=n):rowsTo cs n n=cs.map rowOf:=by
 unfold rowsTo;rw[Nat.sub_self,List.take_of_length_le (by omega)];simp
theorem rowsTo_zero (cs:List Int) (n:Nat):rowsTo cs n 0=List.replicate n (ReachRow.mk false 0 (.slice none 0 0) []):=by simp[rowsTo]
theorem hops_rowOf (cs:List Int):(cs.map rowOf).map ReachRow.hops=List.replicate cs.length []:=by
 induction cs with
 | nil=>rfl
 | cons x r ih =>
  simp only[List.map_cons,List.length_cons,List.replicate_succ,ih]
  congr 1
  unfold rowOf;split <;> rfl
def NoZero (rows:List NodeRow):Prop:=∀ r∈rows,r.node.network=false→r.node.id≠0
theorem from_out (A:Option Addr) (n c:Nat) (root:Int) (w:World) (h:root<0∨(n:Int)≤root) :
  Calls Tryz.prog 51 #[.slice A n c,.int .i64 root] w fun e w'=>e=.returned (.slice none 0 0)∧w=w':=by
 rcases h with h | h
 ·go_enter Tryz.func51,Tryz.ntmps51
  go_wp2
  go_ret
  exact ⟨rfl,rfl⟩
 ·by_cases h0:root<0
  ·go_enter Tryz.func51,Tryz.ntmps51
   go_wp2
   go_ret
   exact ⟨rfl,rfl⟩
  ·go_enter Tryz.func51,Tryz.ntmps51
   go_wp2
   go_ret
   exact ⟨rfl,rfl⟩
def FromRes (w:World) (rows:List NodeRow) (root:Nat) (e:Ending) (w':World):Prop:=
 ∃ v rs c,e=.returned v∧OutAt w' w.heap.size v rs∧Below w.heap.size w w'∧Costs (nodesOf rows) root c∧Hops (nodesOf rows) root c (rs.map ReachRow.hops) ∧
  rs.map (fun r=>(r.is,r.cost))=c.map fun x=>if x<far then (true,x) else (false,0)
def FromPost (w:World) (rows:List NodeRow) (root:Nat) (e:Ending) (w':World):Prop:=
 (NoZero rows∧FromRes w rows root e w')∨(¬ NoZero rows∧e=.returned (.slice none 0 0)∧Below w.heap.size w w')
set_option maxHeartbeats 4000000 in
theorem from_any (rows:List NodeRow) (gv:Value) (root:Nat) (w:World) (hg:GraphAt w w.heap.size gv rows) (hok:okG (nodesOf rows)) (hr:root<rows.length) (hn:rows.length≤250)
  (hU:(esOf (nodesOf rows) root).length*(rows.length+1)≤400000) :
  Calls Tryz.prog 51 #[gv,.int .i64 root] w (FromPost w rows root):=by
 have hgs:=hg.sl
 obtain ⟨_,A,c,rfl,_,_,_⟩:=hgs
 have hn1:decide ((root:Int)<0)=false:=d'f (by omega)
 have hn2:decide ((rows.length:Int)≤(root:Int))=false:=d'f (by omega)
 have hn3:decide (rows.length≤root)=false:=d'f (by omega)
 go_enter Tryz.func51,Tryz.ntmps51
 go_wp2_with fail
 clear hn1 hn2 hn3
 go_loopg [20] rows.length (fun m i wr=>∃ k:Nat,k≤rows.length∧m=rows.length-k∧i=.int .i64 k∧(∀ j (hj:j<rows.length),j<k→rows[j].node.network=false→rows[j].node.id≠0)∧Below w.heap.size w wr)
 case atStart=>exact ⟨0,Nat.zero_le _,rfl,rfl,fun _ _ h=>absurd h (by omega),b'r _ _⟩
 case round =>
  obtain ⟨k,hk,rfl,rfl,hnz,hbk⟩:=hrel
  obtain ⟨w1,rfl⟩:∃ x:World,x=wr:=⟨_,rfl⟩
  have Hnz:=h'd hnz
  clear hnz
  have hg1:=hg.below hbk
  by_cases hkl:k<rows.length
  ·obtain ⟨bg,og,rfl,hbg,hrow⟩:=Sl.row nodeCells_len hg1.sl hkl
   have h0:=hrow 0 _ rfl
   have h1:=hrow 1 _ rfl
   have h2:=hrow 2 _ rfl
   have h3:=hrow 3 _ rfl
   have h4:=hrow 4 _ rfl
   have h5:=hrow 5 _ rfl
   have h6:=hrow 6 _ rfl
   simp only[Nat.add_zero] at h0
   obtain ⟨_,A5,c5,he5,_⟩:=hg1.edges _ (g'm hkl)
   obtain ⟨A6,n6,c6,he6⟩:=hg1.svs _ (g'm hkl)
   rw[he5] at h5
   rw[he6] at h6
   have Hg:=h'd hg
   have hzw:w.heap.size≤w1.heap.size:=hbk.size
   clear hrow he5 he6 hg1 hg
   generalize hnet:rows[k].node.network=net at *
   generalize hid:rows[k].node.id=ident at *
   have Hnet:=h'd hnet
   have Hid':=h'd hid
   clear hnet hid
   cases net
   ·by_cases hz:ident=0
    ·have hzb:(ident==0)=true:=beq_iff_eq.2 hz
     have Hz:=h'd hz
     clear hz
     go_wp2_with fail
     go_ret
     exact .inr ⟨fun h=>h _ (g'm hkl) Hnet.out (by rw[Hid'.out];exact Hz.out),rfl,hbk.alloc (by omega) _⟩
    ·have hzb:(ident==0)=false:=beq_eq_false_iff_ne.2 hz
     have Hz:=h'd hz
     clear hz
     go_wp2_with fail
     go_roundg (rows.length-(k+1))
     case measure=>omega
     case rel =>
      refine ⟨k+1,by omega,rfl,by go_num,fun j hj hjk hjn => ?_,hbk.alloc (by omega) _⟩
      by_cases e:j=k
      ·subst e;rw[Hid'.out];exact Hz.out
      ·exact Hnz.out j hj (by omega) hjn
   ·go_wp2_with fail
    go_roundg (rows.length-(k+1))
    case measure=>omega
    case rel =>
     refine ⟨k+1,by omega,rfl,by go_num,fun j hj hjk hjn => ?_,hbk.alloc (by omega) _⟩
     by_cases e:j=k
     ·subst e;rw[Hnet.out] at hjn;cases hjn
     ·exact Hnz.out j hj (by omega) hjn
  ·obtain rfl:k=rows.length:=by omega
   have hNZ:Hid (NoZero rows):=fun r hr hrn=>by
    obtain ⟨j,hj,rfl⟩:=List.mem_iff_getElem.1 hr
    exact Hnz.out j hj hj hrn
   have Hg1:=h'd hg1
   have hzw:w.heap.size≤w1.heap.size:=hbk.size
   go_wp2_with fail
   clear hg hg1
   have HC:Hid (∀ W,Below w1.heap.size w1 W→Calls Tryz.prog 95 #[.slice A rows.length c,.int .i64 root] W (CostPost W (nodesOf rows) root)):=fun W hW =>
    costs_any rows _ root W ((Hg1.out.below (hW.mono hzw)).more (by have:=hW.size;omega)) hok hr hn
   obtain ⟨Z,hZ,hmk⟩:=make_ex reachT reachCells reachCells_len (ReachRow.mk false 0 (.slice none 0 0) []) (by kernel_rfl) rows.length (by omega) (by omega)
   have HZ:=h'd hZ
   clear hZ
   go_region_held3 (fun W=>Below w1.heap.size w1 W) (first | exact (b'r _ _).drew | assumption | exact Below.alloc (by assumption) (Below.size (by assumption)) _)
    (first
     | (go_at_call 95;refine c'm (HC.out _ (by assumption)) ?_;rintro e wc ⟨cv,cs,rfl,hownc,hcosts,hBc⟩;obtain ⟨Ac,cc,rfl⟩:=hopValue hownc;have hBc':Below w1.heap.size w1 wc:=Below.trans (by assumption) (hBc.mono (Below.size (by assumption)))))
   all_goals
    have hcl:cs.length=rows.length:=by rw[hcosts.len,nodesOf_len]
    have hZs:Z.size=rows.length*3:=by rw[←Array.length_toList,HZ.out,flat_len reachCells_len,List.length_replicate]
    first
     | (
       have hsz:Below w1.drew.heap.size w1.drew wc:=hBc
       have hrow:=(World.ownsRow_lit (base:=w1.heap.size) (e:=117) (size:=3) wc Z rows.length hBc'.size (by simp only[maxLen];omega) hZs).alloc (Obj.cells #[.slice A rows.length c,.int .i64 root,.slice Ac cs.length cc,.slice (some ⟨wc.heap.size,0,none⟩) rows.length rows.length] 184)
       have hblk:Blk ((wc.alloc (Obj.cells Z 117)).alloc (Obj.cells #[.slice A rows.length c,.int .i64 root,.slice Ac cs.length cc,.slice (some ⟨wc.heap.size,0,none⟩) rows.length rows.length] 184)) (wc.heap.size+1) 184 #[.slice A rows.length c,.int .i64 root,.slice Ac cs.length cc,.slice (some ⟨wc.heap.size,0,none⟩) rows.length rows.length]:=by
        have:=Blk.new (wc.alloc (Obj.cells Z 117)) 184 #[.slice A rows.length c,.int .i64 root,.slice Ac cs.length cc,.slice (some ⟨wc.heap.size,0,none⟩) rows.length rows.length]
        rwa[World.size_alloc] at this
       have hcost:=((own_mono hownc (n'r _)).alloc (Obj.cells Z 117)).alloc (Obj.cells #[.slice A rows.length c,.int .i64 root,.slice Ac cs.length cc,.slice (some ⟨wc.heap.size,0,none⟩) rows.length rows.length] 184)
       have hB2:Below w1.heap.size w1 ((wc.alloc (Obj.cells Z 117)).alloc (Obj.cells #[.slice A rows.length c,.int .i64 root,.slice Ac cs.length cc,.slice (some ⟨wc.heap.size,0,none⟩) rows.length rows.length] 184)):=(hBc'.alloc hBc'.size _).alloc (by have:=hBc'.size;simp;omega) _
       have hgw:wc.heap.size≠wc.heap.size+1:=by omega
       have hgo1:w1.heap.size≤wc.heap.size:=hBc'.size
       clear hBc hBc' hsz
       generalize (wc.alloc (Obj.cells Z 117)).alloc (Obj.cells #[.slice A rows.length c,.int .i64 root,.slice Ac cs.length cc,.slice (some ⟨wc.heap.size,0,none⟩) rows.length rows.length] 184)=w2 at *
       generalize hwb:wc.heap.size+1=wb at *
       generalize hgo:wc.heap.size=go at *
       clear hwb hgo)
     | (
       have hsz:(w1.alloc (Obj.cells Z 117)).drew.heap.size=w1.heap.size+1:=by simp
       rw[hsz] at hBc hownc
       have hrow0:=World.ownsRow_lit (base:=w1.heap.size) (e:=117) (size:=3) w1 Z rows.length (n'r _) (by simp only[maxLen];omega) hZs
       have hrow1:=own_same (w':=wc) hrow0 (fun k hk=>hBc.block k (by injection hk with hk;rw[←hk];exact Nat.lt_succ_self _))
       have hrow:=hrow1.alloc (Obj.cells #[.slice A rows.length c,.int .i64 root,.slice Ac cs.length cc,.slice (some ⟨w1.heap.size,0,none⟩) rows.length rows.length] 184)
       have hblk:=Blk.new wc 184 #[.slice A rows.length c,.int .i64 root,.slice Ac cs.length cc,.slice (some ⟨w1.heap.size,0,none⟩) rows.length rows.length]
       have hcost:=(own_mono (base':=w1.heap.size) hownc (by omega)).alloc (Obj.cells #[.slice A rows.length c,.int .i64 root,.slice Ac cs.length cc,.slice (some ⟨w1.heap.size,0,none⟩) rows.length rows.length] 184)
       have hB2:Below w1.heap.size w1 (wc.alloc (Obj.cells #[.slice A rows.length c,.int .i64 root,.slice Ac cs.length cc,.slice (some ⟨w1.heap.size,0,none⟩) rows.length rows.length] 184)):=hBc'.alloc hBc'.size _
       have hgw:w1.heap.size≠wc.heap.size:=by have:=hBc.size;simp at this;omega
       have hgo1:w1.heap.size≤w1.heap.size:=n'r _
       clear hBc hBc' hsz hrow0 hrow1
       generalize wc.alloc (Obj.cells #[.slice A rows.length c,.int .i64 root,.slice Ac cs.length cc,.slice (some ⟨w1.heap.size,0,none⟩) rows.length rows.length] 184)=w2 at *
       generalize hwb:wc.heap.size=wb at *
       have hgow:∃ go,w1.heap.size=go:=⟨_,rfl⟩
       clear hwb)
   ·rw[HZ.out,←rowsTo_zero cs] at hrow
    obtain ⟨gc,cc2,hcv,hcb,hcg⟩:=hcost.form (by omega)
    simp only[Value.slice.injEq] at hcv
    obtain ⟨rfl,_,rfl⟩:=hcv
    have hw2c:w2.cell? ⟨wb,2,none⟩=some (.slice (some ⟨gc,0,none⟩) cs.length cc):=hblk.cell 2
    have hgcgo:gc≠go:=fun h=>own_ne hcost hrow (by decide) rfl (by rw[h];rfl)
    have hwbl:=hblk.lt
    have hgol:go<w2.heap.size:=(hrow.lt go rfl).2
    have Hhc:=h'd hcl
    go_wp2_with fail
    go_loopg [48] cs.length (fun m i wr=>∃ k:Nat,k≤cs.length∧m=cs.length-k∧i=.int .i64 k∧wr.ownsRow w1.heap.size 117 3 (.slice (some ⟨go,0,none⟩) rows.length rows.length) rows.length ((rowsTo cs rows.length k).flatMap reachCells)∧w2.grownBy wr (some go))
    case atStart=>exact ⟨0,Nat.zero_le _,rfl,rfl,hrow,grown_refl _ _⟩
    case round =>
     obtain ⟨k,hk,rfl,rfl,hok1,hgk⟩:=hrel
     obtain ⟨w3,rfl⟩:∃ x:World,x=wr:=⟨_,rfl⟩
     by_cases hkl:k<cs.length
     ·have hx:=(hgk.cell_far ⟨gc,k,none⟩ hcg (by simpa using hgcgo)).trans ((hcost.cellAt k (by omega)).trans (u64s_get hkl))
      have hd3:=(hgk.cell_far ⟨wb,3,none⟩ hwbl (by simpa using Ne.symm hgw)).trans (hblk.cell 3)
      have hd3':w3.cell? ⟨wb,3,none⟩=some (.slice (some ⟨go,0,none⟩) rows.length rows.length):=hd3
      have hrng:=hcosts.rng k hkl
      obtain ⟨hr0,hr1⟩:=hrng
      have hkn:k<rows.length:=by rw[←Hhc.out];exact hkl
      have Hr1:=h'd hr1
      clear hd3 hr1 hcl
      by_cases hf:at_ cs k<far
      ·have hf':at_ cs k<4294967296:=hf
       have Hf:=h'd hf
       clear hf
       go_wp2_with (refine wpList_store_own rfl 117 (.tmp 63) (.tmp 62) rfl (k:=k*3) (reachCells (rowOf (at_ cs k))) rfl rfl hok1 (by unfold rowOf;rw[if_pos Hf.out];rfl) (by rw[reachCells_len];kernel_rfl) (by unfold rowOf;rw[if_pos Hf.out];simp[reachCells,Value.oneCell']) (by rw[reachCells_len];omega) ?_;intro w4 hown4 hgr4)
       go_roundg (cs.length-(k+1))
       case measure=>omega
       case rel =>
        rw[flat_splice reachCells_len _ k (by rw[rowsTo_len Hhc.out (by omega)];exact hkn),rowsTo_succ Hhc.out hkn] at hown4
        exact ⟨k+1,by omega,rfl,by go_num,hown4,grown_trans hgk hgr4⟩
      ·have hf':¬ at_ cs k<4294967296:=hf
       have Hf:=h'd hf
       clear hf
       go_wp2_with fail
       go_roundg (cs.length-(k+1))
       case measure=>omega
       case rel =>
        rw[←rowsTo_same Hhc.out hkn (Int.not_lt.2 Hf.out)] at hok1
        exact ⟨k+1,by omega,rfl,by go_num,hok1,hgk⟩
     ·obtain rfl:k=cs.length:=by omega
      rw[Hhc.out,rowsTo_all Hhc.out] at hok1
      have hblk3:=hblk.same (hgk.block wb hwbl (by simpa using Ne.symm hgw))
      have hg3:GraphAt w3 w.heap.size (.slice A rows.length c) rows:=graph_keep Hg1.out fun p hp=>(hgk.cell_far p (by have:=hB2.size;omega) (by simp;omega)).trans (hB2.cell (by omega))
      have hcost3:=own_same hcost (fun j hj=>hgk.block j (hcost.lt j hj).2 (fun e=>own_ne hcost hrow (by decide) hj e.symm))
      have hw3z:w1.heap.size≤w3.heap.size:=n't hB2.size hgk.size
      have hlen:(cs.map rowOf).length=rows.length:=by rw[List.length_map];exact Hhc.out
      have hout3:OutAt w3 w1.heap.size (.slice (some ⟨go,0,none⟩) rows.length rows.length) (cs.map rowOf):=by
       refine ⟨by rw[hlen];exact hok1,fun r hr => ?_⟩
       obtain ⟨x,_,rfl⟩:=List.mem_map.1 hr
       unfold rowOf
       split <;> exact World.ownsRow_nil _ _ _ _
      have hh0:(cs.map rowOf).map ReachRow.hops=List.replicate rows.length []:=by rw[←Hhc.out];exact hops_rowOf cs
      have HS:Hid (Calls Tryz.prog 96 #[.pointer (some ⟨wb,0,none⟩)] w3 _):=spread_any rows w.heap.size w1.heap.size wb _ _ _ root cs (cs.map rowOf) w3 hblk3 hg3 hzw hw3z hok hr hn hU hcost3 Hhc.out hcosts.rng (by simp[Value.ownBlock];exact hgw) hout3 hlen hh0
      clear hlen hh0
      go_wp2_with fail
      refine c'm HS.out ?_
      rintro e w5 ⟨rfl,rs,hH,hics,hout5,hgr5⟩
      have hd5:w5.cell? ⟨wb,3,none⟩=some (.slice (some ⟨go,0,none⟩) rows.length rows.length):=(hgr5.cell_far ⟨wb,3,none⟩ hblk3.lt (by simp[Value.ownBlock];exact Ne.symm hgw)).trans (hblk3.cell 3)
      go_wp2_with fail
      go_ret
      refine .inl ⟨hNZ.out,_,rs,cs,rfl,⟨own_mono hout5.row hzw,fun r hr=>own_mono (hout5.hop r hr) hzw⟩,?_,hcosts,hH,?_⟩
      ·refine hbk.trans ((hB2.mono hzw).trans (Below.trans (below_of_grown hgk (by have:=hB2.size;omega) (fun g hg=>by injection hg with hg;omega)) (below_of_grown hgr5 (by omega) (fun g hg=>by
        have hg':some go=some g:=hg
        injection hg' with hg';omega))))
      ·rw[hics,List.map_map]
       refine List.map_congr_left fun x _ => ?_
       show ((rowOf x).is,(rowOf x).cost)=_
       unfold rowOf
       split <;> rfl
   ·rw[HZ.out,←rowsTo_zero cs] at hrow
    obtain ⟨gc,cc2,hcv,hcb,hcg⟩:=hcost.form (by omega)
    simp only[Value.slice.injEq] at hcv
    obtain ⟨rfl,_,rfl⟩:=hcv
    have hw2c:w2.cell? ⟨wb,2,none⟩=some (.slice (some ⟨gc,0,none⟩) cs.length cc):=hblk.cell 2
    have hgcgo:gc≠w1.heap.size:=fun h=>own_ne hcost hrow (by decide) rfl (by rw[h];rfl)
    have hwbl:=hblk.lt
    have hgol:w1.heap.size<w2.heap.size:=(hrow.lt w1.heap.size rfl).2
    have Hhc:=h'd hcl
    go_wp2_with fail
    go_loopg [48] cs.length (fun m i wr=>∃ k:Nat,k≤cs.length∧m=cs.length-k∧i=.int .i64 k∧wr.ownsRow w1.heap.size 117 3 (.slice (some ⟨w1.heap.size,0,none⟩) rows.length rows.length) rows.length ((rowsTo cs rows.length k).flatMap reachCells)∧w2.grownBy wr (some w1.heap.size))
    case atStart=>exact ⟨0,Nat.zero_le _,rfl,rfl,hrow,grown_refl _ _⟩
    case round =>
     obtain ⟨k,hk,rfl,rfl,hok1,hgk⟩:=hrel
     obtain ⟨w3,rfl⟩:∃ x:World,x=wr:=⟨_,rfl⟩
     by_cases hkl:k<cs.length
     ·have hx:=(hgk.cell_far ⟨gc,k,none⟩ hcg (by simpa using hgcgo)).trans ((hcost.cellAt k (by omega)).trans (u64s_get hkl))
      have hd3:=(hgk.cell_far ⟨wb,3,none⟩ hwbl (by simpa using Ne.symm hgw)).trans (hblk.cell 3)
      have hd3':w3.cell? ⟨wb,3,none⟩=some (.slice (some ⟨w1.heap.size,0,none⟩) rows.length rows.length):=hd3
      have hrng:=hcosts.rng k hkl
      obtain ⟨hr0,hr1⟩:=hrng
      have hkn:k<rows.length:=by rw[←Hhc.out];exact hkl
      have Hr1:=h'd hr1
      clear hd3 hr1 hcl
      by_cases hf:at_ cs k<far
      ·have hf':at_ cs k<4294967296:=hf
       have Hf:=h'd hf
       clear hf
       go_wp2_with (refine wpList_store_own rfl 117 (.tmp 63) (.tmp 62) rfl (k:=k*3) (reachCells (rowOf (at_ cs k))) rfl rfl hok1 (by unfold rowOf;rw[if_pos Hf.out];rfl) (by rw[reachCells_len];kernel_rfl) (by unfold rowOf;rw[if_pos Hf.out];simp[reachCells,Value.oneCell']) (by rw[reachCells_len];omega) ?_;intro w4 hown4 hgr4)
       go_roundg (cs.length-(k+1))
       case measure=>omega
       case rel =>
        rw[flat_splice reachCells_len _ k (by rw[rowsTo_len Hhc.out (by omega)];exact hkn),rowsTo_succ Hhc.out hkn] at hown4
        exact ⟨k+1,by omega,rfl,by go_num,hown4,grown_trans hgk hgr4⟩
      ·have hf':¬ at_ cs k<4294967296:=hf
       have Hf:=h'd hf
       clear hf
       go_wp2_with fail
       go_roundg (cs.length-(k+1))
       case measure=>omega
       case rel =>
        rw[←rowsTo_same Hhc.out hkn (Int.not_lt.2 Hf.out)] at hok1
        exact ⟨k+1,by omega,rfl,by go_num,hok1,hgk⟩
     ·obtain rfl:k=cs.length:=by omega
      rw[Hhc.out,rowsTo_all Hhc.out] at hok1
      have hblk3:=hblk.same (hgk.block wb hwbl (by simpa using Ne.symm hgw))
      have hg3:GraphAt w3 w.heap.size (.slice A rows.length c) rows:=graph_keep Hg1.out fun p hp=>(hgk.cell_far p (by have:=hB2.size;omega) (by simp;omega)).trans (hB2.cell (by omega))
      have hcost3:=own_same hcost (fun j hj=>hgk.block j (hcost.lt j hj).2 (fun e=>own_ne hcost hrow (by decide) hj e.symm))
      have hw3z:w1.heap.size≤w3.heap.size:=n't hB2.size hgk.size
      have hlen:(cs.map rowOf).length=rows.length:=by rw[List.length_map];exact Hhc.out
      have hout3:OutAt w3 w1.heap.size (.slice (some ⟨w1.heap.size,0,none⟩) rows.length rows.length) (cs.map rowOf):=by
       refine ⟨by rw[hlen];exact hok1,fun r hr => ?_⟩
       obtain ⟨x,_,rfl⟩:=List.mem_map.1 hr
       unfold rowOf
       split <;> exact World.ownsRow_nil _ _ _ _
      have hh0:(cs.map rowOf).map ReachRow.hops=List.replicate rows.length []:=by rw[←Hhc.out];exact hops_rowOf cs
      have HS:Hid (Calls Tryz.prog 96 #[.pointer (some ⟨wb,0,none⟩)] w3 _):=spread_any rows w.heap.size w1.heap.size wb _ _ _ root cs (cs.map rowOf) w3 hblk3 hg3 hzw hw3z hok hr hn hU hcost3 Hhc.out hcosts.rng (by simp[Value.ownBlock];exact hgw) hout3 hlen hh0
      clear hlen hh0
      go_wp2_with fail
      refine c'm HS.out ?_
      rintro e w5 ⟨rfl,rs,hH,hics,hout5,hgr5⟩
      have hd5:w5.cell? ⟨wb,3,none⟩=some (.slice (some ⟨w1.heap.size,0,none⟩) rows.length rows.length):=(hgr5.cell_far ⟨wb,3,none⟩ hblk3.lt (by simp[Value.ownBlock];exact Ne.symm hgw)).trans (hblk3.cell 3)
      go_wp2_with fail
      go_ret
      refine .inl ⟨hNZ.out,_,rs,cs,rfl,⟨own_mono hout5.row hzw,fun r hr=>own_mono (hout5.hop r hr) hzw⟩,?_,hcosts,hH,?_⟩
      ·refine hbk.trans ((hB2.mono hzw).trans (Below.trans (below_of_grown hgk (by have:=hB2.size;omega) (fun g hg=>by injection hg with hg;omega)) (below_of_grown hgr5 (by omega) (fun g hg=>by
        have hg':some w1.heap.size=some g:=hg
        injection hg' with hg';omega))))
      ·rw[hics,List.map_map]
       refine List.map_congr_left fun x _ => ?_
       show ((rowOf x).is,(rowOf x).cost)=_
       unfold rowOf
       split <;> rfl
end Go.Proofs.YtcknpofnpabkiaaGreat
