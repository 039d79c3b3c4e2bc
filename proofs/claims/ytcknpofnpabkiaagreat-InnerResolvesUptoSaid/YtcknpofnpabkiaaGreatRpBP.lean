/- tree's queue, as container/heap calls it: what each method does, over any memory. -/
import Derived.Test.YtcknpofnpabkiaaGreatRpAB
set_option maxRecDepth 100000
namespace Go.Proofs.YtcknpofnpabkiaaGreat
open Go.RowKit Go.Lo
abbrev Ent:=Int × Int
def entCells (e:Ent):List Value:=[.int .u64 e.1,.int .i64 e.2]
theorem entCells_len (e:Ent):(entCells e).length=2:=rfl
set_option maxHeartbeats 400000 in
theorem swap_any (base:Nat) (v:Value) (l:List Ent) (i k:Nat) (w:World) (hi:i<l.length) (hk:k<l.length) (hown:w.ownsRow base 223 2 v l.length (l.flatMap entCells)) (_hn:l.length≤1099511627776) :
  Calls Tryz.prog 217 #[v,.int .i64 i,.int .i64 k] w
   fun e w'=>e=.returned (.tuple #[])∧w'.ownsRow base 223 2 v l.length (((l.set i l[k]).set k l[i]).flatMap entCells)∧w.grownBy w' v.ownBlock:=by
 have hri:=own_row entCells_len hown hi
 obtain ⟨g,cap,rfl,hcap,hbg,hg,hfz,hrow⟩:=hri
 obtain ⟨g',cap',hv,_,_,_,_,hrow'⟩:=own_row entCells_len hown hk
 simp only[Value.slice.injEq,o'j,Addr.mk.injEq,and_true,true_and] at hv
 obtain ⟨rfl,rfl⟩:=hv
 have hi0:=hrow 0 _ rfl
 have hi1:=hrow 1 _ rfl
 have hk0:=hrow' 0 _ rfl
 have hk1:=hrow' 1 _ rfl
 simp only[Nat.add_zero] at hi0 hk0
 clear hrow hrow'
 have hf1:=hfz (i*2)
 have hf2:=hfz (i*2+1)
 have hf3:=hfz (k*2)
 have hf4:=hfz (k*2+1)
 have hend:∀ (n:Nat),((((((w.setCell ⟨g,i*2,none⟩ (.int .u64 l[k].1)).setCell ⟨g,i*2+1,none⟩ (.int .i64 l[k].2)).setCell ⟨g,k*2,none⟩ (.int .u64 l[i].1)).setCell ⟨g,k*2+1,none⟩ (.int .i64 l[i].2)).drewN n).ownsRow base 223 2 (.slice (some ⟨g,0,none⟩) l.length cap) l.length (((l.set i l[k]).set k l[i]).flatMap entCells)) ∧
   w.grownBy (((((w.setCell ⟨g,i*2,none⟩ (.int .u64 l[k].1)).setCell ⟨g,i*2+1,none⟩ (.int .i64 l[k].2)).setCell ⟨g,k*2,none⟩ (.int .u64 l[i].1)).setCell ⟨g,k*2+1,none⟩ (.int .i64 l[i].2)).drewN n) (some g):=fun n=>by
  obtain ⟨o1,g1⟩:=hown.stored (i*2) (.int .u64 l[k].1)
  obtain ⟨o2,g2⟩:=o1.stored (i*2+1) (.int .i64 l[k].2)
  obtain ⟨o3,g3⟩:=o2.stored (k*2) (.int .u64 l[i].1)
  obtain ⟨o4,g4⟩:=o3.stored (k*2+1) (.int .i64 l[i].2)
  have e1:=flat_set2 (a:=fun y:Ent=>.int .u64 y.1) (b:=fun y=>.int .i64 y.2) l i l[k]
  have e2:=flat_set2 (a:=fun y:Ent=>.int .u64 y.1) (b:=fun y=>.int .i64 y.2) (l.set i l[k]) k l[i]
  have e3:=grown_trans (grown_trans (grown_trans g1 g2) g3) g4
  refine ⟨?_,⟨e3.os,e3.tape,e3.output,e3.size,e3.block⟩⟩
  show World.ownsRow _ _ _ _ _ _ _
  have o4':World.ownsRow _ base 223 2 (.slice (some ⟨g,0,none⟩) l.length cap) l.length (((((l.flatMap fun y:Ent=>[.int .u64 y.1,.int .i64 y.2]).set (i*2) (.int .u64 l[k].1)).set (i*2+1) (.int .i64 l[k].2)).set (k*2) (.int .u64 l[i].1)).set (k*2+1) (.int .i64 l[i].2)):=o4
  rw[e1,e2] at o4'
  exact o4'
 have Hend:=h'd hend
 clear hend
 by_cases hik:i=k
 ·subst hik
  go_enter Tryz.func217,Tryz.ntmps217
  go_wp2
  go_region
  go_end0
  exact ⟨rfl,Hend.out 1⟩
 ·go_enter Tryz.func217,Tryz.ntmps217
  go_wp2
  go_region
  go_end0
  exact ⟨rfl,Hend.out 1⟩
theorem len_any (A:Option Addr) (n c:Nat) (w:World) :
  Calls Tryz.prog 131 #[.slice A n c] w fun e w'=>e=.returned (.int .i64 n)∧w=w':=by
 go_enter Tryz.func131,Tryz.ntmps131
 go_wp2
 go_ret
 exact ⟨rfl,rfl⟩
set_option maxHeartbeats 400000 in
theorem less_any (base:Nat) (v:Value) (l:List Ent) (i k:Nat) (w:World) (hi:i<l.length) (hk:k<l.length) (hown:w.ownsRow base 223 2 v l.length (l.flatMap entCells)) (_hn:l.length≤1099511627776) :
  Calls Tryz.prog 214 #[v,.int .i64 i,.int .i64 k] w
   fun e w'=>e=.returned (.bool (decide (l[i].1<l[k].1)))∧∃ n,w'=w.drewN n:=by
 have hri:=own_row entCells_len hown hi
 obtain ⟨g,cap,rfl,hcap,hbg,hg,hfz,hrow⟩:=hri
 obtain ⟨g',cap',hv,_,_,_,_,hrow'⟩:=own_row entCells_len hown hk
 simp only[Value.slice.injEq,o'j,Addr.mk.injEq,and_true,true_and] at hv
 obtain ⟨rfl,rfl⟩:=hv
 have hi0:=hrow 0 _ rfl
 have hk0:=hrow' 0 _ rfl
 simp only[Nat.add_zero] at hi0 hk0
 clear hrow hrow'
 go_enter Tryz.func214,Tryz.ntmps214
 go_wp2
 go_quiet (fail)
 go_wp2
 go_ret
 exact ⟨rfl,_,rfl⟩
def QueueAt (w:World) (base q:Nat) (l:List Ent):Prop:=
 base≤q∧∃ v,w.heap[q]?=some (.cells #[v] 225 (0,0))∧v.ownBlock≠some q∧w.ownsRow base 223 2 v l.length (l.flatMap entCells)
def QF (w:World) (q k:Nat):Prop:=k=q∨∃ v,w.heap[q]?=some (.cells #[v] 225 (0,0))∧v.ownBlock=some k
structure QStep (w w':World) (q:Nat):Prop where
 os:w'.os=w.os
 tape:w'.tape=w.tape
 output:w'.output=w.output
 size:w.heap.size≤w'.heap.size
 block:∀ k,k<w.heap.size→¬ QF w q k→w'.heap[k]?=w.heap[k]?
 foot:∀ k,QF w' q k→QF w q k∨w.heap.size≤k
theorem QStep.refl (w:World) (q:Nat):QStep w w q:=⟨rfl,rfl,rfl,n'r _,fun _ _ _=>rfl,fun _ h=>.inl h⟩
theorem QStep.trans {a b c:World} {q:Nat} (h:QStep a b q) (k:QStep b c q):QStep a c q:=
 ⟨k.os.trans h.os,k.tape.trans h.tape,k.output.trans h.output,n't h.size k.size,
  fun i hi hn=>(k.block i (Nat.lt_of_lt_of_le hi h.size) (fun hf=>by
   rcases h.foot i hf with h' | h'
   ·exact hn h'
   ·omega)).trans (h.block i hi hn),
  fun i hf=>by
   rcases k.foot i hf with h' | h'
   ·exact h.foot i h'
   ·exact .inr (n't h.size h')⟩
theorem QStep.drewN {a b:World} {q:Nat} (h:QStep a b q) (n:Nat):QStep a (b.drewN n) q:=⟨h.os,h.tape,h.output,h.size,h.block,h.foot⟩
theorem QF.ge {w:World} {base q k:Nat} {l:List Ent} (hq:QueueAt w base q l) (h:QF w q k):base≤k:=by
 obtain ⟨hb,v,hcell,_,hown⟩:=hq
 rcases h with rfl | ⟨v',hc,hk⟩
 ·exact hb
 ·rw[hcell] at hc
  injection hc with hc;injection hc with hc
  have:v=v':=by simpa using hc
  subst this
  exact (hown.lt k hk).1
theorem QF.lt {w:World} {base q k:Nat} {l:List Ent} (hq:QueueAt w base q l) (h:QF w q k):k<w.heap.size:=by
 obtain ⟨hb,v,hcell,_,hown⟩:=hq
 rcases h with rfl | ⟨v',hc,hk⟩
 ·exact lt_of_block hcell
 ·rw[hcell] at hc
  injection hc with hc;injection hc with hc
  have:v=v':=by simpa using hc
  subst this
  exact (hown.lt k hk).2
theorem QStep.below {w w':World} {base q:Nat} {l:List Ent} (h:QStep w w' q) (hq:QueueAt w base q l):Below base w w':=
 ⟨h.os,h.tape,h.output,h.size,fun k hk=>by
  have:q<w.heap.size:=by obtain ⟨_,v,hcell,_,_⟩:=hq;exact lt_of_block hcell
  have hb:base≤q:=hq.1
  exact h.block k (by omega) (fun hf=>by have:=QF.ge hq hf;omega)⟩
set_option maxHeartbeats 400000 in
theorem qpop_any (base q:Nat) (l:List Ent) (x:Ent) (w:World) (hq:QueueAt w base q (l++[x])) (hn:l.length≤1099511627776) :
  Calls Tryz.prog 215 #[.pointer (some ⟨q,0,none⟩)] w
   fun e w'=>e=.returned (.iface 223 (.agg #[.int .u64 x.1,.int .i64 x.2]))∧QueueAt w' base q l∧QStep w w' q:=by
 obtain ⟨hb,v,hcell,hne,hown⟩:=hq
 have hbl:base≤w.heap.size:=n't hb (Nat.le_of_lt (lt_of_block hcell))
 have hlen:(l++[x]).length=l.length+1:=by simp
 obtain ⟨g,cap,rfl,hcap,hbg,hg,hfz,hrow⟩:=own_row (k:=l.length) entCells_len hown (by simp)
 have hx0:=hrow 0 (.int .u64 x.1) (by simp[entCells])
 have hx1:=hrow 1 (.int .i64 x.2) (by simp[entCells])
 simp only[Nat.add_zero] at hx0 hx1
 clear hrow
 have hc0:=cell_of_one hcell
 have hf0:=free_of_one hcell
 rw[hlen] at hc0
 have hql:=lt_of_block hcell
 have Hcell:=h'd hcell
 clear hcell
 go_enter Tryz.func215,Tryz.ntmps215
 go_wp2
 go_ret
 have hqg:g≠q:=fun h=>hne (by rw[h];rfl)
 have h1:=own_take hown (m:=l.length) (by simp)
 rw[flat_take entCells_len,List.take_left] at h1
 refine ⟨rfl,⟨hb,.slice (some ⟨g,0,none⟩) l.length cap,(Below.heap_alloc _ _ _ (by simpa using hql)).trans (one_setCell Hcell.out),fun h=>hqg (by injection h),(ownsRow_setCell_other h1 (fun h=>hqg (by injection h)) _).alloc _⟩,
  ⟨rfl,rfl,rfl,by simp,fun k hk hn=>(Below.heap_alloc _ _ _ (by simpa using hk)).trans (Below.heap_setCell _ _ _ _ (fun e=>hn (.inl e))),fun k hf=>.inl ?_⟩⟩
 have hnew:((w.setCell ⟨q,0,none⟩ (.slice (some ⟨g,0,none⟩) l.length cap)).alloc (Obj.cells #[.int .u64 x.1,.int .i64 x.2] 223)).heap[q]?=some (.cells #[.slice (some ⟨g,0,none⟩) l.length cap] 225 (0,0)):=(Below.heap_alloc _ _ _ (by simpa using hql)).trans (one_setCell Hcell.out)
 rcases hf with rfl | ⟨v',hc,hk⟩
 ·exact .inl rfl
 ·rw[hnew] at hc
  injection hc with hc;injection hc with hc
  have:Value.slice (some ⟨g,0,none⟩) l.length cap=v':=by simpa using hc
  subst this
  exact .inr ⟨_,Hcell.out,hk⟩
theorem entT:ElT Tryz.prog 225 223 2 16:=⟨by kernel_rfl,by
 obtain ⟨i,hi,h1,h2,h3⟩:=info_parts (show (Tryz.prog.info? 223).map (fun i=>(i.zero,i.size,i.bytes))=some (some (.agg #[.int .u64 0,.int .i64 0]),2,16) by kernel_rfl)
 exact ⟨i,_,hi,h1,h2,h3,rfl⟩,by omega⟩
theorem assert_entry (a b:Value) (w:World):(Instr.typeAssert (.iface 223 (.agg #[a,b])) 20 223 false).run Tryz.prog w=.ok (.agg #[a,b]) w:=by kernel_rfl
set_option maxHeartbeats 400000 in
theorem qadd_any (base q:Nat) (l:List Ent) (x:Ent) (w:World) (hbw:base≤w.heap.size) (hq:QueueAt w base q l) (hn:l.length≤1099511627776) :
  Calls Tryz.prog 218 #[.pointer (some ⟨q,0,none⟩),.iface 223 (.agg #[.int .u64 x.1,.int .i64 x.2])] w
   fun e w'=>e=.returned (.tuple #[])∧QueueAt w' base q (l++[x])∧QStep w w' q:=by
 obtain ⟨hb,v,hcell,hne,hown⟩:=hq
 have hql:=lt_of_block hcell
 have hc0:=cell_of_one hcell
 have hf0:=free_of_one hcell
 have Hcell:=h'd hcell
 clear hcell
 have has:=assert_entry (.int .u64 x.1) (.int .i64 x.2)
 go_enter Tryz.func218,Tryz.ntmps218
 go_wp2_with fail
 go_region_law (refine step_append (w:=w.drew.alloc (.cells #[.int .u64 x.1,.int .i64 x.2] 223)) rfl (.tmp 7) (.tmp 10) 225 rfl base entT v l.length (l.flatMap entCells) rfl (hown.drew.alloc _) _ _ 1 (entCells x) rfl (Sl.lit w.drew #[.int .u64 x.1,.int .i64 x.2] 223 (by simp[maxLen]) rfl) (by simp[entCells,Value.oneCell']) (by simp only[maxLen];omega) (by omega) (by simp;omega) ?_;intro v' w1 hown1 hgr1 hob1;obtain ⟨_,A1,c1,rfl,_⟩:=Sl.of_own hown1;have hc1:=(hgr1.cell_far ⟨q,0,none⟩ (show q<_ by simp;omega) hne.symm).trans ((World.cell?_alloc_lt _ _ _ hql).trans hc0);have hf1:=(hgr1.frozen_far ⟨q,0,none⟩ (show q<_ by simp;omega) hne.symm).trans ((Below.frozen ((b'r _ _).alloc (n'r _) _) hql).trans hf0))
 all_goals go_end0
 all_goals
  have hxs:l.flatMap entCells++entCells x=(l++[x]).flatMap entCells:=by simp
  have hq1:w1.heap[q]?=some (.cells #[v] 225 (0,0)):=(hgr1.block q (by simp;omega) hne.symm).trans ((Below.heap_alloc _ _ _ hql).trans Hcell.out)
  have hnq:(Value.slice A1 (l.length+1) c1).ownBlock≠some q:=by
   rcases hob1 with h | h
   ·rw[h];exact hne
   ·rw[h];simp;omega
  refine ⟨rfl,⟨hb,_,one_setCell hq1,hnq,?_⟩,⟨hgr1.os,hgr1.tape,hgr1.output,n't (by simp) (n't hgr1.size (by simp)),fun k hk hn => ?_,fun k hf => ?_⟩⟩
  ·rw[←hxs]
   simpa using ownsRow_setCell_other hown1 hnq _
  ·exact (Below.heap_setCell _ _ _ _ (fun e=>hn (.inl e))).trans ((hgr1.block k (by simp;omega) (fun e=>hn (.inr ⟨v,Hcell.out,e.symm⟩))).trans (Below.heap_alloc _ _ _ hk))
  ·rcases hf with rfl | ⟨v',hc,hk⟩
   ·exact .inl (.inl rfl)
   ·rw[one_setCell hq1] at hc
    injection hc with hc;injection hc with hc
    have:Value.slice A1 (l.length+1) c1=v':=by simpa using hc
    subst this
    rcases hob1 with h | h
    ·exact .inl (.inr ⟨v,Hcell.out,by rw[←h];exact hk⟩)
    ·rw[hk] at h
     have:k=_:=o'i h
     exact .inr (by rw[this];simp)
set_option maxRecDepth 100000
theorem meth_len (n q:Nat) (v:Value) (W:World) (hc:W.cell? ⟨q,0,none⟩=some v):(method (n+1) 221 (.pointer (some ⟨q,0,none⟩)) "Len").run Tryz.prog W=.ok (131,v) W:=
 method_val (e:=225) (by kernel_rfl) (by kernel_rfl) n q v W (by go_simp)
theorem meth_less (n q:Nat) (v:Value) (W:World) (hc:W.cell? ⟨q,0,none⟩=some v):(method (n+1) 221 (.pointer (some ⟨q,0,none⟩)) "Less").run Tryz.prog W=.ok (214,v) W:=
 method_val (e:=225) (by kernel_rfl) (by kernel_rfl) n q v W (by go_simp)
theorem meth_swap (n q:Nat) (v:Value) (W:World) (hc:W.cell? ⟨q,0,none⟩=some v):(method (n+1) 221 (.pointer (some ⟨q,0,none⟩)) "Swap").run Tryz.prog W=.ok (217,v) W:=
 method_val (e:=225) (by kernel_rfl) (by kernel_rfl) n q v W (by go_simp)
theorem meth_pop (n q:Nat) (W:World):(method (n+1) 221 (.pointer (some ⟨q,0,none⟩)) "Pop").run Tryz.prog W=.ok (215,.pointer (some ⟨q,0,none⟩)) W:=
 method_ptr (e:=225) (by kernel_rfl) (by kernel_rfl) n q W
theorem meth_push (n q:Nat) (W:World):(method (n+1) 221 (.pointer (some ⟨q,0,none⟩)) "Push").run Tryz.prog W=.ok (216,.pointer (some ⟨q,0,none⟩)) W:=
 method_ptr (e:=225) (by kernel_rfl) (by kernel_rfl) n q W
def Queued (w0 w:World) (base q:Nat) (l:List Ent):Prop:=∃ l',QueueAt w base q l'∧l'.Perm l∧QStep w0 w q
theorem qswap_any (base q i k:Nat) (l:List Ent) (v:Value) (w:World) (hb:base≤q) (hcell:w.heap[q]?=some (.cells #[v] 225 (0,0))) (hne:v.ownBlock≠some q) (hown:w.ownsRow base 223 2 v l.length (l.flatMap entCells)) (hi:i<l.length) (hk:k<l.length) (hn:l.length≤1099511627776) :
  Calls Tryz.prog 217 #[v,.int .i64 i,.int .i64 k] w fun e w'=>e=.returned (.tuple #[])∧Queued w w' base q l:=by
 refine (swap_any base v l i k w hi hk hown hn).mono fun e w' ⟨he,ho,hg⟩=>⟨he,(l.set i l[k]).set k l[i],⟨hb,v,?_,hne,by simpa using ho⟩,List.set_set_perm hi hk,⟨hg.os,hg.tape,hg.output,hg.size,fun j hj hn=>hg.block j hj (fun e=>hn (.inr ⟨v,hcell,e.symm⟩)),fun j hf=>.inl ?_⟩⟩
 ·exact (hg.block q (lt_of_block hcell) hne.symm).trans hcell
 ·unfold QF at hf ⊢
  rw[hg.block q (lt_of_block hcell) hne.symm] at hf
  exact hf
theorem qless_any (base i k:Nat) (x y:Int) (hx:x=i) (hy:y=k) (l:List Ent) (v:Value) (w:World) (hi:i<l.length) (hk:k<l.length) (hown:w.ownsRow base 223 2 v l.length (l.flatMap entCells)) (hn:l.length≤1099511627776) :
  Calls Tryz.prog 214 #[v,.int .i64 x,.int .i64 y] w fun e w'=>∃ b n,e=.returned (.bool b)∧w'=w.drewN n:=by
 subst hx hy
 exact (less_any base v l i k w hi hk hown hn).mono fun e w' ⟨he,n,hw⟩=>⟨_,n,he,hw⟩
theorem qswap_int (base q i k:Nat) (x y:Int) (hx:x=i) (hy:y=k) (l:List Ent) (v:Value) (w:World) (hb:base≤q) (hcell:w.heap[q]?=some (.cells #[v] 225 (0,0))) (hne:v.ownBlock≠some q) (hown:w.ownsRow base 223 2 v l.length (l.flatMap entCells)) (hi:i<l.length) (hk:k<l.length) (hn:l.length≤1099511627776) :
  Calls Tryz.prog 217 #[v,.int .i64 x,.int .i64 y] w fun e w'=>e=.returned (.tuple #[])∧Queued w w' base q l:=by
 subst hx hy
 exact qswap_any base q i k l v w hb hcell hne hown hi hk hn
def BoolQueued (w:World) (base q:Nat) (l:List Ent) (e:Ending) (w':World):Prop:=∃ b,e=.returned (.bool b)∧Queued w w' base q l
theorem Queued.on {w w1 w2:World} {base q:Nat} {l l1:List Ent} (hp:l1.Perm l) (hb:QStep w w1 q) (h:Queued w1 w2 base q l1):Queued w w2 base q l:=
 let ⟨l2,h1,h2,h3⟩:=h
 ⟨l2,h1,h2.trans hp,hb.trans h3⟩
set_option maxHeartbeats 1000000 in
theorem hdown_any (base q n:Nat) (l:List Ent) (w:World) (hq:QueueAt w base q l) (hnl:n≤l.length) (hn:l.length≤1099511627776) :
  Calls Tryz.prog 164 #[.iface 221 (.pointer (some ⟨q,0,none⟩)),.int .i64 0,.int .i64 n] w (BoolQueued w base q l):=by
 go_enter Tryz.func164,Tryz.ntmps164
 go_wp2_with fail
 go_loopw [7] (fun i wr=>∃ k:Nat,k≤n∧i=.int .i64 k∧Queued w wr base q l) (fun i _=>n+1-(intOf i).toNat)
 case atStart=>exact ⟨0,Nat.zero_le _,rfl,l,hq,List.Perm.refl _,QStep.refl _ _⟩
 case round =>
  obtain ⟨k,hk,rfl,l1,⟨hb,v,hcell,hne,hown⟩,hperm,hbel⟩:=hrel
  have hl1:=hperm.length_eq
  have Hl:=h'd hl1
  have hle:n≤l1.length:=by omega
  have hle2:l1.length≤1099511627776:=by omega
  clear hl1
  have hql:=lt_of_block hcell
  have hc0:=cell_of_one hcell
  have Hcell:=h'd hcell
  clear hcell
  by_cases hj:2*k+1<n
  ·have hm1:=fun (m:Nat) (W:World)=>meth_less m q v W
   have hm2:=fun (m:Nat) (W:World)=>meth_swap m q v W
   by_cases hj2:2*k+2<n
   ·go_wp2_with fail
    refine c'm (qless_any base (2*k+2) (2*k+1) _ _ (by omega) (by omega) l1 v _ (by omega) (by omega) hown hle2) ?_
    rintro e w2 ⟨b1,n1,rfl,rfl⟩
    cases b1
    ·go_wp2_with fail
     refine c'm (qless_any base (2*k+1) k _ _ (by omega) (by omega) l1 v _ (by omega) (by omega) hown hle2) ?_
     rintro e w2 ⟨b2,n2,rfl,rfl⟩
     cases b2
     ·go_wp2_with fail
      go_ret
      exact ⟨_,rfl,l1,⟨hb,v,Hcell.out,hne,hown⟩,hperm,hbel.drewN _⟩
     ·go_wp2_with fail
      refine c'm (qswap_int base q k (2*k+1) _ _ (by omega) (by omega) l1 v _ hb Hcell.out hne hown (by omega) (by omega) hle2) ?_
      rintro e w2 ⟨rfl,hQ⟩
      go_wp2_with fail
      go_roundw
      case rel=>exact ⟨2*k+1,by omega,by go_num,Queued.on hperm (hbel.drewN _) hQ⟩
      case measure=>simp[intOf];omega
    ·go_wp2_with fail
     refine c'm (qless_any base (2*k+2) k _ _ (by omega) (by omega) l1 v _ (by omega) (by omega) hown hle2) ?_
     rintro e w2 ⟨b2,n2,rfl,rfl⟩
     cases b2
     ·go_wp2_with fail
      go_ret
      exact ⟨_,rfl,l1,⟨hb,v,Hcell.out,hne,hown⟩,hperm,hbel.drewN _⟩
     ·go_wp2_with fail
      refine c'm (qswap_int base q k (2*k+2) _ _ (by omega) (by omega) l1 v _ hb Hcell.out hne hown (by omega) (by omega) hle2) ?_
      rintro e w2 ⟨rfl,hQ⟩
      go_wp2_with fail
      go_roundw
      case rel=>exact ⟨2*k+2,by omega,by go_num,Queued.on hperm (hbel.drewN _) hQ⟩
      case measure=>simp[intOf];omega
   ·go_wp2_with fail
    refine c'm (qless_any base (2*k+1) k _ _ (by omega) (by omega) l1 v _ (by omega) (by omega) hown hle2) ?_
    rintro e w2 ⟨b2,n2,rfl,rfl⟩
    cases b2
    ·go_wp2_with fail
     go_ret
     exact ⟨_,rfl,l1,⟨hb,v,Hcell.out,hne,hown⟩,hperm,hbel.drewN _⟩
    ·go_wp2_with fail
     refine c'm (qswap_int base q k (2*k+1) _ _ (by omega) (by omega) l1 v _ hb Hcell.out hne hown (by omega) (by omega) hle2) ?_
     rintro e w2 ⟨rfl,hQ⟩
     go_wp2_with fail
     go_roundw
     case rel=>exact ⟨2*k+1,by omega,by go_num,Queued.on hperm (hbel.drewN _) hQ⟩
     case measure=>simp[intOf];omega
  ·go_wp2_with fail
   go_ret
   exact ⟨_,rfl,l1,⟨hb,v,Hcell.out,hne,hown⟩,hperm,hbel⟩
set_option maxHeartbeats 1000000 in
theorem hup_any (base q j:Nat) (l:List Ent) (w:World) (hq:QueueAt w base q l) (hj:j<l.length) (hn:l.length≤1099511627776) :
  Calls Tryz.prog 165 #[.iface 221 (.pointer (some ⟨q,0,none⟩)),.int .i64 j] w fun e w'=>e=.returned (.tuple #[])∧Queued w w' base q l:=by
 go_enter Tryz.func165,Tryz.ntmps165
 go_wp2_with fail
 go_loopw [1] (fun i wr=>∃ k:Nat,k<l.length∧i=.int .i64 k∧Queued w wr base q l) (fun i _=>(intOf i).toNat)
 case atStart=>exact ⟨j,hj,rfl,l,hq,List.Perm.refl _,QStep.refl _ _⟩
 case round =>
  obtain ⟨k,hk,rfl,l1,⟨hb,v,hcell,hne,hown⟩,hperm,hbel⟩:=hrel
  have hl1:=hperm.length_eq
  have Hl:=h'd hl1
  have hle:k<l1.length:=by omega
  have hle2:l1.length≤1099511627776:=by omega
  clear hl1
  have hql:=lt_of_block hcell
  have hc0:=cell_of_one hcell
  have Hcell:=h'd hcell
  clear hcell
  by_cases hk0:k=0
  ·subst hk0
   go_wp2_with fail
   go_end0
   exact ⟨rfl,l1,⟨hb,v,Hcell.out,hne,hown⟩,hperm,hbel⟩
  ·have hm1:=fun (m:Nat) (W:World)=>meth_less m q v W
   have hm2:=fun (m:Nat) (W:World)=>meth_swap m q v W
   have hdiv:((k:Int)-1) / 2=(((k-1) / 2:Nat):Int):=by omega
   have heq:((((k:Int)-1) / 2)==(k:Int))=false:=by rw[beq_eq_false_iff_ne];omega
   go_wp2_with fail
   refine c'm (qless_any base k ((k-1) / 2) _ _ (by omega) (by omega) l1 v _ (by omega) (by omega) hown hle2) ?_
   rintro e w2 ⟨b2,n2,rfl,rfl⟩
   cases b2
   ·go_wp2_with fail
    go_end0
    exact ⟨rfl,l1,⟨hb,v,Hcell.out,hne,hown⟩,hperm,hbel.drewN _⟩
   ·go_wp2_with fail
    refine c'm (qswap_int base q ((k-1) / 2) k _ _ (by omega) (by omega) l1 v _ hb Hcell.out hne hown (by omega) (by omega) hle2) ?_
    rintro e w2 ⟨rfl,hQ⟩
    go_wp2_with fail
    go_roundw
    case rel=>exact ⟨(k-1) / 2,by omega,by go_num,Queued.on hperm (hbel.drewN _) hQ⟩
    case measure=>simp[intOf];omega
def Popped (w:World) (base q:Nat) (l:List Ent) (e:Ending) (w':World):Prop:=
 ∃ x l',e=.returned (.iface 223 (.agg #[.int .u64 x.1,.int .i64 x.2]))∧QueueAt w' base q l'∧(x :: l').Perm l∧QStep w w' q
set_option maxHeartbeats 400000 in
theorem hpop_any (base q:Nat) (l:List Ent) (w:World) (hq:QueueAt w base q l) (h0:0<l.length) (hn:l.length≤1099511627776) :
  Calls Tryz.prog 132 #[.iface 221 (.pointer (some ⟨q,0,none⟩))] w (Popped w base q l):=by
 obtain ⟨hb,v,hcell,hne,hown⟩:=hq
 have hc0:=cell_of_one hcell
 have Hcell:=h'd hcell
 clear hcell
 obtain ⟨_,A,c,rfl,_,_,_⟩:=Sl.of_own hown
 have hm0:=fun (m:Nat) (W:World)=>meth_len m q (.slice A l.length c) W
 have hm1:=fun (m:Nat) (W:World)=>meth_swap m q (.slice A l.length c) W
 have hm2:=fun (m:Nat) (W:World)=>meth_pop m q W
 go_enter Tryz.func132,Tryz.ntmps132
 go_wp2_with fail
 refine c'm (len_any _ _ _ _) ?_
 rintro e w2 ⟨rfl,rfl⟩
 go_wp2_with fail
 refine c'm (qswap_int base q 0 (l.length-1) _ _ (by omega) (by omega) l _ _ hb Hcell.out hne hown (by omega) (by omega) hn) ?_
 rintro e w2 ⟨rfl,l2,hQ2,hp2,hb2⟩
 have hl2:=hp2.length_eq
 have hle2:l.length-1≤l2.length:=by omega
 have hle3:l2.length≤1099511627776:=by omega
 have Hl2:=h'd hl2
 clear hl2 hc0
 have hc2:(l.length:Int)-1=((l.length-1:Nat):Int):=by omega
 go_wp2_with fail
 refine c'm (hdown_any base q (l.length-1) l2 _ hQ2 hle2 hle3) ?_
 rintro e w3 ⟨b,rfl,l3,hQ3,hp3,hb3⟩
 have hl3:=hp3.length_eq
 have hl30:l3≠[]:=by
  intro h
  rw[h,Hl2.out] at hl3
  simp at hl3;omega
 obtain ⟨l4,x,rfl⟩:∃ l4 x,l3=l4++[x]:=⟨_,_,(List.dropLast_concat_getLast hl30).symm⟩
 have hle4:l4.length≤1099511627776:=by simp at hl3;omega
 have Hl3:=h'd hl3
 clear hl3 hl30
 go_wp2_with fail
 refine c'm (qpop_any base q l4 x _ hQ3 hle4) ?_
 rintro e w4 ⟨rfl,hQ4,hb4⟩
 go_wp2
 go_ret
 exact ⟨x,l4,rfl,hQ4,(List.perm_append_comm (l₁:=[x]) (l₂:=l4)).trans (hp3.trans hp2),hb2.trans (hb3.trans hb4)⟩
theorem qpush_any (base q:Nat) (l:List Ent) (x:Ent) (w:World) (hbw:base≤w.heap.size) (hq:QueueAt w base q l) (hn:l.length≤1099511627776) :
  Calls Tryz.prog 216 #[.pointer (some ⟨q,0,none⟩),.iface 223 (.agg #[.int .u64 x.1,.int .i64 x.2])] w
   fun e w'=>e=.returned (.tuple #[])∧QueueAt w' base q (l++[x])∧QStep w w' q:=by
 go_enter Tryz.func216,Tryz.ntmps216
 go_wp2_with fail
 refine c'm (qadd_any base q l x _ hbw hq hn) ?_
 rintro e w2 ⟨rfl,hQ,hB⟩
 go_wp2_with fail
 go_end0
 exact ⟨rfl,hQ,hB⟩
def Pushed (w:World) (base q:Nat) (l:List Ent) (x:Ent) (e:Ending) (w':World):Prop:=
 e=.returned (.tuple #[])∧∃ l',QueueAt w' base q l'∧l'.Perm (x :: l)∧QStep w w' q
set_option maxHeartbeats 400000 in
theorem hpush_any (base q:Nat) (l:List Ent) (x:Ent) (w:World) (hbw:base≤w.heap.size) (hq:QueueAt w base q l) (hn:l.length<1099511627776) :
  Calls Tryz.prog 133 #[.iface 221 (.pointer (some ⟨q,0,none⟩)),.iface 223 (.agg #[.int .u64 x.1,.int .i64 x.2])] w (Pushed w base q l x):=by
 have hm1:=fun (m:Nat) (W:World)=>meth_push m q W
 go_enter Tryz.func133,Tryz.ntmps133
 go_wp2_with fail
 refine c'm (qpush_any base q l x _ hbw hq (Nat.le_of_lt hn)) ?_
 rintro e w2 ⟨rfl,hQ2,hb2⟩
 obtain ⟨hb,v,hcell,hne,hown⟩:=hQ2
 have hc0:=cell_of_one hcell
 have Hcell:=h'd hcell
 clear hcell
 obtain ⟨_,A,c,rfl,_,_,_⟩:=Sl.of_own hown
 have hm0:=fun (m:Nat) (W:World)=>meth_len m q (.slice A (l++[x]).length c) W
 have hlen:(l++[x]).length=l.length+1:=by simp
 have hle:(l++[x]).length≤1099511627776:=by rw[hlen];omega
 have hpos:0<(l++[x]).length:=by rw[hlen];omega
 have hperm:(l++[x]).Perm (x :: l):=List.perm_append_comm
 clear hlen
 generalize l++[x]=l2 at *
 go_wp2_with fail
 refine c'm (len_any _ _ _ _) ?_
 rintro e w3 ⟨rfl,rfl⟩
 have hc2:(l2.length:Int)-1=((l2.length-1:Nat):Int):=by omega
 go_wp2_with fail
 refine c'm (hup_any base q (l2.length-1) l2 _ ⟨hb,_,Hcell.out,hne,hown⟩ (by omega) hle) ?_
 rintro e w4 ⟨rfl,l3,hQ3,hp3,hb3⟩
 go_wp2_with fail
 go_end0
 exact ⟨rfl,l3,hQ3,hp3.trans hperm,hb2.trans hb3⟩
end Go.Proofs.YtcknpofnpabkiaaGreat
