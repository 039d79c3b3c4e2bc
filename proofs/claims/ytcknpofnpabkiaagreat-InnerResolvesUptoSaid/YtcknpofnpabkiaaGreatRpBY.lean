/- lodestarref18.plain: the hops, not virtual ones, of the first way to a router. Conditions: the ways and their hops lie in memory. -/
import Derived.Test.YtcknpofnpabkiaaGreatRpAO
import Derived.Test.YtcknpofnpabkiaaGreatRpAB
set_option maxRecDepth 100000
namespace Go.Proofs.YtcknpofnpabkiaaGreat
open Go.RowKit Go.Lo
structure RImp (w0:World) (xs:List WayY) (v:Value) (wr:World):Prop where
 own:wr.ownsRow w0.heap.size 126 10 v xs.length (xs.flatMap yL)
 hops:∀ x∈xs,wr.ownsRow w0.heap.size 131 3 (.slice x.1.A x.1.len x.1.cap) x.2.length (x.2.flatMap hopCells)
 below:Below w0.heap.size w0 wr
theorem RImp.grown {w0 wr w':World} {xs:List WayY} {v:Value} {row:Option Nat} (h:RImp w0 xs v wr) (hg:wr.grownBy w' row) (hr:∀ b,row=some b→w0.heap.size≤b∧v.ownBlock≠some b∧∃ t cs,Blk wr b t cs∧t≠131):RImp w0 xs v w':=by
 refine ⟨own_same h.own fun k hk=>hg.block k (h.own.lt k hk).2 fun e=>(hr k e.symm).2.1 hk,fun x hx=>own_same (h.hops x hx) fun k hk=>hg.block k ((h.hops x hx).lt k hk).2 fun e => ?_,h.below.trans (below_of_grown hg h.below.size fun g hg=>(hr g hg).1)⟩
 obtain ⟨-,-,t,cs,hb,hne⟩:=hr k e.symm
 exact own_neW (h.hops x hx) hb hne k hk rfl
theorem RImp.call {w0 wr w':World} {xs:List WayY} {v:Value} (h:RImp w0 xs v wr) (hb:Below wr.heap.size wr w'):RImp w0 xs v w':=h.grown (grown_of_below hb none) fun _ e=>by cases e
theorem RImp.alloc {w0 wr:World} {xs:List WayY} {v:Value} (h:RImp w0 xs v wr) (o:Obj):RImp w0 xs v (wr.alloc o):=h.call ((b'r _ _).alloc (n'r _) o)
theorem rwayT:ElT Tryz.prog 39 126 10 56:=⟨by kernel_rfl,by
 obtain ⟨i,hi,h1,h2,h3⟩:=info_parts (show (Tryz.prog.info? 126).map (fun i=>(i.zero,i.size,i.bytes))=some (some (.agg #[.int .u32 0,.int .u8 0,.int .u32 0,.int .u8 0,.int .u8 0,.int .u32 0,.int .u32 0,.int .u32 0,.int .u32 0,.slice none 0 0]),10,56) by kernel_rfl)
 exact ⟨i,_,hi,h1,h2,h3,rfl⟩,by omega⟩
theorem RImp.grow {w0 wr w':World} {xs xs':List WayY} {x:WayY} {v v':Value} (h:RImp w0 xs v wr) (hx:xs'=xs++[x]) (hh:wr.ownsRow w0.heap.size 131 3 (.slice x.1.A x.1.len x.1.cap) x.2.length (x.2.flatMap hopCells)) (ho:w'.ownsRow w0.heap.size 126 10 v' xs'.length (xs'.flatMap yL)) (hg:wr.grownBy w' v.ownBlock):RImp w0 xs' v' w':=by
 refine ⟨ho,fun z hz => ?_,h.below.trans (below_of_grown hg h.below.size fun g hg=>(h.own.lt g hg).1)⟩
 subst hx
 rcases List.mem_append.1 hz with hz | hz
 ·exact own_grown h.own (h.hops z hz) hg (by decide)
 ·rw[List.mem_singleton.1 hz]
  exact own_grown h.own hh hg (by decide)
theorem firstR_none {T:List WayG} {r:Int} (h:∀ j (hj:j<T.length),T[j].1.router≠r):plainP T r=[]:=by
 unfold plainP firstR
 have:T.find? (fun t=>t.1.router==r)=none:=List.find?_eq_none.2 fun t ht=>by
  obtain ⟨j,hj,rfl⟩:=List.getElem_of_mem ht
  simpa using h j hj
 rw[this]
theorem firstR_some {T:List WayG} {r:Int} {k:Nat} (hk:k<T.length) (he:T[k].1.router=r) (h:∀ j (hj:j<T.length),j<k→T[j].1.router≠r):plainP T r=flatV T[k].2:=by
 unfold plainP firstR
 have:T.find? (fun t=>t.1.router==r)=some T[k]:=List.find?_eq_some_iff_getElem.2 ⟨by simpa using he,k,hk,rfl,fun j hj=>by simpa using h j (by omega) hj⟩
 rw[this]
 rfl
set_option maxHeartbeats 4000000 in
theorem rplain_any (B:Nat) (tv:Value) (T:List WayG) (lt:List WayV) (r:Int) (w:World) (hT:WaysIn w B tv T lt) (hB:B≤w.heap.size) (hh:∀ t∈T,t.2.length≤2000000) (hn:lt.length≤1000000) :
  Calls Tryz.prog 64 #[tv,.int .u32 r] w fun e w'=>∃ v,e=.returned v∧w'.ownsRow w.heap.size 131 3 v (plainP T r).length ((plainP T r).flatMap hopCells)∧Below w.heap.size w w':=by
 obtain ⟨-,tA,tc,rfl,-⟩:=id hT.sl
 have hlt:=h'd hT.len
 replace hT:=h'd hT
 replace hh:=h'd hh
 go_enter Tryz.func64,Tryz.ntmps64
 go_upto_region 3 with fail
 go_loopg [6,5] lt.length (fun m i v wr=>∃ k:Nat,k≤lt.length∧m=lt.length-k∧i=.int .i64 k∧v=.slice none 0 0∧(∀ j (hj:j<T.length),j<k→T[j].1.router≠r)∧Below w.heap.size w wr)
 case atStart=>exact ⟨0,Nat.zero_le _,rfl,rfl,rfl,fun _ _ h=>absurd h (by omega),b'r _ _⟩
 case round =>
  obtain ⟨k,hk,rfl,rfl,rfl,hno,hb1⟩:=hrel
  obtain ⟨w1,rfl⟩:∃ x:World,x=wr:=⟨_,rfl⟩
  replace hno:=h'd hno
  by_cases hkl:k<lt.length
  ·have hk2:k<T.length:=by have:=hlt.out;omega
   have hW1:=hT.out.below (hb1.mono hB)
   obtain ⟨b,off,rfl,hb,hrow⟩:=Sl.row wayL_len hW1.sl hkl
   have hgh:=hh.out _ (g'm hk2)
   have hhp:=hW1.hops k hkl hk2
   have hxn:=hW1.n k hkl hk2
   have c2:=hrow 2 _ rfl
   have c9:=hrow 9 _ rfl
   obtain ⟨L,hL⟩:∃ L,L=T[k].2:=⟨_,rfl⟩
   rw[←hL] at hhp hgh
   obtain ⟨tr,htr⟩:∃ tr,tr=T[k].1.router:=⟨_,rfl⟩
   rw[hxn,←htr] at c2
   generalize lt[k].A=hA at c9 hhp
   generalize lt[k].cap=hc at c9 hhp
   generalize lt[k].len=hln at c9 hhp
   obtain rfl:=sl_lenW hhp
   have hbw:b<w1.heap.size:=by have:=hb1.size;omega
   replace hL:=h'd hL
   replace htr:=h'd htr
   clear hrow hxn hW1
   by_cases hq:tr=r
   ·have hqb:(tr==r)=true:=beq_iff_eq.2 hq
    have hqn:(tr != r)=false:=by rw[bne,hqb];rfl
    have hQ:=firstR_some hk2 (by rw[←htr.out];exact hq) hno.out
    rw[←hL.out] at hQ
    replace hQ:=h'd hQ
    replace hq:=h'd hq
    have hz1:=hb1.size
    have hhp2:=h'd (hhp.more (B':=w1.heap.size) (n't hB hz1))
    clear hhp
    go_upto_region 7 with fail
    go_loopg [7,5] L.length (fun m i v wr=>∃ j:Nat,j≤L.length∧m=L.length-j∧i=.int .i64 j∧wr.ownsRow w1.heap.size 131 3 v (flatV (L.take j)).length ((flatV (L.take j)).flatMap hopCells)∧Below w1.heap.size w1 wr)
    case atStart=>exact ⟨0,Nat.zero_le _,rfl,rfl,World.ownsRow_nil _ _ _ _,b'r _ _⟩
    case round =>
     obtain ⟨j,hj,rfl,rfl,ho,hb3⟩:=hrel
     obtain ⟨w3,rfl⟩:∃ x:World,x=wr:=⟨_,rfl⟩
     have d9:=(hb3.cell (p:=⟨b,off+k*10+9,none⟩) hbw).trans c9
     clear c2 c9
     by_cases hjl:j<L.length
     ·obtain ⟨bh,oh,rfl,hbh,hrh⟩:=Sl.row hopCells_len (hhp2.out.below hb3) hjl
      have htkT:=flatV_virt L j hjl
      have htkF:=flatV_flat L j hjl
      have hfl:(flatV (L.take j)).length≤j:=n't (List.length_filter_le _ _) (by rw[List.length_take];omega)
      obtain ⟨⟨a1,a2,a3⟩,ha⟩:∃ a:Hop,a=L[j]:=⟨_,rfl⟩
      rw[←ha] at hrh htkT htkF
      have h0:=hrh 0 _ rfl
      have h1:=hrh 1 _ rfl
      have h2:=hrh 2 _ rfl
      dsimp only at h0 h1 h2 htkT htkF
      simp only[Nat.add_zero] at h0
      clear hrh ha
      generalize flatV (L.take j)=F at ho htkT htkF hfl
      cases a3 with
      | true =>
       have htk:=h'd (htkT rfl)
       clear htkT htkF
       go_wp2_with fail
       go_roundg (L.length-(j+1))
       case measure=>omega
       case rel=>exact ⟨j+1,by omega,rfl,by go_num,by rw[htk.out];exact ho,hb3⟩
      | false =>
       have htk:=h'd (htkF rfl)
       clear htkT htkF
       go_wp2_with (at_builtin;refine wpList_append rfl (.tmp 41) (.tmp 50) 122 rfl w1.heap.size rhopT u5 F.length (F.flatMap hopCells) rfl (own_alloc ho _) _ _ 1 [.int .u32 a1,.int .u32 a2,.bool false] rfl (Sl.lit w3 #[.int .u32 a1,.int .u32 a2,.bool false] 131 (by simp[maxLen]) rfl) (by simp[Value.oneCell']) (by simp only[maxLen];omega) (by omega) (by have:=hb3.size;simp;omega) ?_;intro v7 w7 ho7 hg7 hob7)
       have hb7:Below w1.heap.size w1 w7:=(below_alloc hb3 (n'r _) _).trans (below_of_grown hg7 (by have:=hb3.size;simp;omega) fun g hg=>(ho.lt g hg).1)
       go_roundg (L.length-(j+1))
       case measure=>omega
       case rel=>exact ⟨j+1,by omega,rfl,by go_num,by rw[htk.out,l'a,List.flatMap_append];exact ho7,hb7⟩
     ·obtain rfl:j=L.length:=by omega
      rw[List.take_length,←hQ.out] at ho
      go_wp2_with fail
      go_ret
      exact ⟨_,rfl,own_less ho hz1,hb1.trans (hb3.mono hz1)⟩
   ·have hqb:(tr==r)=false:=beq_eq_false_iff_ne.2 hq
    have hqn:(tr != r)=true:=by rw[bne,hqb];rfl
    replace hq:=h'd hq
    go_wp2_with fail
    go_roundg (lt.length-(k+1))
    case measure=>omega
    case rel=>exact ⟨k+1,by omega,rfl,by go_num,rfl,fun j hj hjk=>(by
     by_cases e:j=k
     ·subst e;rw[←htr.out];exact hq.out
     ·exact hno.out j hj (by omega)),hb1⟩
  ·obtain rfl:k=lt.length:=by omega
   have hQ:=firstR_none (T:=T) (r:=r) fun j hj=>hno.out j hj (by have:=hlt.out;omega)
   replace hQ:=h'd hQ
   go_wp2_with fail
   go_ret
   exact ⟨_,rfl,by rw[hQ.out];exact World.ownsRow_nil _ _ _ _,hb1⟩
end Go.Proofs.YtcknpofnpabkiaaGreat
