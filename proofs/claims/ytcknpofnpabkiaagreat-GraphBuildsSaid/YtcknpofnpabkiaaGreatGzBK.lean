/- The document's Find, linked, has, Pre. Conditions: the nodes and bodies lie in memory. -/
import Derived.Test.YtcknpofnpabkiaaGreatGzAT
import Derived.Test.YtcknpofnpabkiaaGreatGzBJ
set_option maxRecDepth 100000
namespace Go.Proofs.YtcknpofnpabkiaaGreat
open Go.RowKit Go.Lo
set_option maxHeartbeats 1000000 in
theorem rlinked_any (B:Nat) (x:BodX) (t id:Int) (w:World) (hl:Sl w B 4 (.slice x.A1 x.b.links.length x.c1) x.b.links.length (x.b.links.flatMap linkC)) (hB:B≤w.heap.size) (hn:x.b.links.length≤1000000) :
  Calls Tryz.prog 45 #[.agg (bodL x).toArray,.int .u8 t,.int .u32 id] w fun e w'=>e=.returned (.bool (linksP x.b t id))∧Below w.heap.size w w':=by
 obtain ⟨q,hq⟩:∃ q,q=linksP x.b t id:=⟨_,rfl⟩
 rw[←hq]
 unfold linksP at hq
 obtain ⟨A1,c1,A2,c2,A3,c3,⟨fl,links,mask,routers,metric,t2,fw,tg,data⟩⟩:=x
 simp only at hl hn hq
 dsimp only[bodL]
 have k0:=Blk.new w 81 #[.int .u8 fl,.slice A1 links.length c1,.int .u32 mask,.slice A2 routers.length c2,.int .u32 metric,.bool t2,.int .u32 fw,.int .u32 tg,.slice A3 data.length c3]
 have hB0:Below w.heap.size w (w.alloc (.cells #[.int .u8 fl,.slice A1 links.length c1,.int .u32 mask,.slice A2 routers.length c2,.int .u32 metric,.bool t2,.int .u32 fw,.int .u32 tg,.slice A3 data.length c3] 81)):=(Below.refl _ _).alloc (Nat.le_refl _) _
 go_enter Tryz.func45,Tryz.ntmps45
 go_upto_region 2 with fail
 generalize w.alloc (.cells #[.int .u8 fl,.slice A1 links.length c1,.int .u32 mask,.slice A2 routers.length c2,.int .u32 metric,.bool t2,.int .u32 fw,.int .u32 tg,.slice A3 data.length c3] 81)=w1 at k0 hB0 ⊢
 have x1:=k0.cell 1
 simp only[q'a,q'z,q's] at x1
 have hl1:=hl.below (hB0.mono hB)
 clear hl k0
 go_loopg [7] links.length (fun m u wr=>∃ k:Nat,k≤links.length∧m=links.length-k∧u=.int .i64 k∧(∀ j (hj:j<links.length),j<k→(links[j].type==t && links[j].id==id)=false)∧wr=w1)
 case atStart=>exact ⟨0,Nat.zero_le _,rfl,rfl,fun _ _ h=>absurd h (by omega),rfl⟩
 case round =>
  obtain ⟨k,hk,rfl,rfl,hno,rfl⟩:=hrel
  by_cases hkl:k<links.length
  ·obtain ⟨b,o,rfl,hb,hr⟩:=Sl.row (f:=linkC) (fun _=>rfl) hl1 hkl
   have ik:(k:Int)<(links.length:Int):=by omega
   have c0:wr.cell? ⟨b,o+k*4,none⟩=some (.int .u32 links[k].id):=hr 0 _ rfl
   have c2:wr.cell? ⟨b,o+k*4+2,none⟩=some (.int .u8 links[k].type):=hr 2 _ rfl
   have hno':=h'd hno
   have hq':=h'd hq
   have hmem:=List.getElem_mem hkl
   obtain ⟨y,hy⟩:∃ y,y=links[k]:=⟨_,rfl⟩
   rw[←hy] at c0 c2 hmem
   replace hmem:=h'd hmem
   replace hy:=h'd hy
   clear hno hq hr
   cases e1:(y.type==t) with
   | true =>
    cases e2:(y.id==id) with
    | true =>
     go_wp2
     go_ret
     obtain rfl:q=true:=by rw[hq'.out];exact List.any_eq_true.2 ⟨y,hmem.out,by rw[e1,e2];rfl⟩
     exact ⟨rfl,hB0⟩
    | false =>
     go_wp2
     go_roundg (links.length-(k+1))
     case measure=>omega
     case rel=>exact ⟨k+1,by omega,rfl,by go_num,fun j hj hjk=>by
            by_cases e:j=k
            ·subst e;rw[←hy.out,e1,e2];rfl
            ·exact hno'.out j hj (by omega),rfl⟩
   | false =>
    go_wp2
    go_roundg (links.length-(k+1))
    case measure=>omega
    case rel=>exact ⟨k+1,by omega,rfl,by go_num,fun j hj hjk=>by
           by_cases e:j=k
           ·subst e;rw[←hy.out,e1];rfl
           ·exact hno'.out j hj (by omega),rfl⟩
  ·obtain rfl:k=links.length:=by omega
   have hq':=h'd hq
   have hno':=h'd hno
   clear hq hno
   go_wp2
   go_ret
   obtain rfl:q=false:=by
    rw[hq'.out]
    refine List.any_eq_false.2 fun y hy => ?_
    obtain ⟨j,hj,rfl⟩:=List.getElem_of_mem hy
    rw[hno'.out j hj hj];decide
   exact ⟨rfl,hB0⟩
set_option maxHeartbeats 1000000 in
theorem rhas_any (B:Nat) (x:BodX) (id:Int) (w:World) (hl:Sl w B 1 (.slice x.A2 x.b.routers.length x.c2) x.b.routers.length (x.b.routers.map u32c)) (hB:B≤w.heap.size) (hn:x.b.routers.length≤1000000) :
  Calls Tryz.prog 44 #[.agg (bodL x).toArray,.int .u32 id] w fun e w'=>e=.returned (.bool (hasP x.b id))∧Below w.heap.size w w':=by
 obtain ⟨q,hq⟩:∃ q,q=hasP x.b id:=⟨_,rfl⟩
 rw[←hq]
 unfold hasP at hq
 obtain ⟨A1,c1,A2,c2,A3,c3,⟨fl,links,mask,routers,metric,t2,fw,tg,data⟩⟩:=x
 simp only at hl hn hq
 dsimp only[bodL]
 have k0:=Blk.new w 81 #[.int .u8 fl,.slice A1 links.length c1,.int .u32 mask,.slice A2 routers.length c2,.int .u32 metric,.bool t2,.int .u32 fw,.int .u32 tg,.slice A3 data.length c3]
 have hB0:Below w.heap.size w (w.alloc (.cells #[.int .u8 fl,.slice A1 links.length c1,.int .u32 mask,.slice A2 routers.length c2,.int .u32 metric,.bool t2,.int .u32 fw,.int .u32 tg,.slice A3 data.length c3] 81)):=(Below.refl _ _).alloc (Nat.le_refl _) _
 go_enter Tryz.func44,Tryz.ntmps44
 go_upto_region 2 with fail
 generalize w.alloc (.cells #[.int .u8 fl,.slice A1 links.length c1,.int .u32 mask,.slice A2 routers.length c2,.int .u32 metric,.bool t2,.int .u32 fw,.int .u32 tg,.slice A3 data.length c3] 81)=w1 at k0 hB0 ⊢
 have x3:=k0.cell 3
 simp only[q'a,q'z,q's] at x3
 have hl1:=hl.below (hB0.mono hB)
 obtain ⟨-,Ar,cr,hv,-,-,hat⟩:=hl1
 simp only[Value.slice.injEq,true_and] at hv
 obtain ⟨rfl,rfl⟩:=hv
 clear hl k0
 go_loopg [5] routers.length (fun m u wr=>∃ k:Nat,k≤routers.length∧m=routers.length-k∧u=.int .i64 k∧(∀ j (hj:j<routers.length),j<k→(routers[j]==id)=false)∧wr=w1)
 case atStart=>exact ⟨0,Nat.zero_le _,rfl,rfl,fun _ _ h=>absurd h (by omega),rfl⟩
 case round =>
  obtain ⟨k,hk,rfl,rfl,hno,rfl⟩:=hrel
  by_cases hkl:k<routers.length
  ·obtain ⟨b,o,rfl,hb,hr⟩:=hat (by omega)
   have ik:(k:Int)<(routers.length:Int):=by omega
   have c0:wr.cell? ⟨b,o+k,none⟩=some (.int .u32 routers[k]):=hr k (u32c routers[k]) (by simp[hkl])
   have hno':=h'd hno
   have hq':=h'd hq
   have hmem:=List.getElem_mem hkl
   obtain ⟨y,hy⟩:∃ y,y=routers[k]:=⟨_,rfl⟩
   rw[←hy] at c0 hmem
   replace hmem:=h'd hmem
   replace hy:=h'd hy
   clear hno hq hr hat
   cases e1:(y==id) with
   | true =>
    go_wp2
    go_ret
    obtain rfl:q=true:=by rw[hq'.out];exact List.any_eq_true.2 ⟨y,hmem.out,e1⟩
    exact ⟨rfl,hB0⟩
   | false =>
    go_wp2
    go_roundg (routers.length-(k+1))
    case measure=>omega
    case rel=>exact ⟨k+1,by omega,rfl,by go_num,fun j hj hjk=>by
           by_cases e:j=k
           ·subst e;rw[←hy.out,e1]
           ·exact hno'.out j hj (by omega),rfl⟩
  ·obtain rfl:k=routers.length:=by omega
   have hq':=h'd hq
   have hno':=h'd hno
   clear hq hno hat
   go_wp2
   go_ret
   obtain rfl:q=false:=by
    rw[hq'.out]
    refine List.any_eq_false.2 fun y hy => ?_
    obtain ⟨j,hj,rfl⟩:=List.getElem_of_mem hy
    rw[hno'.out j hj hj];decide
   exact ⟨rfl,hB0⟩
set_option maxHeartbeats 1000000 in
theorem rfind_any (net:Bool) (id:Int) (B:Nat) (nv:Value) (rows:List NodR) (w:World) (h:Sl w B 7 nv rows.length (rows.flatMap nodC)) (hn:rows.length≤1000000) :
  Calls Tryz.prog 16 #[nv,.bool net,.int .u32 id] w fun e w'=>e=.returned (.int .i64 (idxI (rows.findIdx? (isN_ net id))))∧w'=w:=by
 obtain ⟨-,A,c,rfl,-⟩:=_root_.id h
 obtain ⟨q,hq⟩:∃ q,q=rows.findIdx? (isN_ net id):=⟨_,rfl⟩
 rw[←hq]
 go_enter Tryz.func16,Tryz.ntmps16
 go_upto_region 2 with fail
 go_loopg [7] rows.length (fun m u wr=>∃ k:Nat,k≤rows.length∧m=rows.length-k∧u=.int .i64 k∧(∀ j (hj:j<rows.length),j<k→isN_ net id rows[j]=false)∧wr=w)
 case atStart=>exact ⟨0,Nat.zero_le _,rfl,rfl,fun _ _ h=>absurd h (by omega),rfl⟩
 case round =>
  obtain ⟨k,hk,rfl,rfl,hno,rfl⟩:=hrel
  by_cases hkl:k<rows.length
  ·obtain ⟨b,o,rfl,hb,hr⟩:=Sl.row nodC_len h hkl
   have ik:(k:Int)<(rows.length:Int):=by omega
   have c0:wr.cell? ⟨b,o+k*7,none⟩=some (.bool rows[k].n.network):=hr 0 _ rfl
   have c1:wr.cell? ⟨b,o+k*7+1,none⟩=some (.int .u32 rows[k].n.id):=hr 1 _ rfl
   have hno':=h'd hno
   have hq':=h'd hq
   obtain ⟨y,hy⟩:∃ y,y=rows[k]:=⟨_,rfl⟩
   rw[←hy] at c0 c1
   replace hy:=h'd hy
   clear hno hq hr h
   cases e1:(y.n.network==net) with
   | true =>
    cases e2:(y.n.id==id) with
    | true =>
     go_wp2
     go_ret
     obtain rfl:q=some k:=by
      rw[hq'.out,List.findIdx?_eq_some_iff_getElem]
      exact ⟨hkl,by rw[←hy.out];unfold isN_;rw[e1,e2];rfl,fun j hj=>by rw[hno'.out j (by omega) hj];decide⟩
     exact ⟨rfl,rfl⟩
    | false =>
     go_wp2
     go_roundg (rows.length-(k+1))
     case measure=>omega
     case rel=>exact ⟨k+1,by omega,rfl,by go_num,fun j hj hjk=>by
            by_cases e:j=k
            ·subst e;rw[←hy.out];unfold isN_;rw[e1,e2];rfl
            ·exact hno'.out j hj (by omega),rfl⟩
   | false =>
    go_wp2
    go_roundg (rows.length-(k+1))
    case measure=>omega
    case rel=>exact ⟨k+1,by omega,rfl,by go_num,fun j hj hjk=>by
           by_cases e:j=k
           ·subst e;rw[←hy.out];unfold isN_;rw[e1];rfl
           ·exact hno'.out j hj (by omega),rfl⟩
  ·obtain rfl:k=rows.length:=by omega
   have hq':=h'd hq
   have hno':=h'd hno
   clear hq hno h
   go_wp2
   go_ret
   obtain rfl:q=none:=by
    rw[hq'.out,List.findIdx?_eq_none_iff]
    intro y hy
    obtain ⟨j,hj,rfl⟩:=List.getElem_of_mem hy
    exact hno'.out j hj hj
   exact ⟨rfl,rfl⟩
theorem rpre_any (id m:Int) (w:World):Calls Tryz.prog 41 #[.int .u32 id,.int .u32 m] w fun e w'=>e=.returned (.agg #[.int .u32 (bits BinOp.and IntKind.u32 id m),.int .u8 (bitsV m)])∧Below w.heap.size w w':=by
 have k0:Blk (w.alloc (.cells #[.int .u32 0,.int .u8 0] 45)) w.heap.size 45 #[.int .u32 0,.int .u8 0]:=Blk.new _ _ _
 have kB:Below w.heap.size w (w.alloc (.cells #[.int .u32 0,.int .u8 0] 45)):=(Below.refl _ _).alloc (Nat.le_refl _) _
 go_enter Tryz.func41,Tryz.ntmps41
 go_upto_region 1 with fail
 generalize w.alloc (.cells #[.int .u32 0,.int .u8 0] 45)=w1 at k0 kB ⊢
 have C:=h'd (rbits_gen m w1)
 go_upto_region 2 with (go_at_call 43;refine Calls.mono C.out ?_;rintro x w2 ⟨rfl,rfl⟩)
 have hset:Blk (w2.setRow w.heap.size #[.int .u32 (bits BinOp.and IntKind.u32 id m),.int .u8 (bitsV m)]) w.heap.size 45 #[.int .u32 (bits BinOp.and IntKind.u32 id m),.int .u8 (bitsV m)]:=setRow_heap w2 w.heap.size #[.int .u32 0,.int .u8 0] #[.int .u32 (bits BinOp.and IntKind.u32 id m),.int .u8 (bitsV m)] 45 (0,0) k0
 have hB3:Below w.heap.size w2 (w2.setRow w.heap.size #[.int .u32 (bits BinOp.and IntKind.u32 id m),.int .u8 (bitsV m)]):=⟨rfl,rfl,rfl,by simp[World.setRow],fun k hk=>setRow_other _ _ k _ (by omega)⟩
 go_wp2_with (refine wpList_store_row rfl 45 (.tmp 4) (.tmp 16) rfl w.heap.size #[.int .u32 (bits BinOp.and IntKind.u32 id m),.int .u8 (bitsV m)] rfl rfl 45 #[.int .u32 0,.int .u8 0] k0 (by kernel_rfl) rfl (by simp[Value.oneCell']) ?_)
 refine bodyPost_ret (results_cell_row rfl _ _ w.heap.size 45 #[.int .u32 (bits BinOp.and IntKind.u32 id m),.int .u8 (bitsV m)] (0,0) _ rfl hset Tryz.underlying45 rfl (by kernel_rfl)) rfl ?_
 exact ⟨rfl,kB.trans hB3⟩
end Go.Proofs.YtcknpofnpabkiaaGreat
