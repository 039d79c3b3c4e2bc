/- The document's graph as it is built: what holds between the rounds. No walk stands here. -/
import Derived.Test.YtcknpofnpabkiaaGreatGzBK
import Derived.Test.YtcknpofnpabkiaaGreatGzBL
namespace Go.Proofs.YtcknpofnpabkiaaGreat
open Go.RowKit Go.Lo
theorem rnodT:ElT Tryz.prog 29 95 7 72:=⟨by kernel_rfl,by
 obtain ⟨i,hi,h1,h2,h3⟩:=info_parts (show (Tryz.prog.info? 95).map (fun i=>(i.zero,i.size,i.bytes))=some (some (.agg #[.bool false,.int .u32 0,.int .u32 0,.int .u8 0,.int .u8 0,.slice none 0 0,.slice none 0 0]),7,72) by kernel_rfl)
 exact ⟨i,_,hi,h1,h2,h3,rfl⟩,by omega⟩
theorem redgT:ElT Tryz.prog 92 106 4 24:=⟨by kernel_rfl,by
 obtain ⟨i,hi,h1,h2,h3⟩:=info_parts (show (Tryz.prog.info? 106).map (fun i=>(i.zero,i.size,i.bytes))=some (some (.agg #[.int .i64 0,.int .u32 0,.int .u32 0,.bool false]),4,24) by kernel_rfl)
 exact ⟨i,_,hi,h1,h2,h3,rfl⟩,by omega⟩
theorem rstuT:ElT Tryz.prog 93 103 3 12:=⟨by kernel_rfl,by
 obtain ⟨i,hi,h1,h2,h3⟩:=info_parts (show (Tryz.prog.info? 103).map (fun i=>(i.zero,i.size,i.bytes))=some (some (.agg #[.int .u32 0,.int .u8 0,.int .u32 0]),3,12) by kernel_rfl)
 exact ⟨i,_,hi,h1,h2,h3,rfl⟩,by omega⟩
structure DB (base:Nat) (L:List StG) (bv:Value) (xs:List BodX) (W:World):Prop where
 bods:W.ownsRow base 81 9 bv xs.length (xs.flatMap bodL)
 bod:xs.map (·.b)=L.map bodyG
 lnk:∀ x∈xs,W.ownsRow base 99 4 (.slice x.A1 x.b.links.length x.c1) x.b.links.length (x.b.links.flatMap linkC)
 rou:∀ x∈xs,W.ownsRow base 23 1 (.slice x.A2 x.b.routers.length x.c2) x.b.routers.length (x.b.routers.map u32c)
structure DN (base:Nat) (L:List StG) (k:Nat) (gv:Value) (rows:List NodR) (W:World):Prop where
 nods:W.ownsRow base 95 7 gv rows.length (rows.flatMap nodC)
 len:rows.length=L.length
 done:∀ j (h:j<rows.length) (h2:j<L.length),j<k→rows[j].n=nodeG L j L[j]
 rest:∀ j (h:j<rows.length) (h2:j<L.length),k≤j→rows[j]=bareR L[j]
 edges:∀ r∈rows,W.ownsRow base 106 4 r.ev r.n.edges.length (r.n.edges.flatMap edgeC)
 stubs:∀ r∈rows,W.ownsRow base 103 3 r.sv r.n.stubs.length (r.n.stubs.flatMap stubC)
section
variable {base:Nat} {L:List StG} {k:Nat} {gv bv:Value} {xs:List BodX} {rows:List NodR} {W W':World}
theorem DB.start:DB base [] (.slice none 0 0) [] W:=⟨World.ownsRow_nil _ _ _ _,rfl,fun _ h=>(by cases h),fun _ h=>(by cases h)⟩
theorem DN.start:DN base [] 0 (.slice none 0 0) [] W:=⟨World.ownsRow_nil _ _ _ _,rfl,fun _ h=>(by cases h),fun _ h=>(by cases h),fun _ h=>(by cases h),fun _ h=>(by cases h)⟩
theorem DB.call (h:DB base L bv xs W) (hb:Below W.heap.size W W'):DB base L bv xs W':=
 ⟨own_below h.bods hb,h.bod,fun x hx=>own_below (h.lnk x hx) hb,fun x hx=>own_below (h.rou x hx) hb⟩
theorem DN.call (h:DN base L k gv rows W) (hb:Below W.heap.size W W'):DN base L k gv rows W':=
 ⟨own_below h.nods hb,h.len,h.done,h.rest,fun x hx=>own_below (h.edges x hx) hb,fun x hx=>own_below (h.stubs x hx) hb⟩
theorem DB.grown (h:DB base L bv xs W) {b s n:Nat} {e:TypeId} {v:Value} {ys:List Value} (ho:W.ownsRow b e s v n ys) (h1:e≠81) (h2:e≠99) (h3:e≠23) (hg:W.grownBy W' v.ownBlock):DB base L bv xs W':=
 ⟨own_grown ho h.bods hg h1,h.bod,fun x hx=>own_grown ho (h.lnk x hx) hg h2,fun x hx=>own_grown ho (h.rou x hx) hg h3⟩
theorem DN.grown (h:DN base L k gv rows W) {b s n:Nat} {e:TypeId} {v:Value} {ys:List Value} (ho:W.ownsRow b e s v n ys) (h1:e≠95) (h2:e≠106) (h3:e≠103) (hg:W.grownBy W' v.ownBlock):DN base L k gv rows W':=
 ⟨own_grown ho h.nods hg h1,h.len,h.done,h.rest,fun x hx=>own_grown ho (h.edges x hx) hg h2,fun x hx=>own_grown ho (h.stubs x hx) hg h3⟩
theorem DB.add (h:DB base L bv xs W) {s:StG} {x:BodX} {bv':Value} (ho:W'.ownsRow base 81 9 bv' (xs.length+1) (xs.flatMap bodL++bodL x)) (hg:W.grownBy W' bv.ownBlock) (hx:x.b=bodyG s)
  (hl:W.ownsRow base 99 4 (.slice x.A1 x.b.links.length x.c1) x.b.links.length (x.b.links.flatMap linkC)) (hr:W.ownsRow base 23 1 (.slice x.A2 x.b.routers.length x.c2) x.b.routers.length (x.b.routers.map u32c)):DB base (L++[s]) bv' (xs++[x]) W':=by
 refine ⟨?_,?_,fun y hy => ?_,fun y hy => ?_⟩
 ·rw[List.length_append,List.flatMap_append]
  simpa using ho
 ·rw[List.map_append,List.map_append,h.bod]
  simp[hx]
 ·rcases List.mem_append.1 hy with hy | hy
  ·exact own_grown h.bods (h.lnk y hy) hg (by decide)
  ·rw[List.mem_singleton.1 hy];exact own_grown h.bods hl hg (by decide)
 ·rcases List.mem_append.1 hy with hy | hy
  ·exact own_grown h.bods (h.rou y hy) hg (by decide)
  ·rw[List.mem_singleton.1 hy];exact own_grown h.bods hr hg (by decide)
theorem DN.add (h:DN base L 0 gv rows W) {s:StG} {gv':Value} (ho:W'.ownsRow base 95 7 gv' (rows.length+1) (rows.flatMap nodC++nodC (bareR s))) (hg:W.grownBy W' gv.ownBlock):DN base (L++[s]) 0 gv' (rows++[bareR s]) W':=by
 have hl:=h.len
 refine ⟨?_,by simp[hl],fun j h1 h2 h3=>(by omega),fun j h1 h2 _ => ?_,fun y hy => ?_,fun y hy => ?_⟩
 ·rw[List.length_append,List.flatMap_append]
  simpa using ho
 ·by_cases hj:j<L.length
  ·rw[List.getElem_append_left (by omega),List.getElem_append_left hj]
   exact h.rest j (by omega) hj (Nat.zero_le _)
  ·rw[List.getElem_append_right (by omega),List.getElem_append_right (by omega)]
   simp
 ·rcases List.mem_append.1 hy with hy | hy
  ·exact own_grown h.nods (h.edges y hy) hg (by decide)
  ·rw[List.mem_singleton.1 hy]
   have:(bareR s).n.edges=[]:=by unfold bareR bare;split <;> rfl
   rw[this]
   exact World.ownsRow_nil _ _ _ _
 ·rcases List.mem_append.1 hy with hy | hy
  ·exact own_grown h.nods (h.stubs y hy) hg (by decide)
  ·rw[List.mem_singleton.1 hy]
   have:(bareR s).n.stubs=[]:=by unfold bareR bare;split <;> rfl
   rw[this]
   exact World.ownsRow_nil _ _ _ _
theorem DN.row (h:DN base L k gv rows W) {i:Nat} (hi:i<rows.length):∃ g cap,gv=.slice (some ⟨g,0,none⟩) rows.length cap∧base≤g∧g<W.heap.size∧∀ j u,(nodC rows[i])[j]?=some u→W.cell? ⟨g,i*7+j,none⟩=some u:=by
 have h1:=Sl.of_own h.nods
 rcases h.nods.2 with ⟨_,h0⟩ | ⟨g,cap,cur,rfl,hg,_,_⟩
 ·omega
 ·obtain ⟨b,off,e,hb,hr⟩:=Sl.row nodC_len h1 hi
  simp only[Option.some.injEq,Addr.mk.injEq,and_true] at e
  obtain ⟨rfl,rfl⟩:=e
  simp only[Nat.zero_add] at hr
  exact ⟨_,_,rfl,hg,hb,hr⟩
theorem DB.row (h:DB base L bv xs W) {i:Nat} (hi:i<xs.length):∃ g cap,bv=.slice (some ⟨g,0,none⟩) xs.length cap∧base≤g∧g<W.heap.size∧∀ j u,(bodL xs[i])[j]?=some u→W.cell? ⟨g,i*9+j,none⟩=some u:=by
 have h1:=Sl.of_own h.bods
 rcases h.bods.2 with ⟨_,h0⟩ | ⟨g,cap,cur,rfl,hg,_,_⟩
 ·omega
 ·obtain ⟨b,off,e,hb,hr⟩:=Sl.row bodL_len h1 hi
  simp only[Option.some.injEq,Addr.mk.injEq,and_true] at e
  obtain ⟨rfl,rfl⟩:=e
  simp only[Nat.zero_add] at hr
  exact ⟨_,_,rfl,hg,hb,hr⟩
theorem DB.len (h:DB base L bv xs W):xs.length=L.length:=by
 have:=congrArg List.length h.bod
 simpa using this
theorem DB.body (h:DB base L bv xs W) {i:Nat} (hi:i<xs.length) (h2:i<L.length):xs[i].b=bodyG L[i]:=by
 have:=congrArg (·[i]?) h.bod
 simpa[hi,h2] using this
theorem DN.id_ (h:DN base L k gv rows W) {i:Nat} (hi:i<rows.length) (h2:i<L.length):rows[i].n.id=L[i].1.id:=by
 by_cases hj:i<k
 ·rw[h.done i hi h2 hj]
  unfold nodeG
  split <;> rfl
 ·rw[h.rest i hi h2 (by omega)]
  unfold bareR bare
  split <;> rfl
theorem DN.turn (h:DN base L k gv rows W) {y:NodR} (hkL:k<L.length) (ho:W'.ownsRow base 95 7 gv rows.length ((rows.set k y).flatMap nodC)) (hg:W.grownBy W' gv.ownBlock)
  (hy:y.n=nodeG L k L[k]) (he:W'.ownsRow base 106 4 y.ev y.n.edges.length (y.n.edges.flatMap edgeC)) (hs:W'.ownsRow base 103 3 y.sv y.n.stubs.length (y.n.stubs.flatMap stubC)) :
  DN base L (k+1) gv (rows.set k y) W':=by
 have hlr:(rows.set k y).length=rows.length:=by simp
 refine ⟨by rw[hlr];exact ho,by rw[hlr];exact h.len,fun j hj h2 hjk => ?_,fun j hj h2 hjk => ?_,fun r hr => ?_,fun r hr => ?_⟩
 ·rw[List.getElem_set]
  split
  ·rename_i e;subst e;exact hy
  ·exact h.done j (by simpa using hj) h2 (by omega)
 ·rw[List.getElem_set]
  split
  ·omega
  ·exact h.rest j (by simpa using hj) h2 (by omega)
 ·rcases List.mem_or_eq_of_mem_set hr with hr | rfl
  ·exact own_grown h.nods (h.edges r hr) hg (by decide)
  ·exact he
 ·rcases List.mem_or_eq_of_mem_set hr with hr | rfl
  ·exact own_grown h.nods (h.stubs r hr) hg (by decide)
  ·exact hs
end
structure GrD (w:World) (base:Nat) (nv:Value) (rows:List NodR):Prop where
 nods:w.ownsRow base 95 7 nv rows.length (rows.flatMap nodC)
 edges:∀ r∈rows,w.ownsRow base 106 4 r.ev r.n.edges.length (r.n.edges.flatMap edgeC)
 stubs:∀ r∈rows,w.ownsRow base 103 3 r.sv r.n.stubs.length (r.n.stubs.flatMap stubC)
theorem GrD.call {w w':World} {base:Nat} {nv:Value} {rows:List NodR} (h:GrD w base nv rows) (hb:Below w.heap.size w w'):GrD w' base nv rows:=⟨own_below h.nods hb,fun r hr=>own_below (h.edges r hr) hb,fun r hr=>own_below (h.stubs r hr) hb⟩
theorem DN.fin {base:Nat} {L:List StG} {k:Nat} {gv:Value} {rows:List NodR} {W:World} (h:DN base L k gv rows W) (hk:k=L.length):GrD W base gv rows∧rows.map (·.n)=graphG L:=by
 refine ⟨⟨h.nods,h.edges,h.stubs⟩,List.ext_getElem (by simp[graphG,h.len]) fun j h1 h2 => ?_⟩
 have hj:j<rows.length:=by simpa using h1
 have hl:=h.len
 simp only[List.getElem_map,graphG,List.getElem_mapIdx]
 exact h.done j hj (by omega) (by omega)
theorem find_rows {base:Nat} {L:List StG} {k:Nat} {gv:Value} {rows:List NodR} {W:World} (h:DN base L k gv rows W) (net:Bool) (id:Int):rows.findIdx? (isN_ net id)=atN L (net,id):=by
 have hl:=h.len
 have hrow:∀ j (h1:j<rows.length) (h2:j<L.length),isN_ net id rows[j]=(keyN L[j]==(net,id)):=fun j h1 h2=>by
  have e:rows[j].n.network=(L[j].1.type==2)∧rows[j].n.id=L[j].1.id:=by
   by_cases hj:j<k
   ·rw[h.done j h1 h2 hj]
    unfold nodeG
    split
    ·rename_i e;rw[e];exact ⟨rfl,rfl⟩
    ·rename_i e;exact ⟨by simp[e],rfl⟩
   ·rw[h.rest j h1 h2 (by omega)]
    unfold bareR bare
    split
    ·rename_i e;rw[e];exact ⟨rfl,rfl⟩
    ·rename_i e;exact ⟨by simp[e],rfl⟩
  unfold isN_ keyN
  rw[e.1,e.2]
  rfl
 unfold atN
 have:∀ (R:List NodR) (M:List StG),R.length=M.length→(∀ j (h1:j<R.length) (h2:j<M.length),isN_ net id R[j]=(keyN M[j]==(net,id)))→R.findIdx? (isN_ net id)=M.findIdx? fun s=>keyN s==(net,id):=by
  intro R
  induction R with
  | nil =>
   intro M hm _
   have e:M=[]:=List.length_eq_zero_iff.1 (by simpa using hm.symm)
   subst e
   rfl
  | cons r R ih =>
   intro M hm hj
   cases M with
   | nil=>cases hm
   | cons m M =>
    rw[List.findIdx?_cons,List.findIdx?_cons]
    have h0:=hj 0 (by simp) (by simp)
    simp only[List.getElem_cons_zero] at h0
    rw[h0,ih M (by simpa using hm) fun j h1 h2=>by
     have:=hj (j+1) (by simpa using h1) (by simpa using h2)
     simpa using this]
 exact this rows L hl hrow
end Go.Proofs.YtcknpofnpabkiaaGreat
