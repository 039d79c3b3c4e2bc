/- The web of nodes in memory; web.links, web.network. Conditions: the web lies in blocks of its own. -/
import Derived.Test.YtcknpofnpabkiaaGreatRpBK
import Derived.Test.YtcknpofnpabkiaaGreatRpBJ
set_option maxRecDepth 100000
namespace Go.Proofs.YtcknpofnpabkiaaGreat
open Go.RowKit Go.Lo Go.Maps
structure MapA (D:DataW Unit) (f:KN→Option Nat):Prop where
 none_:∀ k,InN k→f k=none→Maps.has D (nlit k)=false∧∀ z,D.atKey (nlit k) z=z
 some_:∀ k i,InN k→f k=some i→Maps.has D (nlit k)=true∧∀ z,D.atKey (nlit k) z=.lit (.int .i64 i)
theorem MapA.start {f:KN→Option Nat} (h:∀ k,f k=none):MapA (.map []) f:=⟨fun _ _ _=>⟨rfl,fun _=>rfl⟩,fun k i _ e=>by rw[h] at e;cases e⟩
theorem MapA.put {D:DataW Unit} {f f':KN→Option Nat} (h:MapA D f) (hD:IsMap D) (k:KN) (hk:InN k) (i:Nat) (hf:∀ k',f' k'=if k'=k then some i else f k'):MapA (D.put (nlit k) (.lit (.int .i64 i))) f':=by
 refine ⟨fun k' hk' h0 => ?_,fun k' j hk' hj => ?_⟩
 ·rw[hf] at h0
  split at h0
  ·cases h0
  ·rename_i hne
   have hlne:nlit k'≠nlit k:=fun e=>hne (nlit_inj hk' hk e)
   obtain ⟨h1,h2⟩:=h.none_ k' hk' h0
   exact ⟨by rw[has_put_other hlne];exact h1,fun z=>by rw[atKey_put_other hlne];exact h2 z⟩
 ·rw[hf] at hj
  split at hj
  ·rename_i he
   subst he
   simp only[o'j] at hj
   subst hj
   exact ⟨has_put_same hD (nlit_key _ hk) _,fun z=>atKey_put_same hD (nlit_key _ hk) _ z⟩
  ·rename_i hne
   have hlne:nlit k'≠nlit k:=fun e=>hne (nlit_inj hk' hk e)
   obtain ⟨h3,h4⟩:=h.some_ k' j hk' hj
   exact ⟨by rw[has_put_other hlne];exact h3,fun z=>by rw[atKey_put_other hlne];exact h4 z⟩
theorem zInt_run (W:World):(zeroValue 3).run Tryz.prog W=.ok (.int .i64 0) W:=by kernel_rfl
section
variable {ops:Array Oper} {rest:List Oper} {o:Oper} {a:Act} {Q:Exit→Act→World→Prop} {w:World}
theorem wpList_lookup_at (hg:o.guard=none) (m x:Operand) (hop:o.op=Op.lookup 74 m x true) (b nn:Nat) (D:DataW Unit) (f:KN→Option Nat)
  (hm:a.eval m=.map (some b)) (hown:w.ownsMap Tryz.prog 88 (plainElem Tryz.prog 3) b nn D) (hM:MapA D f) (k:KN) (hk:InN k) (hx:a.eval x=nV k)
  (h0:f k=none→wpList Tryz.prog ops Q rest (a.put o.dst (.tuple #[.int .i64 0,.bool false])) w)
  (h1:∀ i:Nat,f k=some i→wpList Tryz.prog ops Q rest (a.put o.dst (.tuple #[.int .i64 i,.bool true])) w) :
  wpList Tryz.prog ops Q (o :: rest) a w:=by
 refine wpList_lookup_own_ok_int _ hg m x _ hop 88 3 .i64 name_keyed Tryz.underlying74 Tryz.underlying3 (zInt_run _) b nn D hm hown _ (nlit k) hx (key_n k hk) ?_
 intro c hc _
 cases hf:f k with
 | none =>
  obtain ⟨h2,h3⟩:=hM.none_ k hk hf
  rw[h3] at hc
  simp only[DataW.lit.injEq,Lit.int.injEq,true_and] at hc
  rw[h2,←hc]
  exact h0 hf
 | some i =>
  obtain ⟨h4,h5⟩:=hM.some_ k i hk hf
  rw[h5] at hc
  simp only[DataW.lit.injEq,Lit.int.injEq,true_and] at hc
  rw[h4,←hc]
  exact h1 i hf
end
structure WebO (w:World) (base:Nat) (L:List StG) (mb:Nat) (bv iv:Value) (xs:List BodX):Prop where
 map:∃ D nn,w.ownsMap Tryz.prog 88 (plainElem Tryz.prog 3) mb nn D∧MapA D (atN L)
 bods:w.ownsRow base 81 9 bv xs.length (xs.flatMap bodL)
 links:∀ x∈xs,w.ownsRow base 99 4 (.slice x.A1 x.b.links.length x.c1) x.b.links.length (x.b.links.flatMap linkC)∧x.b.links.length≤1000000
 routers:∀ x∈xs,w.ownsRow base 23 1 (.slice x.A2 x.b.routers.length x.c2) x.b.routers.length (x.b.routers.map u32c)∧x.b.routers.length≤1000000
 ids:w.ownsRow base 23 1 iv L.length ((L.map fun s=>s.1.id).map u32c)
 bod:xs.map (·.b)=L.map bodyG
theorem WebO.len {w:World} {base:Nat} {L:List StG} {mb:Nat} {bv iv:Value} {xs:List BodX} (h:WebO w base L mb bv iv xs):xs.length=L.length:=by
 have:=congrArg List.length h.bod
 simpa using this
theorem WebO.body {w:World} {base:Nat} {L:List StG} {mb:Nat} {bv iv:Value} {xs:List BodX} (h:WebO w base L mb bv iv xs) {i:Nat} (hi:i<xs.length):bodyOf L i=xs[i].b:=by
 have hL:i<L.length:=by rw[←h.len];exact hi
 unfold bodyOf
 rw[List.getElem?_eq_getElem hL]
 have:=congrArg (fun z=>z[i]?) h.bod
 simp[hi,hL] at this
 exact this.symm
theorem WebO.call {w w':World} {base:Nat} {L:List StG} {mb:Nat} {bv iv:Value} {xs:List BodX} (h:WebO w base L mb bv iv xs) (hb:Below w.heap.size w w'):WebO w' base L mb bv iv xs:=by
 obtain ⟨D,nn,h1,h2⟩:=h.map
 exact ⟨⟨D,nn,h1.kept (grown_of_below hb none) (fun e=>by cases e),h2⟩,own_below h.bods hb,fun x hx=>⟨own_below (h.links x hx).1 hb,(h.links x hx).2⟩,fun x hx=>⟨own_below (h.routers x hx).1 hb,(h.routers x hx).2⟩,own_below h.ids hb,h.bod⟩
theorem WebO.grown {w w':World} {base:Nat} {L:List StG} {mb:Nat} {bv iv:Value} {xs:List BodX} (h:WebO w base L mb bv iv xs) {b2 s n:Nat} {T:TypeId} {v:Value} {ys:List Value} (ho:w.ownsRow b2 T s v n ys) (h1:T≠81) (h2:T≠99) (h3:T≠23) (hg:w.grownBy w' v.ownBlock):WebO w' base L mb bv iv xs:=by
 obtain ⟨D,nn,hm,hM⟩:=h.map
 refine ⟨⟨D,nn,hm.kept hg fun e => ?_,hM⟩,own_grown ho h.bods hg h1,fun x hx=>⟨own_grown ho (h.links x hx).1 hg h2,(h.links x hx).2⟩,fun x hx=>⟨own_grown ho (h.routers x hx).1 hg h3,(h.routers x hx).2⟩,own_grown ho h.ids hg h3,h.bod⟩
 obtain ⟨es,cl,h5,_⟩:=hm
 rcases ho.2 with h' | ⟨b,cap,cur,rfl,_,h6,_⟩
 ·rw[h'.1] at e
  cases e
 ·simp only[Value.ownBlock,o'j] at e
  subst e
  rw[h5] at h6
  cases h6
theorem WebO.row {w:World} {base:Nat} {L:List StG} {mb:Nat} {bv iv:Value} {xs:List BodX} (h:WebO w base L mb bv iv xs) {i:Nat} (hi:i<xs.length) :
  ∃ b off c,bv=.slice (some ⟨b,off,none⟩) xs.length c∧b<w.heap.size∧∀ j u,(bodL xs[i])[j]?=some u→w.cell? ⟨b,off+i*9+j,none⟩=some u:=by
 have h1:=Sl.of_own h.bods
 obtain ⟨-,A,c,rfl,-⟩:=id h1
 obtain ⟨b,off,rfl,hb,hr⟩:=Sl.row bodL_len h1 hi
 exact ⟨b,off,c,rfl,hb,hr⟩
theorem WebO.id_ {w:World} {base:Nat} {L:List StG} {mb:Nat} {bv iv:Value} {xs:List BodX} (h:WebO w base L mb bv iv xs) {i:Nat} (hi:i<L.length) :
  ∃ b off c,iv=.slice (some ⟨b,off,none⟩) L.length c∧b<w.heap.size∧w.cell? ⟨b,off+i,none⟩=some (.int .u32 L[i].1.id):=by
 have h1:=Sl.of_own h.ids
 obtain ⟨-,A,c,rfl,-⟩:=id h1
 have h2:Sl w w.heap.size 1 (.slice A L.length c) L.length (L.flatMap fun s=>[u32c s.1.id]):=by
  have e:(L.map fun s=>s.1.id).map u32c=L.flatMap fun s=>[u32c s.1.id]:=by rw[List.map_map,←List.map_eq_flatMap];rfl
  rw[←e];exact h1
 obtain ⟨b,off,rfl,hb,hr⟩:=Sl.row (s:=1) (f:=fun s:StG=>[u32c s.1.id]) (fun _=>rfl) h2 hi
 refine ⟨b,off,c,rfl,hb,?_⟩
 have:=hr 0 _ rfl
 rw[Nat.mul_one] at this
 exact this
set_option maxHeartbeats 1000000 in
theorem wlinks_any (base:Nat) (L:List StG) (mb:Nat) (bv iv:Value) (xs:List BodX) (w:World) (h:WebO w base L mb bv iv xs) (i:Nat) (hi:i<xs.length) (t id:Int) :
  Calls Tryz.prog 84 #[.agg #[.map (some mb),bv,iv],.int .i64 i,.int .u8 t,.int .u32 id] w fun e w'=>e=.returned (.bool (linksP xs[i].b t id))∧Below w.heap.size w w':=by
 obtain ⟨b,off,c,rfl,hb,hr⟩:=h.row hi
 have hl:=h.links xs[i] (g'm hi)
 obtain ⟨x,hx⟩:∃ x,x=xs[i]:=⟨_,rfl⟩
 rw[←hx] at hr hl ⊢
 have y1:w.cell? ⟨b,off+i*9+1,none⟩=some (.slice x.A1 x.b.links.length x.c1):=hr 1 _ rfl
 have hi2:(i:Int)<(xs.length:Int):=by omega
 obtain ⟨w1,hw1⟩:∃ w1,w1=((w.alloc (.cells #[.map (some mb),.slice (some ⟨b,off,none⟩) xs.length c,iv] 78)).alloc (.cells #[.int .u8 t] 5)).alloc (.cells #[.int .u32 id] 23):=⟨_,rfl⟩
 have k0:Blk w1 w.heap.size 78 #[.map (some mb),.slice (some ⟨b,off,none⟩) xs.length c,iv]:=by rw[hw1];exact ((Blk.new _ _ _).alloc _).alloc _
 have k1:Blk w1 (w.heap.size+1) 5 #[.int .u8 t]:=by rw[hw1];exact (Blk.new_ _ (by simp)).alloc _
 have k2:Blk w1 (w.heap.size+1+1) 23 #[.int .u32 id]:=by rw[hw1];exact Blk.new_ _ (by simp)
 have kB:Below w.heap.size w w1:=by rw[hw1];exact ((b'r _ _).alloc (n'r _) _ |>.alloc (by simp) _).alloc (by simp;omega) _
 have y1':=(kB.cell (p:=⟨b,off+i*9+1,none⟩) hb).trans y1
 have z1:=k0.cell 1
 have p1:=k1.cell 0
 have p2:=k2.cell 0
 simp only[q'a,q'z,q's] at z1 p1 p2
 have C:=hasLink_any t id (w.heap.size+1) (w.heap.size+1+1) x.b.links (.slice x.A1 x.b.links.length x.c1) w.heap.size w1 ((Sl.of_own hl.1).below kB) kB.size hl.2 p1 p2 k1.lt k2.lt
 replace C:=h'd C
 clear hr hl hx h y1 k0 k1 k2 p1 p2
 unfold linksP
 go_enter Tryz.func84,Tryz.ntmps84
 go_upto_region 1 with fail
 rw[←hw1]
 clear hw1
 go_wp2_with (go_at_call 123;refine c'm C.out ?_;rintro e w2 ⟨rfl,hB2⟩)
 go_ret
 exact ⟨rfl,kB.trans (hB2.mono kB.size)⟩
def edgeC (e:GEdge):List Value:=[.int .i64 e.dst,.int .u32 e.cost,.int .u32 e.data,.bool e.virt]
theorem edgT:ElT Tryz.prog 60 65 4 24:=⟨by kernel_rfl,by
 obtain ⟨i,hi,h1,h2,h3⟩:=info_parts (show (Tryz.prog.info? 65).map (fun i=>(i.zero,i.size,i.bytes))=some (some (.agg #[.int .i64 0,.int .u32 0,.int .u32 0,.bool false]),4,24) by kernel_rfl)
 exact ⟨i,_,hi,h1,h2,h3,rfl⟩,by omega⟩
theorem filterMap_take {α β:Type} (f:α→Option β) (l:List α) (k:Nat) (hk:k<l.length):(l.take (k+1)).filterMap f=(l.take k).filterMap f++(match f l[k] with | some y=>[y] | none=>[]):=by
 rw[t'k hk,List.filterMap_append]
 congr 1
 cases h:f l[k] <;> simp[h]
structure NI (w:World) (base:Nat) (L:List StG) (mb:Nat) (bv iv:Value) (xs:List BodX) (g:Nat) (es:List GEdge) (v:Value) (W:World):Prop where
 web:WebO W base L mb bv iv xs
 box:Blk W g 78 #[.map (some mb),bv,iv]
 own:W.ownsRow w.heap.size 65 4 v es.length (es.flatMap edgeC)
 below:Below w.heap.size w W
theorem NI.call {w:World} {base:Nat} {L:List StG} {mb:Nat} {bv iv:Value} {xs:List BodX} {g:Nat} {es:List GEdge} {v:Value} {W W':World} (h:NI w base L mb bv iv xs g es v W) (hb:Below W.heap.size W W'):NI w base L mb bv iv xs g es v W':=
 ⟨h.web.call hb,h.box.below hb h.box.lt,own_below h.own hb,h.below.trans (hb.mono h.below.size)⟩
theorem NI.grow {w:World} {base:Nat} {L:List StG} {mb:Nat} {bv iv:Value} {xs:List BodX} {g:Nat} {es es':List GEdge} {v v':Value} {W W':World} (h:NI w base L mb bv iv xs g es v W) (ho:W'.ownsRow w.heap.size 65 4 v' es'.length (es'.flatMap edgeC)) (hg:W.grownBy W' v.ownBlock):NI w base L mb bv iv xs g es' v' W':=
 ⟨h.web.grown h.own (by decide) (by decide) (by decide) hg,Blk.same h.box (hg.block g h.box.lt fun e=>own_ne8 h.own h.box (by decide) g e.symm rfl),ho,h.below.trans (below_of_grown hg h.below.size fun g hg=>(h.own.lt g hg).1)⟩
set_option maxHeartbeats 4000000 in
theorem wnetwork_any (base:Nat) (L:List StG) (mb:Nat) (bv iv:Value) (xs:List BodX) (w:World) (h:WebO w base L mb bv iv xs) (i:Nat) (hi:i<xs.length) (hrr:∀ r∈xs[i].b.routers,0≤r∧r<4294967296) (hiL:i<L.length) :
  Calls Tryz.prog 37 #[.agg #[.map (some mb),bv,iv],.int .i64 i] w fun e w'=>∃ v es,e=.returned v∧es=xs[i].b.routers.filterMap (edgeN L L[i].1.id)∧w'.ownsRow w.heap.size 65 4 v es.length (es.flatMap edgeC)∧Below w.heap.size w w':=by
 obtain ⟨b,off,c,rfl,hbl,hr⟩:=h.row hi
 obtain ⟨ib,io,ic,rfl,hil,hir⟩:=h.id_ hiL
 have hl:=h.routers xs[i] (g'm hi)
 obtain ⟨x,hx⟩:∃ x,x=xs[i]:=⟨_,rfl⟩
 rw[←hx] at hr hl hrr ⊢
 have y3:w.cell? ⟨b,off+i*9+3,none⟩=some (.slice x.A2 x.b.routers.length x.c2):=hr 3 _ rfl
 have hi2:(i:Int)<(xs.length:Int):=by omega
 have hi3:(i:Int)<(L.length:Int):=by omega
 obtain ⟨w1,hw1⟩:∃ w1,w1=w.alloc (.cells #[.map (some mb),.slice (some ⟨b,off,none⟩) xs.length c,.slice (some ⟨ib,io,none⟩) L.length ic] 78):=⟨_,rfl⟩
 have k0:Blk w1 w.heap.size 78 #[.map (some mb),.slice (some ⟨b,off,none⟩) xs.length c,.slice (some ⟨ib,io,none⟩) L.length ic]:=by rw[hw1];exact Blk.new _ _ _
 have kB:Below w.heap.size w w1:=by rw[hw1];exact (b'r _ _).alloc (n'r _) _
 have y3':=(kB.cell (p:=⟨b,off+i*9+3,none⟩) hbl).trans y3
 have z1:=k0.cell 1
 simp only[q'a,q'z,q's] at z1
 have hrs:=(Sl.of_own hl.1)
 obtain ⟨A2,hA2⟩:∃ A,A=x.A2:=⟨_,rfl⟩
 obtain ⟨c2,hc2⟩:∃ c,c=x.c2:=⟨_,rfl⟩
 obtain ⟨rs,hrs0⟩:∃ r,r=x.b.routers:=⟨_,rfl⟩
 rw[←hA2,←hc2,←hrs0] at y3' hrs
 rw[←hrs0] at hrr hl ⊢
 obtain ⟨id,hidd⟩:∃ z,z=L[i].1.id:=⟨_,rfl⟩
 rw[←hidd] at hir ⊢
 have hIni:NI w base L mb (.slice (some ⟨b,off,none⟩) xs.length c) (.slice (some ⟨ib,io,none⟩) L.length ic) xs w.heap.size [] (.slice none 0 0) w1:=⟨h.call kB,k0,World.ownsRow_nil _ _ _ _,kB⟩
 clear hr hx y3 k0 hA2 hc2 hrs0 hidd h
 replace hl:=hl.2
 go_enter Tryz.func37,Tryz.ntmps37
 go_upto_region 2 with fail
 rw[←hw1]
 clear hw1
 go_upto_region 3 with fail
 clear y3' z1 kB
 go_loopg [5,17] rs.length (fun m v u wr=>∃ k:Nat,k≤rs.length∧m=rs.length-k∧u=.int .i64 k∧NI w base L mb (.slice (some ⟨b,off,none⟩) xs.length c) (.slice (some ⟨ib,io,none⟩) L.length ic) xs w.heap.size ((rs.take k).filterMap (edgeN L id)) v wr)
 case atStart=>exact ⟨0,Nat.zero_le _,rfl,rfl,hIni⟩
 case round =>
  clear hIni
  obtain ⟨k,hk,rfl,rfl,hI⟩:=hrel
  obtain ⟨w2,rfl⟩:∃ x:World,x=wr:=⟨_,rfl⟩
  by_cases hkl:k<rs.length
  ·have hrs2:Sl w2 w.heap.size 1 (.slice A2 rs.length c2) rs.length (rs.flatMap fun x=>[u32c x]):=by rw[←List.map_eq_flatMap];exact hrs.below hI.below
   obtain ⟨bb,of,rfl,hbb,hrow⟩:=Sl.row (s:=1) (f:=fun x=>[u32c x]) (fun _=>rfl) hrs2 hkl
   have ik:(k:Int)<(rs.length:Int):=by omega
   have hrk:=hrr _ (g'm hkl)
   have hft:=filterMap_take (edgeN L id) rs k hkl
   obtain ⟨r,hr⟩:∃ x,x=rs[k]:=⟨_,rfl⟩
   have y:w2.cell? ⟨bb,of+k*1,none⟩=some (.int .u32 r):=by rw[hr];exact hrow 0 _ rfl
   rw[Nat.mul_one] at y
   rw[←hr] at hft hrk
   have hki:InN (false,r):=⟨hrk⟩
   have z0:=hI.box.cell 0
   simp only[q'a,q'z] at z0
   obtain ⟨D,nn,hown,hM⟩:=hI.web.map
   clear hr hrow hrs2
   replace hft:=h'd hft
   have hM:=h'd hM
   cases hat:atN L (false,r) with
   | none =>
    have he:edgeN L id r=none:=by unfold edgeN;rw[hat]
    go_upto_region 6 with (at_lookup;refine wpList_lookup_at rfl _ _ rfl mb nn D (atN L) rfl hown hM.out (false,r) hki rfl (fun _ => ?_) (fun y hy=>by rw[hat] at hy;cases hy))
    go_quiet (fail)
    go_wp2
    go_roundg (rs.length-(k+1))
    case measure=>omega
    case rel =>
     refine ⟨k+1,by omega,rfl,by go_num,?_⟩
     rw[hft.out,he,List.append_nil]
     exact hI.call (below_drewN (b'r _ _) _)
   | some tj =>
    obtain ⟨htl,-⟩:=atN_some hat
    have htx:tj<xs.length:=by rw[hI.web.len];exact htl
    have hbo:=hI.web.body htx
    obtain ⟨q,hq⟩:∃ q,q=linksP xs[tj].b 2 id:=⟨_,rfl⟩
    have he:edgeN L id r=if q=true then some ⟨tj,0,0,false⟩ else none:=by unfold edgeN;rw[hat,hq,←hbo]
    have C:∀ W,Below w2.heap.size w2 W→Calls Tryz.prog 84 #[.agg #[.map (some mb),.slice (some ⟨b,off,none⟩) xs.length c,.slice (some ⟨ib,io,none⟩) L.length ic],.int .i64 tj,.int .u8 2,.int .u32 id] W fun e W'=>e=.returned (.bool q)∧Below w2.heap.size w2 W':=fun W hW=>by
     have:=wlinks_any base L mb _ _ xs W (hI.web.call hW) tj htx 2 id
     rw[←hq] at this
     exact c'm this (by rintro e w' ⟨rfl,h⟩;exact ⟨rfl,hW.trans (h.mono hW.size)⟩)
    have c0:=hI.box.cell 0
    have c1:=hI.box.cell 1
    have c2:=hI.box.cell 2
    simp only[q'a,q'z,q's] at c0 c1 c2
    have hgl:=hI.box.lt
    have q0:∀ W,Below w2.heap.size w2 W→W.cell? ⟨w.heap.size,0,none⟩=some (.map (some mb)):=fun W h=>(h.cell (p:=⟨w.heap.size,0,none⟩) hgl).trans c0
    have q1:∀ W,Below w2.heap.size w2 W→W.cell? ⟨w.heap.size,1,none⟩=some (.slice (some ⟨b,off,none⟩) xs.length c):=fun W h=>(h.cell (p:=⟨w.heap.size,1,none⟩) hgl).trans c1
    have q2:∀ W,Below w2.heap.size w2 W→W.cell? ⟨w.heap.size,2,none⟩=some (.slice (some ⟨ib,io,none⟩) L.length ic):=fun W h=>(h.cell (p:=⟨w.heap.size,2,none⟩) hgl).trans c2
    have q3:∀ W,Below w2.heap.size w2 W→W.cell? ⟨ib,io+i,none⟩=some (.int .u32 id):=fun W h=>(h.cell (p:=⟨ib,io+i,none⟩) (Nat.lt_of_lt_of_le hil hI.below.size)).trans ((hI.below.cell (p:=⟨ib,io+i,none⟩) hil).trans hir)
    replace C:=h'd C
    replace he:=h'd he
    clear hq hbo c1 c2
    go_upto_region 6 with (at_lookup;refine wpList_lookup_at rfl _ _ rfl mb nn D (atN L) rfl hown hM.out (false,r) hki rfl (fun hy=>by rw[hat] at hy;cases hy) (fun y hy => ?_);obtain rfl:tj=y:=(by rw[hat] at hy;exact o'i hy))
    clear z0 c0 hown hat hy
    cases q with
    | false =>
     go_region_held3 (fun W=>Below w2.heap.size w2 W) (first | assumption | exact (b'r _ _).drew | exact b'r _ _ | fail)
      (first | (go_at_call 84;refine c'm (C.out _ (by first | assumption | exact (b'r _ _).drew | exact b'r _ _)) ?_;rintro e w3 ⟨rfl,hB3⟩) | fail)
     go_wp2
     go_roundg (rs.length-(k+1))
     case measure=>omega
     case rel =>
      refine ⟨k+1,by omega,rfl,by go_num,?_⟩
      rw[hft.out,he.out]
      simp only[Bool.false_eq_true,if_false,List.append_nil]
      exact hI.call hB3
    | true =>
     go_region_held3 (fun W=>Below w2.heap.size w2 W) (first | assumption | exact (b'r _ _).drew | exact b'r _ _ | fail)
      (first | (go_at_call 84;refine c'm (C.out _ (by first | assumption | exact (b'r _ _).drew | exact b'r _ _)) ?_;rintro e w3 ⟨rfl,hB3⟩) | fail)
     have hI3:=hI.call hB3
     have hel:((rs.take k).filterMap (edgeN L id)).length≤1000000:=n't (List.length_filterMap_le _ _) (by rw[List.length_take];omega)
     generalize hes:(rs.take k).filterMap (edgeN L id)=es at *
     replace hes:=h'd hes
     have hzw:=hI3.below.size
     clear hI hB3 q0 q1 q2 q3 C
     go_wp2_with (first
      | (at_builtin;refine wpList_append rfl (.tmp 40) (.tmp 43) 60 rfl w.heap.size edgT u5 es.length (es.flatMap edgeC) rfl (own_alloc hI3.own _) _ _ 1 [.int .i64 (tj:Int),.int .u32 0,.int .u32 0,.bool false] rfl (Sl.lit w3 #[.int .i64 (tj:Int),.int .u32 0,.int .u32 0,.bool false] 65 (by simp[maxLen]) rfl) (by simp[Value.oneCell']) (by simp only[maxLen];omega) (by omega) (by simp;omega) ?_;intro v7 w7 ho7 hg7 hob7)
      | fail)
     go_roundg (rs.length-(k+1))
     case measure=>omega
     case rel =>
      refine ⟨k+1,by omega,rfl,by go_num,?_⟩
      rw[hft.out,he.out]
      simp only[if_true]
      refine (hI3.call ((b'r _ _).alloc (n'r _) _)).grow ?_ hg7
      rw[l'a,List.flatMap_append]
      exact ho7
  ·obtain rfl:k=rs.length:=by omega
   rw[List.take_of_length_le (n'r _)] at hI
   go_wp2
   go_ret
   exact ⟨_,_,rfl,rfl,hI.own,hI.below⟩
set_option maxRecDepth 100000
abbrev StubV:=Int × Int × Int
def stubC (s:StubV):List Value:=[.int .u32 s.1,.int .u8 s.2.1,.int .u32 s.2.2]
theorem stuT:ElT Tryz.prog 61 107 3 12:=⟨by kernel_rfl,by
 obtain ⟨i,hi,h1,h2,h3⟩:=info_parts (show (Tryz.prog.info? 107).map (fun i=>(i.zero,i.size,i.bytes))=some (some (.agg #[.int .u32 0,.int .u8 0,.int .u32 0]),3,12) by kernel_rfl)
 exact ⟨i,_,hi,h1,h2,h3,rfl⟩,by omega⟩
structure RI (w:World) (base:Nat) (L:List StG) (mb:Nat) (bv iv:Value) (xs:List BodX) (g:Nat) (es:List GEdge) (ss:List StubV) (v u:Value) (W:World):Prop where
 web:WebO W base L mb bv iv xs
 box:Blk W g 78 #[.map (some mb),bv,iv]
 own:W.ownsRow w.heap.size 65 4 v es.length (es.flatMap edgeC)
 sown:W.ownsRow w.heap.size 107 3 u ss.length (ss.flatMap stubC)
 below:Below w.heap.size w W
section
variable {w:World} {base:Nat} {L:List StG} {mb:Nat} {bv iv:Value} {xs:List BodX} {g:Nat} {es es':List GEdge} {ss ss':List StubV} {v v' u u':Value} {W W':World}
theorem RI.call (h:RI w base L mb bv iv xs g es ss v u W) (hb:Below W.heap.size W W'):RI w base L mb bv iv xs g es ss v u W':=
 ⟨h.web.call hb,h.box.below hb h.box.lt,own_below h.own hb,own_below h.sown hb,h.below.trans (hb.mono h.below.size)⟩
theorem RI.alloc (h:RI w base L mb bv iv xs g es ss v u W) (o:Obj):RI w base L mb bv iv xs g es ss v u (W.alloc o):=h.call ((b'r _ _).alloc (n'r _) o)
theorem RI.edge (h:RI w base L mb bv iv xs g es ss v u W) (ho:W'.ownsRow w.heap.size 65 4 v' es'.length (es'.flatMap edgeC)) (hg:W.grownBy W' v.ownBlock):RI w base L mb bv iv xs g es' ss v' u W':=
 ⟨h.web.grown h.own (by decide) (by decide) (by decide) hg,Blk.same h.box (hg.block g h.box.lt fun e=>own_ne8 h.own h.box (by decide) g e.symm rfl),ho,own_grown h.own h.sown hg (by decide),h.below.trans (below_of_grown hg h.below.size fun g hg=>(h.own.lt g hg).1)⟩
theorem RI.stub (h:RI w base L mb bv iv xs g es ss v u W) (ho:W'.ownsRow w.heap.size 107 3 u' ss'.length (ss'.flatMap stubC)) (hg:W.grownBy W' u.ownBlock):RI w base L mb bv iv xs g es ss' v u' W':=
 ⟨h.web.grown h.sown (by decide) (by decide) (by decide) hg,Blk.same h.box (hg.block g h.box.lt fun e=>own_ne8 h.sown h.box (by decide) g e.symm rfl),own_grown h.sown h.own hg (by decide),ho,h.below.trans (below_of_grown hg h.below.size fun g hg=>(h.sown.lt g hg).1)⟩
end
set_option maxHeartbeats 4000000 in
theorem wrouter_any (base:Nat) (L:List StG) (mb:Nat) (bv iv:Value) (xs:List BodX) (w:World) (h:WebO w base L mb bv iv xs) (i:Nat) (hi:i<xs.length) (hiL:i<L.length) (hlk:∀ x∈xs[i].b.links,(0≤x.id∧x.id<4294967296)∧(0≤x.cost∧x.cost<65536)) :
  Calls Tryz.prog 38 #[.agg #[.map (some mb),bv,iv],.int .i64 i] w fun e w'=>∃ v u es ss,e=.returned (.tuple #[v,u])∧es=xs[i].b.links.filterMap (edgeP L i L[i].1.id)∧ss=xs[i].b.links.filterMap stubP ∧
   w'.ownsRow w.heap.size 65 4 v es.length (es.flatMap edgeC)∧w'.ownsRow w.heap.size 107 3 u ss.length (ss.flatMap stubC)∧Below w.heap.size w w':=by
 obtain ⟨b,off,c,rfl,hbl,hr⟩:=h.row hi
 obtain ⟨ib,io,ic,rfl,hil,hir⟩:=h.id_ hiL
 have hl:=h.links xs[i] (g'm hi)
 obtain ⟨x,hx⟩:∃ x,x=xs[i]:=⟨_,rfl⟩
 rw[←hx] at hr hl hlk ⊢
 have y1:w.cell? ⟨b,off+i*9+1,none⟩=some (.slice x.A1 x.b.links.length x.c1):=hr 1 _ rfl
 have hi2:(i:Int)<(xs.length:Int):=by omega
 have hi3:(i:Int)<(L.length:Int):=by omega
 obtain ⟨w1,hw1⟩:∃ w1,w1=w.alloc (.cells #[.map (some mb),.slice (some ⟨b,off,none⟩) xs.length c,.slice (some ⟨ib,io,none⟩) L.length ic] 78):=⟨_,rfl⟩
 have k0:Blk w1 w.heap.size 78 #[.map (some mb),.slice (some ⟨b,off,none⟩) xs.length c,.slice (some ⟨ib,io,none⟩) L.length ic]:=by rw[hw1];exact Blk.new _ _ _
 have kB:Below w.heap.size w w1:=by rw[hw1];exact (b'r _ _).alloc (n'r _) _
 have y1':=(kB.cell (p:=⟨b,off+i*9+1,none⟩) hbl).trans y1
 have z1:=k0.cell 1
 simp only[q'a,q'z,q's] at z1
 have hrs:=(Sl.of_own hl.1)
 obtain ⟨A1,hA1⟩:∃ A,A=x.A1:=⟨_,rfl⟩
 obtain ⟨c1,hc1⟩:∃ c,c=x.c1:=⟨_,rfl⟩
 obtain ⟨ls,hls0⟩:∃ r,r=x.b.links:=⟨_,rfl⟩
 rw[←hA1,←hc1,←hls0] at y1' hrs
 rw[←hls0] at hlk hl ⊢
 obtain ⟨id,hidd⟩:∃ z,z=L[i].1.id:=⟨_,rfl⟩
 rw[←hidd] at hir ⊢
 have hIni:RI w base L mb (.slice (some ⟨b,off,none⟩) xs.length c) (.slice (some ⟨ib,io,none⟩) L.length ic) xs w.heap.size [] [] (.slice none 0 0) (.slice none 0 0) w1:=⟨h.call kB,k0,World.ownsRow_nil _ _ _ _,World.ownsRow_nil _ _ _ _,kB⟩
 clear hr hx y1 k0 hA1 hc1 hls0 hidd h
 replace hl:=hl.2
 go_enter Tryz.func38,Tryz.ntmps38
 go_upto_region 1 with fail
 rw[←hw1]
 clear hw1
 go_upto_region 2 with fail
 clear y1' z1 kB
 go_loopg [4,5,20] ls.length (fun m v u ki wr=>∃ k:Nat,k≤ls.length∧m=ls.length-k∧ki=.int .i64 k∧RI w base L mb (.slice (some ⟨b,off,none⟩) xs.length c) (.slice (some ⟨ib,io,none⟩) L.length ic) xs w.heap.size ((ls.take k).filterMap (edgeP L i id)) ((ls.take k).filterMap stubP) v u wr)
 case atStart=>exact ⟨0,Nat.zero_le _,rfl,rfl,hIni⟩
 case round =>
  clear hIni
  obtain ⟨k,hk,rfl,rfl,hI⟩:=hrel
  obtain ⟨w2,rfl⟩:∃ x:World,x=wr:=⟨_,rfl⟩
  by_cases hkl:k<ls.length
  ·obtain ⟨bb,of,rfl,hbb,hrow⟩:=Sl.row linkC_len (hrs.below hI.below) hkl
   have ik:(k:Int)<(ls.length:Int):=by omega
   obtain ⟨hxi,hxc⟩:=hlk _ (g'm hkl)
   have hft:=filterMap_take (edgeP L i id) ls k hkl
   have hfs:=filterMap_take stubP ls k hkl
   have hel:((ls.take k).filterMap (edgeP L i id)).length≤1000000:=n't (List.length_filterMap_le _ _) (by rw[List.length_take];omega)
   have hsl:((ls.take k).filterMap stubP).length≤1000000:=n't (List.length_filterMap_le _ _) (by rw[List.length_take];omega)
   have hrg:w2.rangeAt bb (of+k*4) (linkC ls[k]):=hrow
   obtain ⟨x,hx⟩:∃ x,x=ls[k]:=⟨_,rfl⟩
   rw[←hx] at hrg hft hfs hxi hxc
   clear hx hrow
   generalize hes:(ls.take k).filterMap (edgeP L i id)=es at *
   generalize hss:(ls.take k).filterMap stubP=ss at *
   obtain ⟨x0,x1,x2,x3⟩:=x
   dsimp only[linkC] at hrg hxi hxc
   replace hft:=h'd hft
   replace hfs:=h'd hfs
   replace hes:=h'd hes
   replace hss:=h'd hss
   have wx:IntKind.u32.wrap x3=x3:=by rw[IntKind.wrap_u32];omega
   go_upto_region 4 with (refine wpList_load_mid rfl 99 (.tmp 22) rfl bb (of+k*4) rfl [.int .u32 x0,.int .u32 x1,.int .u8 x2,.int .u16 x3] _ hrg Tryz.underlying99 rfl (by kernel_rfl) ?_)
   have k7:=Blk.new w2 99 #[.int .u32 x0,.int .u32 x1,.int .u8 x2,.int .u16 x3]
   have hI3:=hI.alloc (.cells #[.int .u32 x0,.int .u32 x1,.int .u8 x2,.int .u16 x3] 99)
   have kB:Below w2.heap.size w2 (w2.alloc (.cells #[.int .u32 x0,.int .u32 x1,.int .u8 x2,.int .u16 x3] 99)):=(b'r _ _).alloc (n'r _) _
   generalize w2.alloc (.cells #[.int .u32 x0,.int .u32 x1,.int .u8 x2,.int .u16 x3] 99)=w3 at k7 hI3 kB ⊢
   generalize w2.heap.size=g7 at k7 ⊢
   have t0:=k7.cell 0
   have t1:=k7.cell 1
   have t2:=k7.cell 2
   have t3:=k7.cell 3
   simp only[q'a,q'z,q's] at t0 t1 t2 t3
   clear hI hrg
   by_cases h3:x2=3
   ·subst h3
    have he:edgeP L i id ⟨x0,x1,3,x3⟩=none:=by unfold edgeP;rw[if_pos rfl]
    have CP:=pre_any x0 x1 w3
    cases hb3:bitsB x1 with
    | false =>
     have hs:stubP ⟨x0,x1,3,x3⟩=none:=by unfold stubP;rw[if_neg (by rw[hb3];simp)]
     rw[hb3] at CP
     replace CP:=h'd CP
     replace hb3:=h'd hb3
     go_wp2_with (go_at_call 36;refine c'm CP.out ?_;rintro e w4 ⟨rfl,hB4⟩)
     have hI4:=(hI3.call hB4).alloc (.cells #[.int .u32 (bits BinOp.and IntKind.u32 x0 x1),.int .u8 (bitsV x1)] 45)
     go_roundg (ls.length-(k+1))
     case measure=>omega
     case rel =>
      refine ⟨k+1,by omega,rfl,by go_num,?_⟩
      rw[hft.out,hfs.out,he,hs,List.append_nil,List.append_nil]
      exact hI4
    | true =>
     have hs:stubP ⟨x0,x1,3,x3⟩=some (bits BinOp.and IntKind.u32 x0 x1,bitsV x1,x3):=by unfold stubP;rw[if_pos ⟨rfl,hb3⟩]
     rw[hb3] at CP
     generalize bits BinOp.and IntKind.u32 x0 x1=p0 at CP hs
     generalize bitsV x1=p1 at CP hs
     replace CP:=h'd CP
     replace hb3:=h'd hb3
     go_upto_region 6 with (go_at_call 36;refine c'm CP.out ?_;rintro e w4 ⟨rfl,hB4⟩)
     have k8:=Blk.new w4 45 #[.int .u32 p0,.int .u8 p1]
     have k74:=(k7.below hB4 k7.lt).alloc (.cells #[.int .u32 p0,.int .u8 p1] 45)
     have hI4:=(hI3.call hB4).alloc (.cells #[.int .u32 p0,.int .u8 p1] 45)
     generalize w4.alloc (.cells #[.int .u32 p0,.int .u8 p1] 45)=w5 at k8 k74 hI4 ⊢
     generalize w4.heap.size=g8 at k8 ⊢
     have p8a:=k8.cell 0
     have p8b:=k8.cell 1
     have t3:=k74.cell 3
     simp only[q'a,q'z,q's] at p8a p8b t3
     have hzw:=hI4.below.size
     clear hI3 CP k7 k8 k74
     go_wp2_with (first
      | (at_builtin;refine wpList_append rfl (.tmp 36) (.tmp 42) 61 rfl w.heap.size stuT u5 ss.length (ss.flatMap stubC) rfl (own_alloc hI4.sown _) _ _ 1 [.int .u32 p0,.int .u8 p1,.int .u32 x3] rfl (Sl.lit w5 #[.int .u32 p0,.int .u8 p1,.int .u32 x3] 107 (by simp[maxLen]) rfl) (by simp[Value.oneCell']) (by simp only[maxLen];omega) (by omega) (by simp;omega) ?_;intro v7 w7 ho7 hg7 hob7)
      | fail)
     go_roundg (ls.length-(k+1))
     case measure=>omega
     case rel =>
      refine ⟨k+1,by omega,rfl,by go_num,?_⟩
      rw[hft.out,hfs.out,he,hs,List.append_nil]
      refine (hI4.alloc _).stub ?_ hg7
      rw[l'a,List.flatMap_append]
      exact ho7
   ·have e3:(x2==3)=false:=by simpa using h3
    have hs:stubP ⟨x0,x1,x2,x3⟩=none:=by unfold stubP;rw[if_neg (fun e=>h3 e.1)]
    have hki:InN (x2==2,x0):=⟨hxi⟩
    have z0:=hI3.box.cell 0
    simp only[q'a,q'z] at z0
    obtain ⟨D,nn,hown,hM⟩:=hI3.web.map
    have hM:=h'd hM
    cases hat:atN L (x2==2,x0) with
    | none =>
     have he:edgeP L i id ⟨x0,x1,x2,x3⟩=none:=by unfold edgeP;rw[if_neg h3];simp only;rw[hat]
     go_wp2_with (at_lookup;refine wpList_lookup_at rfl _ _ rfl mb nn D (atN L) rfl hown hM.out (x2==2,x0) hki rfl (fun _ => ?_) (fun y hy=>by rw[hat] at hy;cases hy))
     go_roundg (ls.length-(k+1))
     case measure=>omega
     case rel =>
      refine ⟨k+1,by omega,rfl,by go_num,?_⟩
      rw[hft.out,hfs.out,he,hs,List.append_nil,List.append_nil]
      exact hI3
    | some tj =>
     obtain ⟨htl,-⟩:=atN_some hat
     have htx:tj<xs.length:=by rw[hI3.web.len];exact htl
     have hbo:=hI3.web.body htx
     by_cases hti:tj=i
     ·subst hti
      have he:edgeP L tj id ⟨x0,x1,x2,x3⟩=none:=by unfold edgeP;rw[if_neg h3];simp only;rw[hat];simp
      have eti:((tj:Int)==(tj:Int))=true:=by simp
      go_wp2_with (at_lookup;refine wpList_lookup_at rfl _ _ rfl mb nn D (atN L) rfl hown hM.out (x2==2,x0) hki rfl (fun hy=>by rw[hat] at hy;cases hy) (fun y hy => ?_);obtain rfl:tj=y:=(by rw[hat] at hy;exact o'i hy))
      go_roundg (ls.length-(k+1))
      case measure=>omega
      case rel =>
       refine ⟨k+1,by omega,rfl,by go_num,?_⟩
       rw[hft.out,hfs.out,he,hs,List.append_nil,List.append_nil]
       exact hI3
     ·have eti:((tj:Int)==(i:Int))=false:=by simp;omega
      have hti2:¬ (tj:Int)=(i:Int):=by omega
      obtain ⟨q,hq⟩:∃ q,q=backP L id ⟨x0,x1,x2,x3⟩ tj:=⟨_,rfl⟩
      have he:edgeP L i id ⟨x0,x1,x2,x3⟩=if q=true then some ⟨tj,x3,x1,x2==4⟩ else none:=by unfold edgeP;rw[if_neg h3];simp only;rw[hat];simp only;rw[if_neg hti,←hq]
      unfold backP at hq
      rw[hbo] at hq
      simp only at hq
      have hrt:=hI3.web.routers xs[tj] (g'm htx)
      have CW:∀ W,Below w3.heap.size w3 W→Calls Tryz.prog 85 #[.slice xs[tj].A2 xs[tj].b.routers.length xs[tj].c2,.int .u32 id] W fun e W'=>e=.returned (.bool (hasP xs[tj].b id))∧Below w3.heap.size w3 W':=fun W hW=>by
       have:=hasWord_any id xs[tj].b.routers _ w3.heap.size W ((Sl.of_own hrt.1).below hW) hW.size hrt.2
       exact c'm this (by rintro e w' ⟨rfl,h⟩;exact ⟨rfl,hW.trans (h.mono hW.size)⟩)
      have CL:∀ W,Below w3.heap.size w3 W→Calls Tryz.prog 84 #[.agg #[.map (some mb),.slice (some ⟨b,off,none⟩) xs.length c,.slice (some ⟨ib,io,none⟩) L.length ic],.int .i64 tj,.int .u8 x2,.int .u32 id] W fun e W'=>e=.returned (.bool (linksP xs[tj].b x2 id))∧Below w3.heap.size w3 W':=fun W hW=>by
       have:=wlinks_any base L mb _ _ xs W (hI3.web.call hW) tj htx x2 id
       exact c'm this (by rintro e w' ⟨rfl,h⟩;exact ⟨rfl,hW.trans (h.mono hW.size)⟩)
      obtain ⟨b',off',c',hbe,hb2,hr2⟩:=hI3.web.row htx
      simp only[Value.slice.injEq,o'j,Addr.mk.injEq,and_true,true_and] at hbe
      obtain ⟨⟨rfl,rfl⟩,rfl⟩:=hbe
      have y3:w3.cell? ⟨b,off+tj*9+3,none⟩=some (.slice xs[tj].A2 xs[tj].b.routers.length xs[tj].c2):=hr2 3 _ rfl
      have c0:=hI3.box.cell 0
      have c1:=hI3.box.cell 1
      have c2:=hI3.box.cell 2
      simp only[q'a,q'z,q's] at c0 c1 c2
      have hgl:=hI3.box.lt
      have h7l:=k7.lt
      have q0:∀ W,Below w3.heap.size w3 W→W.cell? ⟨w.heap.size,0,none⟩=some (.map (some mb)):=fun W h=>(h.cell (p:=⟨w.heap.size,0,none⟩) hgl).trans c0
      have q1:∀ W,Below w3.heap.size w3 W→W.cell? ⟨w.heap.size,1,none⟩=some (.slice (some ⟨b,off,none⟩) xs.length c):=fun W h=>(h.cell (p:=⟨w.heap.size,1,none⟩) hgl).trans c1
      have q2:∀ W,Below w3.heap.size w3 W→W.cell? ⟨w.heap.size,2,none⟩=some (.slice (some ⟨ib,io,none⟩) L.length ic):=fun W h=>(h.cell (p:=⟨w.heap.size,2,none⟩) hgl).trans c2
      have q3:∀ W,Below w3.heap.size w3 W→W.cell? ⟨ib,io+i,none⟩=some (.int .u32 id):=fun W h=>(h.cell (p:=⟨ib,io+i,none⟩) (Nat.lt_of_lt_of_le hil hI3.below.size)).trans ((hI3.below.cell (p:=⟨ib,io+i,none⟩) hil).trans hir)
      have q4:∀ W,Below w3.heap.size w3 W→W.cell? ⟨b,off+tj*9+3,none⟩=some (.slice xs[tj].A2 xs[tj].b.routers.length xs[tj].c2):=fun W h=>(h.cell (p:=⟨b,off+tj*9+3,none⟩) hb2).trans y3
      have q5:∀ W,Below w3.heap.size w3 W→W.cell? ⟨g7,2,none⟩=some (.int .u8 x2):=fun W h=>(h.cell (p:=⟨g7,2,none⟩) h7l).trans t2
      have htx2:(tj:Int)<(xs.length:Int):=by omega
      generalize hY:xs[tj]=Y at *
      replace hY:=h'd hY
      obtain ⟨Y1,Y2,Y3,Y4,Y5,Y6,Yb⟩:=Y
      simp only at q4 CW CL hq
      replace CW:=h'd CW
      replace CL:=h'd CL
      replace he:=h'd he
      clear c1 c2 y3 hbo hrt hr2
      go_upto_region 10 with (at_lookup;refine wpList_lookup_at rfl _ _ rfl mb nn D (atN L) rfl hown hM.out (x2==2,x0) hki rfl (fun hy=>by rw[hat] at hy;cases hy) (fun y hy => ?_);obtain rfl:tj=y:=(by rw[hat] at hy;exact o'i hy))
      clear z0 c0 hown hat hy
      go_region_held3 (fun W=>Below w3.heap.size w3 W) (first | assumption | exact (b'r _ _).drew | exact b'r _ _ | fail)
       (first | (go_at_call 85;refine c'm (CW.out _ (by first | assumption | exact (b'r _ _).drew | exact b'r _ _)) ?_;rintro e w4 ⟨rfl,hB4⟩) | fail)
      have t2:=(hB4.cell (p:=⟨g7,2,none⟩) h7l).trans t2
      by_cases h2:x2=2
      ·have e2:(x2 != 2)=false:=by simp[h2]
       rw[if_pos h2] at hq
       rw[←hq]
       clear e2
       subst h2
       have e2:((2:Int) != 2)=false:=by decide
       clear hq CL q5
       cases q with
       | false =>
        go_wp2
        have hI5:=hI3.call hB4
        go_roundg (ls.length-(k+1))
        case measure=>omega
        case rel =>
         refine ⟨k+1,by omega,rfl,by go_num,?_⟩
         rw[hft.out,hfs.out,he.out,hs]
         simp only[Bool.false_eq_true,if_false,List.append_nil]
         exact hI5
       | true =>
        have hI5:=hI3.call hB4
        have t1:=(k7.below hB4 k7.lt).cell 1
        have t2:=(k7.below hB4 k7.lt).cell 2
        have t3:=(k7.below hB4 k7.lt).cell 3
        simp only[q'a,q'z,q's] at t1 t2 t3
        have hzw:=hI5.below.size
        clear hI3 k7
        go_wp2_with (first
         | (at_builtin;refine wpList_append rfl (.tmp 89) (.tmp 100) 60 rfl w.heap.size edgT u4 es.length (es.flatMap edgeC) rfl (own_alloc hI5.own _) _ _ 1 [.int .i64 (tj:Int),.int .u32 x3,.int .u32 x1,.bool false] rfl (Sl.lit w4 #[.int .i64 (tj:Int),.int .u32 x3,.int .u32 x1,.bool false] 65 (by simp[maxLen]) rfl) (by simp[Value.oneCell']) (by simp only[maxLen];omega) (by omega) (by simp;omega) ?_;intro v7 w7 ho7 hg7 hob7)
         | fail)
        go_roundg (ls.length-(k+1))
        case measure=>omega
        case rel =>
         refine ⟨k+1,by omega,rfl,by go_num,?_⟩
         rw[hft.out,hfs.out,he.out,hs]
         simp only[if_true,List.append_nil]
         refine (hI5.alloc _).edge ?_ hg7
         rw[l'a,List.flatMap_append]
         exact ho7
      ·have e2:(x2 != 2)=true:=by simp[h2]
       rw[if_neg h2] at hq
       rw[←hq] at CL
       clear hq
       go_upto_region 12 with fail
       have p0:∀ W,Below w4.heap.size w4 W→Below w3.heap.size w3 W:=fun W h=>hB4.trans (h.mono hB4.size)
       clear t2
       go_region_held3 (fun W=>Below w3.heap.size w3 W) (first | assumption | exact hB4.drew | exact (b'r _ _).drew | exact b'r _ _ | fail)
        (first | (go_at_call 84;refine c'm (CL.out _ (by first | assumption | exact hB4.drew | exact (b'r _ _).drew | exact b'r _ _)) ?_;rintro e w5 ⟨rfl,hB5⟩) | fail)
       cases q with
       | false =>
        go_wp2
        have hI5:=hI3.call hB5
        go_roundg (ls.length-(k+1))
        case measure=>omega
        case rel =>
         refine ⟨k+1,by omega,rfl,by go_num,?_⟩
         rw[hft.out,hfs.out,he.out,hs]
         simp only[Bool.false_eq_true,if_false,List.append_nil]
         exact hI5
       | true =>
        have hI5:=hI3.call hB5
        have t1:=(k7.below hB5 k7.lt).cell 1
        have t2:=(k7.below hB5 k7.lt).cell 2
        have t3:=(k7.below hB5 k7.lt).cell 3
        simp only[q'a,q'z,q's] at t1 t2 t3
        have hzw:=hI5.below.size
        clear hI3 k7
        go_wp2_with (first
         | (at_builtin;refine wpList_append rfl (.tmp 89) (.tmp 100) 60 rfl w.heap.size edgT u4 es.length (es.flatMap edgeC) rfl (own_alloc hI5.own _) _ _ 1 [.int .i64 (tj:Int),.int .u32 x3,.int .u32 x1,.bool (x2==4)] rfl (Sl.lit w5 #[.int .i64 (tj:Int),.int .u32 x3,.int .u32 x1,.bool (x2==4)] 65 (by simp[maxLen]) rfl) (by simp[Value.oneCell']) (by simp only[maxLen];omega) (by omega) (by simp;omega) ?_;intro v7 w7 ho7 hg7 hob7)
         | fail)
        go_roundg (ls.length-(k+1))
        case measure=>omega
        case rel =>
         refine ⟨k+1,by omega,rfl,by go_num,?_⟩
         rw[hft.out,hfs.out,he.out,hs]
         simp only[if_true,List.append_nil]
         refine (hI5.alloc _).edge ?_ hg7
         rw[l'a,List.flatMap_append]
         exact ho7
  ·obtain rfl:k=ls.length:=by omega
   rw[List.take_of_length_le (n'r _)] at hI
   go_wp2
   refine bodyPost_ret (results_tmp2 rfl _ _ _) rfl ?_
   exact ⟨_,_,_,_,rfl,rfl,rfl,hI.own,hI.sown,hI.below⟩
theorem chk_zero {h:OHead} {body:List Int} {e:Int} (hc:chkP h body e=0):h.len=20+(body.length:Int):=by
 unfold chkP at hc
 by_cases h1:h.len≠20+(body.length:Int)
 ·rw[if_pos h1] at hc
  cases hc
 ·simpa using h1
theorem isG_len {s:StG} (ok:StOk s) (h:isG s=true):s.1.len=20+(s.2.length:Int)∧s.2.length≤65515:=by
 unfold isG countsP freshP at h
 simp only[Bool.and_eq_true,beq_iff_eq] at h
 have e:=chk_zero h.2.1.2
 have:=ok.1.len
 exact ⟨e,by omega⟩
structure BodOk (b:BodyV):Prop where
 links:∀ x∈b.links,(0≤x.id∧x.id<4294967296)∧(0≤x.cost∧x.cost<65536)
 llen:b.links.length≤1000000
 routers:∀ r∈b.routers,0≤r∧r<4294967296
 rlen:b.routers.length≤1000000
theorem byte_drop {l:List Int} (h:∀ x∈l,0≤x∧x<256) (i n:Nat):∀ x∈(l.drop i).take n,0≤x∧x<256:=fun x hx=>h x (List.mem_of_mem_drop (List.mem_of_mem_take hx))
theorem bodyG_ok {s:StG} (ok:StOk s) (hl:s.2.length≤65515):BodOk (bodyG s):=by
 have h8:=ok.2.2
 have hr:BodOk (readP s.1.type.toNat s.2):=by
  unfold readP
  split
  ·refine ⟨fun x hx => ?_,?_,fun r hr=>(by cases hr),Nat.zero_le _⟩
   ·simp only[linksOf,List.mem_map,List.mem_range] at hx
    obtain ⟨k,hk,rfl⟩:=hx
    have hd:∀ x∈s.2.drop (4+12*k),0≤x∧x<256:=fun x hx=>h8 x (List.mem_of_mem_drop hx)
    have a1:=numB_range (((s.2.drop (4+12*k))).take 4)
    have a2:=numB_range (((s.2.drop (4+12*k)).drop 10).take 2)
    have a3:=numB_lt (((s.2.drop (4+12*k)).drop 10).take 2) 2 (by rw[List.length_take];omega) (by omega) (byte_drop hd 10 2)
    refine ⟨a1,a2.1,?_⟩
    show numB (((s.2.drop (4+12*k)).drop 10).take 2)<65536
    simpa using a3
   ·show (linksOf s.2 ((s.2.length-4) / 12)).length≤_
    rw[linksOf_len]
    omega
  ·split
   ·refine ⟨fun x hx=>(by cases hx),Nat.zero_le _,fun r hr => ?_,?_⟩
    ·simp only[wordsOf,List.mem_map,List.mem_range] at hr
     obtain ⟨k,hk,rfl⟩:=hr
     exact numB_range _
    ·show (wordsOf s.2 ((s.2.length-4) / 4)).length≤_
     rw[wordsOf_len]
     omega
   ·split
    ·exact ⟨fun x hx=>(by cases hx),Nat.zero_le _,fun x hx=>(by cases hx),Nat.zero_le _⟩
    ·split
     ·exact ⟨fun x hx=>(by cases hx),Nat.zero_le _,fun x hx=>(by cases hx),Nat.zero_le _⟩
     ·exact ⟨fun x hx=>(by cases hx),Nat.zero_le _,fun x hx=>(by cases hx),Nat.zero_le _⟩
 have hz:BodOk zeroB:=⟨fun x hx=>(by cases hx),Nat.zero_le _,fun x hx=>(by cases hx),Nat.zero_le _⟩
 unfold bodyG decQ
 split
 ·exact hz
 split
 ·exact hz
 split
 ·exact hz
 split
 ·exact hz
 ·exact hr
theorem bodyG_flags {s:StG} (h:s.1.type=2):(bodyG s).flags=0:=by
 unfold bodyG decQ
 rw[h]
 split
 ·rfl
 split
 ·rfl
 split
 ·rfl
 split
 ·rfl
 ·rfl
structure NodR where
 n:NodG
 ev:Value
 sv:Value
def nodC (r:NodR):List Value:=[.bool r.n.network,.int .u32 r.n.id,.int .u32 r.n.netA,.int .u8 r.n.netB,.int .u8 r.n.flags,r.ev,r.sv]
theorem nodC_len (r:NodR):(nodC r).length=7:=rfl
def bare (s:StG):NodG:=
 if s.1.type=2 then ⟨true,s.1.id,bits BinOp.and IntKind.u32 s.1.id (bodyG s).mask,bitsV (bodyG s).mask,0,[],[]⟩
 else ⟨false,s.1.id,0,0,(bodyG s).flags,[],[]⟩
def bareR (s:StG):NodR:=⟨bare s,.slice none 0 0,.slice none 0 0⟩
theorem nodT:ElT Tryz.prog 27 63 7 72:=⟨by kernel_rfl,by
 obtain ⟨i,hi,h1,h2,h3⟩:=info_parts (show (Tryz.prog.info? 63).map (fun i=>(i.zero,i.size,i.bytes))=some (some (.agg #[.bool false,.int .u32 0,.int .u32 0,.int .u8 0,.int .u8 0,.slice none 0 0,.slice none 0 0]),7,72) by kernel_rfl)
 exact ⟨i,_,hi,h1,h2,h3,rfl⟩,by omega⟩
theorem bodT:ElT Tryz.prog 75 81 9 104:=⟨by kernel_rfl,by
 obtain ⟨i,hi,h1,h2,h3⟩:=info_parts (show (Tryz.prog.info? 81).map (fun i=>(i.zero,i.size,i.bytes))=some (some (.agg #[.int .u8 0,.slice none 0 0,.int .u32 0,.slice none 0 0,.int .u32 0,.bool false,.int .u32 0,.int .u32 0,.slice none 0 0]),9,104) by kernel_rfl)
 exact ⟨i,_,hi,h1,h2,h3,rfl⟩,by omega⟩
theorem own_two {W W7:World} {b b2 s s2 n n2:Nat} {e T tw:TypeId} {v vr:Value} {xs ys:List Value} (h:W.ownsRow b e s v n xs) (hr:W.ownsRow b2 T s2 vr n2 ys) (hg:W.grownBy W7 vr.ownBlock) (hT:T≠e) {g4:Nat} {cs:Array Value} (hb:Blk W g4 tw cs) (hw:tw≠e) (i:Nat) (u:Value) :
  (W7.setCell ⟨g4,i,none⟩ u).ownsRow b e s v n xs:=own_same (own_grown hr h hg hT) fun k hk=>Below.heap_setCell _ _ _ k (own_ne8 h hb hw k hk)
theorem map_two {W W7:World} {b2 s2 n2 mb nn:Nat} {T:TypeId} {vr:Value} {ys:List Value} {D:DataW Unit} (hm:W.ownsMap Tryz.prog 88 (plainElem Tryz.prog 3) mb nn D) (hr:W.ownsRow b2 T s2 vr n2 ys) (hg:W.grownBy W7 vr.ownBlock):W7.ownsMap Tryz.prog 88 (plainElem Tryz.prog 3) mb nn D:=by
 refine hm.kept hg fun e => ?_
 obtain ⟨es,cl,h5,_⟩:=hm
 rcases hr.2 with h' | ⟨b,cap,cur,rfl,_,h6,_⟩
 ·rw[h'.1] at e
  cases e
 ·simp only[Value.ownBlock,o'j] at e
  subst e
  rw[h5] at h6
  cases h6
theorem ne_map {W:World} {b s n mb nn:Nat} {T:TypeId} {v:Value} {ys:List Value} {D:DataW Unit} (hm:W.ownsMap Tryz.prog 88 (plainElem Tryz.prog 3) mb nn D) (h:W.ownsRow b T s v n ys):∀ k,v.ownBlock=some k→k≠mb:=fun k hk e=>by
 obtain ⟨es,cl,h5,_⟩:=hm
 rcases h.2 with h' | ⟨b,cap,cur,rfl,_,h6,_⟩
 ·rw[h'.1] at hk
  cases hk
 ·simp only[Value.ownBlock,o'j] at hk
  rw[←e,←hk,h6] at h5
  cases h5
theorem own_put {W W':World} {b s n mb nn:Nat} {T:TypeId} {v:Value} {ys:List Value} {D:DataW Unit} (h:W.ownsRow b T s v n ys) (hm:W.ownsMap Tryz.prog 88 (plainElem Tryz.prog 3) mb nn D) (hg:W.grownBy W' (some mb)):W'.ownsRow b T s v n ys:=
 own_same h fun k hk=>hg.block k (h.lt k hk).2 fun e=>ne_map hm h k hk (o'i e)
theorem blk_ne_map {W:World} {g mb nn:Nat} {T:TypeId} {cs:Array Value} {D:DataW Unit} (h:Blk W g T cs) (hm:W.ownsMap Tryz.prog 88 (plainElem Tryz.prog 3) mb nn D):g≠mb:=fun e=>by
 obtain ⟨es,cl,h5,_⟩:=hm
 unfold Blk at h
 rw[e,h5] at h
 cases h
theorem blk_grown {W W':World} {b s n g:Nat} {t e:TypeId} {v:Value} {ys:List Value} {cs:Array Value} (h:Blk W g t cs) (ho:W.ownsRow b e s v n ys) (hg:W.grownBy W' v.ownBlock) (hne:t≠e):Blk W' g t cs:=
 Blk.same h (hg.block g h.lt fun k=>own_ne8 ho h hne g k.symm rfl)
theorem atN_snoc {L:List StG} (h:RiseN L) {k:Nat} {s:StG} (hk:k<L.length) (hs:L.take (k+1)=L.take k++[s]) (k':KN):atN (L.take (k+1)) k'=if k'=keyN s then some k else atN (L.take k) k':=by
 have hs2:L[k]=s:=by
  rw[t'k hk] at hs
  simpa using List.append_cancel_left hs
 rw[hs]
 unfold atN
 rw[List.findIdx?_append]
 by_cases e:k'=keyN s
 ·rw[if_pos e]
  subst e
  have hn:(L.take k).findIdx? (fun x=>keyN x==keyN s)=none:=by
   rw[List.findIdx?_eq_none_iff]
   intro x hx
   obtain ⟨j,hj,rfl⟩:=List.getElem_of_mem hx
   rw[List.length_take] at hj
   rw[List.getElem_take]
   have:=List.pairwise_iff_getElem.1 h j k (by omega) hk (by omega)
   rw[hs2] at this
   simp only[beq_eq_false_iff_ne,ne_eq]
   intro e
   rw[e,ltKN_irr] at this
   cases this
  rw[hn]
  have:min k L.length=k:=by omega
  simp[List.findIdx?_cons,List.length_take,this]
 ·rw[if_neg e]
  have h1:(keyN s==k')=false:=by simpa using fun e2=>e e2.symm
  cases hq:(L.take k).findIdx? (fun x=>keyN x==k') with
  | none=>simp[List.findIdx?_cons,h1]
  | some i=>simp
structure BI (w:World) (all:Value) (out:List StY) (mb g4 km kb ki kn:Nat) (bv iv nv:Value) (xs:List BodX) (W:World):Prop where
 map:∃ D nn,W.ownsMap Tryz.prog 88 (plainElem Tryz.prog 3) mb nn D∧MapA D (atN ((sOf out).take km))∧nn≤km
 bods:W.ownsRow w.heap.size 81 9 bv xs.length (xs.flatMap bodL)
 links:∀ x∈xs,W.ownsRow w.heap.size 99 4 (.slice x.A1 x.b.links.length x.c1) x.b.links.length (x.b.links.flatMap linkC)
 routers:∀ x∈xs,W.ownsRow w.heap.size 23 1 (.slice x.A2 x.b.routers.length x.c2) x.b.routers.length (x.b.routers.map u32c)
 apart:∀ x∈xs,∀ g,(Value.slice x.A2 x.b.routers.length x.c2).ownBlock=some g→iv.ownBlock≠some g
 ids:W.ownsRow w.heap.size 23 1 iv ((sOf out).take ki).length ((((sOf out).take ki).map fun s=>s.1.id).map u32c)
 nods:W.ownsRow w.heap.size 63 7 nv ((sOf out).take kn).length ((((sOf out).take kn).map bareR).flatMap nodC)
 bod:xs.map (·.b)=((sOf out).take kb).map bodyG
 box:Blk W g4 78 #[.map (some mb),bv,iv]
 sts:W.ownsRow w.heap.size 71 9 all out.length (out.flatMap sL)
 below:Below w.heap.size w W
 base:w.heap.size≤g4
 mbase:w.heap.size≤mb
section
variable {w W W':World} {all:Value} {out:List StY} {mb g4 km kb ki kn:Nat} {bv iv nv:Value} {xs:List BodX}
theorem BI.call (h:BI w all out mb g4 km kb ki kn bv iv nv xs W) (hb:Below W.heap.size W W'):BI w all out mb g4 km kb ki kn bv iv nv xs W':=by
 obtain ⟨D,nn,h1,h2,h3⟩:=h.map
 exact ⟨⟨D,nn,h1.kept (grown_of_below hb none) (fun e=>by cases e),h2,h3⟩,own_below h.bods hb,fun x hx=>own_below (h.links x hx) hb,fun x hx=>own_below (h.routers x hx) hb,h.apart,own_below h.ids hb,own_below h.nods hb,h.bod,h.box.below hb h.box.lt,own_below h.sts hb,h.below.trans (hb.mono h.below.size),h.base,h.mbase⟩
theorem BI.alloc (h:BI w all out mb g4 km kb ki kn bv iv nv xs W) (o:Obj):BI w all out mb g4 km kb ki kn bv iv nv xs (W.alloc o):=h.call ((b'r _ _).alloc (n'r _) o)
theorem BI.put (h:BI w all out mb g4 km kb ki kn bv iv nv xs W) (hmap:∃ D nn,W'.ownsMap Tryz.prog 88 (plainElem Tryz.prog 3) mb nn D∧MapA D (atN ((sOf out).take (km+1)))∧nn≤km+1) (hg:W.grownBy W' (some mb)):BI w all out mb g4 (km+1) kb ki kn bv iv nv xs W':=by
 obtain ⟨D,nn,h1,-,-⟩:=h.map
 refine ⟨hmap,own_put h.bods h1 hg,fun x hx=>own_put (h.links x hx) h1 hg,fun x hx=>own_put (h.routers x hx) h1 hg,h.apart,own_put h.ids h1 hg,own_put h.nods h1 hg,h.bod,Blk.same h.box (hg.block g4 h.box.lt fun e => ?_),own_put h.sts h1 hg,h.below.trans (below_of_grown hg h.below.size fun g e=>by have:=h.mbase;simp only[o'j] at e;omega),h.base,h.mbase⟩
 obtain ⟨es,cl,h5,_⟩:=h1
 have h6:=h.box
 unfold Blk at h6
 rw[o'i e,h5] at h6
 cases h6
theorem BI.body (h:BI w all out mb g4 km kb ki kn bv iv nv xs W) {x:BodX} {bv':Value} (ho:W'.ownsRow w.heap.size 81 9 bv' (xs++[x]).length ((xs++[x]).flatMap bodL)) (hg:W.grownBy W' bv.ownBlock) (hx1:W.ownsRow w.heap.size 99 4 (.slice x.A1 x.b.links.length x.c1) x.b.links.length (x.b.links.flatMap linkC))
  (hx2:W.ownsRow w.heap.size 23 1 (.slice x.A2 x.b.routers.length x.c2) x.b.routers.length (x.b.routers.map u32c)) (hx3:∀ g,(Value.slice x.A2 x.b.routers.length x.c2).ownBlock=some g→iv.ownBlock≠some g) (hb:(xs++[x]).map (·.b)=((sOf out).take (kb+1)).map bodyG) :
  BI w all out mb g4 km (kb+1) ki kn bv' iv nv (xs++[x]) (W'.setCell ⟨g4,1,none⟩ bv'):=by
 obtain ⟨D,nn,h1,h2,h3⟩:=h.map
 have hm:=map_two h1 h.bods hg
 have hbx:Blk W' g4 78 #[.map (some mb),bv,iv]:=Blk.same h.box (hg.block g4 h.box.lt fun e=>own_ne8 h.bods h.box (by decide) g4 e.symm rfl)
 have two:∀ {b e s n v ys},W.ownsRow b e s v n ys→81≠e→78≠e→(W'.setCell ⟨g4,1,none⟩ bv').ownsRow b e s v n ys:=fun {b e s n v ys} o h1 h2=>own_two o h.bods hg h1 h.box h2 1 bv'
 refine ⟨⟨D,nn,hm.kept (grown_setCell (p:=⟨g4,1,none⟩) (grown_refl W' (some g4)) (.inl rfl) bv') fun e => ?_,h2,h3⟩,own_same ho fun k hk=>Below.heap_setCell _ _ _ k (own_ne8 ho hbx (by decide) k hk),fun z hz => ?_,fun z hz => ?_,fun z hz => ?_,two h.ids (by decide) (by decide),two h.nods (by decide) (by decide),hb,hbx.set_ 1 bv',two h.sts (by decide) (by decide),(h.below.trans (below_of_grown hg h.below.size fun g hg=>(h.bods.lt g hg).1)).setCell h.base bv',h.base,h.mbase⟩
 ·obtain ⟨es,cl,h5,_⟩:=hm
  have h6:=hbx
  unfold Blk at h6
  rw[←o'i e,h5] at h6
  cases h6
 ·rcases List.mem_append.1 hz with hz | hz
  ·exact two (h.links z hz) (by decide) (by decide)
  ·rw[List.mem_singleton.1 hz];exact two hx1 (by decide) (by decide)
 ·rcases List.mem_append.1 hz with hz | hz
  ·exact two (h.routers z hz) (by decide) (by decide)
  ·rw[List.mem_singleton.1 hz];exact two hx2 (by decide) (by decide)
 ·rcases List.mem_append.1 hz with hz | hz
  ·exact h.apart z hz
  ·rw[List.mem_singleton.1 hz];exact hx3
theorem BI.id_ (h:BI w all out mb g4 km kb ki kn bv iv nv xs W) {iv':Value} (ho:W'.ownsRow w.heap.size 23 1 iv' ((sOf out).take (ki+1)).length ((((sOf out).take (ki+1)).map fun s=>s.1.id).map u32c)) (hg:W.grownBy W' iv.ownBlock) (hob:iv'.ownBlock=iv.ownBlock∨iv'.ownBlock=some W.heap.size) :
  BI w all out mb g4 km kb (ki+1) kn bv iv' nv xs (W'.setCell ⟨g4,2,none⟩ iv'):=by
 obtain ⟨D,nn,h1,h2,h3⟩:=h.map
 have hm:=map_two h1 h.ids hg
 have hbx:Blk W' g4 78 #[.map (some mb),bv,iv]:=Blk.same h.box (hg.block g4 h.box.lt fun e=>own_ne8 h.ids h.box (by decide) g4 e.symm rfl)
 have two:∀ {b e s n v ys},W.ownsRow b e s v n ys→23≠e→78≠e→(W'.setCell ⟨g4,2,none⟩ iv').ownsRow b e s v n ys:=fun {b e s n v ys} o h1 h2=>own_two o h.ids hg h1 h.box h2 2 iv'
 refine ⟨⟨D,nn,hm.kept (grown_setCell (p:=⟨g4,2,none⟩) (grown_refl W' (some g4)) (.inl rfl) iv') fun e => ?_,h2,h3⟩,two h.bods (by decide) (by decide),fun z hz=>two (h.links z hz) (by decide) (by decide),fun z hz => ?_,fun z hz g hgz e => ?_,own_same ho fun k hk=>Below.heap_setCell _ _ _ k (own_ne8 ho hbx (by decide) k hk),two h.nods (by decide) (by decide),h.bod,hbx.set_ 2 iv',two h.sts (by decide) (by decide),(h.below.trans (below_of_grown hg h.below.size fun g hg=>(h.ids.lt g hg).1)).setCell h.base iv',h.base,h.mbase⟩
 ·obtain ⟨es,cl,h5,_⟩:=hm
  have h6:=hbx
  unfold Blk at h6
  rw[←o'i e,h5] at h6
  cases h6
 ·have hr:=h.routers z hz
  refine own_same hr fun k hk => ?_
  rw[Below.heap_setCell _ _ _ k (own_ne8 hr h.box (by decide) k hk)]
  exact hg.block k (hr.lt k hk).2 fun e=>h.apart z hz k hk e.symm
 ·rcases hob with e2 | e2
  ·exact h.apart z hz g hgz (by rw[←e2];exact e)
  ·rw[e2] at e
   have:=((h.routers z hz).lt g hgz).2
   simp only[o'j] at e
   omega
theorem BI.node (h:BI w all out mb g4 km kb ki kn bv iv nv xs W) {nv':Value} (ho:W'.ownsRow w.heap.size 63 7 nv' ((sOf out).take (kn+1)).length ((((sOf out).take (kn+1)).map bareR).flatMap nodC)) (hg:W.grownBy W' nv.ownBlock) :
  BI w all out mb g4 km kb ki (kn+1) bv iv nv' xs W':=by
 obtain ⟨D,nn,h1,h2,h3⟩:=h.map
 exact ⟨⟨D,nn,map_two h1 h.nods hg,h2,h3⟩,own_grown h.nods h.bods hg (by decide),fun z hz=>own_grown h.nods (h.links z hz) hg (by decide),fun z hz=>own_grown h.nods (h.routers z hz) hg (by decide),h.apart,own_grown h.nods h.ids hg (by decide),ho,h.bod,Blk.same h.box (hg.block g4 h.box.lt fun e=>own_ne8 h.nods h.box (by decide) g4 e.symm rfl),own_grown h.nods h.sts hg (by decide),h.below.trans (below_of_grown hg h.below.size fun g hg=>(h.nods.lt g hg).1),h.base,h.mbase⟩
end
section
variable {ops:Array Oper} {rest:List Oper} {o:Oper} {a:Act} {Q:Exit→Act→World→Prop} {w:World}
theorem wpList_put_at (hg:o.guard=none) (m x v:Operand) (hop:o.op=Op.mapUpdate 74 m x v) (b nn:Nat) (D:DataW Unit) (f f':KN→Option Nat)
  (hm:a.eval m=.map (some b)) (hown:w.ownsMap Tryz.prog 88 (plainElem Tryz.prog 3) b nn D) (hM:MapA D f) (hn:nn<maxLen) (k:KN) (hk:InN k) (hx:a.eval x=nV k) (i:Nat) (hi:i≤1000000) (hv:a.eval v=.int .i64 i) (hf:∀ k',f' k'=if k'=k then some i else f k')
  (hK:∀ w' D',w'.ownsMap Tryz.prog 88 (plainElem Tryz.prog 3) b (nn+1) D'→MapA D' f'→w.grownBy w' (some b)→wpList Tryz.prog ops Q rest (a.put o.dst undef) w') :
  wpList Tryz.prog ops Q (o :: rest) a w:=by
 have hw:(Lit.int .i64 (i:Int)).wf=true:=by
  have h1:IntKind.i64.min = -9223372036854775808:=by decide
  have h2:IntKind.i64.max=9223372036854775807:=by decide
  simp[Lit.wf,h1,h2]
  omega
 refine wpList_mapUpdate_own _ hg m x v _ hop 88 3 name_keyed Tryz.underlying74 _ b nn D hm hown hn _ _ _ hx hv (key_n k hk) (.lit (.int .i64 i)) [] (plainElem_int Tryz.underlying3 hw) ?_
 intro w' h1 h2
 exact hK w' _ h1 (hM.put hown.isMap k hk i hf) h2
end
theorem splice_in {α:Type} {f:α→List Value} {s:Nat} (hf:∀ x,(f x).length=s) (j:Nat) (u:Value) (hj:j<s) (l:List α):∀ (i:Nat) (hi:i<l.length) (y:α),splice (f l[i]) j [u]=f y→splice (l.flatMap f) (i*s+j) [u]=(l.set i y).flatMap f:=by
 induction l with
 | nil=>intro i hi;cases hi
 | cons x r ih =>
  intro i hi y he
  have hx:(f x).length=s:=hf x
  cases i with
  | zero =>
   simp only[List.getElem_cons_zero] at he
   simp only[List.flatMap_cons,s'z,Nat.zero_mul,Nat.zero_add]
   rw[←he]
   unfold splice
   simp only[List.length_singleton]
   rw[List.take_append_of_le_length (by rw[hx];omega),List.drop_append_of_le_length (by rw[hx];omega)]
   simp only[List.append_assoc]
  | succ i =>
   have hi2:i<r.length:=by simpa using hi
   simp only[List.getElem_cons_succ] at he
   have h1:=ih i hi2 y he
   simp only[List.flatMap_cons,s's]
   rw[←h1]
   unfold splice
   rw[show (i+1)*s+j=(f x).length+(i*s+j) by rw[hx,Nat.succ_mul];omega,Nat.add_assoc,List.take_length_add_append,List.drop_length_add_append]
   simp only[List.append_assoc]
theorem nodeG_bare (L:List StG) (i:Nat) (s:StG):nodeG L i s=if s.1.type=2 then { bare s with edges:=(bodyG s).routers.filterMap (edgeN L s.1.id) } else { bare s with edges:=(bodyG s).links.filterMap (edgeP L i s.1.id),stubs:=(bodyG s).links.filterMap stubP }:=by
 unfold nodeG bare
 split <;> rfl
structure GI (w:World) (L:List StG) (mb g4 k:Nat) (bv iv nv:Value) (xs:List BodX) (rows:List NodR) (W:World):Prop where
 web:WebO W w.heap.size L mb bv iv xs
 box:Blk W g4 78 #[.map (some mb),bv,iv]
 nods:W.ownsRow w.heap.size 63 7 nv rows.length (rows.flatMap nodC)
 len:rows.length=L.length
 done:∀ j (h:j<rows.length) (h2:j<L.length),j<k→rows[j].n=nodeG L j L[j]
 rest:∀ j (h:j<rows.length) (h2:j<L.length),k≤j→rows[j]=bareR L[j]
 edges:∀ r∈rows,W.ownsRow w.heap.size 65 4 r.ev r.n.edges.length (r.n.edges.flatMap edgeC)
 stubs:∀ r∈rows,W.ownsRow w.heap.size 107 3 r.sv r.n.stubs.length (r.n.stubs.flatMap stubC)
 below:Below w.heap.size w W
section
variable {w W W':World} {L:List StG} {mb g4 k:Nat} {bv iv nv:Value} {xs:List BodX} {rows:List NodR}
theorem GI.call (h:GI w L mb g4 k bv iv nv xs rows W) (hb:Below W.heap.size W W'):GI w L mb g4 k bv iv nv xs rows W':=
 ⟨h.web.call hb,h.box.below hb h.box.lt,own_below h.nods hb,h.len,h.done,h.rest,fun r hr=>own_below (h.edges r hr) hb,fun r hr=>own_below (h.stubs r hr) hb,h.below.trans (hb.mono h.below.size)⟩
theorem GI.row (h:GI w L mb g4 k bv iv nv xs rows W) {i:Nat} (hi:i<rows.length):∃ g cap,nv=.slice (some ⟨g,0,none⟩) rows.length cap∧w.heap.size≤g∧g<W.heap.size∧∀ j u,(nodC rows[i])[j]?=some u→W.cell? ⟨g,i*7+j,none⟩=some u:=by
 have h1:=Sl.of_own h.nods
 rcases h.nods.2 with ⟨_,h0⟩ | ⟨g,cap,cur,rfl,hg,_,_⟩
 ·omega
 ·obtain ⟨b,off,e,hb,hr⟩:=Sl.row nodC_len h1 hi
  simp only[o'j,Addr.mk.injEq,and_true] at e
  obtain ⟨rfl,rfl⟩:=e
  simp only[Nat.zero_add] at hr
  exact ⟨_,_,rfl,hg,hb,hr⟩
theorem GI.turn (h:GI w L mb g4 k bv iv nv xs rows W) {g cap:Nat} (hnv:nv=.slice (some ⟨g,0,none⟩) rows.length cap) {y:NodR} (hkL:k<L.length) (ho:W'.ownsRow w.heap.size 63 7 nv rows.length ((rows.set k y).flatMap nodC)) (hg:W.grownBy W' (some g))
  (hy:y.n=nodeG L k L[k]) (he:W.ownsRow w.heap.size 65 4 y.ev y.n.edges.length (y.n.edges.flatMap edgeC)) (hs:W.ownsRow w.heap.size 107 3 y.sv y.n.stubs.length (y.n.stubs.flatMap stubC)) :
  GI w L mb g4 (k+1) bv iv nv xs (rows.set k y) W':=by
 have hob:nv.ownBlock=some g:=by rw[hnv];rfl
 rw[←hob] at hg
 have hlr:(rows.set k y).length=rows.length:=by simp
 refine ⟨h.web.grown h.nods (by decide) (by decide) (by decide) hg,blk_grown h.box h.nods hg (by decide),by rw[hlr];exact ho,by rw[hlr];exact h.len,fun j hj h2 hjk => ?_,fun j hj h2 hjk => ?_,fun r hr => ?_,fun r hr => ?_,h.below.trans (below_of_grown hg h.below.size fun g hg=>(h.nods.lt g hg).1)⟩
 ·rw[List.getElem_set]
  split
  ·rename_i e;subst e;exact hy
  ·exact h.done j (by simpa using hj) h2 (by omega)
 ·rw[List.getElem_set]
  split
  ·omega
  ·exact h.rest j (by simpa using hj) h2 (by omega)
 ·rcases List.mem_or_eq_of_mem_set hr with hr | rfl
  ·exact own_grown h.nods (h.edges r hr) hg (by decide)
  ·exact own_grown h.nods he hg (by decide)
 ·rcases List.mem_or_eq_of_mem_set hr with hr | rfl
  ·exact own_grown h.nods (h.stubs r hr) hg (by decide)
  ·exact own_grown h.nods hs hg (by decide)
end
structure GrO (w:World) (base:Nat) (nv:Value) (rows:List NodR):Prop where
 nods:w.ownsRow base 63 7 nv rows.length (rows.flatMap nodC)
 edges:∀ r∈rows,w.ownsRow base 65 4 r.ev r.n.edges.length (r.n.edges.flatMap edgeC)
 stubs:∀ r∈rows,w.ownsRow base 107 3 r.sv r.n.stubs.length (r.n.stubs.flatMap stubC)
theorem GI.fin {w W:World} {L:List StG} {mb g4 k:Nat} {bv iv nv:Value} {xs:List BodX} {rows:List NodR} (h:GI w L mb g4 k bv iv nv xs rows W) (hk:k=L.length):GrO W w.heap.size nv rows∧rows.map (·.n)=graphG L:=by
 refine ⟨⟨h.nods,h.edges,h.stubs⟩,List.ext_getElem (by simp[graphG,h.len]) fun j h1 h2 => ?_⟩
 have hj:j<rows.length:=by simpa using h1
 have hl:=h.len
 simp only[List.getElem_map,graphG,List.getElem_mapIdx]
 exact h.done j hj (by omega) (by omega)
set_option maxRecDepth 100000
structure NodeY (w:World) (B:Nat) (y:StY):Prop where
 ok:StOk (yG y)
 isg:isG (yG y)=true
 len:y.1.h.len=20+(y.2.length:Int)
 le:y.2.length≤65515
 sl:Sl w B 1 (.slice y.1.A y.1.len y.1.cap) y.2.length (y.2.map u8c)
theorem nodeY_of {w:World} {B:Nat} {sv:Value} {S:List StG} {ls:List StV} (hS:StatesIn w B sv S ls) (hok:∀ s∈S,StOk s) {out:List StY} (h1:sOf out=nodesG S) (h2:∀ y∈out,y∈ysOf ls S):∀ y∈out,NodeY w B y:=fun y hy=>by
 have hs:yG y∈nodesG S:=by rw[←h1,sOf_eq];exact List.mem_map_of_mem hy
 obtain ⟨i,h3⟩:=(best_iff S _ _).1 (((nodesG_ok S).mem _).1 hs)
 have hm:=List.mem_of_getElem? h3.at_
 have hk:=hok _ hm
 obtain ⟨e1,e2⟩:=isG_len hk h3.isg
 obtain ⟨k,hk1,e⟩:=List.getElem_of_mem (h2 y hy)
 have hl:=hS.len
 have hk2:k<ls.length:=by rw[ysOf_len hl] at hk1;exact hk1
 rw[ysOf_get hk2 (by omega) hk1] at e
 refine ⟨hk,h3.isg,e1,e2,?_⟩
 rw[←e]
 exact hS.bodies k hk2 (by omega)
set_option maxHeartbeats 8000000 in
theorem build_any (B:Nat) (sv:Value) (S:List StG) (ls:List StV) (w:World) (hS:StatesIn w B sv S ls) (hB:B≤w.heap.size) (hok:∀ s∈S,StOk s) (hn:ls.length≤100000) :
  Calls Tryz.prog 12 #[sv] w fun e w'=>∃ v rows,e=.returned v∧GrO w' w.heap.size v rows∧rows.map (·.n)=graphG (nodesG S)∧Below w.heap.size w w':=by
 have hmm:=@run_makeMap Tryz.prog
 have CC:=chosen_any B sv S ls w hS hB hok hn
 have hny:=fun out h1 h2=>nodeY_of hS hok (out:=out) h1 h2
 have hyl:=ysOf_len hS.len
 obtain ⟨-,lA,lc,rfl,-⟩:=id hS.sl
 unfold ChPost at CC
 replace CC:=h'd CC
 clear hS hok
 go_enter Tryz.func12,Tryz.ntmps12
 go_upto_region 2 with (go_at_call 34;refine c'm CC.out ?_;rintro e w1 ⟨all,out,rfl,ho1,hs1,hm1,hl1,hB1⟩)
 have HY:=hny out hs1 hm1
 obtain ⟨-,oA,oc,rfl,-⟩:=id (Sl.of_own ho1)
 have hol:out.length≤100000:=by omega
 clear CC hny hm1 hl1 hyl
 go_upto_region 5 with fail
 obtain ⟨mb,hmb⟩:∃ x,x=w1.heap.size:=⟨_,rfl⟩
 obtain ⟨w2,hw2⟩:∃ x,x=(w1.alloc (.map #[] 0)).alloc (.cells #[.map (some w1.heap.size),.slice none 0 0,.slice none 0 0] 78):=⟨_,rfl⟩
 have hI0:BI w (.slice oA out.length oc) out mb (mb+1) 0 0 0 0 (.slice none 0 0) (.slice none 0 0) (.slice none 0 0) [] w2:=by
  have h1:=(World.ownsMap_made w1 Tryz.prog 88 (plainElem (H:=Unit) Tryz.prog 3)).alloc (.cells #[.map (some w1.heap.size),.slice none 0 0,.slice none 0 0] 78)
  have hb2:Below w1.heap.size w1 w2:=by rw[hw2];exact ((b'r _ _).alloc (n'r _) _).alloc (by simp) _
  rw[hmb]
  refine ⟨⟨_,0,by rw[hw2];exact h1,MapA.start fun _=>rfl,n'r _⟩,World.ownsRow_nil _ _ _ _,fun _ h=>(by cases h),fun _ h=>(by cases h),fun _ h=>(by cases h),World.ownsRow_nil _ _ _ _,World.ownsRow_nil _ _ _ _,rfl,?_,own_below ho1 hb2,hB1.trans (hb2.mono hB1.size),n't hB1.size (Nat.le_succ _),hB1.size⟩
  rw[hw2]
  exact Blk.new_ _ (by simp)
 rw[←hw2,←hmb]
 replace hmb:=h'd hmb
 clear hw2 ho1 hB1
 go_loopg [5,18] out.length (fun m nv ki wr=>∃ (k:Nat) (bv iv:Value) (xs:List BodX),k≤out.length∧m=out.length-k∧ki=.int .i64 k∧BI w (.slice oA out.length oc) out mb (mb+1) k k k k bv iv nv xs wr)
 case atStart=>exact ⟨0,_,_,_,Nat.zero_le _,rfl,rfl,hI0⟩
 case round =>
  clear hI0
  obtain ⟨k,bv,iv,xs,hk,rfl,rfl,hI⟩:=hrel
  obtain ⟨w3,rfl⟩:∃ x:World,x=wr:=⟨_,rfl⟩
  by_cases hkl:k<out.length
  ·obtain ⟨ab,ao,rfl,hab,hrow⟩:=Sl.row (f:=sL) (fun _=>rfl) (Sl.of_own hI.sts) hkl
   have hny:=HY _ (g'm hkl)
   have ik:(k:Int)<(out.length:Int):=by omega
   have hsk:k<(sOf out).length:=by simpa[sOf] using hkl
   have htk:(sOf out).take (k+1)=(sOf out).take k++[yG out[k]]:=by rw[t'k hsk];simp[sOf,yG]
   have hrg:w3.rangeAt ab (ao+k*9) (sL out[k]):=hrow
   obtain ⟨y,hy⟩:∃ y,y=out[k]:=⟨_,rfl⟩
   rw[←hy] at htk hny hrg
   clear hrow hy
   have hbo:=bodyG_ok hny.ok hny.le
   have hbf:(yG y).1.type=2→(bodyG (yG y)).flags=0:=bodyG_flags
   have hkind:=isG_kind hny.isg
   have hki:InN (keyN (yG y)):=key_in hny.ok
   have hbd:=hny.sl
   have hle:=hny.le
   have hlen:=hny.len
   have hty0:=hny.ok.1.type
   have h8:=hny.ok.2.2
   obtain ⟨⟨⟨h0,h1,h2,h3,h4,h5,h6,h7⟩,xA,xl,xc⟩,body⟩:=y
   obtain rfl:xl=body.length:=sl_len hbd
   have hty:0≤h2∧h2<256:=hty0
   obtain ⟨t,rfl⟩:=Int.eq_ofNat_of_zero_le hty.1
   have hbg:bodyG (yG (⟨⟨h0,h1,(t:Int),h3,h4,h5,h6,h7⟩,xA,body.length,xc⟩,body))=(decQ t body).1:=rfl
   dsimp only[sL,stL] at hrg
   replace htk:=h'd htk
   go_upto_region 7 with (refine wpList_load_mid rfl 71 (.tmp 21) rfl ab (ao+k*9) rfl (#[.int .u16 h0,.int .u8 h1,.int .u8 (t:Int),.int .u32 h3,.int .u32 h4,.int .i32 h5,.int .u16 h6,.int .u16 h7,.slice xA body.length xc]).toList _ hrg Tryz.underlying71 rfl (by kernel_rfl) ?_;dsimp only)
   have k7:=Blk.new w3 71 #[.int .u16 h0,.int .u8 h1,.int .u8 (t:Int),.int .u32 h3,.int .u32 h4,.int .i32 h5,.int .u16 h6,.int .u16 h7,.slice xA body.length xc]
   have hI4:=hI.alloc (.cells #[.int .u16 h0,.int .u8 h1,.int .u8 (t:Int),.int .u32 h3,.int .u32 h4,.int .i32 h5,.int .u16 h6,.int .u16 h7,.slice xA body.length xc] 71)
   have hB4:Below w3.heap.size w3 (w3.alloc (.cells #[.int .u16 h0,.int .u8 h1,.int .u8 (t:Int),.int .u32 h3,.int .u32 h4,.int .i32 h5,.int .u16 h6,.int .u16 h7,.slice xA body.length xc] 71)):=(b'r _ _).alloc (n'r _) _
   generalize w3.alloc (.cells #[.int .u16 h0,.int .u8 h1,.int .u8 (t:Int),.int .u32 h3,.int .u32 h4,.int .i32 h5,.int .u16 h6,.int .u16 h7,.slice xA body.length xc] 71)=w4 at k7 hI4 hB4 ⊢
   generalize w3.heap.size=g7 at k7 ⊢
   have hd4:=hbd.below (hI4.below.mono hB)
   have CD:=decode_any t (by omega) ⟨h0,h1,(t:Int),h3,h4,h5,h6,h7⟩ B (.slice xA body.length xc) body w4 hd4 (n't hB hI4.below.size) hle h8 rfl hlen
   unfold DecPost at CD
   rw[←hbg] at CD
   clear hbg
   dsimp only[stateVal] at CD
   replace CD:=h'd CD
   clear hI hrg hB4
   generalize hbd0:bodyG (yG (⟨⟨h0,h1,(t:Int),h3,h4,h5,h6,h7⟩,xA,body.length,xc⟩,body))=bd at *
   replace hbd0:=h'd hbd0
   go_upto_region 8 with (first
    | (refine wpList_load_row rfl 71 (.tmp 7) rfl g7 rfl 71 #[.int .u16 h0,.int .u8 h1,.int .u8 (t:Int),.int .u32 h3,.int .u32 h4,.int .i32 h5,.int .u16 h6,.int .u16 h7,.slice xA body.length xc] (0,0) _ k7 Tryz.underlying71 rfl (by kernel_rfl) ?_)
    | (go_at_call 35;refine c'm CD.out ?_;rintro e w5 ⟨cs,rfl,hBA,hB5⟩;obtain ⟨A1,c1,A2,c2,A3,c3,rfl,hA1,hA2,-⟩:=hBA;dsimp only[bodyC]))
   have k8:=Blk.new w5 81 #[.int .u8 bd.flags,.slice A1 bd.links.length c1,.int .u32 bd.mask,.slice A2 bd.routers.length c2,.int .u32 bd.metric,.bool bd.t2,.int .u32 bd.fw,.int .u32 bd.tg,.slice A3 bd.data.length c3]
   have k76:=(k7.below hB5 k7.lt).alloc (.cells #[.int .u8 bd.flags,.slice A1 bd.links.length c1,.int .u32 bd.mask,.slice A2 bd.routers.length c2,.int .u32 bd.metric,.bool bd.t2,.int .u32 bd.fw,.int .u32 bd.tg,.slice A3 bd.data.length c3] 81)
   have hI6:=(hI4.call hB5).alloc (.cells #[.int .u8 bd.flags,.slice A1 bd.links.length c1,.int .u32 bd.mask,.slice A2 bd.routers.length c2,.int .u32 bd.metric,.bool bd.t2,.int .u32 bd.fw,.int .u32 bd.tg,.slice A3 bd.data.length c3] 81)
   have hA16:=own_alloc hA1 (.cells #[.int .u8 bd.flags,.slice A1 bd.links.length c1,.int .u32 bd.mask,.slice A2 bd.routers.length c2,.int .u32 bd.metric,.bool bd.t2,.int .u32 bd.fw,.int .u32 bd.tg,.slice A3 bd.data.length c3] 81)
   have hA26:=own_alloc hA2 (.cells #[.int .u8 bd.flags,.slice A1 bd.links.length c1,.int .u32 bd.mask,.slice A2 bd.routers.length c2,.int .u32 bd.metric,.bool bd.t2,.int .u32 bd.fw,.int .u32 bd.tg,.slice A3 bd.data.length c3] 81)
   generalize w5.alloc (.cells #[.int .u8 bd.flags,.slice A1 bd.links.length c1,.int .u32 bd.mask,.slice A2 bd.routers.length c2,.int .u32 bd.metric,.bool bd.t2,.int .u32 bd.fw,.int .u32 bd.tg,.slice A3 bd.data.length c3] 81)=w6 at k8 k76 hI6 hA16 hA26 ⊢
   generalize w5.heap.size=g8 at k8 ⊢
   have hz4:=hI4.below.size
   have hid4:∀ g,iv.ownBlock=some g→g<w4.heap.size:=fun g hg=>(hI4.ids.lt g hg).2
   generalize w4.heap.size=n4 at hA16 hA26 hz4 hid4
   have x2:=k76.cell 2
   have x3:=k76.cell 3
   have b0:=k8.cell 0
   simp only[q'a,q'z,q's] at x2 x3 b0
   clear hI4 CD hA1 hA2 hB5 k7 hd4
   have hkd:t=1∨t=2:=by
    have h:(t:Int)=1∨(t:Int)=2:=hkind
    omega
   clear hkind hty hty0 hlen hny
   have hz6:mb+1<w6.heap.size:=hI6.box.lt
   have hz8:=k8.lt
   have hat:RowKit.Hid (∀ k',atN ((sOf out).take (k+1)) k'=if k'=((t:Int)==2,h3) then some k else atN ((sOf out).take k) k'):=h'd (by
    intro k'
    rw[htk.out]
    have hr:=(nodesG_ok S).rise
    rw[←hs1] at hr
    have e:=atN_snoc hr hsk (by rw[htk.out]) k'
    rw[htk.out] at e
    exact e)
   rcases hkd with rfl | rfl
   ·go_upto_region 9 with fail
    have k10:=Blk.new w6 63 #[.bool false,.int .u32 h3,.int .u32 0,.int .u8 0,.int .u8 bd.flags,.slice none 0 0,.slice none 0 0]
    have hB7:Below w6.heap.size w6 (w6.alloc (.cells #[.bool false,.int .u32 h3,.int .u32 0,.int .u8 0,.int .u8 bd.flags,.slice none 0 0,.slice none 0 0] 63)):=(b'r _ _).alloc (n'r _) _
    generalize w6.alloc (.cells #[.bool false,.int .u32 h3,.int .u32 0,.int .u8 0,.int .u8 bd.flags,.slice none 0 0,.slice none 0 0] 63)=w7 at k10 hB7 ⊢
    obtain ⟨g10,hg10⟩:∃ x,x=w6.heap.size:=⟨_,rfl⟩
    rw[←hg10] at k10 ⊢
    replace hg10:=h'd hg10
    have n0:=k10.cell 0
    simp only[q'a,q'z] at n0
    go_upto_region 11 with fail
    clear n0
    have hI7:=hI6.call hB7
    have k87:=k8.below hB7 hz8
    have hA17:=own_below hA16 hB7
    have hA27:=own_below hA26 hB7
    have n0:=k10.cell 0
    have n1:=k10.cell 1
    have g0:=hI7.box.cell 0
    simp only[q'a,q'z,q's] at n0 n1 g0
    obtain ⟨D,nn,hown,hM,hnn⟩:=hI7.map
    have hM:=h'd hM
    have hn8:=blk_ne_map k87 hown
    have hn10:=blk_ne_map k10 hown
    have hff:∀ k',atN ((sOf out).take (k+1)) k'=if k'=(false,h3) then some k else atN ((sOf out).take k) k':=hat.out
    go_upto_region 12 with (at_mapUpdate;refine wpList_put_at rfl _ _ _ rfl mb nn D (atN ((sOf out).take k)) (atN ((sOf out).take (k+1))) rfl hown hM.out (by simp only[maxLen];omega) (false,h3) hki rfl k (by omega) rfl hff ?_;intro w8 D8 hown8 hM8 hg8)
    have hI8:=hI7.put ⟨D8,nn+1,hown8,hM8,by omega⟩ hg8
    have k88:=Blk.same k87 (hg8.block g8 k87.lt fun e=>hn8 (o'i e))
    have k108:=Blk.same k10 (hg8.block g10 k10.lt fun e=>hn10 (o'i e))
    have hA18:=own_put hA17 hown hg8
    have hA28:=own_put hA27 hown hg8
    clear hI7 k87 k10 hA17 hA27 n0 n1 g0 hown hM hff hown8 hM8 hg8
    have g1:=hI8.box.cell 1
    simp only[q'a,q'z,q's] at g1
    obtain ⟨-,bA,bc,hbv,-⟩:=id (Sl.of_own hI8.bods)
    subst hbv
    have hxl:=hI8.bod
    have hxl2:xs.length≤100000:=by
     have:=congrArg List.length hxl
     simp only[List.length_map,List.length_take] at this
     omega
    have hz8':=hI8.below.size
    go_upto_region 13 with (first
     | (refine wpList_load_row rfl 81 (.tmp 8) rfl g8 rfl 81 #[.int .u8 bd.flags,.slice A1 bd.links.length c1,.int .u32 bd.mask,.slice A2 bd.routers.length c2,.int .u32 bd.metric,.bool bd.t2,.int .u32 bd.fw,.int .u32 bd.tg,.slice A3 bd.data.length c3] (0,0) _ k88 Tryz.underlying81 rfl (by kernel_rfl) ?_)
     | (at_builtin;refine wpList_append rfl (.tmp 58) (.tmp 60) 75 rfl w.heap.size bodT (.slice bA xs.length bc) xs.length (xs.flatMap bodL) rfl (own_alloc hI8.bods _) _ _ 1 [.int .u8 bd.flags,.slice A1 bd.links.length c1,.int .u32 bd.mask,.slice A2 bd.routers.length c2,.int .u32 bd.metric,.bool bd.t2,.int .u32 bd.fw,.int .u32 bd.tg,.slice A3 bd.data.length c3] rfl (Sl.lit w8 #[.int .u8 bd.flags,.slice A1 bd.links.length c1,.int .u32 bd.mask,.slice A2 bd.routers.length c2,.int .u32 bd.metric,.bool bd.t2,.int .u32 bd.fw,.int .u32 bd.tg,.slice A3 bd.data.length c3] 81 (by simp[maxLen]) rfl) (by simp[Value.oneCell']) (by simp only[maxLen];omega) (by omega) (by simp;omega) ?_;intro v9 w9 ho9 hg9 hob9;obtain ⟨-,vA,vc,rfl,-⟩:=id (Sl.of_own ho9);have gb:=blk_grown (hI8.alloc _).box (own_alloc hI8.bods _) hg9 (by decide);have gf:=gb.free 1;have gc:=gb.cell 1;simp only[q'a,q'z,q's] at gc))
    have hI10:=(hI8.alloc (.cells #[.int .u8 bd.flags,.slice A1 bd.links.length c1,.int .u32 bd.mask,.slice A2 bd.routers.length c2,.int .u32 bd.metric,.bool bd.t2,.int .u32 bd.fw,.int .u32 bd.tg,.slice A3 bd.data.length c3] 81)).body (x:=⟨A1,c1,A2,c2,A3,c3,bd⟩) (bv':=.slice vA (xs.length+1) vc) (by rw[l'a,List.flatMap_append];exact ho9) hg9 (own_less (own_alloc hA18 _) hz4) (own_less (own_alloc hA28 _) hz4) (fun g hg e=>by have h1:=(hA28.lt g hg).1;have h2:=hid4 g e;omega)
     (by rw[List.map_append,hxl,htk.out,List.map_append];show _++[bd]=_++[bodyG (yG (⟨⟨h0,h1,((1:Nat):Int),h3,h4,h5,h6,h7⟩,xA,body.length,xc⟩,body))];rw[hbd0.out])
    have hne10:g10≠mb+1:=by have:=hg10.out;omega
    have k1010:=(blk_grown (k108.alloc _) (own_alloc hI8.bods _) hg9 (by decide)).far (p:=⟨mb+1,1,none⟩) hne10 (.slice vA (xs.length+1) vc)
    clear hI8 k88 k108 gb gf gc ho9 hg9 hob9 hA18 hA28 hxl g1 hz8'
    generalize w9.setCell ⟨mb+1,1,none⟩ (.slice vA (xs.length+1) vc)=w10 at hI10 k1010 ⊢
    obtain ⟨-,iA,ic,hiv,-⟩:=id (Sl.of_own hI10.ids)
    subst hiv
    have hkb:((sOf out).take k).length≤100000:=by rw[List.length_take];omega
    have g2:=hI10.box.cell 2
    have n1:=k1010.cell 1
    simp only[q'a,q'z,q's] at g2 n1
    have hz10:=hI10.below.size
    have hids:=hI10.ids
    have hnods:=hI10.nods
    generalize hN:((sOf out).take k).length=N at *
    replace hN:=h'd hN
    go_upto_region 14 with (first
     | (at_builtin;refine wpList_append rfl (.tmp 64) (.tmp 67) 76 rfl w.heap.size wordT (.slice iA N ic) N _ rfl (own_alloc hids _) _ _ 1 [.int .u32 h3] rfl (Sl.lit w10 #[.int .u32 h3] 23 (by simp[maxLen]) rfl) (by simp[Value.oneCell']) (by simp only[maxLen];omega) (by omega) (by simp;omega) ?_;intro v11 w11 ho11 hg11 hob11;obtain ⟨-,uA,uc,rfl,-⟩:=id (Sl.of_own ho11);have gb:=blk_grown (hI10.alloc _).box (own_alloc hids _) hg11 (by decide);have gf:=gb.free 2;have gc:=gb.cell 2;simp only[q'a,q'z,q's] at gc)
     | fail)
    have hI12:=(hI10.alloc (.cells #[.int .u32 h3] 23)).id_ (iv':=.slice uA (N+1) uc) (by rw[htk.out,l'a,List.map_append,List.map_append,hN.out];exact ho11) hg11 hob11
    have k1012:=(blk_grown (k1010.alloc _) (own_alloc hids _) hg11 (by decide)).far (p:=⟨mb+1,2,none⟩) hne10 (.slice uA (N+1) uc)
    have hnods12:=own_two (own_alloc hnods _) (own_alloc hids _) hg11 (by decide) (hI10.alloc _).box (by decide) 2 (.slice uA (N+1) uc)
    clear hI10 k1010 gb gf gc ho11 hg11 hob11 hids hnods g2 n1 hz10
    generalize w11.setCell ⟨mb+1,2,none⟩ (.slice uA (N+1) uc)=w12 at hI12 k1012 hnods12 ⊢
    have hz12:=hI12.below.size
    have hnode:nodC (bareR (yG (⟨⟨h0,h1,((1:Nat):Int),h3,h4,h5,h6,h7⟩,xA,body.length,xc⟩,body)))=[.bool false,.int .u32 h3,.int .u32 0,.int .u8 0,.int .u8 bd.flags,.slice none 0 0,.slice none 0 0]:=by
     show [Value.bool false,.int .u32 h3,.int .u32 0,.int .u8 0,.int .u8 (bodyG (yG (⟨⟨h0,h1,((1:Nat):Int),h3,h4,h5,h6,h7⟩,xA,body.length,xc⟩,body))).flags,.slice none 0 0,.slice none 0 0]=_
     rw[hbd0.out]
    replace hnode:=h'd hnode
    go_wp2_with (first
     | (refine wpList_load_row rfl 63 (.tmp 10) rfl g10 rfl 63 #[.bool false,.int .u32 h3,.int .u32 0,.int .u8 0,.int .u8 bd.flags,.slice none 0 0,.slice none 0 0] (0,0) _ k1012 Tryz.underlying63 rfl (by kernel_rfl) ?_)
     | (at_builtin;refine wpList_append rfl (.tmp 70) (.tmp 72) 27 rfl w.heap.size nodT u5 N _ rfl (own_alloc hnods12 _) _ _ 1 [.bool false,.int .u32 h3,.int .u32 0,.int .u8 0,.int .u8 bd.flags,.slice none 0 0,.slice none 0 0] rfl (Sl.lit w12 #[.bool false,.int .u32 h3,.int .u32 0,.int .u8 0,.int .u8 bd.flags,.slice none 0 0,.slice none 0 0] 63 (by simp[maxLen]) rfl) (by simp[Value.oneCell']) (by simp only[maxLen];omega) (by omega) (by simp;omega) ?_;intro v13 w13 ho13 hg13 hob13)
     | fail)
    go_roundg (out.length-(k+1))
    case measure=>omega
    case rel =>
     refine ⟨k+1,_,_,_,by omega,rfl,by go_num,(hI12.alloc _).node ?_ hg13⟩
     rw[htk.out,l'a,List.map_append,List.flatMap_append,hN.out]
     show w13.ownsRow _ _ _ _ (N+1) (_++(nodC (bareR (yG (⟨⟨h0,h1,((1:Nat):Int),h3,h4,h5,h6,h7⟩,xA,body.length,xc⟩,body)))++[]))
     rw[hnode.out,List.append_nil]
     exact ho13
   ·go_upto_region 9 with fail
    have k10:=Blk.new w6 63 #[.bool true,.int .u32 h3,.int .u32 0,.int .u8 0,.int .u8 bd.flags,.slice none 0 0,.slice none 0 0]
    have hB7:Below w6.heap.size w6 (w6.alloc (.cells #[.bool true,.int .u32 h3,.int .u32 0,.int .u8 0,.int .u8 bd.flags,.slice none 0 0,.slice none 0 0] 63)):=(b'r _ _).alloc (n'r _) _
    have k87:=k8.below hB7 hz8
    generalize w6.alloc (.cells #[.bool true,.int .u32 h3,.int .u32 0,.int .u8 0,.int .u8 bd.flags,.slice none 0 0,.slice none 0 0] 63)=w6b at k10 hB7 k87 ⊢
    obtain ⟨g10,hg10⟩:∃ x,x=w6.heap.size:=⟨_,rfl⟩
    rw[←hg10] at k10 ⊢
    replace hg10:=h'd hg10
    have n0:=k10.cell 0
    have n1:=k10.cell 1
    have m2:=k87.cell 2
    simp only[q'a,q'z,q's] at n0 n1 m2
    have CP:=pre_any h3 bd.mask w6b
    obtain ⟨na,hna⟩:∃ x,x=bits BinOp.and IntKind.u32 h3 bd.mask:=⟨_,rfl⟩
    obtain ⟨nb,hnb⟩:∃ x,x=bitsV bd.mask:=⟨_,rfl⟩
    rw[←hna,←hnb] at CP
    replace CP:=h'd CP
    replace hna:=h'd hna
    replace hnb:=h'd hnb
    go_upto_region 10 with fail
    go_upto_region 11 with (go_at_call 36;refine c'm CP.out ?_;rintro e w6c ⟨rfl,hBc⟩;have k10c:=k10.below hBc k10.lt;have d2:=k10c.cell 2;have d3:=k10c.cell 3;have f2:=k10c.free 2;have f3:=k10c.free 3;simp only[q'a,q'z,q's] at d2 d3)
    have hg6:w6.heap.size≤g10:=by rw[hg10.out];exact n'r _
    have hB7:=((hB7.trans (hBc.mono hB7.size)).setCell (p:=⟨g10,2,none⟩) hg6 (.int .u32 na)).setCell (p:=⟨g10,3,none⟩) hg6 (.int .u8 nb)
    have k10:=(k10c.set_ 2 (.int .u32 na)).set_ 3 (.int .u8 nb)
    simp only[s'a,s'z,s's] at k10
    clear d2 d3 f2 f3 k10c hBc CP k87 n0 n1 m2
    generalize (w6c.setCell ⟨g10,2,none⟩ (.int .u32 na)).setCell ⟨g10,3,none⟩ (.int .u8 nb)=w7 at k10 hB7 ⊢
    have hI7:=hI6.call hB7
    have k87:=k8.below hB7 hz8
    have hA17:=own_below hA16 hB7
    have hA27:=own_below hA26 hB7
    have n0:=k10.cell 0
    have n1:=k10.cell 1
    have g0:=hI7.box.cell 0
    simp only[q'a,q'z,q's] at n0 n1 g0
    obtain ⟨D,nn,hown,hM,hnn⟩:=hI7.map
    have hM:=h'd hM
    have hn8:=blk_ne_map k87 hown
    have hn10:=blk_ne_map k10 hown
    have hff:∀ k',atN ((sOf out).take (k+1)) k'=if k'=(true,h3) then some k else atN ((sOf out).take k) k':=hat.out
    go_upto_region 12 with (at_mapUpdate;refine wpList_put_at rfl _ _ _ rfl mb nn D (atN ((sOf out).take k)) (atN ((sOf out).take (k+1))) rfl hown hM.out (by simp only[maxLen];omega) (true,h3) hki rfl k (by omega) rfl hff ?_;intro w8 D8 hown8 hM8 hg8)
    have hI8:=hI7.put ⟨D8,nn+1,hown8,hM8,by omega⟩ hg8
    have k88:=Blk.same k87 (hg8.block g8 k87.lt fun e=>hn8 (o'i e))
    have k108:=Blk.same k10 (hg8.block g10 k10.lt fun e=>hn10 (o'i e))
    have hA18:=own_put hA17 hown hg8
    have hA28:=own_put hA27 hown hg8
    clear hI7 k87 k10 hA17 hA27 n0 n1 g0 hown hM hff hown8 hM8 hg8
    have g1:=hI8.box.cell 1
    simp only[q'a,q'z,q's] at g1
    obtain ⟨-,bA,bc,hbv,-⟩:=id (Sl.of_own hI8.bods)
    subst hbv
    have hxl:=hI8.bod
    have hxl2:xs.length≤100000:=by
     have:=congrArg List.length hxl
     simp only[List.length_map,List.length_take] at this
     omega
    have hz8':=hI8.below.size
    go_upto_region 13 with (first
     | (refine wpList_load_row rfl 81 (.tmp 8) rfl g8 rfl 81 #[.int .u8 bd.flags,.slice A1 bd.links.length c1,.int .u32 bd.mask,.slice A2 bd.routers.length c2,.int .u32 bd.metric,.bool bd.t2,.int .u32 bd.fw,.int .u32 bd.tg,.slice A3 bd.data.length c3] (0,0) _ k88 Tryz.underlying81 rfl (by kernel_rfl) ?_)
     | (at_builtin;refine wpList_append rfl (.tmp 58) (.tmp 60) 75 rfl w.heap.size bodT (.slice bA xs.length bc) xs.length (xs.flatMap bodL) rfl (own_alloc hI8.bods _) _ _ 1 [.int .u8 bd.flags,.slice A1 bd.links.length c1,.int .u32 bd.mask,.slice A2 bd.routers.length c2,.int .u32 bd.metric,.bool bd.t2,.int .u32 bd.fw,.int .u32 bd.tg,.slice A3 bd.data.length c3] rfl (Sl.lit w8 #[.int .u8 bd.flags,.slice A1 bd.links.length c1,.int .u32 bd.mask,.slice A2 bd.routers.length c2,.int .u32 bd.metric,.bool bd.t2,.int .u32 bd.fw,.int .u32 bd.tg,.slice A3 bd.data.length c3] 81 (by simp[maxLen]) rfl) (by simp[Value.oneCell']) (by simp only[maxLen];omega) (by omega) (by simp;omega) ?_;intro v9 w9 ho9 hg9 hob9;obtain ⟨-,vA,vc,rfl,-⟩:=id (Sl.of_own ho9);have gb:=blk_grown (hI8.alloc _).box (own_alloc hI8.bods _) hg9 (by decide);have gf:=gb.free 1;have gc:=gb.cell 1;simp only[q'a,q'z,q's] at gc))
    have hI10:=(hI8.alloc (.cells #[.int .u8 bd.flags,.slice A1 bd.links.length c1,.int .u32 bd.mask,.slice A2 bd.routers.length c2,.int .u32 bd.metric,.bool bd.t2,.int .u32 bd.fw,.int .u32 bd.tg,.slice A3 bd.data.length c3] 81)).body (x:=⟨A1,c1,A2,c2,A3,c3,bd⟩) (bv':=.slice vA (xs.length+1) vc) (by rw[l'a,List.flatMap_append];exact ho9) hg9 (own_less (own_alloc hA18 _) hz4) (own_less (own_alloc hA28 _) hz4) (fun g hg e=>by have h1:=(hA28.lt g hg).1;have h2:=hid4 g e;omega)
     (by rw[List.map_append,hxl,htk.out,List.map_append];show _++[bd]=_++[bodyG (yG (⟨⟨h0,h1,((2:Nat):Int),h3,h4,h5,h6,h7⟩,xA,body.length,xc⟩,body))];rw[hbd0.out])
    have hne10:g10≠mb+1:=by have:=hg10.out;omega
    have k1010:=(blk_grown (k108.alloc _) (own_alloc hI8.bods _) hg9 (by decide)).far (p:=⟨mb+1,1,none⟩) hne10 (.slice vA (xs.length+1) vc)
    clear hI8 k88 k108 gb gf gc ho9 hg9 hob9 hA18 hA28 hxl g1 hz8'
    generalize w9.setCell ⟨mb+1,1,none⟩ (.slice vA (xs.length+1) vc)=w10 at hI10 k1010 ⊢
    obtain ⟨-,iA,ic,hiv,-⟩:=id (Sl.of_own hI10.ids)
    subst hiv
    have hkb:((sOf out).take k).length≤100000:=by rw[List.length_take];omega
    have g2:=hI10.box.cell 2
    have n1:=k1010.cell 1
    simp only[q'a,q'z,q's] at g2 n1
    have hz10:=hI10.below.size
    have hids:=hI10.ids
    have hnods:=hI10.nods
    generalize hN:((sOf out).take k).length=N at *
    replace hN:=h'd hN
    go_upto_region 14 with (first
     | (at_builtin;refine wpList_append rfl (.tmp 64) (.tmp 67) 76 rfl w.heap.size wordT (.slice iA N ic) N _ rfl (own_alloc hids _) _ _ 1 [.int .u32 h3] rfl (Sl.lit w10 #[.int .u32 h3] 23 (by simp[maxLen]) rfl) (by simp[Value.oneCell']) (by simp only[maxLen];omega) (by omega) (by simp;omega) ?_;intro v11 w11 ho11 hg11 hob11;obtain ⟨-,uA,uc,rfl,-⟩:=id (Sl.of_own ho11);have gb:=blk_grown (hI10.alloc _).box (own_alloc hids _) hg11 (by decide);have gf:=gb.free 2;have gc:=gb.cell 2;simp only[q'a,q'z,q's] at gc)
     | fail)
    have hI12:=(hI10.alloc (.cells #[.int .u32 h3] 23)).id_ (iv':=.slice uA (N+1) uc) (by rw[htk.out,l'a,List.map_append,List.map_append,hN.out];exact ho11) hg11 hob11
    have k1012:=(blk_grown (k1010.alloc _) (own_alloc hids _) hg11 (by decide)).far (p:=⟨mb+1,2,none⟩) hne10 (.slice uA (N+1) uc)
    have hnods12:=own_two (own_alloc hnods _) (own_alloc hids _) hg11 (by decide) (hI10.alloc _).box (by decide) 2 (.slice uA (N+1) uc)
    clear hI10 k1010 gb gf gc ho11 hg11 hob11 hids hnods g2 n1 hz10
    generalize w11.setCell ⟨mb+1,2,none⟩ (.slice uA (N+1) uc)=w12 at hI12 k1012 hnods12 ⊢
    have hz12:=hI12.below.size
    have hnode:nodC (bareR (yG (⟨⟨h0,h1,((2:Nat):Int),h3,h4,h5,h6,h7⟩,xA,body.length,xc⟩,body)))=[.bool true,.int .u32 h3,.int .u32 na,.int .u8 nb,.int .u8 bd.flags,.slice none 0 0,.slice none 0 0]:=by
     show [Value.bool true,.int .u32 h3,.int .u32 (bits BinOp.and IntKind.u32 h3 (bodyG (yG (⟨⟨h0,h1,((2:Nat):Int),h3,h4,h5,h6,h7⟩,xA,body.length,xc⟩,body))).mask),.int .u8 (bitsV (bodyG (yG (⟨⟨h0,h1,((2:Nat):Int),h3,h4,h5,h6,h7⟩,xA,body.length,xc⟩,body))).mask),.int .u8 0,.slice none 0 0,.slice none 0 0]=_
     rw[hbd0.out,←hna.out,←hnb.out,hbf rfl]
    replace hnode:=h'd hnode
    go_wp2_with (first
     | (refine wpList_load_row rfl 63 (.tmp 10) rfl g10 rfl 63 #[.bool true,.int .u32 h3,.int .u32 na,.int .u8 nb,.int .u8 bd.flags,.slice none 0 0,.slice none 0 0] (0,0) _ k1012 Tryz.underlying63 rfl (by kernel_rfl) ?_)
     | (at_builtin;refine wpList_append rfl (.tmp 70) (.tmp 72) 27 rfl w.heap.size nodT u5 N _ rfl (own_alloc hnods12 _) _ _ 1 [.bool true,.int .u32 h3,.int .u32 na,.int .u8 nb,.int .u8 bd.flags,.slice none 0 0,.slice none 0 0] rfl (Sl.lit w12 #[.bool true,.int .u32 h3,.int .u32 na,.int .u8 nb,.int .u8 bd.flags,.slice none 0 0,.slice none 0 0] 63 (by simp[maxLen]) rfl) (by simp[Value.oneCell']) (by simp only[maxLen];omega) (by omega) (by simp;omega) ?_;intro v13 w13 ho13 hg13 hob13)
     | fail)
    go_roundg (out.length-(k+1))
    case measure=>omega
    case rel =>
     refine ⟨k+1,_,_,_,by omega,rfl,by go_num,(hI12.alloc _).node ?_ hg13⟩
     rw[htk.out,l'a,List.map_append,List.flatMap_append,hN.out]
     show w13.ownsRow _ _ _ _ (N+1) (_++(nodC (bareR (yG (⟨⟨h0,h1,((2:Nat):Int),h3,h4,h5,h6,h7⟩,xA,body.length,xc⟩,body)))++[]))
     rw[hnode.out,List.append_nil]
     exact ho13
  ·obtain rfl:k=out.length:=by omega
   have htake:(sOf out).take out.length=nodesG S:=by rw[List.take_of_length_le (by simp[sOf]),hs1]
   obtain ⟨D,nn,hown,hM,-⟩:=hI.map
   have hids:=hI.ids
   have hnods:=hI.nods
   have hbod:=hI.bod
   have HL:∀ z∈nodesG S,BodOk (bodyG z)∧(z.1.type=1∨z.1.type=2):=fun z hz=>by
    rw[←hs1,sOf_eq] at hz
    obtain ⟨y,hy,rfl⟩:=List.mem_map.1 hz
    exact ⟨bodyG_ok (HY y hy).ok (HY y hy).le,isG_kind (HY y hy).isg⟩
   have hLo:(nodesG S).length=out.length:=by rw[←hs1];simp[sOf]
   rw[htake] at hM hids hnods hbod
   obtain ⟨L,hL⟩:∃ L,L=nodesG S:=⟨_,rfl⟩
   rw[←hL] at hM hids hnods hbod HL hLo
   have hxb:∀ x∈xs,BodOk x.b:=fun x hx=>by
    have h1:x.b∈xs.map (·.b):=List.mem_map_of_mem hx
    rw[hbod] at h1
    obtain ⟨z,hz,e⟩:=List.mem_map.1 h1
    rw[←e]
    exact (HL z hz).1
   have hxl:xs.length=L.length:=by simpa using congrArg List.length hbod
   have hxi:∀ j (h1:j<xs.length) (h2:j<L.length),xs[j].b=bodyG L[j]:=fun j h1 h2=>by
    have:=congrArg (fun z=>z[j]?) hbod
    simpa[h1,h2] using this
   have hG0:GI w L mb (mb+1) 0 bv iv u5 xs (L.map bareR) w3:=by
    refine ⟨⟨⟨D,nn,hown,hM⟩,hI.bods,fun x hx=>⟨hI.links x hx,(hxb x hx).llen⟩,fun x hx=>⟨hI.routers x hx,(hxb x hx).rlen⟩,hids,hbod⟩,hI.box,by rw[List.length_map];exact hnods,by simp,fun j _ _ h=>(by omega),fun j h1 h2 _=>by simp,fun r hr => ?_,fun r hr => ?_,hI.below⟩
    ·obtain ⟨z,hz,rfl⟩:=List.mem_map.1 hr
     have e:(bareR z).n.edges=[]:=by unfold bareR bare;split <;> rfl
     rw[e]
     exact World.ownsRow_nil _ _ _ _
    ·obtain ⟨z,hz,rfl⟩:=List.mem_map.1 hr
     have e:(bareR z).n.stubs=[]:=by unfold bareR bare;split <;> rfl
     rw[e]
     exact World.ownsRow_nil _ _ _ _
   obtain ⟨-,nA,nc,hnv,-⟩:=id (Sl.of_own hnods)
   subst hnv
   have hbnd:L.length≤100000:=by omega
   clear hown hM hids hnods hI HY hs1 htake hol
   replace hLo:=h'd hLo
   replace hxl:=h'd hxl
   replace hbod:=h'd hbod
   replace hL:=h'd hL
   go_upto_region 17 with fail
   go_loopg [77] L.length (fun m ki wr=>∃ (k:Nat) (rows:List NodR),k≤L.length∧m=L.length-k∧ki=.int .i64 k∧GI w L mb (mb+1) k bv iv (.slice nA L.length nc) xs rows wr)
   case atStart=>exact ⟨0,_,Nat.zero_le _,rfl,rfl,hG0⟩
   case round =>
    clear hG0
    obtain ⟨k,rows,hk,rfl,rfl,hG⟩:=hrel
    obtain ⟨w4,rfl⟩:∃ x:World,x=wr:=⟨_,rfl⟩
    by_cases hkl:k<L.length
    ·have hkr:k<rows.length:=by rw[hG.len];exact hkl
     have hkx:k<xs.length:=by rw[hxl.out];exact hkl
     have ik:(k:Int)<(L.length:Int):=by omega
     obtain ⟨g,cap,hgv,hgb,hgl,hcell⟩:=hG.row hkr
     have hrl:=hG.len
     rw[hrl] at hgv
     simp only[Value.slice.injEq,true_and] at hgv
     obtain ⟨rfl,rfl⟩:=hgv
     have hrest:=hG.rest k hkr hkl (n'r _)
     obtain ⟨hbk,hkd⟩:=HL _ (g'm hkl)
     have hxk:=hxi k hkx hkl
     rw[hrest] at hcell
     have y0:=hcell 0 _ rfl
     rw[Nat.add_zero] at y0
     have hnb:=nodeG_bare L k L[k]
     have hWn:=wnetwork_any w.heap.size L mb bv iv xs
     have hWr:=wrouter_any w.heap.size L mb bv iv xs
     clear hcell
     obtain ⟨z,hz⟩:∃ z,z=L[k]:=⟨_,rfl⟩
     rw[←hz] at hrest hbk hkd hxk hnb y0
     have hWb:=hG.web
     have hbx:=hG.box
     have hno:=hG.nods
     rw[hrl] at hno
     have hle:=hG.below.size
     have hkx7:k*7+6<L.length*7:=by omega
     rcases hkd with hk1 | hk2
     ·have eb:bare z=⟨false,z.1.id,0,0,(bodyG z).flags,[],[]⟩:=by unfold bare;rw[if_neg (by rw[hk1];decide)]
      rw[if_neg (by rw[hk1];decide)] at hnb
      have y0':w4.cell? ⟨g,k*7,none⟩=some (.bool false):=by rw[y0];show some (Value.bool (bare z).network)=_;rw[eb]
      have CW:=hWr w4 hWb k hkx hkl (by rw[hxk];exact hbk.links)
      rw[hxk,←hz] at CW
      replace CW:=h'd CW
      clear hWn hWr y0
      go_upto_region 21 with fail
      go_wp2_with (first
       | (refine wpList_load_row rfl 78 (.tmp 4) rfl (mb+1) rfl 78 #[.map (some mb),bv,iv] (0,0) _ hbx Tryz.underlying78 rfl (by kernel_rfl) ?_)
       | (go_at_call 38;refine c'm CW.out ?_;rintro e w5 ⟨v,u,es,ss,rfl,hes,hss,hoe,hos,hB5⟩;replace hes:=h'd hes;replace hss:=h'd hss;obtain ⟨-,eA,ec,rfl,-⟩:=id (Sl.of_own hoe);obtain ⟨-,sA,sc,rfl,-⟩:=id (Sl.of_own hos))
       | (refine wpList_store_own rfl 60 (.tmp 103) (.tmp 100) rfl (k:=k*7+5) [.slice eA es.length ec] rfl rfl (own_below hno hB5) rfl (by kernel_rfl) (by simp[Value.oneCell']) (by simp;omega) ?_;intro w6 ho6 hg6)
       | (refine wpList_store_own rfl 61 (.tmp 105) (.tmp 101) rfl (k:=k*7+6) [.slice sA ss.length sc] rfl rfl ho6 rfl (by kernel_rfl) (by simp[Value.oneCell']) (by simp;omega) ?_;intro w7 ho7 hg7)
       | fail)
      go_roundg (L.length-(k+1))
      case measure=>omega
      case rel =>
       have hG5:=hG.call hB5
       have e1:=splice_in nodC_len 5 (.slice eA es.length ec) (by omega) rows k hkr ⟨{ bare z with edges:=es,stubs:=ss },.slice eA es.length ec,.slice none 0 0⟩ (by rw[hrest];rfl)
       have e2:=splice_in nodC_len 6 (.slice sA ss.length sc) (by omega) (rows.set k ⟨{ bare z with edges:=es,stubs:=ss },.slice eA es.length ec,.slice none 0 0⟩) k (by simpa using hkr) ⟨{ bare z with edges:=es,stubs:=ss },.slice eA es.length ec,.slice sA ss.length sc⟩ (by rw[List.getElem_set_self];rfl)
       rw[e1,e2,List.set_set] at ho7
       refine ⟨k+1,_,by omega,rfl,by go_num,hG5.turn (by rw[hrl]) hkl (by rw[hrl];exact ho7) (grown_trans hg6 hg7) ?_ (own_less hoe hle) (own_less hos hle)⟩
       rw[←hz,hnb,←hes.out,←hss.out]
     ·have eb:bare z=⟨true,z.1.id,bits BinOp.and IntKind.u32 z.1.id (bodyG z).mask,bitsV (bodyG z).mask,0,[],[]⟩:=by unfold bare;rw[if_pos hk2]
      rw[if_pos hk2] at hnb
      have y0':w4.cell? ⟨g,k*7,none⟩=some (.bool true):=by rw[y0];show some (Value.bool (bare z).network)=_;rw[eb]
      have CW:=hWn w4 hWb k hkx (by rw[hxk];exact hbk.routers) hkl
      rw[hxk,←hz] at CW
      replace CW:=h'd CW
      clear hWn hWr y0
      go_upto_region 20 with fail
      go_wp2_with (first
       | (refine wpList_load_row rfl 78 (.tmp 4) rfl (mb+1) rfl 78 #[.map (some mb),bv,iv] (0,0) _ hbx Tryz.underlying78 rfl (by kernel_rfl) ?_)
       | (go_at_call 37;refine c'm CW.out ?_;rintro e w5 ⟨v,es,rfl,hes,hoe,hB5⟩;replace hes:=h'd hes;obtain ⟨-,eA,ec,rfl,-⟩:=id (Sl.of_own hoe))
       | (refine wpList_store_own rfl 60 (.tmp 91) (.tmp 89) rfl (k:=k*7+5) [.slice eA es.length ec] rfl rfl (own_below hno hB5) rfl (by kernel_rfl) (by simp[Value.oneCell']) (by simp;omega) ?_;intro w6 ho6 hg6)
       | fail)
      go_roundg (L.length-(k+1))
      case measure=>omega
      case rel =>
       have hG5:=hG.call hB5
       have e1:=splice_in nodC_len 5 (.slice eA es.length ec) (by omega) rows k hkr ⟨{ bare z with edges:=es },.slice eA es.length ec,.slice none 0 0⟩ (by rw[hrest];rfl)
       rw[e1] at ho6
       refine ⟨k+1,_,by omega,rfl,by go_num,hG5.turn (by rw[hrl]) hkl (by rw[hrl];exact ho6) hg6 ?_ (own_less hoe hle) ?_⟩
       ·rw[←hz,hnb,←hes.out]
       ·show w5.ownsRow _ _ _ _ (bare z).stubs.length ((bare z).stubs.flatMap stubC)
        rw[eb]
        exact World.ownsRow_nil _ _ _ _
    ·obtain rfl:k=L.length:=by omega
     obtain ⟨hfo,hfn⟩:=hG.fin rfl
     rw[hL.out] at hfn
     have hfl:=hG.below
     clear hG
     go_wp2
     go_ret
     exact ⟨_,rows,rfl,hfo,hfn,hfl⟩
end Go.Proofs.YtcknpofnpabkiaaGreat
