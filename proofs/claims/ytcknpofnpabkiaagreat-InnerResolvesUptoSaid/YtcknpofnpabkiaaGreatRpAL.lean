/- What inner reads of its map of ways and writes into it. No walk stands here. -/
import Derived.Maps.OwnOps
import Derived.Maps.OwnSet
import Derived.Maps.RangeWalk
import Derived.Test.YtcknpofnpabkiaaGreatRpAI
namespace Go.Proofs.YtcknpofnpabkiaaGreat
open Go.RowKit Go.Lo Go.Maps
abbrev zWay:Value:=.agg #[.int .u32 0,.int .u8 0,.int .u32 0,.int .u8 0,.int .u8 0,.int .u32 0,.int .u32 0,.int .u32 0,.int .u32 0,.slice none 0 0]
theorem zWay_run (W:World):(zeroValue 48).run Tryz.prog W=.ok zWay W:=by kernel_rfl
section
variable {ops:Array Oper} {rest:List Oper} {o:Oper} {a:Act} {Q:Exit→Act→World→Prop} {w:World}
theorem wpList_lookup_way (hg:o.guard=none) (m x:Operand) (hop:o.op=Op.lookup 113 m x true) (b nn:Nat) (D:DataW Value) (f:K3→Option WayG)
  (hm:a.eval m=.map (some b)) (hown:w.ownsMap Tryz.prog 186 rawR b nn D) (hM:MapOk w D f) (k:K3) (hk:InK k) (hx:a.eval x=keyV k)
  (h0:f k=none→wpList Tryz.prog ops Q rest (a.put o.dst (.tuple #[zWay,.bool false])) w)
  (h1:∀ (y:WayV) (hops:List Hop),f k=some (y.n,hops)→HopsAt (y,hops) w→wpList Tryz.prog ops Q rest (a.put o.dst (.tuple #[.agg y.cells,.bool true])) w) :
  wpList Tryz.prog ops Q (o :: rest) a w:=by
 refine wpList_lookup_own_ok _ hg m x _ hop 186 48 to_keyed Tryz.underlying113 rawR (zWay_run _) (.held zWay) [] rfl b nn D hm hown _ _ hx (key_to k hk) ?_
 intro v ps hv
 simp only[rawR,o'j,Prod.mk.injEq] at hv
 obtain ⟨hv,-⟩:=hv
 cases hf:f k with
 | none =>
  obtain ⟨h2,h3⟩:=hM.none_ k hk hf
  rw[h3,DataW.held.injEq] at hv
  rw[hv,h2]
  exact h0 hf
 | some g =>
  obtain ⟨y,h2,h3,h4,h5⟩:=hM.some_ k g hk hf
  rw[h5,DataW.held.injEq] at hv
  rw[hv,h4]
  refine h1 y g.2 ?_ h3
  rw[hf,h2]
theorem wpList_put_way (hg:o.guard=none) (m x v:Operand) (hop:o.op=Op.mapUpdate 113 m x v) (b nn:Nat) (D:DataW Value) (f f':K3→Option WayG)
  (hm:a.eval m=.map (some b)) (hown:w.ownsMap Tryz.prog 186 rawR b nn D) (hM:MapOk w D f) (hn:nn<maxLen) (k:K3) (hk:InK k) (hx:a.eval x=keyV k) (y:WayV) (hops:List Hop) (hv:a.eval v=.agg y.cells) (hH:HopsAt (y,hops) w)
  (hf:∀ k',f' k'=if k'=k then some (y.n,hops) else f k')
  (hK:∀ w' D',w'.ownsMap Tryz.prog 186 rawR b (nn+1) D'→MapOk w' D' f'→w.grownBy w' (some b)→(∀ z,HopsAt z w→HopsAt z w')→wpList Tryz.prog ops Q rest (a.put o.dst undef) w') :
  wpList Tryz.prog ops Q (o :: rest) a w:=by
 refine wpList_mapUpdate_own _ hg m x v _ hop 186 48 to_keyed Tryz.underlying113 rawR b nn D hm hown hn _ _ _ hx hv (key_to k hk) _ [] rfl ?_
 intro w' h1 h2
 have hH2:∀ z,HopsAt z w→HopsAt z w':=fun z hz=>hopsAt_own 0 z w w' (some b) hz h2 (fun r hr=>⟨Nat.zero_le _,by
  obtain ⟨es,cl,h3,_⟩:=hown
  simp only[o'j] at hr
  subst hr
  exact ⟨_,h3,rfl⟩⟩)
 exact hK w' _ h1 ((hM.put hown.isMap k hk y hops hH hf).move hH2) h2 hH2
end
section
variable {ops:Array Oper} {rest:List Oper} {o:Oper} {a:Act} {Q:Exit→Act→World→Prop} {w:World}
theorem wpList_next_way (hg:o.guard=none) (it:Operand) (hop:o.op=Op.next it false) (b r n:Nat) (D:DataW Value) (left:Lit→Bool) (cnt:Nat) (f:K3→Option WayG)
  (hit:a.eval it=.pointer (some ⟨r,0,none⟩)) (h:w.ranges Tryz.prog 186 rawR b r n D left cnt) {W0:World} (hM:MapOk W0 D f) (hl:∀ kl,left kl=true→Maps.has D kl=true)
  (hDone:(∀ kl,left kl=false)→wpList Tryz.prog ops Q rest (a.put o.dst (.tuple #[.bool false])) w)
  (hMore:∀ (k:K3) (y:WayV) (hops:List Hop) (w':World) (cnt':Nat),InK k→f k=some (y.n,hops)→HopsAt (y,hops) W0→left (klit k)=true→w'.ranges Tryz.prog 186 rawR b r n D (fun z=>left z && !z.sameKey (klit k)) cnt'→cnt'<cnt →
   w.grownBy w' (some r)→w'.heap.size=w.heap.size→(Instr.entry (.pointer (some ⟨r,0,none⟩))).run Tryz.prog w'=.ok (.tuple #[keyV k,.agg y.cells]) w'→wpList Tryz.prog ops Q rest (a.put o.dst (.tuple #[.bool true,keyV k,.agg y.cells])) w') :
  wpList Tryz.prog ops Q (o :: rest) a w:=by
 refine wpList_next_ranges _ hg it hop 186 to_keyed rawR (fun v:Value=>v) (fun v:Value=>v) (fun key kl _=>⟨key,rfl⟩) (fun v y _=>⟨v,rfl⟩) b r n D left cnt hit h (fun _=>hDone) ?_
 intro x c kl y w' cnt' hkey hlk hR hat hrg hlt hgr hsz hen
 obtain ⟨k,g,hf,rfl⟩:=hM.all kl (hl kl hlk)
 have hk:=hM.ink k g hf
 obtain ⟨z,h2,h3,h4,h5⟩:=hM.some_ k g hk hf
 simp only[rawR,o'j] at hR
 subst hR
 have hc:=hat (.held zWay)
 rw[h5,DataW.held.injEq] at hc
 have hx:x=keyV k:=to_keyed.inj hkey (key_to k hk)
 rw[hx,←hc] at hen ⊢
 exact hMore k z g.2 w' cnt' hk (by rw[hf,h2]) h3 hlk hrg hlt hgr hsz hen
end
theorem clear_own {H:Type} {P:Program} {k t:TypeId} {R:Value→Option (DataW H × List MemPlace)} {w:World} {b n:Nat} {D:DataW H} (h:w.ownsMap P k R b n D) {e:TypeId} (ht:P.underlying t=some (.map k e)) (ty:TypeId) :
  ∃ w',(Builtin.clear_ #[t] ty #[.map (some b)]).run P w=.ok (.tuple #[]) w'∧w'.ownsMap P k R b 0 (.map [])∧w.grownBy w' (some b):=by
 obtain ⟨es,clock,hb,F,hs,rfl⟩:=h
 have hrun:(Builtin.clear_ #[t] ty #[.map (some b)]).run P w=.ok (.tuple #[]) (ChangeMaps.setBlock w b (.map #[] clock)):=by
  simp[Builtin.clear_,run_underlying ht,MapKept.run_getObj_map hb,MapKept.run_setObj_map _ hb,Result.andThen,ChangeMaps.setBlock]
 exact ⟨_,hrun,⟨#[],clock,ChangeMaps.heap_setBlock_same hb _,⟨by simp,MapKept.stamped_empty clock,by simp⟩,n'r _,rfl⟩,⟨rfl,rfl,rfl,by simp[ChangeMaps.setBlock],fun i _ hi=>ChangeMaps.heap_setBlock_other hb _ (fun e=>hi (by rw[e]))⟩⟩
theorem wpList_clear_own {H:Type} {P:Program} {ops:Array Oper} {rest:List Oper} {o:Oper} {a:Act} {Q:Exit→Act→World→Prop} {w:World} (hg:o.guard=none) (m:Operand) (t:TypeId)
  (hop:o.op=Op.call { callee:=Callee.builtin Builtin.clear,args:=#[m],argTypes:=#[t] }) (k e:TypeId) (ht:P.underlying t=some (.map k e)) (R:Value→Option (DataW H × List MemPlace)) (b n:Nat) (D:DataW H)
  (hm:a.eval m=.map (some b)) (hown:w.ownsMap P k R b n D) (hK:∀ w',w'.ownsMap P k R b 0 (.map [])→w.grownBy w' (some b)→wpList P ops Q rest (a.put o.dst (.tuple #[])) w') :
  wpList P ops Q (o :: rest) a w:=by
 refine wpList_plain hg fun K' hK' => ?_
 obtain ⟨w',hrun,r1,r2⟩:=clear_own hown ht o.type
 unfold Oper.wp
 simp[execOp,hop,resolve,invoke,builtin,hm,hrun,Result.andThen]
 exact hK' _ _ (hK w' r1 r2)
end Go.Proofs.YtcknpofnpabkiaaGreat
