/- inner's map of ways, in plain words: the best way to each place. No theorem of the program stands here but that a place is a key. -/
import Derived.Maps.OwnOps
import Derived.Maps.OwnSet
import Derived.DeepKeys4
import Derived.RangeFuncNested
import Derived.RangeFuncBound
import Derived.RangeFuncCalls
import Derived.RangeFuncLeaves
import Derived.Test.YtcknpofnpabkiaaGreatRpAH
import Derived.Test.YtcknpofnpabkiaaGreatRpAA
namespace Go.Proofs.YtcknpofnpabkiaaGreat
open Go.RowKit Go.Lo Go.Maps
abbrev WayG:=WayN × List Hop
structure WaysIn (w:World) (B:Nat) (lv:Value) (R:List WayG) (l:List WayV):Prop where
 sl:Sl w B 10 lv l.length (l.flatMap wayL)
 map:l.map (·.n)=R.map (·.1)
 hops:∀ k (h:k<l.length) (h2:k<R.length),Sl w B 3 (.slice l[k].A l[k].len l[k].cap) R[k].2.length (R[k].2.flatMap hopCells)
theorem WaysIn.len {w:World} {B:Nat} {lv:Value} {R:List WayG} {l:List WayV} (h:WaysIn w B lv R l):l.length=R.length:=by
 have:=congrArg List.length h.map
 simpa using this
theorem WaysIn.below {w w':World} {B:Nat} {lv:Value} {R:List WayG} {l:List WayV} (h:WaysIn w B lv R l) (hb:Below B w w'):WaysIn w' B lv R l:=⟨h.sl.below hb,h.map,fun k h1 h2=>(h.hops k h1 h2).below hb⟩
abbrev WayY:=WayV × List Hop
structure HopsAt (x:WayY) (W:World):Prop where
 sl:Sl W W.heap.size 3 (.slice x.1.A x.1.len x.1.cap) x.2.length (x.2.flatMap hopCells)
 ty:∀ ad,x.1.A=some ad→∃ cs z,W.heap[ad.block]?=some (.cells cs 56 z)
theorem hopsAt_own (B:Nat):OwnFrom B HopsAt:=fun s W W' row hs hg hr=>by
 obtain ⟨⟨h1,A,c,hv,h2,h3,h4⟩,h5⟩:=hs
 refine ⟨⟨h1,A,c,hv,h2,h3,fun hn => ?_⟩,fun ad hA => ?_⟩
 ·obtain ⟨b,off,hA,hb,hc⟩:=h4 hn
  exact ⟨b,off,hA,Nat.lt_of_lt_of_le hb hg.size,fun j u hu=>cell_kept (hc j u hu) hg fun r e=>(hr r e).2⟩
 ·obtain ⟨cs,z,h6⟩:=h5 ad hA
  refine ⟨cs,z,(hg.block _ (Array.getElem?_eq_some_iff.1 h6).1 fun e => ?_).trans h6⟩
  obtain ⟨_,o,h7,h8⟩:=hr _ e.symm
  rw[h6] at h7
  cases h7
  cases h8
theorem HopsAt.call {x:WayY} {W W':World} (h:HopsAt x W) (hb:Below W.heap.size W W'):HopsAt x W':=⟨(h.sl.below hb).more hb.size,fun ad hA=>by
 obtain ⟨cs,z,h6⟩:=h.ty ad hA
 exact ⟨cs,z,(hb.block _ (Array.getElem?_eq_some_iff.1 h6).1).trans h6⟩⟩
theorem far_grown (w:World) (p:Addr) (u:Value):w.grownBy (w.setCell p u) (some p.block):=⟨(b'r _ _).setCell (n'r _) u |>.os,(b'r _ _).setCell (n'r _) u |>.tape,(b'r _ _).setCell (n'r _) u |>.output,(b'r p.block w).setCell (n'r _) u |>.size,fun k _ hk=>Below.heap_setCell _ _ _ k fun e=>hk (by rw[e])⟩
theorem HopsAt.set {x:WayY} {W:World} (h:HopsAt x W) {p:Addr} {t:TypeId} {cs:Array Value} (k:Blk W p.block t cs) (ht:t≠56) (u:Value):HopsAt x (W.setCell p u):=by
 obtain ⟨⟨h1,A,c,hv,h2,h3,h4⟩,h5⟩:=h
 have hg:=far_grown W p u
 have hne:∀ ad,x.1.A=some ad→some ad.block≠some p.block:=fun ad hA e=>by
  obtain ⟨ds,z,h6⟩:=h5 ad hA
  simp only[o'j] at e
  rw[e,k] at h6
  simp only[o'j,Obj.cells.injEq] at h6
  exact ht h6.2.1
 refine ⟨⟨h1,A,c,hv,h2,h3,fun hn => ?_⟩,fun ad hA => ?_⟩
 ·obtain ⟨b,off,hA,hb,hc⟩:=h4 hn
  have hA2:x.1.A=some ⟨b,off,none⟩:=by
   simp only[Value.slice.injEq] at hv
   rw[hv.1,hA]
  exact ⟨b,off,hA,Nat.lt_of_lt_of_le hb hg.size,fun j v hj=>(hg.cell_far ⟨b,off+j,none⟩ hb (hne ⟨b,off,none⟩ hA2)).trans (hc j v hj)⟩
 ·obtain ⟨ds,z,h6⟩:=h5 ad hA
  exact ⟨ds,z,(hg.block _ (Array.getElem?_eq_some_iff.1 h6).1 (hne _ hA)).trans h6⟩
theorem HopsAt.of_own {W:World} {B:Nat} {n:WayN} {A:Option Addr} {c:Nat} {hops:List Hop} (h:W.ownsRow B 56 3 (.slice A hops.length c) hops.length (hops.flatMap hopCells)):HopsAt (⟨n,A,hops.length,c⟩,hops) W:=⟨Sl.of_own h,fun ad hA=>by
 obtain ⟨-,⟨h1,h2⟩ | ⟨g,cap,cur,h1,hBg,hg,-⟩⟩:=id h
 ·simp only[Value.slice.injEq] at h1
  dsimp only at hA
  rw[h1.1] at hA
  cases hA
 ·simp only[Value.slice.injEq] at h1
  dsimp only at hA
  rw[h1.1] at hA
  cases hA
  exact ⟨cur,_,hg⟩⟩
def gOf (ys:List WayY):List WayG:=ys.map fun x=>(x.1.n,x.2)
theorem gOf_snoc (pre:List WayY) (x:WayY):gOf (pre++[x])=gOf pre++[(x.1.n,x.2)]:=by simp[gOf]
theorem laidOutI:laidOutB Tryz.prog=true:=by kernel_rfl
abbrev K3:=Int × Int × Int
def keyG (n:WayN):K3:=(n.addr,n.bits,n.router)
structure InK (k:K3):Prop where
 a:0≤k.1∧k.1<4294967296
 b:0≤k.2.1∧k.2.1<256
 r:0≤k.2.2∧k.2.2<4294967296
def klit (k:K3):Lit:=.string (keyBytes [.int .u32 k.1,.int .u8 k.2.1,.int .u32 k.2.2])
abbrev keyV (k:K3):Value:=.agg #[.int .u32 k.1,.int .u8 k.2.1,.int .u32 k.2.2]
theorem to_keyed:Keyed Tryz.prog 186:=Keyed.of_law (deep_law_laid laidOutI (m:=3) (by omega) (of_decide_eq_true (by kernel_rfl)) (by kernel_rfl) (by rw[Tryz.underlying186]))
theorem wf_u32 {a:Int} (h:0≤a∧a<4294967296):(Lit.int .u32 a).wf=true:=by
 have h1:IntKind.u32.min=0:=by decide
 have h2:IntKind.u32.max=4294967295:=by decide
 simp[Lit.wf,h1,h2]
 omega
theorem wf_u8 {a:Int} (h:0≤a∧a<256):(Lit.int .u8 a).wf=true:=by
 have h1:IntKind.u8.min=0:=by decide
 have h2:IntKind.u8.max=255:=by decide
 simp[Lit.wf,h1,h2]
 omega
theorem lits_pre (d:Nat) (a b:Int) (ha:0≤a∧a<4294967296) (hb:0≤b∧b<256):(Tryz.prog).keyLits (d+2) 45 [.int .u32 a,.int .u8 b]=some [.int .u32 a,.int .u8 b]:=by
 have c2:(Tryz.prog).cellsOf 45=2:=by kernel_rfl
 have c1:(Tryz.prog).cellsOf 23=1:=by kernel_rfl
 have c0:(Tryz.prog).cellsOf 5=1:=by kernel_rfl
 unfold Program.keyLits
 rw[Tryz.underlying45]
 simp only[c2]
 rw[if_pos ⟨rfl,by kernel_rfl⟩]
 simp[Program.keyLits,Tryz.underlying23,Tryz.underlying5,c1,c0,wf_u32 ha,wf_u8 hb]
theorem lits_to (d:Nat) (k:K3) (h:InK k):(Tryz.prog).keyLits (d+3) 186 [.int .u32 k.1,.int .u8 k.2.1,.int .u32 k.2.2]=some [.int .u32 k.1,.int .u8 k.2.1,.int .u32 k.2.2]:=by
 obtain ⟨a,b,r⟩:=k
 have c3:(Tryz.prog).cellsOf 186=3:=by kernel_rfl
 have c2:(Tryz.prog).cellsOf 45=2:=by kernel_rfl
 have c1:(Tryz.prog).cellsOf 23=1:=by kernel_rfl
 have w3:=wf_u32 h.r
 have hp:=lits_pre d a b h.a h.b
 have hr:(Tryz.prog).keyLits (d+2) 23 [.int .u32 r]=some [.int .u32 r]:=by
  simp only at w3
  simp[Program.keyLits,Tryz.underlying23,w3]
 rw[show d+3=(d+2)+1 from rfl]
 unfold Program.keyLits
 rw[Tryz.underlying186]
 simp only[c3]
 rw[if_pos ⟨rfl,by kernel_rfl⟩]
 simp[c2,c1,hp,hr]
theorem types_many:∃ d,(Tryz.prog).types.size+1=d+3:=by
 have h1:Nat.ble 2 (Tryz.prog).types.size=true:=by kernel_rfl
 have h2:=Nat.le_of_ble_eq_true h1
 exact ⟨(Tryz.prog).types.size-2,by omega⟩
theorem key_to (k:K3) (h:InK k):keyOf Tryz.prog 186 (keyV k)=some (klit k):=by
 have e1:((Tryz.prog).keyType 186 && (keyV k).formed Tryz.prog 186)=true:=by kernel_rfl
 obtain ⟨d,e2⟩:=types_many
 unfold keyOf
 rw[Tryz.underlying186]
 simp only[e1,if_true,e2,Value.cells]
 rw[lits_to d k h]
 rfl
theorem klit_inj {k k':K3} (h:InK k) (h':InK k') (e:klit k=klit k'):k=k':=by
 have:=to_keyed.inj (key_to k h) (by rw[e];exact key_to k' h')
 obtain ⟨a,b,r⟩:=k
 obtain ⟨a',b',r'⟩:=k'
 simpa using this
theorem klit_key (k:K3) (h:InK k):WideAt.IsKeyLit (klit k):=to_keyed.key (key_to k h)
def bestStep (o:Option WayG) (g:WayG):WayG:=
 match o with
 | none=>g
 | some o=>if g.1.cost<o.1.cost then g else if o.1.cost<g.1.cost then o else (o.1,puts (puts [] o.2) g.2)
def bestF (gs:List WayG):K3→Option WayG:=gs.foldl (fun f g k=>if k=keyG g.1 then some (bestStep (f k) g) else f k) (fun _=>none)
theorem bestF_snoc (gs:List WayG) (g:WayG) (k:K3):bestF (gs++[g]) k=if k=keyG g.1 then some (bestStep (bestF gs k) g) else bestF gs k:=by
 unfold bestF
 rw[List.foldl_append]
 rfl
theorem bestF_ind (p:List WayG→(K3→Option WayG)→Prop) (h0:p [] (fun _=>none)) (h1:∀ gs g,p gs (bestF gs)→p (gs++[g]) (bestF (gs++[g]))):∀ gs,p gs (bestF gs):=by
 intro gs
 have:∀ n,∀ gs:List WayG,gs.length=n→p gs (bestF gs):=by
  intro n
  induction n with
  | zero=>intro gs hg;obtain rfl:=List.eq_nil_of_length_eq_zero hg;exact h0
  | succ n ih =>
   intro gs hg
   obtain ⟨l,g,rfl⟩:∃ l g,gs=l++[g]:=⟨gs.dropLast,gs.getLast (fun e=>by rw[e] at hg;cases hg),(List.dropLast_concat_getLast _).symm⟩
   exact h1 l g (ih l (by simpa using hg))
 exact this _ gs rfl
theorem bestStep_key (o:Option WayG) (g:WayG) (ho:∀ x,o=some x→keyG x.1=keyG g.1):keyG (bestStep o g).1=keyG g.1:=by
 unfold bestStep
 cases o with
 | none=>rfl
 | some o =>
  simp only
  split
  ·rfl
  ·split
   ·exact ho o rfl
   ·exact ho o rfl
theorem bestF_key (gs:List WayG):∀ k o,bestF gs k=some o→keyG o.1=k:=bestF_ind (fun _ f=>∀ k o,f k=some o→keyG o.1=k) (fun _ _ h=>by cases h) (fun gs g ih k o h=>by
 rw[bestF_snoc] at h
 split at h
 ·rename_i hk
  simp only[o'j] at h
  rw[←h,bestStep_key _ _ fun x hx=>by rw[ih k x hx,hk],hk]
 ·exact ih k o h) gs
abbrev rawR (v:Value):Option (DataW Value × List MemPlace):=some (.held v,[])
structure MapOk (W:World) (D:DataW Value) (f:K3→Option WayG):Prop where
 none_:∀ k,InK k→f k=none→Maps.has D (klit k)=false∧∀ z,D.atKey (klit k) z=z
 some_:∀ k g,InK k→f k=some g→∃ x:WayV,x.n=g.1∧HopsAt (x,g.2) W∧Maps.has D (klit k)=true∧∀ z,D.atKey (klit k) z=.held (.agg x.cells)
 ink:∀ k g,f k=some g→InK k
 all:∀ l,Maps.has D l=true→∃ k g,f k=some g∧l=klit k
theorem MapOk.move {W W':World} {D:DataW Value} {f:K3→Option WayG} (h:MapOk W D f) (hH:∀ x,HopsAt x W→HopsAt x W'):MapOk W' D f:=
 ⟨h.none_,fun k g hk hg=>by
  obtain ⟨x,h1,h2,h3⟩:=h.some_ k g hk hg
  exact ⟨x,h1,hH _ h2,h3⟩,h.ink,h.all⟩
theorem MapOk.start (W:World):MapOk W (.map []) (bestF []):=
 ⟨fun _ _ _=>⟨rfl,fun _=>rfl⟩,fun _ _ _ h=>(by cases h),fun _ _ h=>(by cases h),fun l h=>(by cases h)⟩
theorem MapOk.put {W:World} {D:DataW Value} {f f':K3→Option WayG} (h:MapOk W D f) (hD:IsMap D) (k:K3) (hk:InK k) (x:WayV) (hops:List Hop) (hH:HopsAt (x,hops) W) (hf:∀ k',f' k'=if k'=k then some (x.n,hops) else f k'):MapOk W (D.put (klit k) (.held (.agg x.cells))) f':=by
 refine ⟨fun k' hk' h0 => ?_,fun k' g hk' hg => ?_,fun k' g hg => ?_,fun l hl => ?_⟩
 ·rw[hf] at h0
  split at h0
  ·cases h0
  ·rename_i hne
   have hlne:klit k'≠klit k:=fun e=>hne (klit_inj hk' hk e)
   obtain ⟨h1,h2⟩:=h.none_ k' hk' h0
   exact ⟨by rw[has_put_other hlne];exact h1,fun z=>by rw[atKey_put_other hlne];exact h2 z⟩
 ·rw[hf] at hg
  split at hg
  ·rename_i he
   subst he
   simp only[o'j] at hg
   subst hg
   exact ⟨x,rfl,hH,has_put_same hD (klit_key _ hk) _,fun z=>atKey_put_same hD (klit_key _ hk) _ z⟩
  ·rename_i hne
   have hlne:klit k'≠klit k:=fun e=>hne (klit_inj hk' hk e)
   obtain ⟨y,h1,h2,h3,h4⟩:=h.some_ k' g hk' hg
   exact ⟨y,h1,h2,by rw[has_put_other hlne];exact h3,fun z=>by rw[atKey_put_other hlne];exact h4 z⟩
 ·rw[hf] at hg
  split at hg
  ·rename_i he;rw[he];exact hk
  ·exact h.ink k' g hg
 ·by_cases he:l=klit k
  ·exact ⟨k,(x.n,hops),by rw[hf,if_pos rfl],he⟩
  ·rw[has_put_other he] at hl
   obtain ⟨k',g,h1,h2⟩:=h.all l hl
   refine ⟨k',g,?_,h2⟩
   rw[hf,if_neg (fun e=>he (by rw[h2,e]))]
   exact h1
def ltG (a b:WayG):Bool:=decide (keyCmp a.1 b.1<0)
structure OutF (f:K3→Option WayG) (out:List WayG):Prop where
 rise:out.Pairwise fun a b=>ltG a b=true
 is_:∀ x∈out,f (keyG x.1)=some x
 all:∀ k g,f k=some g→g∈out
theorem ltG_iff (x y:WayG):ltG x y=true↔(x.1.addr<y.1.addr∨(x.1.addr=y.1.addr∧(x.1.bits<y.1.bits∨(x.1.bits=y.1.bits∧x.1.router<y.1.router)))):=
 ltK_iff ⟨x.1,none,0,0⟩ ⟨y.1,none,0,0⟩
theorem ltK_tot {x y:WayV} (h:ltK y x=false) (hne:keyG x.n≠keyG y.n):ltG (x.n,[]) (y.n,[])=true:=by
 have h1:¬ _:=fun e=>by rw[(ltK_iff y x).2 e] at h;cases h
 rw[ltG_iff]
 have h2:¬ (x.n.addr=y.n.addr∧x.n.bits=y.n.bits∧x.n.router=y.n.router):=fun ⟨a,b,c⟩=>hne (by unfold keyG;rw[a,b,c])
 simp only
 omega
end Go.Proofs.YtcknpofnpabkiaaGreat
