/- outer.Routes in general, where no forwarding address is met. Conditions: the states and the ways lie in memory. -/
import Derived.Test.YtiikagabdiphkaaGreatOnAP
import Derived.Test.YtiikagabdiphkaaGreatOnBD
import Derived.Test.YtiikagabdiphkaaGreatOnBE
import Derived.Test.YtiikagabdiphkaaGreatOnBH
set_option maxRecDepth 100000
namespace Go.Proofs.YtiikagabdiphkaaGreat
open Go.RowKit Go.Lo
def pickT (id:Int) (s:WayG × Bool) (x:WayG):WayG × Bool:=if countsR id x.1 && (!s.2 || nearer x.1 s.1.1) then (x,true) else s
def pickG (id:Int) (R:List WayG):WayG × Bool:=R.foldl (pickT id) ((zeroN,[]),false)
def PickR (w:World) (B:Nat) (a:WayV × Bool) (b:WayG × Bool):Prop:=a.1.n=b.1.1∧a.2=b.2∧Sl w B 3 (.slice a.1.A a.1.len a.1.cap) b.1.2.length (b.1.2.flatMap hopCells)
theorem pick_rel {w:World} {B:Nat} (id:Int):∀ (l:List WayV) (R:List WayG) (a:WayV × Bool) (b:WayG × Bool),l.map (·.n)=R.map (·.1)→(∀ k (h:k<l.length) (h2:k<R.length),Sl w B 3 (.slice l[k].A l[k].len l[k].cap) R[k].2.length (R[k].2.flatMap hopCells))→PickR w B a b→PickR w B (l.foldl (pickStep id) a) (R.foldl (pickT id) b):=by
 intro l
 induction l with
 | nil =>
  intro R a b hm _ hr
  have:R=[]:=by
   cases R with
   | nil=>rfl
   | cons _ _=>simp at hm
  subst this
  exact hr
 | cons x l ih =>
  intro R a b hm hh hr
  cases R with
  | nil=>simp at hm
  | cons y R =>
   simp only[List.map_cons,List.cons.injEq] at hm
   rw[List.foldl_cons,List.foldl_cons]
   refine ih R _ _ hm.2 (fun k h h2=>hh (k+1) (by simpa using h) (by simpa using h2)) ?_
   unfold pickStep pickT
   rw[hm.1,hr.1,hr.2.1]
   split
   ·exact ⟨hm.1,rfl,hh 0 (by simp) (by simp)⟩
   ·exact hr
theorem pick_ways {w:World} {B:Nat} {lv:Value} {R:List WayG} {l:List WayV} (id:Int) (h:WaysIn w B lv R l):PickR w B (pickP id l) (pickG id R):=
 pick_rel id l R _ _ h.map h.hops ⟨rfl,rfl,Sl.nil _ _ _⟩
theorem pickG_mem (id:Int) (R:List WayG):(pickG id R).1∈R∨pickG id R=((zeroN,[]),false):=by
 have:∀ (R:List WayG) (b:WayG × Bool),(R.foldl (pickT id) b).1∈R∨R.foldl (pickT id) b=b:=by
  intro R
  induction R with
  | nil=>intro b;exact .inr rfl
  | cons y R ih =>
   intro b
   rw[List.foldl_cons]
   rcases ih (pickT id b y) with h | h
   ·exact .inl (List.mem_cons_of_mem _ h)
   ·rw[h]
    unfold pickT
    split
    ·exact .inl List.mem_cons_self
    ·exact .inr rfl
 exact this R _
def nearV (g:WayG × Bool):WayV × Bool:=(⟨g.1.1,none,0,0⟩,g.2)
def routeG (s:StG) (self:Int) (nssa:Bool) (R:List WayG):Option WayG:=
 if rtake (if nssa then 7 else 5) s.1 s.2 self then (routeB s.1 (decQ (if nssa then 7 else 5) s.2).1 nssa (nearV (pickG s.1.adv R))).map fun n=>(n,(pickG s.1.adv R).1.2) else none
def routesG (S:List StG) (self:Int) (nssa:Bool) (R:List WayG):List WayG:=S.filterMap fun s=>routeG s self nssa R
theorem routeB_near {h:OHead} {b:BodyV} {nssa:Bool} {a:WayV × Bool} {g:WayG × Bool} (h1:a.1.n=g.1.1) (h2:a.2=g.2):routeB h b nssa a=routeB h b nssa (nearV g):=by
 unfold routeB nearV
 rw[h1,h2]
theorem routeB_key {h:OHead} {b:BodyV} {nssa:Bool} {a:WayV × Bool} {n:WayN} (e:routeB h b nssa a=some n):InO (keyO n):=by
 have hp:InO (bits BinOp.and IntKind.u32 h.id b.mask,bitsV b.mask):=by
  have h1:=bits_lo_u32 BinOp.and h.id b.mask
  have h2:=bits_hi_u32 BinOp.and h.id b.mask
  generalize bits BinOp.and IntKind.u32 h.id b.mask=z at h1 h2 ⊢
  exact ⟨⟨h1,by show z<4294967296;omega⟩,bitsV_u8 _⟩
 unfold routeB at e
 split at e
 ·cases e
 split at e
 ·obtain rfl:=Option.some.inj e
  exact hp
 split at e
 ·obtain rfl:=Option.some.inj e
  exact hp
 ·cases e
def NoFw (S:List StG):Prop:=∀ s∈S,∀ t:Nat,(t=5∨t=7)→s.1.type=(t:Int)→chkP s.1 s.2 (decQ t s.2).2=0→(decQ t s.2).1.fw=0
def ORoutesPost (L:List WayG) (w:World) (e:Ending) (w':World):Prop:=
 ∃ (v:Value) (xs:List WayY),e=.returned v∧w'.ownsRow w.heap.size 38 10 v xs.length (xs.flatMap yL)∧(∀ x∈xs,HopsAt x w')∧(gOf xs).Perm (mergeP L)∧(∀ i j:Nat,i<j→∀ (hj:j<xs.length) (hi:i<xs.length),ltO xs[j].1 xs[i].1=false)∧Below w.heap.size w w'
theorem routeW_any (s:StG) (hs:StOk s) (self:Int) (nssa:Bool) (R:List WayG) (l:List WayV) (lv nv bv:Value) (B:Nat) (w:World) (hb:Sl w B 1 bv s.2.length (s.2.map u8c)) (hW:WaysIn w B lv R l) (hB:B≤w.heap.size) (hn:l.length≤1000000) (hh:∀ r∈R,r.2.length≤1000000) (hc:∀ r∈R,0≤r.1.cost∧r.1.cost<4294967296) (hfw:∀ t:Nat,(t=5∨t=7)→s.1.type=(t:Int)→chkP s.1 s.2 (decQ t s.2).2=0→(decQ t s.2).1.fw=0) :
  Calls Tryz.prog 89 #[stateVal s.1 bv,.int .u32 self,.bool nssa,lv,nv] w fun e w'=>∃ n A m c,e=.returned (.tuple #[.agg (wayC n (.slice A m c)),.bool (routeG s self nssa R).isSome])∧(∀ x,routeG s self nssa R=some x→n=x.1∧w'.ownsRow w.heap.size 47 3 (.slice A m c) x.2.length (x.2.flatMap hopCells))∧Below w.heap.size w w':=by
 have hp:=pick_ways s.1.adv hW
 have hcst:0≤(pickP s.1.adv l).1.n.cost∧(pickP s.1.adv l).1.n.cost<4294967296:=by
  rw[hp.1]
  rcases pickG_mem s.1.adv R with h | h
  ·exact hc _ h
  ·rw[h]
   exact ⟨Int.le_refl _,by decide⟩
 have hlen:(pickG s.1.adv R).1.2.length≤1000000:=by
  rcases pickG_mem s.1.adv R with h | h
  ·exact hh _ h
  ·rw[h]
   exact Nat.zero_le _
 have C:Calls Tryz.prog 89 #[stateVal s.1 bv,.int .u32 self,.bool nssa,lv,nv] w fun e w'=>RoutePost (routeP s.1 s.2 self nssa l) (pickG s.1.adv R).1.2 w e w':=by
  cases nssa with
  | false=>exact routeF_any s.1 hs.1 s.2 self l lv nv bv B _ w hb hW.sl hB hn hs.2.1 hs.2.2 (fun _=>hp.2.2) hlen hcst (hfw 5 (.inl rfl))
  | true=>exact routeT_any s.1 hs.1 s.2 self l lv nv bv B _ w hb hW.sl hB hn hs.2.1 hs.2.2 (fun _=>hp.2.2) hlen hcst (hfw 7 (.inr rfl))
 have he:routeG s self nssa R=(routeP s.1 s.2 self nssa l).map fun n=>(n,(pickG s.1.adv R).1.2):=by
  unfold routeG routeP
  rw[routeB_near hp.1 hp.2.1]
  split <;> (split <;> rfl)
 refine Calls.mono C ?_
 rintro e w' ⟨n,A,m,c,rfl,h1,h2⟩
 rw[he]
 refine ⟨n,A,m,c,by rw[Option.isSome_map],fun x hx => ?_,h2⟩
 cases hr:routeP s.1 s.2 self nssa l with
 | none =>
  rw[hr] at hx
  cases hx
 | some q =>
  rw[hr] at hx
  obtain rfl:=Option.some.inj hx
  exact h1 q hr
theorem routeG_key {s:StG} {self:Int} {nssa:Bool} {R:List WayG} {g:WayG} (e:routeG s self nssa R=some g):InO (keyO g.1)∧(g.2=(pickG s.1.adv R).1.2):=by
 unfold routeG at e
 generalize (if nssa=true then 7 else 5)=t at e
 split at e
 ·cases hr:routeB s.1 (decQ t s.2).1 nssa (nearV (pickG s.1.adv R)) with
  | none =>
   rw[hr] at e
   cases e
  | some n =>
   rw[hr] at e
   obtain rfl:=Option.some.inj e
   exact ⟨routeB_key hr,rfl⟩
 ·cases e
theorem pick_hops (id:Int) (R:List WayG) {m:Nat} (hm:∀ r∈R,r.2.length≤m):(pickG id R).1.2.length≤m:=by
 rcases pickG_mem id R with h | h
 ·exact hm _ h
 ·rw[h]
  exact Nat.zero_le _
theorem routesG_sum (S:List StG) (self:Int) (nssa:Bool) (R:List WayG) {m:Nat} (hm:∀ r∈R,r.2.length≤m):hopsN (routesG S self nssa R)≤m*S.length:=by
 induction S with
 | nil=>exact Nat.zero_le _
 | cons s S ih =>
  unfold routesG at ih ⊢
  rw[List.filterMap_cons,List.length_cons,Nat.mul_succ]
  cases hr:routeG s self nssa R with
  | none=>simp only;omega
  | some g =>
   simp only
   have h1:=pick_hops s.1.adv R hm
   rw[←(routeG_key hr).2] at h1
   have h2:hopsN (g :: S.filterMap fun s=>routeG s self nssa R)=g.2.length+hopsN (S.filterMap fun s=>routeG s self nssa R):=by simp[hopsN]
   rw[h2]
   omega
set_option maxHeartbeats 4000000 in
theorem oroutes_any (B:Nat) (sv:Value) (S:List StG) (ls:List StV) (self:Int) (nssa:Bool) (lv nv:Value) (R:List WayG) (l:List WayV) (w:World) (hS:StatesIn w B sv S ls) (hok:∀ s∈S,StOk s) (hW:WaysIn w B lv R l) (hB:B≤w.heap.size) (hn:l.length≤1000000) (hls:ls.length≤60) (hh:∀ r∈R,r.2.length≤2000) (hc:∀ r∈R,0≤r.1.cost∧r.1.cost<4294967296) (hfw:NoFw S) :
  Calls Tryz.prog 46 #[sv,.int .u32 self,.bool nssa,lv,nv] w (ORoutesPost (routesG S self nssa R) w):=by
 obtain ⟨-,slA,slc,rfl,-⟩:=id hS.sl
 have hlS:=hS.len
 replace hS:=Lib.hid hS
 replace hW:=Lib.hid hW
 replace hok:=Lib.hid hok
 replace hh:=Lib.hid hh
 replace hc:=Lib.hid hc
 replace hfw:=Lib.hid hfw
 go_enter Tryz.func46,Tryz.ntmps46
 go_wp2_with fail
 go_loopg [11,18] ls.length (fun c v i wr=>∃ (k:Nat) (xs:List WayY),k≤ls.length∧c=ls.length-k∧i=.int .i64 k∧xs.length≤k∧gOf xs=routesG (S.take k) self nssa R∧ImpR w xs v wr)
 case atStart=>exact ⟨0,[],Nat.zero_le _,rfl,rfl,Nat.le_refl _,rfl,⟨World.ownsRow_nil _ _ _ _,fun _ h=>(by cases h),Below.refl _ _⟩⟩
 case round =>
  obtain ⟨k,xs,hk,rfl,rfl,hxk,hgx,hI⟩:=hrel
  obtain ⟨w1,rfl⟩:∃ x:World,x=wr:=⟨_,rfl⟩
  have hz1:=hI.below.size
  by_cases hkl:k<ls.length
  ·have hkS:k<S.length:=by omega
   have hS1:=hS.out.below (hI.below.mono hB)
   obtain ⟨b,off,hwA,hb0,hrow⟩:=Sl.row stL_len hS1.sl hkl
   subst hwA
   have hbd:=hS1.bodies k hkl hkS
   have hmp:ls[k].h=S[k].1:=by
    have h1:=congrArg (fun z=>z[k]?) hS1.map
    simp only[List.getElem?_map,List.getElem?_eq_getElem hkl,List.getElem?_eq_getElem hkS,Option.map_some,Option.some.injEq] at h1
    exact h1
   have hso:=hok.out _ (List.getElem_mem hkS)
   have hsf:=hfw.out _ (List.getElem_mem hkS)
   have htk:S.take (k+1)=S.take k++[S[k]]:=List.take_succ_eq_append_getElem hkS
   have hft:routesG (S.take (k+1)) self nssa R=routesG (S.take k) self nssa R++(routeG S[k] self nssa R).toList:=by
    unfold routesG
    rw[htk,List.filterMap_append]
    cases hr:routeG S[k] self nssa R <;> simp[hr]
   have hrg:w1.rangeAt b (off+k*9) (stL ls[k]):=hrow
   replace hrow:=Lib.hid hrow
   replace htk:=Lib.hid htk
   replace hlS:=Lib.hid hlS
   generalize S[k]=s at *
   generalize ls[k]=x at hrg hbd hmp
   obtain ⟨h,sA,sn,sc⟩:=x
   dsimp only at hmp hbd
   subst hmp
   obtain rfl:sn=s.2.length:=sl_len hbd
   have ik:(k:Int)<(ls.length:Int):=by omega
   have k0:Blk (w1.alloc (.cells #[.int .u16 s.1.age,.int .u8 s.1.opts,.int .u8 s.1.type,.int .u32 s.1.id,.int .u32 s.1.adv,.int .i32 s.1.seq,.int .u16 s.1.sum,.int .u16 s.1.len,.slice sA s.2.length sc] 54)) w1.heap.size 54 #[.int .u16 s.1.age,.int .u8 s.1.opts,.int .u8 s.1.type,.int .u32 s.1.id,.int .u32 s.1.adv,.int .i32 s.1.seq,.int .u16 s.1.sum,.int .u16 s.1.len,.slice sA s.2.length sc]:=Blk.new _ _ _
   have hI2:=hI.alloc (.cells #[.int .u16 s.1.age,.int .u8 s.1.opts,.int .u8 s.1.type,.int .u32 s.1.id,.int .u32 s.1.adv,.int .i32 s.1.seq,.int .u16 s.1.sum,.int .u16 s.1.len,.slice sA s.2.length sc] 54)
   have CR:=routeW_any s hso self nssa R l lv nv (.slice sA s.2.length sc) B (w1.alloc (.cells #[.int .u16 s.1.age,.int .u8 s.1.opts,.int .u8 s.1.type,.int .u32 s.1.id,.int .u32 s.1.adv,.int .i32 s.1.seq,.int .u16 s.1.sum,.int .u16 s.1.len,.slice sA s.2.length sc] 54)) (hbd.below ((Below.refl _ _).alloc (Nat.le_trans hB hz1) _)) (hW.out.below (hI2.below.mono hB)) (by simp;omega) hn (fun r hr=>Nat.le_trans (hh.out r hr) (by omega)) hc.out hsf
   dsimp only[stateVal] at CR
   replace CR:=Lib.hid CR
   replace hI:=Lib.hid hI
   have hsz:=k0.lt
   go_upto_region 5 with (refine wpList_load_mid rfl 54 (.tmp 20) rfl b (off+k*9) rfl (stL ⟨s.1,sA,s.2.length,sc⟩) _ hrg Tryz.underlying54 rfl (by kernel_rfl) ?_;dsimp only[stL])
   have hI3:=Lib.hid (hI2)
   clear hI2 hrg
   generalize w1.alloc (.cells #[.int .u16 s.1.age,.int .u8 s.1.opts,.int .u8 s.1.type,.int .u32 s.1.id,.int .u32 s.1.adv,.int .i32 s.1.seq,.int .u16 s.1.sum,.int .u16 s.1.len,.slice sA s.2.length sc] 54)=w2 at hI3 k0 CR ⊢
   go_upto_if 31 with (first
    | (refine wpList_load_row rfl 54 (.tmp 13) rfl w1.heap.size rfl 54 #[.int .u16 s.1.age,.int .u8 s.1.opts,.int .u8 s.1.type,.int .u32 s.1.id,.int .u32 s.1.adv,.int .i32 s.1.seq,.int .u16 s.1.sum,.int .u16 s.1.len,.slice sA s.2.length sc] (0,0) _ k0 Tryz.underlying54 rfl (by kernel_rfl) ?_)
    | (go_at_call 89;refine Calls.mono CR.out ?_;rintro e w4 ⟨n,yA,ym,yc,rfl,hrt,hBy⟩;obtain ⟨y0,y1,y2,y3,y4,y5,y6,y7,y8⟩:=n;dsimp only[wayC]))
   have hI5:=(hI3.out.call hBy).alloc (.cells #[.int .u32 y0,.int .u8 y1,.int .u32 y2,.int .u8 y3,.int .u8 y4,.int .u32 y5,.int .u32 y6,.int .u32 y7,.int .u32 y8,.slice yA ym yc] 38)
   have ky:Blk (w4.alloc (.cells #[.int .u32 y0,.int .u8 y1,.int .u32 y2,.int .u8 y3,.int .u8 y4,.int .u32 y5,.int .u32 y6,.int .u32 y7,.int .u32 y8,.slice yA ym yc] 38)) w4.heap.size 38 #[.int .u32 y0,.int .u8 y1,.int .u32 y2,.int .u8 y3,.int .u8 y4,.int .u32 y5,.int .u32 y6,.int .u32 y7,.int .u32 y8,.slice yA ym yc]:=Blk.new _ _ _
   have hz4:=hBy.size
   have hz3:=hI3.out.below.size
   replace hrt:=Lib.hid hrt
   replace hft:=Lib.hid hft
   cases hr:routeG s self nssa R with
   | none =>
    have hft2:routesG (S.take (k+1)) self nssa R=routesG (S.take k) self nssa R:=by rw[hft.out,hr];simp
    simp only[Option.isSome_none]
    replace hft2:=Lib.hid hft2
    replace hI5:=Lib.hid hI5
    clear hr ky
    go_wp2_with fail
    go_roundg (ls.length-(k+1))
    case measure=>omega
    case rel=>exact ⟨k+1,xs,by omega,rfl,by go_num,by omega,by rw[hft2.out];exact hgx,hI5.out⟩
   | some g =>
    have hft2:routesG (S.take (k+1)) self nssa R=routesG (S.take k) self nssa R++[g]:=by rw[hft.out,hr];rfl
    obtain ⟨hng,hog⟩:=hrt.out g hr
    obtain ⟨gn,gh⟩:=g
    dsimp only at hng hog
    subst hng
    have hoy:w4.ownsRow w.heap.size 47 3 (.slice yA ym yc) gh.length (gh.flatMap hopCells):=own_less hog hz3
    obtain rfl:ym=gh.length:=sl_len (Sl.of_own hoy)
    simp only[Option.isSome_some]
    have hghl:gh.length≤2000:=by
     have h1:=(routeG_key hr).2
     dsimp only at h1
     rw[h1]
     exact pick_hops _ _ hh.out
    have hoy5:=own_alloc hoy (.cells #[.int .u32 y0,.int .u8 y1,.int .u32 y2,.int .u8 y3,.int .u8 y4,.int .u32 y5,.int .u32 y6,.int .u32 y7,.int .u32 y8,.slice yA gh.length yc] 38)
    have hI6:=hI5.alloc (.cells #[.int .u32 y0,.int .u8 y1,.int .u32 y2,.int .u8 y3,.int .u8 y4,.int .u32 y5,.int .u32 y6,.int .u32 y7,.int .u32 y8,.slice yA gh.length yc] 38)
    have hoy6:=own_alloc hoy5 (.cells #[.int .u32 y0,.int .u8 y1,.int .u32 y2,.int .u8 y3,.int .u8 y4,.int .u32 y5,.int .u32 y6,.int .u32 y7,.int .u32 y8,.slice yA gh.length yc] 38)
    replace hft2:=Lib.hid hft2
    replace hI5:=Lib.hid hI5
    clear hr hog hoy
    generalize w4.alloc (.cells #[.int .u32 y0,.int .u8 y1,.int .u32 y2,.int .u8 y3,.int .u8 y4,.int .u32 y5,.int .u32 y6,.int .u32 y7,.int .u32 y8,.slice yA gh.length yc] 38)=w5 at hI5 ky hoy5 hI6 hoy6 ⊢
    have hz6:=hI5.out.below.size
    replace hI6:=Lib.hid hI6
    replace hoy6:=Lib.hid hoy6
    go_wp2_with (first
     | (refine wpList_load_row rfl 38 (.tmp 14) rfl w4.heap.size rfl 38 #[.int .u32 y0,.int .u8 y1,.int .u32 y2,.int .u8 y3,.int .u8 y4,.int .u32 y5,.int .u32 y6,.int .u32 y7,.int .u32 y8,.slice yA gh.length yc] (0,0) _ ky Tryz.underlying38 rfl (by kernel_rfl) ?_)
     | (at_builtin;refine wpList_append rfl (.tmp 32) (.tmp 34) 30 rfl w.heap.size wayT u11 xs.length (xs.flatMap yL) rfl hI6.out.own _ _ 1 [.int .u32 y0,.int .u8 y1,.int .u32 y2,.int .u8 y3,.int .u8 y4,.int .u32 y5,.int .u32 y6,.int .u32 y7,.int .u32 y8,.slice yA gh.length yc] rfl (Sl.lit w5 #[.int .u32 y0,.int .u8 y1,.int .u32 y2,.int .u8 y3,.int .u8 y4,.int .u32 y5,.int .u32 y6,.int .u32 y7,.int .u32 y8,.slice yA gh.length yc] 38 (by simp[maxLen]) rfl) (by simp[Value.oneCell']) (by simp only[maxLen];omega) (by omega) (by simp;omega) ?_;intro v7 w7 ho7 hg7 hob7)
     | fail)
    go_roundg (ls.length-(k+1))
    case measure=>omega
    case rel =>
     refine ⟨k+1,xs++[((⟨⟨y0,y1,y2,y3,y4,y5,y6,y7,y8⟩,yA,gh.length,yc⟩,gh):WayY)],by omega,rfl,by go_num,by rw[List.length_append];simp;omega,by rw[gOf_snoc,hgx,hft2.out],hI6.out.grow rfl hoy6.out ?_ hg7⟩
     rw[List.length_append,List.flatMap_append]
     exact ho7
  ·obtain rfl:k=ls.length:=by omega
   rw[hlS,List.take_length] at hgx
   have hkk:∀ g∈routesG S self nssa R,InO (keyO g.1):=fun g hg=>by
    obtain ⟨s,-,hs⟩:=List.mem_filterMap.1 hg
    exact (routeG_key hs).1
   have hsum:=routesG_sum S self nssa R hh.out
   have CB:=best_any (gOf xs) (xs.map (·.1)) u11 w1.heap.size w1 hI.ways (Nat.le_refl _) (by rw[hgx];exact hkk) (by rw[hgx];omega) (by rw[List.length_map];omega)
   rw[hgx] at CB
   replace CB:=Lib.hid CB
   replace hgx:=Lib.hid hgx
   replace hkk:=Lib.hid hkk
   clear hsum
   go_wp2_with (go_at_call 84;refine Calls.mono CB.out ?_;rintro e w2 ⟨v2,ys,rfl,hoy,hhy,hpm,hst,hB2⟩)
   go_ret
   exact ⟨v2,ys,rfl,own_less hoy (by omega),fun x hx=>(hhy x hx).at_ hB2.size,hpm,hst,hI.below.trans (hB2.mono hz1)⟩
end Go.Proofs.YtiikagabdiphkaaGreat
