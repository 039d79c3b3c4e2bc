/- outer.route in general, where no forwarding address is met. Conditions: the state's body and the ways lie in memory. -/
import Derived.Test.YtiikagabdiphkaaGreatOnAI
import Derived.Test.YtiikagabdiphkaaGreatOnAO
set_option maxRecDepth 100000
namespace Go.Proofs.YtiikagabdiphkaaGreat
open Go.RowKit Go.Lo
def rtake (t:Nat) (h:OHead) (body:List Int) (self:Int):Bool:=h.type==(t:Int) && (h.adv != self && (!oldP h.age && chkP h body (decQ t body).2==0))
def routeB (h:OHead) (b:BodyV) (nssa:Bool) (near:WayV × Bool):Option WayN:=
 if decide (16777215≤b.metric) || ((nssa && ((decide (bits BinOp.and IntKind.u32 h.id b.mask=0) && decide (bitsV b.mask=0)) && bits BinOp.and IntKind.u8 h.opts 8==0)) || !near.2) then none
 else if b.t2 then some ⟨bits BinOp.and IntKind.u32 h.id b.mask,bitsV b.mask,0,0,4,near.1.n.area,near.1.n.cost,b.metric,b.tg⟩
 else if near.1.n.cost+b.metric<4294967296 then some ⟨bits BinOp.and IntKind.u32 h.id b.mask,bitsV b.mask,0,0,3,near.1.n.area,near.1.n.cost+b.metric,0,b.tg⟩ else none
def routeP (h:OHead) (body:List Int) (self:Int) (nssa:Bool) (l:List WayV):Option WayN:=
 if rtake (if nssa then 7 else 5) h body self then routeB h (decQ (if nssa then 7 else 5) body).1 nssa (pickP h.adv l) else none
def RoutePost (r:Option WayN) (hops:List Hop) (w:World) (e:Ending) (w':World):Prop:=
 ∃ n A m c,e=.returned (.tuple #[.agg (wayC n (.slice A m c)),.bool r.isSome])∧(∀ x,r=some x→n=x∧w'.ownsRow w.heap.size 47 3 (.slice A m c) hops.length (hops.flatMap hopCells))∧Below w.heap.size w w'
def RtG (B:Nat) (w:World) (hops:List Hop) (pa pb a c k tg:Int) (v:Value) (wx:World):Prop:=
 ∃ g A9 c9,v=.pointer (some ⟨g,0,none⟩)∧B≤g∧Blk wx g 38 #[.int .u32 pa,.int .u8 pb,.int .u32 0,.int .u8 0,.int .u8 4,.int .u32 a,.int .u32 c,.int .u32 k,.int .u32 tg,.slice A9 hops.length c9]∧wx.ownsRow B 47 3 (.slice A9 hops.length c9) hops.length (hops.flatMap hopCells)∧Below B w wx
theorem decQ_metric (t:Nat) (body:List Int):0≤(decQ t body).1.metric∧(decQ t body).1.metric<4294967296:=by
 have z:0≤zeroB.metric∧zeroB.metric<4294967296:=⟨Int.le_refl _,by decide⟩
 unfold decQ
 split
 ·exact z
 split
 ·exact z
 split
 ·exact z
 split
 ·exact z
 unfold readP
 split
 ·exact z
 split
 ·exact z
 split
 ·exact numB_range _
 split
 ·exact numB_range _
 ·exact z
theorem eql_pre0 (a b:Int) (w:World):(binOp .eql 35 (.agg #[.int .u32 a,.int .u8 b]) (.agg #[.int .u32 0,.int .u8 0])).run Tryz.prog w=.ok (.bool (decide (a=0) && decide (b=0))) w:=by
 rw[run_eql_struct,run_equalIn_agg _ _ _ _ _ (by kernel_rfl) (by kernel_rfl)]
 go_simp
 by_cases h1:a=0 <;> by_cases h2:b=0 <;> simp[h1,h2]
theorem chk_lenO {h:OHead} {body:List Int} {e:Int} (hc:chkP h body e=0):h.len=20+(body.length:Int):=by
 unfold chkP at hc
 split at hc
 ·cases hc
 ·next h1=>exact Decidable.not_not.1 h1
set_option maxHeartbeats 4000000 in
theorem routeF_any (h:OHead) (ok:HeadOk h) (body:List Int) (self:Int) (l:List WayV) (lv nv bv:Value) (B:Nat) (hops:List Hop) (w:World) (hb:Sl w B 1 bv body.length (body.map u8c)) (hl:Sl w B 10 lv l.length (l.flatMap wayL)) (hB:B≤w.heap.size) (hn:l.length≤1000000) (hbn:body.length≤1099511627776) (hl8:∀ x∈body,0≤x∧x<256)
  (hh:(pickP h.adv l).2=true→Sl w B 3 (.slice (pickP h.adv l).1.A (pickP h.adv l).1.len (pickP h.adv l).1.cap) hops.length (hops.flatMap hopCells)) (hhn:hops.length≤1000000) (hcst:0≤(pickP h.adv l).1.n.cost∧(pickP h.adv l).1.n.cost<4294967296) (hfw:h.type=5→chkP h body (decQ 5 body).2=0→(decQ 5 body).1.fw=0) :
  Calls Tryz.prog 89 #[stateVal h bv,.int .u32 self,.bool false,lv,nv] w fun e w'=>RoutePost (routeP h body self false l) hops w e w':=by
 obtain ⟨age,opts,ty,id,adv,seq,sum,len⟩:=h
 obtain ⟨rr,hrr⟩:∃ r,r=routeP ⟨age,opts,ty,id,adv,seq,sum,len⟩ body self false l:=⟨_,rfl⟩
 rw[←hrr]
 replace hrr:=Lib.hid hrr
 have hb0:=hb
 obtain ⟨-,bA,bc,rfl,-⟩:=hb
 dsimp only[stateVal]
 have k0:Blk ((w.alloc (.cells #[.int .u16 age,.int .u8 opts,.int .u8 ty,.int .u32 id,.int .u32 adv,.int .i32 seq,.int .u16 sum,.int .u16 len,.slice bA body.length bc] 54)).alloc (.cells #[.int .u32 0,.int .u8 0,.int .u32 0,.int .u8 0,.int .u8 0,.int .u32 0,.int .u32 0,.int .u32 0,.int .u32 0,.slice none 0 0] 38)) w.heap.size 54 #[.int .u16 age,.int .u8 opts,.int .u8 ty,.int .u32 id,.int .u32 adv,.int .i32 seq,.int .u16 sum,.int .u16 len,.slice bA body.length bc]:=(Blk.new _ _ _).alloc _
 have k1:Blk ((w.alloc (.cells #[.int .u16 age,.int .u8 opts,.int .u8 ty,.int .u32 id,.int .u32 adv,.int .i32 seq,.int .u16 sum,.int .u16 len,.slice bA body.length bc] 54)).alloc (.cells #[.int .u32 0,.int .u8 0,.int .u32 0,.int .u8 0,.int .u8 0,.int .u32 0,.int .u32 0,.int .u32 0,.int .u32 0,.slice none 0 0] 38)) (w.heap.size+1) 38 #[.int .u32 0,.int .u8 0,.int .u32 0,.int .u8 0,.int .u8 0,.int .u32 0,.int .u32 0,.int .u32 0,.int .u32 0,.slice none 0 0]:=heap_alloc2_new w _ _
 have kB:Below w.heap.size w ((w.alloc (.cells #[.int .u16 age,.int .u8 opts,.int .u8 ty,.int .u32 id,.int .u32 adv,.int .i32 seq,.int .u16 sum,.int .u16 len,.slice bA body.length bc] 54)).alloc (.cells #[.int .u32 0,.int .u8 0,.int .u32 0,.int .u8 0,.int .u8 0,.int .u32 0,.int .u32 0,.int .u32 0,.int .u32 0,.slice none 0 0] 38)):=((Below.refl _ _).alloc (Nat.le_refl _) _).alloc (by simp) _
 go_enter Tryz.func89,Tryz.ntmps89
 go_upto_region 4 with fail
 generalize (w.alloc (.cells #[.int .u16 age,.int .u8 opts,.int .u8 ty,.int .u32 id,.int .u32 adv,.int .i32 seq,.int .u16 sum,.int .u16 len,.slice bA body.length bc] 54)).alloc (.cells #[.int .u32 0,.int .u8 0,.int .u32 0,.int .u8 0,.int .u8 0,.int .u32 0,.int .u32 0,.int .u32 0,.int .u32 0,.slice none 0 0] 38)=w1 at k0 k1 kB ⊢
 have x0:=k0.cell 0
 have x1:=k0.cell 1
 have x2:=k0.cell 2
 have x3:=k0.cell 3
 have x4:=k0.cell 4
 have x5:=k0.cell 5
 have x6:=k0.cell 6
 have x7:=k0.cell 7
 have x8:=k0.cell 8
 simp only[q'a,q'z,q's] at x0 x1 x2 x3 x4 x5 x6 x7 x8
 have z1:=k1.lt
 by_cases ht:ty≠5
 ·have e1:(ty != 5)=true:=by simpa using ht
  have hr:rtake 5 ⟨age,opts,ty,id,adv,seq,sum,len⟩ body self=false:=by
   simp[rtake,ht]
  have hR:rr=none:=by rw[hrr.out];unfold routeP;rw[show rtake (if false=true then 7 else 5) _ body self=false from hr];rfl
  subst hR
  clear hr
  go_upto_region 5 with fail
  go_wp2_with (refine wpList_store_row rfl 38 (.tmp 10) (.tmp 46) rfl (w.heap.size+1) #[.int .u32 0,.int .u8 0,.int .u32 0,.int .u8 0,.int .u8 0,.int .u32 0,.int .u32 0,.int .u32 0,.int .u32 0,.slice none 0 0] rfl rfl 38 #[.int .u32 0,.int .u8 0,.int .u32 0,.int .u8 0,.int .u8 0,.int .u32 0,.int .u32 0,.int .u32 0,.int .u32 0,.slice none 0 0] k1 (by kernel_rfl) rfl (by simp[Value.oneCell']) ?_)
  refine bodyPost_ret (results_cell_tmp_row rfl _ _ (w.heap.size+1) 38 #[.int .u32 0,.int .u8 0,.int .u32 0,.int .u8 0,.int .u8 0,.int .u32 0,.int .u32 0,.int .u32 0,.int .u32 0,.slice none 0 0] (0,0) _ rfl (blk_setRow k1) Tryz.underlying38 rfl (by kernel_rfl)) rfl ?_
  exact ⟨zeroN,none,0,0,rfl,fun x hx=>(by cases hx),below_setRow kB (by omega) _⟩
 ·have ht2:ty=5:=Decidable.not_not.1 ht
  subst ht2
  clear ht
  by_cases ha:adv=self
  ·have e1:(adv==self)=true:=by simpa using ha
   have hr:rtake 5 ⟨age,opts,5,id,adv,seq,sum,len⟩ body self=false:=by
    simp[rtake,ha]
   have hR:rr=none:=by rw[hrr.out];unfold routeP;rw[show rtake (if false=true then 7 else 5) _ body self=false from hr];rfl
   subst hR
   clear hr
   replace ha:=Lib.hid ha
   go_upto_region 5 with fail
   go_wp2_with (refine wpList_store_row rfl 38 (.tmp 10) (.tmp 46) rfl (w.heap.size+1) #[.int .u32 0,.int .u8 0,.int .u32 0,.int .u8 0,.int .u8 0,.int .u32 0,.int .u32 0,.int .u32 0,.int .u32 0,.slice none 0 0] rfl rfl 38 #[.int .u32 0,.int .u8 0,.int .u32 0,.int .u8 0,.int .u8 0,.int .u32 0,.int .u32 0,.int .u32 0,.int .u32 0,.slice none 0 0] k1 (by kernel_rfl) rfl (by simp[Value.oneCell']) ?_)
   refine bodyPost_ret (results_cell_tmp_row rfl _ _ (w.heap.size+1) 38 #[.int .u32 0,.int .u8 0,.int .u32 0,.int .u8 0,.int .u8 0,.int .u32 0,.int .u32 0,.int .u32 0,.int .u32 0,.slice none 0 0] (0,0) _ rfl (blk_setRow k1) Tryz.underlying38 rfl (by kernel_rfl)) rfl ?_
   exact ⟨zeroN,none,0,0,rfl,fun x hx=>(by cases hx),below_setRow kB (by omega) _⟩
  ·have e1:(adv==self)=false:=by simpa using ha
   cases hod:oldP age
   ·have CK:=checkG_any 5 (by omega) ⟨age,opts,5,id,adv,seq,sum,len⟩ ok B (.slice bA body.length bc) body w1 (hb0.below (kB.mono hB)) (Nat.le_trans hB kB.size) hbn hl8 rfl
    dsimp only[stateVal] at CK
    obtain ⟨r,hr0⟩:∃ r,r=chkP ⟨age,opts,5,id,adv,seq,sum,len⟩ body (decQ 5 body).2:=⟨_,rfl⟩
    rw[←hr0] at CK
    replace CK:=Lib.hid CK
    by_cases hc:r≠0
    ·have e2:(r != 0)=true:=by simpa using hc
     have hr:rtake 5 ⟨age,opts,5,id,adv,seq,sum,len⟩ body self=false:=by
      have h1:(chkP ⟨age,opts,5,id,adv,seq,sum,len⟩ body (decQ 5 body).2==0)=false:=by rw[←hr0];simpa using hc
      simp[rtake,h1]
     have hR:rr=none:=by rw[hrr.out];unfold routeP;rw[show rtake (if false=true then 7 else 5) _ body self=false from hr];rfl
     subst hR
     clear hr
     replace hc:=Lib.hid hc
     replace hr0:=Lib.hid hr0
     go_upto_region 5 with (first
      | (go_at_call 130;refine Calls.mono (old_any age _) ?_;rintro x w2 ⟨rfl,hww⟩;subst hww;rw[hod])
      | (go_at_call 131;refine Calls.mono CK.out ?_;rintro x w2 ⟨rfl,hB2⟩))
     have k1:=k1.below hB2 k1.lt
     have kB:=kB.trans (hB2.mono kB.size)
     go_wp2_with (refine wpList_store_row rfl 38 (.tmp 10) (.tmp 46) rfl (w.heap.size+1) #[.int .u32 0,.int .u8 0,.int .u32 0,.int .u8 0,.int .u8 0,.int .u32 0,.int .u32 0,.int .u32 0,.int .u32 0,.slice none 0 0] rfl rfl 38 #[.int .u32 0,.int .u8 0,.int .u32 0,.int .u8 0,.int .u8 0,.int .u32 0,.int .u32 0,.int .u32 0,.int .u32 0,.slice none 0 0] k1 (by kernel_rfl) rfl (by simp[Value.oneCell']) ?_)
     refine bodyPost_ret (results_cell_tmp_row rfl _ _ (w.heap.size+1) 38 #[.int .u32 0,.int .u8 0,.int .u32 0,.int .u8 0,.int .u8 0,.int .u32 0,.int .u32 0,.int .u32 0,.int .u32 0,.slice none 0 0] (0,0) _ rfl (blk_setRow k1) Tryz.underlying38 rfl (by kernel_rfl)) rfl ?_
     exact ⟨zeroN,none,0,0,rfl,fun x hx=>(by cases hx),below_setRow kB (by omega) _⟩
    ·have hc2:r=0:=Decidable.not_not.1 hc
     subst hc2
     clear hc
     have hlen0:=chk_lenO hr0.symm
     have h2:(adv != self)=true:=by simpa using ha
     have h3:(chkP ⟨age,opts,5,id,adv,seq,sum,len⟩ body (decQ 5 body).2==0)=true:=by rw[←hr0];rfl
     have hr:rtake 5 ⟨age,opts,5,id,adv,seq,sum,len⟩ body self=true:=by unfold rtake;simp only[h3,h2,hod];rfl
     clear h2 h3
     have hR:rr=routeB ⟨age,opts,5,id,adv,seq,sum,len⟩ (decQ 5 body).1 false (pickP adv l):=by rw[hrr.out];unfold routeP;rw[show rtake (if false=true then 7 else 5) _ body self=true from hr];rfl
     clear hr
     have hfw0:=hfw rfl hr0.symm
     replace ha:=Lib.hid ha
     replace hr0:=Lib.hid hr0
     replace hlen0:=Lib.hid hlen0
     go_upto_region 6 with (first
      | (go_at_call 130;refine Calls.mono (old_any age _) ?_;rintro x w2 ⟨rfl,hww⟩;subst hww;rw[hod])
      | (go_at_call 131;refine Calls.mono CK.out ?_;rintro x w2 ⟨rfl,hB2⟩))
     replace k0:=k0.below hB2 k0.lt
     replace k1:=k1.below hB2 k1.lt
     replace kB:=kB.trans (hB2.mono kB.size)
     clear x0 x1 x2 x3 x4 x5 x6 x7 x8 hB2 CK z1
     have z1:=k1.lt
     have CD:=decode_any 5 (by omega) ⟨age,opts,5,id,adv,seq,sum,len⟩ B (.slice bA body.length bc) body w2 (hb0.below (kB.mono hB)) (Nat.le_trans hB kB.size) (by have h1:=ok.len;have h2:=hlen0.out;dsimp only at h1 h2;omega) hl8 rfl hlen0.out
     dsimp only[stateVal,DecPost] at CD
     have hmet:=decQ_metric 5 body
     obtain ⟨d,hd⟩:∃ d,d=decQ 5 body:=⟨_,rfl⟩
     skip
     rw[←hd] at CD hmet hfw0 hR
     obtain ⟨⟨fl,ls,m,rs,k,t2,fw,tg,ds⟩,de⟩:=d
     dsimp only at hmet hfw0 CD hR
     subst hfw0
     clear hd
     replace hR:=Lib.hid hR
     replace CD:=Lib.hid CD
     go_upto_region 7 with (first
      | (refine wpList_load_row rfl 54 (.tmp 5) rfl w.heap.size rfl 54 #[.int .u16 age,.int .u8 opts,.int .u8 5,.int .u32 id,.int .u32 adv,.int .i32 seq,.int .u16 sum,.int .u16 len,.slice bA body.length bc] (0,0) _ k0 Tryz.underlying54 rfl (by kernel_rfl) ?_)
      | (go_at_call 62;refine Calls.mono CD.out ?_;rintro x w3 ⟨csd,rfl,hBAd,hB3⟩;obtain ⟨A1,c1,A2,c2,A3,c3,rfl,-⟩:=hBAd;dsimp only))
     have kb:Blk (w3.alloc (.cells (bodyC fl A1 ls.length c1 m A2 rs.length c2 k t2 0 tg A3 ds.length c3) 93)) w3.heap.size 93 (bodyC fl A1 ls.length c1 m A2 rs.length c2 k t2 0 tg A3 ds.length c3):=Blk.new _ _ _
     replace k0:=(k0.below hB3 k0.lt).alloc (.cells (bodyC fl A1 ls.length c1 m A2 rs.length c2 k t2 0 tg A3 ds.length c3) 93)
     replace k1:=(k1.below hB3 k1.lt).alloc (.cells (bodyC fl A1 ls.length c1 m A2 rs.length c2 k t2 0 tg A3 ds.length c3) 93)
     replace kB:=below_alloc (kB.trans (hB3.mono kB.size)) (Nat.le_refl _) (.cells (bodyC fl A1 ls.length c1 m A2 rs.length c2 k t2 0 tg A3 ds.length c3) 93)
     have zb:=hB3.size
     clear CD hB3
     dsimp only[bodyC] at k0 k1 kB kb
     generalize w3.alloc (.cells (#[.int .u8 fl,.slice A1 ls.length c1,.int .u32 m,.slice A2 rs.length c2,.int .u32 k,.bool t2,.int .u32 0,.int .u32 tg,.slice A3 ds.length c3]:Array Value) 93)=w4 at k0 k1 kB kb ⊢
     obtain ⟨gb,hgb⟩:∃ g,g=w3.heap.size:=⟨_,rfl⟩
     rw[←hgb] at kb zb ⊢
     clear hgb
     have y2:=kb.cell 2
     have x3:=k0.cell 3
     simp only[q'a,q'z,q's] at y2 x3
     obtain ⟨pb,hpb⟩:∃ x,x=bitsV m:=⟨_,rfl⟩
     obtain ⟨pa,hpa⟩:∃ x,x=bits BinOp.and IntKind.u32 id m:=⟨_,rfl⟩
     have CBt:=bits_any m w4
     rw[←hpb] at CBt
     replace CBt:=Lib.hid CBt
     replace hpb:=Lib.hid hpb
     have hpa2:bits BinOp.and IntKind.u32 id m=pa:=hpa.symm
     replace hpa:=Lib.hid hpa
     go_upto_region 9 with (go_at_call 113;refine Calls.mono CBt.out ?_;rintro x w5 ⟨rfl,hww⟩;subst hww)
     replace hpa2:=Lib.hid hpa2
     have kp:Blk (w5.alloc (.cells #[.int .u32 pa,.int .u8 pb] 35)) w5.heap.size 35 #[.int .u32 pa,.int .u8 pb]:=Blk.new _ _ _
     have zp:=kb.lt
     replace k0:=k0.alloc (.cells #[.int .u32 pa,.int .u8 pb] 35)
     replace k1:=k1.alloc (.cells #[.int .u32 pa,.int .u8 pb] 35)
     replace kb:=kb.alloc (.cells #[.int .u32 pa,.int .u8 pb] 35)
     replace kB:=below_alloc kB (Nat.le_refl _) (.cells #[.int .u32 pa,.int .u8 pb] 35)
     clear y2 x3 CBt
     generalize w5.alloc (.cells #[.int .u32 pa,.int .u8 pb] 35)=w6 at k0 k1 kB kb kp ⊢
     generalize w5.heap.size=gp at kp zp ⊢
     have x4:=k0.cell 4
     simp only[q'a,q'z,q's] at x4
     replace hR:=hR.out
     have CT:=torouter_any adv l lv B w6 (hl.below (kB.mono hB)) (Nat.le_trans hB kB.size) hn
     try dsimp only at hh hcst
     obtain ⟨⟨near,nq⟩,hnq⟩:∃ x,x=pickP adv l:=⟨_,rfl⟩
     rw[←hnq] at CT hh hcst hR
     clear hnq
     replace hR:=Lib.hid hR
     obtain ⟨⟨n0,n1,n2,n3,n4,n5,n6,n7,n8⟩,nA,nl,nc⟩:=near
     dsimp only[WayV.cells,wayC] at CT hh hcst
     replace CT:=Lib.hid CT
     replace hh:=Lib.hid hh
     go_upto_region 10 with (go_at_call 132;refine Calls.mono CT.out ?_;rintro x w7 ⟨rfl,hB7⟩)
     have kn:Blk (w7.alloc (.cells #[.int .u32 n0,.int .u8 n1,.int .u32 n2,.int .u8 n3,.int .u8 n4,.int .u32 n5,.int .u32 n6,.int .u32 n7,.int .u32 n8,.slice nA nl nc] 38)) w7.heap.size 38 #[.int .u32 n0,.int .u8 n1,.int .u32 n2,.int .u8 n3,.int .u8 n4,.int .u32 n5,.int .u32 n6,.int .u32 n7,.int .u32 n8,.slice nA nl nc]:=Blk.new _ _ _
     have zn:=hB7.size
     have zp2:=kp.lt
     replace k0:=(k0.below hB7 k0.lt).alloc (.cells #[.int .u32 n0,.int .u8 n1,.int .u32 n2,.int .u8 n3,.int .u8 n4,.int .u32 n5,.int .u32 n6,.int .u32 n7,.int .u32 n8,.slice nA nl nc] 38)
     replace k1:=(k1.below hB7 k1.lt).alloc (.cells #[.int .u32 n0,.int .u8 n1,.int .u32 n2,.int .u8 n3,.int .u8 n4,.int .u32 n5,.int .u32 n6,.int .u32 n7,.int .u32 n8,.slice nA nl nc] 38)
     replace kb:=(kb.below hB7 kb.lt).alloc (.cells #[.int .u32 n0,.int .u8 n1,.int .u32 n2,.int .u8 n3,.int .u8 n4,.int .u32 n5,.int .u32 n6,.int .u32 n7,.int .u32 n8,.slice nA nl nc] 38)
     replace kp:=(kp.below hB7 kp.lt).alloc (.cells #[.int .u32 n0,.int .u8 n1,.int .u32 n2,.int .u8 n3,.int .u8 n4,.int .u32 n5,.int .u32 n6,.int .u32 n7,.int .u32 n8,.slice nA nl nc] 38)
     replace kB:=below_alloc (kB.trans (hB7.mono kB.size)) (Nat.le_refl _) (.cells #[.int .u32 n0,.int .u8 n1,.int .u32 n2,.int .u8 n3,.int .u8 n4,.int .u32 n5,.int .u32 n6,.int .u32 n7,.int .u32 n8,.slice nA nl nc] 38)
     clear x4 CT hB7
     generalize w7.alloc (.cells #[.int .u32 n0,.int .u8 n1,.int .u32 n2,.int .u8 n3,.int .u8 n4,.int .u32 n5,.int .u32 n6,.int .u32 n7,.int .u32 n8,.slice nA nl nc] 38)=w8 at k0 k1 kB kb kp kn ⊢
     generalize w7.heap.size=gn at kn zn ⊢
     have z1:=k1.lt
     have y4:=kb.cell 4
     have y6:=kb.cell 6
     have o1:=k0.cell 1
     have p0:=kp.cell 0
     have p1:=kp.cell 1
     simp only[q'a,q'z,q's] at y4 y6 o1 p0 p1
     by_cases hm:16777215≤k
     ·have e1:=decide_eq_true hm
      have hm2:(16777215:Int)≤k:=hm
      have hN:rr=none:=by rw[hR.out];unfold routeB;rw[if_pos (by simp[hm])]
      subst hN
      go_upto_region 13 with fail
      go_wp2_with (refine wpList_store_row rfl 38 (.tmp 10) (.tmp 93) rfl (w.heap.size+1) #[.int .u32 0,.int .u8 0,.int .u32 0,.int .u8 0,.int .u8 0,.int .u32 0,.int .u32 0,.int .u32 0,.int .u32 0,.slice none 0 0] rfl rfl 38 #[.int .u32 0,.int .u8 0,.int .u32 0,.int .u8 0,.int .u8 0,.int .u32 0,.int .u32 0,.int .u32 0,.int .u32 0,.slice none 0 0] k1 (by kernel_rfl) rfl (by simp[Value.oneCell']) ?_)
      refine bodyPost_ret (results_cell_tmp_row rfl _ _ (w.heap.size+1) 38 #[.int .u32 0,.int .u8 0,.int .u32 0,.int .u8 0,.int .u8 0,.int .u32 0,.int .u32 0,.int .u32 0,.int .u32 0,.slice none 0 0] (0,0) _ rfl (blk_setRow k1) Tryz.underlying38 rfl (by kernel_rfl)) rfl ?_
      exact ⟨zeroN,none,0,0,rfl,fun x hx=>(by cases hx),below_setRow kB (by omega) _⟩
     ·have e1:=decide_eq_false hm
      cases nq
      ·have hN:rr=none:=by rw[hR.out];unfold routeB;rw[if_pos (by simp[hm])]
       subst hN
       go_upto_region 13 with fail
       go_wp2_with (refine wpList_store_row rfl 38 (.tmp 10) (.tmp 93) rfl (w.heap.size+1) #[.int .u32 0,.int .u8 0,.int .u32 0,.int .u8 0,.int .u8 0,.int .u32 0,.int .u32 0,.int .u32 0,.int .u32 0,.slice none 0 0] rfl rfl 38 #[.int .u32 0,.int .u8 0,.int .u32 0,.int .u8 0,.int .u8 0,.int .u32 0,.int .u32 0,.int .u32 0,.int .u32 0,.slice none 0 0] k1 (by kernel_rfl) rfl (by simp[Value.oneCell']) ?_)
       refine bodyPost_ret (results_cell_tmp_row rfl _ _ (w.heap.size+1) 38 #[.int .u32 0,.int .u8 0,.int .u32 0,.int .u8 0,.int .u8 0,.int .u32 0,.int .u32 0,.int .u32 0,.int .u32 0,.slice none 0 0] (0,0) _ rfl (blk_setRow k1) Tryz.underlying38 rfl (by kernel_rfl)) rfl ?_
       exact ⟨zeroN,none,0,0,rfl,fun x hx=>(by cases hx),below_setRow kB (by omega) _⟩
      ·have hh1:=hh.out rfl
       obtain rfl:nl=hops.length:=by
        obtain ⟨-,A9,c9,h9,-⟩:=hh1
        injection h9
       go_upto_region 18 with fail
       have zz:=kn.lt
       clear y4 y6 o1 p0 p1
       have hh8:=hh1.below (kB.mono hB)
       have y4:=kb.cell 4
       have y7:=kb.cell 7
       have p0:=kp.cell 0
       have p1:=kp.cell 1
       have m5:=kn.cell 5
       have m6:=kn.cell 6
       have m9:=kn.cell 9
       simp only[q'a,q'z,q's] at y4 y7 p0 p1 m5 m6 m9
       have Y4:∀ W,Below (gn+1) w8 W→W.cell? ⟨gb,4,none⟩=some (.int .u32 k):=fun W h=>(h.cell (p:=⟨gb,4,none⟩) (by show gb<gn+1;omega)).trans y4
       have Y7:∀ W,Below (gn+1) w8 W→W.cell? ⟨gb,7,none⟩=some (.int .u32 tg):=fun W h=>(h.cell (p:=⟨gb,7,none⟩) (by show gb<gn+1;omega)).trans y7
       have P0:∀ W,Below (gn+1) w8 W→W.cell? ⟨gp,0,none⟩=some (.int .u32 pa):=fun W h=>(h.cell (p:=⟨gp,0,none⟩) (by show gp<gn+1;omega)).trans p0
       have P1:∀ W,Below (gn+1) w8 W→W.cell? ⟨gp,1,none⟩=some (.int .u8 pb):=fun W h=>(h.cell (p:=⟨gp,1,none⟩) (by show gp<gn+1;omega)).trans p1
       have M5:∀ W,Below (gn+1) w8 W→W.cell? ⟨gn,5,none⟩=some (.int .u32 n5):=fun W h=>(h.cell (p:=⟨gn,5,none⟩) (by show gn<gn+1;omega)).trans m5
       have M6:∀ W,Below (gn+1) w8 W→W.cell? ⟨gn,6,none⟩=some (.int .u32 n6):=fun W h=>(h.cell (p:=⟨gn,6,none⟩) (by show gn<gn+1;omega)).trans m6
       have M9:∀ W,Below (gn+1) w8 W→W.cell? ⟨gn,9,none⟩=some (.slice nA hops.length nc):=fun W h=>(h.cell (p:=⟨gn,9,none⟩) (by show gn<gn+1;omega)).trans m9
       clear y4 y7 p0 p1 m5 m6 m9
       have QB:=Lib.hid kB
       have Q1:=Lib.hid k1
       have Qb:=Lib.hid kb
       have Qn:=Lib.hid kn
       clear kB k0 k1 kb kp kn
       have hle:gn+1≤w8.heap.size:=by omega
       go_cut [20] (fun v wx=>RtG (gn+1) w8 hops pa pb n5 n6 k tg v wx)
       case first =>
        go_region_held3 (fun W=>Below (gn+1) w8 W) (first | assumption | exact (Below.refl _ _).drew | exact Below.refl _ _ | exact below_alloc hS9 hle _ | exact (below_alloc (Below.refl _ _) hle _).drew | fail)
         (first
          | (refine step_append rfl (.const (.slice none 0 0)) (.tmp 118) 36 rfl (gn+1) hopT (.slice none 0 0) 0 [] rfl (World.ownsRow_nil _ _ _ _) B (.slice nA hops.length nc) hops.length (hops.flatMap hopCells) rfl (by first | exact hh8 | exact Sl.alloc hh8 (by omega) _) hops_oneCell (by simp only[maxLen];omega) (by omega) (Nat.le_trans hle (Below.size (by first | assumption | exact (Below.refl _ _).drew))) ?_;intro hv w9 ho9 hg9 hob9;rw[Nat.zero_add,List.nil_append] at ho9;obtain ⟨-,A9,c9,rfl,-⟩:=Sl.of_own ho9;have hS9:Below (gn+1) w8 w9:=Below.trans (by first | assumption | exact (Below.refl _ _).drew) (below_of_grown hg9 (Nat.le_trans hle (Below.size (by first | assumption | exact (Below.refl _ _).drew))) (fun g hg=>by simp[Value.ownBlock] at hg));have hz9:w8.heap.size≤w9.heap.size:=hS9.size)
          | (refine upon10 (t:=38) (x0:=.int .u32 0) (x1:=.int .u8 0) (x2:=.int .u32 0) (x3:=.int .u8 0) (x4:=.int .u8 0) (x5:=.int .u32 0) (x6:=.int .u32 0) (x7:=.int .u32 0) (x8:=.int .u32 0) (x9:=.slice none 0 0) ?_ _ _ _ _ _ _ _ _ _ _ ?_;(focus (first | exact Blk.new _ _ _ | exact Blk.drew_ (Blk.new _ _ _) | exact ((Blk.drew_ (Blk.new w8 _ _)).same (hg9.block _ (by show w8.heap.size<(w8.alloc _).heap.size;simp) (by simp[Value.ownBlock])))));intro W1 kW1 pW1;have SW1:Below (gn+1) w8 W1:=pW1.below (by assumption) (by omega);go_simp)
          | fail)
        all_goals
         go_wp2_with fail
         go_meet
         case rel =>
          refine ⟨_,A9,c9,rfl,?_,?_,?_,?_⟩
          ·omega
          ·first | exact kW1 | exact Blk.new _ _ _
          ·first | exact own_put pW1 ho9 (by decide) | exact own_alloc ho9 _
          ·first | exact SW1 | exact below_alloc hS9 hle _
       case rest =>
        obtain ⟨gw,A9,c9,rfl,hgw,kw,ho,hS⟩:=hcut
        have k1:=Q1.out.below hS (by omega)
        have kb:=Qb.out.below hS (by omega)
        have kn:=Qn.out.below hS (by omega)
        have hBB:=QB.out.trans (hS.mono (by have:=QB.out.size;omega))
        clear Y4 Y7 P0 P1 M5 M6 M9 Q1 Qb Qn QB hh8 hS hh1
        have y4:=kb.cell 4
        have y5:=kb.cell 5
        have m6:=kn.cell 6
        have v4:=kw.cell 4
        have v6:=kw.cell 6
        have v7:=kw.cell 7
        have f4:=kw.free 4
        have f6:=kw.free 6
        have f7:=kw.free 7
        simp only[q'a,q'z,q's] at y4 y5 m6 v4 v6 v7
        cases t2
        ·have u1:IntKind.u64.wrap n6=n6:=by rw[IntKind.wrap_u64];omega
         have u2:IntKind.u64.wrap k=k:=by rw[IntKind.wrap_u64];omega
         have u3:IntKind.u64.wrap (n6+k)=n6+k:=by rw[IntKind.wrap_u64];omega
         obtain ⟨cz,hcz⟩:∃ x,x=IntKind.u32.wrap (n6+k):=⟨_,rfl⟩
         have u4:IntKind.u32.wrap (n6+k)=cz:=hcz.symm
         replace hcz:=Lib.hid hcz
         have kw2:=((kw.set_ 4 (.int .u8 3)).set_ 7 (.int .u32 0)).set_ 6 (.int .u32 cz)
         simp only[s'a,s'z,s's] at kw2
         have k12:=((k1.far (p:=⟨gw,4,none⟩) (by simp;omega) (.int .u8 3)).far (p:=⟨gw,7,none⟩) (by simp;omega) (.int .u32 0)).far (p:=⟨gw,6,none⟩) (by simp;omega) (.int .u32 cz)
         have hB2:=((hBB.setCell (p:=⟨gw,4,none⟩) (by simp;omega) (.int .u8 3)).setCell (p:=⟨gw,7,none⟩) (by simp;omega) (.int .u32 0)).setCell (p:=⟨gw,6,none⟩) (by simp;omega) (.int .u32 cz)
         have hne:=own_ne8 ho kw (by decide)
         have ho2:(((wc.setCell ⟨gw,4,none⟩ (.int .u8 3)).setCell ⟨gw,7,none⟩ (.int .u32 0)).setCell ⟨gw,6,none⟩ (.int .u32 cz)).ownsRow (gn+1) 47 3 (.slice A9 hops.length c9) hops.length (hops.flatMap hopCells):=own_same ho fun g hg=>(Below.heap_setCell _ _ _ g (hne g hg)).trans ((Below.heap_setCell _ _ _ g (hne g hg)).trans (Below.heap_setCell _ _ _ g (hne g hg)))
         replace hB2:=Lib.hid hB2
         replace ho2:=Lib.hid ho2
         replace kw2:=Lib.hid kw2
         replace k12:=Lib.hid k12
         clear ho k1 kw hBB kn hne
         go_upto_region 23 with fail
         replace hB2:=hB2.out
         replace ho2:=ho2.out
         replace kw2:=kw2.out
         replace k12:=k12.out
         clear y4 y5 m6 v4 v6 v7 f4 f6 f7 kb
         generalize ((wc.setCell ⟨gw,4,none⟩ (.int .u8 3)).setCell ⟨gw,7,none⟩ (.int .u32 0)).setCell ⟨gw,6,none⟩ (.int .u32 cz)=w10 at hB2 ho2 kw2 k12 ⊢
         by_cases hlt:n6+k<4294967296
         ·have e9:=decide_eq_true hlt
          have hcz2:cz=n6+k:=by rw[hcz.out];rw[IntKind.wrap_u32];omega
          have hN:rr=some ⟨pa,pb,0,0,3,n5,n6+k,0,tg⟩:=by rw[hR.out];unfold routeB;rw[if_neg (by simp[hm]),if_neg (by simp),if_pos hlt,hpa.out,hpb.out]
          subst hN
          replace hcz2:=Lib.hid hcz2
          go_wp2_with (first
           | (refine wpList_load_row rfl 38 (.tmp 20) rfl gw rfl 38 #[.int .u32 pa,.int .u8 pb,.int .u32 0,.int .u8 0,.int .u8 3,.int .u32 n5,.int .u32 cz,.int .u32 0,.int .u32 tg,.slice A9 hops.length c9] (0,0) _ kw2 Tryz.underlying38 rfl (by kernel_rfl) ?_)
           | (refine wpList_store_row rfl 38 (.tmp 10) (.tmp 136) rfl (w.heap.size+1) #[.int .u32 pa,.int .u8 pb,.int .u32 0,.int .u8 0,.int .u8 3,.int .u32 n5,.int .u32 cz,.int .u32 0,.int .u32 tg,.slice A9 hops.length c9] rfl rfl 38 #[.int .u32 0,.int .u8 0,.int .u32 0,.int .u8 0,.int .u8 0,.int .u32 0,.int .u32 0,.int .u32 0,.int .u32 0,.slice none 0 0] k12 (by kernel_rfl) rfl (by simp[Value.oneCell']) ?_))
          refine bodyPost_ret (results_cell_tmp_row rfl _ _ (w.heap.size+1) 38 #[.int .u32 pa,.int .u8 pb,.int .u32 0,.int .u8 0,.int .u8 3,.int .u32 n5,.int .u32 cz,.int .u32 0,.int .u32 tg,.slice A9 hops.length c9] (0,0) _ rfl (blk_setRow k12) Tryz.underlying38 rfl (by kernel_rfl)) rfl ?_
          refine ⟨⟨pa,pb,0,0,3,n5,cz,0,tg⟩,A9,hops.length,c9,rfl,fun x hx => ?_,below_setRow hB2 (by omega) _⟩
          obtain rfl:=Option.some.inj hx
          exact ⟨by rw[hcz2.out],own_less (own_same ho2 fun g hg=>setRow_other _ _ g _ (by have:=(ho2.lt g hg).1;omega)) (by omega)⟩
         ·have e9:=decide_eq_false hlt
          have hN:rr=none:=by rw[hR.out];unfold routeB;rw[if_neg (by simp[hm]),if_neg (by simp),if_neg hlt]
          subst hN
          go_wp2_with (first
           | (refine wpList_load_row rfl 38 (.tmp 20) rfl gw rfl 38 #[.int .u32 pa,.int .u8 pb,.int .u32 0,.int .u8 0,.int .u8 3,.int .u32 n5,.int .u32 cz,.int .u32 0,.int .u32 tg,.slice A9 hops.length c9] (0,0) _ kw2 Tryz.underlying38 rfl (by kernel_rfl) ?_)
           | (refine wpList_store_row rfl 38 (.tmp 10) (.tmp 136) rfl (w.heap.size+1) #[.int .u32 pa,.int .u8 pb,.int .u32 0,.int .u8 0,.int .u8 3,.int .u32 n5,.int .u32 cz,.int .u32 0,.int .u32 tg,.slice A9 hops.length c9] rfl rfl 38 #[.int .u32 0,.int .u8 0,.int .u32 0,.int .u8 0,.int .u8 0,.int .u32 0,.int .u32 0,.int .u32 0,.int .u32 0,.slice none 0 0] k12 (by kernel_rfl) rfl (by simp[Value.oneCell']) ?_))
          refine bodyPost_ret (results_cell_tmp_row rfl _ _ (w.heap.size+1) 38 #[.int .u32 pa,.int .u8 pb,.int .u32 0,.int .u8 0,.int .u8 3,.int .u32 n5,.int .u32 cz,.int .u32 0,.int .u32 tg,.slice A9 hops.length c9] (0,0) _ rfl (blk_setRow k12) Tryz.underlying38 rfl (by kernel_rfl)) rfl ?_
          exact ⟨⟨pa,pb,0,0,3,n5,cz,0,tg⟩,A9,hops.length,c9,rfl,fun x hx=>(by cases hx),below_setRow hB2 (by omega) _⟩
        ·have hN:rr=some ⟨pa,pb,0,0,4,n5,n6,k,tg⟩:=by rw[hR.out];unfold routeB;rw[if_neg (by simp[hm]),if_pos rfl,hpa.out,hpb.out]
         subst hN
         go_wp2_with (first
          | (refine wpList_load_row rfl 38 (.tmp 20) rfl gw rfl 38 #[.int .u32 pa,.int .u8 pb,.int .u32 0,.int .u8 0,.int .u8 4,.int .u32 n5,.int .u32 n6,.int .u32 k,.int .u32 tg,.slice A9 hops.length c9] (0,0) _ kw Tryz.underlying38 rfl (by kernel_rfl) ?_)
          | (refine wpList_store_row rfl 38 (.tmp 10) (.tmp 123) rfl (w.heap.size+1) #[.int .u32 pa,.int .u8 pb,.int .u32 0,.int .u8 0,.int .u8 4,.int .u32 n5,.int .u32 n6,.int .u32 k,.int .u32 tg,.slice A9 hops.length c9] rfl rfl 38 #[.int .u32 0,.int .u8 0,.int .u32 0,.int .u8 0,.int .u8 0,.int .u32 0,.int .u32 0,.int .u32 0,.int .u32 0,.slice none 0 0] k1 (by kernel_rfl) rfl (by simp[Value.oneCell']) ?_))
         refine bodyPost_ret (results_cell_tmp_row rfl _ _ (w.heap.size+1) 38 #[.int .u32 pa,.int .u8 pb,.int .u32 0,.int .u8 0,.int .u8 4,.int .u32 n5,.int .u32 n6,.int .u32 k,.int .u32 tg,.slice A9 hops.length c9] (0,0) _ rfl (blk_setRow k1) Tryz.underlying38 rfl (by kernel_rfl)) rfl ?_
         refine ⟨⟨pa,pb,0,0,4,n5,n6,k,tg⟩,A9,hops.length,c9,rfl,fun x hx => ?_,below_setRow hBB (by omega) _⟩
         obtain rfl:=Option.some.inj hx
         exact ⟨rfl,own_less (own_same ho fun g hg=>setRow_other _ _ g _ (by have:=(ho.lt g hg).1;omega)) (by omega)⟩
   ·have hr:rtake 5 ⟨age,opts,5,id,adv,seq,sum,len⟩ body self=false:=by
     simp[rtake,hod]
    have hR:rr=none:=by rw[hrr.out];unfold routeP;rw[show rtake (if false=true then 7 else 5) _ body self=false from hr];rfl
    subst hR
    clear hr
    go_upto_region 5 with (first
     | (go_at_call 130;refine Calls.mono (old_any age _) ?_;rintro x w2 ⟨rfl,hww⟩;subst hww;rw[hod])
     | (go_at_call 131;refine Calls.mono CK.out ?_;rintro x w2 ⟨rfl,hB2⟩))
    go_wp2_with (refine wpList_store_row rfl 38 (.tmp 10) (.tmp 46) rfl (w.heap.size+1) #[.int .u32 0,.int .u8 0,.int .u32 0,.int .u8 0,.int .u8 0,.int .u32 0,.int .u32 0,.int .u32 0,.int .u32 0,.slice none 0 0] rfl rfl 38 #[.int .u32 0,.int .u8 0,.int .u32 0,.int .u8 0,.int .u8 0,.int .u32 0,.int .u32 0,.int .u32 0,.int .u32 0,.slice none 0 0] k1 (by kernel_rfl) rfl (by simp[Value.oneCell']) ?_)
    refine bodyPost_ret (results_cell_tmp_row rfl _ _ (w.heap.size+1) 38 #[.int .u32 0,.int .u8 0,.int .u32 0,.int .u8 0,.int .u8 0,.int .u32 0,.int .u32 0,.int .u32 0,.int .u32 0,.slice none 0 0] (0,0) _ rfl (blk_setRow k1) Tryz.underlying38 rfl (by kernel_rfl)) rfl ?_
    exact ⟨zeroN,none,0,0,rfl,fun x hx=>(by cases hx),below_setRow kB (by omega) _⟩
set_option maxHeartbeats 4000000 in
theorem routeT_any (h:OHead) (ok:HeadOk h) (body:List Int) (self:Int) (l:List WayV) (lv nv bv:Value) (B:Nat) (hops:List Hop) (w:World) (hb:Sl w B 1 bv body.length (body.map u8c)) (hl:Sl w B 10 lv l.length (l.flatMap wayL)) (hB:B≤w.heap.size) (hn:l.length≤1000000) (hbn:body.length≤1099511627776) (hl8:∀ x∈body,0≤x∧x<256)
  (hh:(pickP h.adv l).2=true→Sl w B 3 (.slice (pickP h.adv l).1.A (pickP h.adv l).1.len (pickP h.adv l).1.cap) hops.length (hops.flatMap hopCells)) (hhn:hops.length≤1000000) (hcst:0≤(pickP h.adv l).1.n.cost∧(pickP h.adv l).1.n.cost<4294967296) (hfw:h.type=7→chkP h body (decQ 7 body).2=0→(decQ 7 body).1.fw=0) :
  Calls Tryz.prog 89 #[stateVal h bv,.int .u32 self,.bool true,lv,nv] w fun e w'=>RoutePost (routeP h body self true l) hops w e w':=by
 obtain ⟨age,opts,ty,id,adv,seq,sum,len⟩:=h
 obtain ⟨rr,hrr⟩:∃ r,r=routeP ⟨age,opts,ty,id,adv,seq,sum,len⟩ body self true l:=⟨_,rfl⟩
 rw[←hrr]
 replace hrr:=Lib.hid hrr
 have hb0:=hb
 obtain ⟨-,bA,bc,rfl,-⟩:=hb
 dsimp only[stateVal]
 have k0:Blk ((w.alloc (.cells #[.int .u16 age,.int .u8 opts,.int .u8 ty,.int .u32 id,.int .u32 adv,.int .i32 seq,.int .u16 sum,.int .u16 len,.slice bA body.length bc] 54)).alloc (.cells #[.int .u32 0,.int .u8 0,.int .u32 0,.int .u8 0,.int .u8 0,.int .u32 0,.int .u32 0,.int .u32 0,.int .u32 0,.slice none 0 0] 38)) w.heap.size 54 #[.int .u16 age,.int .u8 opts,.int .u8 ty,.int .u32 id,.int .u32 adv,.int .i32 seq,.int .u16 sum,.int .u16 len,.slice bA body.length bc]:=(Blk.new _ _ _).alloc _
 have k1:Blk ((w.alloc (.cells #[.int .u16 age,.int .u8 opts,.int .u8 ty,.int .u32 id,.int .u32 adv,.int .i32 seq,.int .u16 sum,.int .u16 len,.slice bA body.length bc] 54)).alloc (.cells #[.int .u32 0,.int .u8 0,.int .u32 0,.int .u8 0,.int .u8 0,.int .u32 0,.int .u32 0,.int .u32 0,.int .u32 0,.slice none 0 0] 38)) (w.heap.size+1) 38 #[.int .u32 0,.int .u8 0,.int .u32 0,.int .u8 0,.int .u8 0,.int .u32 0,.int .u32 0,.int .u32 0,.int .u32 0,.slice none 0 0]:=heap_alloc2_new w _ _
 have kB:Below w.heap.size w ((w.alloc (.cells #[.int .u16 age,.int .u8 opts,.int .u8 ty,.int .u32 id,.int .u32 adv,.int .i32 seq,.int .u16 sum,.int .u16 len,.slice bA body.length bc] 54)).alloc (.cells #[.int .u32 0,.int .u8 0,.int .u32 0,.int .u8 0,.int .u8 0,.int .u32 0,.int .u32 0,.int .u32 0,.int .u32 0,.slice none 0 0] 38)):=((Below.refl _ _).alloc (Nat.le_refl _) _).alloc (by simp) _
 go_enter Tryz.func89,Tryz.ntmps89
 go_upto_region 4 with fail
 generalize (w.alloc (.cells #[.int .u16 age,.int .u8 opts,.int .u8 ty,.int .u32 id,.int .u32 adv,.int .i32 seq,.int .u16 sum,.int .u16 len,.slice bA body.length bc] 54)).alloc (.cells #[.int .u32 0,.int .u8 0,.int .u32 0,.int .u8 0,.int .u8 0,.int .u32 0,.int .u32 0,.int .u32 0,.int .u32 0,.slice none 0 0] 38)=w1 at k0 k1 kB ⊢
 have x0:=k0.cell 0
 have x1:=k0.cell 1
 have x2:=k0.cell 2
 have x3:=k0.cell 3
 have x4:=k0.cell 4
 have x5:=k0.cell 5
 have x6:=k0.cell 6
 have x7:=k0.cell 7
 have x8:=k0.cell 8
 simp only[q'a,q'z,q's] at x0 x1 x2 x3 x4 x5 x6 x7 x8
 have z1:=k1.lt
 by_cases ht:ty≠7
 ·have e1:(ty != 7)=true:=by simpa using ht
  have hr:rtake 7 ⟨age,opts,ty,id,adv,seq,sum,len⟩ body self=false:=by
   simp[rtake,ht]
  have hR:rr=none:=by rw[hrr.out];unfold routeP;rw[show rtake (if true=true then 7 else 5) _ body self=false from hr];rfl
  subst hR
  clear hr
  go_upto_region 5 with fail
  go_wp2_with (refine wpList_store_row rfl 38 (.tmp 10) (.tmp 46) rfl (w.heap.size+1) #[.int .u32 0,.int .u8 0,.int .u32 0,.int .u8 0,.int .u8 0,.int .u32 0,.int .u32 0,.int .u32 0,.int .u32 0,.slice none 0 0] rfl rfl 38 #[.int .u32 0,.int .u8 0,.int .u32 0,.int .u8 0,.int .u8 0,.int .u32 0,.int .u32 0,.int .u32 0,.int .u32 0,.slice none 0 0] k1 (by kernel_rfl) rfl (by simp[Value.oneCell']) ?_)
  refine bodyPost_ret (results_cell_tmp_row rfl _ _ (w.heap.size+1) 38 #[.int .u32 0,.int .u8 0,.int .u32 0,.int .u8 0,.int .u8 0,.int .u32 0,.int .u32 0,.int .u32 0,.int .u32 0,.slice none 0 0] (0,0) _ rfl (blk_setRow k1) Tryz.underlying38 rfl (by kernel_rfl)) rfl ?_
  exact ⟨zeroN,none,0,0,rfl,fun x hx=>(by cases hx),below_setRow kB (by omega) _⟩
 ·have ht2:ty=7:=Decidable.not_not.1 ht
  subst ht2
  clear ht
  by_cases ha:adv=self
  ·have e1:(adv==self)=true:=by simpa using ha
   have hr:rtake 7 ⟨age,opts,7,id,adv,seq,sum,len⟩ body self=false:=by
    simp[rtake,ha]
   have hR:rr=none:=by rw[hrr.out];unfold routeP;rw[show rtake (if true=true then 7 else 5) _ body self=false from hr];rfl
   subst hR
   clear hr
   replace ha:=Lib.hid ha
   go_upto_region 5 with fail
   go_wp2_with (refine wpList_store_row rfl 38 (.tmp 10) (.tmp 46) rfl (w.heap.size+1) #[.int .u32 0,.int .u8 0,.int .u32 0,.int .u8 0,.int .u8 0,.int .u32 0,.int .u32 0,.int .u32 0,.int .u32 0,.slice none 0 0] rfl rfl 38 #[.int .u32 0,.int .u8 0,.int .u32 0,.int .u8 0,.int .u8 0,.int .u32 0,.int .u32 0,.int .u32 0,.int .u32 0,.slice none 0 0] k1 (by kernel_rfl) rfl (by simp[Value.oneCell']) ?_)
   refine bodyPost_ret (results_cell_tmp_row rfl _ _ (w.heap.size+1) 38 #[.int .u32 0,.int .u8 0,.int .u32 0,.int .u8 0,.int .u8 0,.int .u32 0,.int .u32 0,.int .u32 0,.int .u32 0,.slice none 0 0] (0,0) _ rfl (blk_setRow k1) Tryz.underlying38 rfl (by kernel_rfl)) rfl ?_
   exact ⟨zeroN,none,0,0,rfl,fun x hx=>(by cases hx),below_setRow kB (by omega) _⟩
  ·have e1:(adv==self)=false:=by simpa using ha
   cases hod:oldP age
   ·have CK:=checkG_any 7 (by omega) ⟨age,opts,7,id,adv,seq,sum,len⟩ ok B (.slice bA body.length bc) body w1 (hb0.below (kB.mono hB)) (Nat.le_trans hB kB.size) hbn hl8 rfl
    dsimp only[stateVal] at CK
    obtain ⟨r,hr0⟩:∃ r,r=chkP ⟨age,opts,7,id,adv,seq,sum,len⟩ body (decQ 7 body).2:=⟨_,rfl⟩
    rw[←hr0] at CK
    replace CK:=Lib.hid CK
    by_cases hc:r≠0
    ·have e2:(r != 0)=true:=by simpa using hc
     have hr:rtake 7 ⟨age,opts,7,id,adv,seq,sum,len⟩ body self=false:=by
      have h1:(chkP ⟨age,opts,7,id,adv,seq,sum,len⟩ body (decQ 7 body).2==0)=false:=by rw[←hr0];simpa using hc
      simp[rtake,h1]
     have hR:rr=none:=by rw[hrr.out];unfold routeP;rw[show rtake (if true=true then 7 else 5) _ body self=false from hr];rfl
     subst hR
     clear hr
     replace hc:=Lib.hid hc
     replace hr0:=Lib.hid hr0
     go_upto_region 5 with (first
      | (go_at_call 130;refine Calls.mono (old_any age _) ?_;rintro x w2 ⟨rfl,hww⟩;subst hww;rw[hod])
      | (go_at_call 131;refine Calls.mono CK.out ?_;rintro x w2 ⟨rfl,hB2⟩))
     have k1:=k1.below hB2 k1.lt
     have kB:=kB.trans (hB2.mono kB.size)
     go_wp2_with (refine wpList_store_row rfl 38 (.tmp 10) (.tmp 46) rfl (w.heap.size+1) #[.int .u32 0,.int .u8 0,.int .u32 0,.int .u8 0,.int .u8 0,.int .u32 0,.int .u32 0,.int .u32 0,.int .u32 0,.slice none 0 0] rfl rfl 38 #[.int .u32 0,.int .u8 0,.int .u32 0,.int .u8 0,.int .u8 0,.int .u32 0,.int .u32 0,.int .u32 0,.int .u32 0,.slice none 0 0] k1 (by kernel_rfl) rfl (by simp[Value.oneCell']) ?_)
     refine bodyPost_ret (results_cell_tmp_row rfl _ _ (w.heap.size+1) 38 #[.int .u32 0,.int .u8 0,.int .u32 0,.int .u8 0,.int .u8 0,.int .u32 0,.int .u32 0,.int .u32 0,.int .u32 0,.slice none 0 0] (0,0) _ rfl (blk_setRow k1) Tryz.underlying38 rfl (by kernel_rfl)) rfl ?_
     exact ⟨zeroN,none,0,0,rfl,fun x hx=>(by cases hx),below_setRow kB (by omega) _⟩
    ·have hc2:r=0:=Decidable.not_not.1 hc
     subst hc2
     clear hc
     have hlen0:=chk_lenO hr0.symm
     have h2:(adv != self)=true:=by simpa using ha
     have h3:(chkP ⟨age,opts,7,id,adv,seq,sum,len⟩ body (decQ 7 body).2==0)=true:=by rw[←hr0];rfl
     have hr:rtake 7 ⟨age,opts,7,id,adv,seq,sum,len⟩ body self=true:=by unfold rtake;simp only[h3,h2,hod];rfl
     clear h2 h3
     have hR:rr=routeB ⟨age,opts,7,id,adv,seq,sum,len⟩ (decQ 7 body).1 true (pickP adv l):=by rw[hrr.out];unfold routeP;rw[show rtake (if true=true then 7 else 5) _ body self=true from hr];rfl
     clear hr
     have hfw0:=hfw rfl hr0.symm
     replace ha:=Lib.hid ha
     replace hr0:=Lib.hid hr0
     replace hlen0:=Lib.hid hlen0
     go_upto_region 6 with (first
      | (go_at_call 130;refine Calls.mono (old_any age _) ?_;rintro x w2 ⟨rfl,hww⟩;subst hww;rw[hod])
      | (go_at_call 131;refine Calls.mono CK.out ?_;rintro x w2 ⟨rfl,hB2⟩))
     replace k0:=k0.below hB2 k0.lt
     replace k1:=k1.below hB2 k1.lt
     replace kB:=kB.trans (hB2.mono kB.size)
     clear x0 x1 x2 x3 x4 x5 x6 x7 x8 hB2 CK z1
     have z1:=k1.lt
     have CD:=decode_any 7 (by omega) ⟨age,opts,7,id,adv,seq,sum,len⟩ B (.slice bA body.length bc) body w2 (hb0.below (kB.mono hB)) (Nat.le_trans hB kB.size) (by have h1:=ok.len;have h2:=hlen0.out;dsimp only at h1 h2;omega) hl8 rfl hlen0.out
     dsimp only[stateVal,DecPost] at CD
     have hmet:=decQ_metric 7 body
     obtain ⟨d,hd⟩:∃ d,d=decQ 7 body:=⟨_,rfl⟩
     skip
     rw[←hd] at CD hmet hfw0 hR
     obtain ⟨⟨fl,ls,m,rs,k,t2,fw,tg,ds⟩,de⟩:=d
     dsimp only at hmet hfw0 CD hR
     subst hfw0
     clear hd
     replace hR:=Lib.hid hR
     replace CD:=Lib.hid CD
     go_upto_region 7 with (first
      | (refine wpList_load_row rfl 54 (.tmp 5) rfl w.heap.size rfl 54 #[.int .u16 age,.int .u8 opts,.int .u8 7,.int .u32 id,.int .u32 adv,.int .i32 seq,.int .u16 sum,.int .u16 len,.slice bA body.length bc] (0,0) _ k0 Tryz.underlying54 rfl (by kernel_rfl) ?_)
      | (go_at_call 62;refine Calls.mono CD.out ?_;rintro x w3 ⟨csd,rfl,hBAd,hB3⟩;obtain ⟨A1,c1,A2,c2,A3,c3,rfl,-⟩:=hBAd;dsimp only))
     have kb:Blk (w3.alloc (.cells (bodyC fl A1 ls.length c1 m A2 rs.length c2 k t2 0 tg A3 ds.length c3) 93)) w3.heap.size 93 (bodyC fl A1 ls.length c1 m A2 rs.length c2 k t2 0 tg A3 ds.length c3):=Blk.new _ _ _
     replace k0:=(k0.below hB3 k0.lt).alloc (.cells (bodyC fl A1 ls.length c1 m A2 rs.length c2 k t2 0 tg A3 ds.length c3) 93)
     replace k1:=(k1.below hB3 k1.lt).alloc (.cells (bodyC fl A1 ls.length c1 m A2 rs.length c2 k t2 0 tg A3 ds.length c3) 93)
     replace kB:=below_alloc (kB.trans (hB3.mono kB.size)) (Nat.le_refl _) (.cells (bodyC fl A1 ls.length c1 m A2 rs.length c2 k t2 0 tg A3 ds.length c3) 93)
     have zb:=hB3.size
     clear CD hB3
     dsimp only[bodyC] at k0 k1 kB kb
     generalize w3.alloc (.cells (#[.int .u8 fl,.slice A1 ls.length c1,.int .u32 m,.slice A2 rs.length c2,.int .u32 k,.bool t2,.int .u32 0,.int .u32 tg,.slice A3 ds.length c3]:Array Value) 93)=w4 at k0 k1 kB kb ⊢
     obtain ⟨gb,hgb⟩:∃ g,g=w3.heap.size:=⟨_,rfl⟩
     rw[←hgb] at kb zb ⊢
     clear hgb
     have y2:=kb.cell 2
     have x3:=k0.cell 3
     simp only[q'a,q'z,q's] at y2 x3
     obtain ⟨pb,hpb⟩:∃ x,x=bitsV m:=⟨_,rfl⟩
     obtain ⟨pa,hpa⟩:∃ x,x=bits BinOp.and IntKind.u32 id m:=⟨_,rfl⟩
     have CBt:=bits_any m w4
     rw[←hpb] at CBt
     replace CBt:=Lib.hid CBt
     replace hpb:=Lib.hid hpb
     have hpa2:bits BinOp.and IntKind.u32 id m=pa:=hpa.symm
     replace hpa:=Lib.hid hpa
     go_upto_region 9 with (go_at_call 113;refine Calls.mono CBt.out ?_;rintro x w5 ⟨rfl,hww⟩;subst hww)
     replace hpa2:=Lib.hid hpa2
     have kp:Blk (w5.alloc (.cells #[.int .u32 pa,.int .u8 pb] 35)) w5.heap.size 35 #[.int .u32 pa,.int .u8 pb]:=Blk.new _ _ _
     have zp:=kb.lt
     replace k0:=k0.alloc (.cells #[.int .u32 pa,.int .u8 pb] 35)
     replace k1:=k1.alloc (.cells #[.int .u32 pa,.int .u8 pb] 35)
     replace kb:=kb.alloc (.cells #[.int .u32 pa,.int .u8 pb] 35)
     replace kB:=below_alloc kB (Nat.le_refl _) (.cells #[.int .u32 pa,.int .u8 pb] 35)
     clear y2 x3 CBt
     generalize w5.alloc (.cells #[.int .u32 pa,.int .u8 pb] 35)=w6 at k0 k1 kB kb kp ⊢
     generalize w5.heap.size=gp at kp zp ⊢
     have x4:=k0.cell 4
     simp only[q'a,q'z,q's] at x4
     replace hR:=hR.out
     have CT:=torouter_any adv l lv B w6 (hl.below (kB.mono hB)) (Nat.le_trans hB kB.size) hn
     try dsimp only at hh hcst
     obtain ⟨⟨near,nq⟩,hnq⟩:∃ x,x=pickP adv l:=⟨_,rfl⟩
     rw[←hnq] at CT hh hcst hR
     clear hnq
     replace hR:=Lib.hid hR
     obtain ⟨⟨n0,n1,n2,n3,n4,n5,n6,n7,n8⟩,nA,nl,nc⟩:=near
     dsimp only[WayV.cells,wayC] at CT hh hcst
     replace CT:=Lib.hid CT
     replace hh:=Lib.hid hh
     go_upto_region 10 with (go_at_call 132;refine Calls.mono CT.out ?_;rintro x w7 ⟨rfl,hB7⟩)
     have kn:Blk (w7.alloc (.cells #[.int .u32 n0,.int .u8 n1,.int .u32 n2,.int .u8 n3,.int .u8 n4,.int .u32 n5,.int .u32 n6,.int .u32 n7,.int .u32 n8,.slice nA nl nc] 38)) w7.heap.size 38 #[.int .u32 n0,.int .u8 n1,.int .u32 n2,.int .u8 n3,.int .u8 n4,.int .u32 n5,.int .u32 n6,.int .u32 n7,.int .u32 n8,.slice nA nl nc]:=Blk.new _ _ _
     have zn:=hB7.size
     have zp2:=kp.lt
     replace k0:=(k0.below hB7 k0.lt).alloc (.cells #[.int .u32 n0,.int .u8 n1,.int .u32 n2,.int .u8 n3,.int .u8 n4,.int .u32 n5,.int .u32 n6,.int .u32 n7,.int .u32 n8,.slice nA nl nc] 38)
     replace k1:=(k1.below hB7 k1.lt).alloc (.cells #[.int .u32 n0,.int .u8 n1,.int .u32 n2,.int .u8 n3,.int .u8 n4,.int .u32 n5,.int .u32 n6,.int .u32 n7,.int .u32 n8,.slice nA nl nc] 38)
     replace kb:=(kb.below hB7 kb.lt).alloc (.cells #[.int .u32 n0,.int .u8 n1,.int .u32 n2,.int .u8 n3,.int .u8 n4,.int .u32 n5,.int .u32 n6,.int .u32 n7,.int .u32 n8,.slice nA nl nc] 38)
     replace kp:=(kp.below hB7 kp.lt).alloc (.cells #[.int .u32 n0,.int .u8 n1,.int .u32 n2,.int .u8 n3,.int .u8 n4,.int .u32 n5,.int .u32 n6,.int .u32 n7,.int .u32 n8,.slice nA nl nc] 38)
     replace kB:=below_alloc (kB.trans (hB7.mono kB.size)) (Nat.le_refl _) (.cells #[.int .u32 n0,.int .u8 n1,.int .u32 n2,.int .u8 n3,.int .u8 n4,.int .u32 n5,.int .u32 n6,.int .u32 n7,.int .u32 n8,.slice nA nl nc] 38)
     clear x4 CT hB7
     generalize w7.alloc (.cells #[.int .u32 n0,.int .u8 n1,.int .u32 n2,.int .u8 n3,.int .u8 n4,.int .u32 n5,.int .u32 n6,.int .u32 n7,.int .u32 n8,.slice nA nl nc] 38)=w8 at k0 k1 kB kb kp kn ⊢
     generalize w7.heap.size=gn at kn zn ⊢
     have z1:=k1.lt
     have y4:=kb.cell 4
     have y6:=kb.cell 6
     have o1:=k0.cell 1
     have p0:=kp.cell 0
     have p1:=kp.cell 1
     simp only[q'a,q'z,q's] at y4 y6 o1 p0 p1
     by_cases hm:16777215≤k
     ·have e1:=decide_eq_true hm
      have hm2:(16777215:Int)≤k:=hm
      have hN:rr=none:=by rw[hR.out];unfold routeB;rw[if_pos (by simp[hm])]
      subst hN
      go_upto_region 13 with fail
      go_wp2_with (refine wpList_store_row rfl 38 (.tmp 10) (.tmp 93) rfl (w.heap.size+1) #[.int .u32 0,.int .u8 0,.int .u32 0,.int .u8 0,.int .u8 0,.int .u32 0,.int .u32 0,.int .u32 0,.int .u32 0,.slice none 0 0] rfl rfl 38 #[.int .u32 0,.int .u8 0,.int .u32 0,.int .u8 0,.int .u8 0,.int .u32 0,.int .u32 0,.int .u32 0,.int .u32 0,.slice none 0 0] k1 (by kernel_rfl) rfl (by simp[Value.oneCell']) ?_)
      refine bodyPost_ret (results_cell_tmp_row rfl _ _ (w.heap.size+1) 38 #[.int .u32 0,.int .u8 0,.int .u32 0,.int .u8 0,.int .u8 0,.int .u32 0,.int .u32 0,.int .u32 0,.int .u32 0,.slice none 0 0] (0,0) _ rfl (blk_setRow k1) Tryz.underlying38 rfl (by kernel_rfl)) rfl ?_
      exact ⟨zeroN,none,0,0,rfl,fun x hx=>(by cases hx),below_setRow kB (by omega) _⟩
     ·have e1:=decide_eq_false hm
      have heq:=fun W=>eql_pre0 pa pb W
      obtain ⟨zz0,hzz0⟩:∃ x,x=(decide (pa=0) && decide (pb=0)):=⟨_,rfl⟩
      rw[←hzz0] at heq
      replace hzz0:=Lib.hid hzz0
      obtain ⟨np,hnp⟩:∃ x,x=(bits BinOp.and IntKind.u8 opts 8==0):=⟨_,rfl⟩
      have hnp2:(bits BinOp.and IntKind.u8 opts 8==0)=np:=hnp.symm
      replace hnp:=Lib.hid hnp
      have hez:(decide (bits BinOp.and IntKind.u32 id m=0) && decide (bitsV m=0))=zz0:=by rw[←hpa.out,←hpb.out,←hzz0.out]
      have hen:(bits BinOp.and IntKind.u8 opts 8==0)=np:=hnp.out.symm
      replace hez:=Lib.hid hez
      cases zz0
      ·cases np
       ·have hcond:((true && ((decide (bits BinOp.and IntKind.u32 id m=0) && decide (bitsV m=0)) && bits BinOp.and IntKind.u8 opts 8==0)))=false:=by rw[show (decide (bits BinOp.and IntKind.u32 id m=0) && decide (bitsV m=0))=_ from hez.out,show (bits BinOp.and IntKind.u8 opts 8==0)=_ from hnp.out.symm];rfl
        replace hcond:=Lib.hid hcond
        cases nq
        ·have hN:rr=none:=by rw[hR.out];unfold routeB;rw[if_pos (by simp[hm])]
         subst hN
         go_upto_region 13 with fail
         go_wp2_with (refine wpList_store_row rfl 38 (.tmp 10) (.tmp 93) rfl (w.heap.size+1) #[.int .u32 0,.int .u8 0,.int .u32 0,.int .u8 0,.int .u8 0,.int .u32 0,.int .u32 0,.int .u32 0,.int .u32 0,.slice none 0 0] rfl rfl 38 #[.int .u32 0,.int .u8 0,.int .u32 0,.int .u8 0,.int .u8 0,.int .u32 0,.int .u32 0,.int .u32 0,.int .u32 0,.slice none 0 0] k1 (by kernel_rfl) rfl (by simp[Value.oneCell']) ?_)
         refine bodyPost_ret (results_cell_tmp_row rfl _ _ (w.heap.size+1) 38 #[.int .u32 0,.int .u8 0,.int .u32 0,.int .u8 0,.int .u8 0,.int .u32 0,.int .u32 0,.int .u32 0,.int .u32 0,.slice none 0 0] (0,0) _ rfl (blk_setRow k1) Tryz.underlying38 rfl (by kernel_rfl)) rfl ?_
         exact ⟨zeroN,none,0,0,rfl,fun x hx=>(by cases hx),below_setRow kB (by omega) _⟩
        ·have hh1:=hh.out rfl
         obtain rfl:nl=hops.length:=by
          obtain ⟨-,A9,c9,h9,-⟩:=hh1
          injection h9
         go_upto_region 18 with fail
         have zz:=kn.lt
         clear y4 y6 o1 p0 p1
         have hh8:=hh1.below (kB.mono hB)
         have y4:=kb.cell 4
         have y7:=kb.cell 7
         have p0:=kp.cell 0
         have p1:=kp.cell 1
         have m5:=kn.cell 5
         have m6:=kn.cell 6
         have m9:=kn.cell 9
         simp only[q'a,q'z,q's] at y4 y7 p0 p1 m5 m6 m9
         have Y4:∀ W,Below (gn+1) w8 W→W.cell? ⟨gb,4,none⟩=some (.int .u32 k):=fun W h=>(h.cell (p:=⟨gb,4,none⟩) (by show gb<gn+1;omega)).trans y4
         have Y7:∀ W,Below (gn+1) w8 W→W.cell? ⟨gb,7,none⟩=some (.int .u32 tg):=fun W h=>(h.cell (p:=⟨gb,7,none⟩) (by show gb<gn+1;omega)).trans y7
         have P0:∀ W,Below (gn+1) w8 W→W.cell? ⟨gp,0,none⟩=some (.int .u32 pa):=fun W h=>(h.cell (p:=⟨gp,0,none⟩) (by show gp<gn+1;omega)).trans p0
         have P1:∀ W,Below (gn+1) w8 W→W.cell? ⟨gp,1,none⟩=some (.int .u8 pb):=fun W h=>(h.cell (p:=⟨gp,1,none⟩) (by show gp<gn+1;omega)).trans p1
         have M5:∀ W,Below (gn+1) w8 W→W.cell? ⟨gn,5,none⟩=some (.int .u32 n5):=fun W h=>(h.cell (p:=⟨gn,5,none⟩) (by show gn<gn+1;omega)).trans m5
         have M6:∀ W,Below (gn+1) w8 W→W.cell? ⟨gn,6,none⟩=some (.int .u32 n6):=fun W h=>(h.cell (p:=⟨gn,6,none⟩) (by show gn<gn+1;omega)).trans m6
         have M9:∀ W,Below (gn+1) w8 W→W.cell? ⟨gn,9,none⟩=some (.slice nA hops.length nc):=fun W h=>(h.cell (p:=⟨gn,9,none⟩) (by show gn<gn+1;omega)).trans m9
         clear y4 y7 p0 p1 m5 m6 m9
         have QB:=Lib.hid kB
         have Q1:=Lib.hid k1
         have Qb:=Lib.hid kb
         have Qn:=Lib.hid kn
         clear kB k0 k1 kb kp kn
         have hle:gn+1≤w8.heap.size:=by omega
         go_cut [20] (fun v wx=>RtG (gn+1) w8 hops pa pb n5 n6 k tg v wx)
         case first =>
          go_region_held3 (fun W=>Below (gn+1) w8 W) (first | assumption | exact (Below.refl _ _).drew | exact Below.refl _ _ | exact below_alloc hS9 hle _ | exact (below_alloc (Below.refl _ _) hle _).drew | fail)
           (first
            | (refine step_append rfl (.const (.slice none 0 0)) (.tmp 118) 36 rfl (gn+1) hopT (.slice none 0 0) 0 [] rfl (World.ownsRow_nil _ _ _ _) B (.slice nA hops.length nc) hops.length (hops.flatMap hopCells) rfl (by first | exact hh8 | exact Sl.alloc hh8 (by omega) _) hops_oneCell (by simp only[maxLen];omega) (by omega) (Nat.le_trans hle (Below.size (by first | assumption | exact (Below.refl _ _).drew))) ?_;intro hv w9 ho9 hg9 hob9;rw[Nat.zero_add,List.nil_append] at ho9;obtain ⟨-,A9,c9,rfl,-⟩:=Sl.of_own ho9;have hS9:Below (gn+1) w8 w9:=Below.trans (by first | assumption | exact (Below.refl _ _).drew) (below_of_grown hg9 (Nat.le_trans hle (Below.size (by first | assumption | exact (Below.refl _ _).drew))) (fun g hg=>by simp[Value.ownBlock] at hg));have hz9:w8.heap.size≤w9.heap.size:=hS9.size)
            | (refine upon10 (t:=38) (x0:=.int .u32 0) (x1:=.int .u8 0) (x2:=.int .u32 0) (x3:=.int .u8 0) (x4:=.int .u8 0) (x5:=.int .u32 0) (x6:=.int .u32 0) (x7:=.int .u32 0) (x8:=.int .u32 0) (x9:=.slice none 0 0) ?_ _ _ _ _ _ _ _ _ _ _ ?_;(focus (first | exact Blk.new _ _ _ | exact Blk.drew_ (Blk.new _ _ _) | exact ((Blk.drew_ (Blk.new w8 _ _)).same (hg9.block _ (by show w8.heap.size<(w8.alloc _).heap.size;simp) (by simp[Value.ownBlock])))));intro W1 kW1 pW1;have SW1:Below (gn+1) w8 W1:=pW1.below (by assumption) (by omega);go_simp)
            | fail)
          all_goals
           go_wp2_with fail
           go_meet
           case rel =>
            refine ⟨_,A9,c9,rfl,?_,?_,?_,?_⟩
            ·omega
            ·first | exact kW1 | exact Blk.new _ _ _
            ·first | exact own_put pW1 ho9 (by decide) | exact own_alloc ho9 _
            ·first | exact SW1 | exact below_alloc hS9 hle _
         case rest =>
          obtain ⟨gw,A9,c9,rfl,hgw,kw,ho,hS⟩:=hcut
          have k1:=Q1.out.below hS (by omega)
          have kb:=Qb.out.below hS (by omega)
          have kn:=Qn.out.below hS (by omega)
          have hBB:=QB.out.trans (hS.mono (by have:=QB.out.size;omega))
          clear Y4 Y7 P0 P1 M5 M6 M9 Q1 Qb Qn QB hh8 hS hh1
          have y4:=kb.cell 4
          have y5:=kb.cell 5
          have m6:=kn.cell 6
          have v4:=kw.cell 4
          have v6:=kw.cell 6
          have v7:=kw.cell 7
          have f4:=kw.free 4
          have f6:=kw.free 6
          have f7:=kw.free 7
          simp only[q'a,q'z,q's] at y4 y5 m6 v4 v6 v7
          cases t2
          ·have u1:IntKind.u64.wrap n6=n6:=by rw[IntKind.wrap_u64];omega
           have u2:IntKind.u64.wrap k=k:=by rw[IntKind.wrap_u64];omega
           have u3:IntKind.u64.wrap (n6+k)=n6+k:=by rw[IntKind.wrap_u64];omega
           obtain ⟨cz,hcz⟩:∃ x,x=IntKind.u32.wrap (n6+k):=⟨_,rfl⟩
           have u4:IntKind.u32.wrap (n6+k)=cz:=hcz.symm
           replace hcz:=Lib.hid hcz
           have kw2:=((kw.set_ 4 (.int .u8 3)).set_ 7 (.int .u32 0)).set_ 6 (.int .u32 cz)
           simp only[s'a,s'z,s's] at kw2
           have k12:=((k1.far (p:=⟨gw,4,none⟩) (by simp;omega) (.int .u8 3)).far (p:=⟨gw,7,none⟩) (by simp;omega) (.int .u32 0)).far (p:=⟨gw,6,none⟩) (by simp;omega) (.int .u32 cz)
           have hB2:=((hBB.setCell (p:=⟨gw,4,none⟩) (by simp;omega) (.int .u8 3)).setCell (p:=⟨gw,7,none⟩) (by simp;omega) (.int .u32 0)).setCell (p:=⟨gw,6,none⟩) (by simp;omega) (.int .u32 cz)
           have hne:=own_ne8 ho kw (by decide)
           have ho2:(((wc.setCell ⟨gw,4,none⟩ (.int .u8 3)).setCell ⟨gw,7,none⟩ (.int .u32 0)).setCell ⟨gw,6,none⟩ (.int .u32 cz)).ownsRow (gn+1) 47 3 (.slice A9 hops.length c9) hops.length (hops.flatMap hopCells):=own_same ho fun g hg=>(Below.heap_setCell _ _ _ g (hne g hg)).trans ((Below.heap_setCell _ _ _ g (hne g hg)).trans (Below.heap_setCell _ _ _ g (hne g hg)))
           replace hB2:=Lib.hid hB2
           replace ho2:=Lib.hid ho2
           replace kw2:=Lib.hid kw2
           replace k12:=Lib.hid k12
           clear ho k1 kw hBB kn hne
           go_upto_region 23 with fail
           replace hB2:=hB2.out
           replace ho2:=ho2.out
           replace kw2:=kw2.out
           replace k12:=k12.out
           clear y4 y5 m6 v4 v6 v7 f4 f6 f7 kb
           generalize ((wc.setCell ⟨gw,4,none⟩ (.int .u8 3)).setCell ⟨gw,7,none⟩ (.int .u32 0)).setCell ⟨gw,6,none⟩ (.int .u32 cz)=w10 at hB2 ho2 kw2 k12 ⊢
           by_cases hlt:n6+k<4294967296
           ·have e9:=decide_eq_true hlt
            have hcz2:cz=n6+k:=by rw[hcz.out];rw[IntKind.wrap_u32];omega
            have hN:rr=some ⟨pa,pb,0,0,3,n5,n6+k,0,tg⟩:=by rw[hR.out];unfold routeB;rw[if_neg (by simp[hm,hcond.out]),if_neg (by simp),if_pos hlt,hpa.out,hpb.out]
            subst hN
            replace hcz2:=Lib.hid hcz2
            go_wp2_with (first
             | (refine wpList_load_row rfl 38 (.tmp 20) rfl gw rfl 38 #[.int .u32 pa,.int .u8 pb,.int .u32 0,.int .u8 0,.int .u8 3,.int .u32 n5,.int .u32 cz,.int .u32 0,.int .u32 tg,.slice A9 hops.length c9] (0,0) _ kw2 Tryz.underlying38 rfl (by kernel_rfl) ?_)
             | (refine wpList_store_row rfl 38 (.tmp 10) (.tmp 136) rfl (w.heap.size+1) #[.int .u32 pa,.int .u8 pb,.int .u32 0,.int .u8 0,.int .u8 3,.int .u32 n5,.int .u32 cz,.int .u32 0,.int .u32 tg,.slice A9 hops.length c9] rfl rfl 38 #[.int .u32 0,.int .u8 0,.int .u32 0,.int .u8 0,.int .u8 0,.int .u32 0,.int .u32 0,.int .u32 0,.int .u32 0,.slice none 0 0] k12 (by kernel_rfl) rfl (by simp[Value.oneCell']) ?_))
            refine bodyPost_ret (results_cell_tmp_row rfl _ _ (w.heap.size+1) 38 #[.int .u32 pa,.int .u8 pb,.int .u32 0,.int .u8 0,.int .u8 3,.int .u32 n5,.int .u32 cz,.int .u32 0,.int .u32 tg,.slice A9 hops.length c9] (0,0) _ rfl (blk_setRow k12) Tryz.underlying38 rfl (by kernel_rfl)) rfl ?_
            refine ⟨⟨pa,pb,0,0,3,n5,cz,0,tg⟩,A9,hops.length,c9,rfl,fun x hx => ?_,below_setRow hB2 (by omega) _⟩
            obtain rfl:=Option.some.inj hx
            exact ⟨by rw[hcz2.out],own_less (own_same ho2 fun g hg=>setRow_other _ _ g _ (by have:=(ho2.lt g hg).1;omega)) (by omega)⟩
           ·have e9:=decide_eq_false hlt
            have hN:rr=none:=by rw[hR.out];unfold routeB;rw[if_neg (by simp[hm,hcond.out]),if_neg (by simp),if_neg hlt]
            subst hN
            go_wp2_with (first
             | (refine wpList_load_row rfl 38 (.tmp 20) rfl gw rfl 38 #[.int .u32 pa,.int .u8 pb,.int .u32 0,.int .u8 0,.int .u8 3,.int .u32 n5,.int .u32 cz,.int .u32 0,.int .u32 tg,.slice A9 hops.length c9] (0,0) _ kw2 Tryz.underlying38 rfl (by kernel_rfl) ?_)
             | (refine wpList_store_row rfl 38 (.tmp 10) (.tmp 136) rfl (w.heap.size+1) #[.int .u32 pa,.int .u8 pb,.int .u32 0,.int .u8 0,.int .u8 3,.int .u32 n5,.int .u32 cz,.int .u32 0,.int .u32 tg,.slice A9 hops.length c9] rfl rfl 38 #[.int .u32 0,.int .u8 0,.int .u32 0,.int .u8 0,.int .u8 0,.int .u32 0,.int .u32 0,.int .u32 0,.int .u32 0,.slice none 0 0] k12 (by kernel_rfl) rfl (by simp[Value.oneCell']) ?_))
            refine bodyPost_ret (results_cell_tmp_row rfl _ _ (w.heap.size+1) 38 #[.int .u32 pa,.int .u8 pb,.int .u32 0,.int .u8 0,.int .u8 3,.int .u32 n5,.int .u32 cz,.int .u32 0,.int .u32 tg,.slice A9 hops.length c9] (0,0) _ rfl (blk_setRow k12) Tryz.underlying38 rfl (by kernel_rfl)) rfl ?_
            exact ⟨⟨pa,pb,0,0,3,n5,cz,0,tg⟩,A9,hops.length,c9,rfl,fun x hx=>(by cases hx),below_setRow hB2 (by omega) _⟩
          ·have hN:rr=some ⟨pa,pb,0,0,4,n5,n6,k,tg⟩:=by rw[hR.out];unfold routeB;rw[if_neg (by simp[hm,hcond.out]),if_pos rfl,hpa.out,hpb.out]
           subst hN
           go_wp2_with (first
            | (refine wpList_load_row rfl 38 (.tmp 20) rfl gw rfl 38 #[.int .u32 pa,.int .u8 pb,.int .u32 0,.int .u8 0,.int .u8 4,.int .u32 n5,.int .u32 n6,.int .u32 k,.int .u32 tg,.slice A9 hops.length c9] (0,0) _ kw Tryz.underlying38 rfl (by kernel_rfl) ?_)
            | (refine wpList_store_row rfl 38 (.tmp 10) (.tmp 123) rfl (w.heap.size+1) #[.int .u32 pa,.int .u8 pb,.int .u32 0,.int .u8 0,.int .u8 4,.int .u32 n5,.int .u32 n6,.int .u32 k,.int .u32 tg,.slice A9 hops.length c9] rfl rfl 38 #[.int .u32 0,.int .u8 0,.int .u32 0,.int .u8 0,.int .u8 0,.int .u32 0,.int .u32 0,.int .u32 0,.int .u32 0,.slice none 0 0] k1 (by kernel_rfl) rfl (by simp[Value.oneCell']) ?_))
           refine bodyPost_ret (results_cell_tmp_row rfl _ _ (w.heap.size+1) 38 #[.int .u32 pa,.int .u8 pb,.int .u32 0,.int .u8 0,.int .u8 4,.int .u32 n5,.int .u32 n6,.int .u32 k,.int .u32 tg,.slice A9 hops.length c9] (0,0) _ rfl (blk_setRow k1) Tryz.underlying38 rfl (by kernel_rfl)) rfl ?_
           refine ⟨⟨pa,pb,0,0,4,n5,n6,k,tg⟩,A9,hops.length,c9,rfl,fun x hx => ?_,below_setRow hBB (by omega) _⟩
           obtain rfl:=Option.some.inj hx
           exact ⟨rfl,own_less (own_same ho fun g hg=>setRow_other _ _ g _ (by have:=(ho.lt g hg).1;omega)) (by omega)⟩
       ·have hcond:((true && ((decide (bits BinOp.and IntKind.u32 id m=0) && decide (bitsV m=0)) && bits BinOp.and IntKind.u8 opts 8==0)))=false:=by rw[show (decide (bits BinOp.and IntKind.u32 id m=0) && decide (bitsV m=0))=_ from hez.out,show (bits BinOp.and IntKind.u8 opts 8==0)=_ from hnp.out.symm];rfl
        replace hcond:=Lib.hid hcond
        cases nq
        ·have hN:rr=none:=by rw[hR.out];unfold routeB;rw[if_pos (by simp[hm])]
         subst hN
         go_upto_region 13 with fail
         go_wp2_with (refine wpList_store_row rfl 38 (.tmp 10) (.tmp 93) rfl (w.heap.size+1) #[.int .u32 0,.int .u8 0,.int .u32 0,.int .u8 0,.int .u8 0,.int .u32 0,.int .u32 0,.int .u32 0,.int .u32 0,.slice none 0 0] rfl rfl 38 #[.int .u32 0,.int .u8 0,.int .u32 0,.int .u8 0,.int .u8 0,.int .u32 0,.int .u32 0,.int .u32 0,.int .u32 0,.slice none 0 0] k1 (by kernel_rfl) rfl (by simp[Value.oneCell']) ?_)
         refine bodyPost_ret (results_cell_tmp_row rfl _ _ (w.heap.size+1) 38 #[.int .u32 0,.int .u8 0,.int .u32 0,.int .u8 0,.int .u8 0,.int .u32 0,.int .u32 0,.int .u32 0,.int .u32 0,.slice none 0 0] (0,0) _ rfl (blk_setRow k1) Tryz.underlying38 rfl (by kernel_rfl)) rfl ?_
         exact ⟨zeroN,none,0,0,rfl,fun x hx=>(by cases hx),below_setRow kB (by omega) _⟩
        ·have hh1:=hh.out rfl
         obtain rfl:nl=hops.length:=by
          obtain ⟨-,A9,c9,h9,-⟩:=hh1
          injection h9
         go_upto_region 18 with fail
         have zz:=kn.lt
         clear y4 y6 o1 p0 p1
         have hh8:=hh1.below (kB.mono hB)
         have y4:=kb.cell 4
         have y7:=kb.cell 7
         have p0:=kp.cell 0
         have p1:=kp.cell 1
         have m5:=kn.cell 5
         have m6:=kn.cell 6
         have m9:=kn.cell 9
         simp only[q'a,q'z,q's] at y4 y7 p0 p1 m5 m6 m9
         have Y4:∀ W,Below (gn+1) w8 W→W.cell? ⟨gb,4,none⟩=some (.int .u32 k):=fun W h=>(h.cell (p:=⟨gb,4,none⟩) (by show gb<gn+1;omega)).trans y4
         have Y7:∀ W,Below (gn+1) w8 W→W.cell? ⟨gb,7,none⟩=some (.int .u32 tg):=fun W h=>(h.cell (p:=⟨gb,7,none⟩) (by show gb<gn+1;omega)).trans y7
         have P0:∀ W,Below (gn+1) w8 W→W.cell? ⟨gp,0,none⟩=some (.int .u32 pa):=fun W h=>(h.cell (p:=⟨gp,0,none⟩) (by show gp<gn+1;omega)).trans p0
         have P1:∀ W,Below (gn+1) w8 W→W.cell? ⟨gp,1,none⟩=some (.int .u8 pb):=fun W h=>(h.cell (p:=⟨gp,1,none⟩) (by show gp<gn+1;omega)).trans p1
         have M5:∀ W,Below (gn+1) w8 W→W.cell? ⟨gn,5,none⟩=some (.int .u32 n5):=fun W h=>(h.cell (p:=⟨gn,5,none⟩) (by show gn<gn+1;omega)).trans m5
         have M6:∀ W,Below (gn+1) w8 W→W.cell? ⟨gn,6,none⟩=some (.int .u32 n6):=fun W h=>(h.cell (p:=⟨gn,6,none⟩) (by show gn<gn+1;omega)).trans m6
         have M9:∀ W,Below (gn+1) w8 W→W.cell? ⟨gn,9,none⟩=some (.slice nA hops.length nc):=fun W h=>(h.cell (p:=⟨gn,9,none⟩) (by show gn<gn+1;omega)).trans m9
         clear y4 y7 p0 p1 m5 m6 m9
         have QB:=Lib.hid kB
         have Q1:=Lib.hid k1
         have Qb:=Lib.hid kb
         have Qn:=Lib.hid kn
         clear kB k0 k1 kb kp kn
         have hle:gn+1≤w8.heap.size:=by omega
         go_cut [20] (fun v wx=>RtG (gn+1) w8 hops pa pb n5 n6 k tg v wx)
         case first =>
          go_region_held3 (fun W=>Below (gn+1) w8 W) (first | assumption | exact (Below.refl _ _).drew | exact Below.refl _ _ | exact below_alloc hS9 hle _ | exact (below_alloc (Below.refl _ _) hle _).drew | fail)
           (first
            | (refine step_append rfl (.const (.slice none 0 0)) (.tmp 118) 36 rfl (gn+1) hopT (.slice none 0 0) 0 [] rfl (World.ownsRow_nil _ _ _ _) B (.slice nA hops.length nc) hops.length (hops.flatMap hopCells) rfl (by first | exact hh8 | exact Sl.alloc hh8 (by omega) _) hops_oneCell (by simp only[maxLen];omega) (by omega) (Nat.le_trans hle (Below.size (by first | assumption | exact (Below.refl _ _).drew))) ?_;intro hv w9 ho9 hg9 hob9;rw[Nat.zero_add,List.nil_append] at ho9;obtain ⟨-,A9,c9,rfl,-⟩:=Sl.of_own ho9;have hS9:Below (gn+1) w8 w9:=Below.trans (by first | assumption | exact (Below.refl _ _).drew) (below_of_grown hg9 (Nat.le_trans hle (Below.size (by first | assumption | exact (Below.refl _ _).drew))) (fun g hg=>by simp[Value.ownBlock] at hg));have hz9:w8.heap.size≤w9.heap.size:=hS9.size)
            | (refine upon10 (t:=38) (x0:=.int .u32 0) (x1:=.int .u8 0) (x2:=.int .u32 0) (x3:=.int .u8 0) (x4:=.int .u8 0) (x5:=.int .u32 0) (x6:=.int .u32 0) (x7:=.int .u32 0) (x8:=.int .u32 0) (x9:=.slice none 0 0) ?_ _ _ _ _ _ _ _ _ _ _ ?_;(focus (first | exact Blk.new _ _ _ | exact Blk.drew_ (Blk.new _ _ _) | exact ((Blk.drew_ (Blk.new w8 _ _)).same (hg9.block _ (by show w8.heap.size<(w8.alloc _).heap.size;simp) (by simp[Value.ownBlock])))));intro W1 kW1 pW1;have SW1:Below (gn+1) w8 W1:=pW1.below (by assumption) (by omega);go_simp)
            | fail)
          all_goals
           go_wp2_with fail
           go_meet
           case rel =>
            refine ⟨_,A9,c9,rfl,?_,?_,?_,?_⟩
            ·omega
            ·first | exact kW1 | exact Blk.new _ _ _
            ·first | exact own_put pW1 ho9 (by decide) | exact own_alloc ho9 _
            ·first | exact SW1 | exact below_alloc hS9 hle _
         case rest =>
          obtain ⟨gw,A9,c9,rfl,hgw,kw,ho,hS⟩:=hcut
          have k1:=Q1.out.below hS (by omega)
          have kb:=Qb.out.below hS (by omega)
          have kn:=Qn.out.below hS (by omega)
          have hBB:=QB.out.trans (hS.mono (by have:=QB.out.size;omega))
          clear Y4 Y7 P0 P1 M5 M6 M9 Q1 Qb Qn QB hh8 hS hh1
          have y4:=kb.cell 4
          have y5:=kb.cell 5
          have m6:=kn.cell 6
          have v4:=kw.cell 4
          have v6:=kw.cell 6
          have v7:=kw.cell 7
          have f4:=kw.free 4
          have f6:=kw.free 6
          have f7:=kw.free 7
          simp only[q'a,q'z,q's] at y4 y5 m6 v4 v6 v7
          cases t2
          ·have u1:IntKind.u64.wrap n6=n6:=by rw[IntKind.wrap_u64];omega
           have u2:IntKind.u64.wrap k=k:=by rw[IntKind.wrap_u64];omega
           have u3:IntKind.u64.wrap (n6+k)=n6+k:=by rw[IntKind.wrap_u64];omega
           obtain ⟨cz,hcz⟩:∃ x,x=IntKind.u32.wrap (n6+k):=⟨_,rfl⟩
           have u4:IntKind.u32.wrap (n6+k)=cz:=hcz.symm
           replace hcz:=Lib.hid hcz
           have kw2:=((kw.set_ 4 (.int .u8 3)).set_ 7 (.int .u32 0)).set_ 6 (.int .u32 cz)
           simp only[s'a,s'z,s's] at kw2
           have k12:=((k1.far (p:=⟨gw,4,none⟩) (by simp;omega) (.int .u8 3)).far (p:=⟨gw,7,none⟩) (by simp;omega) (.int .u32 0)).far (p:=⟨gw,6,none⟩) (by simp;omega) (.int .u32 cz)
           have hB2:=((hBB.setCell (p:=⟨gw,4,none⟩) (by simp;omega) (.int .u8 3)).setCell (p:=⟨gw,7,none⟩) (by simp;omega) (.int .u32 0)).setCell (p:=⟨gw,6,none⟩) (by simp;omega) (.int .u32 cz)
           have hne:=own_ne8 ho kw (by decide)
           have ho2:(((wc.setCell ⟨gw,4,none⟩ (.int .u8 3)).setCell ⟨gw,7,none⟩ (.int .u32 0)).setCell ⟨gw,6,none⟩ (.int .u32 cz)).ownsRow (gn+1) 47 3 (.slice A9 hops.length c9) hops.length (hops.flatMap hopCells):=own_same ho fun g hg=>(Below.heap_setCell _ _ _ g (hne g hg)).trans ((Below.heap_setCell _ _ _ g (hne g hg)).trans (Below.heap_setCell _ _ _ g (hne g hg)))
           replace hB2:=Lib.hid hB2
           replace ho2:=Lib.hid ho2
           replace kw2:=Lib.hid kw2
           replace k12:=Lib.hid k12
           clear ho k1 kw hBB kn hne
           go_upto_region 23 with fail
           replace hB2:=hB2.out
           replace ho2:=ho2.out
           replace kw2:=kw2.out
           replace k12:=k12.out
           clear y4 y5 m6 v4 v6 v7 f4 f6 f7 kb
           generalize ((wc.setCell ⟨gw,4,none⟩ (.int .u8 3)).setCell ⟨gw,7,none⟩ (.int .u32 0)).setCell ⟨gw,6,none⟩ (.int .u32 cz)=w10 at hB2 ho2 kw2 k12 ⊢
           by_cases hlt:n6+k<4294967296
           ·have e9:=decide_eq_true hlt
            have hcz2:cz=n6+k:=by rw[hcz.out];rw[IntKind.wrap_u32];omega
            have hN:rr=some ⟨pa,pb,0,0,3,n5,n6+k,0,tg⟩:=by rw[hR.out];unfold routeB;rw[if_neg (by simp[hm,hcond.out]),if_neg (by simp),if_pos hlt,hpa.out,hpb.out]
            subst hN
            replace hcz2:=Lib.hid hcz2
            go_wp2_with (first
             | (refine wpList_load_row rfl 38 (.tmp 20) rfl gw rfl 38 #[.int .u32 pa,.int .u8 pb,.int .u32 0,.int .u8 0,.int .u8 3,.int .u32 n5,.int .u32 cz,.int .u32 0,.int .u32 tg,.slice A9 hops.length c9] (0,0) _ kw2 Tryz.underlying38 rfl (by kernel_rfl) ?_)
             | (refine wpList_store_row rfl 38 (.tmp 10) (.tmp 136) rfl (w.heap.size+1) #[.int .u32 pa,.int .u8 pb,.int .u32 0,.int .u8 0,.int .u8 3,.int .u32 n5,.int .u32 cz,.int .u32 0,.int .u32 tg,.slice A9 hops.length c9] rfl rfl 38 #[.int .u32 0,.int .u8 0,.int .u32 0,.int .u8 0,.int .u8 0,.int .u32 0,.int .u32 0,.int .u32 0,.int .u32 0,.slice none 0 0] k12 (by kernel_rfl) rfl (by simp[Value.oneCell']) ?_))
            refine bodyPost_ret (results_cell_tmp_row rfl _ _ (w.heap.size+1) 38 #[.int .u32 pa,.int .u8 pb,.int .u32 0,.int .u8 0,.int .u8 3,.int .u32 n5,.int .u32 cz,.int .u32 0,.int .u32 tg,.slice A9 hops.length c9] (0,0) _ rfl (blk_setRow k12) Tryz.underlying38 rfl (by kernel_rfl)) rfl ?_
            refine ⟨⟨pa,pb,0,0,3,n5,cz,0,tg⟩,A9,hops.length,c9,rfl,fun x hx => ?_,below_setRow hB2 (by omega) _⟩
            obtain rfl:=Option.some.inj hx
            exact ⟨by rw[hcz2.out],own_less (own_same ho2 fun g hg=>setRow_other _ _ g _ (by have:=(ho2.lt g hg).1;omega)) (by omega)⟩
           ·have e9:=decide_eq_false hlt
            have hN:rr=none:=by rw[hR.out];unfold routeB;rw[if_neg (by simp[hm,hcond.out]),if_neg (by simp),if_neg hlt]
            subst hN
            go_wp2_with (first
             | (refine wpList_load_row rfl 38 (.tmp 20) rfl gw rfl 38 #[.int .u32 pa,.int .u8 pb,.int .u32 0,.int .u8 0,.int .u8 3,.int .u32 n5,.int .u32 cz,.int .u32 0,.int .u32 tg,.slice A9 hops.length c9] (0,0) _ kw2 Tryz.underlying38 rfl (by kernel_rfl) ?_)
             | (refine wpList_store_row rfl 38 (.tmp 10) (.tmp 136) rfl (w.heap.size+1) #[.int .u32 pa,.int .u8 pb,.int .u32 0,.int .u8 0,.int .u8 3,.int .u32 n5,.int .u32 cz,.int .u32 0,.int .u32 tg,.slice A9 hops.length c9] rfl rfl 38 #[.int .u32 0,.int .u8 0,.int .u32 0,.int .u8 0,.int .u8 0,.int .u32 0,.int .u32 0,.int .u32 0,.int .u32 0,.slice none 0 0] k12 (by kernel_rfl) rfl (by simp[Value.oneCell']) ?_))
            refine bodyPost_ret (results_cell_tmp_row rfl _ _ (w.heap.size+1) 38 #[.int .u32 pa,.int .u8 pb,.int .u32 0,.int .u8 0,.int .u8 3,.int .u32 n5,.int .u32 cz,.int .u32 0,.int .u32 tg,.slice A9 hops.length c9] (0,0) _ rfl (blk_setRow k12) Tryz.underlying38 rfl (by kernel_rfl)) rfl ?_
            exact ⟨⟨pa,pb,0,0,3,n5,cz,0,tg⟩,A9,hops.length,c9,rfl,fun x hx=>(by cases hx),below_setRow hB2 (by omega) _⟩
          ·have hN:rr=some ⟨pa,pb,0,0,4,n5,n6,k,tg⟩:=by rw[hR.out];unfold routeB;rw[if_neg (by simp[hm,hcond.out]),if_pos rfl,hpa.out,hpb.out]
           subst hN
           go_wp2_with (first
            | (refine wpList_load_row rfl 38 (.tmp 20) rfl gw rfl 38 #[.int .u32 pa,.int .u8 pb,.int .u32 0,.int .u8 0,.int .u8 4,.int .u32 n5,.int .u32 n6,.int .u32 k,.int .u32 tg,.slice A9 hops.length c9] (0,0) _ kw Tryz.underlying38 rfl (by kernel_rfl) ?_)
            | (refine wpList_store_row rfl 38 (.tmp 10) (.tmp 123) rfl (w.heap.size+1) #[.int .u32 pa,.int .u8 pb,.int .u32 0,.int .u8 0,.int .u8 4,.int .u32 n5,.int .u32 n6,.int .u32 k,.int .u32 tg,.slice A9 hops.length c9] rfl rfl 38 #[.int .u32 0,.int .u8 0,.int .u32 0,.int .u8 0,.int .u8 0,.int .u32 0,.int .u32 0,.int .u32 0,.int .u32 0,.slice none 0 0] k1 (by kernel_rfl) rfl (by simp[Value.oneCell']) ?_))
           refine bodyPost_ret (results_cell_tmp_row rfl _ _ (w.heap.size+1) 38 #[.int .u32 pa,.int .u8 pb,.int .u32 0,.int .u8 0,.int .u8 4,.int .u32 n5,.int .u32 n6,.int .u32 k,.int .u32 tg,.slice A9 hops.length c9] (0,0) _ rfl (blk_setRow k1) Tryz.underlying38 rfl (by kernel_rfl)) rfl ?_
           refine ⟨⟨pa,pb,0,0,4,n5,n6,k,tg⟩,A9,hops.length,c9,rfl,fun x hx => ?_,below_setRow hBB (by omega) _⟩
           obtain rfl:=Option.some.inj hx
           exact ⟨rfl,own_less (own_same ho fun g hg=>setRow_other _ _ g _ (by have:=(ho.lt g hg).1;omega)) (by omega)⟩
      ·cases np
       ·have hcond:((true && ((decide (bits BinOp.and IntKind.u32 id m=0) && decide (bitsV m=0)) && bits BinOp.and IntKind.u8 opts 8==0)))=false:=by rw[show (decide (bits BinOp.and IntKind.u32 id m=0) && decide (bitsV m=0))=_ from hez.out,show (bits BinOp.and IntKind.u8 opts 8==0)=_ from hnp.out.symm];rfl
        replace hcond:=Lib.hid hcond
        cases nq
        ·have hN:rr=none:=by rw[hR.out];unfold routeB;rw[if_pos (by simp[hm])]
         subst hN
         go_upto_region 13 with fail
         go_wp2_with (refine wpList_store_row rfl 38 (.tmp 10) (.tmp 93) rfl (w.heap.size+1) #[.int .u32 0,.int .u8 0,.int .u32 0,.int .u8 0,.int .u8 0,.int .u32 0,.int .u32 0,.int .u32 0,.int .u32 0,.slice none 0 0] rfl rfl 38 #[.int .u32 0,.int .u8 0,.int .u32 0,.int .u8 0,.int .u8 0,.int .u32 0,.int .u32 0,.int .u32 0,.int .u32 0,.slice none 0 0] k1 (by kernel_rfl) rfl (by simp[Value.oneCell']) ?_)
         refine bodyPost_ret (results_cell_tmp_row rfl _ _ (w.heap.size+1) 38 #[.int .u32 0,.int .u8 0,.int .u32 0,.int .u8 0,.int .u8 0,.int .u32 0,.int .u32 0,.int .u32 0,.int .u32 0,.slice none 0 0] (0,0) _ rfl (blk_setRow k1) Tryz.underlying38 rfl (by kernel_rfl)) rfl ?_
         exact ⟨zeroN,none,0,0,rfl,fun x hx=>(by cases hx),below_setRow kB (by omega) _⟩
        ·have hh1:=hh.out rfl
         obtain rfl:nl=hops.length:=by
          obtain ⟨-,A9,c9,h9,-⟩:=hh1
          injection h9
         go_upto_region 18 with fail
         have zz:=kn.lt
         clear y4 y6 o1 p0 p1
         have hh8:=hh1.below (kB.mono hB)
         have y4:=kb.cell 4
         have y7:=kb.cell 7
         have p0:=kp.cell 0
         have p1:=kp.cell 1
         have m5:=kn.cell 5
         have m6:=kn.cell 6
         have m9:=kn.cell 9
         simp only[q'a,q'z,q's] at y4 y7 p0 p1 m5 m6 m9
         have Y4:∀ W,Below (gn+1) w8 W→W.cell? ⟨gb,4,none⟩=some (.int .u32 k):=fun W h=>(h.cell (p:=⟨gb,4,none⟩) (by show gb<gn+1;omega)).trans y4
         have Y7:∀ W,Below (gn+1) w8 W→W.cell? ⟨gb,7,none⟩=some (.int .u32 tg):=fun W h=>(h.cell (p:=⟨gb,7,none⟩) (by show gb<gn+1;omega)).trans y7
         have P0:∀ W,Below (gn+1) w8 W→W.cell? ⟨gp,0,none⟩=some (.int .u32 pa):=fun W h=>(h.cell (p:=⟨gp,0,none⟩) (by show gp<gn+1;omega)).trans p0
         have P1:∀ W,Below (gn+1) w8 W→W.cell? ⟨gp,1,none⟩=some (.int .u8 pb):=fun W h=>(h.cell (p:=⟨gp,1,none⟩) (by show gp<gn+1;omega)).trans p1
         have M5:∀ W,Below (gn+1) w8 W→W.cell? ⟨gn,5,none⟩=some (.int .u32 n5):=fun W h=>(h.cell (p:=⟨gn,5,none⟩) (by show gn<gn+1;omega)).trans m5
         have M6:∀ W,Below (gn+1) w8 W→W.cell? ⟨gn,6,none⟩=some (.int .u32 n6):=fun W h=>(h.cell (p:=⟨gn,6,none⟩) (by show gn<gn+1;omega)).trans m6
         have M9:∀ W,Below (gn+1) w8 W→W.cell? ⟨gn,9,none⟩=some (.slice nA hops.length nc):=fun W h=>(h.cell (p:=⟨gn,9,none⟩) (by show gn<gn+1;omega)).trans m9
         clear y4 y7 p0 p1 m5 m6 m9
         have QB:=Lib.hid kB
         have Q1:=Lib.hid k1
         have Qb:=Lib.hid kb
         have Qn:=Lib.hid kn
         clear kB k0 k1 kb kp kn
         have hle:gn+1≤w8.heap.size:=by omega
         go_cut [20] (fun v wx=>RtG (gn+1) w8 hops pa pb n5 n6 k tg v wx)
         case first =>
          go_region_held3 (fun W=>Below (gn+1) w8 W) (first | assumption | exact (Below.refl _ _).drew | exact Below.refl _ _ | exact below_alloc hS9 hle _ | exact (below_alloc (Below.refl _ _) hle _).drew | fail)
           (first
            | (refine step_append rfl (.const (.slice none 0 0)) (.tmp 118) 36 rfl (gn+1) hopT (.slice none 0 0) 0 [] rfl (World.ownsRow_nil _ _ _ _) B (.slice nA hops.length nc) hops.length (hops.flatMap hopCells) rfl (by first | exact hh8 | exact Sl.alloc hh8 (by omega) _) hops_oneCell (by simp only[maxLen];omega) (by omega) (Nat.le_trans hle (Below.size (by first | assumption | exact (Below.refl _ _).drew))) ?_;intro hv w9 ho9 hg9 hob9;rw[Nat.zero_add,List.nil_append] at ho9;obtain ⟨-,A9,c9,rfl,-⟩:=Sl.of_own ho9;have hS9:Below (gn+1) w8 w9:=Below.trans (by first | assumption | exact (Below.refl _ _).drew) (below_of_grown hg9 (Nat.le_trans hle (Below.size (by first | assumption | exact (Below.refl _ _).drew))) (fun g hg=>by simp[Value.ownBlock] at hg));have hz9:w8.heap.size≤w9.heap.size:=hS9.size)
            | (refine upon10 (t:=38) (x0:=.int .u32 0) (x1:=.int .u8 0) (x2:=.int .u32 0) (x3:=.int .u8 0) (x4:=.int .u8 0) (x5:=.int .u32 0) (x6:=.int .u32 0) (x7:=.int .u32 0) (x8:=.int .u32 0) (x9:=.slice none 0 0) ?_ _ _ _ _ _ _ _ _ _ _ ?_;(focus (first | exact Blk.new _ _ _ | exact Blk.drew_ (Blk.new _ _ _) | exact ((Blk.drew_ (Blk.new w8 _ _)).same (hg9.block _ (by show w8.heap.size<(w8.alloc _).heap.size;simp) (by simp[Value.ownBlock])))));intro W1 kW1 pW1;have SW1:Below (gn+1) w8 W1:=pW1.below (by assumption) (by omega);go_simp)
            | fail)
          all_goals
           go_wp2_with fail
           go_meet
           case rel =>
            refine ⟨_,A9,c9,rfl,?_,?_,?_,?_⟩
            ·omega
            ·first | exact kW1 | exact Blk.new _ _ _
            ·first | exact own_put pW1 ho9 (by decide) | exact own_alloc ho9 _
            ·first | exact SW1 | exact below_alloc hS9 hle _
         case rest =>
          obtain ⟨gw,A9,c9,rfl,hgw,kw,ho,hS⟩:=hcut
          have k1:=Q1.out.below hS (by omega)
          have kb:=Qb.out.below hS (by omega)
          have kn:=Qn.out.below hS (by omega)
          have hBB:=QB.out.trans (hS.mono (by have:=QB.out.size;omega))
          clear Y4 Y7 P0 P1 M5 M6 M9 Q1 Qb Qn QB hh8 hS hh1
          have y4:=kb.cell 4
          have y5:=kb.cell 5
          have m6:=kn.cell 6
          have v4:=kw.cell 4
          have v6:=kw.cell 6
          have v7:=kw.cell 7
          have f4:=kw.free 4
          have f6:=kw.free 6
          have f7:=kw.free 7
          simp only[q'a,q'z,q's] at y4 y5 m6 v4 v6 v7
          cases t2
          ·have u1:IntKind.u64.wrap n6=n6:=by rw[IntKind.wrap_u64];omega
           have u2:IntKind.u64.wrap k=k:=by rw[IntKind.wrap_u64];omega
           have u3:IntKind.u64.wrap (n6+k)=n6+k:=by rw[IntKind.wrap_u64];omega
           obtain ⟨cz,hcz⟩:∃ x,x=IntKind.u32.wrap (n6+k):=⟨_,rfl⟩
           have u4:IntKind.u32.wrap (n6+k)=cz:=hcz.symm
           replace hcz:=Lib.hid hcz
           have kw2:=((kw.set_ 4 (.int .u8 3)).set_ 7 (.int .u32 0)).set_ 6 (.int .u32 cz)
           simp only[s'a,s'z,s's] at kw2
           have k12:=((k1.far (p:=⟨gw,4,none⟩) (by simp;omega) (.int .u8 3)).far (p:=⟨gw,7,none⟩) (by simp;omega) (.int .u32 0)).far (p:=⟨gw,6,none⟩) (by simp;omega) (.int .u32 cz)
           have hB2:=((hBB.setCell (p:=⟨gw,4,none⟩) (by simp;omega) (.int .u8 3)).setCell (p:=⟨gw,7,none⟩) (by simp;omega) (.int .u32 0)).setCell (p:=⟨gw,6,none⟩) (by simp;omega) (.int .u32 cz)
           have hne:=own_ne8 ho kw (by decide)
           have ho2:(((wc.setCell ⟨gw,4,none⟩ (.int .u8 3)).setCell ⟨gw,7,none⟩ (.int .u32 0)).setCell ⟨gw,6,none⟩ (.int .u32 cz)).ownsRow (gn+1) 47 3 (.slice A9 hops.length c9) hops.length (hops.flatMap hopCells):=own_same ho fun g hg=>(Below.heap_setCell _ _ _ g (hne g hg)).trans ((Below.heap_setCell _ _ _ g (hne g hg)).trans (Below.heap_setCell _ _ _ g (hne g hg)))
           replace hB2:=Lib.hid hB2
           replace ho2:=Lib.hid ho2
           replace kw2:=Lib.hid kw2
           replace k12:=Lib.hid k12
           clear ho k1 kw hBB kn hne
           go_upto_region 23 with fail
           replace hB2:=hB2.out
           replace ho2:=ho2.out
           replace kw2:=kw2.out
           replace k12:=k12.out
           clear y4 y5 m6 v4 v6 v7 f4 f6 f7 kb
           generalize ((wc.setCell ⟨gw,4,none⟩ (.int .u8 3)).setCell ⟨gw,7,none⟩ (.int .u32 0)).setCell ⟨gw,6,none⟩ (.int .u32 cz)=w10 at hB2 ho2 kw2 k12 ⊢
           by_cases hlt:n6+k<4294967296
           ·have e9:=decide_eq_true hlt
            have hcz2:cz=n6+k:=by rw[hcz.out];rw[IntKind.wrap_u32];omega
            have hN:rr=some ⟨pa,pb,0,0,3,n5,n6+k,0,tg⟩:=by rw[hR.out];unfold routeB;rw[if_neg (by simp[hm,hcond.out]),if_neg (by simp),if_pos hlt,hpa.out,hpb.out]
            subst hN
            replace hcz2:=Lib.hid hcz2
            go_wp2_with (first
             | (refine wpList_load_row rfl 38 (.tmp 20) rfl gw rfl 38 #[.int .u32 pa,.int .u8 pb,.int .u32 0,.int .u8 0,.int .u8 3,.int .u32 n5,.int .u32 cz,.int .u32 0,.int .u32 tg,.slice A9 hops.length c9] (0,0) _ kw2 Tryz.underlying38 rfl (by kernel_rfl) ?_)
             | (refine wpList_store_row rfl 38 (.tmp 10) (.tmp 136) rfl (w.heap.size+1) #[.int .u32 pa,.int .u8 pb,.int .u32 0,.int .u8 0,.int .u8 3,.int .u32 n5,.int .u32 cz,.int .u32 0,.int .u32 tg,.slice A9 hops.length c9] rfl rfl 38 #[.int .u32 0,.int .u8 0,.int .u32 0,.int .u8 0,.int .u8 0,.int .u32 0,.int .u32 0,.int .u32 0,.int .u32 0,.slice none 0 0] k12 (by kernel_rfl) rfl (by simp[Value.oneCell']) ?_))
            refine bodyPost_ret (results_cell_tmp_row rfl _ _ (w.heap.size+1) 38 #[.int .u32 pa,.int .u8 pb,.int .u32 0,.int .u8 0,.int .u8 3,.int .u32 n5,.int .u32 cz,.int .u32 0,.int .u32 tg,.slice A9 hops.length c9] (0,0) _ rfl (blk_setRow k12) Tryz.underlying38 rfl (by kernel_rfl)) rfl ?_
            refine ⟨⟨pa,pb,0,0,3,n5,cz,0,tg⟩,A9,hops.length,c9,rfl,fun x hx => ?_,below_setRow hB2 (by omega) _⟩
            obtain rfl:=Option.some.inj hx
            exact ⟨by rw[hcz2.out],own_less (own_same ho2 fun g hg=>setRow_other _ _ g _ (by have:=(ho2.lt g hg).1;omega)) (by omega)⟩
           ·have e9:=decide_eq_false hlt
            have hN:rr=none:=by rw[hR.out];unfold routeB;rw[if_neg (by simp[hm,hcond.out]),if_neg (by simp),if_neg hlt]
            subst hN
            go_wp2_with (first
             | (refine wpList_load_row rfl 38 (.tmp 20) rfl gw rfl 38 #[.int .u32 pa,.int .u8 pb,.int .u32 0,.int .u8 0,.int .u8 3,.int .u32 n5,.int .u32 cz,.int .u32 0,.int .u32 tg,.slice A9 hops.length c9] (0,0) _ kw2 Tryz.underlying38 rfl (by kernel_rfl) ?_)
             | (refine wpList_store_row rfl 38 (.tmp 10) (.tmp 136) rfl (w.heap.size+1) #[.int .u32 pa,.int .u8 pb,.int .u32 0,.int .u8 0,.int .u8 3,.int .u32 n5,.int .u32 cz,.int .u32 0,.int .u32 tg,.slice A9 hops.length c9] rfl rfl 38 #[.int .u32 0,.int .u8 0,.int .u32 0,.int .u8 0,.int .u8 0,.int .u32 0,.int .u32 0,.int .u32 0,.int .u32 0,.slice none 0 0] k12 (by kernel_rfl) rfl (by simp[Value.oneCell']) ?_))
            refine bodyPost_ret (results_cell_tmp_row rfl _ _ (w.heap.size+1) 38 #[.int .u32 pa,.int .u8 pb,.int .u32 0,.int .u8 0,.int .u8 3,.int .u32 n5,.int .u32 cz,.int .u32 0,.int .u32 tg,.slice A9 hops.length c9] (0,0) _ rfl (blk_setRow k12) Tryz.underlying38 rfl (by kernel_rfl)) rfl ?_
            exact ⟨⟨pa,pb,0,0,3,n5,cz,0,tg⟩,A9,hops.length,c9,rfl,fun x hx=>(by cases hx),below_setRow hB2 (by omega) _⟩
          ·have hN:rr=some ⟨pa,pb,0,0,4,n5,n6,k,tg⟩:=by rw[hR.out];unfold routeB;rw[if_neg (by simp[hm,hcond.out]),if_pos rfl,hpa.out,hpb.out]
           subst hN
           go_wp2_with (first
            | (refine wpList_load_row rfl 38 (.tmp 20) rfl gw rfl 38 #[.int .u32 pa,.int .u8 pb,.int .u32 0,.int .u8 0,.int .u8 4,.int .u32 n5,.int .u32 n6,.int .u32 k,.int .u32 tg,.slice A9 hops.length c9] (0,0) _ kw Tryz.underlying38 rfl (by kernel_rfl) ?_)
            | (refine wpList_store_row rfl 38 (.tmp 10) (.tmp 123) rfl (w.heap.size+1) #[.int .u32 pa,.int .u8 pb,.int .u32 0,.int .u8 0,.int .u8 4,.int .u32 n5,.int .u32 n6,.int .u32 k,.int .u32 tg,.slice A9 hops.length c9] rfl rfl 38 #[.int .u32 0,.int .u8 0,.int .u32 0,.int .u8 0,.int .u8 0,.int .u32 0,.int .u32 0,.int .u32 0,.int .u32 0,.slice none 0 0] k1 (by kernel_rfl) rfl (by simp[Value.oneCell']) ?_))
           refine bodyPost_ret (results_cell_tmp_row rfl _ _ (w.heap.size+1) 38 #[.int .u32 pa,.int .u8 pb,.int .u32 0,.int .u8 0,.int .u8 4,.int .u32 n5,.int .u32 n6,.int .u32 k,.int .u32 tg,.slice A9 hops.length c9] (0,0) _ rfl (blk_setRow k1) Tryz.underlying38 rfl (by kernel_rfl)) rfl ?_
           refine ⟨⟨pa,pb,0,0,4,n5,n6,k,tg⟩,A9,hops.length,c9,rfl,fun x hx => ?_,below_setRow hBB (by omega) _⟩
           obtain rfl:=Option.some.inj hx
           exact ⟨rfl,own_less (own_same ho fun g hg=>setRow_other _ _ g _ (by have:=(ho.lt g hg).1;omega)) (by omega)⟩
       ·have hN:rr=none:=by rw[hR.out];unfold routeB;rw[if_pos];rw[show (decide (bits BinOp.and IntKind.u32 id m=0) && decide (bitsV m=0))=true from hez.out,show (bits BinOp.and IntKind.u8 opts 8==0)=true from hnp.out.symm];simp
        subst hN
        go_upto_region 13 with fail
        go_wp2_with (refine wpList_store_row rfl 38 (.tmp 10) (.tmp 93) rfl (w.heap.size+1) #[.int .u32 0,.int .u8 0,.int .u32 0,.int .u8 0,.int .u8 0,.int .u32 0,.int .u32 0,.int .u32 0,.int .u32 0,.slice none 0 0] rfl rfl 38 #[.int .u32 0,.int .u8 0,.int .u32 0,.int .u8 0,.int .u8 0,.int .u32 0,.int .u32 0,.int .u32 0,.int .u32 0,.slice none 0 0] k1 (by kernel_rfl) rfl (by simp[Value.oneCell']) ?_)
        refine bodyPost_ret (results_cell_tmp_row rfl _ _ (w.heap.size+1) 38 #[.int .u32 0,.int .u8 0,.int .u32 0,.int .u8 0,.int .u8 0,.int .u32 0,.int .u32 0,.int .u32 0,.int .u32 0,.slice none 0 0] (0,0) _ rfl (blk_setRow k1) Tryz.underlying38 rfl (by kernel_rfl)) rfl ?_
        exact ⟨zeroN,none,0,0,rfl,fun x hx=>(by cases hx),below_setRow kB (by omega) _⟩
   ·have hr:rtake 7 ⟨age,opts,7,id,adv,seq,sum,len⟩ body self=false:=by
     simp[rtake,hod]
    have hR:rr=none:=by rw[hrr.out];unfold routeP;rw[show rtake (if true=true then 7 else 5) _ body self=false from hr];rfl
    subst hR
    clear hr
    go_upto_region 5 with (first
     | (go_at_call 130;refine Calls.mono (old_any age _) ?_;rintro x w2 ⟨rfl,hww⟩;subst hww;rw[hod])
     | (go_at_call 131;refine Calls.mono CK.out ?_;rintro x w2 ⟨rfl,hB2⟩))
    go_wp2_with (refine wpList_store_row rfl 38 (.tmp 10) (.tmp 46) rfl (w.heap.size+1) #[.int .u32 0,.int .u8 0,.int .u32 0,.int .u8 0,.int .u8 0,.int .u32 0,.int .u32 0,.int .u32 0,.int .u32 0,.slice none 0 0] rfl rfl 38 #[.int .u32 0,.int .u8 0,.int .u32 0,.int .u8 0,.int .u8 0,.int .u32 0,.int .u32 0,.int .u32 0,.int .u32 0,.slice none 0 0] k1 (by kernel_rfl) rfl (by simp[Value.oneCell']) ?_)
    refine bodyPost_ret (results_cell_tmp_row rfl _ _ (w.heap.size+1) 38 #[.int .u32 0,.int .u8 0,.int .u32 0,.int .u8 0,.int .u8 0,.int .u32 0,.int .u32 0,.int .u32 0,.int .u32 0,.slice none 0 0] (0,0) _ rfl (blk_setRow k1) Tryz.underlying38 rfl (by kernel_rfl)) rfl ?_
    exact ⟨zeroN,none,0,0,rfl,fun x hx=>(by cases hx),below_setRow kB (by omega) _⟩
end Go.Proofs.YtiikagabdiphkaaGreat
