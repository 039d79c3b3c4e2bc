/- Searches in rows: slices.IndexFunc at links and at nodes, slices.Index at words; the bodies of a web. Conditions: the rows lie in memory. -/
import Derived.Test.YtcknpofnpabkiaaGreatGzAR
set_option maxRecDepth 100000
namespace Go.Proofs.YtcknpofnpabkiaaGreat
open Go.RowKit Go.Lo
def idxI (o:Option Nat):Int:=match o with | some k=>k | none => -1
theorem idxI_ge {α:Type} (l:List α) (p:α→Bool):decide (0≤idxI (l.findIdx? p))=l.any p:=by
 cases h:l.findIdx? p with
 | none =>
  have h1:=List.findIdx?_eq_none_iff.1 h
  have h2:l.any p=false:=by
   rw[List.any_eq_false]
   intro x hx
   rw[h1 x hx]
   simp
  rw[h2]
  rfl
 | some k =>
  obtain ⟨h1,h2,-⟩:=List.findIdx?_eq_some_iff_getElem.1 h
  have h3:l.any p=true:=List.any_eq_true.2 ⟨l[k],List.getElem_mem h1,h2⟩
  rw[h3]
  exact decide_eq_true (by show (0:Int)≤(k:Int);omega)
set_option maxHeartbeats 1000000 in
theorem idxLink_any {α:Type} (enc:α→List Value) (hlen:∀ x,(enc x).length=4) (p:α→Bool) (f:FuncId) (c1 c2:Value) (l:List α) (lv:Value) (B:Nat) (w:World) (hl:Sl w B 4 lv l.length (l.flatMap enc)) (hB:B≤w.heap.size) (hn:l.length≤1000000)
  (eF:∀ args w,(callFunc f args).run Tryz.prog w=.ok (.enter f args) w) (HC:∀ x∈l,∀ W,Below w.heap.size w W→Calls Tryz.prog f #[.agg (enc x).toArray,c1,c2] W fun e W'=>e=.returned (.bool (p x))∧Below W.heap.size W W') :
  Calls Tryz.prog 161 #[lv,.func (.func f) #[] #[c1,c2]] w fun e w'=>e=.returned (.int .i64 (idxI (l.findIdx? p)))∧Below w.heap.size w w':=by
 obtain ⟨r,hr⟩:∃ r,r=idxI (l.findIdx? p):=⟨_,rfl⟩
 rw[←hr]
 have hl0:=hl
 obtain ⟨-,A,c,rfl,-⟩:=hl
 replace hr:=h'd hr
 go_enter Tryz.func161,Tryz.ntmps161
 go_wp2_with fail
 go_loopg [8] l.length (fun m v wr=>∃ k:Nat,k≤l.length∧m=l.length-k∧v=.int .i64 k∧(∀ j (h:j<l.length),j<k→p l[j]=false)∧Below w.heap.size w wr)
 case atStart=>exact ⟨0,Nat.zero_le _,rfl,rfl,fun _ _ h=>absurd h (Nat.not_lt_zero _),Below.refl _ _⟩
 case round =>
  obtain ⟨k,hk,rfl,rfl,hall,hBr⟩:=hrel
  obtain ⟨w1,rfl⟩:∃ x:World,x=wr:=⟨_,rfl⟩
  by_cases hkl:k<l.length
  ·obtain ⟨b,off,rfl,hb,hrow⟩:=Sl.row hlen (hl0.below (hBr.mono hB)) hkl
   have ik:(k:Int)<(l.length:Int):=by omega
   have C:=HC l[k] (List.getElem_mem hkl) w1 hBr
   have hrg:w1.rangeAt b (off+k*4) (enc l[k]):=hrow
   have hsz:(enc l[k]).length=4:=hlen _
   cases hq:p l[k] with
   | true =>
    have hrr:r=k:=by
     rw[hr.out]
     have:l.findIdx? p=some k:=List.findIdx?_eq_some_iff_getElem.2 ⟨hkl,hq,fun j hj=>by rw[hall j (by omega) hj];simp⟩
     rw[this]
     rfl
    rw[hq] at C
    subst hrr
    replace C:=h'd C
    replace hall:=h'd hall
    replace hsz:=h'd hsz
    clear hr HC
    go_wp2_with (first
     | (refine wpList_load_mid rfl 99 (.tmp 14) rfl b (off+k*4) rfl (enc l[k]) _ hrg Tryz.underlying99 rfl (by rw[hsz.out];kernel_rfl) ?_)
     | (refine Calls.mono C.out ?_;rintro e w2 ⟨rfl,hB2⟩))
    go_ret
    exact ⟨rfl,below_call hBr hB2 (Nat.le_refl _)⟩
   | false =>
    rw[hq] at C
    have hall2:∀ j (h:j<l.length),j<k+1→p l[j]=false:=fun j h hj=>by
     by_cases hjk:j=k
     ·subst hjk;exact hq
     ·exact hall j h (by omega)
    replace C:=h'd C
    replace hall2:=h'd hall2
    replace hsz:=h'd hsz
    clear hall HC
    go_wp2_with (first
     | (refine wpList_load_mid rfl 99 (.tmp 14) rfl b (off+k*4) rfl (enc l[k]) _ hrg Tryz.underlying99 rfl (by rw[hsz.out];kernel_rfl) ?_)
     | (refine Calls.mono C.out ?_;rintro e w2 ⟨rfl,hB2⟩))
    go_roundg (l.length-(k+1))
    case measure=>omega
    case rel=>exact ⟨k+1,by omega,rfl,by go_num,hall2.out,below_call hBr hB2 (Nat.le_refl _)⟩
  ·obtain rfl:k=l.length:=by omega
   have hrr:r = -1:=by
    rw[hr.out]
    have:l.findIdx? p=none:=List.findIdx?_eq_none_iff.2 fun x hx=>by
     obtain ⟨j,hj,rfl⟩:=List.getElem_of_mem hx
     exact hall j hj hj
    rw[this]
    rfl
   subst hrr
   clear HC
   go_wp2_with fail
   go_ret
   exact ⟨rfl,hBr⟩
set_option maxHeartbeats 1000000 in
theorem idxNode_any {α:Type} (enc:α→List Value) (hlen:∀ x,(enc x).length=7) (p:α→Bool) (f:FuncId) (c1 c2:Value) (l:List α) (lv:Value) (B:Nat) (w:World) (hl:Sl w B 7 lv l.length (l.flatMap enc)) (hB:B≤w.heap.size) (hn:l.length≤1000000)
  (eF:∀ args w,(callFunc f args).run Tryz.prog w=.ok (.enter f args) w) (HC:∀ x∈l,∀ W,Below w.heap.size w W→Calls Tryz.prog f #[.agg (enc x).toArray,c1,c2] W fun e W'=>e=.returned (.bool (p x))∧Below W.heap.size W W') :
  Calls Tryz.prog 46 #[lv,.func (.func f) #[] #[c1,c2]] w fun e w'=>e=.returned (.int .i64 (idxI (l.findIdx? p)))∧Below w.heap.size w w':=by
 obtain ⟨r,hr⟩:∃ r,r=idxI (l.findIdx? p):=⟨_,rfl⟩
 rw[←hr]
 have hl0:=hl
 obtain ⟨-,A,c,rfl,-⟩:=hl
 replace hr:=h'd hr
 go_enter Tryz.func46,Tryz.ntmps46
 go_wp2_with fail
 go_loopg [8] l.length (fun m v wr=>∃ k:Nat,k≤l.length∧m=l.length-k∧v=.int .i64 k∧(∀ j (h:j<l.length),j<k→p l[j]=false)∧Below w.heap.size w wr)
 case atStart=>exact ⟨0,Nat.zero_le _,rfl,rfl,fun _ _ h=>absurd h (Nat.not_lt_zero _),Below.refl _ _⟩
 case round =>
  obtain ⟨k,hk,rfl,rfl,hall,hBr⟩:=hrel
  obtain ⟨w1,rfl⟩:∃ x:World,x=wr:=⟨_,rfl⟩
  by_cases hkl:k<l.length
  ·obtain ⟨b,off,rfl,hb,hrow⟩:=Sl.row hlen (hl0.below (hBr.mono hB)) hkl
   have ik:(k:Int)<(l.length:Int):=by omega
   have C:=HC l[k] (List.getElem_mem hkl) w1 hBr
   have hrg:w1.rangeAt b (off+k*7) (enc l[k]):=hrow
   have hsz:(enc l[k]).length=7:=hlen _
   cases hq:p l[k] with
   | true =>
    have hrr:r=k:=by
     rw[hr.out]
     have:l.findIdx? p=some k:=List.findIdx?_eq_some_iff_getElem.2 ⟨hkl,hq,fun j hj=>by rw[hall j (by omega) hj];simp⟩
     rw[this]
     rfl
    rw[hq] at C
    subst hrr
    replace C:=h'd C
    replace hall:=h'd hall
    replace hsz:=h'd hsz
    clear hr HC
    go_wp2_with (first
     | (refine wpList_load_mid rfl 63 (.tmp 14) rfl b (off+k*7) rfl (enc l[k]) _ hrg Tryz.underlying63 rfl (by rw[hsz.out];kernel_rfl) ?_)
     | (refine Calls.mono C.out ?_;rintro e w2 ⟨rfl,hB2⟩))
    go_ret
    exact ⟨rfl,below_call hBr hB2 (Nat.le_refl _)⟩
   | false =>
    rw[hq] at C
    have hall2:∀ j (h:j<l.length),j<k+1→p l[j]=false:=fun j h hj=>by
     by_cases hjk:j=k
     ·subst hjk;exact hq
     ·exact hall j h (by omega)
    replace C:=h'd C
    replace hall2:=h'd hall2
    replace hsz:=h'd hsz
    clear hall HC
    go_wp2_with (first
     | (refine wpList_load_mid rfl 63 (.tmp 14) rfl b (off+k*7) rfl (enc l[k]) _ hrg Tryz.underlying63 rfl (by rw[hsz.out];kernel_rfl) ?_)
     | (refine Calls.mono C.out ?_;rintro e w2 ⟨rfl,hB2⟩))
    go_roundg (l.length-(k+1))
    case measure=>omega
    case rel=>exact ⟨k+1,by omega,rfl,by go_num,hall2.out,below_call hBr hB2 (Nat.le_refl _)⟩
  ·obtain rfl:k=l.length:=by omega
   have hrr:r = -1:=by
    rw[hr.out]
    have:l.findIdx? p=none:=List.findIdx?_eq_none_iff.2 fun x hx=>by
     obtain ⟨j,hj,rfl⟩:=List.getElem_of_mem hx
     exact hall j hj hj
    rw[this]
    rfl
   subst hrr
   clear HC
   go_wp2_with fail
   go_ret
   exact ⟨rfl,hBr⟩
set_option maxHeartbeats 1000000 in
theorem idxWord_any (id:Int) (l:List Int) (lv:Value) (B:Nat) (w:World) (hl:Sl w B 1 lv l.length (l.map u32c)) (hB:B≤w.heap.size) (hn:l.length≤1000000) :
  Calls Tryz.prog 125 #[lv,.int .u32 id] w fun e w'=>e=.returned (.int .i64 (idxI (l.findIdx? (·==id))))∧Below w.heap.size w w':=by
 obtain ⟨r,hr⟩:∃ r,r=idxI (l.findIdx? (·==id)):=⟨_,rfl⟩
 rw[←hr]
 have hl0:Sl w B 1 lv l.length (l.flatMap fun x=>[u32c x]):=by rw[←List.map_eq_flatMap];exact hl
 obtain ⟨-,A,c,rfl,-⟩:=hl
 replace hr:=h'd hr
 go_enter Tryz.func125,Tryz.ntmps125
 go_wp2_with fail
 go_loopg [8] l.length (fun m v wr=>∃ k:Nat,k≤l.length∧m=l.length-k∧v=.int .i64 k∧(∀ j (h:j<l.length),j<k→(l[j]==id)=false)∧Below w.heap.size w wr)
 case atStart=>exact ⟨0,Nat.zero_le _,rfl,rfl,fun _ _ h=>absurd h (Nat.not_lt_zero _),Below.refl _ _⟩
 case round =>
  obtain ⟨k,hk,rfl,rfl,hall,hBr⟩:=hrel
  obtain ⟨w1,rfl⟩:∃ x:World,x=wr:=⟨_,rfl⟩
  by_cases hkl:k<l.length
  ·obtain ⟨b,off,rfl,hb,hrow⟩:=Sl.row (s:=1) (f:=fun x=>[u32c x]) (fun _=>rfl) (hl0.below (hBr.mono hB)) hkl
   have ik:(k:Int)<(l.length:Int):=by omega
   obtain ⟨x,hx⟩:∃ x,x=l[k]:=⟨_,rfl⟩
   have y:w1.cell? ⟨b,off+k*1,none⟩=some (.int .u32 x):=by rw[hx];exact hrow 0 _ rfl
   rw[Nat.mul_one] at y
   cases hq:(x==id) with
   | true =>
    have hrr:r=k:=by
     rw[hr.out]
     have:l.findIdx? (·==id)=some k:=List.findIdx?_eq_some_iff_getElem.2 ⟨hkl,by rw[←hx];exact hq,fun j hj=>by rw[hall j (by omega) hj];simp⟩
     rw[this]
     rfl
    have hq2:(id==x)=true:=BEq.comm.trans hq
    subst hrr
    replace hall:=h'd hall
    clear hr hx hrow
    go_wp2
    go_ret
    exact ⟨rfl,hBr⟩
   | false =>
    have hq2:(id==x)=false:=BEq.comm.trans hq
    have hall2:∀ j (h:j<l.length),j<k+1→(l[j]==id)=false:=fun j h hj=>by
     by_cases hjk:j=k
     ·subst hjk;rw[←hx];exact hq
     ·exact hall j h (by omega)
    replace hall2:=h'd hall2
    clear hall hx hrow
    go_wp2
    go_roundg (l.length-(k+1))
    case measure=>omega
    case rel=>exact ⟨k+1,by omega,rfl,by go_num,hall2.out,hBr⟩
  ·obtain rfl:k=l.length:=by omega
   have hrr:r = -1:=by
    rw[hr.out]
    have:l.findIdx? (·==id)=none:=List.findIdx?_eq_none_iff.2 fun x hx=>by
     obtain ⟨j,hj,rfl⟩:=List.getElem_of_mem hx
     exact hall j hj hj
    rw[this]
    rfl
   subst hrr
   go_wp2_with fail
   go_ret
   exact ⟨rfl,hBr⟩
theorem hasWord_any (id:Int) (l:List Int) (lv:Value) (B:Nat) (w:World) (hl:Sl w B 1 lv l.length (l.map u32c)) (hB:B≤w.heap.size) (hn:l.length≤1000000) :
  Calls Tryz.prog 85 #[lv,.int .u32 id] w fun e w'=>e=.returned (.bool (l.any (·==id)))∧Below w.heap.size w w':=by
 have C:=idxWord_any id l lv B w hl hB hn
 obtain ⟨q,hq⟩:∃ q,q=l.any (·==id):=⟨_,rfl⟩
 rw[←hq]
 rw[←idxI_ge] at hq
 generalize idxI (l.findIdx? (·==id))=r at C hq
 replace C:=h'd C
 obtain ⟨-,A,c,rfl,-⟩:=hl
 cases q
 all_goals
  go_enter Tryz.func85,Tryz.ntmps85
  go_wp2_with (go_at_call 125;refine Calls.mono C.out ?_;rintro e w2 ⟨rfl,hB2⟩)
  go_ret
  exact ⟨by rw[←hq];rfl,hB2⟩
theorem linkF_any (x:LinkV) (t id:Int) (p q:Nat) (w:World) (hp:w.cell? ⟨p,0,none⟩=some (.int .u8 t)) (hq:w.cell? ⟨q,0,none⟩=some (.int .u32 id)) (hpl:p<w.heap.size) (hql:q<w.heap.size) :
  Calls Tryz.prog 124 #[.agg (linkC x).toArray,.pointer (some ⟨p,0,none⟩),.pointer (some ⟨q,0,none⟩)] w fun e w'=>e=.returned (.bool (x.type==t && x.id==id))∧Below w.heap.size w w':=by
 obtain ⟨x0,x1,x2,x3⟩:=x
 dsimp only[linkC]
 have hB:Below w.heap.size w (w.alloc (.cells #[.int .u32 x0,.int .u32 x1,.int .u8 x2,.int .u16 x3] 99)):=(Below.refl _ _).alloc (Nat.le_refl _) _
 have hp1:=(hB.cell (p:=⟨p,0,none⟩) hpl).trans hp
 have hq1:=(hB.cell (p:=⟨q,0,none⟩) hql).trans hq
 cases e1:(x2==t) <;> cases e2:(x0==id)
 all_goals
  go_enter Tryz.func124,Tryz.ntmps124
  go_wp2
  go_ret
  exact ⟨rfl,(Below.refl _ _).alloc (Nat.le_refl _) _⟩
theorem hasLink_any (t id:Int) (p q:Nat) (l:List LinkV) (lv:Value) (B:Nat) (w:World) (hl:Sl w B 4 lv l.length (l.flatMap linkC)) (hB:B≤w.heap.size) (hn:l.length≤1000000) (hp:w.cell? ⟨p,0,none⟩=some (.int .u8 t)) (hq:w.cell? ⟨q,0,none⟩=some (.int .u32 id)) (hpl:p<w.heap.size) (hql:q<w.heap.size) :
  Calls Tryz.prog 123 #[lv,.func (.func 124) #[] #[.pointer (some ⟨p,0,none⟩),.pointer (some ⟨q,0,none⟩)]] w fun e w'=>e=.returned (.bool (l.any fun x=>x.type==t && x.id==id))∧Below w.heap.size w w':=by
 have C:=idxLink_any linkC linkC_len (fun x=>x.type==t && x.id==id) 124 (.pointer (some ⟨p,0,none⟩)) (.pointer (some ⟨q,0,none⟩)) l lv B w hl hB hn (enters_of Tryz.func124 (by kernel_rfl) rfl)
  (fun x _ W hW=>linkF_any x t id p q W ((hW.cell (p:=⟨p,0,none⟩) hpl).trans hp) ((hW.cell (p:=⟨q,0,none⟩) hql).trans hq) (Nat.lt_of_lt_of_le hpl hW.size) (Nat.lt_of_lt_of_le hql hW.size))
 obtain ⟨z,hz⟩:∃ z,z=l.any fun x=>x.type==t && x.id==id:=⟨_,rfl⟩
 rw[←hz]
 rw[←idxI_ge] at hz
 generalize idxI (l.findIdx? fun x=>x.type==t && x.id==id)=r at C hz
 replace C:=h'd C
 obtain ⟨-,A,c,rfl,-⟩:=hl
 cases z
 all_goals
  go_enter Tryz.func123,Tryz.ntmps123
  go_wp2_with (go_at_call 161;refine Calls.mono C.out ?_;rintro e w2 ⟨rfl,hB2⟩)
  go_ret
  exact ⟨by rw[←hz];rfl,hB2⟩
theorem pre_any (id m:Int) (w:World):Calls Tryz.prog 36 #[.int .u32 id,.int .u32 m] w fun e w'=>e=.returned (.tuple #[.agg #[.int .u32 (bits BinOp.and IntKind.u32 id m),.int .u8 (bitsV m)],.bool (bitsB m)])∧Below w.heap.size w w':=by
 have k0:Blk (w.alloc (.cells #[.int .u32 0,.int .u8 0] 45)) w.heap.size 45 #[.int .u32 0,.int .u8 0]:=Blk.new _ _ _
 have kB:Below w.heap.size w (w.alloc (.cells #[.int .u32 0,.int .u8 0] 45)):=(Below.refl _ _).alloc (Nat.le_refl _) _
 go_enter Tryz.func36,Tryz.ntmps36
 go_upto_region 1 with fail
 generalize w.alloc (.cells #[.int .u32 0,.int .u8 0] 45)=w1 at k0 kB ⊢
 have C:=h'd (bits_any m w1)
 go_upto_region 2 with (go_at_call 83;refine Calls.mono C.out ?_;rintro x w2 ⟨rfl,rfl⟩)
 have hset:Blk (w2.setRow w.heap.size #[.int .u32 (bits BinOp.and IntKind.u32 id m),.int .u8 (bitsV m)]) w.heap.size 45 #[.int .u32 (bits BinOp.and IntKind.u32 id m),.int .u8 (bitsV m)]:=setRow_heap w2 w.heap.size #[.int .u32 0,.int .u8 0] #[.int .u32 (bits BinOp.and IntKind.u32 id m),.int .u8 (bitsV m)] 45 (0,0) k0
 have hB3:Below w.heap.size w2 (w2.setRow w.heap.size #[.int .u32 (bits BinOp.and IntKind.u32 id m),.int .u8 (bitsV m)]):=⟨rfl,rfl,rfl,by simp[World.setRow],fun k hk=>setRow_other _ _ k _ (by omega)⟩
 go_wp2_with (refine wpList_store_row rfl 45 (.tmp 4) (.tmp 17) rfl w.heap.size #[.int .u32 (bits BinOp.and IntKind.u32 id m),.int .u8 (bitsV m)] rfl rfl 45 #[.int .u32 0,.int .u8 0] k0 (by kernel_rfl) rfl (by simp[Value.oneCell']) ?_)
 refine bodyPost_ret (results_cell_tmp_row rfl _ _ w.heap.size 45 #[.int .u32 (bits BinOp.and IntKind.u32 id m),.int .u8 (bitsV m)] (0,0) _ rfl hset Tryz.underlying45 rfl (by kernel_rfl)) rfl ?_
 exact ⟨rfl,kB.trans hB3⟩
structure BodX where
 A1:Option Addr
 c1:Nat
 A2:Option Addr
 c2:Nat
 A3:Option Addr
 c3:Nat
 b:BodyV
def bodL (x:BodX):List Value:=[.int .u8 x.b.flags,.slice x.A1 x.b.links.length x.c1,.int .u32 x.b.mask,.slice x.A2 x.b.routers.length x.c2,.int .u32 x.b.metric,.bool x.b.t2,.int .u32 x.b.fw,.int .u32 x.b.tg,.slice x.A3 x.b.data.length x.c3]
theorem bodL_len (x:BodX):(bodL x).length=9:=rfl
end Go.Proofs.YtcknpofnpabkiaaGreat
