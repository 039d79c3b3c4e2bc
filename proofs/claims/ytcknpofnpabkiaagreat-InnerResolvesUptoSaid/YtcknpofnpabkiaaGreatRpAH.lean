/- inner's comparison of ways by where they lead. Conditions: none. -/
import Derived.Test.YtcknpofnpabkiaaGreatRpAB
import Derived.Test.YtcknpofnpabkiaaGreatRpAG
set_option maxRecDepth 100000
namespace Go.Proofs.YtcknpofnpabkiaaGreat
open Go.RowKit Go.Lo
def keyCmp (x y:WayN):Int:=orI [cmpI x.addr y.addr,cmpI x.bits y.bits,cmpI x.router y.router]
def ltK (x y:WayV):Bool:=decide (keyCmp x.n y.n<0)
theorem cmpI_cases (a b:Int):(a<b∧cmpI a b = -1)∨(a=b∧cmpI a b=0)∨(b<a∧cmpI a b=1):=by
 unfold cmpI
 split
 ·exact .inl ⟨by assumption,rfl⟩
 ·split
  ·exact .inr (.inr ⟨by assumption,rfl⟩)
  ·exact .inr (.inl ⟨by omega,rfl⟩)
theorem ltK_iff (x y:WayV):ltK x y=true↔(x.n.addr<y.n.addr∨(x.n.addr=y.n.addr∧(x.n.bits<y.n.bits∨(x.n.bits=y.n.bits∧x.n.router<y.n.router)))):=by
 unfold ltK keyCmp
 rw[decide_eq_true_eq]
 rcases cmpI_cases x.n.addr y.n.addr with ⟨h1,e1⟩ | ⟨h1,e1⟩ | ⟨h1,e1⟩ <;> rcases cmpI_cases x.n.bits y.n.bits with ⟨h2,e2⟩ | ⟨h2,e2⟩ | ⟨h2,e2⟩ <;> rcases cmpI_cases x.n.router y.n.router with ⟨h3,e3⟩ | ⟨h3,e3⟩ | ⟨h3,e3⟩ <;> simp[e1,e2,e3,orI] <;> omega
theorem swo_ltK:Sort.SWO ltK where
 irrefl x:=by
  cases h:ltK x x with
  | false=>rfl
  | true=>have:=(ltK_iff x x).1 h;omega
 trans x y z h1 h2:=by
  have a1:=(ltK_iff x y).1 h1
  have a2:=(ltK_iff y z).1 h2
  exact (ltK_iff x z).2 (by omega)
 ntrans x y z h1 h2:=by
  cases h:ltK x z with
  | false=>rfl
  | true =>
   exfalso
   have a3:=(ltK_iff x z).1 h
   have a1:¬ _:=fun hc=>by have:=(ltK_iff x y).2 hc;rw[h1] at this;cases this
   have a2:¬ _:=fun hc=>by have:=(ltK_iff y z).2 hc;rw[h2] at this;cases this
   omega
theorem wayE:RowE wayL 10:=⟨wayL_len,fun x v hv=>by
 simp only[wayL,List.mem_cons,List.not_mem_nil,or_false] at hv
 rcases hv with rfl | rfl | rfl | rfl | rfl | rfl | rfl | rfl | rfl | rfl <;> simp[Value.oneCell'],by omega⟩
theorem lcmp_any (x y:WayV) (w:World):Calls Tryz.prog 98 #[.agg x.cells,.agg y.cells] w fun e w'=>e=.returned (.int .i64 (keyCmp x.n y.n))∧Below w.heap.size w w':=by
 obtain ⟨⟨x0,x1,x2,x3,x4,x5,x6,x7,x8⟩,xA,xn,xc⟩:=x
 obtain ⟨⟨y0,y1,y2,y3,y4,y5,y6,y7,y8⟩,yA,yn,yc⟩:=y
 dsimp only[WayV.cells,wayC,keyCmp]
 have k0:Blk ((w.alloc (.cells #[.int .u32 x0,.int .u8 x1,.int .u32 x2,.int .u8 x3,.int .u8 x4,.int .u32 x5,.int .u32 x6,.int .u32 x7,.int .u32 x8,.slice xA xn xc] 48)).alloc (.cells #[.int .u32 y0,.int .u8 y1,.int .u32 y2,.int .u8 y3,.int .u8 y4,.int .u32 y5,.int .u32 y6,.int .u32 y7,.int .u32 y8,.slice yA yn yc] 48)) w.heap.size 48 #[.int .u32 x0,.int .u8 x1,.int .u32 x2,.int .u8 x3,.int .u8 x4,.int .u32 x5,.int .u32 x6,.int .u32 x7,.int .u32 x8,.slice xA xn xc]:=(Blk.new _ _ _).alloc _
 have k1:Blk ((w.alloc (.cells #[.int .u32 x0,.int .u8 x1,.int .u32 x2,.int .u8 x3,.int .u8 x4,.int .u32 x5,.int .u32 x6,.int .u32 x7,.int .u32 x8,.slice xA xn xc] 48)).alloc (.cells #[.int .u32 y0,.int .u8 y1,.int .u32 y2,.int .u8 y3,.int .u8 y4,.int .u32 y5,.int .u32 y6,.int .u32 y7,.int .u32 y8,.slice yA yn yc] 48)) (w.heap.size+1) 48 #[.int .u32 y0,.int .u8 y1,.int .u32 y2,.int .u8 y3,.int .u8 y4,.int .u32 y5,.int .u32 y6,.int .u32 y7,.int .u32 y8,.slice yA yn yc]:=heap_alloc2_new w _ _
 have kB:Below w.heap.size w ((w.alloc (.cells #[.int .u32 x0,.int .u8 x1,.int .u32 x2,.int .u8 x3,.int .u8 x4,.int .u32 x5,.int .u32 x6,.int .u32 x7,.int .u32 x8,.slice xA xn xc] 48)).alloc (.cells #[.int .u32 y0,.int .u8 y1,.int .u32 y2,.int .u8 y3,.int .u8 y4,.int .u32 y5,.int .u32 y6,.int .u32 y7,.int .u32 y8,.slice yA yn yc] 48)):=((b'r _ _).alloc (n'r _) _).alloc (by simp) _
 go_enter Tryz.func98,Tryz.ntmps98
 go_upto_region 1 with fail
 generalize (w.alloc (.cells #[.int .u32 x0,.int .u8 x1,.int .u32 x2,.int .u8 x3,.int .u8 x4,.int .u32 x5,.int .u32 x6,.int .u32 x7,.int .u32 x8,.slice xA xn xc] 48)).alloc (.cells #[.int .u32 y0,.int .u8 y1,.int .u32 y2,.int .u8 y3,.int .u8 y4,.int .u32 y5,.int .u32 y6,.int .u32 y7,.int .u32 y8,.slice yA yn yc] 48)=w1 at k0 k1 kB ⊢
 have c0:=k0.cell 0
 have c1:=k0.cell 1
 have c2:=k0.cell 2
 have d0:=k1.cell 0
 have d1:=k1.cell 1
 have d2:=k1.cell 2
 have hz:=k1.lt
 simp only[q'a,q'z,q's] at c0 c1 c2 d0 d1 d2
 clear k0 k1
 have q0:∀ W,Below (w.heap.size+1+1) w1 W→W.cell? ⟨w.heap.size,0,none⟩=some (.int .u32 x0):=fun W h=>(h.cell (p:=⟨w.heap.size,0,none⟩) (by show w.heap.size<w.heap.size+1+1;omega)).trans c0
 have q1:∀ W,Below (w.heap.size+1+1) w1 W→W.cell? ⟨w.heap.size,1,none⟩=some (.int .u8 x1):=fun W h=>(h.cell (p:=⟨w.heap.size,1,none⟩) (by show w.heap.size<w.heap.size+1+1;omega)).trans c1
 have q2:∀ W,Below (w.heap.size+1+1) w1 W→W.cell? ⟨w.heap.size,2,none⟩=some (.int .u32 x2):=fun W h=>(h.cell (p:=⟨w.heap.size,2,none⟩) (by show w.heap.size<w.heap.size+1+1;omega)).trans c2
 have r0:∀ W,Below (w.heap.size+1+1) w1 W→W.cell? ⟨w.heap.size+1,0,none⟩=some (.int .u32 y0):=fun W h=>(h.cell (p:=⟨w.heap.size+1,0,none⟩) (by show w.heap.size+1<w.heap.size+1+1;omega)).trans d0
 have r1:∀ W,Below (w.heap.size+1+1) w1 W→W.cell? ⟨w.heap.size+1,1,none⟩=some (.int .u8 y1):=fun W h=>(h.cell (p:=⟨w.heap.size+1,1,none⟩) (by show w.heap.size+1<w.heap.size+1+1;omega)).trans d1
 have r2:∀ W,Below (w.heap.size+1+1) w1 W→W.cell? ⟨w.heap.size+1,2,none⟩=some (.int .u32 y2):=fun W h=>(h.cell (p:=⟨w.heap.size+1,2,none⟩) (by show w.heap.size+1<w.heap.size+1+1;omega)).trans d2
 clear c0 c1 c2 d0 d1 d2
 have hle:w.heap.size+1+1≤w1.heap.size:=by omega
 go_region_held3 (fun W=>Below (w.heap.size+1+1) w1 W) (first | assumption | exact (b'r _ _).drew | exact b'r _ _ | exact (below_alloc (b'r _ _) hle _).drew | fail)
  (first
   | (go_at_call 72;refine c'm (compare8_any _ _ _) ?_;rintro e w2 ⟨rfl,rfl⟩)
   | (go_at_call 73;refine c'm (compare32_any _ _ _) ?_;rintro e w3 ⟨rfl,rfl⟩)
   | (go_at_call 71;refine c'm (or_any [cmpI x0 y0,cmpI x1 y1,cmpI x2 y2] _ 3 _ (by simp) (fun i hi=>by simp only[List.length_cons,List.length_nil] at hi;show (w1.alloc _).cell? _=_;rw[World.cell?_alloc_at _ _ _ _ rfl];rcases (show i=0∨i=1∨i=2 by omega) with rfl | rfl | rfl <;> rfl)) ?_;rintro e w4 ⟨rfl,rfl⟩)
   | fail)
 go_wp2
 go_ret
 exact ⟨rfl,kB.trans ((below_alloc (b'r _ _) (by omega) _).drew.mono (by omega))⟩
theorem lcmpF:CmpF wayL ltK 98:=
 ⟨enters_of Tryz.func98 (by kernel_rfl) rfl,fun x y W=>c'm (lcmp_any x y W) (by rintro e w' ⟨rfl,h⟩;exact ⟨_,rfl,rfl,h⟩)⟩
set_option maxRecDepth 100000
def isR (adv:Int) (x:WayN):Bool:=x.router==adv
def idxR (adv:Int) (l:List WayV):Int:=match l.findIdx? (fun x=>isR adv x.n) with | some k=>k | none => -1
theorem isR_any (x:WayV) (adv:Int) (p:Nat) (w:World) (hp:w.cell? ⟨p,0,none⟩=some (.int .u32 adv)) (hl:p<w.heap.size) :
  Calls Tryz.prog 105 #[.agg x.cells,.pointer (some ⟨p,0,none⟩)] w fun e w'=>e=.returned (.bool (isR adv x.n))∧Below w.heap.size w w':=by
 obtain ⟨⟨x0,x1,x2,x3,x4,x5,x6,x7,x8⟩,xA,xn,xc⟩:=x
 dsimp only[WayV.cells,wayC,isR]
 have hB:Below w.heap.size w (w.alloc (.cells #[.int .u32 x0,.int .u8 x1,.int .u32 x2,.int .u8 x3,.int .u8 x4,.int .u32 x5,.int .u32 x6,.int .u32 x7,.int .u32 x8,.slice xA xn xc] 48)):=(b'r _ _).alloc (n'r _) _
 have hp1:=(hB.cell (p:=⟨p,0,none⟩) hl).trans hp
 go_enter Tryz.func105,Tryz.ntmps105
 go_wp2
 all_goals go_ret
 all_goals refine ⟨?_,(b'r _ _).alloc (n'r _) _⟩
 all_goals simp[*]
set_option maxHeartbeats 1000000 in
theorem indexR_any (adv:Int) (l:List WayV) (lv:Value) (B p:Nat) (w:World) (hl:Sl w B 10 lv l.length (l.flatMap wayL)) (hB:B≤w.heap.size) (hp:w.cell? ⟨p,0,none⟩=some (.int .u32 adv)) (hpl:p<w.heap.size) (hn:l.length≤1000000) :
  Calls Tryz.prog 104 #[lv,.func (.func 105) #[] #[.pointer (some ⟨p,0,none⟩)]] w fun e w'=>e=.returned (.int .i64 (idxR adv l))∧Below w.heap.size w w':=by
 obtain ⟨r,hr⟩:∃ r,r=idxR adv l:=⟨_,rfl⟩
 rw[←hr]
 have hl0:=hl
 obtain ⟨-,A,c,rfl,-⟩:=hl
 replace hr:=h'd hr
 go_enter Tryz.func104,Tryz.ntmps104
 go_wp2_with fail
 go_loopg [8] l.length (fun m v wr=>∃ k:Nat,k≤l.length∧m=l.length-k∧v=.int .i64 k∧(∀ j (h:j<l.length),j<k→isR adv l[j].n=false)∧Below w.heap.size w wr)
 case atStart=>exact ⟨0,Nat.zero_le _,rfl,rfl,fun _ _ h=>absurd h (Nat.not_lt_zero _),b'r _ _⟩
 case round =>
  obtain ⟨k,hk,rfl,rfl,hall,hBr⟩:=hrel
  obtain ⟨w1,rfl⟩:∃ x:World,x=wr:=⟨_,rfl⟩
  by_cases hkl:k<l.length
  ·obtain ⟨b,off,rfl,hb,hrow⟩:=Sl.row wayL_len (hl0.below (hBr.mono hB)) hkl
   have ik:(k:Int)<(l.length:Int):=by omega
   have C:=isR_any l[k] adv p w1 ((hBr.cell (p:=⟨p,0,none⟩) hpl).trans hp) (by have:=hBr.size;omega)
   have hrg:w1.rangeAt b (off+k*10) (wayL l[k]):=hrow
   have hagg:(wayL l[k]).toArray=l[k].cells:=rfl
   cases hq:isR adv l[k].n with
   | true =>
    have hrr:r=k:=by
     rw[hr.out]
     unfold idxR
     have:l.findIdx? (fun x=>isR adv x.n)=some k:=List.findIdx?_eq_some_iff_getElem.2 ⟨hkl,hq,fun j hj=>by rw[hall j (by omega) hj];simp⟩
     rw[this]
    rw[hq] at C
    subst hrr
    replace C:=h'd C
    replace hall:=h'd hall
    replace hagg:=h'd hagg
    clear hr
    go_wp2_with (first
     | (refine wpList_load_mid rfl 48 (.tmp 14) rfl b (off+k*10) rfl (wayL l[k]) _ hrg Tryz.underlying48 rfl (by rw[wayL_len];kernel_rfl) ?_;rw[hagg.out])
     | (go_at_call 105;refine c'm C.out ?_;rintro e w2 ⟨rfl,hB2⟩))
    go_ret
    exact ⟨rfl,below_call hBr hB2 (n'r _)⟩
   | false =>
    rw[hq] at C
    have hall2:∀ j (h:j<l.length),j<k+1→isR adv l[j].n=false:=fun j h hj=>by
     by_cases hjk:j=k
     ·subst hjk;exact hq
     ·exact hall j h (by omega)
    replace C:=h'd C
    replace hall2:=h'd hall2
    replace hagg:=h'd hagg
    clear hall
    go_wp2_with (first
     | (refine wpList_load_mid rfl 48 (.tmp 14) rfl b (off+k*10) rfl (wayL l[k]) _ hrg Tryz.underlying48 rfl (by rw[wayL_len];kernel_rfl) ?_;rw[hagg.out])
     | (go_at_call 105;refine c'm C.out ?_;rintro e w2 ⟨rfl,hB2⟩))
    go_roundg (l.length-(k+1))
    case measure=>omega
    case rel=>exact ⟨k+1,by omega,rfl,by go_num,hall2.out,below_call hBr hB2 (n'r _)⟩
  ·obtain rfl:k=l.length:=by omega
   have hrr:r = -1:=by
    rw[hr.out]
    unfold idxR
    have:l.findIdx? (fun x=>isR adv x.n)=none:=List.findIdx?_eq_none_iff.2 fun x hx=>by
     obtain ⟨j,hj,rfl⟩:=List.getElem_of_mem hx
     exact hall j hj hj
    rw[this]
   subst hrr
   go_wp2_with fail
   go_ret
   exact ⟨rfl,hBr⟩
end Go.Proofs.YtcknpofnpabkiaaGreat
