/- layer 18's way: the document's way as the program's, its hops copied. Conditions: the way's hops lie in memory. -/
import Derived.Test.YtcknpofnpabkiaaGreatRpAB
import Derived.Test.YtcknpofnpabkiaaGreatRpAI
set_option maxRecDepth 100000
namespace Go.Proofs.YtcknpofnpabkiaaGreat
open Go.RowKit Go.Lo
theorem own_neW {w:World} {base:Nat} {e:TypeId} {s n:Nat} {v:Value} {xs:List Value} (h:w.ownsRow base e s v n xs) {g:Nat} {t:TypeId} {cs:Array Value} (hb:Blk w g t cs) (hne:t≠e):∀ k,v.ownBlock=some k→k≠g:=by
 intro k hk e
 subst e
 rcases h.2 with h' | ⟨b,cap,cur,rfl,h1,h2,h3⟩
 ·rw[h'.1] at hk
  simp[Value.ownBlock] at hk
 ·simp only[Value.ownBlock,o'j] at hk
  subst hk
  have h4:=hb.symm.trans h2
  simp only[o'j,Obj.cells.injEq] at h4
  exact hne h4.2.1
def WayRo (w:World) (x0 x1 x2 x3 x4 x5 x6 x7 x8:Int) (hops:List Hop) (xA:Option Addr) (xc:Nat) (k:Nat) (wr:World):Prop:=
 ∃ yA yc,Blk wr w.heap.size 126 #[.int .u32 x0,.int .u8 x1,.int .u32 x2,.int .u8 x3,.int .u8 x4,.int .u32 x5,.int .u32 x6,.int .u32 x7,.int .u32 x8,.slice xA hops.length xc]∧Blk wr (w.heap.size+1) 48 #[.int .u32 0,.int .u8 0,.int .u32 0,.int .u8 0,.int .u8 0,.int .u32 0,.int .u32 0,.int .u32 0,.int .u32 0,.slice none 0 0]∧Blk wr (w.heap.size+1+1) 48 #[.int .u32 x0,.int .u8 x1,.int .u32 x2,.int .u8 x3,.int .u8 x4,.int .u32 x5,.int .u32 x6,.int .u32 x7,.int .u32 x8,.slice yA k yc]∧wr.ownsRow (w.heap.size+1+1+1) 56 3 (.slice yA k yc) k ((hops.take k).flatMap hopCells)∧Below w.heap.size w wr
def WayPo (w:World) (n:WayN) (hops:List Hop) (e:Ending) (w':World):Prop:=∃ yA yc,e=.returned (.agg (wayC n (.slice yA hops.length yc)))∧w'.ownsRow w.heap.size 56 3 (.slice yA hops.length yc) hops.length (hops.flatMap hopCells)∧Below w.heap.size w w'
set_option maxHeartbeats 4000000 in
theorem way18_any (x:WayN) (xA:Option Addr) (xc:Nat) (hops:List Hop) (B:Nat) (w:World) (hsl:Sl w B 3 (.slice xA hops.length xc) hops.length (hops.flatMap hopCells)) (hB:B≤w.heap.size) (hhn:hops.length≤2000000) :
  Calls Tryz.prog 60 #[.agg (wayC x (.slice xA hops.length xc))] w (WayPo w x hops):=by
 obtain ⟨x0,x1,x2,x3,x4,x5,x6,x7,x8⟩:=x
 dsimp only[wayC]
 have h0:Blk (((w.alloc (.cells #[.int .u32 x0,.int .u8 x1,.int .u32 x2,.int .u8 x3,.int .u8 x4,.int .u32 x5,.int .u32 x6,.int .u32 x7,.int .u32 x8,.slice xA hops.length xc] 126)).alloc (.cells #[.int .u32 0,.int .u8 0,.int .u32 0,.int .u8 0,.int .u8 0,.int .u32 0,.int .u32 0,.int .u32 0,.int .u32 0,.slice none 0 0] 48)).alloc (.cells #[.int .u32 x0,.int .u8 x1,.int .u32 x2,.int .u8 x3,.int .u8 x4,.int .u32 x5,.int .u32 x6,.int .u32 x7,.int .u32 x8,.slice none 0 0] 48)) w.heap.size 126 #[.int .u32 x0,.int .u8 x1,.int .u32 x2,.int .u8 x3,.int .u8 x4,.int .u32 x5,.int .u32 x6,.int .u32 x7,.int .u32 x8,.slice xA hops.length xc]:=((Blk.new _ _ _).alloc _).alloc _
 have h1:Blk (((w.alloc (.cells #[.int .u32 x0,.int .u8 x1,.int .u32 x2,.int .u8 x3,.int .u8 x4,.int .u32 x5,.int .u32 x6,.int .u32 x7,.int .u32 x8,.slice xA hops.length xc] 126)).alloc (.cells #[.int .u32 0,.int .u8 0,.int .u32 0,.int .u8 0,.int .u8 0,.int .u32 0,.int .u32 0,.int .u32 0,.int .u32 0,.slice none 0 0] 48)).alloc (.cells #[.int .u32 x0,.int .u8 x1,.int .u32 x2,.int .u8 x3,.int .u8 x4,.int .u32 x5,.int .u32 x6,.int .u32 x7,.int .u32 x8,.slice none 0 0] 48)) (w.heap.size+1) 48 #[.int .u32 0,.int .u8 0,.int .u32 0,.int .u8 0,.int .u8 0,.int .u32 0,.int .u32 0,.int .u32 0,.int .u32 0,.slice none 0 0]:=(Blk.new_ _ (by simp)).alloc _
 have h2:Blk (((w.alloc (.cells #[.int .u32 x0,.int .u8 x1,.int .u32 x2,.int .u8 x3,.int .u8 x4,.int .u32 x5,.int .u32 x6,.int .u32 x7,.int .u32 x8,.slice xA hops.length xc] 126)).alloc (.cells #[.int .u32 0,.int .u8 0,.int .u32 0,.int .u8 0,.int .u8 0,.int .u32 0,.int .u32 0,.int .u32 0,.int .u32 0,.slice none 0 0] 48)).alloc (.cells #[.int .u32 x0,.int .u8 x1,.int .u32 x2,.int .u8 x3,.int .u8 x4,.int .u32 x5,.int .u32 x6,.int .u32 x7,.int .u32 x8,.slice none 0 0] 48)) (w.heap.size+1+1) 48 #[.int .u32 x0,.int .u8 x1,.int .u32 x2,.int .u8 x3,.int .u8 x4,.int .u32 x5,.int .u32 x6,.int .u32 x7,.int .u32 x8,.slice none 0 0]:=Blk.new_ _ (by simp)
 have hB0:Below w.heap.size w (((w.alloc (.cells #[.int .u32 x0,.int .u8 x1,.int .u32 x2,.int .u8 x3,.int .u8 x4,.int .u32 x5,.int .u32 x6,.int .u32 x7,.int .u32 x8,.slice xA hops.length xc] 126)).alloc (.cells #[.int .u32 0,.int .u8 0,.int .u32 0,.int .u8 0,.int .u8 0,.int .u32 0,.int .u32 0,.int .u32 0,.int .u32 0,.slice none 0 0] 48)).alloc (.cells #[.int .u32 x0,.int .u8 x1,.int .u32 x2,.int .u8 x3,.int .u8 x4,.int .u32 x5,.int .u32 x6,.int .u32 x7,.int .u32 x8,.slice none 0 0] 48)):=(((b'r _ _).alloc (n'r _) _).alloc (by simp) _).alloc (by simp;omega) _
 go_enter Tryz.func60,Tryz.ntmps60
 go_upto_region 2 with fail
 generalize (((w.alloc (.cells #[.int .u32 x0,.int .u8 x1,.int .u32 x2,.int .u8 x3,.int .u8 x4,.int .u32 x5,.int .u32 x6,.int .u32 x7,.int .u32 x8,.slice xA hops.length xc] 126)).alloc (.cells #[.int .u32 0,.int .u8 0,.int .u32 0,.int .u8 0,.int .u8 0,.int .u32 0,.int .u32 0,.int .u32 0,.int .u32 0,.slice none 0 0] 48)).alloc (.cells #[.int .u32 x0,.int .u8 x1,.int .u32 x2,.int .u8 x3,.int .u8 x4,.int .u32 x5,.int .u32 x6,.int .u32 x7,.int .u32 x8,.slice none 0 0] 48))=w0 at h0 h1 h2 hB0 ⊢
 go_wp2_with fail
 go_loopg [4] hops.length (fun m v wr=>∃ k:Nat,k≤hops.length∧m=hops.length-k∧v=.int .i64 k∧WayRo w x0 x1 x2 x3 x4 x5 x6 x7 x8 hops xA xc k wr)
 case atStart=>exact ⟨0,Nat.zero_le _,rfl,rfl,none,0,h0,h1,h2,World.ownsRow_nil _ _ _ _,hB0⟩
 case round =>
  clear h0 h1 h2 hB0
  obtain ⟨k,hk,rfl,rfl,yA,yc,h0,h1,h2,ho,hBr⟩:=hrel
  obtain ⟨w1,rfl⟩:∃ x:World,x=wr:=⟨_,rfl⟩
  have hz:=h2.lt
  have c9:=h0.cell 9
  simp only[q'a,q'z,q's] at c9
  by_cases hkl:k<hops.length
  ·obtain ⟨b,off,rfl,hb,hrow⟩:=Sl.row hopCells_len hsl hkl
   obtain ⟨a,ha⟩:∃ a,a=hops[k]:=⟨_,rfl⟩
   have htk:hops.take (k+1)=hops.take k++[a]:=by rw[ha];exact t'k hkl
   rw[←ha] at hrow
   clear ha
   have hbw:b<w.heap.size:=by omega
   have ik:(k:Int)<(hops.length:Int):=by omega
   have H0:=h'd h0
   have H1:=h'd h1
   have HB:=h'd hBr
   have hbc:∀ W,Below (w.heap.size+1+1) w1 W→∀ j u,(hopCells a)[j]?=some u→W.cell? ⟨b,off+k*3+j,none⟩=some u:=fun W h j u hu=>(h.cell (p:=⟨b,off+k*3+j,none⟩) (by show b<w.heap.size+1+1;omega)).trans ((hBr.cell (p:=⟨b,off+k*3+j,none⟩) hbw).trans (hrow j u hu))
   have hrc:∀ W,Below (w.heap.size+1+1) w1 W→W.cell? ⟨w.heap.size,9,none⟩=some (.slice (some ⟨b,off,none⟩) hops.length xc):=fun W h=>(h.cell (p:=⟨w.heap.size,9,none⟩) (by show w.heap.size<w.heap.size+1+1;omega)).trans (h0.cell 9)
   have htk2:(hops.take (k+1)).flatMap hopCells=(hops.take k).flatMap hopCells++hopCells a:=by rw[htk,List.flatMap_append];simp
   replace htk2:=h'd htk2
   replace hbc:=h'd hbc
   replace hrc:=h'd hrc
   have hle:w.heap.size+1+1+1≤w1.heap.size:=by omega
   have hmix:(Tryz.prog).follows .mixedOrders=true:=by kernel_rfl
   clear htk h0 h1 hBr hrow
   go_upto_region 5 with fail
   clear c9
   refine wp_region_inv0 (fun a0 w0 L a' w'=>∃ t29 t30 t31 t32 t33 t34 t35 t36 t37 t38 t39 t40 t41 t42 t43 t44 t45 t46 t47 t48 t49 t50 t51 t52:Value,a'=((((((((((((((((((((((((a0.put (some 29) t29).put (some 30) t30).put (some 31) t31).put (some 32) t32).put (some 33) t33).put (some 34) t34).put (some 35) t35).put (some 36) t36).put (some 37) t37).put (some 38) t38).put (some 39) t39).put (some 40) t40).put (some 41) t41).put (some 42) t42).put (some 43) t43).put (some 44) t44).put (some 45) t45).put (some 46) t46).put (some 47) t47).put (some 48) t48).put (some 49) t49).put (some 50) t50).put (some 51) t51).put (some 52) t52)∧Below (w.heap.size+1+1) w0 w'∧(L.getD 24 false=false→Blk w' (w.heap.size+1+1) 48 #[.int .u32 x0,.int .u8 x1,.int .u32 x2,.int .u8 x3,.int .u8 x4,.int .u32 x5,.int .u32 x6,.int .u32 x7,.int .u32 x8,.slice yA k yc])∧(L.getD 22 false=false→w'.ownsRow (w.heap.size+1+1+1) 56 3 (.slice yA k yc) k ((hops.take k).flatMap hopCells))∧(L.getD 21 false=true→∃ gh,t50=.slice (some ⟨gh,0,none⟩) 1 1∧(L.getD 22 false=false→Blk w' gh 56 #[.int .u32 a.1,.int .u32 a.2.1,.bool a.2.2]))∧(L.getD 22 false=true→∃ A4 c4,t51=.slice A4 (k+1) c4∧w'.ownsRow (w.heap.size+1+1+1) 56 3 (.slice A4 (k+1) c4) (k+1) ((hops.take (k+1)).flatMap hopCells)∧(L.getD 24 false=true→Blk w' (w.heap.size+1+1) 48 #[.int .u32 x0,.int .u8 x1,.int .u32 x2,.int .u8 x3,.int .u8 x4,.int .u32 x5,.int .u32 x6,.int .u32 x7,.int .u32 x8,.slice A4 (k+1) c4]))∧(L.getD 24 false=true→L.getD 22 false=true)∧(L.getD 22 false=true→L.getD 1 false=true)∧(L.getD 22 false=true→L.getD 21 false=true)∧(L.getD 0 false=true→t29=.pointer (some ⟨w.heap.size+1+1,9,none⟩))∧(L.getD 1 false=true→t30=.slice yA k yc)∧(L.getD 2 false=true→t31=.pointer (some ⟨w.heap.size,9,none⟩))∧(L.getD 3 false=true→t32=.slice (some ⟨b,off,none⟩) hops.length xc)∧(L.getD 4 false=true→t33=.int .i64 k)∧(L.getD 5 false=true→t34=.pointer (some ⟨b,off+k*3,none⟩))∧(L.getD 6 false=true→t35=.pointer (some ⟨b,off+k*3,none⟩))∧(L.getD 7 false=true→t36=.int .u32 a.1)∧(L.getD 8 false=true→t37=.pointer (some ⟨w.heap.size,9,none⟩))∧(L.getD 9 false=true→t38=.slice (some ⟨b,off,none⟩) hops.length xc)∧(L.getD 10 false=true→t39=.int .i64 k)∧(L.getD 11 false=true→t40=.pointer (some ⟨b,off+k*3,none⟩))∧(L.getD 12 false=true→t41=.pointer (some ⟨b,off+k*3+1,none⟩))∧(L.getD 13 false=true→t42=.int .u32 a.2.1)∧(L.getD 14 false=true→t43=.pointer (some ⟨w.heap.size,9,none⟩))∧(L.getD 15 false=true→t44=.slice (some ⟨b,off,none⟩) hops.length xc)∧(L.getD 16 false=true→t45=.int .i64 k)∧(L.getD 17 false=true→t46=.pointer (some ⟨b,off+k*3,none⟩))∧(L.getD 18 false=true→t47=.pointer (some ⟨b,off+k*3+2,none⟩))∧(L.getD 19 false=true→t48=.bool a.2.2)∧(L.getD 20 false=true→t49=.agg #[.int .u32 a.1,.int .u32 a.2.1,.bool a.2.2])∧(L.getD 23 false=true→t52=.pointer (some ⟨w.heap.size+1+1,9,none⟩))) hmix (by kernel_rfl) ?_ ?_ ?_
   ·refine ⟨u29,u30,u31,u32,u33,u34,u35,u36,u37,u38,u39,u40,u41,u42,u43,u44,u45,u46,u47,u48,u49,u50,u51,u52,(by first | (simp only[Act.put,s'a,s'z,s's];done) | (simp[Act.put];done)),(b'r _ _).drew,fun _=>h2,fun _=>ho,?_⟩
    refine ⟨?_,?_,?_,?_,?_,?_,?_,?_,?_,?_,?_,?_,?_,?_,?_,?_,?_,?_,?_,?_,?_,?_,?_,?_,?_,?_,?_⟩
    all_goals (intro h;simp at h)
   ·clear h2 ho
    rintro L a' w' i hL hi ⟨t29,t30,t31,t32,t33,t34,t35,t36,t37,t38,t39,t40,t41,t42,t43,t44,t45,t46,t47,t48,t49,t50,t51,t52,ha,hB,m1,m2,m3,m4,o1,o2,o3,c29,c30,c31,c32,c33,c34,c35,c36,c37,c38,c39,c40,c41,c42,c43,c44,c45,c46,c47,c48,c49,c52⟩
    simp only[Act.put,s'a,s'z,s's] at ha
    subst ha
    have hlt:i<25:=(ready_mem hi).1
    have hun:=getD_low (ready_mem hi).2
    have g:∀ i' j',i'<25→(L.setIfInBounds i' true).getD j' false=if j'=i' then true else L.getD j' false:=fun i' j' h=>getD_set (by rw[hL];exact h)
    have hw':w.heap.size+1+1+1≤w'.heap.size:=n't hle hB.size
    rcases (show i=0∨i=1∨i=2∨i=3∨i=4∨i=5∨i=6∨i=7∨i=8∨i=9∨i=10∨i=11∨i=12∨i=13∨i=14∨i=15∨i=16∨i=17∨i=18∨i=19∨i=20∨i=21∨i=22∨i=23∨i=24 by omega) with rfl | rfl | rfl | rfl | rfl | rfl | rfl | rfl | rfl | rfl | rfl | rfl | rfl | rfl | rfl | rfl | rfl | rfl | rfl | rfl | rfl | rfl | rfl | rfl | rfl
    ·have haf:=ready_after hi rfl
     simp[Region.binds] at haf
     refine w'k rfl fun K' hK => ?_
     go_wp2
     exact hK.out _ _ ⟨(.pointer (some ⟨w.heap.size+1+1,9,none⟩)),t30,t31,t32,t33,t34,t35,t36,t37,t38,t39,t40,t41,t42,t43,t44,t45,t46,t47,t48,t49,t50,t51,t52,(by first | (simp only[Act.put,s'a,s'z,s's];done) | (simp[Act.put];done)),hB,(by simpa[g] using m1),(by simpa[g] using m2),(by simpa[g] using m3),(by simpa[g] using m4),(by simpa[g] using o1),(by simpa[g] using o2),(by simpa[g] using o3),(fun _=>rfl),(by simpa[g] using c30),(by simpa[g] using c31),(by simpa[g] using c32),(by simpa[g] using c33),(by simpa[g] using c34),(by simpa[g] using c35),(by simpa[g] using c36),(by simpa[g] using c37),(by simpa[g] using c38),(by simpa[g] using c39),(by simpa[g] using c40),(by simpa[g] using c41),(by simpa[g] using c42),(by simpa[g] using c43),(by simpa[g] using c44),(by simpa[g] using c45),(by simpa[g] using c46),(by simpa[g] using c47),(by simpa[g] using c48),(by simpa[g] using c49),(by simpa[g] using c52)⟩
    ·have haf:=ready_after hi rfl
     simp[Region.binds] at haf
     obtain rfl:=c29 (by simp only[Array.getD_eq_getD_getElem?];simp only[haf])
     have hn22:L.getD 22 false=false:=by cases h:L.getD 22 false with | false=>rfl | true=>(have:=o2 h;rw[hun] at this;cases this)
     have hn24:L.getD 24 false=false:=by cases h:L.getD 24 false with | false=>rfl | true=>(have:=o1 h;rw[hn22] at this;cases this)
     have hx:=(m1 hn24).cell 9
     simp only[q'a,q'z,q's] at hx
     refine w'k rfl fun K' hK => ?_
     go_wp2
     exact hK.out _ _ ⟨(.pointer (some ⟨w.heap.size+1+1,9,none⟩)),(.slice yA k yc),t31,t32,t33,t34,t35,t36,t37,t38,t39,t40,t41,t42,t43,t44,t45,t46,t47,t48,t49,t50,t51,t52,(by first | (simp only[Act.put,s'a,s'z,s's];done) | (simp[Act.put];done)),hB,(by simpa[g] using m1),(by simpa[g] using m2),(by simpa[g] using m3),(by simpa[g] using m4),(by simpa[g] using o1),(fun _=>by simp[g]),(by simpa[g] using o3),(fun _=>rfl),(fun _=>rfl),(by simpa[g] using c31),(by simpa[g] using c32),(by simpa[g] using c33),(by simpa[g] using c34),(by simpa[g] using c35),(by simpa[g] using c36),(by simpa[g] using c37),(by simpa[g] using c38),(by simpa[g] using c39),(by simpa[g] using c40),(by simpa[g] using c41),(by simpa[g] using c42),(by simpa[g] using c43),(by simpa[g] using c44),(by simpa[g] using c45),(by simpa[g] using c46),(by simpa[g] using c47),(by simpa[g] using c48),(by simpa[g] using c49),(by simpa[g] using c52)⟩
    ·have haf:=ready_after hi rfl
     simp[Region.binds] at haf
     refine w'k rfl fun K' hK => ?_
     go_wp2
     exact hK.out _ _ ⟨t29,t30,(.pointer (some ⟨w.heap.size,9,none⟩)),t32,t33,t34,t35,t36,t37,t38,t39,t40,t41,t42,t43,t44,t45,t46,t47,t48,t49,t50,t51,t52,(by first | (simp only[Act.put,s'a,s'z,s's];done) | (simp[Act.put];done)),hB,(by simpa[g] using m1),(by simpa[g] using m2),(by simpa[g] using m3),(by simpa[g] using m4),(by simpa[g] using o1),(by simpa[g] using o2),(by simpa[g] using o3),(by simpa[g] using c29),(by simpa[g] using c30),(fun _=>rfl),(by simpa[g] using c32),(by simpa[g] using c33),(by simpa[g] using c34),(by simpa[g] using c35),(by simpa[g] using c36),(by simpa[g] using c37),(by simpa[g] using c38),(by simpa[g] using c39),(by simpa[g] using c40),(by simpa[g] using c41),(by simpa[g] using c42),(by simpa[g] using c43),(by simpa[g] using c44),(by simpa[g] using c45),(by simpa[g] using c46),(by simpa[g] using c47),(by simpa[g] using c48),(by simpa[g] using c49),(by simpa[g] using c52)⟩
    ·have haf:=ready_after hi rfl
     simp[Region.binds] at haf
     obtain rfl:=c31 (by simp only[Array.getD_eq_getD_getElem?];simp only[haf])
     have hx:=hrc.out w' hB
     refine w'k rfl fun K' hK => ?_
     go_wp2
     exact hK.out _ _ ⟨t29,t30,(.pointer (some ⟨w.heap.size,9,none⟩)),(.slice (some ⟨b,off,none⟩) hops.length xc),t33,t34,t35,t36,t37,t38,t39,t40,t41,t42,t43,t44,t45,t46,t47,t48,t49,t50,t51,t52,(by first | (simp only[Act.put,s'a,s'z,s's];done) | (simp[Act.put];done)),hB,(by simpa[g] using m1),(by simpa[g] using m2),(by simpa[g] using m3),(by simpa[g] using m4),(by simpa[g] using o1),(by simpa[g] using o2),(by simpa[g] using o3),(by simpa[g] using c29),(by simpa[g] using c30),(fun _=>rfl),(fun _=>rfl),(by simpa[g] using c33),(by simpa[g] using c34),(by simpa[g] using c35),(by simpa[g] using c36),(by simpa[g] using c37),(by simpa[g] using c38),(by simpa[g] using c39),(by simpa[g] using c40),(by simpa[g] using c41),(by simpa[g] using c42),(by simpa[g] using c43),(by simpa[g] using c44),(by simpa[g] using c45),(by simpa[g] using c46),(by simpa[g] using c47),(by simpa[g] using c48),(by simpa[g] using c49),(by simpa[g] using c52)⟩
    ·have haf:=ready_after hi rfl
     simp[Region.binds] at haf
     refine w'k rfl fun K' hK => ?_
     go_wp2
     exact hK.out _ _ ⟨t29,t30,t31,t32,(.int .i64 k),t34,t35,t36,t37,t38,t39,t40,t41,t42,t43,t44,t45,t46,t47,t48,t49,t50,t51,t52,(by first | (simp only[Act.put,s'a,s'z,s's];done) | (simp[Act.put];done)),hB,(by simpa[g] using m1),(by simpa[g] using m2),(by simpa[g] using m3),(by simpa[g] using m4),(by simpa[g] using o1),(by simpa[g] using o2),(by simpa[g] using o3),(by simpa[g] using c29),(by simpa[g] using c30),(by simpa[g] using c31),(by simpa[g] using c32),(fun _=>rfl),(by simpa[g] using c34),(by simpa[g] using c35),(by simpa[g] using c36),(by simpa[g] using c37),(by simpa[g] using c38),(by simpa[g] using c39),(by simpa[g] using c40),(by simpa[g] using c41),(by simpa[g] using c42),(by simpa[g] using c43),(by simpa[g] using c44),(by simpa[g] using c45),(by simpa[g] using c46),(by simpa[g] using c47),(by simpa[g] using c48),(by simpa[g] using c49),(by simpa[g] using c52)⟩
    ·have haf:=ready_after hi rfl
     simp[Region.binds] at haf
     obtain rfl:=c32 (by simp only[Array.getD_eq_getD_getElem?];simp only[haf])
     obtain rfl:=c33 (by simp only[Array.getD_eq_getD_getElem?];simp only[haf])
     refine w'k rfl fun K' hK => ?_
     go_wp2
     exact hK.out _ _ ⟨t29,t30,t31,(.slice (some ⟨b,off,none⟩) hops.length xc),(.int .i64 k),(.pointer (some ⟨b,off+k*3,none⟩)),t35,t36,t37,t38,t39,t40,t41,t42,t43,t44,t45,t46,t47,t48,t49,t50,t51,t52,(by first | (simp only[Act.put,s'a,s'z,s's];done) | (simp[Act.put];done)),hB,(by simpa[g] using m1),(by simpa[g] using m2),(by simpa[g] using m3),(by simpa[g] using m4),(by simpa[g] using o1),(by simpa[g] using o2),(by simpa[g] using o3),(by simpa[g] using c29),(by simpa[g] using c30),(by simpa[g] using c31),(fun _=>rfl),(fun _=>rfl),(fun _=>rfl),(by simpa[g] using c35),(by simpa[g] using c36),(by simpa[g] using c37),(by simpa[g] using c38),(by simpa[g] using c39),(by simpa[g] using c40),(by simpa[g] using c41),(by simpa[g] using c42),(by simpa[g] using c43),(by simpa[g] using c44),(by simpa[g] using c45),(by simpa[g] using c46),(by simpa[g] using c47),(by simpa[g] using c48),(by simpa[g] using c49),(by simpa[g] using c52)⟩
    ·have haf:=ready_after hi rfl
     simp[Region.binds] at haf
     obtain rfl:=c34 (by simp only[Array.getD_eq_getD_getElem?];simp only[haf])
     refine w'k rfl fun K' hK => ?_
     go_wp2
     exact hK.out _ _ ⟨t29,t30,t31,t32,t33,(.pointer (some ⟨b,off+k*3,none⟩)),(.pointer (some ⟨b,off+k*3,none⟩)),t36,t37,t38,t39,t40,t41,t42,t43,t44,t45,t46,t47,t48,t49,t50,t51,t52,(by first | (simp only[Act.put,s'a,s'z,s's];done) | (simp[Act.put];done)),hB,(by simpa[g] using m1),(by simpa[g] using m2),(by simpa[g] using m3),(by simpa[g] using m4),(by simpa[g] using o1),(by simpa[g] using o2),(by simpa[g] using o3),(by simpa[g] using c29),(by simpa[g] using c30),(by simpa[g] using c31),(by simpa[g] using c32),(by simpa[g] using c33),(fun _=>rfl),(fun _=>rfl),(by simpa[g] using c36),(by simpa[g] using c37),(by simpa[g] using c38),(by simpa[g] using c39),(by simpa[g] using c40),(by simpa[g] using c41),(by simpa[g] using c42),(by simpa[g] using c43),(by simpa[g] using c44),(by simpa[g] using c45),(by simpa[g] using c46),(by simpa[g] using c47),(by simpa[g] using c48),(by simpa[g] using c49),(by simpa[g] using c52)⟩
    ·have haf:=ready_after hi rfl
     simp[Region.binds] at haf
     obtain rfl:=c35 (by simp only[Array.getD_eq_getD_getElem?];simp only[haf])
     have hx:w'.cell? ⟨b,off+k*3,none⟩=some (.int .u32 a.1):=hbc.out w' hB 0 _ rfl
     refine w'k rfl fun K' hK => ?_
     go_wp2
     exact hK.out _ _ ⟨t29,t30,t31,t32,t33,t34,(.pointer (some ⟨b,off+k*3,none⟩)),(.int .u32 a.1),t37,t38,t39,t40,t41,t42,t43,t44,t45,t46,t47,t48,t49,t50,t51,t52,(by first | (simp only[Act.put,s'a,s'z,s's];done) | (simp[Act.put];done)),hB,(by simpa[g] using m1),(by simpa[g] using m2),(by simpa[g] using m3),(by simpa[g] using m4),(by simpa[g] using o1),(by simpa[g] using o2),(by simpa[g] using o3),(by simpa[g] using c29),(by simpa[g] using c30),(by simpa[g] using c31),(by simpa[g] using c32),(by simpa[g] using c33),(by simpa[g] using c34),(fun _=>rfl),(fun _=>rfl),(by simpa[g] using c37),(by simpa[g] using c38),(by simpa[g] using c39),(by simpa[g] using c40),(by simpa[g] using c41),(by simpa[g] using c42),(by simpa[g] using c43),(by simpa[g] using c44),(by simpa[g] using c45),(by simpa[g] using c46),(by simpa[g] using c47),(by simpa[g] using c48),(by simpa[g] using c49),(by simpa[g] using c52)⟩
    ·have haf:=ready_after hi rfl
     simp[Region.binds] at haf
     refine w'k rfl fun K' hK => ?_
     go_wp2
     exact hK.out _ _ ⟨t29,t30,t31,t32,t33,t34,t35,t36,(.pointer (some ⟨w.heap.size,9,none⟩)),t38,t39,t40,t41,t42,t43,t44,t45,t46,t47,t48,t49,t50,t51,t52,(by first | (simp only[Act.put,s'a,s'z,s's];done) | (simp[Act.put];done)),hB,(by simpa[g] using m1),(by simpa[g] using m2),(by simpa[g] using m3),(by simpa[g] using m4),(by simpa[g] using o1),(by simpa[g] using o2),(by simpa[g] using o3),(by simpa[g] using c29),(by simpa[g] using c30),(by simpa[g] using c31),(by simpa[g] using c32),(by simpa[g] using c33),(by simpa[g] using c34),(by simpa[g] using c35),(by simpa[g] using c36),(fun _=>rfl),(by simpa[g] using c38),(by simpa[g] using c39),(by simpa[g] using c40),(by simpa[g] using c41),(by simpa[g] using c42),(by simpa[g] using c43),(by simpa[g] using c44),(by simpa[g] using c45),(by simpa[g] using c46),(by simpa[g] using c47),(by simpa[g] using c48),(by simpa[g] using c49),(by simpa[g] using c52)⟩
    ·have haf:=ready_after hi rfl
     simp[Region.binds] at haf
     obtain rfl:=c37 (by simp only[Array.getD_eq_getD_getElem?];simp only[haf])
     have hx:=hrc.out w' hB
     refine w'k rfl fun K' hK => ?_
     go_wp2
     exact hK.out _ _ ⟨t29,t30,t31,t32,t33,t34,t35,t36,(.pointer (some ⟨w.heap.size,9,none⟩)),(.slice (some ⟨b,off,none⟩) hops.length xc),t39,t40,t41,t42,t43,t44,t45,t46,t47,t48,t49,t50,t51,t52,(by first | (simp only[Act.put,s'a,s'z,s's];done) | (simp[Act.put];done)),hB,(by simpa[g] using m1),(by simpa[g] using m2),(by simpa[g] using m3),(by simpa[g] using m4),(by simpa[g] using o1),(by simpa[g] using o2),(by simpa[g] using o3),(by simpa[g] using c29),(by simpa[g] using c30),(by simpa[g] using c31),(by simpa[g] using c32),(by simpa[g] using c33),(by simpa[g] using c34),(by simpa[g] using c35),(by simpa[g] using c36),(fun _=>rfl),(fun _=>rfl),(by simpa[g] using c39),(by simpa[g] using c40),(by simpa[g] using c41),(by simpa[g] using c42),(by simpa[g] using c43),(by simpa[g] using c44),(by simpa[g] using c45),(by simpa[g] using c46),(by simpa[g] using c47),(by simpa[g] using c48),(by simpa[g] using c49),(by simpa[g] using c52)⟩
    ·have haf:=ready_after hi rfl
     simp[Region.binds] at haf
     refine w'k rfl fun K' hK => ?_
     go_wp2
     exact hK.out _ _ ⟨t29,t30,t31,t32,t33,t34,t35,t36,t37,t38,(.int .i64 k),t40,t41,t42,t43,t44,t45,t46,t47,t48,t49,t50,t51,t52,(by first | (simp only[Act.put,s'a,s'z,s's];done) | (simp[Act.put];done)),hB,(by simpa[g] using m1),(by simpa[g] using m2),(by simpa[g] using m3),(by simpa[g] using m4),(by simpa[g] using o1),(by simpa[g] using o2),(by simpa[g] using o3),(by simpa[g] using c29),(by simpa[g] using c30),(by simpa[g] using c31),(by simpa[g] using c32),(by simpa[g] using c33),(by simpa[g] using c34),(by simpa[g] using c35),(by simpa[g] using c36),(by simpa[g] using c37),(by simpa[g] using c38),(fun _=>rfl),(by simpa[g] using c40),(by simpa[g] using c41),(by simpa[g] using c42),(by simpa[g] using c43),(by simpa[g] using c44),(by simpa[g] using c45),(by simpa[g] using c46),(by simpa[g] using c47),(by simpa[g] using c48),(by simpa[g] using c49),(by simpa[g] using c52)⟩
    ·have haf:=ready_after hi rfl
     simp[Region.binds] at haf
     obtain rfl:=c38 (by simp only[Array.getD_eq_getD_getElem?];simp only[haf])
     obtain rfl:=c39 (by simp only[Array.getD_eq_getD_getElem?];simp only[haf])
     refine w'k rfl fun K' hK => ?_
     go_wp2
     exact hK.out _ _ ⟨t29,t30,t31,t32,t33,t34,t35,t36,t37,(.slice (some ⟨b,off,none⟩) hops.length xc),(.int .i64 k),(.pointer (some ⟨b,off+k*3,none⟩)),t41,t42,t43,t44,t45,t46,t47,t48,t49,t50,t51,t52,(by first | (simp only[Act.put,s'a,s'z,s's];done) | (simp[Act.put];done)),hB,(by simpa[g] using m1),(by simpa[g] using m2),(by simpa[g] using m3),(by simpa[g] using m4),(by simpa[g] using o1),(by simpa[g] using o2),(by simpa[g] using o3),(by simpa[g] using c29),(by simpa[g] using c30),(by simpa[g] using c31),(by simpa[g] using c32),(by simpa[g] using c33),(by simpa[g] using c34),(by simpa[g] using c35),(by simpa[g] using c36),(by simpa[g] using c37),(fun _=>rfl),(fun _=>rfl),(fun _=>rfl),(by simpa[g] using c41),(by simpa[g] using c42),(by simpa[g] using c43),(by simpa[g] using c44),(by simpa[g] using c45),(by simpa[g] using c46),(by simpa[g] using c47),(by simpa[g] using c48),(by simpa[g] using c49),(by simpa[g] using c52)⟩
    ·have haf:=ready_after hi rfl
     simp[Region.binds] at haf
     obtain rfl:=c40 (by simp only[Array.getD_eq_getD_getElem?];simp only[haf])
     refine w'k rfl fun K' hK => ?_
     go_wp2
     exact hK.out _ _ ⟨t29,t30,t31,t32,t33,t34,t35,t36,t37,t38,t39,(.pointer (some ⟨b,off+k*3,none⟩)),(.pointer (some ⟨b,off+k*3+1,none⟩)),t42,t43,t44,t45,t46,t47,t48,t49,t50,t51,t52,(by first | (simp only[Act.put,s'a,s'z,s's];done) | (simp[Act.put];done)),hB,(by simpa[g] using m1),(by simpa[g] using m2),(by simpa[g] using m3),(by simpa[g] using m4),(by simpa[g] using o1),(by simpa[g] using o2),(by simpa[g] using o3),(by simpa[g] using c29),(by simpa[g] using c30),(by simpa[g] using c31),(by simpa[g] using c32),(by simpa[g] using c33),(by simpa[g] using c34),(by simpa[g] using c35),(by simpa[g] using c36),(by simpa[g] using c37),(by simpa[g] using c38),(by simpa[g] using c39),(fun _=>rfl),(fun _=>rfl),(by simpa[g] using c42),(by simpa[g] using c43),(by simpa[g] using c44),(by simpa[g] using c45),(by simpa[g] using c46),(by simpa[g] using c47),(by simpa[g] using c48),(by simpa[g] using c49),(by simpa[g] using c52)⟩
    ·have haf:=ready_after hi rfl
     simp[Region.binds] at haf
     obtain rfl:=c41 (by simp only[Array.getD_eq_getD_getElem?];simp only[haf])
     have hx:w'.cell? ⟨b,off+k*3+1,none⟩=some (.int .u32 a.2.1):=hbc.out w' hB 1 _ rfl
     refine w'k rfl fun K' hK => ?_
     go_wp2
     exact hK.out _ _ ⟨t29,t30,t31,t32,t33,t34,t35,t36,t37,t38,t39,t40,(.pointer (some ⟨b,off+k*3+1,none⟩)),(.int .u32 a.2.1),t43,t44,t45,t46,t47,t48,t49,t50,t51,t52,(by first | (simp only[Act.put,s'a,s'z,s's];done) | (simp[Act.put];done)),hB,(by simpa[g] using m1),(by simpa[g] using m2),(by simpa[g] using m3),(by simpa[g] using m4),(by simpa[g] using o1),(by simpa[g] using o2),(by simpa[g] using o3),(by simpa[g] using c29),(by simpa[g] using c30),(by simpa[g] using c31),(by simpa[g] using c32),(by simpa[g] using c33),(by simpa[g] using c34),(by simpa[g] using c35),(by simpa[g] using c36),(by simpa[g] using c37),(by simpa[g] using c38),(by simpa[g] using c39),(by simpa[g] using c40),(fun _=>rfl),(fun _=>rfl),(by simpa[g] using c43),(by simpa[g] using c44),(by simpa[g] using c45),(by simpa[g] using c46),(by simpa[g] using c47),(by simpa[g] using c48),(by simpa[g] using c49),(by simpa[g] using c52)⟩
    ·have haf:=ready_after hi rfl
     simp[Region.binds] at haf
     refine w'k rfl fun K' hK => ?_
     go_wp2
     exact hK.out _ _ ⟨t29,t30,t31,t32,t33,t34,t35,t36,t37,t38,t39,t40,t41,t42,(.pointer (some ⟨w.heap.size,9,none⟩)),t44,t45,t46,t47,t48,t49,t50,t51,t52,(by first | (simp only[Act.put,s'a,s'z,s's];done) | (simp[Act.put];done)),hB,(by simpa[g] using m1),(by simpa[g] using m2),(by simpa[g] using m3),(by simpa[g] using m4),(by simpa[g] using o1),(by simpa[g] using o2),(by simpa[g] using o3),(by simpa[g] using c29),(by simpa[g] using c30),(by simpa[g] using c31),(by simpa[g] using c32),(by simpa[g] using c33),(by simpa[g] using c34),(by simpa[g] using c35),(by simpa[g] using c36),(by simpa[g] using c37),(by simpa[g] using c38),(by simpa[g] using c39),(by simpa[g] using c40),(by simpa[g] using c41),(by simpa[g] using c42),(fun _=>rfl),(by simpa[g] using c44),(by simpa[g] using c45),(by simpa[g] using c46),(by simpa[g] using c47),(by simpa[g] using c48),(by simpa[g] using c49),(by simpa[g] using c52)⟩
    ·have haf:=ready_after hi rfl
     simp[Region.binds] at haf
     obtain rfl:=c43 (by simp only[Array.getD_eq_getD_getElem?];simp only[haf])
     have hx:=hrc.out w' hB
     refine w'k rfl fun K' hK => ?_
     go_wp2
     exact hK.out _ _ ⟨t29,t30,t31,t32,t33,t34,t35,t36,t37,t38,t39,t40,t41,t42,(.pointer (some ⟨w.heap.size,9,none⟩)),(.slice (some ⟨b,off,none⟩) hops.length xc),t45,t46,t47,t48,t49,t50,t51,t52,(by first | (simp only[Act.put,s'a,s'z,s's];done) | (simp[Act.put];done)),hB,(by simpa[g] using m1),(by simpa[g] using m2),(by simpa[g] using m3),(by simpa[g] using m4),(by simpa[g] using o1),(by simpa[g] using o2),(by simpa[g] using o3),(by simpa[g] using c29),(by simpa[g] using c30),(by simpa[g] using c31),(by simpa[g] using c32),(by simpa[g] using c33),(by simpa[g] using c34),(by simpa[g] using c35),(by simpa[g] using c36),(by simpa[g] using c37),(by simpa[g] using c38),(by simpa[g] using c39),(by simpa[g] using c40),(by simpa[g] using c41),(by simpa[g] using c42),(fun _=>rfl),(fun _=>rfl),(by simpa[g] using c45),(by simpa[g] using c46),(by simpa[g] using c47),(by simpa[g] using c48),(by simpa[g] using c49),(by simpa[g] using c52)⟩
    ·have haf:=ready_after hi rfl
     simp[Region.binds] at haf
     refine w'k rfl fun K' hK => ?_
     go_wp2
     exact hK.out _ _ ⟨t29,t30,t31,t32,t33,t34,t35,t36,t37,t38,t39,t40,t41,t42,t43,t44,(.int .i64 k),t46,t47,t48,t49,t50,t51,t52,(by first | (simp only[Act.put,s'a,s'z,s's];done) | (simp[Act.put];done)),hB,(by simpa[g] using m1),(by simpa[g] using m2),(by simpa[g] using m3),(by simpa[g] using m4),(by simpa[g] using o1),(by simpa[g] using o2),(by simpa[g] using o3),(by simpa[g] using c29),(by simpa[g] using c30),(by simpa[g] using c31),(by simpa[g] using c32),(by simpa[g] using c33),(by simpa[g] using c34),(by simpa[g] using c35),(by simpa[g] using c36),(by simpa[g] using c37),(by simpa[g] using c38),(by simpa[g] using c39),(by simpa[g] using c40),(by simpa[g] using c41),(by simpa[g] using c42),(by simpa[g] using c43),(by simpa[g] using c44),(fun _=>rfl),(by simpa[g] using c46),(by simpa[g] using c47),(by simpa[g] using c48),(by simpa[g] using c49),(by simpa[g] using c52)⟩
    ·have haf:=ready_after hi rfl
     simp[Region.binds] at haf
     obtain rfl:=c44 (by simp only[Array.getD_eq_getD_getElem?];simp only[haf])
     obtain rfl:=c45 (by simp only[Array.getD_eq_getD_getElem?];simp only[haf])
     refine w'k rfl fun K' hK => ?_
     go_wp2
     exact hK.out _ _ ⟨t29,t30,t31,t32,t33,t34,t35,t36,t37,t38,t39,t40,t41,t42,t43,(.slice (some ⟨b,off,none⟩) hops.length xc),(.int .i64 k),(.pointer (some ⟨b,off+k*3,none⟩)),t47,t48,t49,t50,t51,t52,(by first | (simp only[Act.put,s'a,s'z,s's];done) | (simp[Act.put];done)),hB,(by simpa[g] using m1),(by simpa[g] using m2),(by simpa[g] using m3),(by simpa[g] using m4),(by simpa[g] using o1),(by simpa[g] using o2),(by simpa[g] using o3),(by simpa[g] using c29),(by simpa[g] using c30),(by simpa[g] using c31),(by simpa[g] using c32),(by simpa[g] using c33),(by simpa[g] using c34),(by simpa[g] using c35),(by simpa[g] using c36),(by simpa[g] using c37),(by simpa[g] using c38),(by simpa[g] using c39),(by simpa[g] using c40),(by simpa[g] using c41),(by simpa[g] using c42),(by simpa[g] using c43),(fun _=>rfl),(fun _=>rfl),(fun _=>rfl),(by simpa[g] using c47),(by simpa[g] using c48),(by simpa[g] using c49),(by simpa[g] using c52)⟩
    ·have haf:=ready_after hi rfl
     simp[Region.binds] at haf
     obtain rfl:=c46 (by simp only[Array.getD_eq_getD_getElem?];simp only[haf])
     refine w'k rfl fun K' hK => ?_
     go_wp2
     exact hK.out _ _ ⟨t29,t30,t31,t32,t33,t34,t35,t36,t37,t38,t39,t40,t41,t42,t43,t44,t45,(.pointer (some ⟨b,off+k*3,none⟩)),(.pointer (some ⟨b,off+k*3+2,none⟩)),t48,t49,t50,t51,t52,(by first | (simp only[Act.put,s'a,s'z,s's];done) | (simp[Act.put];done)),hB,(by simpa[g] using m1),(by simpa[g] using m2),(by simpa[g] using m3),(by simpa[g] using m4),(by simpa[g] using o1),(by simpa[g] using o2),(by simpa[g] using o3),(by simpa[g] using c29),(by simpa[g] using c30),(by simpa[g] using c31),(by simpa[g] using c32),(by simpa[g] using c33),(by simpa[g] using c34),(by simpa[g] using c35),(by simpa[g] using c36),(by simpa[g] using c37),(by simpa[g] using c38),(by simpa[g] using c39),(by simpa[g] using c40),(by simpa[g] using c41),(by simpa[g] using c42),(by simpa[g] using c43),(by simpa[g] using c44),(by simpa[g] using c45),(fun _=>rfl),(fun _=>rfl),(by simpa[g] using c48),(by simpa[g] using c49),(by simpa[g] using c52)⟩
    ·have haf:=ready_after hi rfl
     simp[Region.binds] at haf
     obtain rfl:=c47 (by simp only[Array.getD_eq_getD_getElem?];simp only[haf])
     have hx:w'.cell? ⟨b,off+k*3+2,none⟩=some (.bool a.2.2):=hbc.out w' hB 2 _ rfl
     refine w'k rfl fun K' hK => ?_
     go_wp2
     exact hK.out _ _ ⟨t29,t30,t31,t32,t33,t34,t35,t36,t37,t38,t39,t40,t41,t42,t43,t44,t45,t46,(.pointer (some ⟨b,off+k*3+2,none⟩)),(.bool a.2.2),t49,t50,t51,t52,(by first | (simp only[Act.put,s'a,s'z,s's];done) | (simp[Act.put];done)),hB,(by simpa[g] using m1),(by simpa[g] using m2),(by simpa[g] using m3),(by simpa[g] using m4),(by simpa[g] using o1),(by simpa[g] using o2),(by simpa[g] using o3),(by simpa[g] using c29),(by simpa[g] using c30),(by simpa[g] using c31),(by simpa[g] using c32),(by simpa[g] using c33),(by simpa[g] using c34),(by simpa[g] using c35),(by simpa[g] using c36),(by simpa[g] using c37),(by simpa[g] using c38),(by simpa[g] using c39),(by simpa[g] using c40),(by simpa[g] using c41),(by simpa[g] using c42),(by simpa[g] using c43),(by simpa[g] using c44),(by simpa[g] using c45),(by simpa[g] using c46),(fun _=>rfl),(fun _=>rfl),(by simpa[g] using c49),(by simpa[g] using c52)⟩
    ·have haf:=ready_after hi rfl
     simp[Region.binds] at haf
     obtain rfl:=c36 (by simp only[Array.getD_eq_getD_getElem?];simp only[haf])
     obtain rfl:=c42 (by simp only[Array.getD_eq_getD_getElem?];simp only[haf])
     obtain rfl:=c48 (by simp only[Array.getD_eq_getD_getElem?];simp only[haf])
     refine w'k rfl fun K' hK => ?_
     go_wp2
     exact hK.out _ _ ⟨t29,t30,t31,t32,t33,t34,t35,(.int .u32 a.1),t37,t38,t39,t40,t41,(.int .u32 a.2.1),t43,t44,t45,t46,t47,(.bool a.2.2),(.agg #[.int .u32 a.1,.int .u32 a.2.1,.bool a.2.2]),t50,t51,t52,(by first | (simp only[Act.put,s'a,s'z,s's];done) | (simp[Act.put];done)),hB,(by simpa[g] using m1),(by simpa[g] using m2),(by simpa[g] using m3),(by simpa[g] using m4),(by simpa[g] using o1),(by simpa[g] using o2),(by simpa[g] using o3),(by simpa[g] using c29),(by simpa[g] using c30),(by simpa[g] using c31),(by simpa[g] using c32),(by simpa[g] using c33),(by simpa[g] using c34),(by simpa[g] using c35),(fun _=>rfl),(by simpa[g] using c37),(by simpa[g] using c38),(by simpa[g] using c39),(by simpa[g] using c40),(by simpa[g] using c41),(fun _=>rfl),(by simpa[g] using c43),(by simpa[g] using c44),(by simpa[g] using c45),(by simpa[g] using c46),(by simpa[g] using c47),(fun _=>rfl),(fun _=>rfl),(by simpa[g] using c52)⟩
    ·have haf:=ready_after hi rfl
     simp[Region.binds] at haf
     obtain rfl:=c49 (by simp only[Array.getD_eq_getD_getElem?];simp only[haf])
     refine w'k rfl fun K' hK => ?_
     have hn22:L.getD 22 false=false:=by cases h:L.getD 22 false with | false=>rfl | true=>(have:=o3 h;rw[hun] at this;cases this)
     have hn24:L.getD 24 false=false:=by cases h:L.getD 24 false with | false=>rfl | true=>(have:=o1 h;rw[hn22] at this;cases this)
     have M1:=h'd (m1 hn24)
     have M2:=h'd (m2 hn22)
     go_wp2
     exact hK.out _ _ ⟨t29,t30,t31,t32,t33,t34,t35,t36,t37,t38,t39,t40,t41,t42,t43,t44,t45,t46,t47,t48,(.agg #[.int .u32 a.1,.int .u32 a.2.1,.bool a.2.2]),(.slice (some ⟨w'.heap.size,0,none⟩) 1 1),t51,t52,(by first | (simp only[Act.put,s'a,s'z,s's];done) | (simp[Act.put];done)),hB.alloc (by omega) _,(fun _=>M1.out.alloc _),(fun _=>own_alloc M2.out _),(fun _=>⟨_,rfl,fun _=>Blk.new _ _ _⟩),(fun h=>by simp[g] at h;simp only[Array.getD_eq_getD_getElem?] at hn22;rw[hn22] at h;cases h),(by simpa[g] using o1),(by simpa[g] using o2),(fun _=>by simp[g]),(by simpa[g] using c29),(by simpa[g] using c30),(by simpa[g] using c31),(by simpa[g] using c32),(by simpa[g] using c33),(by simpa[g] using c34),(by simpa[g] using c35),(by simpa[g] using c36),(by simpa[g] using c37),(by simpa[g] using c38),(by simpa[g] using c39),(by simpa[g] using c40),(by simpa[g] using c41),(by simpa[g] using c42),(by simpa[g] using c43),(by simpa[g] using c44),(by simpa[g] using c45),(by simpa[g] using c46),(by simpa[g] using c47),(by simpa[g] using c48),(fun _=>rfl),(by simpa[g] using c52)⟩
    ·have haf:=ready_after hi rfl
     simp[Region.binds] at haf
     have hn24:L.getD 24 false=false:=by cases h:L.getD 24 false with | false=>rfl | true=>(have:=o1 h;rw[hun] at this;cases this)
     have hl1:L.getD 1 false=true:=by simp only[Array.getD_eq_getD_getElem?];simp only[haf]
     have hl21:L.getD 21 false=true:=by simp only[Array.getD_eq_getD_getElem?];simp only[haf]
     obtain rfl:=c30 hl1
     obtain ⟨gh,rfl,kgh⟩:=m3 hl21
     have kgh:=kgh hun
     have k2:=m1 hn24
     have ho:=m2 hun
     have hsx:Sl w' w'.heap.size 3 (.slice (some ⟨gh,0,none⟩) 1 1) 1 (hopCells a):=⟨rfl,some ⟨gh,0,none⟩,1,rfl,n'r _,by simp[maxLen],fun _=>⟨gh,0,rfl,kgh.lt,fun j u hu=>by rw[Nat.zero_add,kgh.cell j,q'a];exact hu⟩⟩
     refine wpOp_step rfl (fun K' hK => ?_)
     refine step_append rfl (.tmp 30) (.tmp 50) 46 rfl (w.heap.size+1+1+1) hopT (.slice yA k yc) k ((hops.take k).flatMap hopCells) rfl ho w'.heap.size (.slice (some ⟨gh,0,none⟩) 1 1) 1 (hopCells a) rfl hsx (by simp[hopCells,Value.oneCell']) (by simp only[maxLen];omega) (by omega) hw' ?_
     intro hv w4 ho4 hg4 hob4
     rw[←htk2.out] at ho4
     obtain ⟨-,A4,c4,rfl,-⟩:=Sl.of_own ho4
     have hS4:Below (w.heap.size+1+1+1) w' w4:=below_of_grown hg4 hw' (fun g hg=>(ho.lt g hg).1)
     have k24:=k2.below hS4 (by omega)
     exact hK _ _ ⟨t29,(.slice yA k yc),t31,t32,t33,t34,t35,t36,t37,t38,t39,t40,t41,t42,t43,t44,t45,t46,t47,t48,t49,(.slice (some ⟨gh,0,none⟩) 1 1),(.slice A4 (k+1) c4),t52,(by first | (simp only[Act.put,s'a,s'z,s's];done) | (simp[Act.put];done)),hB.trans (hS4.mono (by omega)),(fun _=>k24),(fun h=>by simp[g] at h),(fun _=>⟨gh,rfl,fun h=>by simp[g] at h⟩),(fun _=>⟨A4,c4,rfl,ho4,fun h=>by simp[g] at h;simp only[Array.getD_eq_getD_getElem?] at hn24;rw[hn24] at h;cases h⟩),(fun _=>by simp[g]),(fun _=>by simpa[g] using hl1),(fun _=>by simpa[g] using hl21),(by simpa[g] using c29),(fun _=>rfl),(by simpa[g] using c31),(by simpa[g] using c32),(by simpa[g] using c33),(by simpa[g] using c34),(by simpa[g] using c35),(by simpa[g] using c36),(by simpa[g] using c37),(by simpa[g] using c38),(by simpa[g] using c39),(by simpa[g] using c40),(by simpa[g] using c41),(by simpa[g] using c42),(by simpa[g] using c43),(by simpa[g] using c44),(by simpa[g] using c45),(by simpa[g] using c46),(by simpa[g] using c47),(by simpa[g] using c48),(by simpa[g] using c49),(by simpa[g] using c52)⟩
    ·have haf:=ready_after hi rfl
     simp[Region.binds] at haf
     obtain rfl:=c30 (by simp only[Array.getD_eq_getD_getElem?];simp only[haf])
     refine w'k rfl fun K' hK => ?_
     go_wp2
     exact hK.out _ _ ⟨t29,(.slice yA k yc),t31,t32,t33,t34,t35,t36,t37,t38,t39,t40,t41,t42,t43,t44,t45,t46,t47,t48,t49,t50,t51,(.pointer (some ⟨w.heap.size+1+1,9,none⟩)),(by first | (simp only[Act.put,s'a,s'z,s's];done) | (simp[Act.put];done)),hB,(by simpa[g] using m1),(by simpa[g] using m2),(by simpa[g] using m3),(by simpa[g] using m4),(by simpa[g] using o1),(by simpa[g] using o2),(by simpa[g] using o3),(by simpa[g] using c29),(fun _=>rfl),(by simpa[g] using c31),(by simpa[g] using c32),(by simpa[g] using c33),(by simpa[g] using c34),(by simpa[g] using c35),(by simpa[g] using c36),(by simpa[g] using c37),(by simpa[g] using c38),(by simpa[g] using c39),(by simpa[g] using c40),(by simpa[g] using c41),(by simpa[g] using c42),(by simpa[g] using c43),(by simpa[g] using c44),(by simpa[g] using c45),(by simpa[g] using c46),(by simpa[g] using c47),(by simpa[g] using c48),(by simpa[g] using c49),(fun _=>rfl)⟩
    ·have haf:=ready_after hi rfl
     simp[Region.binds] at haf
     have hl22:L.getD 22 false=true:=by simp only[Array.getD_eq_getD_getElem?];simp only[haf]
     have hl23:L.getD 23 false=true:=by simp only[Array.getD_eq_getD_getElem?];simp only[haf]
     obtain rfl:=c52 hl23
     obtain rfl:=c30 (o2 hl22)
     obtain ⟨A4,c4,rfl,ho4,-⟩:=m4 hl22
     have k24:=m1 hun
     have f9:=k24.free 9
     have x9:=k24.cell 9
     simp only[q'a,q'z,q's] at x9
     have h24:=k24.set_ 9 (.slice A4 (k+1) c4)
     simp only[s'a,s'z,s's] at h24
     have hne4:=own_neW ho4 k24 (by decide)
     have ho5:=own_same (w':=w'.setCell ⟨w.heap.size+1+1,9,none⟩ (.slice A4 (k+1) c4)) ho4 (fun g hg=>Below.heap_setCell _ _ _ g (hne4 g hg))
     have hB5:=hB.setCell (p:=⟨w.heap.size+1+1,9,none⟩) (n'r _) (.slice A4 (k+1) c4)
     replace h24:=h'd h24
     replace ho5:=h'd ho5
     replace hB5:=h'd hB5
     clear k24 hne4
     refine w'k rfl fun K' hK => ?_
     go_wp2
     exact hK.out _ _ ⟨t29,(.slice yA k yc),t31,t32,t33,t34,t35,t36,t37,t38,t39,t40,t41,t42,t43,t44,t45,t46,t47,t48,t49,t50,(.slice A4 (k+1) c4),(.pointer (some ⟨w.heap.size+1+1,9,none⟩)),(by first | (simp only[Act.put,s'a,s'z,s's];done) | (simp[Act.put];done)),hB5.out,(fun h=>by simp[g] at h),(fun h=>by simp[g] at h;simp only[Array.getD_eq_getD_getElem?] at hl22;rw[hl22] at h;cases h),(fun h=>by obtain ⟨gh,h1,-⟩:=m3 (by simpa[g] using h);exact ⟨gh,h1,fun h2=>by simp[g] at h2;simp only[Array.getD_eq_getD_getElem?] at hl22;rw[hl22] at h2;cases h2⟩),(fun _=>⟨A4,c4,rfl,ho5.out,fun _=>h24.out⟩),(fun _=>by simpa[g] using hl22),(by simpa[g] using o2),(by simpa[g] using o3),(by simpa[g] using c29),(fun _=>rfl),(by simpa[g] using c31),(by simpa[g] using c32),(by simpa[g] using c33),(by simpa[g] using c34),(by simpa[g] using c35),(by simpa[g] using c36),(by simpa[g] using c37),(by simpa[g] using c38),(by simpa[g] using c39),(by simpa[g] using c40),(by simpa[g] using c41),(by simpa[g] using c42),(by simpa[g] using c43),(by simpa[g] using c44),(by simpa[g] using c45),(by simpa[g] using c46),(by simpa[g] using c47),(by simpa[g] using c48),(by simpa[g] using c49),(fun _=>rfl)⟩
   ·rintro L a' w' hall ⟨t29,t30,t31,t32,t33,t34,t35,t36,t37,t38,t39,t40,t41,t42,t43,t44,t45,t46,t47,t48,t49,t50,t51,t52,ha,hB,m1,m2,m3,m4,o1,o2,o3,c29,c30,c31,c32,c33,c34,c35,c36,c37,c38,c39,c40,c41,c42,c43,c44,c45,c46,c47,c48,c49,c52⟩
    obtain ⟨A4,c4,rfl,ho5,h24⟩:=m4 (hall 22 (by decide))
    have h24:=h24 (hall 24 (by decide))
    simp only[Act.put,s'a,s'z,s's] at ha
    subst ha
    have h04:=H0.out.below hB (by omega)
    have h14:=H1.out.below hB (by omega)
    have hB5:=HB.out.trans (hB.mono (by omega))
    clear m1 m2 m3 m4 o1 o2 o3 c29 c30 c31 c32 c33 c34 c35 c36 c37 c38 c39 c40 c41 c42 c43 c44 c45 c46 c47 c48 c49 c52
    go_wp2_with fail
    go_roundg (hops.length-(k+1))
    case measure=>omega
    case rel=>exact ⟨k+1,by omega,rfl,by go_num,A4,c4,h04,h14,h24,ho5,hB5⟩
  ·obtain rfl:k=hops.length:=by omega
   have ik:¬ (hops.length:Int)<(hops.length:Int):=by omega
   go_wp2_with (first
    | (refine wpList_load_row rfl 48 (.tmp 3) rfl (w.heap.size+1+1) rfl 48 #[.int .u32 x0,.int .u8 x1,.int .u32 x2,.int .u8 x3,.int .u8 x4,.int .u32 x5,.int .u32 x6,.int .u32 x7,.int .u32 x8,.slice yA hops.length yc] (0,0) _ h2 Tryz.underlying48 rfl (by kernel_rfl) ?_)
    | (refine wpList_store_row rfl 48 (.tmp 2) (.tmp 53) rfl (w.heap.size+1) #[.int .u32 x0,.int .u8 x1,.int .u32 x2,.int .u8 x3,.int .u8 x4,.int .u32 x5,.int .u32 x6,.int .u32 x7,.int .u32 x8,.slice yA hops.length yc] rfl rfl 48 #[.int .u32 0,.int .u8 0,.int .u32 0,.int .u8 0,.int .u8 0,.int .u32 0,.int .u32 0,.int .u32 0,.int .u32 0,.slice none 0 0] h1 (by kernel_rfl) rfl (by simp[Value.oneCell']) ?_))
   refine bodyPost_ret (results_cell_row rfl _ _ (w.heap.size+1) 48 #[.int .u32 x0,.int .u8 x1,.int .u32 x2,.int .u8 x3,.int .u8 x4,.int .u32 x5,.int .u32 x6,.int .u32 x7,.int .u32 x8,.slice yA hops.length yc] (0,0) _ rfl (blk_setRow h1) Tryz.underlying48 rfl (by kernel_rfl)) rfl ?_
   exact ⟨yA,yc,rfl,own_less (own_setRow (by rw[List.take_length] at ho;exact ho) (by omega) _) (by omega),below_setRow hBr (by omega) _⟩
end Go.Proofs.YtcknpofnpabkiaaGreat
