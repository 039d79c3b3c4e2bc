/- The writer of octets and the bytes of a state. -/
import Derived.Test.YtcknpofnpabkiaaGreatProg
import Derived.StillTailTactics
import Derived.Test.YtcknpofnpabkiaaGreatRpAA
set_option maxRecDepth 100000
namespace Go.Lo
open Go.RowKit
structure Keep (K:Nat→Prop) (w w':World):Prop where
 os:w'.os=w.os
 tape:w'.tape=w.tape
 output:w'.output=w.output
 size:w.heap.size≤w'.heap.size
 block:∀ k,K k→w'.heap[k]?=w.heap[k]?
section
variable {K K':Nat→Prop} {a w w':World}
theorem Keep.refl (K:Nat→Prop) (w:World):Keep K w w:=⟨rfl,rfl,rfl,n'r _,fun _ _=>rfl⟩
theorem Keep.trans (h:Keep K a w) (h':Keep K w w'):Keep K a w':=⟨h'.os.trans h.os,h'.tape.trans h.tape,h'.output.trans h.output,n't h.size h'.size,fun k hk=>(h'.block k hk).trans (h.block k hk)⟩
theorem Keep.drew (h:Keep K a w):Keep K a w.drew:=⟨h.os,h.tape,h.output,h.size,h.block⟩
theorem Keep.of_drew (h:Keep K w.drew w'):Keep K w w':=⟨h.os,h.tape,h.output,h.size,h.block⟩
theorem Keep.alloc (h:Keep K a w) (hK:∀ k,K k→k<w.heap.size) (o:Obj):Keep K a (w.alloc o):=
 ⟨h.os,h.tape,h.output,n't h.size (by simp),fun k hk=>(Below.heap_alloc w o k (hK k hk)).trans (h.block k hk)⟩
theorem Keep.setCell (h:Keep K a w) {p:Addr} (hp:¬ K p.block) (u:Value):Keep K a (w.setCell p u):=
 ⟨h.os,h.tape,h.output,by simpa[World.setCell] using h.size,fun k hk=>(Below.heap_setCell w p u k (fun e=>hp (e ▸ hk))).trans (h.block k hk)⟩
theorem Keep.mono (h:Keep K a w) (hK:∀ k,K' k→K k):Keep K' a w:=⟨h.os,h.tape,h.output,h.size,fun k hk=>h.block k (hK k hk)⟩
theorem Keep.below {B:Nat} (h:Keep K a w) (hK:∀ k,k<B→K k):Below B a w:=⟨h.os,h.tape,h.output,h.size,fun k hk=>h.block k (hK k hk)⟩
theorem Keep.of_grown {row:Option Nat} (h:a.grownBy w row) (hK:∀ k,K k→k<a.heap.size∧some k≠row):Keep K a w:=⟨h.os,h.tape,h.output,h.size,fun k hk=>h.block k (hK k hk).1 (hK k hk).2⟩
theorem Keep.cell (h:Keep K a w) {p:Addr} (hp:K p.block):w.cell? p=a.cell? p:=by simp only[World.cell?,h.block _ hp]
theorem Keep.blk (h:Keep K a w) {g:Nat} {t:TypeId} {cs:Array Value} (hg:K g) (hb:Blk a g t cs):Blk w g t cs:=(h.block g hg).trans hb
theorem Keep.sl (h:Keep K a w) {B s n:Nat} {v:Value} {xs:List Value} (hK:∀ k,k<B→K k) (hs:Sl a B s v n xs):Sl w B s v n xs:=hs.below (h.below hK)
end
def u8c (x:Int):Value:=.int .u8 x
theorem u8s_oneCell (l:List Int):∀ u∈l.map u8c,u.oneCell'=true:=by
 intro u hu
 obtain ⟨x,_,rfl⟩:=List.mem_map.1 hu
 rfl
end Go.Lo
namespace Go.Proofs.YtcknpofnpabkiaaGreat
open Go.RowKit Go.Lo
theorem u8T:ElT Tryz.prog 69 5 1 1:=⟨by kernel_rfl,by
 obtain ⟨i,hi,h1,h2,h3⟩:=info_parts (show (Tryz.prog.info? 5).map (fun i=>(i.zero,i.size,i.bytes))=some (some (.int .u8 0),1,1) by kernel_rfl)
 exact ⟨i,_,hi,h1,h2,h3,rfl⟩,by omega⟩
def Wr (K:Nat→Prop) (w:World) (b:Nat) (most:Int) (bs:List Int) (e:Int):Prop:=
 ¬ K b∧∃ v,Blk w b 213 #[v,.int .i64 most,.int .i64 e,.bool true]∧w.ownsRow 0 5 1 v bs.length (bs.map u8c)∧∀ g,v.ownBlock=some g→g≠b∧¬ K g
def putW (most:Int) (s:List Int × Int) (xs:List Int):List Int × Int:=
 if s.2≠0 then s else if most-s.1.length<xs.length then (s.1,11) else (s.1++xs,0)
theorem whole_any (K:Nat→Prop) (b:Nat) (most:Int) (bs:List Int) (e:Int) (w:World) (h:Wr K w b most bs e):Calls Tryz.prog 190 #[.pointer (some ⟨b,0,none⟩)] w fun x w'=>x=.returned (.bool (e==0))∧w'=w:=by
 obtain ⟨_,v,hb,_,_⟩:=h
 have c2:=hb.cell 2
 have c3:=hb.cell 3
 simp only[q'a,q'z,q's] at c2 c3
 clear hb
 go_enter Tryz.func190,Tryz.ntmps190
 go_wp2
 go_ret
 exact ⟨rfl,rfl⟩
set_option maxHeartbeats 1000000 in
theorem put_any (K:Nat→Prop) (b:Nat) (most:Int) (bs:List Int) (e:Int) (B:Nat) (xv:Value) (xs:List Int) (w:World) (h:Wr K w b most bs e) (hK:∀ k,K k→k<w.heap.size) (hm:0≤most∧most≤140737488355328) (hx:Sl w B 1 xv xs.length (xs.map u8c)) (hl:bs.length+xs.length≤140737488355328) :
  Calls Tryz.prog 178 #[.pointer (some ⟨b,0,none⟩),xv] w fun x w'=>x=.returned (.pointer (some ⟨b,0,none⟩))∧Keep K w w'∧Wr K w' b most (putW most (bs,e) xs).1 (putW most (bs,e) xs).2:=by
 have CW:=h'd (whole_any K b most bs e w h)
 have h':=h
 obtain ⟨hKb,v,hb,ho,hv⟩:=h
 have hx0:=hx
 obtain ⟨-,A,c,rfl,-⟩:=hx
 obtain ⟨-,Av,cv,rfl,-⟩:=Sl.of_own ho
 have c0:=hb.cell 0
 have c1:=hb.cell 1
 have c2:=hb.cell 2
 have f0:=hb.free 0
 have f2:=hb.free 2
 simp only[q'a,q'z,q's] at c0 c1 c2
 by_cases he:e=0
 ·subst he
  rw[show ((0:Int)==0)=true from rfl] at CW
  by_cases hs:most-(bs.length:Int)<(xs.length:Int)
  ·have hp:putW most (bs,0) xs=(bs,11):=by simp only[putW];rw[if_neg (by simp),if_pos hs]
   rw[hp]
   have iw:IntKind.i64.wrap (most-(bs.length:Int))=most-(bs.length:Int):=IntWalk.i64_in _ (by omega)
   replace hb:=h'd hb
   replace ho:=h'd ho
   replace hv:=h'd hv
   clear h' hx0
   go_enter Tryz.func178,Tryz.ntmps178
   go_wp2_with (go_at_call 190;refine c'm CW.out ?_;rintro x w1 ⟨rfl,rfl⟩)
   go_region
   go_wp2
   go_ret
   refine ⟨rfl,(Keep.refl _ _).drew.setCell (p:=⟨b,2,none⟩) hKb _,hKb,_,(Blk.drew_ hb.out).set_ 2 _,own_same (w:=w1.drew) ho.out fun g hg=>Below.heap_setCell _ ⟨b,2,none⟩ _ g (hv.out g hg).1,hv.out⟩
  ·have hp:putW most (bs,0) xs=(bs++xs,0):=by simp only[putW];rw[if_neg (by simp),if_neg hs]
   rw[hp]
   have iw:IntKind.i64.wrap (most-(bs.length:Int))=most-(bs.length:Int):=IntWalk.i64_in _ (by omega)
   replace hb:=h'd hb
   replace ho:=h'd ho
   replace hv:=h'd hv
   replace hx0:=h'd hx0
   clear h'
   go_enter Tryz.func178,Tryz.ntmps178
   go_wp2_with (go_at_call 190;refine c'm CW.out ?_;rintro x w1 ⟨rfl,rfl⟩)
   go_region
   go_wp2_with (at_builtin;refine wpList_append rfl (.tmp 30) (.tmp 31) 69 rfl 0 u8T (.slice Av bs.length cv) bs.length (bs.map u8c) rfl ho.out.drew B (.slice A xs.length c) xs.length (xs.map u8c) rfl hx0.out.drew (u8s_oneCell xs) (by simp only[maxLen];omega) (by omega) (by omega) ?_;intro v3 w3 ho3 hg3 hob3;have hT3:Blk w3 b 213 _:=(Blk.drew_ hb.out).same (hg3.block b hb.out.lt (fun e=>(hv.out b e.symm).1 rfl));have t3c:=hT3.cell 0;have f3c:=hT3.free 0;simp only[q'a,q'z] at t3c;replace hT3:=h'd hT3;replace hg3:=h'd hg3;replace ho3:=h'd ho3;replace hob3:=h'd hob3;obtain ⟨-,A3,c3,rfl,-⟩:=Sl.of_own ho3.out)
   go_ret
   have hv3:∀ g,(Value.slice A3 (bs.length+xs.length) c3).ownBlock=some g→g≠b∧¬ K g:=by
    intro g hg
    rcases hob3.out with h | h
    ·exact hv.out g (h ▸ hg)
    ·rw[h] at hg
     obtain rfl:=o'i hg
     exact ⟨fun e=>absurd hb.out.lt (by rw[←e];simp),fun hk=>absurd (hK _ hk) (by simp)⟩
   refine ⟨rfl,(Keep.of_drew (Keep.of_grown hg3.out fun k hk=>⟨hK k hk,fun e=>(hv.out k e.symm).2 hk⟩)).setCell (p:=⟨b,0,none⟩) hKb _,hKb,_,hT3.out.set_ 0 _,?_,hv3⟩
   rw[l'a,List.map_append]
   exact own_same ho3.out fun g hg=>Below.heap_setCell w3 ⟨b,0,none⟩ _ g (hv3 g hg).1
 ·have he':(e==0)=false:=beq_false_of_ne he
  have hp:putW most (bs,e) xs=(bs,e):=if_pos he
  rw[hp]
  have H:=h'd h'
  clear h' hb ho hv hx0
  rw[he'] at CW
  go_enter Tryz.func178,Tryz.ntmps178
  go_wp2_with (go_at_call 190;refine c'm CW.out ?_;rintro x w1 ⟨rfl,rfl⟩)
  go_ret
  exact ⟨rfl,Keep.refl _ _,H.out⟩
end Go.Proofs.YtcknpofnpabkiaaGreat
namespace Go.Lo
open Go.RowKit
theorem sl_at {w:World} {b:Nat} {t:TypeId} {cs:Array Value} (hb:Blk w b t cs) (off n:Nat) (xs:List Value) (hn:xs.length=n) (hm:n≤maxLen) (h:∀ j u,xs[j]?=some u→cs[off+j]?=some u):Sl w (b+1) 1 (.slice (some ⟨b,off,none⟩) n n) n xs:=
 ⟨by omega,_,_,rfl,n'r _,hm,fun _=>⟨b,off,rfl,Nat.lt_succ_self _,fun j u hu=>(hb.cell (off+j)).trans (h j u hu)⟩⟩
end Go.Lo
namespace Go.Proofs.YtcknpofnpabkiaaGreat
open Go.RowKit Go.Lo
def be4 (v:Int):List Int:=[v / 16777216%256,v / 65536%256,v / 256%256,v%256]
def beN (v:Int) (n:Nat):List Int:=(be4 v).drop (4-n)
theorem beN_len (v:Int) (n:Nat) (h:n≤4):(beN v n).length=n:=by simp[beN,be4];omega
theorem fits_any (v:Int) (n:Nat) (hn:n=2∨n=3∨n=4) (hv:0≤v∧v<256 ^ n) (w:World):Calls Tryz.prog 192 #[.int .u32 v,.int .i64 n] w fun x w'=>x=.returned (.bool true)∧w'=w:=by
 rcases hn with rfl | rfl | rfl
 ·have q:v / 65536=0:=by omega
  go_enter Tryz.func192,Tryz.ntmps192
  go_wp2
  go_ret
  exact ⟨by simp,rfl⟩
 ·have q:v / 16777216=0:=by omega
  go_enter Tryz.func192,Tryz.ntmps192
  go_wp2
  go_ret
  exact ⟨by simp,rfl⟩
 ·go_enter Tryz.func192,Tryz.ntmps192
  go_wp2
  go_ret
  exact ⟨rfl,rfl⟩
theorem num_any (K:Nat→Prop) (b:Nat) (most:Int) (bs:List Int) (v:Int) (n:Nat) (hn:n=2∨n=3∨n=4) (w:World) (h:Wr K w b most bs 0) (hK:∀ k,K k→k<w.heap.size) (hm:0≤most∧most≤140737488355328) (hl:bs.length+4≤140737488355328) (c0 c1 c2 c3:Int) (t:TypeId)
  (hc:beN v n=[c0,c1,c2,c3].drop (4-n)) :
  Calls Tryz.prog 178 #[.pointer (some ⟨b,0,none⟩),.slice (some ⟨w.heap.size,4-n,none⟩) n n] (w.alloc (.cells #[.int .u8 c0,.int .u8 c1,.int .u8 c2,.int .u8 c3] t)) fun x w'=>x=.returned (.pointer (some ⟨b,0,none⟩))∧Keep K w w'∧Wr K w' b most (putW most (bs,0) (beN v n)).1 (putW most (bs,0) (beN v n)).2:=by
 have hA:Keep K w (w.alloc (.cells #[.int .u8 c0,.int .u8 c1,.int .u8 c2,.int .u8 c3] t)):=(Keep.refl _ _).alloc hK _
 have hb:=Blk.new w t #[.int .u8 c0,.int .u8 c1,.int .u8 c2,.int .u8 c3]
 obtain ⟨h1,x,h2,h3,h4⟩:=h
 have hW:Wr K (w.alloc (.cells #[.int .u8 c0,.int .u8 c1,.int .u8 c2,.int .u8 c3] t)) b most bs 0:=⟨h1,x,h2.alloc _,own_alloc h3 _,h4⟩
 have hln:(beN v n).length=n:=beN_len v n (by omega)
 have hS:Sl (w.alloc (.cells #[.int .u8 c0,.int .u8 c1,.int .u8 c2,.int .u8 c3] t)) (w.heap.size+1) 1 (.slice (some ⟨w.heap.size,4-n,none⟩) n n) (beN v n).length ((beN v n).map u8c):=by
  rw[hln]
  refine sl_at hb (4-n) n _ (by rw[List.length_map,hln]) (by simp only[maxLen];omega) fun j u hu => ?_
  rw[hc] at hu
  rcases hn with rfl | rfl | rfl
  all_goals
   rw[List.getElem?_map] at hu
   rcases j with _ | _ | _ | _ | j <;> simp_all [u8c]
 have C:=put_any K b most bs 0 _ _ (beN v n) _ hW (fun k hk=>by have:=hK k hk;simp;omega) hm hS (by omega)
 refine c'm C ?_
 rintro x w' ⟨rfl,k1,k2⟩
 exact ⟨rfl,hA.trans k1,k2⟩
theorem number_any (K:Nat→Prop) (b:Nat) (most:Int) (bs:List Int) (e v:Int) (n:Nat) (hn:n=2∨n=3∨n=4) (hv:0≤v∧v<256 ^ n) (w:World) (h:Wr K w b most bs e) (hK:∀ k,K k→k<w.heap.size) (hm:0≤most∧most≤140737488355328) (hl:bs.length+4≤140737488355328) :
  Calls Tryz.prog 184 #[.pointer (some ⟨b,0,none⟩),.int .u32 v,.int .i64 n] w fun x w'=>x=.returned (.pointer (some ⟨b,0,none⟩))∧Keep K w w'∧Wr K w' b most (putW most (bs,e) (beN v n)).1 (putW most (bs,e) (beN v n)).2:=by
 have CW:=h'd (whole_any K b most bs e w h)
 by_cases he:e=0
 ·subst he
  rw[show ((0:Int)==0)=true from rfl] at CW
  have CF:=h'd (fits_any v n hn hv w)
  have CN:=h'd (num_any K b most bs v n hn w h hK hm hl)
  rcases hn with rfl | rfl | rfl
  ·clear h
   go_enter Tryz.func184,Tryz.ntmps184
   go_wp2_with (first
    | (go_at_call 190;refine c'm CW.out ?_;rintro x w1 ⟨rfl,rfl⟩)
    | (go_at_call 192;refine c'm CF.out ?_;rintro x w2 ⟨rfl,rfl⟩)
    | (go_at_call 178;refine c'm (CN.out _ _ _ _ _ ?_) ?_;(focus (simp[beN,be4] <;> omega));rintro x w3 ⟨rfl,k1,k2⟩)
    | fail)
   go_ret
   exact ⟨rfl,k1,k2⟩
  ·clear h
   go_enter Tryz.func184,Tryz.ntmps184
   go_wp2_with (first
    | (go_at_call 190;refine c'm CW.out ?_;rintro x w1 ⟨rfl,rfl⟩)
    | (go_at_call 192;refine c'm CF.out ?_;rintro x w2 ⟨rfl,rfl⟩)
    | (go_at_call 178;refine c'm (CN.out _ _ _ _ _ ?_) ?_;(focus (simp[beN,be4] <;> omega));rintro x w3 ⟨rfl,k1,k2⟩)
    | fail)
   go_ret
   exact ⟨rfl,k1,k2⟩
  ·clear h
   go_enter Tryz.func184,Tryz.ntmps184
   go_wp2_with (first
    | (go_at_call 190;refine c'm CW.out ?_;rintro x w1 ⟨rfl,rfl⟩)
    | (go_at_call 192;refine c'm CF.out ?_;rintro x w2 ⟨rfl,rfl⟩)
    | (go_at_call 178;refine c'm (CN.out _ _ _ _ _ ?_) ?_;(focus (simp[beN,be4] <;> omega));rintro x w3 ⟨rfl,k1,k2⟩)
    | fail)
   go_ret
   exact ⟨rfl,k1,k2⟩
 ·have he':(e==0)=false:=beq_false_of_ne he
  have hp:∀ xs,putW most (bs,e) xs=(bs,e):=fun xs=>if_pos he
  rw[hp]
  have H:=h'd h
  clear h
  rw[he'] at CW
  go_enter Tryz.func184,Tryz.ntmps184
  go_wp2_with (go_at_call 190;refine c'm CW.out ?_;rintro x w1 ⟨rfl,rfl⟩)
  go_ret
  exact ⟨rfl,Keep.refl _ _,H.out⟩
theorem write_any (most:Int) (hm:0≤most) (w:World):Calls Tryz.prog 80 #[.int .i64 most] w fun x w'=>x=.returned (.pointer (some ⟨w.heap.size,0,none⟩))∧w'=w.alloc (.cells #[.slice none 0 0,.int .i64 most,.int .i64 0,.bool true] 213):=by
 have h1:¬ most<0:=by omega
 go_enter Tryz.func80,Tryz.ntmps80
 go_wp2
 go_ret
 exact ⟨rfl,rfl⟩
theorem clone8_any (B:Nat) (xv:Value) (xs:List Int) (w:World) (hx:Sl w B 1 xv xs.length (xs.map u8c)) (hB:B≤w.heap.size) (hn:xs.length≤140737488355328) :
  Calls Tryz.prog 119 #[xv] w fun x w'=>∃ v,x=.returned v∧w'.ownsRow w.heap.size 5 1 v xs.length (xs.map u8c)∧Below w.heap.size w w':=by
 have hx0:=hx
 obtain ⟨-,A,c,rfl,-,-,hA⟩:=hx
 cases A with
 | none =>
  have h0:xs.length=0:=by
   rcases Nat.eq_zero_or_pos xs.length with h | h
   ·exact h
   ·obtain ⟨_,_,h,_⟩:=hA h;cases h
  obtain rfl:xs=[]:=List.eq_nil_of_length_eq_zero h0
  have he:∀ W,(binOp .eql 69 (.slice none 0 c) (.slice none 0 0)).run Tryz.prog W=.ok (.bool true) W:=fun W=>Lib.run_eql_slice_nil W _ _ none 0 c 0 0 Tryz.underlying69
  clear hA hx0
  go_enter Tryz.func119,Tryz.ntmps119
  go_wp2
  go_ret
  exact ⟨_,rfl,World.ownsRow_nil _ _ _ _,b'r _ _⟩
 | some a =>
  have ho:(w.alloc (.cells #[] 5)).ownsRow w.heap.size 5 1 (.slice (some ⟨w.heap.size,0,none⟩) 0 0) 0 []:=World.ownsRow_lit w #[] 0 (n'r _) (by simp[maxLen]) rfl
  have he:∀ W,(binOp .eql 69 (.slice (some a) xs.length c) (.slice none 0 0)).run Tryz.prog W=.ok (.bool false) W:=fun W=>Lib.run_eql_slice_nil W _ _ (some a) xs.length c 0 0 Tryz.underlying69
  clear hA
  go_enter Tryz.func119,Tryz.ntmps119
  go_wp2_with (at_builtin;refine wpList_append rfl (.tmp 5) (.tmp 6) 69 rfl w.heap.size u8T (.slice (some ⟨w.heap.size,0,none⟩) 0 0) 0 [] rfl ho (B) (.slice (some a) xs.length c) xs.length (xs.map u8c) rfl (hx0.below ?_) (u8s_oneCell xs) (by simp only[maxLen];omega) (by omega) (by simp) ?_;(focus (exact (b'r _ _).alloc hB _));intro v3 w3 ho3 hg3 hob3;simp only[Nat.zero_add,List.nil_append] at ho3)
  go_wp2
  go_ret
  exact ⟨_,rfl,ho3,((b'r _ _).alloc (n'r _) _).trans (below_of_grown hg3 (by simp) (fun g hg=>by simp[Value.ownBlock] at hg;omega))⟩
def doneBs (e:Int) (bs:List Int):List Int:=if e=0 then bs else []
theorem done_any (K:Nat→Prop) (b:Nat) (most:Int) (bs:List Int) (e:Int) (w:World) (h:Wr K w b most bs e) (hn:bs.length≤140737488355328) :
  Calls Tryz.prog 81 #[.pointer (some ⟨b,0,none⟩)] w fun x w'=>∃ v,x=.returned (.tuple #[v,.int .i64 e])∧w'.ownsRow w.heap.size 5 1 v (doneBs e bs).length ((doneBs e bs).map u8c)∧Below w.heap.size w w':=by
 obtain ⟨_,v,hb,ho,_⟩:=h
 have hs:=Sl.of_own ho
 have CC:=h'd (clone8_any w.heap.size v bs w hs (n'r _) hn)
 obtain ⟨-,A,c,rfl,-⟩:=hs
 have c0:=hb.cell 0
 have c2:=hb.cell 2
 have c3:=hb.cell 3
 simp only[q'a,q'z,q's] at c0 c2 c3
 clear hb ho
 by_cases he:e=0
 ·subst he
  go_enter Tryz.func81,Tryz.ntmps81
  go_wp2_with (go_at_call 119;refine c'm CC.out ?_;rintro x w1 ⟨v1,rfl,ho1,hB1⟩)
  refine bodyPost_ret (results_tmp2 rfl _ _ _) rfl ?_
  exact ⟨v1,rfl,ho1,hB1⟩
 ·have he1:(e==0)=false:=beq_false_of_ne he
  have he2:(e != 0)=true:=by simpa using he
  clear CC
  go_enter Tryz.func81,Tryz.ntmps81
  go_wp2_with fail
  go_region
  go_wp2
  refine bodyPost_ret (results_tmp2 rfl _ _ _) rfl ?_
  rw[show doneBs e bs=[] from if_neg he]
  exact ⟨_,rfl,World.ownsRow_nil _ _ _ _,(b'r _ _).drew⟩
theorem Wr.alloc {K:Nat→Prop} {w:World} {b:Nat} {most e:Int} {bs:List Int} (h:Wr K w b most bs e) (o:Obj):Wr K (w.alloc o) b most bs e:=by
 obtain ⟨h1,v,h2,h3,h4⟩:=h
 exact ⟨h1,v,h2.alloc _,own_alloc h3 _,h4⟩
theorem Wr.drew {K:Nat→Prop} {w:World} {b:Nat} {most e:Int} {bs:List Int} (h:Wr K w b most bs e):Wr K w.drew b most bs e:=h
theorem Wr.lt {K:Nat→Prop} {w:World} {b:Nat} {most e:Int} {bs:List Int} (h:Wr K w b most bs e):b<w.heap.size:=h.2.elim fun _ h=>h.1.lt
theorem Wr.add {K:Nat→Prop} {w:World} {b:Nat} {most e:Int} {bs:List Int} (h:Wr K w b most bs e) (o:Obj):Wr (fun k=>K k∨k=w.heap.size) (w.alloc o) b most bs e:=by
 obtain ⟨h1,v,h2,h3,h4⟩:=h
 refine ⟨fun h=>h.elim h1 fun e=>absurd h2.lt (by omega),v,h2.alloc _,own_alloc h3 _,fun g hg=>⟨(h4 g hg).1,fun h=>h.elim (h4 g hg).2 fun e=>absurd (h3.lt g hg).2 (by omega)⟩⟩
theorem Wr.less {K K':Nat→Prop} {w:World} {b:Nat} {most e:Int} {bs:List Int} (h:Wr K w b most bs e) (hK:∀ k,K' k→K k):Wr K' w b most bs e:=by
 obtain ⟨h1,v,h2,h3,h4⟩:=h
 exact ⟨fun h=>h1 (hK _ h),v,h2,h3,fun g hg=>⟨(h4 g hg).1,fun h=>(h4 g hg).2 (hK _ h)⟩⟩
theorem putW_room {most:Int} {bs xs:List Int} (h:(bs.length:Int)+xs.length≤most):putW most (bs,0) xs=(bs++xs,0):=by
 simp only[putW]
 rw[if_neg (by simp),if_neg (by omega)]
theorem put_room (K:Nat→Prop) (b:Nat) (most:Int) (bs:List Int) (B:Nat) (xv:Value) (xs:List Int) (w:World) (h:Wr K w b most bs 0) (hK:∀ k,K k→k<w.heap.size) (hm:most≤140737488355328) (hx:Sl w B 1 xv xs.length (xs.map u8c)) (hr:(bs.length:Int)+xs.length≤most) :
  Calls Tryz.prog 178 #[.pointer (some ⟨b,0,none⟩),xv] w fun x w'=>x=.returned (.pointer (some ⟨b,0,none⟩))∧Keep K w w'∧Wr K w' b most (bs++xs) 0:=by
 have C:=put_any K b most bs 0 B xv xs w h hK ⟨by omega,hm⟩ hx (by omega)
 rw[putW_room hr] at C
 exact C
theorem num2 (K:Nat→Prop) (b:Nat) (most:Int) (bs:List Int) (v:Int) (hv:0≤v∧v<65536) (w:World) (h:Wr K w b most bs 0) (hK:∀ k,K k→k<w.heap.size) (hm:most≤140737488355320) (hr:(bs.length:Int)+2≤most) :
  Calls Tryz.prog 184 #[.pointer (some ⟨b,0,none⟩),.int .u32 v,.int .i64 2] w fun x w'=>x=.returned (.pointer (some ⟨b,0,none⟩))∧Keep K w w'∧Wr K w' b most (bs++beN v 2) 0:=by
 have C:=number_any K b most bs 0 v 2 (by omega) (by omega) w h hK ⟨by omega,by omega⟩ (by omega)
 rw[putW_room (by rw[beN_len v 2 (by omega)];omega)] at C
 exact C
theorem num3 (K:Nat→Prop) (b:Nat) (most:Int) (bs:List Int) (v:Int) (hv:0≤v∧v<16777216) (w:World) (h:Wr K w b most bs 0) (hK:∀ k,K k→k<w.heap.size) (hm:most≤140737488355320) (hr:(bs.length:Int)+3≤most) :
  Calls Tryz.prog 184 #[.pointer (some ⟨b,0,none⟩),.int .u32 v,.int .i64 3] w fun x w'=>x=.returned (.pointer (some ⟨b,0,none⟩))∧Keep K w w'∧Wr K w' b most (bs++beN v 3) 0:=by
 have C:=number_any K b most bs 0 v 3 (by omega) (by omega) w h hK ⟨by omega,by omega⟩ (by omega)
 rw[putW_room (by rw[beN_len v 3 (by omega)];omega)] at C
 exact C
theorem num4 (K:Nat→Prop) (b:Nat) (most:Int) (bs:List Int) (v:Int) (hv:0≤v∧v<4294967296) (w:World) (h:Wr K w b most bs 0) (hK:∀ k,K k→k<w.heap.size) (hm:most≤140737488355320) (hr:(bs.length:Int)+4≤most) :
  Calls Tryz.prog 184 #[.pointer (some ⟨b,0,none⟩),.int .u32 v,.int .i64 4] w fun x w'=>x=.returned (.pointer (some ⟨b,0,none⟩))∧Keep K w w'∧Wr K w' b most (bs++beN v 4) 0:=by
 have C:=number_any K b most bs 0 v 4 (by omega) (by omega) w h hK ⟨by omega,by omega⟩ (by omega)
 rw[putW_room (by rw[beN_len v 4 (by omega)];omega)] at C
 exact C
theorem num2_beside (K2:Nat→Prop) (b:Nat) (most:Int) (bs:List Int) (v x0 x1:Int) (hv:0≤v∧v<65536) (w1:World) (h:Wr K2 w1 b most bs 0) (hK:∀ k,K2 k→k<w1.heap.size) (hm:most≤140737488355320) (hr:(bs.length:Int)+2≤most) :
  Calls Tryz.prog 184 #[.pointer (some ⟨b,0,none⟩),.int .u32 v,.int .i64 2] ((w1.alloc (.cells #[.int .u8 x0,.int .u8 x1] 5)).drew) fun x w2=>x=.returned (.pointer (some ⟨b,0,none⟩))∧Keep K2 w1 w2∧Wr (fun k=>K2 k∨k=w1.heap.size) w2 b most (bs++beN v 2) 0∧Sl w2 (w1.heap.size+1) 1 (.slice (some ⟨w1.heap.size,0,none⟩) 2 2) 2 ([x0,x1].map u8c)∧w1.heap.size<w2.heap.size:=by
 have hs:((w1.alloc (.cells #[.int .u8 x0,.int .u8 x1] 5)).drew).heap.size=w1.heap.size+1:=by simp[World.drew]
 have C:=num2 (fun k=>K2 k∨k=w1.heap.size) b most bs v hv ((w1.alloc (.cells #[.int .u8 x0,.int .u8 x1] 5)).drew) (Wr.drew (h.add (.cells #[.int .u8 x0,.int .u8 x1] 5))) (fun k hk=>by
  rw[hs]
  rcases hk with hk | hk
  ·have:=hK k hk;omega
  ·omega) hm hr
 refine c'm C ?_
 rintro x w2 ⟨rfl,k1,k2⟩
 refine ⟨rfl,((Keep.refl _ _).alloc hK _).drew.trans (k1.mono fun k hk=>.inl hk),k2,?_,?_⟩
 ·exact sl_at (k1.blk (.inr rfl) (Blk.drew_ (Blk.new w1 5 #[.int .u8 x0,.int .u8 x1]))) 0 2 _ rfl (by simp[maxLen]) (fun j u hu=>by rw[Nat.zero_add,q'a];exact hu)
 ·have:=k1.size
  rw[hs] at this
  omega
structure OHead where
 age:Int
 opts:Int
 type:Int
 id:Int
 adv:Int
 seq:Int
 sum:Int
 len:Int
def headCells (h:OHead):List Value:=[.int .u16 h.age,.int .u8 h.opts,.int .u8 h.type,.int .u32 h.id,.int .u32 h.adv,.int .i32 h.seq,.int .u16 h.sum,.int .u16 h.len]
structure HeadOk (h:OHead):Prop where
 age:0≤h.age∧h.age<65536
 opts:0≤h.opts∧h.opts<256
 type:0≤h.type∧h.type<256
 id:0≤h.id∧h.id<4294967296
 adv:0≤h.adv∧h.adv<4294967296
 seq:-2147483648≤h.seq∧h.seq<2147483648
 sum:0≤h.sum∧h.sum<65536
 len:0≤h.len∧h.len<65536
def headB (h:OHead):List Int:=beN h.age 2++([h.opts,h.type]++(beN h.id 4++(beN h.adv 4++(beN (h.seq%4294967296) 4++(beN h.sum 2++beN h.len 2)))))
set_option maxHeartbeats 4000000 in
theorem penHead_any (K:Nat→Prop) (b:Nat) (most:Int) (bs:List Int) (h:OHead) (ok:HeadOk h) (w:World) (hW:Wr K w b most bs 0) (hK:∀ k,K k→k<w.heap.size) (hm:most≤140737488355320) (hr:(bs.length:Int)+20≤most) :
  Calls Tryz.prog 177 #[.agg #[.pointer (some ⟨b,0,none⟩)],.agg (headCells h).toArray] w fun x w'=>x=.returned (.tuple #[])∧Keep K w w'∧Wr K w' b most (bs++headB h) 0:=by
 obtain ⟨age,opts,type,id,adv,seq,sum,len⟩:=h
 obtain ⟨o1,o2,o3,o4,o5,o6,o7,o8⟩:=ok
 simp only at o1 o2 o3 o4 o5 o6 o7 o8
 dsimp only[headCells]
 have k0:Blk ((w.alloc (.cells #[.pointer (some ⟨b,0,none⟩)] 163)).alloc (.cells #[.int .u16 age,.int .u8 opts,.int .u8 type,.int .u32 id,.int .u32 adv,.int .i32 seq,.int .u16 sum,.int .u16 len] 68)) w.heap.size 163 #[.pointer (some ⟨b,0,none⟩)]:=(Blk.new _ _ _).alloc _
 have k1:Blk ((w.alloc (.cells #[.pointer (some ⟨b,0,none⟩)] 163)).alloc (.cells #[.int .u16 age,.int .u8 opts,.int .u8 type,.int .u32 id,.int .u32 adv,.int .i32 seq,.int .u16 sum,.int .u16 len] 68)) (w.heap.size+1) 68 #[.int .u16 age,.int .u8 opts,.int .u8 type,.int .u32 id,.int .u32 adv,.int .i32 seq,.int .u16 sum,.int .u16 len]:=heap_alloc2_new w _ _
 have kz:(((w.alloc (.cells #[.pointer (some ⟨b,0,none⟩)] 163)).alloc (.cells #[.int .u16 age,.int .u8 opts,.int .u8 type,.int .u32 id,.int .u32 adv,.int .i32 seq,.int .u16 sum,.int .u16 len] 68)):World).heap.size=w.heap.size+1+1:=by simp
 have kK:Keep K w ((w.alloc (.cells #[.pointer (some ⟨b,0,none⟩)] 163)).alloc (.cells #[.int .u16 age,.int .u8 opts,.int .u8 type,.int .u32 id,.int .u32 adv,.int .i32 seq,.int .u16 sum,.int .u16 len] 68)):=((Keep.refl _ _).alloc hK _).alloc (fun k hk=>by have:=hK k hk;simp;omega) _
 have hlt:=hW.lt
 have kW:Wr (fun k=>K k∨k=w.heap.size∨k=w.heap.size+1) ((w.alloc (.cells #[.pointer (some ⟨b,0,none⟩)] 163)).alloc (.cells #[.int .u16 age,.int .u8 opts,.int .u8 type,.int .u32 id,.int .u32 adv,.int .i32 seq,.int .u16 sum,.int .u16 len] 68)) b most bs 0:=by
  have h1:=(hW.add (.cells #[.pointer (some ⟨b,0,none⟩)] 163)).add (.cells #[.int .u16 age,.int .u8 opts,.int .u8 type,.int .u32 id,.int .u32 adv,.int .i32 seq,.int .u16 sum,.int .u16 len] 68)
  refine h1.less fun k hk => ?_
  rcases hk with h | h | h
  ·exact .inl (.inl h)
  ·exact .inl (.inr h)
  ·exact .inr (by simpa using h)
 have kL:∀ k,(K k∨k=w.heap.size∨k=w.heap.size+1)→k<(((w.alloc (.cells #[.pointer (some ⟨b,0,none⟩)] 163)).alloc (.cells #[.int .u16 age,.int .u8 opts,.int .u8 type,.int .u32 id,.int .u32 adv,.int .i32 seq,.int .u16 sum,.int .u16 len] 68)):World).heap.size:=fun k hk=>by
  rw[kz]
  rcases hk with h | h | h
  ·have:=hK k h;omega
  ·omega
  ·omega
 go_enter Tryz.func177,Tryz.ntmps177
 go_upto_region 1 with fail
 generalize ((w.alloc (.cells #[.pointer (some ⟨b,0,none⟩)] 163)).alloc (.cells #[.int .u16 age,.int .u8 opts,.int .u8 type,.int .u32 id,.int .u32 adv,.int .i32 seq,.int .u16 sum,.int .u16 len] 68))=w1 at k0 k1 kz kK kW kL ⊢
 obtain ⟨K2,hK2⟩:∃ K2:Nat→Prop,K2=fun k=>K k∨k=w.heap.size∨k=w.heap.size+1:=⟨_,rfl⟩
 have e0:K2 w.heap.size:=by rw[hK2];exact .inr (.inl rfl)
 have e1:K2 (w.heap.size+1):=by rw[hK2];exact .inr (.inr rfl)
 have e2:∀ k,K k→K2 k:=fun k hk=>by rw[hK2];exact .inl hk
 rw[←hK2] at kW
 replace kL:∀ k,K2 k→k<w1.heap.size:=fun k hk=>kL k (by rw[hK2] at hk;exact hk)
 clear hK2 hW hK hlt
 have p0:∀ W,Keep K2 w1 W→W.cell? ⟨w.heap.size,0,none⟩=some (.pointer (some ⟨b,0,none⟩)):=fun W h=>(h.cell (p:=⟨w.heap.size,0,none⟩) e0).trans (k0.cell 0)
 have q0:∀ W,Keep K2 w1 W→W.cell? ⟨w.heap.size+1,0,none⟩=some (.int .u16 age):=fun W h=>(h.cell (p:=⟨w.heap.size+1,0,none⟩) e1).trans (k1.cell 0)
 have q1:∀ W,Keep K2 w1 W→W.cell? ⟨w.heap.size+1,1,none⟩=some (.int .u8 opts):=fun W h=>(h.cell (p:=⟨w.heap.size+1,1,none⟩) e1).trans (k1.cell 1)
 have q2:∀ W,Keep K2 w1 W→W.cell? ⟨w.heap.size+1,2,none⟩=some (.int .u8 type):=fun W h=>(h.cell (p:=⟨w.heap.size+1,2,none⟩) e1).trans (k1.cell 2)
 have q3:∀ W,Keep K2 w1 W→W.cell? ⟨w.heap.size+1,3,none⟩=some (.int .u32 id):=fun W h=>(h.cell (p:=⟨w.heap.size+1,3,none⟩) e1).trans (k1.cell 3)
 have q4:∀ W,Keep K2 w1 W→W.cell? ⟨w.heap.size+1,4,none⟩=some (.int .u32 adv):=fun W h=>(h.cell (p:=⟨w.heap.size+1,4,none⟩) e1).trans (k1.cell 4)
 have q5:∀ W,Keep K2 w1 W→W.cell? ⟨w.heap.size+1,5,none⟩=some (.int .i32 seq):=fun W h=>(h.cell (p:=⟨w.heap.size+1,5,none⟩) e1).trans (k1.cell 5)
 have q6:∀ W,Keep K2 w1 W→W.cell? ⟨w.heap.size+1,6,none⟩=some (.int .u16 sum):=fun W h=>(h.cell (p:=⟨w.heap.size+1,6,none⟩) e1).trans (k1.cell 6)
 have q7:∀ W,Keep K2 w1 W→W.cell? ⟨w.heap.size+1,7,none⟩=some (.int .u16 len):=fun W h=>(h.cell (p:=⟨w.heap.size+1,7,none⟩) e1).trans (k1.cell 7)
 have HW0:Wr K2 w1.drew b most bs 0:=kW
 have HWr:=h'd kW
 clear k0 k1 kW
 have HL:=h'd kL
 replace kz:=h'd kz
 replace e0:=h'd e0
 replace e1:=h'd e1
 have wa:IntKind.u32.wrap age=age:=by rw[IntKind.wrap_u32];omega
 have ws:IntKind.u32.wrap seq=seq%4294967296:=by rw[IntKind.wrap_u32]
 have wm:IntKind.u32.wrap sum=sum:=by rw[IntKind.wrap_u32];omega
 have wl:IntKind.u32.wrap len=len:=by rw[IntKind.wrap_u32];omega
 have o6':0≤seq%4294967296∧seq%4294967296<4294967296:=by omega
 go_region_held3 (fun W=>Keep K2 w1 W) (first | assumption | exact (Keep.refl _ _).drew | exact (Keep.refl _ _).drew.alloc HL.out _ | exact HS1.alloc (fun k hk=>Nat.lt_of_lt_of_le (HL.out k hk) HS1.size) _ | fail)
  (first
   | (have _q:=HSP;go_at_call 184;(first | (have C:=num4 K2 b most _ id o4 _ HWP (fun k hk=>Nat.lt_of_lt_of_le (HL.out k hk) HSP.size) hm (by simp only[l'a,List.length_cons,List.length_nil,beN_len _ _ (show 2≤4 by omega),beN_len _ _ (n'r 4)];omega);with_reducible refine c'm C ?_) | (have C:=num4 K2 b most _ adv o5 _ HWP (fun k hk=>Nat.lt_of_lt_of_le (HL.out k hk) HSP.size) hm (by simp only[l'a,List.length_cons,List.length_nil,beN_len _ _ (show 2≤4 by omega),beN_len _ _ (n'r 4)];omega);with_reducible refine c'm C ?_) | (have C:=num4 K2 b most _ (seq%4294967296) o6' _ HWP (fun k hk=>Nat.lt_of_lt_of_le (HL.out k hk) HSP.size) hm (by simp only[l'a,List.length_cons,List.length_nil,beN_len _ _ (show 2≤4 by omega),beN_len _ _ (n'r 4)];omega);with_reducible refine c'm C ?_) | (have C:=num2 K2 b most _ sum o7 _ HWP (fun k hk=>Nat.lt_of_lt_of_le (HL.out k hk) HSP.size) hm (by simp only[l'a,List.length_cons,List.length_nil,beN_len _ _ (show 2≤4 by omega),beN_len _ _ (n'r 4)];omega);with_reducible refine c'm C ?_) | (have C:=num2 K2 b most _ len o8 _ HWP (fun k hk=>Nat.lt_of_lt_of_le (HL.out k hk) HSP.size) hm (by simp only[l'a,List.length_cons,List.length_nil,beN_len _ _ (show 2≤4 by omega),beN_len _ _ (n'r 4)];omega);with_reducible refine c'm C ?_));rintro x w' ⟨rfl,k1,k2⟩;replace HSP:=HSP.trans k1;replace HWP:=k2;clear k1 k2)
   | (go_at_call 184;have C:=num2 K2 b most bs age o1 _ HW0 HL.out hm (by omega);with_reducible refine c'm C ?_;clear C;rintro x w2 ⟨rfl,k1,k2⟩;have HS1:Keep K2 w1 w2:=(Keep.refl _ _).drew.trans k1;have HW1:=k2;clear k1 k2)
   | (have _q:=HSl;go_at_call 178;have C:=put_room (fun k=>K2 k∨k=w1.heap.size) b most _ _ _ [opts,type] _ HWB (fun k hk=>by rcases hk with hk | hk;(exact Nat.lt_of_lt_of_le (HL.out k hk) HS1.size);omega) (by omega) HSl (by simp only[l'a,List.length_cons,List.length_nil,beN_len _ _ (show 2≤4 by omega)];omega);with_reducible refine c'm C ?_;clear C;rintro x w3 ⟨rfl,k1,k2⟩;have HSP:Keep K2 w1 w3:=HS1.trans (k1.mono fun k hk=>.inl hk);have HWP:=k2.less (fun k hk=>.inl hk);clear k1 k2)
   | (go_at_call 184;have C:=num2_beside K2 b most bs age opts type o1 w1 HWr.out HL.out hm (by omega);with_reducible refine c'm C ?_;clear C;rintro x w2 ⟨rfl,HS1,HWB,HSl,HZ⟩)
   | (go_at_call 178;have C:=put_room K2 b most _ _ _ [opts,type] _ (HW1.alloc (.cells #[.int .u8 opts,.int .u8 type] 5)) (fun k hk=>by have:=Nat.lt_of_lt_of_le (HL.out k hk) HS1.size;simp;omega) (by omega) (Sl.lit w2 #[.int .u8 opts,.int .u8 type] 5 (by simp[maxLen]) rfl) (by simp only[l'a,List.length_cons,List.length_nil,beN_len _ _ (show 2≤4 by omega)];omega);with_reducible refine c'm C ?_;clear C;rintro x w3 ⟨rfl,k1,k2⟩;have HSP:Keep K2 w1 w3:=(HS1.alloc (fun k hk=>Nat.lt_of_lt_of_le (HL.out k hk) HS1.size) _).trans k1;have HWP:=k2;clear k1 k2)
   | (go_at_call 184;trace_state;fail)
   | (go_at_call 178;trace_state;fail)
   | fail)
 all_goals
  go_end0
  refine ⟨rfl,kK.trans (HSP.mono e2),?_⟩
  have H:=HWP.less e2
  simp only[List.append_assoc] at H
  exact H
abbrev stateVal (h:OHead) (bv:Value):Value:=.agg #[.int .u16 h.age,.int .u8 h.opts,.int .u8 h.type,.int .u32 h.id,.int .u32 h.adv,.int .i32 h.seq,.int .u16 h.sum,.int .u16 h.len,bv]
theorem headB_len (h:OHead):(headB h).length=20:=by simp[headB,beN_len]
set_option maxHeartbeats 1000000 in
theorem bytes_any (h:OHead) (ok:HeadOk h) (B:Nat) (bv:Value) (body:List Int) (w:World) (hb:Sl w B 1 bv body.length (body.map u8c)) (hB:B≤w.heap.size) (hn:body.length≤1099511627776) :
  Calls Tryz.prog 140 #[stateVal h bv] w fun x w'=>∃ v,x=.returned v∧w'.ownsRow w.heap.size 5 1 v (headB h++body).length ((headB h++body).map u8c)∧Below w.heap.size w w':=by
 have hb0:=hb
 obtain ⟨-,A,c,rfl,-⟩:=hb
 have z0:((w.alloc (.cells #[.int .u16 h.age,.int .u8 h.opts,.int .u8 h.type,.int .u32 h.id,.int .u32 h.adv,.int .i32 h.seq,.int .u16 h.sum,.int .u16 h.len,.slice A body.length c] 71)):World).heap.size=w.heap.size+1:=by simp
 have z1:(((w.alloc (.cells #[.int .u16 h.age,.int .u8 h.opts,.int .u8 h.type,.int .u32 h.id,.int .u32 h.adv,.int .i32 h.seq,.int .u16 h.sum,.int .u16 h.len,.slice A body.length c] 71)).alloc (.cells #[.slice none 0 0,.int .i64 (20+(body.length:Int)),.int .i64 0,.bool true] 213)):World).heap.size=w.heap.size+1+1:=by simp
 have z2:((((w.alloc (.cells #[.int .u16 h.age,.int .u8 h.opts,.int .u8 h.type,.int .u32 h.id,.int .u32 h.adv,.int .i32 h.seq,.int .u16 h.sum,.int .u16 h.len,.slice A body.length c] 71)).alloc (.cells #[.slice none 0 0,.int .i64 (20+(body.length:Int)),.int .i64 0,.bool true] 213)).alloc (.cells #[.pointer (some ⟨w.heap.size+1,0,none⟩)] 163)):World).heap.size=w.heap.size+1+1+1:=by simp
 have kB:Below w.heap.size w (((w.alloc (.cells #[.int .u16 h.age,.int .u8 h.opts,.int .u8 h.type,.int .u32 h.id,.int .u32 h.adv,.int .i32 h.seq,.int .u16 h.sum,.int .u16 h.len,.slice A body.length c] 71)).alloc (.cells #[.slice none 0 0,.int .i64 (20+(body.length:Int)),.int .i64 0,.bool true] 213)).alloc (.cells #[.pointer (some ⟨w.heap.size+1,0,none⟩)] 163)):=(((b'r _ _).alloc (n'r _) _).alloc (by simp) _).alloc (by simp;omega) _
 have k0:Blk (((w.alloc (.cells #[.int .u16 h.age,.int .u8 h.opts,.int .u8 h.type,.int .u32 h.id,.int .u32 h.adv,.int .i32 h.seq,.int .u16 h.sum,.int .u16 h.len,.slice A body.length c] 71)).alloc (.cells #[.slice none 0 0,.int .i64 (20+(body.length:Int)),.int .i64 0,.bool true] 213)).alloc (.cells #[.pointer (some ⟨w.heap.size+1,0,none⟩)] 163)) w.heap.size 71 #[.int .u16 h.age,.int .u8 h.opts,.int .u8 h.type,.int .u32 h.id,.int .u32 h.adv,.int .i32 h.seq,.int .u16 h.sum,.int .u16 h.len,.slice A body.length c]:=((Blk.new _ _ _).alloc _).alloc _
 have k1:Blk (((w.alloc (.cells #[.int .u16 h.age,.int .u8 h.opts,.int .u8 h.type,.int .u32 h.id,.int .u32 h.adv,.int .i32 h.seq,.int .u16 h.sum,.int .u16 h.len,.slice A body.length c] 71)).alloc (.cells #[.slice none 0 0,.int .i64 (20+(body.length:Int)),.int .i64 0,.bool true] 213)).alloc (.cells #[.pointer (some ⟨w.heap.size+1,0,none⟩)] 163)) (w.heap.size+1) 213 #[.slice none 0 0,.int .i64 (20+(body.length:Int)),.int .i64 0,.bool true]:=Blk.alloc (heap_alloc2_new w _ _) _
 have k2:Blk (((w.alloc (.cells #[.int .u16 h.age,.int .u8 h.opts,.int .u8 h.type,.int .u32 h.id,.int .u32 h.adv,.int .i32 h.seq,.int .u16 h.sum,.int .u16 h.len,.slice A body.length c] 71)).alloc (.cells #[.slice none 0 0,.int .i64 (20+(body.length:Int)),.int .i64 0,.bool true] 213)).alloc (.cells #[.pointer (some ⟨w.heap.size+1,0,none⟩)] 163)) (w.heap.size+1+1) 163 #[.pointer (some ⟨w.heap.size+1,0,none⟩)]:=Blk.new_ _ (by simp)
 have hb2:=hb0.below (kB.mono hB)
 have wl:wrap64 (20+(body.length:Int))=20+(body.length:Int):=by unfold wrap64;omega
 go_enter Tryz.func140,Tryz.ntmps140
 go_upto_region 2 with (go_at_call 80;refine c'm (write_any _ (by omega) _) ?_;rintro x w' ⟨rfl,rfl⟩)
 generalize (((w.alloc (.cells #[.int .u16 h.age,.int .u8 h.opts,.int .u8 h.type,.int .u32 h.id,.int .u32 h.adv,.int .i32 h.seq,.int .u16 h.sum,.int .u16 h.len,.slice A body.length c] 71)).alloc (.cells #[.slice none 0 0,.int .i64 (20+(body.length:Int)),.int .i64 0,.bool true] 213)).alloc (.cells #[.pointer (some ⟨w.heap.size+1,0,none⟩)] 163))=w2 at kB k0 k1 k2 hb2 z2 ⊢
 obtain ⟨K,hK⟩:∃ K:Nat→Prop,K=fun k=>k<w.heap.size+3∧k≠w.heap.size+1:=⟨_,rfl⟩
 have kl:∀ k,K k→k<w2.heap.size:=fun k hk=>by rw[hK] at hk;have:=hk.1;omega
 have kb:∀ k,k<w.heap.size→K k:=fun k hk=>by rw[hK];exact ⟨by omega,by omega⟩
 have ks:K w.heap.size:=by rw[hK];exact ⟨by omega,by omega⟩
 have kp:K (w.heap.size+1+1):=by rw[hK];exact ⟨by omega,by omega⟩
 have kw:Wr K w2 (w.heap.size+1) (20+(body.length:Int)) [] 0:=⟨by rw[hK];exact fun h=>h.2 rfl,_,k1,World.ownsRow_nil _ _ _ _,by simp[Value.ownBlock]⟩
 have CH:=h'd (penHead_any K (w.heap.size+1) (20+(body.length:Int)) [] h ok w2 kw kl (by omega) (by simp;omega))
 have hz2:=h'd z2
 clear z0 z1 z2 k1 kw hK wl
 have x0:=k0.cell 0
 have x1:=k0.cell 1
 have x2:=k0.cell 2
 have x3:=k0.cell 3
 have x4:=k0.cell 4
 have x5:=k0.cell 5
 have x6:=k0.cell 6
 have x7:=k0.cell 7
 have y0:=k2.cell 0
 simp only[q'a,q'z,q's] at x0 x1 x2 x3 x4 x5 x6 x7 y0
 go_upto_region 3 with (go_at_call 177;refine c'm CH.out ?_;rintro x w3 ⟨rfl,k3,kw3⟩)
 rw[List.nil_append] at kw3
 clear CH x0 x1 x2 x3 x4 x5 x6 x7 y0
 have j0:=k3.blk ks k0
 have j2:=k3.blk kp k2
 have hb3:=k3.sl (fun k hk=>kb k (by omega)) hb2
 have x8:=j0.cell 8
 have y0:=j2.cell 0
 simp only[q'a,q'z,q's] at x8 y0
 have hk3:∀ k,K k→k<w3.heap.size:=fun k hk=>Nat.lt_of_lt_of_le (kl k hk) k3.size
 have CP:=h'd (put_room K (w.heap.size+1) (20+(body.length:Int)) (headB h) B _ body w3 kw3 hk3 (by omega) hb3 (by rw[headB_len];omega))
 clear k0 k2 hb2 hb3 kw3 j0 j2
 have hB3:Below w.heap.size w w3:=kB.trans (k3.below kb)
 go_wp2_with (first
  | (go_at_call 178;refine c'm CP.out ?_;rintro x w4 ⟨rfl,k4,kw4⟩;have CD:=done_any K (w.heap.size+1) (20+(body.length:Int)) (headB h++body) 0 w4 kw4 (by rw[l'a,headB_len];omega);rw[show doneBs 0 (headB h++body)=headB h++body from rfl] at CD;replace CD:=h'd CD)
  | (go_at_call 81;refine c'm CD.out ?_;rintro x w5 ⟨v,rfl,ho5,hB5⟩)
  | fail)
 go_ret
 have hB4:Below w.heap.size w w4:=hB3.trans (k4.below kb)
 exact ⟨v,rfl,own_less ho5 hB4.size,hB4.trans (hB5.mono hB4.size)⟩
set_option maxRecDepth 100000
theorem be4_take (v:Int) (n k:Nat) (hn:n≤4) (hk:k<n):(beN v n).take (k+1)=(beN v n).take k++[(be4 v)[4-n+k]'(by simp[be4];omega)]:=by
 rw[t'k (by rw[beN_len _ _ hn];omega)]
 simp[beN]
set_option maxHeartbeats 1000000 in
theorem rfour_any (v:Int) (n:Nat) (hn:n=2∨n=4) (hv:0≤v∧v<4294967296) (w:World):Calls Tryz.prog 163 #[.int .u32 v,.int .i64 n] w fun x w'=>∃ s,x=.returned s∧w'.ownsRow w.heap.size 5 1 s n ((beN v n).map u8c)∧Below w.heap.size w w':=by
 have hw:wrap64 ((n:Int)-1)=(n:Int)-1:=by unfold wrap64;omega
 go_enter Tryz.func163,Tryz.ntmps163
 go_wp2
 go_loopg [5,6] n (fun m s i wr=>∃ (j:Nat) (u:Value),j≤n∧m=n-j∧s=u∧i=.int .i64 ((n:Int)-1-(j:Int))∧wr.ownsRow w.heap.size 5 1 u j (((beN v n).take j).map u8c)∧Below w.heap.size w wr)
 case atStart =>
  exact ⟨0,_,Nat.zero_le _,rfl,rfl,by simp,World.ownsRow_nil _ _ _ _,b'r _ _⟩
 case round =>
  obtain ⟨j,u,hj,hm,rfl,rfl,ho,hB⟩:=hrel
  obtain ⟨w1,rfl⟩:∃ x:World,x=wr:=⟨_,rfl⟩
  obtain ⟨-,A,c,rfl,-⟩:=Sl.of_own ho
  by_cases hjn:j<n
  ·have ht:=be4_take v n j (by omega) hjn
   rcases hn with rfl | rfl
   ·rcases (show j=0∨j=1 by omega) with rfl | rfl
    ·go_wp2_with (at_builtin;refine wpList_append rfl (.tmp 13) (.tmp 19) 69 rfl w.heap.size u8T (.slice A 0 c) 0 _ rfl (own_alloc ho _) _ _ 1 [.int .u8 (v / 256%256)] rfl (Sl.lit _ #[.int .u8 (v / 256%256)] 5 (by simp[maxLen]) rfl) (by simp[Value.oneCell']) (by simp only[maxLen];omega) (by omega) (by have:=hB.size;simp;omega) ?_;intro v3 w3 ho3 hg3 hob3)
     go_roundg (2-(0+1))
     case measure=>omega
     case rel =>
      refine ⟨0+1,v3,by omega,rfl,rfl,by simp,?_,(below_alloc hB (n'r _) _).trans (below_of_grown hg3 (by have:=hB.size;simp;omega) (fun g hg=>(ho.lt g hg).1))⟩
      rw[ht,List.map_append]
      exact ho3
    ·go_wp2_with (at_builtin;refine wpList_append rfl (.tmp 13) (.tmp 19) 69 rfl w.heap.size u8T (.slice A 1 c) 1 _ rfl (own_alloc ho _) _ _ 1 [.int .u8 (v%256)] rfl (Sl.lit _ #[.int .u8 (v%256)] 5 (by simp[maxLen]) rfl) (by simp[Value.oneCell']) (by simp only[maxLen];omega) (by omega) (by have:=hB.size;simp;omega) ?_;intro v3 w3 ho3 hg3 hob3)
     go_roundg (2-(1+1))
     case measure=>omega
     case rel =>
      refine ⟨1+1,v3,by omega,rfl,rfl,by simp,?_,(below_alloc hB (n'r _) _).trans (below_of_grown hg3 (by have:=hB.size;simp;omega) (fun g hg=>(ho.lt g hg).1))⟩
      rw[ht,List.map_append]
      exact ho3
   ·rcases (show j=0∨j=1∨j=2∨j=3 by omega) with rfl | rfl | rfl | rfl
    ·go_wp2_with (at_builtin;refine wpList_append rfl (.tmp 13) (.tmp 19) 69 rfl w.heap.size u8T (.slice A 0 c) 0 _ rfl (own_alloc ho _) _ _ 1 [.int .u8 (v / 16777216)] rfl (Sl.lit _ #[.int .u8 (v / 16777216)] 5 (by simp[maxLen]) rfl) (by simp[Value.oneCell']) (by simp only[maxLen];omega) (by omega) (by have:=hB.size;simp;omega) ?_;intro v3 w3 ho3 hg3 hob3)
     go_roundg (4-(0+1))
     case measure=>omega
     case rel =>
      refine ⟨0+1,v3,by omega,rfl,rfl,by simp,?_,(below_alloc hB (n'r _) _).trans (below_of_grown hg3 (by have:=hB.size;simp;omega) (fun g hg=>(ho.lt g hg).1))⟩
      rw[ht,List.map_append]
      rw[show (be4 v)[4-4+0]=v / 16777216 from by simp[be4];omega]
      exact ho3
    ·go_wp2_with (at_builtin;refine wpList_append rfl (.tmp 13) (.tmp 19) 69 rfl w.heap.size u8T (.slice A 1 c) 1 _ rfl (own_alloc ho _) _ _ 1 [.int .u8 (v / 65536%256)] rfl (Sl.lit _ #[.int .u8 (v / 65536%256)] 5 (by simp[maxLen]) rfl) (by simp[Value.oneCell']) (by simp only[maxLen];omega) (by omega) (by have:=hB.size;simp;omega) ?_;intro v3 w3 ho3 hg3 hob3)
     go_roundg (4-(1+1))
     case measure=>omega
     case rel =>
      refine ⟨1+1,v3,by omega,rfl,rfl,by simp,?_,(below_alloc hB (n'r _) _).trans (below_of_grown hg3 (by have:=hB.size;simp;omega) (fun g hg=>(ho.lt g hg).1))⟩
      rw[ht,List.map_append]
      exact ho3
    ·go_wp2_with (at_builtin;refine wpList_append rfl (.tmp 13) (.tmp 19) 69 rfl w.heap.size u8T (.slice A 2 c) 2 _ rfl (own_alloc ho _) _ _ 1 [.int .u8 (v / 256%256)] rfl (Sl.lit _ #[.int .u8 (v / 256%256)] 5 (by simp[maxLen]) rfl) (by simp[Value.oneCell']) (by simp only[maxLen];omega) (by omega) (by have:=hB.size;simp;omega) ?_;intro v3 w3 ho3 hg3 hob3)
     go_roundg (4-(2+1))
     case measure=>omega
     case rel =>
      refine ⟨2+1,v3,by omega,rfl,rfl,by simp,?_,(below_alloc hB (n'r _) _).trans (below_of_grown hg3 (by have:=hB.size;simp;omega) (fun g hg=>(ho.lt g hg).1))⟩
      rw[ht,List.map_append]
      exact ho3
    ·go_wp2_with (at_builtin;refine wpList_append rfl (.tmp 13) (.tmp 19) 69 rfl w.heap.size u8T (.slice A 3 c) 3 _ rfl (own_alloc ho _) _ _ 1 [.int .u8 (v%256)] rfl (Sl.lit _ #[.int .u8 (v%256)] 5 (by simp[maxLen]) rfl) (by simp[Value.oneCell']) (by simp only[maxLen];omega) (by omega) (by have:=hB.size;simp;omega) ?_;intro v3 w3 ho3 hg3 hob3)
     go_roundg (4-(3+1))
     case measure=>omega
     case rel =>
      refine ⟨3+1,v3,by omega,rfl,rfl,by simp,?_,(below_alloc hB (n'r _) _).trans (below_of_grown hg3 (by have:=hB.size;simp;omega) (fun g hg=>(ho.lt g hg).1))⟩
      rw[ht,List.map_append]
      exact ho3
  ·obtain rfl:j=n:=by omega
   go_wp2
   go_ret
   refine ⟨_,rfl,?_,hB⟩
   rw[List.take_of_length_le (by rw[beN_len _ _ (by omega)];omega)] at ho
   exact ho
theorem four_any (v:Int) (hv:0≤v∧v<4294967296) (w:World):Calls Tryz.prog 130 #[.int .u32 v] w fun x w'=>∃ s,x=.returned s∧w'.ownsRow w.heap.size 5 1 s 4 ((beN v 4).map u8c)∧Below w.heap.size w w':=by
 have C:=h'd (rfour_any v 4 (.inr rfl) hv w)
 go_enter Tryz.func130,Tryz.ntmps130
 go_wp2_with (go_at_call 163;refine c'm C.out ?_;rintro x w1 ⟨s,rfl,ho,hB⟩)
 go_ret
 exact ⟨_,rfl,ho,hB⟩
theorem two_any (v:Int) (hv:0≤v∧v<65536) (w:World):Calls Tryz.prog 129 #[.int .u16 v] w fun x w'=>∃ s,x=.returned s∧w'.ownsRow w.heap.size 5 1 s 2 ((beN v 2).map u8c)∧Below w.heap.size w w':=by
 have C:=h'd (rfour_any v 2 (.inl rfl) (by omega) w)
 go_enter Tryz.func129,Tryz.ntmps129
 go_wp2_with (go_at_call 163;refine c'm C.out ?_;rintro x w1 ⟨s,rfl,ho,hB⟩)
 go_ret
 exact ⟨_,rfl,ho,hB⟩
structure BS (w W:World) (g:Nat) (t:TypeId) (cs:Array Value) (v:Value) (L:List Int):Prop where
 blk:Blk W g t cs
 own:W.ownsRow (g+1) 5 1 v L.length (L.map u8c)
 far:Below g w W
theorem BS.step {w W w1 w3:World} {g:Nat} {t:TypeId} {cs:Array Value} {v v3:Value} {L M:List Int} (h:BS w W g t cs v L) (hw:g≤w.heap.size) (k:Below W.heap.size W w1) (hg:w1.grownBy w3 v.ownBlock) (ho:w3.ownsRow (g+1) 5 1 v3 (L.length+M.length) (L.map u8c++M.map u8c)):BS w w3 g t cs v3 (L++M):=by
 have h1:=h.blk.below k h.blk.lt
 refine ⟨h1.same (hg.block _ h1.lt (fun e=>by have:=(h.own.lt _ e.symm).1;omega)),?_,(h.far.trans (k.mono (n't hw h.far.size))).trans (below_of_grown hg (n't (Nat.le_of_lt h1.lt) (n'r _)) (fun b hb=>by have:=(h.own.lt _ hb).1;omega))⟩
 rw[l'a,List.map_append]
 exact ho
set_option maxHeartbeats 2000000 in
theorem rhead_any (h:OHead) (ok:HeadOk h) (w:World):Calls Tryz.prog 174 #[.agg (headCells h).toArray] w fun x w'=>∃ s,x=.returned s∧w'.ownsRow w.heap.size 5 1 s 20 ((headB h).map u8c)∧Below w.heap.size w w':=by
 obtain ⟨age,opts,type,id,adv,seq,sum,len⟩:=h
 obtain ⟨o1,o2,o3,o4,o5,o6,o7,o8⟩:=ok
 simp only at o1 o2 o3 o4 o5 o6 o7 o8
 have hw:=n'r w.heap.size
 have S0:BS w (w.alloc (.cells #[.int .u16 age,.int .u8 opts,.int .u8 type,.int .u32 id,.int .u32 adv,.int .i32 seq,.int .u16 sum,.int .u16 len] 68)) w.heap.size 68 #[.int .u16 age,.int .u8 opts,.int .u8 type,.int .u32 id,.int .u32 adv,.int .i32 seq,.int .u16 sum,.int .u16 len] (.slice none 0 0) []:=⟨Blk.new _ _ _,World.ownsRow_nil _ _ _ _,(b'r _ _).alloc (n'r _) _⟩
 have ws:IntKind.u32.wrap seq=seq%4294967296:=rfl
 simp only[headCells]
 go_enter Tryz.func174,Tryz.ntmps174
 go_upto_region 1 with fail
 generalize w.alloc (.cells #[.int .u16 age,.int .u8 opts,.int .u8 type,.int .u32 id,.int .u32 adv,.int .i32 seq,.int .u16 sum,.int .u16 len] 68)=W0 at S0 ⊢
 have x0:=S0.blk.cell 0
 simp only[q'a,q'z] at x0
 have C:=h'd (two_any age o1 W0)
 go_upto_region 2 with (go_at_call 129;refine c'm C.out ?_;rintro x W1 ⟨s,rfl,ho,k⟩)
 have S1:BS w W1 w.heap.size 68 _ s (beN age 2):=⟨S0.blk.below k S0.blk.lt,by rw[beN_len _ _ (by omega)];exact own_less ho S0.blk.lt,S0.far.trans (k.mono S0.far.size)⟩
 clear C x0 S0 ho k
 have x1:=S1.blk.cell 1
 have x2:=S1.blk.cell 2
 simp only[q'a,q'z,q's] at x1 x2
 have hl1:(beN age 2).length=2:=beN_len _ _ (by omega)
 have O1:=S1.own
 rw[hl1] at O1
 obtain ⟨-,A1,c1,rfl,-⟩:=Sl.of_own O1
 replace O1:=h'd O1
 have Z1:=S1.blk.lt
 replace S1:=h'd S1
 go_upto_region 3 with (at_builtin;refine wpList_append rfl (.tmp 7) (.tmp 12) 69 rfl (w.heap.size+1) u8T _ 2 ((beN age 2).map u8c) rfl (own_alloc O1.out _) _ _ 2 [.int .u8 opts,.int .u8 type] rfl (Sl.lit _ #[.int .u8 opts,.int .u8 type] 5 (by simp[maxLen]) rfl) (by simp[Value.oneCell']) (by simp only[maxLen];omega) (by omega) (by simp;omega) ?_;intro v2 W2 ho hg hob)
 have S2:BS w W2 w.heap.size 68 _ v2 (beN age 2++[opts,type]):=S1.out.step hw ((b'r _ _).alloc (n'r _) _) hg (by rw[hl1];exact ho)
 clear ho hg hob O1 x1 x2 S1 hl1
 have x3:=S2.blk.cell 3
 simp only[q'a,q'z,q's] at x3
 have hl2:(beN age 2++[opts,type]).length=4:=by simp[beN_len]
 have O2:=S2.own
 rw[hl2] at O2
 obtain ⟨-,A2,c2,rfl,-⟩:=Sl.of_own O2
 replace O2:=h'd O2
 have Z2:=S2.blk.lt
 replace S2:=h'd S2
 have C:=h'd (four_any (id) o4 W2)
 go_upto_region 4 with (first
  | (go_at_call 130;refine c'm C.out ?_;rintro x Y3 ⟨s,rfl,hs,kk⟩;obtain ⟨-,As,cs,rfl,-⟩:=Sl.of_own hs;have hs2:=h'd hs;clear hs;have kz:=kk.size)
  | (at_builtin;refine wpList_append rfl (.tmp 14) (.tmp 17) 69 rfl (w.heap.size+1) u8T _ 4 _ rfl (own_below O2.out kk) _ _ 4 _ rfl (Sl.of_own hs2.out) (u8s_oneCell _) (by simp only[maxLen];omega) (by omega) (by omega) ?_;intro v3 W3 ho hg hob))
 have S3:BS w W3 w.heap.size 68 _ v3 (beN age 2++[opts,type]++beN (id) 4):=S2.out.step hw kk hg (by rw[hl2,beN_len _ _ (by omega)];exact ho)
 clear ho hg hob O2 x3 S2 hl2 C hs2 kk
 have x4:=S3.blk.cell 4
 simp only[q'a,q'z,q's] at x4
 have hl3:(beN age 2++[opts,type]++beN (id) 4).length=8:=by simp[beN_len]
 have O3:=S3.own
 rw[hl3] at O3
 obtain ⟨-,A3,c3,rfl,-⟩:=Sl.of_own O3
 replace O3:=h'd O3
 have Z3:=S3.blk.lt
 replace S3:=h'd S3
 have C:=h'd (four_any (adv) o5 W3)
 go_upto_region 5 with (first
  | (go_at_call 130;refine c'm C.out ?_;rintro x Y4 ⟨s,rfl,hs,kk⟩;obtain ⟨-,As,cs,rfl,-⟩:=Sl.of_own hs;have hs2:=h'd hs;clear hs;have kz:=kk.size)
  | (at_builtin;refine wpList_append rfl (.tmp 19) (.tmp 22) 69 rfl (w.heap.size+1) u8T _ 8 _ rfl (own_below O3.out kk) _ _ 4 _ rfl (Sl.of_own hs2.out) (u8s_oneCell _) (by simp only[maxLen];omega) (by omega) (by omega) ?_;intro v4 W4 ho hg hob))
 have S4:BS w W4 w.heap.size 68 _ v4 (beN age 2++[opts,type]++beN (id) 4++beN (adv) 4):=S3.out.step hw kk hg (by rw[hl3,beN_len _ _ (by omega)];exact ho)
 clear ho hg hob O3 x4 S3 hl3 C hs2 kk
 have x5:=S4.blk.cell 5
 simp only[q'a,q'z,q's] at x5
 have hl4:(beN age 2++[opts,type]++beN (id) 4++beN (adv) 4).length=12:=by simp[beN_len]
 have O4:=S4.own
 rw[hl4] at O4
 obtain ⟨-,A4,c4,rfl,-⟩:=Sl.of_own O4
 replace O4:=h'd O4
 have Z4:=S4.blk.lt
 replace S4:=h'd S4
 have C:=h'd (four_any (seq%4294967296) (by omega) W4)
 go_upto_region 6 with (first
  | (go_at_call 130;refine c'm C.out ?_;rintro x Y5 ⟨s,rfl,hs,kk⟩;obtain ⟨-,As,cs,rfl,-⟩:=Sl.of_own hs;have hs2:=h'd hs;clear hs;have kz:=kk.size)
  | (at_builtin;refine wpList_append rfl (.tmp 24) (.tmp 28) 69 rfl (w.heap.size+1) u8T _ 12 _ rfl (own_below O4.out kk) _ _ 4 _ rfl (Sl.of_own hs2.out) (u8s_oneCell _) (by simp only[maxLen];omega) (by omega) (by omega) ?_;intro v5 W5 ho hg hob))
 have S5:BS w W5 w.heap.size 68 _ v5 (beN age 2++[opts,type]++beN (id) 4++beN (adv) 4++beN (seq%4294967296) 4):=S4.out.step hw kk hg (by rw[hl4,beN_len _ _ (by omega)];exact ho)
 clear ho hg hob O4 x5 S4 hl4 C hs2 kk
 have x6:=S5.blk.cell 6
 simp only[q'a,q'z,q's] at x6
 have hl5:(beN age 2++[opts,type]++beN (id) 4++beN (adv) 4++beN (seq%4294967296) 4).length=16:=by simp[beN_len]
 have O5:=S5.own
 rw[hl5] at O5
 obtain ⟨-,A5,c5,rfl,-⟩:=Sl.of_own O5
 replace O5:=h'd O5
 have Z5:=S5.blk.lt
 replace S5:=h'd S5
 have C:=h'd (two_any (sum) o7 W5)
 go_upto_region 7 with (first
  | (go_at_call 129;refine c'm C.out ?_;rintro x Y6 ⟨s,rfl,hs,kk⟩;obtain ⟨-,As,cs,rfl,-⟩:=Sl.of_own hs;have hs2:=h'd hs;clear hs;have kz:=kk.size)
  | (at_builtin;refine wpList_append rfl (.tmp 30) (.tmp 33) 69 rfl (w.heap.size+1) u8T _ 16 _ rfl (own_below O5.out kk) _ _ 2 _ rfl (Sl.of_own hs2.out) (u8s_oneCell _) (by simp only[maxLen];omega) (by omega) (by omega) ?_;intro v6 W6 ho hg hob))
 have S6:BS w W6 w.heap.size 68 _ v6 (beN age 2++[opts,type]++beN (id) 4++beN (adv) 4++beN (seq%4294967296) 4++beN (sum) 2):=S5.out.step hw kk hg (by rw[hl5,beN_len _ _ (by omega)];exact ho)
 clear ho hg hob O5 x6 S5 hl5 C hs2 kk
 have x7:=S6.blk.cell 7
 simp only[q'a,q'z,q's] at x7
 have hl6:(beN age 2++[opts,type]++beN (id) 4++beN (adv) 4++beN (seq%4294967296) 4++beN (sum) 2).length=18:=by simp[beN_len]
 have O6:=S6.own
 rw[hl6] at O6
 obtain ⟨-,A6,c6,rfl,-⟩:=Sl.of_own O6
 replace O6:=h'd O6
 have Z6:=S6.blk.lt
 replace S6:=h'd S6
 have C:=h'd (two_any (len) o8 W6)
 go_wp2_with (first
  | (go_at_call 129;refine c'm C.out ?_;rintro x Y7 ⟨s,rfl,hs,kk⟩;obtain ⟨-,As,cs,rfl,-⟩:=Sl.of_own hs;have hs2:=h'd hs;clear hs;have kz:=kk.size)
  | (at_builtin;refine wpList_append rfl (.tmp 35) (.tmp 38) 69 rfl (w.heap.size+1) u8T _ 18 _ rfl (own_below O6.out kk) _ _ 2 _ rfl (Sl.of_own hs2.out) (u8s_oneCell _) (by simp only[maxLen];omega) (by omega) (by omega) ?_;intro v7 W7 ho hg hob))
 have S7:=S6.out.step (M:=beN (len) 2) hw kk hg (by rw[hl6,beN_len _ _ (by omega)];exact ho)
 go_ret
 refine ⟨_,rfl,?_,S7.far⟩
 have O:=own_less S7.own (Nat.le_succ _)
 rw[show (beN age 2++[opts,type]++beN (id) 4++beN (adv) 4++beN (seq%4294967296) 4++beN (sum) 2++beN (len) 2).length=20 from by simp[beN_len]] at O
 rw[show headB ⟨age,opts,type,id,adv,seq,sum,len⟩=beN age 2++[opts,type]++beN (id) 4++beN (adv) 4++beN (seq%4294967296) 4++beN (sum) 2++beN (len) 2 from by simp[headB]]
 exact O
set_option maxHeartbeats 1000000 in
theorem rbytes_any (h:OHead) (ok:HeadOk h) (B:Nat) (bv:Value) (body:List Int) (w:World) (hb:Sl w B 1 bv body.length (body.map u8c)) (hB:B≤w.heap.size) (hn:body.length≤1099511627776) :
  Calls Tryz.prog 136 #[stateVal h bv] w fun x w'=>∃ v,x=.returned v∧w'.ownsRow w.heap.size 5 1 v (headB h++body).length ((headB h++body).map u8c)∧Below w.heap.size w w':=by
 have hb0:=hb
 have hL:=headB_len h
 obtain ⟨-,A,c,rfl,-⟩:=hb
 have qB:Below w.heap.size w (w.alloc (.cells #[.int .u16 h.age,.int .u8 h.opts,.int .u8 h.type,.int .u32 h.id,.int .u32 h.adv,.int .i32 h.seq,.int .u16 h.sum,.int .u16 h.len,.slice A body.length c] 71)):=(b'r _ _).alloc (n'r _) _
 have q0:Blk (w.alloc (.cells #[.int .u16 h.age,.int .u8 h.opts,.int .u8 h.type,.int .u32 h.id,.int .u32 h.adv,.int .i32 h.seq,.int .u16 h.sum,.int .u16 h.len,.slice A body.length c] 71)) w.heap.size 71 #[.int .u16 h.age,.int .u8 h.opts,.int .u8 h.type,.int .u32 h.id,.int .u32 h.adv,.int .i32 h.seq,.int .u16 h.sum,.int .u16 h.len,.slice A body.length c]:=Blk.new _ _ _
 have C:=fun W=>rhead_any h ok W
 simp only[headCells] at C
 generalize headB h=L at C hL ⊢
 replace C:=h'd C
 have hLL:=h'd hL
 clear hL
 go_enter Tryz.func136,Tryz.ntmps136
 go_upto_region 2 with (go_at_call 174;refine c'm (C.out _) ?_;rintro x w1 ⟨s,rfl,ho,k⟩)
 have k1:=qB.trans (k.mono qB.size)
 have hb1:=hb0.below (k1.mono hB)
 have x8:=(q0.below k q0.lt).cell 8
 simp only[q'a,q'z,q's] at x8
 have hz:=qB.size
 have ho1:=own_less ho hz
 have hz1:=k1.size
 clear ho k q0 hb0
 obtain ⟨-,A1,c1,rfl,-⟩:=Sl.of_own ho1
 replace ho1:=h'd ho1
 go_wp2_with (at_builtin;refine wpList_append rfl (.tmp 7) (.tmp 9) 69 rfl w.heap.size u8T _ 20 _ rfl ho1.out B _ body.length _ rfl hb1 (u8s_oneCell _) (by simp only[maxLen];omega) (by omega) hz1 ?_;intro v3 w3 ho3 hg3 hob3)
 go_ret
 refine ⟨_,rfl,?_,k1.trans (below_of_grown hg3 hz1 (fun b hb=>(ho1.out.lt _ hb).1))⟩
 rw[l'a,List.map_append,hLL.out]
 exact ho3
def sumsTo (b:List Int) (at_:Nat):Nat→Int × Int
 | 0=>(0,0)
 | k+1=>if k=at_∨k=at_+1 then sumsTo b at_ k
  else (((sumsTo b at_ k).1+b.getD k 0)%255,((sumsTo b at_ k).2+((b.length:Int)-k)%255*b.getD k 0)%255)
theorem sumsTo_range (b:List Int) (at_ k:Nat):0≤(sumsTo b at_ k).1∧(sumsTo b at_ k).1<255∧0≤(sumsTo b at_ k).2∧(sumsTo b at_ k).2<255:=by
 induction k with
 | zero=>exact ⟨by simp[sumsTo],by simp[sumsTo],by simp[sumsTo],by simp[sumsTo]⟩
 | succ k ih =>
  unfold sumsTo
  split
  ·exact ih
  ·simp only
   omega
set_option maxHeartbeats 1000000 in
theorem sums_any (B:Nat) (bv:Value) (b:List Int) (at_:Nat) (w:World) (hb:Sl w B 1 bv b.length (b.map u8c)) (hn:b.length≤1099511627776) (ha:at_≤1099511627776) (hl8:∀ x∈b,0≤x∧x<256) :
  Calls Tryz.prog 175 #[bv,.int .i64 at_] w fun x w'=>x=.returned (.tuple #[.int .i64 (sumsTo b at_ b.length).1,.int .i64 (sumsTo b at_ b.length).2])∧w'=w:=by
 obtain ⟨-,A,c,rfl,hc,-,hat⟩:=hb
 go_enter Tryz.func175,Tryz.ntmps175
 go_wp2
 go_loopg [6,7,8] b.length (fun m c0 c1 i wr=>∃ j:Nat,j≤b.length∧m=b.length-j∧c0=.int .i64 (sumsTo b at_ j).1∧c1=.int .i64 (sumsTo b at_ j).2∧i=.int .i64 (j:Int)∧wr=w)
 case atStart =>
  exact ⟨0,Nat.zero_le _,rfl,rfl,rfl,rfl,rfl⟩
 case round =>
  obtain ⟨j,hj,hm,rfl,rfl,rfl,rfl⟩:=hrel
  have hr:=sumsTo_range b at_ j
  by_cases hjn:j<b.length
  ·obtain ⟨g,off,rfl,hg,hcell⟩:=hat (by omega)
   have cj:=hcell j (u8c (b[j])) (by simp[hjn])
   rw[show u8c b[j]=.int .u8 b[j] from rfl] at cj
   have h8:=hl8 b[j] (g'm hjn)
   have hs:sumsTo b at_ (j+1)=if j=at_∨j=at_+1 then sumsTo b at_ j else (((sumsTo b at_ j).1+b[j])%255,((sumsTo b at_ j).2+((b.length:Int)-j)%255*b[j])%255):=by
    conv=>lhs;unfold sumsTo
    simp only[List.getD_eq_getElem?_getD,List.getElem?_eq_getElem hjn,o'g]
   have hq0:0≤((b.length:Int)-j)%255∧((b.length:Int)-j)%255<255:=by omega
   have hmul:0≤((b.length:Int)-j)%255*b[j]∧((b.length:Int)-j)%255*b[j]≤254*255:=⟨Int.mul_nonneg hq0.1 h8.1,by
    have h1:=Int.mul_le_mul_of_nonneg_right (show ((b.length:Int)-j)%255≤254 by omega) h8.1
    have h2:=Int.mul_le_mul_of_nonneg_left (show b[j]≤255 by omega) (show (0:Int)≤254 by omega)
    omega⟩
   by_cases h1:j=at_
   ·rw[if_pos (.inl h1)] at hs
    have e1:((j:Int)==(at_:Int))=true:=by simp[h1]
    have hs0:=h'd hs
    have h10:=h'd h1
    clear hs h1 hcell hat
    go_wp2
    go_roundg (b.length-(j+1))
    case measure=>omega
    case rel=>exact ⟨j+1,by omega,rfl,by rw[hs0.out],by rw[hs0.out],by simp,rfl⟩
   ·have e1:((j:Int)==(at_:Int))=false:=by simp;omega
    by_cases h2:j=at_+1
    ·rw[if_pos (.inr h2)] at hs
     have e2:((j:Int)==(at_:Int)+1)=true:=by simp;omega
     have hs0:=h'd hs
     have h10:=h'd h1
     have h20:=h'd h2
     clear hs h1 h2 hcell hat
     go_wp2
     go_roundg (b.length-(j+1))
     case measure=>omega
     case rel=>exact ⟨j+1,by omega,rfl,by rw[hs0.out],by rw[hs0.out],by simp,rfl⟩
    ·rw[if_neg (by omega)] at hs
     have e2:((j:Int)==(at_:Int)+1)=false:=by simp;omega
     have hs0:=h'd hs
     have h10:=h'd h1
     have h20:=h'd h2
     clear hs h1 h2 hcell hat
     generalize b[j]=x at *
     go_wp2
     go_roundg (b.length-(j+1))
     case measure=>omega
     case rel=>exact ⟨j+1,by omega,rfl,by rw[hs0.out],by rw[hs0.out],by simp,rfl⟩
  ·obtain rfl:j=b.length:=by omega
   go_wp2
   refine bodyPost_ret (results_tmp2 rfl _ _ _) rfl ?_
   exact ⟨rfl,rfl⟩
def hitP (c:Int × Int) (n x y:Int):Prop:=(c.1+x+y)%255=0∧(c.2+n*x+(n+254)%255*y)%255=0
theorem mul255 {a b:Int} (ha:0≤a∧a<255) (hb:0≤b∧b≤255):0≤a*b∧a*b≤64770:=⟨Int.mul_nonneg ha.1 hb.1,by
 have h1:=Int.mul_le_mul_of_nonneg_right (show a≤254 by omega) hb.1
 have h2:=Int.mul_le_mul_of_nonneg_left (show b≤255 by omega) (show (0:Int)≤254 by omega)
 omega⟩
def FlR (c:Int × Int) (n r:Int):Prop:=
 (∃ x y:Int,1≤x∧x≤255∧1≤y∧y≤255∧hitP c n x y∧r=256*x+y)∨(r=0∧∀ x y:Int,1≤x→x≤255→1≤y→y≤255→¬ hitP c n x y)
set_option maxHeartbeats 1000000 in
theorem fletcher_any (B:Nat) (bv:Value) (b:List Int) (w:World) (hb:Sl w B 1 bv b.length (b.map u8c)) (hn:b.length≤1099511627776) (h16:16≤b.length) (hl8:∀ x∈b,0≤x∧x<256) :
  Calls Tryz.prog 137 #[bv,.int .i64 14] w fun x w'=>∃ r,x=.returned (.tuple #[.int .u16 r,.int .i64 0])∧FlR (sumsTo b 14 b.length) (((b.length:Int)-14)%255) r∧w'=w:=by
 have C:=h'd (sums_any B bv b 14 w hb hn (by omega) hl8)
 have hr:=sumsTo_range b 14 b.length
 have hq:∃ n:Int,n=((b.length:Int)-14)%255:=⟨_,rfl⟩
 obtain ⟨n,hq⟩:=hq
 rw[←hq]
 have hnr:0≤n∧n<255:=by omega
 have hq2:((b.length:Int)-14)%255=n:=hq.symm
 have hm1:0≤(n+254)%255∧(n+254)%255<255:=by omega
 clear hq
 obtain ⟨-,A,c,rfl,hc,-,-⟩:=hb
 go_enter Tryz.func137,Tryz.ntmps137
 generalize sumsTo b 14 b.length=cc at *
 go_wp2_with (go_at_call 175;refine c'm C.out ?_;rintro x w1 ⟨rfl,rfl⟩)
 go_loopg [9,10] 255 (fun m x y wr=>∃ j:Nat,j≤255∧m=255-j∧x=.int .i64 ((j:Int)+1)∧(∀ x y:Int,1≤x→x≤j→1≤y→y≤255→¬ hitP cc n x y)∧wr=w1)
 case atStart=>exact ⟨0,by omega,rfl,rfl,fun x y h1 h2=>by omega,rfl⟩
 case round =>
  obtain ⟨j,hj,hm,rfl,hno,rfl⟩:=hrel
  have hnoh:=h'd hno
  clear hno
  by_cases hj5:j<255
  ·have hm2:=mul255 hnr (b:=(j:Int)+1) (by omega)
   go_wp2
   go_loopg [10] 255 (fun m y wr2=>∃ k:Nat,k≤255∧m=255-k∧y=.int .i64 ((k:Int)+1)∧(∀ y:Int,1≤y→y≤k→¬ hitP cc n ((j:Int)+1) y)∧wr2=wr)
   case atStart=>exact ⟨0,by omega,rfl,rfl,fun y h1 h2=>by omega,rfl⟩
   case round =>
    obtain ⟨k,hk,hmk,rfl,hnk,rfl⟩:=hrel
    have hnkh:=h'd hnk
    clear hnk
    by_cases hk5:k<255
    ·have hm3:=mul255 hm1 (b:=(k:Int)+1) (by omega)
     by_cases ha:(cc.1+((j:Int)+1)+((k:Int)+1))%255=0
     ·by_cases hb:(cc.2+n*((j:Int)+1)+(n+254)%255*((k:Int)+1))%255=0
      ·have e1:=beq_iff_eq.2 ha
       have e2:=beq_iff_eq.2 hb
       have hh:hitP cc n ((j:Int)+1) ((k:Int)+1):=⟨ha,hb⟩
       clear ha hb
       go_wp2
       refine bodyPost_ret (results_tmp2 rfl _ _ _) rfl ?_
       exact ⟨_,rfl,.inl ⟨(j:Int)+1,(k:Int)+1,by omega,by omega,by omega,by omega,hh,rfl⟩,rfl⟩
      ·have e1:=beq_iff_eq.2 ha
       have e2:=beq_eq_false_iff_ne.2 hb
       have hh:¬ hitP cc n ((j:Int)+1) ((k:Int)+1):=fun h=>hb h.2
       clear ha hb
       go_wp2
       go_roundg (255-(k+1))
       case measure=>omega
       case rel =>
        refine ⟨k+1,by omega,rfl,by simp,fun y h1 h2 => ?_,rfl⟩
        by_cases hy:y=(k:Int)+1
        ·subst hy;exact hh
        ·exact hnkh.out y h1 (by omega)
     ·have e1:=beq_eq_false_iff_ne.2 ha
      have hh:¬ hitP cc n ((j:Int)+1) ((k:Int)+1):=fun h=>ha h.1
      clear ha
      go_wp2
      go_roundg (255-(k+1))
      case measure=>omega
      case rel =>
       refine ⟨k+1,by omega,rfl,by simp,fun y h1 h2 => ?_,rfl⟩
       by_cases hy:y=(k:Int)+1
       ·subst hy;exact hh
       ·exact hnkh.out y h1 (by omega)
    ·obtain rfl:k=255:=by omega
     go_wp2
     go_roundg (255-(j+1))
     case measure=>omega
     case rel =>
      refine ⟨j+1,by omega,rfl,by simp,fun x y h1 h2 h3 h4 => ?_,rfl⟩
      by_cases hx:x=(j:Int)+1
      ·subst hx;exact hnkh.out y h3 (by omega)
      ·exact hnoh.out x y h1 (by omega) h3 h4
  ·obtain rfl:j=255:=by omega
   go_wp2
   refine bodyPost_ret (results_tmp2 rfl _ _ _) rfl ?_
   exact ⟨_,rfl,.inr ⟨rfl,fun x y h1 h2 h3 h4=>hnoh.out x y h1 (by omega) h3 h4⟩,rfl⟩
def maskR:Nat→Int
 | 0=>0
 | k+1=>bits BinOp.or IntKind.u32 (maskR k) (2 ^ (31-k)%4294967296)
theorem maskR_succ (k:Nat):maskR (k+1)=bits BinOp.or IntKind.u32 (maskR k) (2 ^ (31-k)%4294967296):=rfl
set_option maxHeartbeats 1000000 in
theorem rmask_any (n:Nat) (hn:n≤32) (w:World):Calls Tryz.prog 92 #[.int .u8 n] w fun x w'=>x=.returned (.int .u32 (maskR n))∧w'=w:=by
 have hd:decide ((n:Int)≤32)=true:=d't (by omega)
 go_enter Tryz.func92,Tryz.ntmps92
 go_wp2
 go_loopg [3,4] n (fun m v i wr=>∃ j:Nat,j≤n∧m=n-j∧v=.int .u32 (maskR j)∧i=.int .u8 (j:Int)∧wr=w)
 case atStart=>exact ⟨0,by omega,rfl,rfl,rfl,rfl⟩
 case round =>
  obtain ⟨j,hj,hm,rfl,rfl,rfl⟩:=hrel
  by_cases hjn:j<n
  ·have hd2:decide ((j:Int)<n)=true:=d't (by omega)
   have hm2:=maskR_succ j
   have hp:(2:Int) ^ (31-(j:Int)).toNat=2 ^ (31-j):=by congr 1;omega
   go_wp2
   go_roundg (n-(j+1))
   case measure=>omega
   case rel=>exact ⟨j+1,by omega,rfl,rfl,by simp,rfl⟩
  ·have hd2:decide ((j:Int)<n)=false:=d'f (by omega)
   obtain rfl:j=n:=by omega
   go_wp2
   go_ret
   exact ⟨rfl,rfl⟩
end Go.Proofs.YtcknpofnpabkiaaGreat
