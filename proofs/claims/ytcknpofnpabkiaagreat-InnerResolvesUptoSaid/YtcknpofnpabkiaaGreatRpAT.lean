/- The forms of link states. -/
import Derived.Laws.EntriesVeiled
import Derived.Test.YtcknpofnpabkiaaGreatRpAR
set_option maxRecDepth 100000
namespace Go.Proofs.YtcknpofnpabkiaaGreat
open Go.RowKit Go.Lo
theorem rread_any (B:Nat) (bv:Value) (bs:List Int) (w:World) (hx:Sl w B 1 bv bs.length (bs.map u8c)) (hB:B≤w.heap.size) (hn:bs.length≤140737488355328) :
  Calls Tryz.prog 76 #[bv] w fun x w'=>∃ b,x=.returned (.pointer (some ⟨b,0,none⟩))∧w.heap.size≤b∧Rd w' b bs 0 0∧Below w.heap.size w w':=by
 have CC:=h'd (clone8_any B bv bs w hx hB hn)
 obtain ⟨-,A,c,rfl,-⟩:=hx
 go_enter Tryz.func76,Tryz.ntmps76
 go_wp2_with (go_at_call 119;refine c'm CC.out ?_;rintro x w1 ⟨v,rfl,ho,hB1⟩;obtain ⟨-,A1,c1,rfl,-⟩:=Sl.of_own ho)
 go_ret
 have hk:=Blk.new w1 211 #[.slice A1 bs.length c1,.int .i64 0,.int .i64 0,.bool true]
 exact ⟨_,rfl,hB1.size,⟨Nat.zero_le _,_,hk,(Sl.of_own ho).alloc (n'r _) _⟩,hB1.alloc hB1.size _⟩
abbrev fnV (f:FuncId):Value:=.func (.func f) #[] #[]
def formsC:Array Value:=#[.nilFunc,.nilFunc,fnV 151,fnV 152,fnV 153,fnV 154,fnV 155,fnV 156,fnV 155,fnV 156,
 fnV 157,fnV 158,.nilFunc,.nilFunc,fnV 157,fnV 158,.nilFunc,.nilFunc,fnV 159,fnV 160,fnV 159,fnV 160,fnV 159,fnV 160]
abbrev formsZ:Array Value:=#[.nilFunc,.nilFunc,.nilFunc,.nilFunc,.nilFunc,.nilFunc,.nilFunc,.nilFunc,.nilFunc,.nilFunc,.nilFunc,.nilFunc,.nilFunc,.nilFunc,.nilFunc,.nilFunc,.nilFunc,.nilFunc,.nilFunc,.nilFunc,.nilFunc,.nilFunc,.nilFunc,.nilFunc]
theorem forms_any (w:World):Calls Tryz.prog 118 #[] w fun x w'=>x=.returned (.agg formsC)∧Below w.heap.size w w':=by
 have hk:Blk (w.alloc (.cells formsZ 208)) w.heap.size 208 formsZ:=Blk.new _ _ _
 have hB:Below w.heap.size w (w.alloc (.cells formsZ 208)):=(b'r _ _).alloc (n'r _) _
 have hset:=setRow_heap (w.alloc (.cells formsZ 208)) w.heap.size formsZ formsC 208 (0,0) hk
 go_enter Tryz.func118,Tryz.ntmps118
 go_wp2_with (refine wpList_store_row rfl 208 (.tmp 0) (.tmp 10) rfl w.heap.size formsC rfl rfl 208 formsZ hk (by kernel_rfl) rfl (by simp[formsC,Value.oneCell']) ?_)
 refine bodyPost_ret (results_cell_row rfl _ _ w.heap.size 208 formsC (0,0) _ rfl (by first | exact hset | exact hk) Tryz.underlying208 rfl (by kernel_rfl)) rfl ?_
 exact ⟨rfl,hB.trans ⟨rfl,rfl,rfl,by simp[World.setRow],fun k hk=>setRow_other _ _ k _ (by omega)⟩⟩
def thrown (k:Int):Ending:=.panicked [{ v:=.iface 82 (.int .i64 k),recovered:=false }]
theorem formOf_any (t:Nat) (ht:t=1∨t=2∨t=3∨t=4) (w:World):Calls Tryz.prog 75 #[.int .u8 t] w fun x w'=>x=.returned (.agg #[formsC.getD (2*t) undef,formsC.getD (2*t+1) undef])∧Below w.heap.size w w':=by
 rcases ht with rfl | rfl | rfl | rfl
 ·have q0:Blk (w.alloc (.cells #[.nilFunc,.nilFunc] 153)) w.heap.size 153 #[.nilFunc,.nilFunc]:=Blk.new _ _ _
  have qB:Below w.heap.size w (w.alloc (.cells #[.nilFunc,.nilFunc] 153)):=(b'r _ _).alloc (n'r _) _
  have hwz:w.heap.size<(w.alloc (.cells #[.nilFunc,.nilFunc] 153)).heap.size:=by simp
  go_enter Tryz.func75,Tryz.ntmps75
  go_upto_region 2 with (first
   | (go_at_call 118;refine c'm (forms_any _) ?_;rintro x w1 ⟨rfl,hB1⟩)
   | (refine wpList_store_row rfl 208 (.tmp 3) (.tmp 4) rfl w1.heap.size formsC rfl rfl 208 formsZ (Blk.new w1 208 formsZ) (by kernel_rfl) rfl (by simp[formsC,Value.oneCell']) ?_)
   | fail)
  have hset:Blk ((w1.alloc (.cells formsZ 208)).setRow w1.heap.size formsC) w1.heap.size 208 formsC:=setRow_heap (w1.alloc (.cells formsZ 208)) w1.heap.size formsZ formsC 208 (0,0) (Blk.new w1 208 formsZ)
  have hB2:Below w1.heap.size w1 ((w1.alloc (.cells formsZ 208)).setRow w1.heap.size formsC):=((b'r _ _).alloc (n'r _) _).trans ⟨rfl,rfl,rfl,by simp[World.setRow],fun k hk=>setRow_other _ _ k _ (by omega)⟩
  have q2:=Blk.call hB2 (Blk.call hB1 q0)
  have hBt:=below_call (below_call qB hB1 (n'r _)) hB2 (n'r _)
  have hz:=hB1.size
  clear q0 qB hB1 hB2
  generalize (w1.alloc (.cells formsZ 208)).setRow w1.heap.size formsC=w2 at hset q2 hBt ⊢
  generalize w1.heap.size=g at hset hz ⊢
  have c0:w2.cell? ⟨g,2,none⟩=some (.func (.func 151) #[] #[]):=hset.cell 2
  have c1:w2.cell? ⟨g,3,none⟩=some (.func (.func 152) #[] #[]):=hset.cell 3
  have r0:=q2.cell 0
  have r1:=q2.cell 1
  have f0:=q2.free 0
  have f1:=q2.free 1
  simp only[q'a,q'z,q's] at r0 r1
  have K:=(q2.set_ 0 (.func (.func 151) #[] #[])).set_ 1 (.func (.func 152) #[] #[])
  simp only[s'a,s'z,s's] at K
  replace K:=h'd K
  have he:∀ W,(binOp .eql 150 (.func (.func 151) #[] #[]) .nilFunc).run Tryz.prog W=.ok (.bool false) W:=fun W=>by kernel_rfl
  clear hset q2 hz hwz
  go_wp2
  refine bodyPost_ret (results_cell_row rfl _ _ w.heap.size 153 #[.func (.func 151) #[] #[],.func (.func 152) #[] #[]] (0,0) _ rfl K.out Tryz.underlying153 rfl (by kernel_rfl)) rfl ?_
  exact ⟨rfl,(hBt.setCell (p:=⟨w.heap.size,0,none⟩) (n'r _) _).setCell (p:=⟨w.heap.size,1,none⟩) (n'r _) _⟩
 ·have q0:Blk (w.alloc (.cells #[.nilFunc,.nilFunc] 153)) w.heap.size 153 #[.nilFunc,.nilFunc]:=Blk.new _ _ _
  have qB:Below w.heap.size w (w.alloc (.cells #[.nilFunc,.nilFunc] 153)):=(b'r _ _).alloc (n'r _) _
  have hwz:w.heap.size<(w.alloc (.cells #[.nilFunc,.nilFunc] 153)).heap.size:=by simp
  go_enter Tryz.func75,Tryz.ntmps75
  go_upto_region 2 with (first
   | (go_at_call 118;refine c'm (forms_any _) ?_;rintro x w1 ⟨rfl,hB1⟩)
   | (refine wpList_store_row rfl 208 (.tmp 3) (.tmp 4) rfl w1.heap.size formsC rfl rfl 208 formsZ (Blk.new w1 208 formsZ) (by kernel_rfl) rfl (by simp[formsC,Value.oneCell']) ?_)
   | fail)
  have hset:Blk ((w1.alloc (.cells formsZ 208)).setRow w1.heap.size formsC) w1.heap.size 208 formsC:=setRow_heap (w1.alloc (.cells formsZ 208)) w1.heap.size formsZ formsC 208 (0,0) (Blk.new w1 208 formsZ)
  have hB2:Below w1.heap.size w1 ((w1.alloc (.cells formsZ 208)).setRow w1.heap.size formsC):=((b'r _ _).alloc (n'r _) _).trans ⟨rfl,rfl,rfl,by simp[World.setRow],fun k hk=>setRow_other _ _ k _ (by omega)⟩
  have q2:=Blk.call hB2 (Blk.call hB1 q0)
  have hBt:=below_call (below_call qB hB1 (n'r _)) hB2 (n'r _)
  have hz:=hB1.size
  clear q0 qB hB1 hB2
  generalize (w1.alloc (.cells formsZ 208)).setRow w1.heap.size formsC=w2 at hset q2 hBt ⊢
  generalize w1.heap.size=g at hset hz ⊢
  have c0:w2.cell? ⟨g,4,none⟩=some (.func (.func 153) #[] #[]):=hset.cell 4
  have c1:w2.cell? ⟨g,5,none⟩=some (.func (.func 154) #[] #[]):=hset.cell 5
  have r0:=q2.cell 0
  have r1:=q2.cell 1
  have f0:=q2.free 0
  have f1:=q2.free 1
  simp only[q'a,q'z,q's] at r0 r1
  have K:=(q2.set_ 0 (.func (.func 153) #[] #[])).set_ 1 (.func (.func 154) #[] #[])
  simp only[s'a,s'z,s's] at K
  replace K:=h'd K
  have he:∀ W,(binOp .eql 150 (.func (.func 153) #[] #[]) .nilFunc).run Tryz.prog W=.ok (.bool false) W:=fun W=>by kernel_rfl
  clear hset q2 hz hwz
  go_wp2
  refine bodyPost_ret (results_cell_row rfl _ _ w.heap.size 153 #[.func (.func 153) #[] #[],.func (.func 154) #[] #[]] (0,0) _ rfl K.out Tryz.underlying153 rfl (by kernel_rfl)) rfl ?_
  exact ⟨rfl,(hBt.setCell (p:=⟨w.heap.size,0,none⟩) (n'r _) _).setCell (p:=⟨w.heap.size,1,none⟩) (n'r _) _⟩
 ·have q0:Blk (w.alloc (.cells #[.nilFunc,.nilFunc] 153)) w.heap.size 153 #[.nilFunc,.nilFunc]:=Blk.new _ _ _
  have qB:Below w.heap.size w (w.alloc (.cells #[.nilFunc,.nilFunc] 153)):=(b'r _ _).alloc (n'r _) _
  have hwz:w.heap.size<(w.alloc (.cells #[.nilFunc,.nilFunc] 153)).heap.size:=by simp
  go_enter Tryz.func75,Tryz.ntmps75
  go_upto_region 2 with (first
   | (go_at_call 118;refine c'm (forms_any _) ?_;rintro x w1 ⟨rfl,hB1⟩)
   | (refine wpList_store_row rfl 208 (.tmp 3) (.tmp 4) rfl w1.heap.size formsC rfl rfl 208 formsZ (Blk.new w1 208 formsZ) (by kernel_rfl) rfl (by simp[formsC,Value.oneCell']) ?_)
   | fail)
  have hset:Blk ((w1.alloc (.cells formsZ 208)).setRow w1.heap.size formsC) w1.heap.size 208 formsC:=setRow_heap (w1.alloc (.cells formsZ 208)) w1.heap.size formsZ formsC 208 (0,0) (Blk.new w1 208 formsZ)
  have hB2:Below w1.heap.size w1 ((w1.alloc (.cells formsZ 208)).setRow w1.heap.size formsC):=((b'r _ _).alloc (n'r _) _).trans ⟨rfl,rfl,rfl,by simp[World.setRow],fun k hk=>setRow_other _ _ k _ (by omega)⟩
  have q2:=Blk.call hB2 (Blk.call hB1 q0)
  have hBt:=below_call (below_call qB hB1 (n'r _)) hB2 (n'r _)
  have hz:=hB1.size
  clear q0 qB hB1 hB2
  generalize (w1.alloc (.cells formsZ 208)).setRow w1.heap.size formsC=w2 at hset q2 hBt ⊢
  generalize w1.heap.size=g at hset hz ⊢
  have c0:w2.cell? ⟨g,6,none⟩=some (.func (.func 155) #[] #[]):=hset.cell 6
  have c1:w2.cell? ⟨g,7,none⟩=some (.func (.func 156) #[] #[]):=hset.cell 7
  have r0:=q2.cell 0
  have r1:=q2.cell 1
  have f0:=q2.free 0
  have f1:=q2.free 1
  simp only[q'a,q'z,q's] at r0 r1
  have K:=(q2.set_ 0 (.func (.func 155) #[] #[])).set_ 1 (.func (.func 156) #[] #[])
  simp only[s'a,s'z,s's] at K
  replace K:=h'd K
  have he:∀ W,(binOp .eql 150 (.func (.func 155) #[] #[]) .nilFunc).run Tryz.prog W=.ok (.bool false) W:=fun W=>by kernel_rfl
  clear hset q2 hz hwz
  go_wp2
  refine bodyPost_ret (results_cell_row rfl _ _ w.heap.size 153 #[.func (.func 155) #[] #[],.func (.func 156) #[] #[]] (0,0) _ rfl K.out Tryz.underlying153 rfl (by kernel_rfl)) rfl ?_
  exact ⟨rfl,(hBt.setCell (p:=⟨w.heap.size,0,none⟩) (n'r _) _).setCell (p:=⟨w.heap.size,1,none⟩) (n'r _) _⟩
 ·have q0:Blk (w.alloc (.cells #[.nilFunc,.nilFunc] 153)) w.heap.size 153 #[.nilFunc,.nilFunc]:=Blk.new _ _ _
  have qB:Below w.heap.size w (w.alloc (.cells #[.nilFunc,.nilFunc] 153)):=(b'r _ _).alloc (n'r _) _
  have hwz:w.heap.size<(w.alloc (.cells #[.nilFunc,.nilFunc] 153)).heap.size:=by simp
  go_enter Tryz.func75,Tryz.ntmps75
  go_upto_region 2 with (first
   | (go_at_call 118;refine c'm (forms_any _) ?_;rintro x w1 ⟨rfl,hB1⟩)
   | (refine wpList_store_row rfl 208 (.tmp 3) (.tmp 4) rfl w1.heap.size formsC rfl rfl 208 formsZ (Blk.new w1 208 formsZ) (by kernel_rfl) rfl (by simp[formsC,Value.oneCell']) ?_)
   | fail)
  have hset:Blk ((w1.alloc (.cells formsZ 208)).setRow w1.heap.size formsC) w1.heap.size 208 formsC:=setRow_heap (w1.alloc (.cells formsZ 208)) w1.heap.size formsZ formsC 208 (0,0) (Blk.new w1 208 formsZ)
  have hB2:Below w1.heap.size w1 ((w1.alloc (.cells formsZ 208)).setRow w1.heap.size formsC):=((b'r _ _).alloc (n'r _) _).trans ⟨rfl,rfl,rfl,by simp[World.setRow],fun k hk=>setRow_other _ _ k _ (by omega)⟩
  have q2:=Blk.call hB2 (Blk.call hB1 q0)
  have hBt:=below_call (below_call qB hB1 (n'r _)) hB2 (n'r _)
  have hz:=hB1.size
  clear q0 qB hB1 hB2
  generalize (w1.alloc (.cells formsZ 208)).setRow w1.heap.size formsC=w2 at hset q2 hBt ⊢
  generalize w1.heap.size=g at hset hz ⊢
  have c0:w2.cell? ⟨g,8,none⟩=some (.func (.func 155) #[] #[]):=hset.cell 8
  have c1:w2.cell? ⟨g,9,none⟩=some (.func (.func 156) #[] #[]):=hset.cell 9
  have r0:=q2.cell 0
  have r1:=q2.cell 1
  have f0:=q2.free 0
  have f1:=q2.free 1
  simp only[q'a,q'z,q's] at r0 r1
  have K:=(q2.set_ 0 (.func (.func 155) #[] #[])).set_ 1 (.func (.func 156) #[] #[])
  simp only[s'a,s'z,s's] at K
  replace K:=h'd K
  have he:∀ W,(binOp .eql 150 (.func (.func 155) #[] #[]) .nilFunc).run Tryz.prog W=.ok (.bool false) W:=fun W=>by kernel_rfl
  clear hset q2 hz hwz
  go_wp2
  refine bodyPost_ret (results_cell_row rfl _ _ w.heap.size 153 #[.func (.func 155) #[] #[],.func (.func 156) #[] #[]] (0,0) _ rfl K.out Tryz.underlying153 rfl (by kernel_rfl)) rfl ?_
  exact ⟨rfl,(hBt.setCell (p:=⟨w.heap.size,0,none⟩) (n'r _) _).setCell (p:=⟨w.heap.size,1,none⟩) (n'r _) _⟩
abbrev sumC (m k:Int):Array Value:=#[.int .u8 0,.slice none 0 0,.int .u32 m,.slice none 0 0,.int .u32 k,.bool false,.int .u32 0,.int .u32 0,.slice none 0 0]
theorem Rd.below {w w':World} {b:Nat} {bs:List Int} {a:Nat} {e:Int} {B:Nat} (h:Rd w b bs a e) (hb:Below B w w') (hB:b<B):Rd w' b bs a e:=by
 obtain ⟨h1,v,h2,h3⟩:=h
 exact ⟨h1,v,h2.below hb hB,h3.below (hb.mono (Nat.le_of_lt hB))⟩
theorem Rd.lt {w:World} {b:Nat} {bs:List Int} {a:Nat} {e:Int} (h:Rd w b bs a e):b<w.heap.size:=h.2.elim fun _ h=>h.1.lt
set_option maxHeartbeats 1000000 in
theorem readSummary_any (b:Nat) (bs:List Int) (a:Nat) (e:Int) (w:World) (h:Rd w b bs a e) (hn:bs.length≤140737488355328) (hl:∀ x∈bs,0≤x∧x<256):Calls Tryz.prog 156 #[.pointer (some ⟨b,0,none⟩)] w fun x w' =>
  x=.returned (.agg (sumC (numB (nextB bs a e 4)) (numB (nextB bs (nextS bs a e 4).1 (nextS bs a e 4).2 4))))∧Rd w' b bs (nextS bs (nextS bs a e 4).1 (nextS bs a e 4).2 4).1 (nextS bs (nextS bs a e 4).1 (nextS bs a e 4).2 4).2∧Below b w w':=by
 have hlt:=h.lt
 have k0:Blk (w.alloc (.cells (sumC 0 0) 81)) w.heap.size 81 (sumC 0 0):=Blk.new _ _ _
 have kB:Below w.heap.size w (w.alloc (.cells (sumC 0 0) 81)):=(b'r _ _).alloc (n'r _) _
 have hR:=h.below kB hlt
 have C1:=h'd (rnum_any b bs a e 4 (by omega) (n'r _) _ hR hn hl)
 clear h hR
 generalize hm:numB (nextB bs a e 4)=m at C1
 generalize hs:nextS bs a e 4=s at C1 ⊢
 obtain ⟨a1,e1⟩:=s
 have C2:=h'd (fun W h=>rnum_any b bs a1 e1 4 (by omega) (n'r _) W h hn hl)
 generalize hm2:numB (nextB bs a1 e1 4)=m2 at C2
 generalize hs2:nextS bs a1 e1 4=s2 at C2
 obtain ⟨a2,e2⟩:=s2
 dsimp only at C1 C2 ⊢
 go_enter Tryz.func156,Tryz.ntmps156
 go_wp2_with (first
  | (have _q:=hR2;go_at_call 185;refine c'm (C2.out _ hR2) ?_;rintro x w3 ⟨rfl,hR3,hP3⟩;have k3:=Blk.put hP3 (by omega) k2)
  | (go_at_call 185;refine c'm C1.out ?_;rintro x w2 ⟨rfl,hR2,hP2⟩;have k2:=Blk.put hP2 (by omega) k0)
  | (refine wpList_store_row rfl 81 (.tmp 2) (.tmp 7) rfl w.heap.size (sumC m m2) rfl rfl 81 (sumC 0 0) k3 (by kernel_rfl) rfl (by simp[Value.oneCell']) ?_)
  | fail)
 have hset:Blk (w3.setRow w.heap.size (sumC m m2)) w.heap.size 81 (sumC m m2):=setRow_heap w3 w.heap.size (sumC 0 0) (sumC m m2) 81 (0,0) k3
 have hz3:=k3.lt
 have hB3:Below w.heap.size w3 (w3.setRow w.heap.size (sumC m m2)):=⟨rfl,rfl,rfl,by simp[World.setRow],fun k hk=>setRow_other _ _ k _ (by omega)⟩
 refine bodyPost_ret (results_cell_row rfl _ _ w.heap.size 81 (sumC m m2) (0,0) _ rfl hset Tryz.underlying81 rfl (by kernel_rfl)) rfl ?_
 exact ⟨rfl,hR3.below hB3 hlt,((hP3.below (hP2.below (kB.mono (Nat.le_of_lt hlt)) (n'r _)) (n'r _)).trans (hB3.mono (Nat.le_of_lt hlt)))⟩
set_option maxHeartbeats 1000000 in
theorem writeSummary_any (K:Nat→Prop) (b:Nat) (most:Int) (bs:List Int) (m k:Int) (hm0:0≤m∧m<4294967296) (hk0:0≤k∧k<4294967296) (w:World) (hW:Wr K w b most bs 0) (hK:∀ k,K k→k<w.heap.size) (hm:most≤140737488355320) (hr:(bs.length:Int)+8≤most) :
  Calls Tryz.prog 155 #[.agg #[.pointer (some ⟨b,0,none⟩)],.agg (sumC m k)] w fun x w'=>x=.returned (.tuple #[])∧Keep K w w'∧Wr K w' b most (bs++(beN m 4++beN k 4)) 0:=by
 have k0:Blk ((w.alloc (.cells #[.pointer (some ⟨b,0,none⟩)] 163)).alloc (.cells (sumC m k) 81)) w.heap.size 163 #[.pointer (some ⟨b,0,none⟩)]:=(Blk.new _ _ _).alloc _
 have k1:Blk ((w.alloc (.cells #[.pointer (some ⟨b,0,none⟩)] 163)).alloc (.cells (sumC m k) 81)) (w.heap.size+1) 81 (sumC m k):=heap_alloc2_new w _ _
 have kz:(((w.alloc (.cells #[.pointer (some ⟨b,0,none⟩)] 163)).alloc (.cells (sumC m k) 81)):World).heap.size=w.heap.size+1+1:=by simp
 have kK:Keep K w ((w.alloc (.cells #[.pointer (some ⟨b,0,none⟩)] 163)).alloc (.cells (sumC m k) 81)):=((Keep.refl _ _).alloc hK _).alloc (fun k hk=>by have:=hK k hk;simp;omega) _
 have kW:=(hW.add (.cells #[.pointer (some ⟨b,0,none⟩)] 163)).add (.cells (sumC m k) 81)
 obtain ⟨K2,hK2⟩:∃ K2:Nat→Prop,K2=fun k=>(K k∨k=w.heap.size)∨k=(w.alloc (.cells #[.pointer (some ⟨b,0,none⟩)] 163)).heap.size:=⟨_,rfl⟩
 have e0:K2 w.heap.size:=by rw[hK2];exact .inl (.inr rfl)
 have e1:K2 (w.heap.size+1):=by rw[hK2];exact .inr (by simp)
 have e2:∀ k,K k→K2 k:=fun k hk=>by rw[hK2];exact .inl (.inl hk)
 have kL:∀ j,K2 j→j<(((w.alloc (.cells #[.pointer (some ⟨b,0,none⟩)] 163)).alloc (.cells (sumC m k) 81)):World).heap.size:=fun j hj=>by
  rw[kz]
  rw[hK2] at hj
  rcases hj with (h | h) | h
  ·have:=hK j h;omega
  ·omega
  ·simp at h;omega
 rw[←hK2] at kW
 clear hK2
 go_enter Tryz.func155,Tryz.ntmps155
 go_upto_region 1 with fail
 generalize (w.alloc (.cells #[.pointer (some ⟨b,0,none⟩)] 163)).alloc (.cells (sumC m k) 81)=w1 at k0 k1 kz kK kW kL ⊢
 have p0:∀ W,Keep K2 w1 W→W.cell? ⟨w.heap.size,0,none⟩=some (.pointer (some ⟨b,0,none⟩)):=fun W h=>(h.cell (p:=⟨w.heap.size,0,none⟩) e0).trans (k0.cell 0)
 have q2:∀ W,Keep K2 w1 W→W.cell? ⟨w.heap.size+1,2,none⟩=some (.int .u32 m):=fun W h=>(h.cell (p:=⟨w.heap.size+1,2,none⟩) e1).trans (k1.cell 2)
 have q4:∀ W,Keep K2 w1 W→W.cell? ⟨w.heap.size+1,4,none⟩=some (.int .u32 k):=fun W h=>(h.cell (p:=⟨w.heap.size+1,4,none⟩) e1).trans (k1.cell 4)
 have HW0:Wr K2 w1.drew b most bs 0:=kW
 have HL:=h'd kL
 clear k0 k1 kW hW hK kL
 replace kz:=h'd kz
 replace e0:=h'd e0
 replace e1:=h'd e1
 go_region_held3 (fun W=>Keep K2 w1 W) (first | assumption | exact (Keep.refl _ _).drew | fail)
  (first
   | (have _q:=HSP;go_at_call 184;have C:=num4 K2 b most _ k hk0 _ HWP (fun k hk=>Nat.lt_of_lt_of_le (HL.out k hk) HSP.size) hm (by rw[l'a,beN_len _ _ (n'r 4)];omega);with_reducible refine c'm C ?_;clear C;rintro x w3 ⟨rfl,k1,k2⟩;have HSQ:=HSP.trans k1;have HWQ:=k2;clear k1 k2)
   | (go_at_call 184;have C:=num4 K2 b most bs m hm0 _ HW0 HL.out hm (by omega);with_reducible refine c'm C ?_;clear C;rintro x w2 ⟨rfl,k1,k2⟩;have HSP:Keep K2 w1 w2:=(Keep.refl _ _).drew.trans k1;have HWP:=k2;clear k1 k2)
   | fail)
 all_goals
  go_end0
  refine ⟨rfl,kK.trans (HSQ.mono e2),?_⟩
  have H:=HWQ.less e2
  simp only[List.append_assoc] at H
  exact H
set_option maxRecDepth 100000
abbrev outC (m k:Int) (t2:Bool) (fw tg:Int):Array Value:=#[.int .u8 0,.slice none 0 0,.int .u32 m,.slice none 0 0,.int .u32 k,.bool t2,.int .u32 fw,.int .u32 tg,.slice none 0 0]
theorem nextS_in (bs:List Int) (a n:Nat) (h:a+n≤bs.length):nextS bs a 0 n=(a+n,0):=by
 unfold nextS
 rw[if_neg (by simp),if_neg (by omega)]
theorem nextB_in (bs:List Int) (a n:Nat) (h:a+n≤bs.length):nextB bs a 0 n=(bs.drop a).take n:=by
 unfold nextB
 rw[if_neg (by simp),if_neg (by omega)]
theorem Rd.far {w:World} {b:Nat} {bs:List Int} {a:Nat} {e:Int} (h:Rd w b bs a e) {p:Addr} (hp:b<p.block) (u:Value):Rd (w.setCell p u) b bs a e:=by
 exact h.below ((b'r (b+1) w).setCell (p:=p) hp u) (Nat.lt_succ_self b)
theorem formOf57 (t:Nat) (ht:t=5∨t=7) (w:World):Calls Tryz.prog 75 #[.int .u8 t] w fun x w'=>x=.returned (.agg #[.func (.func 157) #[] #[],.func (.func 158) #[] #[]])∧Below w.heap.size w w':=by
 rcases ht with rfl | rfl
 ·have q0:Blk (w.alloc (.cells #[.nilFunc,.nilFunc] 153)) w.heap.size 153 #[.nilFunc,.nilFunc]:=Blk.new _ _ _
  have qB:Below w.heap.size w (w.alloc (.cells #[.nilFunc,.nilFunc] 153)):=(b'r _ _).alloc (n'r _) _
  have hwz:w.heap.size<(w.alloc (.cells #[.nilFunc,.nilFunc] 153)).heap.size:=by simp
  go_enter Tryz.func75,Tryz.ntmps75
  go_upto_region 2 with (first
   | (go_at_call 118;refine c'm (forms_any _) ?_;rintro x w1 ⟨rfl,hB1⟩)
   | (refine wpList_store_row rfl 208 (.tmp 3) (.tmp 4) rfl w1.heap.size formsC rfl rfl 208 formsZ (Blk.new w1 208 formsZ) (by kernel_rfl) rfl (by simp[formsC,Value.oneCell']) ?_)
   | fail)
  have hset:Blk ((w1.alloc (.cells formsZ 208)).setRow w1.heap.size formsC) w1.heap.size 208 formsC:=setRow_heap (w1.alloc (.cells formsZ 208)) w1.heap.size formsZ formsC 208 (0,0) (Blk.new w1 208 formsZ)
  have hB2:Below w1.heap.size w1 ((w1.alloc (.cells formsZ 208)).setRow w1.heap.size formsC):=((b'r _ _).alloc (n'r _) _).trans ⟨rfl,rfl,rfl,by simp[World.setRow],fun k hk=>setRow_other _ _ k _ (by omega)⟩
  have q2:=Blk.call hB2 (Blk.call hB1 q0)
  have hBt:=below_call (below_call qB hB1 (n'r _)) hB2 (n'r _)
  have hz:=hB1.size
  clear q0 qB hB1 hB2
  generalize (w1.alloc (.cells formsZ 208)).setRow w1.heap.size formsC=w2 at hset q2 hBt ⊢
  generalize w1.heap.size=g at hset hz ⊢
  have c0:w2.cell? ⟨g,10,none⟩=some (.func (.func 157) #[] #[]):=hset.cell 10
  have c1:w2.cell? ⟨g,11,none⟩=some (.func (.func 158) #[] #[]):=hset.cell 11
  have r0:=q2.cell 0
  have r1:=q2.cell 1
  have f0:=q2.free 0
  have f1:=q2.free 1
  simp only[q'a,q'z,q's] at r0 r1
  have K:=(q2.set_ 0 (.func (.func 157) #[] #[])).set_ 1 (.func (.func 158) #[] #[])
  simp only[s'a,s'z,s's] at K
  replace K:=h'd K
  have he:∀ W,(binOp .eql 150 (.func (.func 157) #[] #[]) .nilFunc).run Tryz.prog W=.ok (.bool false) W:=fun W=>by kernel_rfl
  clear hset q2 hz hwz
  go_wp2
  refine bodyPost_ret (results_cell_row rfl _ _ w.heap.size 153 #[.func (.func 157) #[] #[],.func (.func 158) #[] #[]] (0,0) _ rfl K.out Tryz.underlying153 rfl (by kernel_rfl)) rfl ?_
  exact ⟨rfl,(hBt.setCell (p:=⟨w.heap.size,0,none⟩) (n'r _) _).setCell (p:=⟨w.heap.size,1,none⟩) (n'r _) _⟩
 ·have q0:Blk (w.alloc (.cells #[.nilFunc,.nilFunc] 153)) w.heap.size 153 #[.nilFunc,.nilFunc]:=Blk.new _ _ _
  have qB:Below w.heap.size w (w.alloc (.cells #[.nilFunc,.nilFunc] 153)):=(b'r _ _).alloc (n'r _) _
  have hwz:w.heap.size<(w.alloc (.cells #[.nilFunc,.nilFunc] 153)).heap.size:=by simp
  go_enter Tryz.func75,Tryz.ntmps75
  go_upto_region 2 with (first
   | (go_at_call 118;refine c'm (forms_any _) ?_;rintro x w1 ⟨rfl,hB1⟩)
   | (refine wpList_store_row rfl 208 (.tmp 3) (.tmp 4) rfl w1.heap.size formsC rfl rfl 208 formsZ (Blk.new w1 208 formsZ) (by kernel_rfl) rfl (by simp[formsC,Value.oneCell']) ?_)
   | fail)
  have hset:Blk ((w1.alloc (.cells formsZ 208)).setRow w1.heap.size formsC) w1.heap.size 208 formsC:=setRow_heap (w1.alloc (.cells formsZ 208)) w1.heap.size formsZ formsC 208 (0,0) (Blk.new w1 208 formsZ)
  have hB2:Below w1.heap.size w1 ((w1.alloc (.cells formsZ 208)).setRow w1.heap.size formsC):=((b'r _ _).alloc (n'r _) _).trans ⟨rfl,rfl,rfl,by simp[World.setRow],fun k hk=>setRow_other _ _ k _ (by omega)⟩
  have q2:=Blk.call hB2 (Blk.call hB1 q0)
  have hBt:=below_call (below_call qB hB1 (n'r _)) hB2 (n'r _)
  have hz:=hB1.size
  clear q0 qB hB1 hB2
  generalize (w1.alloc (.cells formsZ 208)).setRow w1.heap.size formsC=w2 at hset q2 hBt ⊢
  generalize w1.heap.size=g at hset hz ⊢
  have c0:w2.cell? ⟨g,14,none⟩=some (.func (.func 157) #[] #[]):=hset.cell 14
  have c1:w2.cell? ⟨g,15,none⟩=some (.func (.func 158) #[] #[]):=hset.cell 15
  have r0:=q2.cell 0
  have r1:=q2.cell 1
  have f0:=q2.free 0
  have f1:=q2.free 1
  simp only[q'a,q'z,q's] at r0 r1
  have K:=(q2.set_ 0 (.func (.func 157) #[] #[])).set_ 1 (.func (.func 158) #[] #[])
  simp only[s'a,s'z,s's] at K
  replace K:=h'd K
  have he:∀ W,(binOp .eql 150 (.func (.func 157) #[] #[]) .nilFunc).run Tryz.prog W=.ok (.bool false) W:=fun W=>by kernel_rfl
  clear hset q2 hz hwz
  go_wp2
  refine bodyPost_ret (results_cell_row rfl _ _ w.heap.size 153 #[.func (.func 157) #[] #[],.func (.func 158) #[] #[]] (0,0) _ rfl K.out Tryz.underlying153 rfl (by kernel_rfl)) rfl ?_
  exact ⟨rfl,(hBt.setCell (p:=⟨w.heap.size,0,none⟩) (n'r _) _).setCell (p:=⟨w.heap.size,1,none⟩) (n'r _) _⟩
end Go.Proofs.YtcknpofnpabkiaaGreat
