/- What a link state's bytes say, at every type, in plain words: what is written, what is read, what may be; the program's and the document's reading are one. No theorem of the program stands here. -/
import Derived.Test.YtcknpofnpabkiaaGreatRpAV
import Derived.Test.YtcknpofnpabkiaaGreatRpAT
namespace Go.Proofs.YtcknpofnpabkiaaGreat
open Go.RowKit Go.Lo
structure LinkV where
 id:Int
 data:Int
 type:Int
 cost:Int
abbrev linkC (x:LinkV):List Value:=[.int .u32 x.id,.int .u32 x.data,.int .u8 x.type,.int .u16 x.cost]
def u32c (x:Int):Value:=.int .u32 x
structure BodyV where
 flags:Int
 links:List LinkV
 mask:Int
 routers:List Int
 metric:Int
 t2:Bool
 fw:Int
 tg:Int
 data:List Int
def zeroB:BodyV:=⟨0,[],0,[],0,false,0,0,[]⟩
def knownB (t:Nat):Bool:=(decide (1≤t) && decide (t≤5)) || (t==7 || (decide (9≤t) && decide (t≤11)))
theorem known_cases {t:Nat} (h:knownB t=true):t=1∨t=2∨t=3∨t=4∨t=5∨t=7∨t=9∨t=10∨t=11:=by
 simp[knownB] at h
 omega
def linkB (x:LinkV):List Int:=beN x.id 4++(beN x.data 4++([x.type,0]++beN x.cost 2))
theorem linkB_len (x:LinkV):(linkB x).length=12:=by simp[linkB,beN_len]
theorem links_len (l:List LinkV):(l.flatMap linkB).length=12*l.length:=by
 induction l with
 | nil=>rfl
 | cons x l ih=>rw[List.flatMap_cons,l'a,linkB_len,ih,List.length_cons];omega
theorem words_len (l:List Int):(l.flatMap fun x=>beN x 4).length=4*l.length:=by
 induction l with
 | nil=>rfl
 | cons x l ih=>rw[List.flatMap_cons,l'a,beN_len _ _ (n'r 4),ih,List.length_cons];omega
def layP (t:Nat) (b:BodyV):List Int:=
 if t=1 then [b.flags,0]++(beN b.links.length 2++b.links.flatMap linkB)
 else if t=2 then beN b.mask 4++b.routers.flatMap (fun x=>beN x 4)
 else if t=3∨t=4 then beN b.mask 4++beN b.metric 4
 else if t=5∨t=7 then beN b.mask 4++([if b.t2 then 128 else 0]++(beN b.metric 3++(beN b.fw 4++beN b.tg 4)))
 else b.data
def linkOf (l:List Int):LinkV:=⟨numB (l.take 4),numB ((l.drop 4).take 4),numB ((l.drop 8).take 1),numB ((l.drop 10).take 2)⟩
def linksOf (l:List Int) (n:Nat):List LinkV:=(List.range n).map fun k=>linkOf (l.drop (4+12*k))
def wordsOf (l:List Int) (n:Nat):List Int:=(List.range n).map fun k=>numB ((l.drop (4+4*k)).take 4)
theorem linksOf_len (l:List Int) (n:Nat):(linksOf l n).length=n:=by simp[linksOf]
theorem wordsOf_len (l:List Int) (n:Nat):(wordsOf l n).length=n:=by simp[wordsOf]
theorem linksOf_succ (l:List Int) (n:Nat):linksOf l (n+1)=linksOf l n++[linkOf (l.drop (4+12*n))]:=by simp[linksOf,List.range_succ]
theorem wordsOf_succ (l:List Int) (n:Nat):wordsOf l (n+1)=wordsOf l n++[numB ((l.drop (4+4*n)).take 4)]:=by simp[wordsOf,List.range_succ]
def readP (t:Nat) (l:List Int):BodyV:=
 if t=1 then { zeroB with flags:=numB (l.take 1),links:=linksOf l ((l.length-4) / 12) }
 else if t=2 then { zeroB with mask:=numB (l.take 4),routers:=wordsOf l ((l.length-4) / 4) }
 else if t=3∨t=4 then { zeroB with mask:=numB (l.take 4),metric:=numB ((l.drop 4).take 4) }
 else if t=5∨t=7 then { zeroB with mask:=numB (l.take 4),t2:=numB ((l.drop 4).take 1)==128,metric:=numB ((l.drop 5).take 3),fw:=numB ((l.drop 8).take 4),tg:=numB ((l.drop 12).take 4) }
 else { zeroB with data:=l }
def fitQ (t:Nat) (l:List Int):Bool:=
 if t=1 then decide (4≤l.length∧(l.length:Int)=4+12*numB ((l.drop 2).take 2))
 else if t=2 then decide (4≤l.length∧l.length%4=0)
 else if t=3∨t=4 then decide (l.length=8)
 else if t=5∨t=7 then decide (l.length=16)
 else true
def mayP (t:Nat) (b:BodyV):Bool:=
 (!(t==4) || b.mask==0) && (bitsB b.mask && (!decide (16777215<b.metric) && (b.data.length%4==0 && ((!(t==2) || !b.routers.isEmpty) && b.links.all fun x=>decide (1≤x.type) && decide (x.type≤4)))))
instance:DecidableEq (List Int):=inferInstance
def decQ (t:Nat) (l:List Int):BodyV × Int:=
 if knownB t=false then (zeroB,21) else if fitQ t l=false then (zeroB,28) else if mayP t (readP t l)=false then (zeroB,28) else if layP t (readP t l)≠l then (zeroB,28) else (readP t l,0)
theorem or_byte (a c:Int) (ha:0≤a∧a<16777216) (hc:0≤c∧c<256):bits BinOp.or IntKind.u32 (a*256%4294967296) c=256*a+c:=by
 obtain ⟨m,rfl⟩:=Int.eq_ofNat_of_zero_le ha.1
 obtain ⟨d,rfl⟩:=Int.eq_ofNat_of_zero_le hc.1
 have hm:m<16777216:=by omega
 have hd:d<256:=by omega
 have e:((m:Int)*256%4294967296)=((2 ^ 8*m:Nat):Int):=by omega
 rw[e]
 have h1:(BitVec.ofInt 32 ((2 ^ 8*m:Nat):Int)).toNat=2 ^ 8*m:=by
  rw[BitVec.ofInt_natCast,BitVec.toNat_ofNat];exact Nat.mod_eq_of_lt (by omega)
 have h2:(BitVec.ofInt 32 ((d:Nat):Int)).toNat=d:=by
  rw[BitVec.ofInt_natCast,BitVec.toNat_ofNat];exact Nat.mod_eq_of_lt (by omega)
 show IntKind.u32.wrap ((BitVec.ofInt 32 ((2 ^ 8*m:Nat):Int) ||| BitVec.ofInt 32 ((d:Nat):Int)).toNat:Int)=_
 rw[BitVec.toNat_or,h1,h2,←Nat.two_pow_add_eq_or_of_lt (i:=8) (by omega),IntKind.wrap_u32]
 omega
def numL (l:List Int):Int:=l.foldl (fun v c=>256*v+c) 0
theorem numL_snoc (l:List Int) (x:Int):numL (l++[x])=256*numL l+x:=by simp[numL]
theorem numL_range:∀ (k:Nat) (l:List Int),l.length=k→(∀ x∈l,0≤x∧x<256)→0≤numL l∧numL l<256 ^ k:=by
 intro k
 induction k with
 | zero =>
  intro l hl _
  rw[List.length_eq_zero_iff.1 hl]
  simp[numL]
 | succ k ih =>
  intro l hl h8
  rcases List.eq_nil_or_concat l with rfl | ⟨l',x,rfl⟩
  ·simp at hl
  ·rw[List.concat_eq_append] at hl h8 ⊢
   rw[numL_snoc]
   have h1:=ih l' (by simpa using hl) fun y hy=>h8 y (by simp[hy])
   have h2:=h8 x (by simp)
   rw[Int.pow_succ]
   generalize (256:Int) ^ k=p at h1 ⊢
   omega
theorem numB_eq (l:List Int) (h4:l.length≤4) (h8:∀ x∈l,0≤x∧x<256):numB l=numL l:=by
 obtain ⟨k,hk⟩:∃ k,l.length=k:=⟨_,rfl⟩
 induction k generalizing l with
 | zero=>rw[List.length_eq_zero_iff.1 hk];rfl
 | succ k ih =>
  rcases List.eq_nil_or_concat l with rfl | ⟨l',x,rfl⟩
  ·rfl
  ·rw[List.concat_eq_append] at *
   have h1:∀ y∈l',0≤y∧y<256:=fun y hy=>h8 y (by simp[hy])
   have hl':l'.length≤3:=by simp at h4;omega
   rw[numB_snoc,numL_snoc,ih l' (by omega) h1 (by simpa using hk)]
   have h2:=numL_range _ l' rfl h1
   have h3:=h8 x (by simp)
   have h5:(256:Int) ^ l'.length≤256 ^ 3:=by
    have h7:=Nat.pow_le_pow_right (n:=256) (by omega) hl'
    have h8:(((256:Nat) ^ l'.length:Nat):Int)≤((256 ^ 3:Nat):Int):=Int.ofNat_le.2 h7
    rw[Int.natCast_pow,Int.natCast_pow] at h8
    exact h8
   have h6:(256:Int) ^ 3=16777216:=by decide
   exact or_byte _ _ ⟨h2.1,by omega⟩ h3
theorem lay_read_len (t:Nat) (l:List Int):(layP t (readP t l)).length=if t=1 then 4+12*((l.length-4) / 12) else if t=2 then 4+4*((l.length-4) / 4) else if t=3∨t=4 then 8 else if t=5∨t=7 then 16 else l.length:=by
 unfold layP
 split
 ·next h =>
  subst h
  rw[l'a,l'a,links_len,beN_len _ _ (by omega)]
  show 2+(2+12*(linksOf l ((l.length-4) / 12)).length)=_
  rw[linksOf_len]
  omega
 split
 ·next h =>
  subst h
  rw[l'a,words_len,beN_len _ _ (by omega)]
  show 4+4*(wordsOf l ((l.length-4) / 4)).length=_
  rw[wordsOf_len]
 split
 ·simp[beN_len]
 split
 ·simp[beN_len]
 ·simp[readP, *]
set_option maxRecDepth 100000
theorem formOfO (t:Nat) (ht:t=9∨t=10∨t=11) (w:World):Calls Tryz.prog 75 #[.int .u8 t] w fun x w'=>x=.returned (.agg #[.func (.func 159) #[] #[],.func (.func 160) #[] #[]])∧Below w.heap.size w w':=by
 rcases ht with rfl | rfl | rfl
 ·have q0:Blk (w.alloc (.cells #[.nilFunc,.nilFunc] 153)) w.heap.size 153 #[.nilFunc,.nilFunc]:=Blk.new _ _ _
  have qB:Below w.heap.size w (w.alloc (.cells #[.nilFunc,.nilFunc] 153)):=(b'r _ _).alloc (n'r _) _
  have hwz:w.heap.size<(w.alloc (.cells #[.nilFunc,.nilFunc] 153)).heap.size:=by simp
  go_enter Tryz.func75,Tryz.ntmps75
  go_upto_region 2 with (first
   | (go_at_call 118;refine c'm (forms_any _) ?_;rintro x w1 ⟨rfl,hB1⟩)
   | (refine wpList_store_row rfl 208 (.tmp 3) (.tmp 4) rfl w1.heap.size formsC rfl rfl 208 formsZ (Blk.new w1 208 formsZ) (by kernel_rfl) rfl (by simp[formsC,Value.oneCell']) ?_)
   | fail)
  have hset:Blk ((w1.alloc (.cells formsZ 208)).setRow w1.heap.size formsC) w1.heap.size 208 formsC:=setRow_heap (w1.alloc (.cells formsZ 208)) w1.heap.size formsZ formsC 208 (0,0) (Blk.new w1 208 formsZ)
  have hB2:Below w1.heap.size w1 ((w1.alloc (.cells formsZ 208)).setRow w1.heap.size formsC):=((b'r _ _).alloc (n'r _) _).trans ⟨rfl,rfl,rfl,by simp[World.setRow],fun k hk=>setRow_other _ _ k _ (by omega)⟩
  have q2:=Blk.call hB2 (Blk.call hB1 q0)
  have hBt:=below_call (below_call qB hB1 (n'r _)) hB2 (n'r _)
  have hz:=hB1.size
  clear q0 qB hB1 hB2
  generalize (w1.alloc (.cells formsZ 208)).setRow w1.heap.size formsC=w2 at hset q2 hBt ⊢
  generalize w1.heap.size=g at hset hz ⊢
  have r0:=q2.cell 0
  have r1:=q2.cell 1
  have f0:=q2.free 0
  have f1:=q2.free 1
  simp only[q'a,q'z,q's] at r0 r1
  have c0:w2.cell? ⟨g,18,none⟩=some (.func (.func 159) #[] #[]):=hset.cell 18
  have c1:w2.cell? ⟨g,19,none⟩=some (.func (.func 160) #[] #[]):=hset.cell 19
  have K:=(q2.set_ 0 (.func (.func 159) #[] #[])).set_ 1 (.func (.func 160) #[] #[])
  simp only[s'a,s'z,s's] at K
  replace K:=h'd K
  have he:∀ W,(binOp .eql 150 (.func (.func 159) #[] #[]) .nilFunc).run Tryz.prog W=.ok (.bool false) W:=fun W=>by kernel_rfl
  clear hset q2 hz hwz
  go_wp2
  refine bodyPost_ret (results_cell_row rfl _ _ w.heap.size 153 #[.func (.func 159) #[] #[],.func (.func 160) #[] #[]] (0,0) _ rfl K.out Tryz.underlying153 rfl (by kernel_rfl)) rfl ?_
  exact ⟨rfl,(hBt.setCell (p:=⟨w.heap.size,0,none⟩) (n'r _) _).setCell (p:=⟨w.heap.size,1,none⟩) (n'r _) _⟩
 ·have q0:Blk (w.alloc (.cells #[.nilFunc,.nilFunc] 153)) w.heap.size 153 #[.nilFunc,.nilFunc]:=Blk.new _ _ _
  have qB:Below w.heap.size w (w.alloc (.cells #[.nilFunc,.nilFunc] 153)):=(b'r _ _).alloc (n'r _) _
  have hwz:w.heap.size<(w.alloc (.cells #[.nilFunc,.nilFunc] 153)).heap.size:=by simp
  go_enter Tryz.func75,Tryz.ntmps75
  go_upto_region 2 with (first
   | (go_at_call 118;refine c'm (forms_any _) ?_;rintro x w1 ⟨rfl,hB1⟩)
   | (refine wpList_store_row rfl 208 (.tmp 3) (.tmp 4) rfl w1.heap.size formsC rfl rfl 208 formsZ (Blk.new w1 208 formsZ) (by kernel_rfl) rfl (by simp[formsC,Value.oneCell']) ?_)
   | fail)
  have hset:Blk ((w1.alloc (.cells formsZ 208)).setRow w1.heap.size formsC) w1.heap.size 208 formsC:=setRow_heap (w1.alloc (.cells formsZ 208)) w1.heap.size formsZ formsC 208 (0,0) (Blk.new w1 208 formsZ)
  have hB2:Below w1.heap.size w1 ((w1.alloc (.cells formsZ 208)).setRow w1.heap.size formsC):=((b'r _ _).alloc (n'r _) _).trans ⟨rfl,rfl,rfl,by simp[World.setRow],fun k hk=>setRow_other _ _ k _ (by omega)⟩
  have q2:=Blk.call hB2 (Blk.call hB1 q0)
  have hBt:=below_call (below_call qB hB1 (n'r _)) hB2 (n'r _)
  have hz:=hB1.size
  clear q0 qB hB1 hB2
  generalize (w1.alloc (.cells formsZ 208)).setRow w1.heap.size formsC=w2 at hset q2 hBt ⊢
  generalize w1.heap.size=g at hset hz ⊢
  have r0:=q2.cell 0
  have r1:=q2.cell 1
  have f0:=q2.free 0
  have f1:=q2.free 1
  simp only[q'a,q'z,q's] at r0 r1
  have c0:w2.cell? ⟨g,20,none⟩=some (.func (.func 159) #[] #[]):=hset.cell 20
  have c1:w2.cell? ⟨g,21,none⟩=some (.func (.func 160) #[] #[]):=hset.cell 21
  have K:=(q2.set_ 0 (.func (.func 159) #[] #[])).set_ 1 (.func (.func 160) #[] #[])
  simp only[s'a,s'z,s's] at K
  replace K:=h'd K
  have he:∀ W,(binOp .eql 150 (.func (.func 159) #[] #[]) .nilFunc).run Tryz.prog W=.ok (.bool false) W:=fun W=>by kernel_rfl
  clear hset q2 hz hwz
  go_wp2
  refine bodyPost_ret (results_cell_row rfl _ _ w.heap.size 153 #[.func (.func 159) #[] #[],.func (.func 160) #[] #[]] (0,0) _ rfl K.out Tryz.underlying153 rfl (by kernel_rfl)) rfl ?_
  exact ⟨rfl,(hBt.setCell (p:=⟨w.heap.size,0,none⟩) (n'r _) _).setCell (p:=⟨w.heap.size,1,none⟩) (n'r _) _⟩
 ·have q0:Blk (w.alloc (.cells #[.nilFunc,.nilFunc] 153)) w.heap.size 153 #[.nilFunc,.nilFunc]:=Blk.new _ _ _
  have qB:Below w.heap.size w (w.alloc (.cells #[.nilFunc,.nilFunc] 153)):=(b'r _ _).alloc (n'r _) _
  have hwz:w.heap.size<(w.alloc (.cells #[.nilFunc,.nilFunc] 153)).heap.size:=by simp
  go_enter Tryz.func75,Tryz.ntmps75
  go_upto_region 2 with (first
   | (go_at_call 118;refine c'm (forms_any _) ?_;rintro x w1 ⟨rfl,hB1⟩)
   | (refine wpList_store_row rfl 208 (.tmp 3) (.tmp 4) rfl w1.heap.size formsC rfl rfl 208 formsZ (Blk.new w1 208 formsZ) (by kernel_rfl) rfl (by simp[formsC,Value.oneCell']) ?_)
   | fail)
  have hset:Blk ((w1.alloc (.cells formsZ 208)).setRow w1.heap.size formsC) w1.heap.size 208 formsC:=setRow_heap (w1.alloc (.cells formsZ 208)) w1.heap.size formsZ formsC 208 (0,0) (Blk.new w1 208 formsZ)
  have hB2:Below w1.heap.size w1 ((w1.alloc (.cells formsZ 208)).setRow w1.heap.size formsC):=((b'r _ _).alloc (n'r _) _).trans ⟨rfl,rfl,rfl,by simp[World.setRow],fun k hk=>setRow_other _ _ k _ (by omega)⟩
  have q2:=Blk.call hB2 (Blk.call hB1 q0)
  have hBt:=below_call (below_call qB hB1 (n'r _)) hB2 (n'r _)
  have hz:=hB1.size
  clear q0 qB hB1 hB2
  generalize (w1.alloc (.cells formsZ 208)).setRow w1.heap.size formsC=w2 at hset q2 hBt ⊢
  generalize w1.heap.size=g at hset hz ⊢
  have r0:=q2.cell 0
  have r1:=q2.cell 1
  have f0:=q2.free 0
  have f1:=q2.free 1
  simp only[q'a,q'z,q's] at r0 r1
  have c0:w2.cell? ⟨g,22,none⟩=some (.func (.func 159) #[] #[]):=hset.cell 22
  have c1:w2.cell? ⟨g,23,none⟩=some (.func (.func 160) #[] #[]):=hset.cell 23
  have K:=(q2.set_ 0 (.func (.func 159) #[] #[])).set_ 1 (.func (.func 160) #[] #[])
  simp only[s'a,s'z,s's] at K
  replace K:=h'd K
  have he:∀ W,(binOp .eql 150 (.func (.func 159) #[] #[]) .nilFunc).run Tryz.prog W=.ok (.bool false) W:=fun W=>by kernel_rfl
  clear hset q2 hz hwz
  go_wp2
  refine bodyPost_ret (results_cell_row rfl _ _ w.heap.size 153 #[.func (.func 159) #[] #[],.func (.func 160) #[] #[]] (0,0) _ rfl K.out Tryz.underlying153 rfl (by kernel_rfl)) rfl ?_
  exact ⟨rfl,(hBt.setCell (p:=⟨w.heap.size,0,none⟩) (n'r _) _).setCell (p:=⟨w.heap.size,1,none⟩) (n'r _) _⟩
theorem formOf_no (t:Nat) (ht:knownB t=false) (h8:t<256) (w:World):Calls Tryz.prog 75 #[.int .u8 t] w fun x w'=>x=thrown 21∧Below w.heap.size w w':=by
 have hc:t=0∨t=6∨t=8∨12≤t:=by
  simp[knownB] at ht
  omega
 rcases hc with rfl | rfl | rfl | h12
 ·have q0:Blk (w.alloc (.cells #[.nilFunc,.nilFunc] 153)) w.heap.size 153 #[.nilFunc,.nilFunc]:=Blk.new _ _ _
  have qB:Below w.heap.size w (w.alloc (.cells #[.nilFunc,.nilFunc] 153)):=(b'r _ _).alloc (n'r _) _
  have hwz:w.heap.size<(w.alloc (.cells #[.nilFunc,.nilFunc] 153)).heap.size:=by simp
  go_enter Tryz.func75,Tryz.ntmps75
  go_upto_region 2 with (first
   | (go_at_call 118;refine c'm (forms_any _) ?_;rintro x w1 ⟨rfl,hB1⟩)
   | (refine wpList_store_row rfl 208 (.tmp 3) (.tmp 4) rfl w1.heap.size formsC rfl rfl 208 formsZ (Blk.new w1 208 formsZ) (by kernel_rfl) rfl (by simp[formsC,Value.oneCell']) ?_)
   | fail)
  have hset:Blk ((w1.alloc (.cells formsZ 208)).setRow w1.heap.size formsC) w1.heap.size 208 formsC:=setRow_heap (w1.alloc (.cells formsZ 208)) w1.heap.size formsZ formsC 208 (0,0) (Blk.new w1 208 formsZ)
  have hB2:Below w1.heap.size w1 ((w1.alloc (.cells formsZ 208)).setRow w1.heap.size formsC):=((b'r _ _).alloc (n'r _) _).trans ⟨rfl,rfl,rfl,by simp[World.setRow],fun k hk=>setRow_other _ _ k _ (by omega)⟩
  have q2:=Blk.call hB2 (Blk.call hB1 q0)
  have hBt:=below_call (below_call qB hB1 (n'r _)) hB2 (n'r _)
  have hz:=hB1.size
  clear q0 qB hB1 hB2
  generalize (w1.alloc (.cells formsZ 208)).setRow w1.heap.size formsC=w2 at hset q2 hBt ⊢
  generalize w1.heap.size=g at hset hz ⊢
  have r0:=q2.cell 0
  have r1:=q2.cell 1
  have f0:=q2.free 0
  have f1:=q2.free 1
  simp only[q'a,q'z,q's] at r0 r1
  have c0:w2.cell? ⟨g,0,none⟩=some .nilFunc:=hset.cell 0
  have he:∀ W,(binOp .eql 150 .nilFunc .nilFunc).run Tryz.prog W=.ok (.bool true) W:=fun W=>by kernel_rfl
  clear hset q2 hz hwz
  go_wp2
  exact ⟨rfl,rfl,hBt⟩
 ·have q0:Blk (w.alloc (.cells #[.nilFunc,.nilFunc] 153)) w.heap.size 153 #[.nilFunc,.nilFunc]:=Blk.new _ _ _
  have qB:Below w.heap.size w (w.alloc (.cells #[.nilFunc,.nilFunc] 153)):=(b'r _ _).alloc (n'r _) _
  have hwz:w.heap.size<(w.alloc (.cells #[.nilFunc,.nilFunc] 153)).heap.size:=by simp
  go_enter Tryz.func75,Tryz.ntmps75
  go_upto_region 2 with (first
   | (go_at_call 118;refine c'm (forms_any _) ?_;rintro x w1 ⟨rfl,hB1⟩)
   | (refine wpList_store_row rfl 208 (.tmp 3) (.tmp 4) rfl w1.heap.size formsC rfl rfl 208 formsZ (Blk.new w1 208 formsZ) (by kernel_rfl) rfl (by simp[formsC,Value.oneCell']) ?_)
   | fail)
  have hset:Blk ((w1.alloc (.cells formsZ 208)).setRow w1.heap.size formsC) w1.heap.size 208 formsC:=setRow_heap (w1.alloc (.cells formsZ 208)) w1.heap.size formsZ formsC 208 (0,0) (Blk.new w1 208 formsZ)
  have hB2:Below w1.heap.size w1 ((w1.alloc (.cells formsZ 208)).setRow w1.heap.size formsC):=((b'r _ _).alloc (n'r _) _).trans ⟨rfl,rfl,rfl,by simp[World.setRow],fun k hk=>setRow_other _ _ k _ (by omega)⟩
  have q2:=Blk.call hB2 (Blk.call hB1 q0)
  have hBt:=below_call (below_call qB hB1 (n'r _)) hB2 (n'r _)
  have hz:=hB1.size
  clear q0 qB hB1 hB2
  generalize (w1.alloc (.cells formsZ 208)).setRow w1.heap.size formsC=w2 at hset q2 hBt ⊢
  generalize w1.heap.size=g at hset hz ⊢
  have r0:=q2.cell 0
  have r1:=q2.cell 1
  have f0:=q2.free 0
  have f1:=q2.free 1
  simp only[q'a,q'z,q's] at r0 r1
  have c0:w2.cell? ⟨g,12,none⟩=some .nilFunc:=hset.cell 12
  have he:∀ W,(binOp .eql 150 .nilFunc .nilFunc).run Tryz.prog W=.ok (.bool true) W:=fun W=>by kernel_rfl
  clear hset q2 hz hwz
  go_wp2
  exact ⟨rfl,rfl,hBt⟩
 ·have q0:Blk (w.alloc (.cells #[.nilFunc,.nilFunc] 153)) w.heap.size 153 #[.nilFunc,.nilFunc]:=Blk.new _ _ _
  have qB:Below w.heap.size w (w.alloc (.cells #[.nilFunc,.nilFunc] 153)):=(b'r _ _).alloc (n'r _) _
  have hwz:w.heap.size<(w.alloc (.cells #[.nilFunc,.nilFunc] 153)).heap.size:=by simp
  go_enter Tryz.func75,Tryz.ntmps75
  go_upto_region 2 with (first
   | (go_at_call 118;refine c'm (forms_any _) ?_;rintro x w1 ⟨rfl,hB1⟩)
   | (refine wpList_store_row rfl 208 (.tmp 3) (.tmp 4) rfl w1.heap.size formsC rfl rfl 208 formsZ (Blk.new w1 208 formsZ) (by kernel_rfl) rfl (by simp[formsC,Value.oneCell']) ?_)
   | fail)
  have hset:Blk ((w1.alloc (.cells formsZ 208)).setRow w1.heap.size formsC) w1.heap.size 208 formsC:=setRow_heap (w1.alloc (.cells formsZ 208)) w1.heap.size formsZ formsC 208 (0,0) (Blk.new w1 208 formsZ)
  have hB2:Below w1.heap.size w1 ((w1.alloc (.cells formsZ 208)).setRow w1.heap.size formsC):=((b'r _ _).alloc (n'r _) _).trans ⟨rfl,rfl,rfl,by simp[World.setRow],fun k hk=>setRow_other _ _ k _ (by omega)⟩
  have q2:=Blk.call hB2 (Blk.call hB1 q0)
  have hBt:=below_call (below_call qB hB1 (n'r _)) hB2 (n'r _)
  have hz:=hB1.size
  clear q0 qB hB1 hB2
  generalize (w1.alloc (.cells formsZ 208)).setRow w1.heap.size formsC=w2 at hset q2 hBt ⊢
  generalize w1.heap.size=g at hset hz ⊢
  have r0:=q2.cell 0
  have r1:=q2.cell 1
  have f0:=q2.free 0
  have f1:=q2.free 1
  simp only[q'a,q'z,q's] at r0 r1
  have c0:w2.cell? ⟨g,16,none⟩=some .nilFunc:=hset.cell 16
  have he:∀ W,(binOp .eql 150 .nilFunc .nilFunc).run Tryz.prog W=.ok (.bool true) W:=fun W=>by kernel_rfl
  clear hset q2 hz hwz
  go_wp2
  exact ⟨rfl,rfl,hBt⟩
 ·have q0:Blk (w.alloc (.cells #[.nilFunc,.nilFunc] 153)) w.heap.size 153 #[.nilFunc,.nilFunc]:=Blk.new _ _ _
  have qB:Below w.heap.size w (w.alloc (.cells #[.nilFunc,.nilFunc] 153)):=(b'r _ _).alloc (n'r _) _
  have hwz:w.heap.size<(w.alloc (.cells #[.nilFunc,.nilFunc] 153)).heap.size:=by simp
  go_enter Tryz.func75,Tryz.ntmps75
  go_upto_region 2 with (first
   | (go_at_call 118;refine c'm (forms_any _) ?_;rintro x w1 ⟨rfl,hB1⟩)
   | (refine wpList_store_row rfl 208 (.tmp 3) (.tmp 4) rfl w1.heap.size formsC rfl rfl 208 formsZ (Blk.new w1 208 formsZ) (by kernel_rfl) rfl (by simp[formsC,Value.oneCell']) ?_)
   | fail)
  have hset:Blk ((w1.alloc (.cells formsZ 208)).setRow w1.heap.size formsC) w1.heap.size 208 formsC:=setRow_heap (w1.alloc (.cells formsZ 208)) w1.heap.size formsZ formsC 208 (0,0) (Blk.new w1 208 formsZ)
  have hB2:Below w1.heap.size w1 ((w1.alloc (.cells formsZ 208)).setRow w1.heap.size formsC):=((b'r _ _).alloc (n'r _) _).trans ⟨rfl,rfl,rfl,by simp[World.setRow],fun k hk=>setRow_other _ _ k _ (by omega)⟩
  have q2:=Blk.call hB2 (Blk.call hB1 q0)
  have hBt:=below_call (below_call qB hB1 (n'r _)) hB2 (n'r _)
  have hz:=hB1.size
  clear q0 qB hB1 hB2
  generalize (w1.alloc (.cells formsZ 208)).setRow w1.heap.size formsC=w2 at hset q2 hBt ⊢
  generalize w1.heap.size=g at hset hz ⊢
  have r0:=q2.cell 0
  have r1:=q2.cell 1
  have f0:=q2.free 0
  have f1:=q2.free 1
  simp only[q'a,q'z,q's] at r0 r1
  have w12:(12:Int)≤(t:Int):=by omega
  have wt:wrap64 (t:Int)=t:=by unfold wrap64;omega
  have w13:decide ((12:Int)≤(t:Int))=true:=d't w12
  clear hset q2 hz hwz
  go_wp2
  exact ⟨rfl,rfl,hBt⟩
def wrF (t:Nat):FuncId:=if t=1 then 151 else if t=2 then 153 else if t=3∨t=4 then 155 else if t=5∨t=7 then 157 else 159
def rdF (t:Nat):FuncId:=if t=1 then 152 else if t=2 then 154 else if t=3∨t=4 then 156 else if t=5∨t=7 then 158 else 160
theorem formOf_yes (t:Nat) (ht:knownB t=true) (w:World):Calls Tryz.prog 75 #[.int .u8 t] w fun x w'=>x=.returned (.agg #[.func (.func (wrF t)) #[] #[],.func (.func (rdF t)) #[] #[]])∧Below w.heap.size w w':=by
 rcases known_cases ht with rfl | rfl | rfl | rfl | rfl | rfl | rfl | rfl | rfl
 ·exact formOf_any 1 (by omega) w
 ·exact formOf_any 2 (by omega) w
 ·exact formOf_any 3 (by omega) w
 ·exact formOf_any 4 (by omega) w
 ·exact formOf57 5 (by omega) w
 ·exact formOf57 7 (by omega) w
 ·exact formOfO 9 (by omega) w
 ·exact formOfO 10 (by omega) w
 ·exact formOfO 11 (by omega) w
set_option maxRecDepth 100000
def mayE (b:Bool):Ending:=if b then .returned (.tuple #[]) else thrown 28
theorem mayE_t {b:Bool} (h:b=true):mayE b=.returned (.tuple #[]):=by rw[h];rfl
theorem mayE_f {b:Bool} (h:b=false):mayE b=thrown 28:=by rw[h];rfl
theorem linkC_len (x:LinkV):(linkC x).length=4:=rfl
set_option maxHeartbeats 1000000 in
theorem may3_any (m k:Int) (A1:Option Addr) (c1:Nat) (A2:Option Addr) (c2:Nat) (A3:Option Addr) (c3:Nat) (w:World):Calls Tryz.prog 79 #[.int .u8 3,.agg (bodyC 0 A1 0 c1 m A2 0 c2 k false 0 0 A3 0 c3)] w fun e w'=>e=mayE (bitsB m && !decide (16777215<k))∧Below w.heap.size w w':=by
 by_cases hb:bitsB m=true
 ·by_cases hk:16777215<k
  ·rw[mayE_f (by simp[hk])]
   have hk2:=d't hk
   have k0:Blk ((w.alloc (.cells #[.int .u8 0,.slice A1 0 c1,.int .u32 m,.slice A2 0 c2,.int .u32 k,.bool false,.int .u32 0,.int .u32 0,.slice A3 0 c3] 81)).alloc (.cells #[.int .u8 0,.slice A1 0 c1,.int .u32 m,.slice A2 0 c2,.int .u32 k,.bool false,.int .u32 0,.int .u32 0,.slice A3 0 c3] 81)) w.heap.size 81 #[.int .u8 0,.slice A1 0 c1,.int .u32 m,.slice A2 0 c2,.int .u32 k,.bool false,.int .u32 0,.int .u32 0,.slice A3 0 c3]:=(Blk.new _ _ _).alloc _
   have k1:Blk ((w.alloc (.cells #[.int .u8 0,.slice A1 0 c1,.int .u32 m,.slice A2 0 c2,.int .u32 k,.bool false,.int .u32 0,.int .u32 0,.slice A3 0 c3] 81)).alloc (.cells #[.int .u8 0,.slice A1 0 c1,.int .u32 m,.slice A2 0 c2,.int .u32 k,.bool false,.int .u32 0,.int .u32 0,.slice A3 0 c3] 81)) (w.heap.size+1) 81 #[.int .u8 0,.slice A1 0 c1,.int .u32 m,.slice A2 0 c2,.int .u32 k,.bool false,.int .u32 0,.int .u32 0,.slice A3 0 c3]:=heap_alloc2_new w _ _
   have kB:Below w.heap.size w ((w.alloc (.cells #[.int .u8 0,.slice A1 0 c1,.int .u32 m,.slice A2 0 c2,.int .u32 k,.bool false,.int .u32 0,.int .u32 0,.slice A3 0 c3] 81)).alloc (.cells #[.int .u8 0,.slice A1 0 c1,.int .u32 m,.slice A2 0 c2,.int .u32 k,.bool false,.int .u32 0,.int .u32 0,.slice A3 0 c3] 81)):=((b'r _ _).alloc (n'r _) _).alloc (by simp) _
   go_enter Tryz.func79,Tryz.ntmps79
   go_upto_region 2 with fail
   generalize (w.alloc (.cells #[.int .u8 0,.slice A1 0 c1,.int .u32 m,.slice A2 0 c2,.int .u32 k,.bool false,.int .u32 0,.int .u32 0,.slice A3 0 c3] 81)).alloc (.cells #[.int .u8 0,.slice A1 0 c1,.int .u32 m,.slice A2 0 c2,.int .u32 k,.bool false,.int .u32 0,.int .u32 0,.slice A3 0 c3] 81)=w1 at k0 k1 kB ⊢
   have x1:=k0.cell 1
   have x2:=k0.cell 2
   have x3:=k0.cell 3
   have x4:=k0.cell 4
   have x8:=k0.cell 8
   have y0:=k1.cell 0
   have y1:=k1.cell 1
   have y2:=k1.cell 2
   have y3:=k1.cell 3
   have y4:=k1.cell 4
   have y5:=k1.cell 5
   have y6:=k1.cell 6
   have y7:=k1.cell 7
   have y8:=k1.cell 8
   have f2:=k1.free 2
   have f4:=k1.free 4
   simp only[q'a,q'z,q's] at x1 x2 x3 x4 x8 y0 y1 y2 y3 y4 y5 y6 y7 y8
   clear k0 k1
   go_wp2_with (go_at_call 83;refine c'm (bits_any m _) ?_;rintro x w2 ⟨rfl,rfl⟩)
   exact ⟨rfl,rfl,((kB.setCell (p:=⟨w.heap.size+1,2,none⟩) (Nat.le_succ _) _).setCell (p:=⟨w.heap.size+1,4,none⟩) (Nat.le_succ _) _)⟩
  ·rw[mayE_t (by simp[hb,hk])]
   have hk2:=d'f hk
   have k0:Blk ((w.alloc (.cells #[.int .u8 0,.slice A1 0 c1,.int .u32 m,.slice A2 0 c2,.int .u32 k,.bool false,.int .u32 0,.int .u32 0,.slice A3 0 c3] 81)).alloc (.cells #[.int .u8 0,.slice A1 0 c1,.int .u32 m,.slice A2 0 c2,.int .u32 k,.bool false,.int .u32 0,.int .u32 0,.slice A3 0 c3] 81)) w.heap.size 81 #[.int .u8 0,.slice A1 0 c1,.int .u32 m,.slice A2 0 c2,.int .u32 k,.bool false,.int .u32 0,.int .u32 0,.slice A3 0 c3]:=(Blk.new _ _ _).alloc _
   have k1:Blk ((w.alloc (.cells #[.int .u8 0,.slice A1 0 c1,.int .u32 m,.slice A2 0 c2,.int .u32 k,.bool false,.int .u32 0,.int .u32 0,.slice A3 0 c3] 81)).alloc (.cells #[.int .u8 0,.slice A1 0 c1,.int .u32 m,.slice A2 0 c2,.int .u32 k,.bool false,.int .u32 0,.int .u32 0,.slice A3 0 c3] 81)) (w.heap.size+1) 81 #[.int .u8 0,.slice A1 0 c1,.int .u32 m,.slice A2 0 c2,.int .u32 k,.bool false,.int .u32 0,.int .u32 0,.slice A3 0 c3]:=heap_alloc2_new w _ _
   have kB:Below w.heap.size w ((w.alloc (.cells #[.int .u8 0,.slice A1 0 c1,.int .u32 m,.slice A2 0 c2,.int .u32 k,.bool false,.int .u32 0,.int .u32 0,.slice A3 0 c3] 81)).alloc (.cells #[.int .u8 0,.slice A1 0 c1,.int .u32 m,.slice A2 0 c2,.int .u32 k,.bool false,.int .u32 0,.int .u32 0,.slice A3 0 c3] 81)):=((b'r _ _).alloc (n'r _) _).alloc (by simp) _
   go_enter Tryz.func79,Tryz.ntmps79
   go_upto_region 2 with fail
   generalize (w.alloc (.cells #[.int .u8 0,.slice A1 0 c1,.int .u32 m,.slice A2 0 c2,.int .u32 k,.bool false,.int .u32 0,.int .u32 0,.slice A3 0 c3] 81)).alloc (.cells #[.int .u8 0,.slice A1 0 c1,.int .u32 m,.slice A2 0 c2,.int .u32 k,.bool false,.int .u32 0,.int .u32 0,.slice A3 0 c3] 81)=w1 at k0 k1 kB ⊢
   have x1:=k0.cell 1
   have x2:=k0.cell 2
   have x3:=k0.cell 3
   have x4:=k0.cell 4
   have x8:=k0.cell 8
   have y0:=k1.cell 0
   have y1:=k1.cell 1
   have y2:=k1.cell 2
   have y3:=k1.cell 3
   have y4:=k1.cell 4
   have y5:=k1.cell 5
   have y6:=k1.cell 6
   have y7:=k1.cell 7
   have y8:=k1.cell 8
   have f2:=k1.free 2
   have f4:=k1.free 4
   simp only[q'a,q'z,q's] at x1 x2 x3 x4 x8 y0 y1 y2 y3 y4 y5 y6 y7 y8
   clear k0 k1
   go_wp2_with (go_at_call 83;refine c'm (bits_any m _) ?_;rintro x w2 ⟨rfl,rfl⟩)
   go_loopg [116] 1 (fun m i wr=>m=1∧i=.int .i64 0∧Below w.heap.size w wr)
   case atStart=>exact ⟨rfl,rfl,((kB.setCell (p:=⟨w.heap.size+1,2,none⟩) (Nat.le_succ _) _).setCell (p:=⟨w.heap.size+1,4,none⟩) (Nat.le_succ _) _)⟩
   case round =>
    obtain ⟨hm,rfl,hB⟩:=hrel
    go_wp2
    go_end0
    exact ⟨rfl,hB⟩
 ·rw[mayE_f (by simp[hb])]
  rw[Bool.not_eq_true] at hb
  have k0:Blk ((w.alloc (.cells #[.int .u8 0,.slice A1 0 c1,.int .u32 m,.slice A2 0 c2,.int .u32 k,.bool false,.int .u32 0,.int .u32 0,.slice A3 0 c3] 81)).alloc (.cells #[.int .u8 0,.slice A1 0 c1,.int .u32 m,.slice A2 0 c2,.int .u32 k,.bool false,.int .u32 0,.int .u32 0,.slice A3 0 c3] 81)) w.heap.size 81 #[.int .u8 0,.slice A1 0 c1,.int .u32 m,.slice A2 0 c2,.int .u32 k,.bool false,.int .u32 0,.int .u32 0,.slice A3 0 c3]:=(Blk.new _ _ _).alloc _
  have k1:Blk ((w.alloc (.cells #[.int .u8 0,.slice A1 0 c1,.int .u32 m,.slice A2 0 c2,.int .u32 k,.bool false,.int .u32 0,.int .u32 0,.slice A3 0 c3] 81)).alloc (.cells #[.int .u8 0,.slice A1 0 c1,.int .u32 m,.slice A2 0 c2,.int .u32 k,.bool false,.int .u32 0,.int .u32 0,.slice A3 0 c3] 81)) (w.heap.size+1) 81 #[.int .u8 0,.slice A1 0 c1,.int .u32 m,.slice A2 0 c2,.int .u32 k,.bool false,.int .u32 0,.int .u32 0,.slice A3 0 c3]:=heap_alloc2_new w _ _
  have kB:Below w.heap.size w ((w.alloc (.cells #[.int .u8 0,.slice A1 0 c1,.int .u32 m,.slice A2 0 c2,.int .u32 k,.bool false,.int .u32 0,.int .u32 0,.slice A3 0 c3] 81)).alloc (.cells #[.int .u8 0,.slice A1 0 c1,.int .u32 m,.slice A2 0 c2,.int .u32 k,.bool false,.int .u32 0,.int .u32 0,.slice A3 0 c3] 81)):=((b'r _ _).alloc (n'r _) _).alloc (by simp) _
  go_enter Tryz.func79,Tryz.ntmps79
  go_upto_region 2 with fail
  generalize (w.alloc (.cells #[.int .u8 0,.slice A1 0 c1,.int .u32 m,.slice A2 0 c2,.int .u32 k,.bool false,.int .u32 0,.int .u32 0,.slice A3 0 c3] 81)).alloc (.cells #[.int .u8 0,.slice A1 0 c1,.int .u32 m,.slice A2 0 c2,.int .u32 k,.bool false,.int .u32 0,.int .u32 0,.slice A3 0 c3] 81)=w1 at k0 k1 kB ⊢
  have x1:=k0.cell 1
  have x2:=k0.cell 2
  have x3:=k0.cell 3
  have x4:=k0.cell 4
  have x8:=k0.cell 8
  have y0:=k1.cell 0
  have y1:=k1.cell 1
  have y2:=k1.cell 2
  have y3:=k1.cell 3
  have y4:=k1.cell 4
  have y5:=k1.cell 5
  have y6:=k1.cell 6
  have y7:=k1.cell 7
  have y8:=k1.cell 8
  have f2:=k1.free 2
  have f4:=k1.free 4
  simp only[q'a,q'z,q's] at x1 x2 x3 x4 x8 y0 y1 y2 y3 y4 y5 y6 y7 y8
  clear k0 k1
  go_wp2_with (go_at_call 83;refine c'm (bits_any m _) ?_;rintro x w2 ⟨rfl,rfl⟩)
  exact ⟨rfl,rfl,((kB.setCell (p:=⟨w.heap.size+1,2,none⟩) (Nat.le_succ _) _).setCell (p:=⟨w.heap.size+1,4,none⟩) (Nat.le_succ _) _)⟩
set_option maxHeartbeats 2000000 in
theorem may5_any_ (m k:Int) (t2:Bool) (fw tg:Int) (A1:Option Addr) (c1:Nat) (A2:Option Addr) (c2:Nat) (A3:Option Addr) (c3:Nat) (w:World):(Calls Tryz.prog 79 #[.int .u8 5,.agg (bodyC 0 A1 0 c1 m A2 0 c2 k t2 fw tg A3 0 c3)] w fun e w'=>e=mayE (bitsB m && !decide (16777215<k))∧Below w.heap.size w w')∧(Calls Tryz.prog 79 #[.int .u8 7,.agg (bodyC 0 A1 0 c1 m A2 0 c2 k t2 fw tg A3 0 c3)] w fun e w'=>e=mayE (bitsB m && !decide (16777215<k))∧Below w.heap.size w w'):=by
 refine ⟨?_,?_⟩
 all_goals
  by_cases hb:bitsB m=true
  ·by_cases hk:16777215<k
   ·rw[mayE_f (by simp[hk])]
    have hk2:=d't hk
    have k0:Blk ((w.alloc (.cells #[.int .u8 0,.slice A1 0 c1,.int .u32 m,.slice A2 0 c2,.int .u32 k,.bool t2,.int .u32 fw,.int .u32 tg,.slice A3 0 c3] 81)).alloc (.cells #[.int .u8 0,.slice A1 0 c1,.int .u32 m,.slice A2 0 c2,.int .u32 k,.bool t2,.int .u32 fw,.int .u32 tg,.slice A3 0 c3] 81)) w.heap.size 81 #[.int .u8 0,.slice A1 0 c1,.int .u32 m,.slice A2 0 c2,.int .u32 k,.bool t2,.int .u32 fw,.int .u32 tg,.slice A3 0 c3]:=(Blk.new _ _ _).alloc _
    have k1:Blk ((w.alloc (.cells #[.int .u8 0,.slice A1 0 c1,.int .u32 m,.slice A2 0 c2,.int .u32 k,.bool t2,.int .u32 fw,.int .u32 tg,.slice A3 0 c3] 81)).alloc (.cells #[.int .u8 0,.slice A1 0 c1,.int .u32 m,.slice A2 0 c2,.int .u32 k,.bool t2,.int .u32 fw,.int .u32 tg,.slice A3 0 c3] 81)) (w.heap.size+1) 81 #[.int .u8 0,.slice A1 0 c1,.int .u32 m,.slice A2 0 c2,.int .u32 k,.bool t2,.int .u32 fw,.int .u32 tg,.slice A3 0 c3]:=heap_alloc2_new w _ _
    have kB:Below w.heap.size w ((w.alloc (.cells #[.int .u8 0,.slice A1 0 c1,.int .u32 m,.slice A2 0 c2,.int .u32 k,.bool t2,.int .u32 fw,.int .u32 tg,.slice A3 0 c3] 81)).alloc (.cells #[.int .u8 0,.slice A1 0 c1,.int .u32 m,.slice A2 0 c2,.int .u32 k,.bool t2,.int .u32 fw,.int .u32 tg,.slice A3 0 c3] 81)):=((b'r _ _).alloc (n'r _) _).alloc (by simp) _
    go_enter Tryz.func79,Tryz.ntmps79
    go_upto_region 2 with fail
    generalize (w.alloc (.cells #[.int .u8 0,.slice A1 0 c1,.int .u32 m,.slice A2 0 c2,.int .u32 k,.bool t2,.int .u32 fw,.int .u32 tg,.slice A3 0 c3] 81)).alloc (.cells #[.int .u8 0,.slice A1 0 c1,.int .u32 m,.slice A2 0 c2,.int .u32 k,.bool t2,.int .u32 fw,.int .u32 tg,.slice A3 0 c3] 81)=w1 at k0 k1 kB ⊢
    have x1:=k0.cell 1
    have x2:=k0.cell 2
    have x3:=k0.cell 3
    have x4:=k0.cell 4
    have x8:=k0.cell 8
    have y0:=k1.cell 0
    have y1:=k1.cell 1
    have y2:=k1.cell 2
    have y3:=k1.cell 3
    have y4:=k1.cell 4
    have y5:=k1.cell 5
    have y6:=k1.cell 6
    have y7:=k1.cell 7
    have y8:=k1.cell 8
    have f2:=k1.free 2
    have f4:=k1.free 4
    have f5:=k1.free 5
    have f6:=k1.free 6
    have f7:=k1.free 7
    simp only[q'a,q'z,q's] at x1 x2 x3 x4 x8 y0 y1 y2 y3 y4 y5 y6 y7 y8
    clear k0 k1
    go_wp2_with (go_at_call 83;refine c'm (bits_any m _) ?_;rintro x w2 ⟨rfl,rfl⟩)
    exact ⟨rfl,rfl,(((((kB.setCell (p:=⟨w.heap.size+1,2,none⟩) (Nat.le_succ _) _).setCell (p:=⟨w.heap.size+1,4,none⟩) (Nat.le_succ _) _).setCell (p:=⟨w.heap.size+1,5,none⟩) (Nat.le_succ _) _).setCell (p:=⟨w.heap.size+1,6,none⟩) (Nat.le_succ _) _).setCell (p:=⟨w.heap.size+1,7,none⟩) (Nat.le_succ _) _)⟩
   ·rw[mayE_t (by simp[hb,hk])]
    have hk2:=d'f hk
    have k0:Blk ((w.alloc (.cells #[.int .u8 0,.slice A1 0 c1,.int .u32 m,.slice A2 0 c2,.int .u32 k,.bool t2,.int .u32 fw,.int .u32 tg,.slice A3 0 c3] 81)).alloc (.cells #[.int .u8 0,.slice A1 0 c1,.int .u32 m,.slice A2 0 c2,.int .u32 k,.bool t2,.int .u32 fw,.int .u32 tg,.slice A3 0 c3] 81)) w.heap.size 81 #[.int .u8 0,.slice A1 0 c1,.int .u32 m,.slice A2 0 c2,.int .u32 k,.bool t2,.int .u32 fw,.int .u32 tg,.slice A3 0 c3]:=(Blk.new _ _ _).alloc _
    have k1:Blk ((w.alloc (.cells #[.int .u8 0,.slice A1 0 c1,.int .u32 m,.slice A2 0 c2,.int .u32 k,.bool t2,.int .u32 fw,.int .u32 tg,.slice A3 0 c3] 81)).alloc (.cells #[.int .u8 0,.slice A1 0 c1,.int .u32 m,.slice A2 0 c2,.int .u32 k,.bool t2,.int .u32 fw,.int .u32 tg,.slice A3 0 c3] 81)) (w.heap.size+1) 81 #[.int .u8 0,.slice A1 0 c1,.int .u32 m,.slice A2 0 c2,.int .u32 k,.bool t2,.int .u32 fw,.int .u32 tg,.slice A3 0 c3]:=heap_alloc2_new w _ _
    have kB:Below w.heap.size w ((w.alloc (.cells #[.int .u8 0,.slice A1 0 c1,.int .u32 m,.slice A2 0 c2,.int .u32 k,.bool t2,.int .u32 fw,.int .u32 tg,.slice A3 0 c3] 81)).alloc (.cells #[.int .u8 0,.slice A1 0 c1,.int .u32 m,.slice A2 0 c2,.int .u32 k,.bool t2,.int .u32 fw,.int .u32 tg,.slice A3 0 c3] 81)):=((b'r _ _).alloc (n'r _) _).alloc (by simp) _
    go_enter Tryz.func79,Tryz.ntmps79
    go_upto_region 2 with fail
    generalize (w.alloc (.cells #[.int .u8 0,.slice A1 0 c1,.int .u32 m,.slice A2 0 c2,.int .u32 k,.bool t2,.int .u32 fw,.int .u32 tg,.slice A3 0 c3] 81)).alloc (.cells #[.int .u8 0,.slice A1 0 c1,.int .u32 m,.slice A2 0 c2,.int .u32 k,.bool t2,.int .u32 fw,.int .u32 tg,.slice A3 0 c3] 81)=w1 at k0 k1 kB ⊢
    have x1:=k0.cell 1
    have x2:=k0.cell 2
    have x3:=k0.cell 3
    have x4:=k0.cell 4
    have x8:=k0.cell 8
    have y0:=k1.cell 0
    have y1:=k1.cell 1
    have y2:=k1.cell 2
    have y3:=k1.cell 3
    have y4:=k1.cell 4
    have y5:=k1.cell 5
    have y6:=k1.cell 6
    have y7:=k1.cell 7
    have y8:=k1.cell 8
    have f2:=k1.free 2
    have f4:=k1.free 4
    have f5:=k1.free 5
    have f6:=k1.free 6
    have f7:=k1.free 7
    simp only[q'a,q'z,q's] at x1 x2 x3 x4 x8 y0 y1 y2 y3 y4 y5 y6 y7 y8
    clear k0 k1
    go_wp2_with (go_at_call 83;refine c'm (bits_any m _) ?_;rintro x w2 ⟨rfl,rfl⟩)
    go_loopg [116] 1 (fun m i wr=>m=1∧i=.int .i64 0∧Below w.heap.size w wr)
    case atStart=>exact ⟨rfl,rfl,(((((kB.setCell (p:=⟨w.heap.size+1,2,none⟩) (Nat.le_succ _) _).setCell (p:=⟨w.heap.size+1,4,none⟩) (Nat.le_succ _) _).setCell (p:=⟨w.heap.size+1,5,none⟩) (Nat.le_succ _) _).setCell (p:=⟨w.heap.size+1,6,none⟩) (Nat.le_succ _) _).setCell (p:=⟨w.heap.size+1,7,none⟩) (Nat.le_succ _) _)⟩
    case round =>
     obtain ⟨hm,rfl,hB⟩:=hrel
     go_wp2
     go_end0
     exact ⟨rfl,hB⟩
  ·rw[mayE_f (by simp[hb])]
   rw[Bool.not_eq_true] at hb
   have k0:Blk ((w.alloc (.cells #[.int .u8 0,.slice A1 0 c1,.int .u32 m,.slice A2 0 c2,.int .u32 k,.bool t2,.int .u32 fw,.int .u32 tg,.slice A3 0 c3] 81)).alloc (.cells #[.int .u8 0,.slice A1 0 c1,.int .u32 m,.slice A2 0 c2,.int .u32 k,.bool t2,.int .u32 fw,.int .u32 tg,.slice A3 0 c3] 81)) w.heap.size 81 #[.int .u8 0,.slice A1 0 c1,.int .u32 m,.slice A2 0 c2,.int .u32 k,.bool t2,.int .u32 fw,.int .u32 tg,.slice A3 0 c3]:=(Blk.new _ _ _).alloc _
   have k1:Blk ((w.alloc (.cells #[.int .u8 0,.slice A1 0 c1,.int .u32 m,.slice A2 0 c2,.int .u32 k,.bool t2,.int .u32 fw,.int .u32 tg,.slice A3 0 c3] 81)).alloc (.cells #[.int .u8 0,.slice A1 0 c1,.int .u32 m,.slice A2 0 c2,.int .u32 k,.bool t2,.int .u32 fw,.int .u32 tg,.slice A3 0 c3] 81)) (w.heap.size+1) 81 #[.int .u8 0,.slice A1 0 c1,.int .u32 m,.slice A2 0 c2,.int .u32 k,.bool t2,.int .u32 fw,.int .u32 tg,.slice A3 0 c3]:=heap_alloc2_new w _ _
   have kB:Below w.heap.size w ((w.alloc (.cells #[.int .u8 0,.slice A1 0 c1,.int .u32 m,.slice A2 0 c2,.int .u32 k,.bool t2,.int .u32 fw,.int .u32 tg,.slice A3 0 c3] 81)).alloc (.cells #[.int .u8 0,.slice A1 0 c1,.int .u32 m,.slice A2 0 c2,.int .u32 k,.bool t2,.int .u32 fw,.int .u32 tg,.slice A3 0 c3] 81)):=((b'r _ _).alloc (n'r _) _).alloc (by simp) _
   go_enter Tryz.func79,Tryz.ntmps79
   go_upto_region 2 with fail
   generalize (w.alloc (.cells #[.int .u8 0,.slice A1 0 c1,.int .u32 m,.slice A2 0 c2,.int .u32 k,.bool t2,.int .u32 fw,.int .u32 tg,.slice A3 0 c3] 81)).alloc (.cells #[.int .u8 0,.slice A1 0 c1,.int .u32 m,.slice A2 0 c2,.int .u32 k,.bool t2,.int .u32 fw,.int .u32 tg,.slice A3 0 c3] 81)=w1 at k0 k1 kB ⊢
   have x1:=k0.cell 1
   have x2:=k0.cell 2
   have x3:=k0.cell 3
   have x4:=k0.cell 4
   have x8:=k0.cell 8
   have y0:=k1.cell 0
   have y1:=k1.cell 1
   have y2:=k1.cell 2
   have y3:=k1.cell 3
   have y4:=k1.cell 4
   have y5:=k1.cell 5
   have y6:=k1.cell 6
   have y7:=k1.cell 7
   have y8:=k1.cell 8
   have f2:=k1.free 2
   have f4:=k1.free 4
   have f5:=k1.free 5
   have f6:=k1.free 6
   have f7:=k1.free 7
   simp only[q'a,q'z,q's] at x1 x2 x3 x4 x8 y0 y1 y2 y3 y4 y5 y6 y7 y8
   clear k0 k1
   go_wp2_with (go_at_call 83;refine c'm (bits_any m _) ?_;rintro x w2 ⟨rfl,rfl⟩)
   exact ⟨rfl,rfl,(((((kB.setCell (p:=⟨w.heap.size+1,2,none⟩) (Nat.le_succ _) _).setCell (p:=⟨w.heap.size+1,4,none⟩) (Nat.le_succ _) _).setCell (p:=⟨w.heap.size+1,5,none⟩) (Nat.le_succ _) _).setCell (p:=⟨w.heap.size+1,6,none⟩) (Nat.le_succ _) _).setCell (p:=⟨w.heap.size+1,7,none⟩) (Nat.le_succ _) _)⟩
theorem may5_any (m k:Int) (t2:Bool) (fw tg:Int) (A1:Option Addr) (c1:Nat) (A2:Option Addr) (c2:Nat) (A3:Option Addr) (c3:Nat) (w:World):Calls Tryz.prog 79 #[.int .u8 5,.agg (bodyC 0 A1 0 c1 m A2 0 c2 k t2 fw tg A3 0 c3)] w fun e w'=>e=mayE (bitsB m && !decide (16777215<k))∧Below w.heap.size w w':=(may5_any_ m k t2 fw tg A1 c1 A2 c2 A3 c3 w).1
theorem may7_any (m k:Int) (t2:Bool) (fw tg:Int) (A1:Option Addr) (c1:Nat) (A2:Option Addr) (c2:Nat) (A3:Option Addr) (c3:Nat) (w:World):Calls Tryz.prog 79 #[.int .u8 7,.agg (bodyC 0 A1 0 c1 m A2 0 c2 k t2 fw tg A3 0 c3)] w fun e w'=>e=mayE (bitsB m && !decide (16777215<k))∧Below w.heap.size w w':=(may5_any_ m k t2 fw tg A1 c1 A2 c2 A3 c3 w).2
set_option maxHeartbeats 1000000 in
theorem may4_any (m k:Int) (A1:Option Addr) (c1:Nat) (A2:Option Addr) (c2:Nat) (A3:Option Addr) (c3:Nat) (w:World):Calls Tryz.prog 79 #[.int .u8 4,.agg (bodyC 0 A1 0 c1 m A2 0 c2 k false 0 0 A3 0 c3)] w fun e w'=>e=mayE ((m==0) && (bitsB m && !decide (16777215<k)))∧Below w.heap.size w w':=by
 by_cases hm:m=0
 ·have hm2:(m==0)=true:=by simp[hm]
  have hb:bitsB m=true:=by rw[hm];exact bitsB_zero
  by_cases hk:16777215<k
  ·rw[mayE_f (by simp[hk])]
   have hk2:=d't hk
   clear hm
   have k0:Blk ((w.alloc (.cells #[.int .u8 0,.slice A1 0 c1,.int .u32 m,.slice A2 0 c2,.int .u32 k,.bool false,.int .u32 0,.int .u32 0,.slice A3 0 c3] 81)).alloc (.cells #[.int .u8 0,.slice A1 0 c1,.int .u32 m,.slice A2 0 c2,.int .u32 k,.bool false,.int .u32 0,.int .u32 0,.slice A3 0 c3] 81)) w.heap.size 81 #[.int .u8 0,.slice A1 0 c1,.int .u32 m,.slice A2 0 c2,.int .u32 k,.bool false,.int .u32 0,.int .u32 0,.slice A3 0 c3]:=(Blk.new _ _ _).alloc _
   have k1:Blk ((w.alloc (.cells #[.int .u8 0,.slice A1 0 c1,.int .u32 m,.slice A2 0 c2,.int .u32 k,.bool false,.int .u32 0,.int .u32 0,.slice A3 0 c3] 81)).alloc (.cells #[.int .u8 0,.slice A1 0 c1,.int .u32 m,.slice A2 0 c2,.int .u32 k,.bool false,.int .u32 0,.int .u32 0,.slice A3 0 c3] 81)) (w.heap.size+1) 81 #[.int .u8 0,.slice A1 0 c1,.int .u32 m,.slice A2 0 c2,.int .u32 k,.bool false,.int .u32 0,.int .u32 0,.slice A3 0 c3]:=heap_alloc2_new w _ _
   have kB:Below w.heap.size w ((w.alloc (.cells #[.int .u8 0,.slice A1 0 c1,.int .u32 m,.slice A2 0 c2,.int .u32 k,.bool false,.int .u32 0,.int .u32 0,.slice A3 0 c3] 81)).alloc (.cells #[.int .u8 0,.slice A1 0 c1,.int .u32 m,.slice A2 0 c2,.int .u32 k,.bool false,.int .u32 0,.int .u32 0,.slice A3 0 c3] 81)):=((b'r _ _).alloc (n'r _) _).alloc (by simp) _
   go_enter Tryz.func79,Tryz.ntmps79
   go_upto_region 2 with fail
   generalize (w.alloc (.cells #[.int .u8 0,.slice A1 0 c1,.int .u32 m,.slice A2 0 c2,.int .u32 k,.bool false,.int .u32 0,.int .u32 0,.slice A3 0 c3] 81)).alloc (.cells #[.int .u8 0,.slice A1 0 c1,.int .u32 m,.slice A2 0 c2,.int .u32 k,.bool false,.int .u32 0,.int .u32 0,.slice A3 0 c3] 81)=w1 at k0 k1 kB ⊢
   have x1:=k0.cell 1
   have x2:=k0.cell 2
   have x3:=k0.cell 3
   have x4:=k0.cell 4
   have x8:=k0.cell 8
   have y0:=k1.cell 0
   have y1:=k1.cell 1
   have y2:=k1.cell 2
   have y3:=k1.cell 3
   have y4:=k1.cell 4
   have y5:=k1.cell 5
   have y6:=k1.cell 6
   have y7:=k1.cell 7
   have y8:=k1.cell 8
   have f4:=k1.free 4
   simp only[q'a,q'z,q's] at x1 x2 x3 x4 x8 y0 y1 y2 y3 y4 y5 y6 y7 y8
   clear k0 k1
   go_wp2_with (go_at_call 83;refine c'm (bits_any m _) ?_;rintro x w2 ⟨rfl,rfl⟩)
   exact ⟨rfl,rfl,(kB.setCell (p:=⟨w.heap.size+1,4,none⟩) (Nat.le_succ _) _)⟩
  ·rw[mayE_t (by simp[hk,hb,hm2])]
   have hk2:=d'f hk
   clear hm
   have k0:Blk ((w.alloc (.cells #[.int .u8 0,.slice A1 0 c1,.int .u32 m,.slice A2 0 c2,.int .u32 k,.bool false,.int .u32 0,.int .u32 0,.slice A3 0 c3] 81)).alloc (.cells #[.int .u8 0,.slice A1 0 c1,.int .u32 m,.slice A2 0 c2,.int .u32 k,.bool false,.int .u32 0,.int .u32 0,.slice A3 0 c3] 81)) w.heap.size 81 #[.int .u8 0,.slice A1 0 c1,.int .u32 m,.slice A2 0 c2,.int .u32 k,.bool false,.int .u32 0,.int .u32 0,.slice A3 0 c3]:=(Blk.new _ _ _).alloc _
   have k1:Blk ((w.alloc (.cells #[.int .u8 0,.slice A1 0 c1,.int .u32 m,.slice A2 0 c2,.int .u32 k,.bool false,.int .u32 0,.int .u32 0,.slice A3 0 c3] 81)).alloc (.cells #[.int .u8 0,.slice A1 0 c1,.int .u32 m,.slice A2 0 c2,.int .u32 k,.bool false,.int .u32 0,.int .u32 0,.slice A3 0 c3] 81)) (w.heap.size+1) 81 #[.int .u8 0,.slice A1 0 c1,.int .u32 m,.slice A2 0 c2,.int .u32 k,.bool false,.int .u32 0,.int .u32 0,.slice A3 0 c3]:=heap_alloc2_new w _ _
   have kB:Below w.heap.size w ((w.alloc (.cells #[.int .u8 0,.slice A1 0 c1,.int .u32 m,.slice A2 0 c2,.int .u32 k,.bool false,.int .u32 0,.int .u32 0,.slice A3 0 c3] 81)).alloc (.cells #[.int .u8 0,.slice A1 0 c1,.int .u32 m,.slice A2 0 c2,.int .u32 k,.bool false,.int .u32 0,.int .u32 0,.slice A3 0 c3] 81)):=((b'r _ _).alloc (n'r _) _).alloc (by simp) _
   go_enter Tryz.func79,Tryz.ntmps79
   go_upto_region 2 with fail
   generalize (w.alloc (.cells #[.int .u8 0,.slice A1 0 c1,.int .u32 m,.slice A2 0 c2,.int .u32 k,.bool false,.int .u32 0,.int .u32 0,.slice A3 0 c3] 81)).alloc (.cells #[.int .u8 0,.slice A1 0 c1,.int .u32 m,.slice A2 0 c2,.int .u32 k,.bool false,.int .u32 0,.int .u32 0,.slice A3 0 c3] 81)=w1 at k0 k1 kB ⊢
   have x1:=k0.cell 1
   have x2:=k0.cell 2
   have x3:=k0.cell 3
   have x4:=k0.cell 4
   have x8:=k0.cell 8
   have y0:=k1.cell 0
   have y1:=k1.cell 1
   have y2:=k1.cell 2
   have y3:=k1.cell 3
   have y4:=k1.cell 4
   have y5:=k1.cell 5
   have y6:=k1.cell 6
   have y7:=k1.cell 7
   have y8:=k1.cell 8
   have f4:=k1.free 4
   simp only[q'a,q'z,q's] at x1 x2 x3 x4 x8 y0 y1 y2 y3 y4 y5 y6 y7 y8
   clear k0 k1
   go_wp2_with (go_at_call 83;refine c'm (bits_any m _) ?_;rintro x w2 ⟨rfl,rfl⟩)
   go_loopg [116] 1 (fun m i wr=>m=1∧i=.int .i64 0∧Below w.heap.size w wr)
   case atStart=>exact ⟨rfl,rfl,(kB.setCell (p:=⟨w.heap.size+1,4,none⟩) (Nat.le_succ _) _)⟩
   case round =>
    obtain ⟨hm,rfl,hB⟩:=hrel
    go_wp2
    go_end0
    exact ⟨rfl,hB⟩
 ·rw[mayE_f (by simp[hm])]
  have hm2:(m==0)=false:=by simpa using hm
  have k0:Blk ((w.alloc (.cells #[.int .u8 0,.slice A1 0 c1,.int .u32 m,.slice A2 0 c2,.int .u32 k,.bool false,.int .u32 0,.int .u32 0,.slice A3 0 c3] 81)).alloc (.cells #[.int .u8 0,.slice A1 0 c1,.int .u32 m,.slice A2 0 c2,.int .u32 k,.bool false,.int .u32 0,.int .u32 0,.slice A3 0 c3] 81)) w.heap.size 81 #[.int .u8 0,.slice A1 0 c1,.int .u32 m,.slice A2 0 c2,.int .u32 k,.bool false,.int .u32 0,.int .u32 0,.slice A3 0 c3]:=(Blk.new _ _ _).alloc _
  have k1:Blk ((w.alloc (.cells #[.int .u8 0,.slice A1 0 c1,.int .u32 m,.slice A2 0 c2,.int .u32 k,.bool false,.int .u32 0,.int .u32 0,.slice A3 0 c3] 81)).alloc (.cells #[.int .u8 0,.slice A1 0 c1,.int .u32 m,.slice A2 0 c2,.int .u32 k,.bool false,.int .u32 0,.int .u32 0,.slice A3 0 c3] 81)) (w.heap.size+1) 81 #[.int .u8 0,.slice A1 0 c1,.int .u32 m,.slice A2 0 c2,.int .u32 k,.bool false,.int .u32 0,.int .u32 0,.slice A3 0 c3]:=heap_alloc2_new w _ _
  have kB:Below w.heap.size w ((w.alloc (.cells #[.int .u8 0,.slice A1 0 c1,.int .u32 m,.slice A2 0 c2,.int .u32 k,.bool false,.int .u32 0,.int .u32 0,.slice A3 0 c3] 81)).alloc (.cells #[.int .u8 0,.slice A1 0 c1,.int .u32 m,.slice A2 0 c2,.int .u32 k,.bool false,.int .u32 0,.int .u32 0,.slice A3 0 c3] 81)):=((b'r _ _).alloc (n'r _) _).alloc (by simp) _
  go_enter Tryz.func79,Tryz.ntmps79
  go_upto_region 2 with fail
  generalize (w.alloc (.cells #[.int .u8 0,.slice A1 0 c1,.int .u32 m,.slice A2 0 c2,.int .u32 k,.bool false,.int .u32 0,.int .u32 0,.slice A3 0 c3] 81)).alloc (.cells #[.int .u8 0,.slice A1 0 c1,.int .u32 m,.slice A2 0 c2,.int .u32 k,.bool false,.int .u32 0,.int .u32 0,.slice A3 0 c3] 81)=w1 at k0 k1 kB ⊢
  have x1:=k0.cell 1
  have x2:=k0.cell 2
  have x3:=k0.cell 3
  have x4:=k0.cell 4
  have x8:=k0.cell 8
  have y0:=k1.cell 0
  have y1:=k1.cell 1
  have y2:=k1.cell 2
  have y3:=k1.cell 3
  have y4:=k1.cell 4
  have y5:=k1.cell 5
  have y6:=k1.cell 6
  have y7:=k1.cell 7
  have y8:=k1.cell 8
  have f4:=k1.free 4
  simp only[q'a,q'z,q's] at x1 x2 x3 x4 x8 y0 y1 y2 y3 y4 y5 y6 y7 y8
  clear k0 k1
  go_wp2_with (go_at_call 83;refine c'm (bits_any m _) ?_;rintro x w2 ⟨rfl,rfl⟩)
  exact ⟨rfl,rfl,(kB.setCell (p:=⟨w.heap.size+1,4,none⟩) (Nat.le_succ _) _)⟩
set_option maxHeartbeats 1000000 in
theorem may2_any (m:Int) (n2:Nat) (A1:Option Addr) (c1:Nat) (A2:Option Addr) (c2:Nat) (A3:Option Addr) (c3:Nat) (w:World):Calls Tryz.prog 79 #[.int .u8 2,.agg (bodyC 0 A1 0 c1 m A2 n2 c2 0 false 0 0 A3 0 c3)] w fun e w'=>e=mayE (bitsB m && !decide (n2=0))∧Below w.heap.size w w':=by
 by_cases hb:bitsB m=true
 ·by_cases hn:n2=0
  ·have hn2:((n2:Int)==0)=true:=by simp[hn]
   rw[mayE_f (by simp[hn])]
   clear hn
   have k0:Blk ((w.alloc (.cells #[.int .u8 0,.slice A1 0 c1,.int .u32 m,.slice A2 n2 c2,.int .u32 0,.bool false,.int .u32 0,.int .u32 0,.slice A3 0 c3] 81)).alloc (.cells #[.int .u8 0,.slice A1 0 c1,.int .u32 m,.slice A2 n2 c2,.int .u32 0,.bool false,.int .u32 0,.int .u32 0,.slice A3 0 c3] 81)) w.heap.size 81 #[.int .u8 0,.slice A1 0 c1,.int .u32 m,.slice A2 n2 c2,.int .u32 0,.bool false,.int .u32 0,.int .u32 0,.slice A3 0 c3]:=(Blk.new _ _ _).alloc _
   have k1:Blk ((w.alloc (.cells #[.int .u8 0,.slice A1 0 c1,.int .u32 m,.slice A2 n2 c2,.int .u32 0,.bool false,.int .u32 0,.int .u32 0,.slice A3 0 c3] 81)).alloc (.cells #[.int .u8 0,.slice A1 0 c1,.int .u32 m,.slice A2 n2 c2,.int .u32 0,.bool false,.int .u32 0,.int .u32 0,.slice A3 0 c3] 81)) (w.heap.size+1) 81 #[.int .u8 0,.slice A1 0 c1,.int .u32 m,.slice A2 n2 c2,.int .u32 0,.bool false,.int .u32 0,.int .u32 0,.slice A3 0 c3]:=heap_alloc2_new w _ _
   have kB:Below w.heap.size w ((w.alloc (.cells #[.int .u8 0,.slice A1 0 c1,.int .u32 m,.slice A2 n2 c2,.int .u32 0,.bool false,.int .u32 0,.int .u32 0,.slice A3 0 c3] 81)).alloc (.cells #[.int .u8 0,.slice A1 0 c1,.int .u32 m,.slice A2 n2 c2,.int .u32 0,.bool false,.int .u32 0,.int .u32 0,.slice A3 0 c3] 81)):=((b'r _ _).alloc (n'r _) _).alloc (by simp) _
   go_enter Tryz.func79,Tryz.ntmps79
   go_upto_region 2 with fail
   generalize (w.alloc (.cells #[.int .u8 0,.slice A1 0 c1,.int .u32 m,.slice A2 n2 c2,.int .u32 0,.bool false,.int .u32 0,.int .u32 0,.slice A3 0 c3] 81)).alloc (.cells #[.int .u8 0,.slice A1 0 c1,.int .u32 m,.slice A2 n2 c2,.int .u32 0,.bool false,.int .u32 0,.int .u32 0,.slice A3 0 c3] 81)=w1 at k0 k1 kB ⊢
   have x1:=k0.cell 1
   have x2:=k0.cell 2
   have x3:=k0.cell 3
   have x4:=k0.cell 4
   have x8:=k0.cell 8
   have y0:=k1.cell 0
   have y1:=k1.cell 1
   have y2:=k1.cell 2
   have y3:=k1.cell 3
   have y4:=k1.cell 4
   have y5:=k1.cell 5
   have y6:=k1.cell 6
   have y7:=k1.cell 7
   have y8:=k1.cell 8
   have f2:=k1.free 2
   have f3:=k1.free 3
   simp only[q'a,q'z,q's] at x1 x2 x3 x4 x8 y0 y1 y2 y3 y4 y5 y6 y7 y8
   clear k0 k1
   go_wp2_with (go_at_call 83;refine c'm (bits_any m _) ?_;rintro x w2 ⟨rfl,rfl⟩)
   exact ⟨rfl,rfl,((kB.setCell (p:=⟨w.heap.size+1,2,none⟩) (Nat.le_succ _) _).setCell (p:=⟨w.heap.size+1,3,none⟩) (Nat.le_succ _) _)⟩
  ·rw[mayE_t (by simp[hb,hn])]
   have hn2:((n2:Int)==0)=false:=by simp;omega
   have hn3:¬ (n2:Int)=0:=by omega
   have k0:Blk ((w.alloc (.cells #[.int .u8 0,.slice A1 0 c1,.int .u32 m,.slice A2 n2 c2,.int .u32 0,.bool false,.int .u32 0,.int .u32 0,.slice A3 0 c3] 81)).alloc (.cells #[.int .u8 0,.slice A1 0 c1,.int .u32 m,.slice A2 n2 c2,.int .u32 0,.bool false,.int .u32 0,.int .u32 0,.slice A3 0 c3] 81)) w.heap.size 81 #[.int .u8 0,.slice A1 0 c1,.int .u32 m,.slice A2 n2 c2,.int .u32 0,.bool false,.int .u32 0,.int .u32 0,.slice A3 0 c3]:=(Blk.new _ _ _).alloc _
   have k1:Blk ((w.alloc (.cells #[.int .u8 0,.slice A1 0 c1,.int .u32 m,.slice A2 n2 c2,.int .u32 0,.bool false,.int .u32 0,.int .u32 0,.slice A3 0 c3] 81)).alloc (.cells #[.int .u8 0,.slice A1 0 c1,.int .u32 m,.slice A2 n2 c2,.int .u32 0,.bool false,.int .u32 0,.int .u32 0,.slice A3 0 c3] 81)) (w.heap.size+1) 81 #[.int .u8 0,.slice A1 0 c1,.int .u32 m,.slice A2 n2 c2,.int .u32 0,.bool false,.int .u32 0,.int .u32 0,.slice A3 0 c3]:=heap_alloc2_new w _ _
   have kB:Below w.heap.size w ((w.alloc (.cells #[.int .u8 0,.slice A1 0 c1,.int .u32 m,.slice A2 n2 c2,.int .u32 0,.bool false,.int .u32 0,.int .u32 0,.slice A3 0 c3] 81)).alloc (.cells #[.int .u8 0,.slice A1 0 c1,.int .u32 m,.slice A2 n2 c2,.int .u32 0,.bool false,.int .u32 0,.int .u32 0,.slice A3 0 c3] 81)):=((b'r _ _).alloc (n'r _) _).alloc (by simp) _
   go_enter Tryz.func79,Tryz.ntmps79
   go_upto_region 2 with fail
   generalize (w.alloc (.cells #[.int .u8 0,.slice A1 0 c1,.int .u32 m,.slice A2 n2 c2,.int .u32 0,.bool false,.int .u32 0,.int .u32 0,.slice A3 0 c3] 81)).alloc (.cells #[.int .u8 0,.slice A1 0 c1,.int .u32 m,.slice A2 n2 c2,.int .u32 0,.bool false,.int .u32 0,.int .u32 0,.slice A3 0 c3] 81)=w1 at k0 k1 kB ⊢
   have x1:=k0.cell 1
   have x2:=k0.cell 2
   have x3:=k0.cell 3
   have x4:=k0.cell 4
   have x8:=k0.cell 8
   have y0:=k1.cell 0
   have y1:=k1.cell 1
   have y2:=k1.cell 2
   have y3:=k1.cell 3
   have y4:=k1.cell 4
   have y5:=k1.cell 5
   have y6:=k1.cell 6
   have y7:=k1.cell 7
   have y8:=k1.cell 8
   have f2:=k1.free 2
   have f3:=k1.free 3
   simp only[q'a,q'z,q's] at x1 x2 x3 x4 x8 y0 y1 y2 y3 y4 y5 y6 y7 y8
   clear k0 k1
   go_wp2_with (go_at_call 83;refine c'm (bits_any m _) ?_;rintro x w2 ⟨rfl,rfl⟩)
   go_loopg [116] 1 (fun m i wr=>m=1∧i=.int .i64 0∧Below w.heap.size w wr)
   case atStart=>exact ⟨rfl,rfl,((kB.setCell (p:=⟨w.heap.size+1,2,none⟩) (Nat.le_succ _) _).setCell (p:=⟨w.heap.size+1,3,none⟩) (Nat.le_succ _) _)⟩
   case round =>
    obtain ⟨hm,rfl,hB⟩:=hrel
    go_wp2
    go_end0
    exact ⟨rfl,hB⟩
 ·rw[mayE_f (by simp[hb])]
  rw[Bool.not_eq_true] at hb
  have k0:Blk ((w.alloc (.cells #[.int .u8 0,.slice A1 0 c1,.int .u32 m,.slice A2 n2 c2,.int .u32 0,.bool false,.int .u32 0,.int .u32 0,.slice A3 0 c3] 81)).alloc (.cells #[.int .u8 0,.slice A1 0 c1,.int .u32 m,.slice A2 n2 c2,.int .u32 0,.bool false,.int .u32 0,.int .u32 0,.slice A3 0 c3] 81)) w.heap.size 81 #[.int .u8 0,.slice A1 0 c1,.int .u32 m,.slice A2 n2 c2,.int .u32 0,.bool false,.int .u32 0,.int .u32 0,.slice A3 0 c3]:=(Blk.new _ _ _).alloc _
  have k1:Blk ((w.alloc (.cells #[.int .u8 0,.slice A1 0 c1,.int .u32 m,.slice A2 n2 c2,.int .u32 0,.bool false,.int .u32 0,.int .u32 0,.slice A3 0 c3] 81)).alloc (.cells #[.int .u8 0,.slice A1 0 c1,.int .u32 m,.slice A2 n2 c2,.int .u32 0,.bool false,.int .u32 0,.int .u32 0,.slice A3 0 c3] 81)) (w.heap.size+1) 81 #[.int .u8 0,.slice A1 0 c1,.int .u32 m,.slice A2 n2 c2,.int .u32 0,.bool false,.int .u32 0,.int .u32 0,.slice A3 0 c3]:=heap_alloc2_new w _ _
  have kB:Below w.heap.size w ((w.alloc (.cells #[.int .u8 0,.slice A1 0 c1,.int .u32 m,.slice A2 n2 c2,.int .u32 0,.bool false,.int .u32 0,.int .u32 0,.slice A3 0 c3] 81)).alloc (.cells #[.int .u8 0,.slice A1 0 c1,.int .u32 m,.slice A2 n2 c2,.int .u32 0,.bool false,.int .u32 0,.int .u32 0,.slice A3 0 c3] 81)):=((b'r _ _).alloc (n'r _) _).alloc (by simp) _
  go_enter Tryz.func79,Tryz.ntmps79
  go_upto_region 2 with fail
  generalize (w.alloc (.cells #[.int .u8 0,.slice A1 0 c1,.int .u32 m,.slice A2 n2 c2,.int .u32 0,.bool false,.int .u32 0,.int .u32 0,.slice A3 0 c3] 81)).alloc (.cells #[.int .u8 0,.slice A1 0 c1,.int .u32 m,.slice A2 n2 c2,.int .u32 0,.bool false,.int .u32 0,.int .u32 0,.slice A3 0 c3] 81)=w1 at k0 k1 kB ⊢
  have x1:=k0.cell 1
  have x2:=k0.cell 2
  have x3:=k0.cell 3
  have x4:=k0.cell 4
  have x8:=k0.cell 8
  have y0:=k1.cell 0
  have y1:=k1.cell 1
  have y2:=k1.cell 2
  have y3:=k1.cell 3
  have y4:=k1.cell 4
  have y5:=k1.cell 5
  have y6:=k1.cell 6
  have y7:=k1.cell 7
  have y8:=k1.cell 8
  have f2:=k1.free 2
  have f3:=k1.free 3
  simp only[q'a,q'z,q's] at x1 x2 x3 x4 x8 y0 y1 y2 y3 y4 y5 y6 y7 y8
  clear k0 k1
  go_wp2_with (go_at_call 83;refine c'm (bits_any m _) ?_;rintro x w2 ⟨rfl,rfl⟩)
  exact ⟨rfl,rfl,((kB.setCell (p:=⟨w.heap.size+1,2,none⟩) (Nat.le_succ _) _).setCell (p:=⟨w.heap.size+1,3,none⟩) (Nat.le_succ _) _)⟩
set_option maxHeartbeats 3000000 in
theorem may9_any_ (n3:Nat) (h3:n3≤1000000) (A1:Option Addr) (c1:Nat) (A2:Option Addr) (c2:Nat) (A3:Option Addr) (c3:Nat) (w:World):(Calls Tryz.prog 79 #[.int .u8 9,.agg (bodyC 0 A1 0 c1 0 A2 0 c2 0 false 0 0 A3 n3 c3)] w fun e w'=>e=mayE (decide (n3%4=0))∧Below w.heap.size w w')∧(Calls Tryz.prog 79 #[.int .u8 10,.agg (bodyC 0 A1 0 c1 0 A2 0 c2 0 false 0 0 A3 n3 c3)] w fun e w'=>e=mayE (decide (n3%4=0))∧Below w.heap.size w w')∧(Calls Tryz.prog 79 #[.int .u8 11,.agg (bodyC 0 A1 0 c1 0 A2 0 c2 0 false 0 0 A3 n3 c3)] w fun e w'=>e=mayE (decide (n3%4=0))∧Below w.heap.size w w'):=by
 refine ⟨?_,?_,?_⟩
 all_goals
  by_cases hn:n3%4=0
  ·rw[mayE_t (by simp[hn])]
   have hn2:((n3:Int)%4)=0:=by omega
   have hb:=bitsB_zero
   have hw:wrap64 ((n3:Int).tmod 4)=0:=by rw[Int.tmod_eq_emod_of_nonneg (by omega)];unfold wrap64;omega
   have k0:Blk ((w.alloc (.cells #[.int .u8 0,.slice A1 0 c1,.int .u32 0,.slice A2 0 c2,.int .u32 0,.bool false,.int .u32 0,.int .u32 0,.slice A3 n3 c3] 81)).alloc (.cells #[.int .u8 0,.slice A1 0 c1,.int .u32 0,.slice A2 0 c2,.int .u32 0,.bool false,.int .u32 0,.int .u32 0,.slice A3 n3 c3] 81)) w.heap.size 81 #[.int .u8 0,.slice A1 0 c1,.int .u32 0,.slice A2 0 c2,.int .u32 0,.bool false,.int .u32 0,.int .u32 0,.slice A3 n3 c3]:=(Blk.new _ _ _).alloc _
   have k1:Blk ((w.alloc (.cells #[.int .u8 0,.slice A1 0 c1,.int .u32 0,.slice A2 0 c2,.int .u32 0,.bool false,.int .u32 0,.int .u32 0,.slice A3 n3 c3] 81)).alloc (.cells #[.int .u8 0,.slice A1 0 c1,.int .u32 0,.slice A2 0 c2,.int .u32 0,.bool false,.int .u32 0,.int .u32 0,.slice A3 n3 c3] 81)) (w.heap.size+1) 81 #[.int .u8 0,.slice A1 0 c1,.int .u32 0,.slice A2 0 c2,.int .u32 0,.bool false,.int .u32 0,.int .u32 0,.slice A3 n3 c3]:=heap_alloc2_new w _ _
   have kB:Below w.heap.size w ((w.alloc (.cells #[.int .u8 0,.slice A1 0 c1,.int .u32 0,.slice A2 0 c2,.int .u32 0,.bool false,.int .u32 0,.int .u32 0,.slice A3 n3 c3] 81)).alloc (.cells #[.int .u8 0,.slice A1 0 c1,.int .u32 0,.slice A2 0 c2,.int .u32 0,.bool false,.int .u32 0,.int .u32 0,.slice A3 n3 c3] 81)):=((b'r _ _).alloc (n'r _) _).alloc (by simp) _
   go_enter Tryz.func79,Tryz.ntmps79
   go_upto_region 2 with fail
   generalize (w.alloc (.cells #[.int .u8 0,.slice A1 0 c1,.int .u32 0,.slice A2 0 c2,.int .u32 0,.bool false,.int .u32 0,.int .u32 0,.slice A3 n3 c3] 81)).alloc (.cells #[.int .u8 0,.slice A1 0 c1,.int .u32 0,.slice A2 0 c2,.int .u32 0,.bool false,.int .u32 0,.int .u32 0,.slice A3 n3 c3] 81)=w1 at k0 k1 kB ⊢
   have x1:=k0.cell 1
   have x2:=k0.cell 2
   have x3:=k0.cell 3
   have x4:=k0.cell 4
   have x8:=k0.cell 8
   have y0:=k1.cell 0
   have y1:=k1.cell 1
   have y2:=k1.cell 2
   have y3:=k1.cell 3
   have y4:=k1.cell 4
   have y5:=k1.cell 5
   have y6:=k1.cell 6
   have y7:=k1.cell 7
   have y8:=k1.cell 8
   have f8:=k1.free 8
   simp only[q'a,q'z,q's] at x1 x2 x3 x4 x8 y0 y1 y2 y3 y4 y5 y6 y7 y8
   clear k0 k1
   go_wp2_with (go_at_call 83;refine c'm (bits_any 0 _) ?_;rintro x w2 ⟨rfl,rfl⟩)
   go_loopg [116] 1 (fun m i wr=>m=1∧i=.int .i64 0∧Below w.heap.size w wr)
   case atStart=>exact ⟨rfl,rfl,(kB.setCell (p:=⟨w.heap.size+1,8,none⟩) (Nat.le_succ _) _)⟩
   case round =>
    obtain ⟨hm,rfl,hB⟩:=hrel
    go_wp2
    go_end0
    exact ⟨rfl,hB⟩
  ·rw[mayE_f (by simp[hn])]
   have hn2:¬ ((n3:Int)%4)=0:=by omega
   have hb:=bitsB_zero
   have hw:(wrap64 ((n3:Int).tmod 4) != 0)=true:=by rw[Int.tmod_eq_emod_of_nonneg (by omega)];unfold wrap64;simp;omega
   have k0:Blk ((w.alloc (.cells #[.int .u8 0,.slice A1 0 c1,.int .u32 0,.slice A2 0 c2,.int .u32 0,.bool false,.int .u32 0,.int .u32 0,.slice A3 n3 c3] 81)).alloc (.cells #[.int .u8 0,.slice A1 0 c1,.int .u32 0,.slice A2 0 c2,.int .u32 0,.bool false,.int .u32 0,.int .u32 0,.slice A3 n3 c3] 81)) w.heap.size 81 #[.int .u8 0,.slice A1 0 c1,.int .u32 0,.slice A2 0 c2,.int .u32 0,.bool false,.int .u32 0,.int .u32 0,.slice A3 n3 c3]:=(Blk.new _ _ _).alloc _
   have k1:Blk ((w.alloc (.cells #[.int .u8 0,.slice A1 0 c1,.int .u32 0,.slice A2 0 c2,.int .u32 0,.bool false,.int .u32 0,.int .u32 0,.slice A3 n3 c3] 81)).alloc (.cells #[.int .u8 0,.slice A1 0 c1,.int .u32 0,.slice A2 0 c2,.int .u32 0,.bool false,.int .u32 0,.int .u32 0,.slice A3 n3 c3] 81)) (w.heap.size+1) 81 #[.int .u8 0,.slice A1 0 c1,.int .u32 0,.slice A2 0 c2,.int .u32 0,.bool false,.int .u32 0,.int .u32 0,.slice A3 n3 c3]:=heap_alloc2_new w _ _
   have kB:Below w.heap.size w ((w.alloc (.cells #[.int .u8 0,.slice A1 0 c1,.int .u32 0,.slice A2 0 c2,.int .u32 0,.bool false,.int .u32 0,.int .u32 0,.slice A3 n3 c3] 81)).alloc (.cells #[.int .u8 0,.slice A1 0 c1,.int .u32 0,.slice A2 0 c2,.int .u32 0,.bool false,.int .u32 0,.int .u32 0,.slice A3 n3 c3] 81)):=((b'r _ _).alloc (n'r _) _).alloc (by simp) _
   go_enter Tryz.func79,Tryz.ntmps79
   go_upto_region 2 with fail
   generalize (w.alloc (.cells #[.int .u8 0,.slice A1 0 c1,.int .u32 0,.slice A2 0 c2,.int .u32 0,.bool false,.int .u32 0,.int .u32 0,.slice A3 n3 c3] 81)).alloc (.cells #[.int .u8 0,.slice A1 0 c1,.int .u32 0,.slice A2 0 c2,.int .u32 0,.bool false,.int .u32 0,.int .u32 0,.slice A3 n3 c3] 81)=w1 at k0 k1 kB ⊢
   have x1:=k0.cell 1
   have x2:=k0.cell 2
   have x3:=k0.cell 3
   have x4:=k0.cell 4
   have x8:=k0.cell 8
   have y0:=k1.cell 0
   have y1:=k1.cell 1
   have y2:=k1.cell 2
   have y3:=k1.cell 3
   have y4:=k1.cell 4
   have y5:=k1.cell 5
   have y6:=k1.cell 6
   have y7:=k1.cell 7
   have y8:=k1.cell 8
   have f8:=k1.free 8
   simp only[q'a,q'z,q's] at x1 x2 x3 x4 x8 y0 y1 y2 y3 y4 y5 y6 y7 y8
   clear k0 k1
   go_wp2_with (go_at_call 83;refine c'm (bits_any 0 _) ?_;rintro x w2 ⟨rfl,rfl⟩)
   exact ⟨rfl,rfl,(kB.setCell (p:=⟨w.heap.size+1,8,none⟩) (Nat.le_succ _) _)⟩
theorem may9_any (n3:Nat) (h3:n3≤1000000) (A1:Option Addr) (c1:Nat) (A2:Option Addr) (c2:Nat) (A3:Option Addr) (c3:Nat) (w:World):Calls Tryz.prog 79 #[.int .u8 9,.agg (bodyC 0 A1 0 c1 0 A2 0 c2 0 false 0 0 A3 n3 c3)] w fun e w'=>e=mayE (decide (n3%4=0))∧Below w.heap.size w w':=(may9_any_ n3 h3 A1 c1 A2 c2 A3 c3 w).1
theorem may10_any (n3:Nat) (h3:n3≤1000000) (A1:Option Addr) (c1:Nat) (A2:Option Addr) (c2:Nat) (A3:Option Addr) (c3:Nat) (w:World):Calls Tryz.prog 79 #[.int .u8 10,.agg (bodyC 0 A1 0 c1 0 A2 0 c2 0 false 0 0 A3 n3 c3)] w fun e w'=>e=mayE (decide (n3%4=0))∧Below w.heap.size w w':=(may9_any_ n3 h3 A1 c1 A2 c2 A3 c3 w).2.1
theorem may11_any (n3:Nat) (h3:n3≤1000000) (A1:Option Addr) (c1:Nat) (A2:Option Addr) (c2:Nat) (A3:Option Addr) (c3:Nat) (w:World):Calls Tryz.prog 79 #[.int .u8 11,.agg (bodyC 0 A1 0 c1 0 A2 0 c2 0 false 0 0 A3 n3 c3)] w fun e w'=>e=mayE (decide (n3%4=0))∧Below w.heap.size w w':=(may9_any_ n3 h3 A1 c1 A2 c2 A3 c3 w).2.2
set_option maxHeartbeats 1000000 in
theorem may1_any (fl:Int) (ls:List LinkV) (hln:ls.length≤1000000) (A1:Option Addr) (c1:Nat) (A2:Option Addr) (c2:Nat) (A3:Option Addr) (c3:Nat) (B:Nat) (w:World) (hs:Sl w B 4 (.slice A1 ls.length c1) ls.length (ls.flatMap linkC)) (hB:B≤w.heap.size):Calls Tryz.prog 79 #[.int .u8 1,.agg (bodyC fl A1 (ls.length) c1 0 A2 0 c2 0 false 0 0 A3 0 c3)] w fun e w'=>e=mayE (ls.all fun x=>decide (1≤x.type) && decide (x.type≤4))∧Below w.heap.size w w':=by
 have hb:=bitsB_zero
 obtain ⟨r,hr⟩:∃ r,r=mayE (ls.all fun x=>decide (1≤x.type) && decide (x.type≤4)):=⟨_,rfl⟩
 rw[←hr]
 replace hr:=h'd hr
 have hs0:=h'd hs
 have k0:Blk ((w.alloc (.cells #[.int .u8 fl,.slice A1 ls.length c1,.int .u32 0,.slice A2 0 c2,.int .u32 0,.bool false,.int .u32 0,.int .u32 0,.slice A3 0 c3] 81)).alloc (.cells #[.int .u8 fl,.slice A1 ls.length c1,.int .u32 0,.slice A2 0 c2,.int .u32 0,.bool false,.int .u32 0,.int .u32 0,.slice A3 0 c3] 81)) w.heap.size 81 #[.int .u8 fl,.slice A1 ls.length c1,.int .u32 0,.slice A2 0 c2,.int .u32 0,.bool false,.int .u32 0,.int .u32 0,.slice A3 0 c3]:=(Blk.new _ _ _).alloc _
 have k1:Blk ((w.alloc (.cells #[.int .u8 fl,.slice A1 ls.length c1,.int .u32 0,.slice A2 0 c2,.int .u32 0,.bool false,.int .u32 0,.int .u32 0,.slice A3 0 c3] 81)).alloc (.cells #[.int .u8 fl,.slice A1 ls.length c1,.int .u32 0,.slice A2 0 c2,.int .u32 0,.bool false,.int .u32 0,.int .u32 0,.slice A3 0 c3] 81)) (w.heap.size+1) 81 #[.int .u8 fl,.slice A1 ls.length c1,.int .u32 0,.slice A2 0 c2,.int .u32 0,.bool false,.int .u32 0,.int .u32 0,.slice A3 0 c3]:=heap_alloc2_new w _ _
 have kB:Below w.heap.size w ((w.alloc (.cells #[.int .u8 fl,.slice A1 ls.length c1,.int .u32 0,.slice A2 0 c2,.int .u32 0,.bool false,.int .u32 0,.int .u32 0,.slice A3 0 c3] 81)).alloc (.cells #[.int .u8 fl,.slice A1 ls.length c1,.int .u32 0,.slice A2 0 c2,.int .u32 0,.bool false,.int .u32 0,.int .u32 0,.slice A3 0 c3] 81)):=((b'r _ _).alloc (n'r _) _).alloc (by simp) _
 go_enter Tryz.func79,Tryz.ntmps79
 go_upto_region 2 with fail
 generalize (w.alloc (.cells #[.int .u8 fl,.slice A1 ls.length c1,.int .u32 0,.slice A2 0 c2,.int .u32 0,.bool false,.int .u32 0,.int .u32 0,.slice A3 0 c3] 81)).alloc (.cells #[.int .u8 fl,.slice A1 ls.length c1,.int .u32 0,.slice A2 0 c2,.int .u32 0,.bool false,.int .u32 0,.int .u32 0,.slice A3 0 c3] 81)=w1 at k0 k1 kB ⊢
 have x1:=k0.cell 1
 have x2:=k0.cell 2
 have x3:=k0.cell 3
 have x4:=k0.cell 4
 have x8:=k0.cell 8
 have y0:=k1.cell 0
 have y1:=k1.cell 1
 have y2:=k1.cell 2
 have y3:=k1.cell 3
 have y4:=k1.cell 4
 have y5:=k1.cell 5
 have y6:=k1.cell 6
 have y7:=k1.cell 7
 have y8:=k1.cell 8
 have f0:=k1.free 0
 have f1:=k1.free 1
 simp only[q'a,q'z,q's] at x1 x2 x3 x4 x8 y0 y1 y2 y3 y4 y5 y6 y7 y8
 clear k0 k1
 go_wp2_with (go_at_call 83;refine c'm (bits_any 0 _) ?_;rintro x w2 ⟨rfl,rfl⟩)
 go_loopg [116] ls.length (fun m i wr=>∃ k:Nat,k≤ls.length∧m=ls.length-k∧i=.int .i64 k∧(∀ j (h:j<ls.length),j<k→1≤ls[j].type∧ls[j].type≤4)∧Below w.heap.size w wr)
 case atStart=>exact ⟨0,Nat.zero_le _,rfl,rfl,fun _ _ h=>absurd h (Nat.not_lt_zero _),((kB.setCell (p:=⟨w.heap.size+1,0,none⟩) (Nat.le_succ _) _).setCell (p:=⟨w.heap.size+1,1,none⟩) (Nat.le_succ _) _)⟩
 case round =>
  obtain ⟨k,hk,rfl,rfl,hall,hBr⟩:=hrel
  obtain ⟨w3,rfl⟩:∃ x:World,x=wr:=⟨_,rfl⟩
  by_cases hkl:k<ls.length
  ·obtain ⟨b,off,rfl,hb4,hrow⟩:=Sl.row linkC_len (hs0.out.below (hBr.mono hB)) hkl
   have ik:(k:Int)<(ls.length:Int):=by omega
   have hrg:w3.rangeAt b (off+k*4) (linkC ls[k]):=hrow
   have hx:ls[k]∈ls:=g'm hkl
   obtain ⟨xx,hxx⟩:∃ x,x=ls[k]:=⟨_,rfl⟩
   rw[←hxx] at hrg hx
   have hal:=h'd hall
   replace hxx:=h'd hxx
   replace hrow:=h'd hrow
   have hBn:=h'd (below_alloc hBr (n'r _) (.cells #[.int .u32 xx.id,.int .u32 xx.data,.int .u8 xx.type,.int .u16 xx.cost] 99))
   clear hall hs x1 x2 x3 x4 x8 y0 y1 y2 y3 y4 y5 y6 y7 y8 f0 f1 kB
   by_cases h1:xx.type<1
   ·have hrr:r=thrown 28:=by
     rw[hr.out]
     refine mayE_f (Bool.eq_false_iff.2 fun h => ?_)
     have:=List.all_eq_true.1 h xx hx
     simp at this
     omega
    subst hrr
    go_wp2_with (refine wpList_load_mid rfl 99 (.tmp 118) rfl b (off+k*4) rfl (linkC xx) _ hrg Tryz.underlying99 rfl (by kernel_rfl) ?_)
    exact ⟨rfl,rfl,hBn.out⟩
   ·by_cases h2:4<xx.type
    ·have hrr:r=thrown 28:=by
      rw[hr.out]
      refine mayE_f (Bool.eq_false_iff.2 fun h => ?_)
      have:=List.all_eq_true.1 h xx hx
      simp at this
      omega
     subst hrr
     go_wp2_with (refine wpList_load_mid rfl 99 (.tmp 118) rfl b (off+k*4) rfl (linkC xx) _ hrg Tryz.underlying99 rfl (by kernel_rfl) ?_)
     exact ⟨rfl,rfl,hBn.out⟩
    ·go_wp2_with (refine wpList_load_mid rfl 99 (.tmp 118) rfl b (off+k*4) rfl (linkC xx) _ hrg Tryz.underlying99 rfl (by kernel_rfl) ?_)
     go_roundg (ls.length-(k+1))
     case measure=>omega
     case rel=>exact ⟨k+1,by omega,rfl,by go_num,fun j hj hjk=>by
      by_cases hjj:j<k
      ·exact hal.out j hj hjj
      ·obtain rfl:j=k:=by omega
       rw[←hxx.out]
       omega,hBn.out⟩
  ·obtain rfl:k=ls.length:=by omega
   have hrr:r=.returned (.tuple #[]):=by
    rw[hr.out]
    refine mayE_t (List.all_eq_true.2 fun x hx => ?_)
    obtain ⟨j,hj,rfl⟩:=List.getElem_of_mem hx
    have:=hall j hj hj
    simp
    omega
   subst hrr
   clear hall x1 x2 x3 x4 x8 y0 y1 y2 y3 y4 y5 y6 y7 y8 f0 f1
   go_wp2
   go_end0
   exact ⟨rfl,hBr⟩
theorem linkT:ElT Tryz.prog 79 99 4 12:=⟨by kernel_rfl,by
 obtain ⟨i,hi,h1,h2,h3⟩:=info_parts (show (Tryz.prog.info? 99).map (fun i=>(i.zero,i.size,i.bytes))=some (some (.agg #[.int .u32 0,.int .u32 0,.int .u8 0,.int .u16 0]),4,12) by kernel_rfl)
 exact ⟨i,_,hi,h1,h2,h3,rfl⟩,by omega⟩
theorem wordT:ElT Tryz.prog 76 23 1 4:=⟨by kernel_rfl,by
 obtain ⟨i,hi,h1,h2,h3⟩:=info_parts (show (Tryz.prog.info? 23).map (fun i=>(i.zero,i.size,i.bytes))=some (some (.int .u32 0),1,4) by kernel_rfl)
 exact ⟨i,_,hi,h1,h2,h3,rfl⟩,by omega⟩
def BodyAt (W:World) (base:Nat) (cs:Array Value) (b:BodyV):Prop:=
 ∃ A1 c1 A2 c2 A3 c3,cs=bodyC b.flags A1 b.links.length c1 b.mask A2 b.routers.length c2 b.metric b.t2 b.fw b.tg A3 b.data.length c3 ∧
  W.ownsRow base 99 4 (.slice A1 b.links.length c1) b.links.length (b.links.flatMap linkC)∧W.ownsRow base 23 1 (.slice A2 b.routers.length c2) b.routers.length (b.routers.map u32c)∧W.ownsRow base 5 1 (.slice A3 b.data.length c3) b.data.length (b.data.map u8c)
theorem BodyAt.below {W W':World} {base:Nat} {cs:Array Value} {b:BodyV} (h:BodyAt W base cs b) (hb:Below W.heap.size W W'):BodyAt W' base cs b:=by
 obtain ⟨A1,c1,A2,c2,A3,c3,h1,h2,h3,h4⟩:=h
 exact ⟨A1,c1,A2,c2,A3,c3,h1,own_below h2 hb,own_below h3 hb,own_below h4 hb⟩
theorem BodyAt.less {W:World} {base base':Nat} {cs:Array Value} {b:BodyV} (h:BodyAt W base cs b) (hb:base'≤base):BodyAt W base' cs b:=by
 obtain ⟨A1,c1,A2,c2,A3,c3,h1,h2,h3,h4⟩:=h
 exact ⟨A1,c1,A2,c2,A3,c3,h1,own_less h2 hb,own_less h3 hb,own_less h4 hb⟩
theorem BodyAt.zero (W:World) (base:Nat):BodyAt W base (sumC 0 0) zeroB:=⟨none,0,none,0,none,0,rfl,World.ownsRow_nil _ _ _ _,World.ownsRow_nil _ _ _ _,World.ownsRow_nil _ _ _ _⟩
def ReadPost (t:Nat) (bs:List Int) (b:Nat) (w:World) (x:Ending) (w':World):Prop:=
 ∃ cs bv a e,x=.returned (.agg cs)∧BodyAt w' w.heap.size cs bv∧Rd w' b bs a e∧(fitQ t bs=true→bv=readP t bs∧a=bs.length∧e=0)∧(fitQ t bs=false→e≠0∨a<bs.length)∧Below b w w'
theorem nextS_zero {bs:List Int} {a:Nat} {e:Int} {n:Nat} (h:(nextS bs a e n).2=0):e=0∧a+n≤bs.length∧nextS bs a e n=(a+n,0):=by
 unfold nextS at h ⊢
 split at h
 ·next h1=>exact absurd h h1
 ·next h1 =>
  split at h
  ·cases h
  ·next h2 =>
   rw[if_neg h1,if_neg h2]
   exact ⟨by simpa using h1,by omega,rfl⟩
theorem nextS_le {bs:List Int} {a:Nat} {e:Int} {n:Nat} (h:a≤bs.length):(nextS bs a e n).1≤bs.length:=by
 unfold nextS
 split
 ·exact h
 split
 ·exact h
 ·show a+n≤bs.length
  omega
theorem nextB_err {bs:List Int} {a:Nat} {e:Int} {n:Nat} (h:(nextS bs a e n).2≠0):nextB bs a e n=[]:=by
 unfold nextS at h
 unfold nextB
 split at h
 ·next h1=>rw[if_pos h1]
 ·next h1 =>
  split at h
  ·next h2=>rw[if_neg h1,if_pos h2]
  ·exact absurd rfl h
theorem nextB_len (bs:List Int) (a:Nat) (e:Int) (n:Nat):(nextB bs a e n).length≤n:=by
 unfold nextB
 split
 ·exact Nat.zero_le _
 split
 ·exact Nat.zero_le _
 ·rw[List.length_take];omega
theorem nextB_byte {bs:List Int} (hl:∀ x∈bs,0≤x∧x<256) (a:Nat) (e:Int) (n:Nat):∀ x∈nextB bs a e n,0≤x∧x<256:=fun x hx=>by
 unfold nextB at hx
 split at hx
 ·cases hx
 ·split at hx
  ·cases hx
  ·exact hl x (List.mem_of_mem_drop (List.mem_of_mem_take hx))
theorem numB_lt (l:List Int) (k:Nat) (h4:l.length≤k) (hk:k≤4) (h8:∀ x∈l,0≤x∧x<256):numB l<256 ^ k:=by
 rw[numB_eq l (by omega) h8]
 have h1:=(numL_range _ l rfl h8).2
 have h2:=Nat.pow_le_pow_right (n:=256) (by omega) h4
 have h3:(((256:Nat) ^ l.length:Nat):Int)≤((256 ^ k:Nat):Int):=Int.ofNat_le.2 h2
 rw[Int.natCast_pow,Int.natCast_pow] at h3
 exact Int.lt_of_lt_of_le h1 h3
theorem next_lt {bs:List Int} (hl:∀ x∈bs,0≤x∧x<256) (a:Nat) (e:Int) (n:Nat) (hn:n≤4):numB (nextB bs a e n)<256 ^ n:=numB_lt _ n (nextB_len _ _ _ _) hn (nextB_byte hl _ _ _)
theorem head4 (bs:List Int) (s1 s2 s3:Nat × Int) (h1:s1=nextS bs 0 0 1) (h2:s2=nextS bs s1.1 s1.2 1) (h3:s3=nextS bs s2.1 s2.2 2) :
  s3.1≤bs.length∧(s3.2=0→4≤bs.length∧s3.1=4∧nextB bs 0 0 1=bs.take 1∧nextB bs s2.1 s2.2 2=(bs.drop 2).take 2)∧(s3.2≠0→bs.length<4∧nextB bs s2.1 s2.2 2=[]):=by
 refine ⟨by rw[h3,h2,h1];exact nextS_le (nextS_le (nextS_le (Nat.zero_le _))),fun h => ?_,fun h=>⟨?_,?_⟩⟩
 ·rw[h3] at h
  obtain ⟨e2,l2,f3⟩:=nextS_zero h
  rw[h2] at e2
  obtain ⟨e1,l1,f2⟩:=nextS_zero e2
  rw[h1] at e1
  obtain ⟨-,l0,f1⟩:=nextS_zero e1
  rw[←h1] at f1
  rw[←h2,f1] at f2
  rw[←h3,f2] at f3
  have hle:s2.1≤bs.length:=by rw[h2,h1];exact nextS_le (nextS_le (Nat.zero_le _))
  rw[f2] at l2 hle
  simp only at l2 hle
  have l4:4≤bs.length:=by omega
  refine ⟨l4,by rw[f3],?_,?_⟩
  ·rw[nextB_in bs 0 1 (by omega)]
   rfl
  ·rw[f2]
   exact nextB_in bs 2 2 (by omega)
 ·refine Nat.lt_of_not_le fun h4=>h ?_
  rw[h3,h2,h1,nextS_in bs 0 1 (by omega),nextS_in bs _ 1 (by omega),nextS_in bs _ 2 (by omega)]
 ·exact nextB_err (by rw[←h3];exact h)
theorem link12 (bs:List Int) (a:Nat) (e:Int) (ha:a≤bs.length) (s1 s2 s3 s4 s5:Nat × Int) (h1:s1=nextS bs a e 4) (h2:s2=nextS bs s1.1 s1.2 4) (h3:s3=nextS bs s2.1 s2.2 1) (h4:s4=nextS bs s3.1 s3.2 1) (h5:s5=nextS bs s4.1 s4.2 2) :
  s5.1≤bs.length∧(e=0→s5.2=0→a+12≤bs.length∧s5.1=a+12∧linkOf (bs.drop a)=⟨numB (nextB bs a e 4),numB (nextB bs s1.1 s1.2 4),numB (nextB bs s2.1 s2.2 1),numB (nextB bs s4.1 s4.2 2)⟩)∧(s5.2≠0→e=0→bs.length<a+12):=by
 have b1:s1.1≤bs.length:=by rw[h1];exact nextS_le ha
 have b2:s2.1≤bs.length:=by rw[h2];exact nextS_le b1
 have b3:s3.1≤bs.length:=by rw[h3];exact nextS_le b2
 have b4:s4.1≤bs.length:=by rw[h4];exact nextS_le b3
 have b5:s5.1≤bs.length:=by rw[h5];exact nextS_le b4
 refine ⟨b5,fun he h => ?_,fun h he => ?_⟩
 ·subst he
  rw[h5] at h
  obtain ⟨e4,-,f5⟩:=nextS_zero h
  rw[h4] at e4
  obtain ⟨e3,-,f4⟩:=nextS_zero e4
  rw[h3] at e3
  obtain ⟨e2,-,f3⟩:=nextS_zero e3
  rw[h2] at e2
  obtain ⟨e1,-,f2⟩:=nextS_zero e2
  rw[h1] at e1
  obtain ⟨-,-,f1⟩:=nextS_zero e1
  rw[←h1] at f1
  rw[←h2,f1] at f2
  rw[←h3,f2] at f3
  rw[←h4,f3] at f4
  rw[←h5,f4] at f5
  rw[f5] at b5
  simp only at b5
  have l12:a+12≤bs.length:=by omega
  refine ⟨l12,by rw[f5],?_⟩
  rw[f1,f2,f4,nextB_in bs a 4 (by omega)]
  rw[nextB_in bs _ 4 (by omega),nextB_in bs _ 1 (by omega),nextB_in bs _ 2 (by omega)]
  unfold linkOf
  simp only[List.drop_drop]
 ·refine Nat.lt_of_not_le fun h12=>h ?_
  subst he
  rw[h5,h4,h3,h2,h1,nextS_in bs a 4 (by omega),nextS_in bs _ 4 (by omega),nextS_in bs _ 1 (by omega),nextS_in bs _ 1 (by omega),nextS_in bs _ 2 (by omega)]
theorem own_ne8 {w:World} {base:Nat} {e:TypeId} {s n:Nat} {v:Value} {xs:List Value} (h:w.ownsRow base e s v n xs) {g:Nat} {t:TypeId} {cs:Array Value} (hb:Blk w g t cs) (hne:t≠e):∀ k,v.ownBlock=some k→k≠g:=by
 intro k hk e
 subst e
 rcases h.2 with h' | ⟨b,cap,cur,rfl,h1,h2,h3⟩
 ·rw[h'.1] at hk
  simp[Value.ownBlock] at hk
 ·simp only[Value.ownBlock,o'j] at hk
  subst hk
  have h4:=hb.symm.trans h2
  simp only[o'j,Obj.cells.injEq] at h4
  exact hne h4.2.1
def RouR (w:World) (b gB:Nat) (bs:List Int) (fl N e0:Int) (m:Nat) (nv:Value) (wr:World):Prop:=
 ∃ (k a:Nat) (e:Int) (ls:List LinkV) (A:Option Addr) (c:Nat),(k:Int)≤N∧m=N.toNat-k∧nv=.int .u32 (N-k)∧ls.length=k∧Rd wr b bs a e∧Blk wr gB 81 (bodyC fl A ls.length c 0 none 0 0 0 false 0 0 none 0 0)∧wr.ownsRow w.heap.size 99 4 (.slice A ls.length c) ls.length (ls.flatMap linkC)∧Below b w wr ∧
  (∃ cs,Blk wr w.heap.size 81 cs∧cs=sumC 0 0)∧a≤bs.length∧(e=0→e0=0∧a=4+12*k∧ls=linksOf bs k)∧(e≠0→bs.length<4+12*k)
set_option maxRecDepth 100000
set_option maxHeartbeats 4000000 in
theorem readRouter_any (b:Nat) (bs:List Int) (w:World) (h:Rd w b bs 0 0) (hn:bs.length≤1000000) (hl:∀ x∈bs,0≤x∧x<256):Calls Tryz.prog 152 #[.pointer (some ⟨b,0,none⟩)] w fun x w'=>ReadPost 1 bs b w x w':=by
 have hlt:=h.lt
 have k0:Blk (w.alloc (.cells (sumC 0 0) 81)) w.heap.size 81 (sumC 0 0):=Blk.new _ _ _
 have kB:Below b w (w.alloc (.cells (sumC 0 0) 81)):=(b'r _ _).alloc (Nat.le_of_lt hlt) _
 have hR:=h.below ((b'r w.heap.size w).alloc (n'r _) (.cells (sumC 0 0) 81)) hlt
 obtain ⟨s1,hs1⟩:∃ s,s=nextS bs 0 0 1:=⟨_,rfl⟩
 obtain ⟨s2,hs2⟩:∃ s,s=nextS bs s1.1 s1.2 1:=⟨_,rfl⟩
 obtain ⟨s3,hs3⟩:∃ s,s=nextS bs s2.1 s2.2 2:=⟨_,rfl⟩
 have H4:=head4 bs s1 s2 s3 hs1 hs2 hs3
 have C1:=fun W h=>rnum_any b bs 0 0 1 (by omega) (by omega) W h (by omega) hl
 have C2:=fun W h=>rnum_any b bs s1.1 s1.2 1 (by omega) (by omega) W h (by omega) hl
 have C3:=fun W h=>rnum_any b bs s2.1 s2.2 2 (by omega) (by omega) W h (by omega) hl
 rw[←hs1] at C1
 rw[←hs2] at C2
 rw[←hs3] at C3
 have r1:=next_lt hl 0 0 1 (by omega)
 have r3:=next_lt hl s2.1 s2.2 2 (by omega)
 have q1:=numB_range (nextB bs 0 0 1)
 have q3:=numB_range (nextB bs s2.1 s2.2 2)
 have HN:(fitQ 1 bs=true→s3.2=0∧numB (nextB bs 0 0 1)=numB (bs.take 1)∧(bs.length:Int)=4+12*numB (nextB bs s2.1 s2.2 2))∧(fitQ 1 bs=false→s3.2≠0∨¬ ((bs.length:Int)=4+12*numB (nextB bs s2.1 s2.2 2)))∧(s3.2≠0→numB (nextB bs s2.1 s2.2 2)=0):=by
  refine ⟨fun hf => ?_,fun hf => ?_,fun hf=>by rw[(H4.2.2 hf).2];rfl⟩
  ·simp only[fitQ,if_true,decide_eq_true_eq] at hf
   by_cases h0:s3.2=0
   ·obtain ⟨-,-,e1,e2⟩:=H4.2.1 h0
    rw[e1,e2]
    exact ⟨h0,rfl,hf.2⟩
   ·have:=(H4.2.2 h0).1
    omega
  ·simp only[fitQ,if_true,decide_eq_false_iff_not] at hf
   by_cases h0:s3.2=0
   ·obtain ⟨e0,-,-,e2⟩:=H4.2.1 h0
    rw[e2]
    exact .inr fun h=>hf ⟨e0,h⟩
   ·exact .inl h0
 have H5:s3.1≤bs.length∧(s3.2=0→s3.1=4)∧(s3.2≠0→bs.length<4):=⟨H4.1,fun h=>(H4.2.1 h).2.1,fun h=>(H4.2.2 h).1⟩
 obtain ⟨fl,hfl⟩:∃ v,v=numB (nextB bs 0 0 1):=⟨_,rfl⟩
 obtain ⟨N,hN⟩:∃ v,v=numB (nextB bs s2.1 s2.2 2):=⟨_,rfl⟩
 rw[←hfl] at C1 r1 q1 HN
 rw[←hN] at C3 r3 q3 HN
 obtain ⟨z2,hz2⟩:∃ v,v=numB (nextB bs s1.1 s1.2 1):=⟨_,rfl⟩
 rw[←hz2] at C2
 clear H4 hs1 hs2 hs3 hfl hN hz2 h
 have wfl:IntKind.u8.wrap fl=fl:=by rw[IntKind.wrap_u8];omega
 replace r1:fl<256:=r1
 replace r3:N<65536:=r3
 replace C1:=h'd C1
 replace C2:=h'd C2
 replace C3:=h'd C3
 replace HN:=h'd HN
 replace H5:=h'd H5
 have hl8:=h'd hl
 clear hl
 go_enter Tryz.func152,Tryz.ntmps152
 go_upto_region 1 with fail
 generalize w.alloc (.cells #[.int .u8 0,.slice none 0 0,.int .u32 0,.slice none 0 0,.int .u32 0,.bool false,.int .u32 0,.int .u32 0,.slice none 0 0] 81)=w0 at k0 kB hR ⊢
 go_upto_region 2 with (go_at_call 185;refine c'm (C1.out _ hR) ?_;rintro x w1 ⟨rfl,hR1,hP1⟩)
 have j0:Blk (w1.alloc (.cells (bodyC fl none 0 0 0 none 0 0 0 false 0 0 none 0 0) 81)) w.heap.size 81 (sumC 0 0):=(Blk.put hP1 (by omega) k0).alloc _
 have j1:Blk (w1.alloc (.cells (bodyC fl none 0 0 0 none 0 0 0 false 0 0 none 0 0) 81)) w1.heap.size 81 (bodyC fl none 0 0 0 none 0 0 0 false 0 0 none 0 0):=Blk.new _ _ _
 have jz:=(Blk.put hP1 (by omega) k0).lt
 have jB0:Below b w w1:=hP1.below kB (n'r _)
 have jB:Below b w (w1.alloc (.cells (bodyC fl none 0 0 0 none 0 0 0 false 0 0 none 0 0) 81)):=below_alloc jB0 (Nat.le_of_lt hlt) _
 have jR:Rd (w1.alloc (.cells (bodyC fl none 0 0 0 none 0 0 0 false 0 0 none 0 0) 81)) b bs s1.1 s1.2:=hR1.below ((b'r _ _).alloc (n'r _) _) hR1.lt
 dsimp only[bodyC] at j0 j1 jB jR
 obtain ⟨g,hg⟩:∃ g,g=w1.heap.size:=⟨_,rfl⟩
 rw[←hg] at j1 jz ⊢
 generalize (w1.alloc (.cells #[.int .u8 fl,.slice none 0 0,.int .u32 0,.slice none 0 0,.int .u32 0,.bool false,.int .u32 0,.int .u32 0,.slice none 0 0] 81))=w2 at j0 j1 jB jR ⊢
 clear hg jB0 hR1 hP1 C1 k0 kB hR
 go_upto_region 3 with (go_at_call 185;refine c'm (C2.out _ jR) ?_;rintro x w3 ⟨rfl,jR3,hP3⟩)
 have i0:=Blk.put hP3 (by omega) j0
 have i1:=Blk.put hP3 (by omega) j1
 have iB:=hP3.below jB (n'r _)
 clear j0 j1 jB jR hP3 C2
 go_wp2_with (go_at_call 185;refine c'm (C3.out _ jR3) ?_;rintro x w4 ⟨rfl,jR4,hP4⟩;have j0:=Blk.put hP4 (by omega) i0;have j1:=Blk.put hP4 (by omega) i1;have jB:=hP4.below iB (n'r _))
 clear i0 i1 iB jR3 hP4 C3
 go_loopg [4] N.toNat (fun m nv wr=>RouR w b g bs fl N s3.2 m nv wr)
 case atStart =>
  refine ⟨0,s3.1,s3.2,[],none,0,by omega,rfl,by simp,rfl,jR4,j1,World.ownsRow_nil _ _ _ _,jB,⟨_,j0,rfl⟩,H5.out.1,fun h=>⟨h,H5.out.2.1 h,rfl⟩,fun h=>by have:=H5.out.2.2 h;omega⟩
 case round =>
  obtain ⟨k,a,e,ls,A,c,hk,rfl,rfl,hls,hRd,hb,ho,hB,⟨cs0,hb0,rfl⟩,hal,he0,he1⟩:=hrel
  obtain ⟨w5,rfl⟩:∃ x:World,x=wr:=⟨_,rfl⟩
  replace hls:=h'd hls
  by_cases hkN:(k:Int)<N
  ·by_cases hee:e=0
   ·have wN:IntKind.u32.wrap (N-k-1)=N-(k+1:Nat):=by rw[IntKind.wrap_u32];omega
    have kN:(0:Int)<N-k:=by omega
    have hee2:(e==0)=true:=by simpa using hee
    obtain ⟨t1,ht1⟩:∃ s,s=nextS bs a e 4:=⟨_,rfl⟩
    obtain ⟨t2,ht2⟩:∃ s,s=nextS bs t1.1 t1.2 4:=⟨_,rfl⟩
    obtain ⟨t3,ht3⟩:∃ s,s=nextS bs t2.1 t2.2 1:=⟨_,rfl⟩
    obtain ⟨t4,ht4⟩:∃ s,s=nextS bs t3.1 t3.2 1:=⟨_,rfl⟩
    obtain ⟨t5,ht5⟩:∃ s,s=nextS bs t4.1 t4.2 2:=⟨_,rfl⟩
    have L12:=link12 bs a e hal t1 t2 t3 t4 t5 ht1 ht2 ht3 ht4 ht5
    have D1:=fun W h=>rnum_any b bs a e 4 (by omega) (by omega) W h (by omega) hl8.out
    have D2:=fun W h=>rnum_any b bs t1.1 t1.2 4 (by omega) (by omega) W h (by omega) hl8.out
    have D3:=fun W h=>rnum_any b bs t2.1 t2.2 1 (by omega) (by omega) W h (by omega) hl8.out
    have D4:=fun W h=>rnum_any b bs t3.1 t3.2 1 (by omega) (by omega) W h (by omega) hl8.out
    have D5:=fun W h=>rnum_any b bs t4.1 t4.2 2 (by omega) (by omega) W h (by omega) hl8.out
    rw[←ht1] at D1
    rw[←ht2] at D2
    rw[←ht3] at D3
    rw[←ht4] at D4
    rw[←ht5] at D5
    have p3:=next_lt hl8.out t2.1 t2.2 1 (by omega)
    have p5:=next_lt hl8.out t4.1 t4.2 2 (by omega)
    have o3:=numB_range (nextB bs t2.1 t2.2 1)
    have o5:=numB_range (nextB bs t4.1 t4.2 2)
    generalize numB (nextB bs a e 4)=x1 at D1 L12
    generalize numB (nextB bs t1.1 t1.2 4)=x2 at D2 L12
    generalize numB (nextB bs t2.1 t2.2 1)=x3 at D3 L12 p3 o3
    generalize numB (nextB bs t3.1 t3.2 1)=x4 at D4
    generalize numB (nextB bs t4.1 t4.2 2)=x5 at D5 L12 p5 o5
    clear ht1 ht2 ht3 ht4 ht5
    have w3':IntKind.u8.wrap x3=x3:=by rw[IntKind.wrap_u8];omega
    have w5':IntKind.u16.wrap x5=x5:=by rw[IntKind.wrap_u16];omega
    clear p3 o3 p5 o5
    replace L12:=h'd L12
    replace D1:=h'd D1
    replace D2:=h'd D2
    replace D3:=h'd D3
    replace D4:=h'd D4
    replace D5:=h'd D5
    have hg0:=hb.lt
    replace he0:=h'd he0
    replace he1:=h'd he1
    have G:∀ {W:World},Put w5 b 211 W→Blk W g 81 (bodyC fl A ls.length c 0 none 0 0 0 false 0 0 none 0 0)∧Blk W w.heap.size 81 (sumC 0 0)∧W.ownsRow w.heap.size 99 4 (.slice A ls.length c) ls.length (ls.flatMap linkC)∧Below b w W:=fun P=>⟨Blk.put P (by omega) hb,Blk.put P (by omega) hb0,own_put P ho (by decide),P.below hB (n'r _)⟩
    have zg:=hb0.lt
    clear hb ho hb0 hB
    go_upto_region 7 with (first
     | (have _q:=hR8;go_at_call 185;refine c'm (D3.out _ hR8) ?_;rintro x w9 ⟨rfl,hR9,hP9⟩;obtain ⟨hb9,hb09,ho9,hB9⟩:=G (putT (putT hP7 hP8) hP9))
     | (have _q:=hR7;go_at_call 185;refine c'm (D2.out _ hR7) ?_;rintro x w8 ⟨rfl,hR8,hP8⟩)
     | (go_at_call 77;refine c'm (rerr_any b bs a e _ hRd) ?_;rintro x w6 ⟨rfl,rfl⟩)
     | (go_at_call 185;refine c'm (D1.out _ hRd) ?_;rintro x w7 ⟨rfl,hR7,hP7⟩)
     | fail)
    have k9:Below w9.heap.size w9 (w9.alloc (.cells #[.int .u32 x1,.int .u32 x2,.int .u8 x3,.int .u16 0] 99)):=(b'r _ _).alloc (n'r _) _
    have jl:Blk (w9.alloc (.cells #[.int .u32 x1,.int .u32 x2,.int .u8 x3,.int .u16 0] 99)) w9.heap.size 99 #[.int .u32 x1,.int .u32 x2,.int .u8 x3,.int .u16 0]:=Blk.new _ _ _
    have jz:=hb9.lt
    have jlt:∀ j,(Value.slice A ls.length c).ownBlock=some j→j<w9.heap.size:=fun j hj=>(ho9.lt j hj).2
    have jR:=hR9.below k9 hR9.lt
    have jb:=hb9.below k9 hb9.lt
    have jb0:=hb09.below k9 hb09.lt
    have jo:=own_below ho9 k9
    have jB:=hB9.trans (k9.mono (by have:=hB9.size;omega))
    clear G hR7 hR8 hR9 hP7 hP8 hP9 _q D1 D2 D3 hb9 hb09 ho9 hB9 k9
    generalize hg2:w9.heap.size=g2 at jl jz jlt ⊢
    generalize w9.alloc (.cells #[.int .u32 x1,.int .u32 x2,.int .u8 x3,.int .u16 0] 99)=wa at jl jR jb jb0 jo jB ⊢
    clear hg2
    go_upto_region 8 with (go_at_call 185;refine c'm (D4.out _ jR) ?_;rintro x wb ⟨rfl,hRb,hPb⟩)
    have ib:=Blk.put hPb (by omega) jb
    have ib0:=Blk.put hPb (by omega) jb0
    have il:=Blk.put hPb (by omega) jl
    have io:=own_put hPb jo (by decide)
    have iB:=hPb.below jB (n'r _)
    clear jR jb jb0 jo jB jl hPb D4
    go_upto_region 9 with (go_at_call 185;refine c'm (D5.out _ hRb) ?_;rintro x wc ⟨rfl,hRc,hPc⟩;have il2:=Blk.put hPc (by omega) il;have f3:=il2.free 3;have y3:=il2.cell 3;simp only[q'a,q'z,q's] at y3)
    have jl:=il2.set_ 3 (.int .u16 x5)
    simp only[s'a,s'z,s's] at jl
    have jP:Below g2 wc (wc.setCell ⟨g2,3,none⟩ (.int .u16 x5)):=(b'r _ _).setCell (p:=⟨g2,3,none⟩) (n'r _) _
    have jb:=(Blk.put hPc (by omega) ib).below jP jz
    have jb0:=(Blk.put hPc (by omega) ib0).below jP (by omega)
    have jo:=own_same (own_put hPc io (by decide)) fun j hj=>Below.heap_setCell wc ⟨g2,3,none⟩ (.int .u16 x5) j (by have:=jlt j hj;show j≠g2;omega)
    have jB:=(hPc.below iB (n'r _)).trans (jP.mono (by omega))
    have jR:=hRc.below jP (by omega)
    clear ib ib0 il io iB hRb hRc hPc D5 il2 f3 y3 jP
    generalize wc.setCell ⟨g2,3,none⟩ (.int .u16 x5)=wd at jl jb jb0 jo jB jR ⊢
    have y1:=jb.cell 1
    simp only[q'a,q'z,q's] at y1
    have lsz:ls.length≤1000000:=by have:=hls.out;omega
    have jo2:=own_alloc jo (.cells #[.int .u32 x1,.int .u32 x2,.int .u8 x3,.int .u16 x5] 99)
    have jb2:=jb.alloc (.cells #[.int .u32 x1,.int .u32 x2,.int .u8 x3,.int .u16 x5] 99)
    have jb02:=jb0.alloc (.cells #[.int .u32 x1,.int .u32 x2,.int .u8 x3,.int .u16 x5] 99)
    have jB2:=below_alloc jB (Nat.le_of_lt hlt) (.cells #[.int .u32 x1,.int .u32 x2,.int .u8 x3,.int .u16 x5] 99)
    have jR2:=jR.below ((b'r wd.heap.size wd).alloc (n'r _) (.cells #[.int .u32 x1,.int .u32 x2,.int .u8 x3,.int .u16 x5] 99)) jR.lt
    have zd:=jb0.lt
    go_wp2_with (first
     | (refine wpList_load_row rfl 99 (.tmp 5) rfl g2 rfl 99 #[.int .u32 x1,.int .u32 x2,.int .u8 x3,.int .u16 x5] (0,0) _ jl Tryz.underlying99 rfl (by kernel_rfl) ?_)
     | (at_builtin;refine wpList_append rfl (.tmp 38) (.tmp 40) 79 rfl w.heap.size linkT (.slice A ls.length c) ls.length (ls.flatMap linkC) rfl jo2 _ _ 1 [.int .u32 x1,.int .u32 x2,.int .u8 x3,.int .u16 x5] rfl (Sl.lit wd #[.int .u32 x1,.int .u32 x2,.int .u8 x3,.int .u16 x5] 99 (by simp[maxLen]) rfl) (by simp[Value.oneCell']) (by simp only[maxLen];omega) (by omega) (by simp;omega) ?_;intro v7 w7 ho7 hg7 hob7;obtain ⟨-,A7,c7,rfl,-⟩:=Sl.of_own ho7;have hb7:Blk w7 g 81 _:=jb2.same (hg7.block g jb2.lt fun e=>own_ne8 jo2 jb2 (by decide) g e.symm rfl);have f1:=hb7.free 1;have y7:=hb7.cell 1;simp only[q'a,q'z,q's] at y7)
     | fail)
    have hb8:=hb7.set_ 1 (.slice A7 (ls.length+1) c7)
    simp only[s'a,s'z,s's] at hb8
    have hb08:Blk w7 w.heap.size 81 (sumC 0 0):=jb02.same (hg7.block _ jb02.lt fun e=>own_ne8 jo2 jb02 (by decide) _ e.symm rfl)
    have hB8:Below b w w7:=jB2.trans (below_of_grown hg7 (by simp;omega) fun g hg=>by have:=(jo2.lt g hg).1;omega)
    have hR8:Rd w7 b bs t5.1 t5.2:=jR2.below (below_of_grown hg7 (by simp;omega) fun g hg=>(jo2.lt g hg).1) hlt
    go_roundg (N.toNat-(k+1))
    case measure=>omega
    case rel =>
     refine ⟨k+1,t5.1,t5.2,ls++[⟨x1,x2,x3,x5⟩],A7,c7,by omega,rfl,by congr 1,by rw[l'a,hls.out];rfl,hR8.far (p:=⟨g,1,none⟩) (by simp;omega) _,?_,?_,hB8.setCell (p:=⟨g,1,none⟩) (by simp;omega) _,⟨_,hb08.far (p:=⟨g,1,none⟩) (by simp;omega) _,rfl⟩,L12.out.1,fun h => ?_,fun h => ?_⟩
     ·rw[l'a]
      exact hb8
     ·rw[l'a,List.flatMap_append]
      exact own_same ho7 fun j hj=>Below.heap_setCell w7 ⟨g,1,none⟩ _ j (own_ne8 ho7 hb7 (by decide) j hj)
     ·obtain ⟨e1,e2,e3⟩:=he0.out hee
      obtain ⟨l1,l2,l3⟩:=L12.out.2.1 hee h
      refine ⟨e1,by omega,?_⟩
      rw[linksOf_succ,e3,←l3,e2]
     ·obtain ⟨e1,e2,e3⟩:=he0.out hee
      have:=L12.out.2.2 h hee
      omega
   ·have hee2:(e==0)=false:=by simpa using hee
    have kN:(0:Int)<N-k:=by omega
    go_wp2_with (first
     | (go_at_call 77;refine c'm (rerr_any b bs a e _ hRd) ?_;rintro x w6 ⟨rfl,rfl⟩)
     | (refine wpList_load_row rfl 81 (.tmp 3) rfl g rfl 81 (bodyC fl A ls.length c 0 none 0 0 0 false 0 0 none 0 0) (0,0) _ hb Tryz.underlying81 rfl (by kernel_rfl) ?_)
     | (refine wpList_store_row rfl 81 (.tmp 2) (.tmp 43) rfl w.heap.size (bodyC fl A ls.length c 0 none 0 0 0 false 0 0 none 0 0) rfl rfl 81 (sumC 0 0) hb0 (by kernel_rfl) rfl (by simp[Value.oneCell']) ?_))
    have hset:Blk (w6.setRow w.heap.size (bodyC fl A ls.length c 0 none 0 0 0 false 0 0 none 0 0)) w.heap.size 81 (bodyC fl A ls.length c 0 none 0 0 0 false 0 0 none 0 0):=setRow_heap w6 w.heap.size (sumC 0 0) (bodyC fl A ls.length c 0 none 0 0 0 false 0 0 none 0 0) 81 (0,0) hb0
    have hB3:Below w.heap.size w6 (w6.setRow w.heap.size (bodyC fl A ls.length c 0 none 0 0 0 false 0 0 none 0 0)):=⟨rfl,rfl,rfl,by simp[World.setRow],fun k hk=>setRow_other _ _ k _ (by omega)⟩
    refine bodyPost_ret (results_cell_row rfl _ _ w.heap.size 81 (bodyC fl A ls.length c 0 none 0 0 0 false 0 0 none 0 0) (0,0) _ rfl hset Tryz.underlying81 rfl (by kernel_rfl)) rfl ?_
    refine ⟨_,⟨fl,ls,0,[],0,false,0,0,[]⟩,a,e,rfl,⟨A,c,none,0,none,0,rfl,own_same ho fun j hj=>setRow_other _ _ j _ (own_ne8 ho hb0 (by decide) j hj),World.ownsRow_nil _ _ _ _,World.ownsRow_nil _ _ _ _⟩,hRd.below hB3 hlt,fun hf => ?_,fun hf => ?_,hB.trans (hB3.mono (Nat.le_of_lt hlt))⟩
    ·obtain ⟨h1,h2,h3⟩:=HN.out.1 hf
     have:=he1 hee
     omega
    ·exact .inl hee
  ·obtain rfl:N=(k:Int):=by omega
   rw[Int.sub_self]
   go_wp2_with (first
    | (refine wpList_load_row rfl 81 (.tmp 3) rfl g rfl 81 (bodyC fl A ls.length c 0 none 0 0 0 false 0 0 none 0 0) (0,0) _ hb Tryz.underlying81 rfl (by kernel_rfl) ?_)
    | (refine wpList_store_row rfl 81 (.tmp 2) (.tmp 43) rfl w.heap.size (bodyC fl A ls.length c 0 none 0 0 0 false 0 0 none 0 0) rfl rfl 81 (sumC 0 0) hb0 (by kernel_rfl) rfl (by simp[Value.oneCell']) ?_))
   have hset:Blk (w5.setRow w.heap.size (bodyC fl A ls.length c 0 none 0 0 0 false 0 0 none 0 0)) w.heap.size 81 (bodyC fl A ls.length c 0 none 0 0 0 false 0 0 none 0 0):=setRow_heap w5 w.heap.size (sumC 0 0) (bodyC fl A ls.length c 0 none 0 0 0 false 0 0 none 0 0) 81 (0,0) hb0
   have hB3:Below w.heap.size w5 (w5.setRow w.heap.size (bodyC fl A ls.length c 0 none 0 0 0 false 0 0 none 0 0)):=⟨rfl,rfl,rfl,by simp[World.setRow],fun k hk=>setRow_other _ _ k _ (by omega)⟩
   refine bodyPost_ret (results_cell_row rfl _ _ w.heap.size 81 (bodyC fl A ls.length c 0 none 0 0 0 false 0 0 none 0 0) (0,0) _ rfl hset Tryz.underlying81 rfl (by kernel_rfl)) rfl ?_
   refine ⟨_,⟨fl,ls,0,[],0,false,0,0,[]⟩,a,e,rfl,⟨A,c,none,0,none,0,rfl,own_same ho fun j hj=>setRow_other _ _ j _ (own_ne8 ho hb0 (by decide) j hj),World.ownsRow_nil _ _ _ _,World.ownsRow_nil _ _ _ _⟩,hRd.below hB3 hlt,fun hf => ?_,fun hf => ?_,hB.trans (hB3.mono (Nat.le_of_lt hlt))⟩
   ·obtain ⟨h1,h2,h3⟩:=HN.out.1 hf
    by_cases hee:e=0
    ·obtain ⟨-,e2,e3⟩:=he0 hee
     refine ⟨?_,by omega,hee⟩
     subst e3
     show (⟨fl,linksOf bs k,0,[],0,false,0,0,[]⟩:BodyV)=_
     unfold readP
     rw[if_pos rfl,show (bs.length-4) / 12=k by omega,←h2]
     rfl
    ·have:=he1 hee
     omega
   ·by_cases hee:e=0
    ·obtain ⟨e1,e2,-⟩:=he0 hee
     refine .inr ?_
     rcases HN.out.2.1 hf with h | h
     ·exact absurd e1 h
     ·omega
    ·exact .inl hee
set_option maxRecDepth 100000
def NetR (w:World) (b gB:Nat) (bs:List Int) (mk:Int) (m:Nat) (wr:World):Prop:=
 ∃ (k a:Nat) (e:Int) (ls:List Int) (A:Option Addr) (c:Nat),m=(if e=0 then bs.length+4-a else 0)∧ls.length=k∧Rd wr b bs a e∧Blk wr gB 81 (bodyC 0 none 0 0 mk A ls.length c 0 false 0 0 none 0 0)∧wr.ownsRow w.heap.size 23 1 (.slice A ls.length c) ls.length (ls.map u32c)∧Below b w wr ∧
  (∃ cs,Blk wr w.heap.size 81 cs∧cs=sumC 0 0)∧a≤bs.length∧(e=0→a=4+4*k∧ls=wordsOf bs k∧mk=numB (bs.take 4))∧(e≠0→fitQ 2 bs=false∧ls.length≤bs.length+1)∧ls.length≤bs.length+1
set_option maxHeartbeats 4000000 in
theorem readNetwork_any (b:Nat) (bs:List Int) (w:World) (h:Rd w b bs 0 0) (hn:bs.length≤1000000) (hl:∀ x∈bs,0≤x∧x<256):Calls Tryz.prog 154 #[.pointer (some ⟨b,0,none⟩)] w fun x w'=>ReadPost 2 bs b w x w':=by
 have hlt:=h.lt
 have k0:Blk (w.alloc (.cells (sumC 0 0) 81)) w.heap.size 81 (sumC 0 0):=Blk.new _ _ _
 have kB:Below b w (w.alloc (.cells (sumC 0 0) 81)):=(b'r _ _).alloc (Nat.le_of_lt hlt) _
 have hR:=h.below ((b'r w.heap.size w).alloc (n'r _) (.cells (sumC 0 0) 81)) hlt
 obtain ⟨s1,hs1⟩:∃ s,s=nextS bs 0 0 4:=⟨_,rfl⟩
 have C1:=fun W h=>rnum_any b bs 0 0 4 (by omega) (by omega) W h (by omega) hl
 rw[←hs1] at C1
 have HN:s1.1≤bs.length∧(s1.2=0→s1.1=4∧numB (nextB bs 0 0 4)=numB (bs.take 4))∧(s1.2≠0→fitQ 2 bs=false):=by
  refine ⟨by rw[hs1];exact nextS_le (Nat.zero_le _),fun h0 => ?_,fun h0 => ?_⟩
  ·rw[hs1] at h0
   obtain ⟨-,l0,f0⟩:=nextS_zero h0
   rw[hs1,f0,nextB_in bs 0 4 l0]
   exact ⟨rfl,rfl⟩
  ·simp only[fitQ]
   rw[if_neg (by omega),if_pos trivial,decide_eq_false_iff_not]
   intro h4
   rw[hs1,nextS_in bs 0 4 (by omega)] at h0
   exact h0 rfl
 obtain ⟨mk,hmk⟩:∃ v,v=numB (nextB bs 0 0 4):=⟨_,rfl⟩
 rw[←hmk] at C1 HN
 clear hs1 hmk h
 replace C1:=h'd C1
 replace HN:=h'd HN
 have hl8:=h'd hl
 clear hl
 go_enter Tryz.func154,Tryz.ntmps154
 go_upto_region 1 with fail
 generalize w.alloc (.cells #[.int .u8 0,.slice none 0 0,.int .u32 0,.slice none 0 0,.int .u32 0,.bool false,.int .u32 0,.int .u32 0,.slice none 0 0] 81)=w0 at k0 kB hR ⊢
 go_wp2_with (go_at_call 185;refine c'm (C1.out _ hR) ?_;rintro x w1 ⟨rfl,hR1,hP1⟩;have jz:=(Blk.put hP1 (by omega) k0).lt;have i0:=Blk.put hP1 (by omega) k0;have iB:=hP1.below kB (n'r _))
 have j0:Blk (w1.alloc (.cells (bodyC 0 none 0 0 mk none 0 0 0 false 0 0 none 0 0) 81)) w.heap.size 81 (sumC 0 0):=i0.alloc _
 have j1:Blk (w1.alloc (.cells (bodyC 0 none 0 0 mk none 0 0 0 false 0 0 none 0 0) 81)) w1.heap.size 81 (bodyC 0 none 0 0 mk none 0 0 0 false 0 0 none 0 0):=Blk.new _ _ _
 have jB:Below b w (w1.alloc (.cells (bodyC 0 none 0 0 mk none 0 0 0 false 0 0 none 0 0) 81)):=below_alloc iB (Nat.le_of_lt hlt) _
 have jR:Rd (w1.alloc (.cells (bodyC 0 none 0 0 mk none 0 0 0 false 0 0 none 0 0) 81)) b bs s1.1 s1.2:=hR1.below ((b'r _ _).alloc (n'r _) _) hR1.lt
 clear iB i0 k0 kB hR hR1 hP1
 generalize hg:w1.heap.size=g at j1 jz ⊢
 dsimp only[bodyC] at j0 j1 jB jR
 generalize (w1.alloc (.cells #[.int .u8 0,.slice none 0 0,.int .u32 mk,.slice none 0 0,.int .u32 0,.bool false,.int .u32 0,.int .u32 0,.slice none 0 0] 81))=w2 at j0 j1 jB jR ⊢
 clear hg C1
 go_loopg [] (if s1.2=0 then bs.length+4-s1.1 else 0) (fun m wr=>NetR w b g bs mk m wr)
 case atStart =>
  exact ⟨0,s1.1,s1.2,[],none,0,rfl,rfl,jR,j1,World.ownsRow_nil _ _ _ _,jB,⟨_,j0,rfl⟩,HN.out.1,fun h=>⟨(HN.out.2.1 h).1,rfl,(HN.out.2.1 h).2⟩,fun h=>⟨HN.out.2.2 h,Nat.zero_le _⟩,Nat.zero_le _⟩
 case round =>
  obtain ⟨k,a,e,ls,A,c,rfl,hls,hRd,hb,ho,hB,⟨cs0,hb0,rfl⟩,hal,he0,he1,hlb⟩:=hrel
  obtain ⟨w5,rfl⟩:∃ x:World,x=wr:=⟨_,rfl⟩
  replace hls:=h'd hls
  have CL:=h'd (rleft_any b bs a e w5 hRd (by omega))
  by_cases hle:0<leftR bs a e
  ·have hee:e=0:=by
    refine Decidable.byContradiction fun h => ?_
    unfold leftR at hle
    rw[if_neg h] at hle
    omega
   subst hee
   have hle2:=d't hle
   have hle3:(a:Int)<bs.length:=by
    unfold leftR at hle
    rw[if_pos rfl] at hle
    omega
   clear hle
   generalize leftR bs a 0=lf at CL hle2
   obtain ⟨t1,ht1⟩:∃ s,s=nextS bs a 0 4:=⟨_,rfl⟩
   have D1:=fun W h=>rnum_any b bs a 0 4 (by omega) (by omega) W h (by omega) hl8.out
   rw[←ht1] at D1
   have L4:t1.1≤bs.length∧(t1.2=0→a+4≤bs.length∧t1.1=a+4∧numB (nextB bs a 0 4)=numB ((bs.drop a).take 4))∧(t1.2≠0→bs.length<a+4):=by
    refine ⟨by rw[ht1];exact nextS_le hal,fun h0 => ?_,fun h0 => ?_⟩
    ·rw[ht1] at h0
     obtain ⟨-,l0,f0⟩:=nextS_zero h0
     rw[ht1,f0,nextB_in bs a 4 l0]
     exact ⟨l0,rfl,rfl⟩
    ·refine Nat.lt_of_not_le fun h4=>h0 ?_
     rw[ht1,nextS_in bs a 4 (by omega)]
   generalize numB (nextB bs a 0 4)=x1 at D1 L4
   clear ht1
   replace L4:=h'd L4
   replace D1:=h'd D1
   replace he0:=h'd he0
   clear he1
   go_upto_region 3 with (first
    | (go_at_call 78;refine c'm CL.out ?_;rintro x w6 ⟨rfl,k6⟩;have hR6:=hRd.below k6 hRd.lt)
    | (go_at_call 77;refine c'm (rerr_any b bs a 0 _ hR6) ?_;rintro x w7 ⟨rfl,rfl⟩))
   have hb6:=hb.below k6 hb.lt
   have hb06:=hb0.below k6 hb0.lt
   have ho6:=own_below ho k6
   have hB6:=below_call hB k6 (Nat.le_of_lt hlt)
   clear hRd hb hb0 ho hB k6 CL
   have y3:=hb6.cell 3
   simp only[q'a,q'z,q's] at y3
   have zg:=hb6.lt
   have z0:=hb06.lt
   have CN:=h'd (D1.out w7.drew hR6)
   have lsz:ls.length≤1000001:=by omega
   go_region_law
    (first
     | (go_simp;go_at_call 185;refine c'm CN.out ?_;rintro x wb ⟨rfl,hRb,hPb⟩;have hbb:=Blk.put hPb (by omega) (Blk.drew_ hb6);have y3b:=hbb.cell 3;simp only[q'a,q'z,q's] at y3b;have zb:=hbb.lt;have hob:=own_alloc (own_put hPb ho6.drew (by decide)) (.cells #[.int .u32 x1] 23))
     | (refine step_append rfl (.tmp 16) (.tmp 19) 76 rfl w.heap.size wordT (.slice A ls.length c) ls.length (ls.map u32c) rfl hob _ _ 1 [.int .u32 x1] rfl (Sl.lit wb #[.int .u32 x1] 23 (by simp[maxLen]) rfl) (by simp[Value.oneCell']) (by simp only[maxLen];omega) (by omega) (by simp;omega) ?_;intro v7 w8 ho7 hg7 hob7;obtain ⟨-,A7,c7,rfl,-⟩:=Sl.of_own ho7;have jb2:=hbb.alloc (.cells #[.int .u32 x1] 23);have hb7:Blk w8 g 81 _:=jb2.same (hg7.block g jb2.lt fun e=>own_ne8 hob jb2 (by decide) g e.symm rfl);have f3:=hb7.free 3;have y7:=hb7.cell 3;simp only[q'a,q'z,q's] at y7))
   all_goals
    have hb8:=hb7.set_ 3 (.slice A7 (ls.length+1) c7)
    simp only[s'a,s'z,s's] at hb8
    have jb02:=(Blk.put hPb (by omega) (Blk.drew_ hb06)).alloc (.cells #[.int .u32 x1] 23)
    have hb08:Blk w8 w.heap.size 81 (sumC 0 0):=jb02.same (hg7.block _ jb02.lt fun e=>own_ne8 hob jb02 (by decide) _ e.symm rfl)
    have hBw:=below_of_grown (base:=w.heap.size) hg7 (by simp;omega) fun g hg=>(hob.lt g hg).1
    have hB8:Below b w w8:=(below_alloc (hPb.below hB6.drew (n'r _)) (Nat.le_of_lt hlt) _).trans (hBw.mono (Nat.le_of_lt hlt))
    have hR8:Rd w8 b bs t1.1 t1.2:=(hRb.below ((b'r wb.heap.size wb).alloc (n'r _) (.cells #[.int .u32 x1] 23)) hRb.lt).below hBw hlt
    go_wp2
    go_roundg (if t1.2=0 then bs.length+4-t1.1 else 0)
    case measure =>
     split
     ·next h=>have:=L4.out.2.1 h;omega
     ·omega
    case rel =>
     refine ⟨k+1,t1.1,t1.2,ls++[x1],A7,c7,rfl,by rw[l'a,hls.out];rfl,hR8.far (p:=⟨g,3,none⟩) (by simp;omega) _,?_,?_,hB8.setCell (p:=⟨g,3,none⟩) (by simp;omega) _,⟨_,hb08.far (p:=⟨g,3,none⟩) (by simp;omega) _,rfl⟩,L4.out.1,fun h => ?_,fun h => ?_,?_⟩
     ·rw[l'a]
      exact hb8
     ·rw[l'a,List.map_append]
      exact own_same ho7 fun j hj=>Below.heap_setCell w8 ⟨g,3,none⟩ _ j (own_ne8 ho7 hb7 (by decide) j hj)
     ·obtain ⟨e1,e2,e3⟩:=he0.out trivial
      obtain ⟨l1,l2,l3⟩:=L4.out.2.1 h
      refine ⟨by omega,?_,e3⟩
      rw[wordsOf_succ,←e2,l3,e1]
     ·obtain ⟨e1,e2,e3⟩:=he0.out trivial
      have h1:=L4.out.2.2 h
      have h2:=hls.out
      refine ⟨?_,by rw[l'a];show ls.length+1≤_;omega⟩
      simp only[fitQ]
      rw[if_neg (by omega),if_pos trivial,decide_eq_false_iff_not]
      omega
     ·obtain ⟨e1,e2,e3⟩:=he0.out trivial
      have h2:=hls.out
      rw[l'a]
      show ls.length+1≤_
      omega
  ·have hle2:=d'f hle
   have hle4:e=0→bs.length≤a:=fun h=>by
    unfold leftR at hle
    rw[if_pos h] at hle
    omega
   clear hle
   generalize leftR bs a e=lf at CL hle2
   replace hle4:=h'd hle4
   replace he0:=h'd he0
   replace he1:=h'd he1
   go_wp2_with (first
    | (go_at_call 78;refine c'm CL.out ?_;rintro x w6 ⟨rfl,k6⟩;have hR6:=hRd.below k6 hRd.lt;have hb6:=hb.below k6 hb.lt;have hb06:=hb0.below k6 hb0.lt;have ho6:=own_below ho k6;have hB6:=below_call hB k6 (Nat.le_of_lt hlt))
    | (refine wpList_load_row rfl 81 (.tmp 3) rfl g rfl 81 (bodyC 0 none 0 0 mk A ls.length c 0 false 0 0 none 0 0) (0,0) _ hb6 Tryz.underlying81 rfl (by kernel_rfl) ?_)
    | (refine wpList_store_row rfl 81 (.tmp 2) (.tmp 22) rfl w.heap.size (bodyC 0 none 0 0 mk A ls.length c 0 false 0 0 none 0 0) rfl rfl 81 (sumC 0 0) hb06 (by kernel_rfl) rfl (by simp[Value.oneCell']) ?_))
   have hset:Blk (w6.setRow w.heap.size (bodyC 0 none 0 0 mk A ls.length c 0 false 0 0 none 0 0)) w.heap.size 81 (bodyC 0 none 0 0 mk A ls.length c 0 false 0 0 none 0 0):=setRow_heap w6 w.heap.size (sumC 0 0) (bodyC 0 none 0 0 mk A ls.length c 0 false 0 0 none 0 0) 81 (0,0) hb06
   have hB3:Below w.heap.size w6 (w6.setRow w.heap.size (bodyC 0 none 0 0 mk A ls.length c 0 false 0 0 none 0 0)):=⟨rfl,rfl,rfl,by simp[World.setRow],fun k hk=>setRow_other _ _ k _ (by omega)⟩
   refine bodyPost_ret (results_cell_row rfl _ _ w.heap.size 81 (bodyC 0 none 0 0 mk A ls.length c 0 false 0 0 none 0 0) (0,0) _ rfl hset Tryz.underlying81 rfl (by kernel_rfl)) rfl ?_
   refine ⟨_,⟨0,[],mk,ls,0,false,0,0,[]⟩,a,e,rfl,⟨none,0,A,c,none,0,rfl,World.ownsRow_nil _ _ _ _,own_same ho6 fun j hj=>setRow_other _ _ j _ (own_ne8 ho6 hb06 (by decide) j hj),World.ownsRow_nil _ _ _ _⟩,hR6.below hB3 hlt,fun hf => ?_,fun hf => ?_,hB6.trans (hB3.mono (Nat.le_of_lt hlt))⟩
   ·by_cases hee:e=0
    ·obtain ⟨e1,e2,e3⟩:=he0.out hee
     have e4:=hle4.out hee
     refine ⟨?_,by omega,hee⟩
     subst e2
     show (⟨0,[],mk,wordsOf bs k,0,false,0,0,[]⟩:BodyV)=_
     unfold readP
     rw[if_neg (by omega),if_pos rfl,show (bs.length-4) / 4=k by omega,←e3]
     rfl
    ·rw[(he1.out hee).1] at hf
     cases hf
   ·by_cases hee:e=0
    ·obtain ⟨e1,e2,e3⟩:=he0.out hee
     have e4:=hle4.out hee
     simp only[fitQ] at hf
     rw[if_neg (by omega),if_pos trivial,decide_eq_false_iff_not] at hf
     omega
    ·exact .inl hee
set_option maxRecDepth 100000
theorem out16 (bs:List Int) (s1 s2 s3 s4 s5:Nat × Int) (h1:s1=nextS bs 0 0 4) (h2:s2=nextS bs s1.1 s1.2 1) (h3:s3=nextS bs s2.1 s2.2 3) (h4:s4=nextS bs s3.1 s3.2 4) (h5:s5=nextS bs s4.1 s4.2 4) :
  (bs.length=16→s5=(16,0)∧numB (nextB bs 0 0 4)=numB (bs.take 4)∧numB (nextB bs s1.1 s1.2 1)=numB ((bs.drop 4).take 1)∧numB (nextB bs s2.1 s2.2 3)=numB ((bs.drop 5).take 3)∧numB (nextB bs s3.1 s3.2 4)=numB ((bs.drop 8).take 4)∧numB (nextB bs s4.1 s4.2 4)=numB ((bs.drop 12).take 4))∧(¬ bs.length=16→s5.2≠0∨s5.1<bs.length):=by
 refine ⟨fun h => ?_,fun h => ?_⟩
 ·rw[nextS_in bs 0 4 (by omega)] at h1
  subst h1
  rw[nextS_in bs _ 1 (by omega)] at h2
  subst h2
  rw[nextS_in bs _ 3 (by omega)] at h3
  subst h3
  rw[nextS_in bs _ 4 (by omega)] at h4
  subst h4
  rw[nextS_in bs _ 4 (by omega)] at h5
  subst h5
  rw[nextB_in bs 0 4 (by omega),nextB_in bs _ 1 (by omega),nextB_in bs _ 3 (by omega),nextB_in bs (0+4+1+3) 4 (by omega),nextB_in bs (0+4+1+3+4) 4 (by omega)]
  exact ⟨rfl,rfl,rfl,rfl,rfl,rfl⟩
 ·by_cases h0:s5.2=0
  ·refine .inr ?_
   rw[h5] at h0
   obtain ⟨e4,l5,f5⟩:=nextS_zero h0
   rw[h4] at e4
   obtain ⟨e3,l4,f4⟩:=nextS_zero e4
   rw[h3] at e3
   obtain ⟨e2,l3,f3⟩:=nextS_zero e3
   rw[h2] at e2
   obtain ⟨e1,l2,f2⟩:=nextS_zero e2
   rw[h1] at e1
   obtain ⟨-,l1,f1⟩:=nextS_zero e1
   rw[←h1] at f1
   rw[←h2,f1] at f2
   rw[←h3,f2] at f3
   rw[←h4,f3] at f4
   rw[←h5,f4] at f5
   rw[f4] at l5
   rw[f5]
   simp only at l5 ⊢
   omega
  ·exact .inl h0
set_option maxHeartbeats 1000000 in
theorem readOuter_any (b:Nat) (bs:List Int) (w:World) (h:Rd w b bs 0 0) (hn:bs.length≤1000000) (hl:∀ x∈bs,0≤x∧x<256):Calls Tryz.prog 158 #[.pointer (some ⟨b,0,none⟩)] w fun x w'=>ReadPost 5 bs b w x w':=by
 have hlt:=h.lt
 have k0:Blk (w.alloc (.cells (sumC 0 0) 81)) w.heap.size 81 (sumC 0 0):=Blk.new _ _ _
 have kB:Below w.heap.size w (w.alloc (.cells (sumC 0 0) 81)):=(b'r _ _).alloc (n'r _) _
 have hR:=h.below kB hlt
 obtain ⟨s1,hs1⟩:∃ s,s=nextS bs 0 0 4:=⟨_,rfl⟩
 obtain ⟨s2,hs2⟩:∃ s,s=nextS bs s1.1 s1.2 1:=⟨_,rfl⟩
 obtain ⟨s3,hs3⟩:∃ s,s=nextS bs s2.1 s2.2 3:=⟨_,rfl⟩
 obtain ⟨s4,hs4⟩:∃ s,s=nextS bs s3.1 s3.2 4:=⟨_,rfl⟩
 obtain ⟨s5,hs5⟩:∃ s,s=nextS bs s4.1 s4.2 4:=⟨_,rfl⟩
 have O:=out16 bs s1 s2 s3 s4 s5 hs1 hs2 hs3 hs4 hs5
 have C1:=fun W h=>rnum_any b bs 0 0 4 (by omega) (by omega) W h (by omega) hl
 have C2:=fun W h=>rnum_any b bs s1.1 s1.2 1 (by omega) (by omega) W h (by omega) hl
 have C3:=fun W h=>rnum_any b bs s2.1 s2.2 3 (by omega) (by omega) W h (by omega) hl
 have C4:=fun W h=>rnum_any b bs s3.1 s3.2 4 (by omega) (by omega) W h (by omega) hl
 have C5:=fun W h=>rnum_any b bs s4.1 s4.2 4 (by omega) (by omega) W h (by omega) hl
 rw[←hs1] at C1
 rw[←hs2] at C2
 rw[←hs3] at C3
 rw[←hs4] at C4
 rw[←hs5] at C5
 generalize numB (nextB bs 0 0 4)=n1 at C1 O
 generalize numB (nextB bs s1.1 s1.2 1)=n2 at C2 O
 generalize numB (nextB bs s2.1 s2.2 3)=n3 at C3 O
 generalize numB (nextB bs s3.1 s3.2 4)=n4 at C4 O
 generalize numB (nextB bs s4.1 s4.2 4)=n5 at C5 O
 clear hs1 hs2 hs3 hs4 hs5
 replace O:=h'd O
 replace C1:=h'd C1
 replace C2:=h'd C2
 replace C3:=h'd C3
 replace C4:=h'd C4
 replace C5:=h'd C5
 clear h
 go_enter Tryz.func158,Tryz.ntmps158
 go_upto_region 1 with fail
 generalize w.alloc (.cells #[.int .u8 0,.slice none 0 0,.int .u32 0,.slice none 0 0,.int .u32 0,.bool false,.int .u32 0,.int .u32 0,.slice none 0 0] 81)=w0 at k0 kB hR ⊢
 go_upto_region 2 with (go_at_call 185;refine c'm (C1.out _ hR) ?_;rintro x w1 ⟨rfl,hR1,hP1⟩)
 have j0:Blk (w1.alloc (.cells (outC n1 0 false 0 0) 81)) w.heap.size 81 (sumC 0 0):=(Blk.put hP1 (by omega) k0).alloc _
 have j1:Blk (w1.alloc (.cells (outC n1 0 false 0 0) 81)) w1.heap.size 81 (outC n1 0 false 0 0):=Blk.new _ _ _
 have jz:=(Blk.put hP1 (by omega) k0).lt
 have jB0:Below b w w1:=hP1.below (kB.mono (Nat.le_of_lt hlt)) (n'r _)
 have jB:Below b w (w1.alloc (.cells (outC n1 0 false 0 0) 81)):=below_alloc jB0 (Nat.le_of_lt hlt) _
 have jR:Rd (w1.alloc (.cells (outC n1 0 false 0 0) 81)) b bs s1.1 s1.2:=hR1.below ((b'r _ _).alloc (n'r _) _) hR1.lt
 dsimp only[outC] at j0 j1 jB jR
 obtain ⟨g,hg⟩:∃ g,g=w1.heap.size:=⟨_,rfl⟩
 rw[←hg] at j1 jz ⊢
 generalize (w1.alloc (.cells #[.int .u8 0,.slice none 0 0,.int .u32 n1,.slice none 0 0,.int .u32 0,.bool false,.int .u32 0,.int .u32 0,.slice none 0 0] 81))=w2 at j0 j1 jB jR ⊢
 clear hg jB0 hR1 hP1 C1 k0 kB hR
 go_upto_region 3 with (go_at_call 185;refine c'm (C2.out _ jR) ?_;rintro x w3 ⟨rfl,jR3,hP3⟩;have j3:=Blk.put hP3 (by omega) j1;have f5:=j3.free 5;have y5:=j3.cell 5;simp only[q'a,q'z,q's] at y5)
 have k0:=(Blk.put hP3 (by omega) j0).far (p:=⟨g,5,none⟩) (by simp;omega) (.bool (n2==128))
 have k1:=j3.set_ 5 (.bool (n2==128))
 have kB:=(hP3.below jB (n'r _)).setCell (p:=⟨g,5,none⟩) (by simp;omega) (.bool (n2==128))
 have kR:=jR3.far (p:=⟨g,5,none⟩) (by simp;omega) (.bool (n2==128))
 simp only[s'a,s'z,s's] at k1
 obtain ⟨t2,ht2⟩:∃ t,t=(n2==128):=⟨_,rfl⟩
 rw[←ht2] at k0 k1 kB kR ⊢
 replace ht2:=h'd ht2
 generalize w3.setCell ⟨g,5,none⟩ (.bool t2)=w4 at k0 k1 kB kR ⊢
 clear f5 y5 j3 j0 j1 jB jR jR3 hP3 C2
 have C3':=C3.out _ kR
 go_upto_region 4 with (first
  | (have _q:=hR6;go_at_call 185;refine c'm (C5.out _ hR6) ?_;rintro x w7 ⟨rfl,hR7,hP7⟩;have j7:=Blk.put hP7 (by omega) (Blk.put hP6 (by omega) (Blk.put hP5 (by omega) k1));have f4:=j7.free 4;have f6:=j7.free 6;have f7:=j7.free 7;have y4:=j7.cell 4;have y6:=j7.cell 6;have y7:=j7.cell 7;simp only[q'a,q'z,q's] at y4 y6 y7)
  | (have _q:=hR5;go_at_call 185;refine c'm (C4.out _ hR5) ?_;rintro x w6 ⟨rfl,hR6,hP6⟩)
  | (go_at_call 185;refine c'm C3' ?_;rintro x w5 ⟨rfl,hR5,hP5⟩)
  | fail)
 have m1:=((j7.set_ 4 (.int .u32 n3)).set_ 6 (.int .u32 n4)).set_ 7 (.int .u32 n5)
 simp only[s'a,s'z,s's] at m1
 have q0:=Blk.put hP7 (by omega) (Blk.put hP6 (by omega) (Blk.put hP5 (by omega) k0))
 have m0:=((q0.far (p:=⟨g,4,none⟩) (by simp;omega) (.int .u32 n3)).far (p:=⟨g,6,none⟩) (by simp;omega) (.int .u32 n4)).far (p:=⟨g,7,none⟩) (by simp;omega) (.int .u32 n5)
 have mR:=((hR7.far (p:=⟨g,4,none⟩) (by simp;omega) (.int .u32 n3)).far (p:=⟨g,6,none⟩) (by simp;omega) (.int .u32 n4)).far (p:=⟨g,7,none⟩) (by simp;omega) (.int .u32 n5)
 have qB:=hP7.below (hP6.below (hP5.below kB (n'r _)) (n'r _)) (n'r _)
 have mB:=((qB.setCell (p:=⟨g,4,none⟩) (by simp;omega) (.int .u32 n3)).setCell (p:=⟨g,6,none⟩) (by simp;omega) (.int .u32 n4)).setCell (p:=⟨g,7,none⟩) (by simp;omega) (.int .u32 n5)
 generalize (((w7.setCell ⟨g,4,none⟩ (.int .u32 n3)).setCell ⟨g,6,none⟩ (.int .u32 n4)).setCell ⟨g,7,none⟩ (.int .u32 n5))=w8 at m1 m0 mR mB ⊢
 clear f4 f6 f7 y4 y6 y7 j7 q0 hR7 hP7 hP6 hP5 k0 k1 kB kR qB C3 C4 C5 C3' _q hR6 hR5
 go_wp2_with (first
  | (refine wpList_load_row rfl 81 (.tmp 3) rfl g rfl 81 (outC n1 n3 t2 n4 n5) (0,0) _ m1 Tryz.underlying81 rfl (by kernel_rfl) ?_)
  | (refine wpList_store_row rfl 81 (.tmp 2) (.tmp 20) rfl w.heap.size (outC n1 n3 t2 n4 n5) rfl rfl 81 (sumC 0 0) m0 (by kernel_rfl) rfl (by simp[Value.oneCell']) ?_))
 have hset:Blk (w8.setRow w.heap.size (outC n1 n3 t2 n4 n5)) w.heap.size 81 (outC n1 n3 t2 n4 n5):=setRow_heap w8 w.heap.size (sumC 0 0) (outC n1 n3 t2 n4 n5) 81 (0,0) m0
 have hB3:Below w.heap.size w8 (w8.setRow w.heap.size (outC n1 n3 t2 n4 n5)):=⟨rfl,rfl,rfl,by simp[World.setRow],fun k hk=>setRow_other _ _ k _ (by omega)⟩
 refine bodyPost_ret (results_cell_row rfl _ _ w.heap.size 81 (outC n1 n3 t2 n4 n5) (0,0) _ rfl hset Tryz.underlying81 rfl (by kernel_rfl)) rfl ?_
 refine ⟨_,⟨0,[],n1,[],n3,t2,n4,n5,[]⟩,s5.1,s5.2,rfl,⟨none,0,none,0,none,0,rfl,World.ownsRow_nil _ _ _ _,World.ownsRow_nil _ _ _ _,World.ownsRow_nil _ _ _ _⟩,mR.below hB3 hlt,fun hf => ?_,fun hf => ?_,mB.trans (hB3.mono (Nat.le_of_lt hlt))⟩
 ·have h16:bs.length=16:=by simpa[fitQ] using hf
  obtain ⟨o1,o2,o3,o4,o5,o6⟩:=O.out.1 h16
  rw[o1]
  refine ⟨?_,h16.symm,rfl⟩
  rw[ht2.out,o2,o3,o4,o5,o6]
  rfl
 ·exact O.out.2 (by simpa[fitQ] using hf)
theorem readSum_any (b:Nat) (bs:List Int) (w:World) (h:Rd w b bs 0 0) (hn:bs.length≤1000000) (hl:∀ x∈bs,0≤x∧x<256):Calls Tryz.prog 156 #[.pointer (some ⟨b,0,none⟩)] w fun x w'=>ReadPost 3 bs b w x w':=by
 refine c'm (readSummary_any b bs 0 0 w h (by omega) hl) ?_
 rintro x w' ⟨rfl,hR,hB⟩
 obtain ⟨s1,hs1⟩:∃ s,s=nextS bs 0 0 4:=⟨_,rfl⟩
 obtain ⟨s2,hs2⟩:∃ s,s=nextS bs s1.1 s1.2 4:=⟨_,rfl⟩
 rw[←hs1] at hR ⊢
 rw[←hs2] at hR
 refine ⟨_,⟨0,[],numB (nextB bs 0 0 4),[],numB (nextB bs s1.1 s1.2 4),false,0,0,[]⟩,s2.1,s2.2,rfl,⟨none,0,none,0,none,0,rfl,World.ownsRow_nil _ _ _ _,World.ownsRow_nil _ _ _ _,World.ownsRow_nil _ _ _ _⟩,hR,fun hf => ?_,fun hf => ?_,hB⟩
 ·have h8:bs.length=8:=by simpa[fitQ] using hf
  rw[nextS_in bs 0 4 (by omega)] at hs1
  subst hs1
  rw[nextS_in bs _ 4 (by omega)] at hs2
  subst hs2
  rw[nextB_in bs 0 4 (by omega),nextB_in bs _ 4 (by omega)]
  exact ⟨rfl,h8.symm,rfl⟩
 ·have h8:¬ bs.length=8:=by simpa[fitQ] using hf
  by_cases h0:s2.2=0
  ·refine .inr ?_
   rw[hs2] at h0
   obtain ⟨e1,l2,f2⟩:=nextS_zero h0
   rw[hs1] at e1
   obtain ⟨-,l1,f1⟩:=nextS_zero e1
   rw[←hs1] at f1
   rw[←hs2,f1] at f2
   rw[f1] at l2
   rw[f2]
   simp only at l2 ⊢
   omega
  ·exact .inl h0
set_option maxHeartbeats 1000000 in
theorem rbytesN_any (b:Nat) (bs:List Int) (w:World) (h:Rd w b bs 0 0) (hn:bs.length≤1000000):Calls Tryz.prog 186 #[.pointer (some ⟨b,0,none⟩),.int .i64 bs.length] w fun x w' =>
  ∃ v,x=.returned v∧w'.ownsRow w.heap.size 5 1 v bs.length (bs.map u8c)∧Rd w' b bs bs.length 0∧∃ wx,Put w b 211 wx∧Below wx.heap.size wx w':=by
 have CN:=next_any b bs 0 0 bs.length w h (by omega) (by omega)
 rw[nextS_in bs 0 bs.length (by omega),nextB_in bs 0 bs.length (by omega),List.drop_zero,List.take_length,Nat.zero_add] at CN
 have hlt:=h.lt
 have hBz:b≤w.heap.size:=Nat.le_of_lt hlt
 clear h
 replace CN:=h'd CN
 go_enter Tryz.func186,Tryz.ntmps186
 go_wp2_with (first
  | (go_at_call 193;refine c'm CN.out ?_;rintro x w1 ⟨v,q,rfl,hs,hR,hP⟩;have CC:=h'd (clone8_any b v bs w1 hs (by rw[hP.size];exact hBz) (by omega)))
  | (go_at_call 119;refine c'm CC.out ?_;rintro x w2 ⟨v2,rfl,ho2,hB2⟩))
 go_ret
 exact ⟨v2,rfl,by rw[←hP.size];exact ho2,hR.below hB2 hR.lt,w1,hP,hB2⟩
set_option maxHeartbeats 1000000 in
theorem readOpaque_any (b:Nat) (bs:List Int) (w:World) (h:Rd w b bs 0 0) (hn:bs.length≤1000000) (t:Nat) (ht:t=9∨t=10∨t=11):Calls Tryz.prog 160 #[.pointer (some ⟨b,0,none⟩)] w fun x w'=>ReadPost t bs b w x w':=by
 have hlt:=h.lt
 have k0:Blk (w.alloc (.cells (sumC 0 0) 81)) w.heap.size 81 (sumC 0 0):=Blk.new _ _ _
 have kB:Below b w (w.alloc (.cells (sumC 0 0) 81)):=(b'r _ _).alloc (Nat.le_of_lt hlt) _
 have hR:=h.below ((b'r w.heap.size w).alloc (n'r _) (.cells (sumC 0 0) 81)) hlt
 clear h
 go_enter Tryz.func160,Tryz.ntmps160
 go_upto_region 1 with fail
 generalize w.alloc (.cells #[.int .u8 0,.slice none 0 0,.int .u32 0,.slice none 0 0,.int .u32 0,.bool false,.int .u32 0,.int .u32 0,.slice none 0 0] 81)=w0 at k0 kB hR ⊢
 have CL:=rleft_any b bs 0 0 w0 hR (by omega)
 rw[show leftR bs 0 0=(bs.length:Int) by unfold leftR;rw[if_pos rfl];omega] at CL
 replace CL:=h'd CL
 have zz:=k0.lt
 go_wp2_with (first
  | (go_at_call 78;refine c'm CL.out ?_;rintro x w1 ⟨rfl,k1⟩;have hR1:=hR.below k1 hR.lt;have k01:=k0.below k1 k0.lt;have CB:=h'd (rbytesN_any b bs w1 hR1 hn);have kB1:=below_call kB k1 (Nat.le_of_lt hlt);have zz1:=k1.size)
  | (go_at_call 186;refine c'm CB.out ?_;rintro x w2 ⟨v,rfl,ho,hR2,wx,hPx,hBx⟩;obtain ⟨-,A,c,rfl,-⟩:=Sl.of_own ho;have k01x:=Blk.put hPx (by omega) k01;have k02:Blk w2 w.heap.size 81 (sumC 0 0):=k01x.below hBx k01x.lt)
  | (refine wpList_store_row rfl 81 (.tmp 2) (.tmp 7) rfl w.heap.size (bodyC 0 none 0 0 0 none 0 0 0 false 0 0 A bs.length c) rfl rfl 81 (sumC 0 0) k02 (by kernel_rfl) rfl (by simp[Value.oneCell']) ?_)
  | fail)
 have hset:Blk (w2.setRow w.heap.size (bodyC 0 none 0 0 0 none 0 0 0 false 0 0 A bs.length c)) w.heap.size 81 (bodyC 0 none 0 0 0 none 0 0 0 false 0 0 A bs.length c):=setRow_heap w2 w.heap.size (sumC 0 0) (bodyC 0 none 0 0 0 none 0 0 0 false 0 0 A bs.length c) 81 (0,0) k02
 have hB3:Below w.heap.size w2 (w2.setRow w.heap.size (bodyC 0 none 0 0 0 none 0 0 0 false 0 0 A bs.length c)):=⟨rfl,rfl,rfl,by simp[World.setRow],fun k hk=>setRow_other _ _ k _ (by omega)⟩
 refine bodyPost_ret (results_cell_row rfl _ _ w.heap.size 81 (bodyC 0 none 0 0 0 none 0 0 0 false 0 0 A bs.length c) (0,0) _ rfl hset Tryz.underlying81 rfl (by kernel_rfl)) rfl ?_
 have hfit:fitQ t bs=true:=by
  rcases ht with rfl | rfl | rfl <;> rfl
 have hrd:readP t bs = { zeroB with data:=bs }:=by
  rcases ht with rfl | rfl | rfl <;> rfl
 have hB2:Below b w w2:=(hPx.below kB1 (n'r _)).trans (hBx.mono (by rw[hPx.size];omega))
 refine ⟨_,{ zeroB with data:=bs },bs.length,0,rfl,⟨none,0,none,0,A,c,rfl,World.ownsRow_nil _ _ _ _,World.ownsRow_nil _ _ _ _,own_same (own_less ho (by omega)) fun j hj=>setRow_other _ _ j _ (own_ne8 ho k02 (by decide) j hj)⟩,hR2.below hB3 hlt,fun _=>⟨hrd.symm,rfl,rfl⟩,fun hf => ?_,hB2.trans (hB3.mono (Nat.le_of_lt hlt))⟩
 rw[hfit] at hf
 cases hf
theorem ReadPost.to {t t':Nat} {bs:List Int} {b:Nat} {w:World} {x:Ending} {w':World} (h:ReadPost t bs b w x w') (hf:fitQ t' bs=fitQ t bs) (hr:readP t' bs=readP t bs):ReadPost t' bs b w x w':=by
 obtain ⟨cs,bv,a,e,h1,h2,h3,h4,h5,h6⟩:=h
 exact ⟨cs,bv,a,e,h1,h2,h3,by rw[hf,hr];exact h4,by rw[hf];exact h5,h6⟩
theorem read_any (t:Nat) (ht:knownB t=true) (b:Nat) (bs:List Int) (w:World) (h:Rd w b bs 0 0) (hn:bs.length≤1000000) (hl:∀ x∈bs,0≤x∧x<256):Calls Tryz.prog (rdF t) #[.pointer (some ⟨b,0,none⟩)] w fun x w'=>ReadPost t bs b w x w':=by
 rcases known_cases ht with rfl | rfl | rfl | rfl | rfl | rfl | rfl | rfl | rfl
 ·exact readRouter_any b bs w h hn hl
 ·exact readNetwork_any b bs w h hn hl
 ·exact readSum_any b bs w h hn hl
 ·exact c'm (readSum_any b bs w h hn hl) fun _ _ h=>h.to rfl rfl
 ·exact readOuter_any b bs w h hn hl
 ·exact c'm (readOuter_any b bs w h hn hl) fun _ _ h=>h.to rfl rfl
 ·exact readOpaque_any b bs w h hn 9 (by omega)
 ·exact readOpaque_any b bs w h hn 10 (by omega)
 ·exact readOpaque_any b bs w h hn 11 (by omega)
end Go.Proofs.YtcknpofnpabkiaaGreat
