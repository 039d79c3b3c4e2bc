/- lodestarref06.Encode of a body that it takes, whatever its type. Conditions: May allows it, size and lay are told. -/
import Derived.Test.YtcknpofnpabkiaaGreatGzAO
set_option maxRecDepth 100000
namespace Go.Proofs.YtcknpofnpabkiaaGreat
open Go.RowKit Go.Lo
set_option maxHeartbeats 2000000 in
theorem encodeK_any (t:Nat) (ht:knownB t=true) (age opts id adv seq:Int) (ok:HeadOk ⟨age,opts,t,id,adv,seq,0,0⟩) (fl:Int) (A1:Option Addr) (n1 c1:Nat) (m:Int) (A2:Option Addr) (n2 c2:Nat) (k:Int) (t2:Bool) (fw tg:Int) (A3:Option Addr) (n3 c3:Nat) (L:List Int) (hL:L.length≤65515) (hb8:∀ x∈L,0≤x∧x<256) (w:World)
  (CM:∀ W,Below w.heap.size w W→Calls Tryz.prog 90 #[.int .u8 t,.agg #[.int .u8 fl,.slice A1 n1 c1,.int .u32 m,.slice A2 n2 c2,.int .u32 k,.bool t2,.int .u32 fw,.int .u32 tg,.slice A3 n3 c3]] W fun x W'=>x=.returned (.bool true)∧Below W.heap.size W W')
  (CZ:∀ W,Below w.heap.size w W→Calls Tryz.prog 107 #[.int .u8 t,.agg #[.int .u8 fl,.slice A1 n1 c1,.int .u32 m,.slice A2 n2 c2,.int .u32 k,.bool t2,.int .u32 fw,.int .u32 tg,.slice A3 n3 c3]] W fun x W'=>x=.returned (.int .i64 L.length)∧Below W.heap.size W W')
  (CL:∀ W,Below w.heap.size w W→Calls Tryz.prog 91 #[.int .u8 t,.agg #[.int .u8 fl,.slice A1 n1 c1,.int .u32 m,.slice A2 n2 c2,.int .u32 k,.bool t2,.int .u32 fw,.int .u32 tg,.slice A3 n3 c3]] W fun x W'=>∃ s,x=.returned s∧W'.ownsRow W.heap.size 5 1 s L.length (L.map u8c)∧Below W.heap.size W W') :
  Calls Tryz.prog 66 #[.agg #[.int .u16 age,.int .u8 opts,.int .u8 t,.int .u32 id,.int .u32 adv,.int .i32 seq,.int .u16 0,.int .u16 0],.agg #[.int .u8 fl,.slice A1 n1 c1,.int .u32 m,.slice A2 n2 c2,.int .u32 k,.bool t2,.int .u32 fw,.int .u32 tg,.slice A3 n3 c3]] w fun x w'=>∃ v r,x=.returned (.tuple #[stateVal ⟨age,opts,t,id,adv,seq,r,20+L.length⟩ v,.int .i64 0])∧sealR ⟨age,opts,t,id,adv,seq,0,0⟩ L r∧w'.ownsRow w.heap.size 5 1 v L.length (L.map u8c)∧Below w.heap.size w w':=by
 have g0:Blk (((w.alloc (.cells #[.int .u16 age,.int .u8 opts,.int .u8 (t:Int),.int .u32 id,.int .u32 adv,.int .i32 seq,.int .u16 0,.int .u16 0] 68)).alloc (.cells #[.int .u8 fl,.slice A1 n1 c1,.int .u32 m,.slice A2 n2 c2,.int .u32 k,.bool t2,.int .u32 fw,.int .u32 tg,.slice A3 n3 c3] 81)).alloc (.cells #[.int .u16 0,.int .u8 0,.int .u8 0,.int .u32 0,.int .u32 0,.int .i32 0,.int .u16 0,.int .u16 0,.slice none 0 0] 71)) w.heap.size 68 #[.int .u16 age,.int .u8 opts,.int .u8 (t:Int),.int .u32 id,.int .u32 adv,.int .i32 seq,.int .u16 0,.int .u16 0]:=((Blk.new _ _ _).alloc _).alloc _
 have g1:Blk (((w.alloc (.cells #[.int .u16 age,.int .u8 opts,.int .u8 (t:Int),.int .u32 id,.int .u32 adv,.int .i32 seq,.int .u16 0,.int .u16 0] 68)).alloc (.cells #[.int .u8 fl,.slice A1 n1 c1,.int .u32 m,.slice A2 n2 c2,.int .u32 k,.bool t2,.int .u32 fw,.int .u32 tg,.slice A3 n3 c3] 81)).alloc (.cells #[.int .u16 0,.int .u8 0,.int .u8 0,.int .u32 0,.int .u32 0,.int .i32 0,.int .u16 0,.int .u16 0,.slice none 0 0] 71)) (w.heap.size+1) 81 #[.int .u8 fl,.slice A1 n1 c1,.int .u32 m,.slice A2 n2 c2,.int .u32 k,.bool t2,.int .u32 fw,.int .u32 tg,.slice A3 n3 c3]:=(Blk.new_ _ (by simp)).alloc _
 have g2:Blk (((w.alloc (.cells #[.int .u16 age,.int .u8 opts,.int .u8 (t:Int),.int .u32 id,.int .u32 adv,.int .i32 seq,.int .u16 0,.int .u16 0] 68)).alloc (.cells #[.int .u8 fl,.slice A1 n1 c1,.int .u32 m,.slice A2 n2 c2,.int .u32 k,.bool t2,.int .u32 fw,.int .u32 tg,.slice A3 n3 c3] 81)).alloc (.cells #[.int .u16 0,.int .u8 0,.int .u8 0,.int .u32 0,.int .u32 0,.int .i32 0,.int .u16 0,.int .u16 0,.slice none 0 0] 71)) (w.heap.size+1+1) 71 #[.int .u16 0,.int .u8 0,.int .u8 0,.int .u32 0,.int .u32 0,.int .i32 0,.int .u16 0,.int .u16 0,.slice none 0 0]:=Blk.new_ _ (by simp)
 have gB:Below w.heap.size w (((w.alloc (.cells #[.int .u16 age,.int .u8 opts,.int .u8 (t:Int),.int .u32 id,.int .u32 adv,.int .i32 seq,.int .u16 0,.int .u16 0] 68)).alloc (.cells #[.int .u8 fl,.slice A1 n1 c1,.int .u32 m,.slice A2 n2 c2,.int .u32 k,.bool t2,.int .u32 fw,.int .u32 tg,.slice A3 n3 c3] 81)).alloc (.cells #[.int .u16 0,.int .u8 0,.int .u8 0,.int .u32 0,.int .u32 0,.int .i32 0,.int .u16 0,.int .u16 0,.slice none 0 0] 71)):=(((Below.refl _ _).alloc (Nat.le_refl _) _).alloc (by simp) _).alloc (by simp;omega) _
 have CK:=h'd (fun W=>rknown_any t W)
 have CS:=fun (A:Option Addr) (c:Nat) W (ho:W.ownsRow (w.heap.size+1+1+1) 5 1 (.slice A L.length c) L.length (L.map u8c))=>seal_any ⟨age,opts,t,id,adv,seq,0,0⟩ ok W.heap.size (.slice A L.length c) L W (Sl.of_own ho) (Nat.le_refl _) hL hb8
 dsimp only[stateVal] at CS ⊢
 have hl1:(L.length:Int)+20≤65535:=by omega
 obtain ⟨n,hn⟩:∃ n,n=L.length:=⟨_,rfl⟩
 rw[←hn] at CL CS CZ hl1 ⊢
 have hl2:wrap64 ((n:Int)+20)=(n:Int)+20:=by unfold wrap64;omega
 have hl3:¬ (65535:Int)<(n:Int)+20:=by omega
 have hn0:0≤(n:Int):=by omega
 obtain ⟨z,hz0⟩:∃ z:Int,z=n:=⟨_,rfl⟩
 rw[←hz0] at hl1 hl2 hl3 hn0 CZ
 replace hl1:=h'd hl1
 replace hn0:=h'd hn0
 replace hz0:=h'd hz0
 replace hn:=h'd hn
 rw[ht] at CK
 replace CS:=h'd CS
 replace CL:=h'd CL
 replace CM:=h'd CM
 replace CZ:=h'd CZ
 clear hb8 hL ok ht
 go_enter Tryz.func66,Tryz.ntmps66
 go_upto_region 1 with fail
 generalize ((w.alloc (.cells #[.int .u16 age,.int .u8 opts,.int .u8 (t:Int),.int .u32 id,.int .u32 adv,.int .i32 seq,.int .u16 0,.int .u16 0] 68)).alloc (.cells #[.int .u8 fl,.slice A1 n1 c1,.int .u32 m,.slice A2 n2 c2,.int .u32 k,.bool t2,.int .u32 fw,.int .u32 tg,.slice A3 n3 c3] 81)).alloc (.cells #[.int .u16 0,.int .u8 0,.int .u8 0,.int .u32 0,.int .u32 0,.int .i32 0,.int .u16 0,.int .u16 0,.slice none 0 0] 71)=w0 at g0 g1 g2 gB ⊢
 have x2:=g0.cell 2
 simp only[q'a,q'z,q's] at x2
 go_upto_region 3 with (go_at_call 88;refine Calls.mono (CK.out _) ?_;rintro x w1 ⟨rfl,rfl⟩)
 go_upto_region 5 with (first
  | (refine wpList_load_row rfl 81 (.tmp 3) rfl (w.heap.size+1) rfl 81 #[.int .u8 fl,.slice A1 n1 c1,.int .u32 m,.slice A2 n2 c2,.int .u32 k,.bool t2,.int .u32 fw,.int .u32 tg,.slice A3 n3 c3] (0,0) _ g1 Tryz.underlying81 rfl (by kernel_rfl) ?_)
  | (go_at_call 90;refine Calls.mono (CM.out _ (gB.mono (Nat.le_refl _))) ?_;rintro x w2 ⟨rfl,k2⟩))
 have p0:=g0.below k2 g0.lt
 have p1:=g1.below k2 g1.lt
 have p2:=g2.below k2 g2.lt
 have pB:=gB.trans (k2.mono gB.size)
 clear g0 g1 g2 gB k2 x2
 have x2:=p0.cell 2
 simp only[q'a,q'z,q's] at x2
 go_upto_region 7 with (first
  | (refine wpList_load_row rfl 81 (.tmp 3) rfl (w.heap.size+1) rfl 81 #[.int .u8 fl,.slice A1 n1 c1,.int .u32 m,.slice A2 n2 c2,.int .u32 k,.bool t2,.int .u32 fw,.int .u32 tg,.slice A3 n3 c3] (0,0) _ p1 Tryz.underlying81 rfl (by kernel_rfl) ?_)
  | (go_at_call 107;refine Calls.mono (CZ.out _ pB) ?_;rintro x w3 ⟨rfl,k3⟩))
 have q0:=p0.below k3 p0.lt
 have q1:=p1.below k3 p1.lt
 have q2:=p2.below k3 p2.lt
 have qB:=pB.trans (k3.mono pB.size)
 clear p0 p1 p2 pB k3 x2
 have a0:∀ W,Below (w.heap.size+1+1) w3 W→W.cell? ⟨w.heap.size,0,none⟩=some (.int .u16 age):=fun W h=>(h.cell (p:=⟨w.heap.size,0,none⟩) (by show w.heap.size<w.heap.size+1+1;omega)).trans (q0.cell 0)
 have a1:∀ W,Below (w.heap.size+1+1) w3 W→W.cell? ⟨w.heap.size,1,none⟩=some (.int .u8 opts):=fun W h=>(h.cell (p:=⟨w.heap.size,1,none⟩) (by show w.heap.size<w.heap.size+1+1;omega)).trans (q0.cell 1)
 have a2:∀ W,Below (w.heap.size+1+1) w3 W→W.cell? ⟨w.heap.size,2,none⟩=some (.int .u8 (t:Int)):=fun W h=>(h.cell (p:=⟨w.heap.size,2,none⟩) (by show w.heap.size<w.heap.size+1+1;omega)).trans (q0.cell 2)
 have a3:∀ W,Below (w.heap.size+1+1) w3 W→W.cell? ⟨w.heap.size,3,none⟩=some (.int .u32 id):=fun W h=>(h.cell (p:=⟨w.heap.size,3,none⟩) (by show w.heap.size<w.heap.size+1+1;omega)).trans (q0.cell 3)
 have a4:∀ W,Below (w.heap.size+1+1) w3 W→W.cell? ⟨w.heap.size,4,none⟩=some (.int .u32 adv):=fun W h=>(h.cell (p:=⟨w.heap.size,4,none⟩) (by show w.heap.size<w.heap.size+1+1;omega)).trans (q0.cell 4)
 have a5:∀ W,Below (w.heap.size+1+1) w3 W→W.cell? ⟨w.heap.size,5,none⟩=some (.int .i32 seq):=fun W h=>(h.cell (p:=⟨w.heap.size,5,none⟩) (by show w.heap.size<w.heap.size+1+1;omega)).trans (q0.cell 5)
 have a6:∀ W,Below (w.heap.size+1+1) w3 W→W.cell? ⟨w.heap.size,6,none⟩=some (.int .u16 0):=fun W h=>(h.cell (p:=⟨w.heap.size,6,none⟩) (by show w.heap.size<w.heap.size+1+1;omega)).trans (q0.cell 6)
 have a7:∀ W,Below (w.heap.size+1+1) w3 W→W.cell? ⟨w.heap.size,7,none⟩=some (.int .u16 0):=fun W h=>(h.cell (p:=⟨w.heap.size,7,none⟩) (by show w.heap.size<w.heap.size+1+1;omega)).trans (q0.cell 7)
 have b0:∀ W,Below (w.heap.size+1+1) w3 W→W.cell? ⟨w.heap.size+1,0,none⟩=some (.int .u8 fl):=fun W h=>(h.cell (p:=⟨w.heap.size+1,0,none⟩) (by show w.heap.size+1<w.heap.size+1+1;omega)).trans (q1.cell 0)
 have b1:∀ W,Below (w.heap.size+1+1) w3 W→W.cell? ⟨w.heap.size+1,1,none⟩=some (.slice A1 n1 c1):=fun W h=>(h.cell (p:=⟨w.heap.size+1,1,none⟩) (by show w.heap.size+1<w.heap.size+1+1;omega)).trans (q1.cell 1)
 have b2:∀ W,Below (w.heap.size+1+1) w3 W→W.cell? ⟨w.heap.size+1,2,none⟩=some (.int .u32 m):=fun W h=>(h.cell (p:=⟨w.heap.size+1,2,none⟩) (by show w.heap.size+1<w.heap.size+1+1;omega)).trans (q1.cell 2)
 have b3:∀ W,Below (w.heap.size+1+1) w3 W→W.cell? ⟨w.heap.size+1,3,none⟩=some (.slice A2 n2 c2):=fun W h=>(h.cell (p:=⟨w.heap.size+1,3,none⟩) (by show w.heap.size+1<w.heap.size+1+1;omega)).trans (q1.cell 3)
 have b4:∀ W,Below (w.heap.size+1+1) w3 W→W.cell? ⟨w.heap.size+1,4,none⟩=some (.int .u32 k):=fun W h=>(h.cell (p:=⟨w.heap.size+1,4,none⟩) (by show w.heap.size+1<w.heap.size+1+1;omega)).trans (q1.cell 4)
 have b5:∀ W,Below (w.heap.size+1+1) w3 W→W.cell? ⟨w.heap.size+1,5,none⟩=some (.bool t2):=fun W h=>(h.cell (p:=⟨w.heap.size+1,5,none⟩) (by show w.heap.size+1<w.heap.size+1+1;omega)).trans (q1.cell 5)
 have b6:∀ W,Below (w.heap.size+1+1) w3 W→W.cell? ⟨w.heap.size+1,6,none⟩=some (.int .u32 fw):=fun W h=>(h.cell (p:=⟨w.heap.size+1,6,none⟩) (by show w.heap.size+1<w.heap.size+1+1;omega)).trans (q1.cell 6)
 have b7:∀ W,Below (w.heap.size+1+1) w3 W→W.cell? ⟨w.heap.size+1,7,none⟩=some (.int .u32 tg):=fun W h=>(h.cell (p:=⟨w.heap.size+1,7,none⟩) (by show w.heap.size+1<w.heap.size+1+1;omega)).trans (q1.cell 7)
 have b8:∀ W,Below (w.heap.size+1+1) w3 W→W.cell? ⟨w.heap.size+1,8,none⟩=some (.slice A3 n3 c3):=fun W h=>(h.cell (p:=⟨w.heap.size+1,8,none⟩) (by show w.heap.size+1<w.heap.size+1+1;omega)).trans (q1.cell 8)
 have hz:=q2.lt
 have Q2:=h'd q2
 have QB:=h'd qB
 clear q0 q1 q2 qB
 go_region_held3 (fun W=>Below (w.heap.size+1+1) w3 W) (first | assumption | exact (Below.refl _ _).drew | exact Below.refl _ _ | exact HS4.mono (by omega) | exact HS5.mono (by omega) | exact pW6.below (HS5.mono (by omega)) (by omega) | fail)
  (first
   | (go_at_call 91;have C:=CL.out w3.drew QB.out.drew;(with_reducible refine Calls.mono C ?_);clear C;rintro x w4 ⟨s,rfl,ho4,k4⟩;have HS4:=below_call (B:=w.heap.size+1+1+1) (a:=w3) (by first | assumption | exact (Below.refl _ _).drew | exact Below.refl _ _) k4 (by omega);have HO4:=own_less ho4 (show w.heap.size+1+1+1≤w3.drew.heap.size by show _≤w3.heap.size;omega);obtain ⟨-,A4,c4,rfl,-⟩:=Sl.of_own HO4;replace HO4:=h'd HO4;clear ho4 k4)
   | (go_at_call 108;have C:=CS.out _ _ _ HO4.out;(with_reducible refine Calls.mono C ?_);clear C;rintro x w5 ⟨v,r,rfl,hr,ho5,k5⟩;obtain ⟨-,A5,c5,rfl,-⟩:=Sl.of_own ho5;have HS5:=below_call HS4 k5 (by omega);have HZ4:=HS4.size;replace HO5:=h'd (own_less ho5 (show w.heap.size+1+1+1≤_ by omega));clear ho5 k5 a0 a1 a2 a3 a4 a5 a6 a7 b0 b1 b2 b3 b4 b5 b6 b7 b8)
   | (have _q:=HO5;refine upon9 (t:=71) (x0:=.int .u16 0) (x1:=.int .u8 0) (x2:=.int .u8 0) (x3:=.int .u32 0) (x4:=.int .u32 0) (x5:=.int .i32 0) (x6:=.int .u16 0) (x7:=.int .u16 0) (x8:=.slice none 0 0) ?_ _ _ _ _ _ _ _ _ _ ?_;(focus (exact Q2.out.below HS5 (by omega)));intro W6 kW6 pW6)
   | fail)
 all_goals
  go_wp2
  have QZ:=QB.out
  have HZ5:=HS5.size
  refine bodyPost_ret (results_cell_tmp_row rfl _ _ (w.heap.size+1+1) 71 _ (0,0) _ rfl kW6 Tryz.underlying71 rfl (by kernel_rfl)) rfl ?_
  exact ⟨_,r,rfl,hr,own_put pW6 (own_less HO5.out (by omega)) (by decide),pW6.below (QZ.trans (HS5.mono (by omega))) (by omega)⟩
end Go.Proofs.YtcknpofnpabkiaaGreat
