/- The known state of layer 20. -/
import Derived.Test.YtiikagabdiphkaaGreatOnAK
import Derived.Test.YtiikagabdiphkaaGreatOnAH
set_option maxRecDepth 100000
namespace Go.Proofs.YtiikagabdiphkaaGreat
open Go.RowKit Go.Lo
def body20:List Int:=[255,0,0,0,0,0,0,3,0,0,0,0,0,0,0,9]
abbrev head20:OHead:=⟨0,0,5,335544320,5,1,40211,36⟩
theorem headOk20:HeadOk head20:=⟨by decide,by decide,by decide,by decide,by decide,by decide,by decide,by decide⟩
theorem headOk20z:HeadOk (encH5 0 0 335544320 5 1):=⟨by decide,by decide,by decide,by decide,by decide,by decide,by decide,by decide⟩
theorem body20_eq:beN 4278190080 4++beN 3 4++beN 0 4++beN 9 4=body20:=by decide
theorem addP_short (bs:List Int) (c:Int × Int) (h:0<bs.length) (h2:bs.length≤4000):addP bs c=modC (addL bs c):=by
 rw[addP_step bs c h,List.drop_eq_nil_of_le h2,addP_nil,List.take_of_length_le h2]
theorem seal20 (r:Int) (h:sealR (encH5 0 0 335544320 5 1) body20 r):r=40211:=by
 unfold sealR at h
 have e1:sumsTo (sealB (encH5 0 0 335544320 5 1) body20) 14 (sealB (encH5 0 0 335544320 5 1) body20).length=(79,69):=by decide
 have e2:((((sealB (encH5 0 0 335544320 5 1) body20).length:Int)-14)%255)=20:=by decide
 rw[e1,e2] at h
 rcases h with ⟨x,y,h1,h2,h3,h4,⟨h5,h6⟩,rfl⟩ | ⟨-,hno⟩
 ·simp only at h5 h6
  omega
 ·exact absurd (show hitP (79,69) 20 157 19 from ⟨by decide,by decide⟩) (hno 157 19 (by decide) (by decide) (by decide) (by decide))
theorem whole20:wholeB ((headB head20++body20).drop 2)=true:=by
 unfold wholeB
 rw[addP_short _ _ (by decide) (by decide)]
 decide
theorem chk20:chkP head20 body20 0=0:=by
 unfold chkP
 rw[whole20]
 decide
theorem decode20 (B:Nat) (bv:Value) (W:World) (hb:Sl W B 1 bv 16 (body20.map u8c)) (hB:B≤W.heap.size) :
  Calls Tryz.prog 62 #[stateVal head20 bv] W fun x w'=>x=.returned (.tuple #[.agg (outC 4278190080 3 false 0 9),.int .i64 0])∧Below W.heap.size W w':=
 decode5_ok head20 4278190080 3 0 9 (by decide) (by decide) (by decide) (by decide) (by decide) B bv body20 (by decide) (by decide) (by decide) (by decide) (by decide) (by decide) W hb hB (by decide) rfl rfl
theorem check20 (B:Nat) (bv:Value) (W:World) (hb:Sl W B 1 bv 16 (body20.map u8c)) (hB:B≤W.heap.size) :
  Calls Tryz.prog 131 #[stateVal head20 bv] W fun x w'=>x=.returned (.int .i64 0)∧Below W.heap.size W w':=by
 have C:=check_any head20 headOk20 B bv body20 W hb hB (by decide) (by decide) 0 0 none 0 0 4278190080 none 0 0 3 false 0 9 none 0 0 (fun W2 h2 hB2 _=>decode20 B bv W2 h2 hB2)
 rw[chk20] at C
 exact C
set_option maxHeartbeats 1000000 in
theorem one20_any (w:World):Calls Tryz.prog 78 #[] w fun x w'=>∃ (g A n c:Nat),x=.returned (.slice (some ⟨g,0,none⟩) 1 1)∧w.heap.size≤g∧Blk w' g 54 #[.int .u16 0,.int .u8 0,.int .u8 5,.int .u32 335544320,.int .u32 5,.int .i32 1,.int .u16 40211,.int .u16 36,.slice (some ⟨A,0,none⟩) n c]∧Sl w' w'.heap.size 1 (.slice (some ⟨A,0,none⟩) n c) 16 (body20.map u8c)∧Below w.heap.size w w':=by
 have CE:=fun W=>encode5 0 0 335544320 5 1 headOk20z 4278190080 3 0 9 8 maskOf8 (by decide) (by decide) (by decide) (by decide) (by decide) W
 rw[body20_eq] at CE
 replace CE:=Lib.hid CE
 go_enter Tryz.func78,Tryz.ntmps78
 go_upto_region 2 with (first
  | (go_at_call 91;refine Calls.mono (CE.out _) ?_;rintro x w1 ⟨v,r,rfl,hr,ho,hB1⟩;obtain rfl:=seal20 r hr;obtain ⟨A,c,rfl,-,-⟩:=ho.form (by decide))
  | fail)
 have k0:Blk (w1.alloc (.cells #[.int .u16 0,.int .u8 0,.int .u8 5,.int .u32 335544320,.int .u32 5,.int .i32 1,.int .u16 40211,.int .u16 36,.slice (some ⟨A,0,none⟩) 16 c] 54)) w1.heap.size 54 #[.int .u16 0,.int .u8 0,.int .u8 5,.int .u32 335544320,.int .u32 5,.int .i32 1,.int .u16 40211,.int .u16 36,.slice (some ⟨A,0,none⟩) 16 c]:=Blk.new _ _ _
 have kB:Below w1.heap.size w1 (w1.alloc (.cells #[.int .u16 0,.int .u8 0,.int .u8 5,.int .u32 335544320,.int .u32 5,.int .i32 1,.int .u16 40211,.int .u16 36,.slice (some ⟨A,0,none⟩) 16 c] 54)):=(Below.refl _ _).alloc (Nat.le_refl _) _
 have hz:(w1.alloc (.cells #[.int .u16 0,.int .u8 0,.int .u8 5,.int .u32 335544320,.int .u32 5,.int .i32 1,.int .u16 40211,.int .u16 36,.slice (some ⟨A,0,none⟩) 16 c] 54)).heap.size=w1.heap.size+1:=by simp
 dsimp only[stateVal]
 generalize w1.alloc (.cells #[.int .u16 0,.int .u8 0,.int .u8 5,.int .u32 335544320,.int .u32 5,.int .i32 1,.int .u16 40211,.int .u16 36,.slice (some ⟨A,0,none⟩) 16 c] 54)=w2 at k0 kB hz ⊢
 have hz1:=hB1.size
 have hs:=(Sl.of_own ho).below kB
 clear ho
 go_wp2_with (refine wpList_load_row rfl 54 (.tmp 1) rfl w1.heap.size rfl 54 #[.int .u16 0,.int .u8 0,.int .u8 5,.int .u32 335544320,.int .u32 5,.int .i32 1,.int .u16 40211,.int .u16 36,.slice (some ⟨A,0,none⟩) 16 c] (0,0) _ k0 Tryz.underlying54 rfl (by kernel_rfl) ?_)
 go_ret
 exact ⟨w1.heap.size+1,A,16,c,rfl,by omega,Blk.new_ _ hz.symm,(hs.alloc (by omega) _).more (by simp;omega),hB1.trans ((kB.mono hz1).alloc (by omega) _)⟩
end Go.Proofs.YtiikagabdiphkaaGreat
