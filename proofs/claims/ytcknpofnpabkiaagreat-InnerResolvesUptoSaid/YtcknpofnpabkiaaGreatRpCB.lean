/- lodestarlaw18's InnerResolves answers true. Conditions: the ways and their hops lie in memory. -/
import Derived.Test.YtcknpofnpabkiaaGreatRpBZ
import Derived.Test.YtcknpofnpabkiaaGreatRpAO
import Derived.Test.YtcknpofnpabkiaaGreatRpBU
import Derived.Test.YtcknpofnpabkiaaGreatRpAN
import Derived.Test.YtcknpofnpabkiaaGreatRpCA
set_option maxRecDepth 100000
namespace Go.Proofs.YtcknpofnpabkiaaGreat
open Go.RowKit Go.Lo
theorem WaysIn.moreI {w:World} {B B':Nat} {lv:Value} {R:List WayG} {l:List WayV} (h:WaysIn w B lv R l) (hB:B≤B'):WaysIn w B' lv R l:=⟨h.sl.more hB,h.map,fun k h1 h2=>(h.hops k h1 h2).more hB⟩
theorem RImp.ways {w0 wr:World} {xs:List WayY} {v:Value} (h:RImp w0 xs v wr):WaysIn wr wr.heap.size v (gOf xs) (xs.map (·.1)):=by
 have h1:=Sl.of_own h.own
 refine ⟨?_,?_,fun k hk hk2 => ?_⟩
 ·rw[List.length_map,List.flatMap_map]
  exact h1
 ·simp[gOf]
 ·simp only[List.getElem_map,gOf]
  exact Sl.of_own (h.hops _ (g'm (by simpa using hk)))
set_option maxHeartbeats 8000000 in
theorem innerResolves_any (B:Nat) (lv tv:Value) (R T:List WayG) (lw lt:List WayV) (w:World) (hR:WaysIn w B lv R lw) (hT:WaysIn w B tv T lt) (hB:B≤w.heap.size) (hRa:ArgI R) (hTa:ArgI T) (hn:lw.length≤2000000) (hn2:lt.length≤2000000) :
  Calls Tryz.prog 7 #[lv,tv] w fun e w'=>e=.returned (.bool true)∧Below w.heap.size w w':=by
 obtain ⟨-,lA,lc,rfl,-⟩:=id hR.sl
 obtain ⟨-,tA,tc,rfl,-⟩:=id hT.sl
 have CW:=h'd (fun W=>works18_any W)
 have B1:=h'd (big18_any lw _ B R w hR hB hn (fun r hr=>(hRa r hr).1) (fun r hr=>(hRa r hr).2))
 have B2:=h'd (fun W (hW:Below w.heap.size w W)=>big18_any lt _ B T W (hT.below (hW.mono hB)) (n't hB hW.size) hn2 (fun r hr=>(hTa r hr).1) (fun r hr=>(hTa r hr).2))
 have W1:=h'd (fun W (hW:Below w.heap.size w W)=>ways18_any B _ R lw W (hR.below (hW.mono hB)) (n't hB hW.size) (fun r hr=>(hRa r hr).2) hn)
 have W2:=h'd (fun W (hW:Below w.heap.size w W)=>ways18_any B _ T lt W (hT.below (hW.mono hB)) (n't hB hW.size) (fun r hr=>(hTa r hr).2) hn2)
 have hlr:=h'd hR.len
 have hltr:=h'd hT.len
 have HR:=h'd (fun W (hW:Below w.heap.size w W)=>(hR.below (hW.mono hB)).moreI (B':=W.heap.size) (n't hB hW.size))
 have HT:=h'd (fun W (hW:Below w.heap.size w W)=>(hT.below (hW.mono hB)).moreI (B':=W.heap.size) (n't hB hW.size))
 clear hR hT hRa hTa
 go_enter Tryz.func7,Tryz.ntmps7
 go_upto_region 1 with fail
 go_cut [13] (fun v wx=>∃ q:Bool,v=.bool q∧(q=false→(lw.length≤60∧∀ r∈R,r.2.length≤400∧Sorted r.2)∧lt.length≤60∧∀ r∈T,r.2.length≤400∧Sorted r.2)∧Below w.heap.size w wx)
 case first =>
  go_wp2_with (first
   | (go_at_call 25;(have _q:=hB2);refine c'm (B2.out _ hB2) ?_;rintro e w3 ⟨q3,rfl,hq3,hB3⟩)
   | (go_at_call 25;refine c'm B1.out ?_;rintro e w2 ⟨q2,rfl,hq2,hB2⟩;cases q2)
   | fail)
  ·go_meet
   case rel=>exact ⟨q3,rfl,fun h=>⟨hq2 (by first | rfl | trivial),hq3 h⟩,hB2.trans (hB3.mono hB2.size)⟩
  ·go_meet
   case rel=>exact ⟨true,rfl,fun h=>(by cases h),hB2⟩
 case rest =>
  obtain ⟨q,rfl,hq,hBc⟩:=hcut
  clear B1 B2
  cases q
  ·obtain ⟨⟨h60,hR4⟩,ht60,hT4⟩:=hq rfl
   have hRs:Hid (∀ r∈R,r.2.length≤400):=fun r hr=>(hR4 r hr).1
   have hTs:Hid (∀ r∈T,r.2.length≤400):=fun r hr=>(hT4 r hr).1
   have hRl:Hid (R.length≤60):=by have:=hlr.out;show R.length≤60;omega
   have hTl:Hid (T.length≤60):=by have:=hltr.out;show T.length≤60;omega
   have hQh:Hid (∀ r∈resP T R,r.2.length≤2000000):=fun r hr=>by
    obtain ⟨x,hx,rfl⟩:=resP_mem hr
    have h1:=resHops_len hTs.out (by omega) x.2
    have h2:=Nat.mul_le_mul_left 400 (hRs.out x hx)
    show (resHops T x.2).length≤_
    omega
   have hQl:Hid ((resP T R).length≤60):=by
    have h1:=hRl.out
    have h2:(resP T R).length≤R.length:=by unfold resP;rw[List.length_map];exact List.length_filter_le _ _
    show (resP T R).length≤60
    omega
   clear hR4 hT4 hq
   go_upto_region 4 with (first
    | (go_at_call 26;(have _q:=hIa);refine c'm (W2.out w2 (hBc.trans (hIa.below.mono hBc.size))) ?_;rintro e w3 ⟨vb,ts,rfl,hgt,hIb⟩)
    | (go_at_call 26;refine c'm (W1.out wc hBc) ?_;rintro e w2 ⟨va,xs,rfl,hgx,hIa⟩))
   have hx60:xs.length≤60:=by have h1:=congrArg List.length hgx;have h2:=hRl.out;simp[gOf] at h1;omega
   have ht60:ts.length≤60:=by have h1:=congrArg List.length hgt;have h2:=hTl.out;simp[gOf] at h1;omega
   have hb2:Below w.heap.size w w2:=hBc.trans (hIa.below.mono hBc.size)
   have hb3:Below w.heap.size w w3:=hb2.trans (hIb.below.mono hb2.size)
   have hIa3:=hIa.call hIb.below
   have CR:=resolve_any w3.heap.size va vb R T (xs.map (·.1)) (ts.map (·.1)) w3 (by rw[←hgx];exact hIa3.ways) (by rw[←hgt];exact hIb.ways) (n'r _) hRs.out hTs.out (by rw[List.length_map];omega) (by rw[List.length_map];omega)
   replace CR:=h'd CR
   replace hgx:=h'd hgx
   replace hgt:=h'd hgt
   go_upto_region 5 with (go_at_call 27;refine c'm CR.out ?_;rintro e w4 ⟨vx,ys,rfl,hgy,hI4⟩)
   have hb4:Below w.heap.size w w4:=hb3.trans (hI4.below.mono hb3.size)
   have CQ:=h'd (rresolve_any w4.heap.size _ _ R T lw lt w4 (HR.out w4 hb4) (HT.out w4 hb4) (n'r _) hRs.out hTs.out (by omega) (by omega))
   have hIa4:=h'd (hIa3.call hI4.below)
   have hIb4:=h'd (hIb.call hI4.below)
   replace hgy:=h'd hgy
   have E1:Hid (∀ W v zs,Below w4.heap.size w4 W→gOf zs=resP T R→RImp w4 zs v W→Calls Tryz.prog 23 #[vx,v] W fun e w'=>e=.returned (.bool true)∧Below W.heap.size W w'):=fun W v zs hW hz hIz=>eqWays18_any W.heap.size (resP T R) (ys.map (·.1)) (zs.map (·.1)) vx v W (by rw[←hgy.out];exact (hI4.call hW).ways) (by rw[←hz];exact hIz.ways) (n'r _) hQh.out (by have:=hQl.out;omega)
   have E2:Hid (∀ W,Below w4.heap.size w4 W→Calls Tryz.prog 23 #[va,.slice lA lw.length lc] W fun e w'=>e=.returned (.bool true)∧Below W.heap.size W w'):=fun W hW=>eqWays18_any W.heap.size R (xs.map (·.1)) lw va _ W (by have h:=(hIa4.out.call hW).ways;rw[hgx.out] at h;exact h) (HR.out W (hb4.trans (hW.mono hb4.size))) (n'r _) (fun r hr=>n't (hRs.out r hr) (by omega)) (by have:=hRl.out;omega)
   have E3:Hid (∀ W,Below w4.heap.size w4 W→Calls Tryz.prog 23 #[vb,.slice tA lt.length tc] W fun e w'=>e=.returned (.bool true)∧Below W.heap.size W w'):=fun W hW=>eqWays18_any W.heap.size T (ts.map (·.1)) lt vb _ W (by have h:=(hIb4.out.call hW).ways;rw[hgt.out] at h;exact h) (HT.out W (hb4.trans (hW.mono hb4.size))) (n'r _) (fun r hr=>n't (hTs.out r hr) (by omega)) (by have:=hTl.out;omega)
   clear hIa hIb hIa3 CR hI4 W1 W2
   go_wp2_with (first
    | (go_at_call 28;refine c'm CQ.out ?_;rintro e w5 ⟨vz,zs,rfl,hgz,hI5⟩;replace hgz:=h'd hgz;replace hI5:=h'd hI5)
    | (go_at_call 23;(have _q:=hB7);with_reducible refine c'm (E3.out _ (hI5.out.below.trans ((hB6.trans (hB7.mono hB6.size)).mono hI5.out.below.size))) ?_;rintro e w8 ⟨rfl,hB8⟩)
    | (go_at_call 23;(have _q:=hB6);with_reducible refine c'm (E2.out _ (hI5.out.below.trans (hB6.mono hI5.out.below.size))) ?_;rintro e w7 ⟨rfl,hB7⟩)
    | (go_at_call 23;with_reducible refine c'm (E1.out w5 vz zs hI5.out.below hgz.out hI5.out) ?_;rintro e w6 ⟨rfl,hB6⟩)
    | (go_at_call 20;refine c'm (CW.out _) ?_;rintro e w9 ⟨rfl,hB9⟩)
    | fail)
   go_ret
   have h5:=hI5.out.below
   have h6:=h5.trans (hB6.mono h5.size)
   have h7:=h6.trans (hB7.mono h6.size)
   have h8:=h7.trans (hB8.mono h7.size)
   have h9:=h8.trans (hB9.mono h8.size)
   exact ⟨rfl,hb4.trans (h9.mono hb4.size)⟩
  ·go_wp2_with (go_at_call 20;refine c'm (CW.out _) ?_;rintro e w9 ⟨rfl,hB9⟩)
   go_ret
   exact ⟨rfl,hBc.trans (hB9.mono hBc.size)⟩
end Go.Proofs.YtcknpofnpabkiaaGreat
