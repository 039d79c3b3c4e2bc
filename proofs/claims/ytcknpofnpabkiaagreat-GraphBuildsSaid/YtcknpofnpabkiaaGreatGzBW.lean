/- lodestarlaw16's GraphBuilds answers true. Conditions: the states lie in memory. -/
import Derived.Test.YtcknpofnpabkiaaGreatGzBR
import Derived.Test.YtcknpofnpabkiaaGreatGzBT
import Derived.Test.YtcknpofnpabkiaaGreatGzBV
set_option maxRecDepth 100000
namespace Go.Proofs.YtcknpofnpabkiaaGreat
open Go.RowKit Go.Lo
theorem find_same {ra rd:List NodR} (h:ra.map (·.n)=rd.map (·.n)) (net:Bool) (id:Int):ra.findIdx? (isN_ net id)=rd.findIdx? (isN_ net id):=by
 have e:∀ l:List NodR,l.findIdx? (isN_ net id)=(l.map (·.n)).findIdx? (fun n=>n.network==net && n.id==id):=fun l=>by
  rw[List.findIdx?_map]
  rfl
 rw[e,e,h]
theorem rows_len {rows:List NodR} {S:List StG} (h:rows.map (·.n)=graphG (nodesG S)):rows.length≤S.length:=by
 have h1:=congrArg List.length h
 rw[List.length_map] at h1
 have h2:(graphG (nodesG S)).length=(nodesG S).length:=by simp[graphG]
 have h3:=nodesG_len S
 omega
set_option maxHeartbeats 8000000 in
theorem graphBuilds_any (B:Nat) (sv:Value) (S:List StG) (ls:List StV) (net:Bool) (id:Int) (w:World) (hS:StatesIn w B sv S ls) (hB:B≤w.heap.size) (hok:∀ s∈S,HeadOk s.1∧∀ b∈s.2,0≤b∧b<256) (hh:∀ s∈S,s.2.length≤140737488355328) (hn:ls.length≤140737488355328) :
  Calls Tryz.prog 3 #[sv,.bool net,.int .u32 id] w fun e w'=>e=.returned (.bool true)∧Below w.heap.size w w':=by
 have CH:=heavy16_any ls sv B w hS.sl hn (states_len hS hh)
 have CW:=fun W=>works16_any W
 have CC:=fun h1 h2=>widestates_any B sv S ls w hS hB (lens_states hS h1) h2
 have LS:∀ m,(∀ x∈ls,x.len≤m)→∀ s∈S,s.2.length≤m:=fun m h=>lens_states hS h
 replace LS:=h'd LS
 replace CH:=h'd CH
 replace CW:=h'd CW
 replace CC:=h'd CC
 have hsl:=h'd hS.len
 obtain ⟨-,lA,lc,rfl,-⟩:=_root_.id hS.sl
 replace hS:=h'd hS
 go_enter Tryz.func3,Tryz.ntmps3
 go_upto_if 11 with (go_at_call 9;refine Calls.mono CH.out ?_;rintro e w1 ⟨q,rfl,rfl,hq⟩)
 cases q with
 | true =>
  go_wp2_with (go_at_call 10;refine Calls.mono (CW.out _) ?_;rintro e w2 ⟨rfl,hB2⟩)
  go_ret
  exact ⟨rfl,hB2⟩
 | false =>
  obtain ⟨h60,h16⟩:=hq rfl
  have CC:=h'd (CC.out (fun x hx=>Nat.le_trans (h16 x hx) (by omega)) (by omega))
  have hso:∀ s∈S,StOk s:=fun s hs=>⟨(hok s hs).1,Nat.le_trans (LS.out _ h16 s hs) (by omega),(hok s hs).2⟩
  have hsz:=LS.out _ h16
  replace hso:=h'd hso
  replace hsz:=h'd hsz
  clear CH hq h16 LS
  go_upto_region 4 with (go_at_call 11;refine Calls.mono CC.out ?_;rintro e w2 ⟨v,ys,rfl,hys,hW,hB2⟩;obtain ⟨gW,rfl,-⟩:=_root_.id hW)
  have hyl:ys.length≤60:=by
   have h1:=congrArg List.length hys
   unfold sOf at h1
   rw[List.length_map,←hsl.out] at h1
   omega
  have hst:=hW.states
  rw[hys] at hst
  have hyh:∀ y∈ys,y.2.length≤2000000:=fun y hy=>by
   have h1:((y.1.h,y.2):StG)∈S:=by
    rw[←hys]
    exact List.mem_map.2 ⟨y,hy,rfl⟩
   have:=hsz.out _ h1
   simp only at this
   omega
  have CB:=build_any _ _ S (ys.map (·.1)) w2 hst (Nat.le_refl _) hso.out (by rw[List.length_map];omega)
  have hz2:=hB2.size
  have CR:=fun (W:World) (h:Below w2.heap.size w2 W)=>rbuild_any B (.slice lA ls.length lc) S ls W (hS.out.below ((hB2.trans (h.mono hz2)).mono hB)) (Nat.le_trans hB (Nat.le_trans hz2 h.size)) hso.out (by omega)
  have CE:=fun (W:World) (h:Below w2.heap.size w2 W)=>eqstates_any w2.heap.size B _ (.slice lA ls.length lc) S (ys.map (·.1)) ls W (hst.below h) (hS.out.below ((hB2.trans (h.mono hz2)).mono hB)) h.size (Nat.le_trans hB (Nat.le_trans hz2 h.size)) (fun s hs=>by have:=hsz.out s hs;omega) (by rw[←hsl.out];omega)
  have CS:=fun (W:World) (h:Below w2.heap.size w2 W)=>sparestates_any _ _ ys W (hW.call h) hyh (by omega)
  replace CB:=h'd CB
  replace CR:=h'd CR
  replace CE:=h'd CE
  replace CS:=h'd CS
  replace hys:=h'd hys
  clear hst hyh hW CC
  go_upto_region 5 with (go_at_call 12;with_reducible refine Calls.mono CB.out ?_;rintro e w3 ⟨av,ra,rfl,hG,hga,hB3⟩)
  obtain ⟨-,aA,ac,rfl,-⟩:=_root_.id (Sl.of_own hG.nods)
  have hz3:=hB3.size
  have hral:=rows_len hga
  rw[←hsl.out] at hral
  replace hga:=h'd hga
  go_upto_region 6 with (go_at_call 13;with_reducible refine Calls.mono (CR.out _ hB3) ?_;rintro e w4 ⟨dv,rd,rfl,hD,hgd,hB4⟩)
  obtain ⟨-,dA,dc,rfl,-⟩:=_root_.id (Sl.of_own hD.nods)
  have hrdl:=rows_len hgd
  rw[←hsl.out] at hrdl
  have hB24:=hB3.trans (hB4.mono hz3)
  have hz4:=hB24.size
  have hsame:=hga.out.trans hgd.symm
  have hG4:=hG.call hB4
  have CQ:=eq16_any _ _ _ _ ra rd w4 hG4 hD hsame
  have CF:=fun (W:World) (h:Below w4.heap.size w4 W)=>gfind_any net id _ _ ra W (hG4.call h) (by omega)
  have CD:=fun (W:World) (h:Below w4.heap.size w4 W)=>rfind_any net id W.heap.size _ rd W (Sl.of_own (hD.call h).nods) (by omega)
  have hfs:=find_same hsame net id
  rw[←hfs] at CD
  obtain ⟨fi,hfi⟩:∃ z,z=idxI (ra.findIdx? (isN_ net id)):=⟨_,rfl⟩
  rw[←hfi] at CF CD
  have ef:(fi==fi)=true:=by simp
  replace CQ:=h'd CQ
  replace CF:=h'd CF
  replace CD:=h'd CD
  replace hfs:=h'd hfs
  replace hfi:=h'd hfi
  replace hsame:=h'd hsame
  replace hgd:=h'd hgd
  clear hG4 hG hD CB CR
  go_wp2_with (first
   | (go_at_call 10;with_reducible refine Calls.mono (CW.out _) ?_;rintro e w9 ⟨rfl,hE5⟩)
   | (go_at_call 18;with_reducible refine Calls.mono (CS.out _ (hB24.trans ((hE1.trans ((hE2.trans (hE3.mono hE2.size)).mono hE1.size)).mono hz4))) ?_;rintro e w8 ⟨rfl,hE4⟩)
   | (go_at_call 17;with_reducible refine Calls.mono (CE.out _ (hB24.trans ((hE1.trans (hE2.mono hE1.size)).mono hz4))) ?_;rintro e w7 ⟨rfl,hE3⟩)
   | (go_at_call 16;with_reducible refine Calls.mono (CD.out _ (hE1.trans (hE2.mono hE1.size))) ?_;rintro e w6' ⟨rfl,hw6⟩;subst hw6)
   | (go_at_call 15;with_reducible refine Calls.mono (CF.out _ hE1) ?_;rintro e w6 ⟨rfl,hE2⟩)
   | (go_at_call 14;with_reducible refine Calls.mono CQ.out ?_;rintro e w5 ⟨rfl,hE1⟩))
  go_ret
  exact ⟨rfl,hB2.trans ((hB24.trans ((hE1.trans ((hE2.trans ((hE3.trans ((hE4.trans (hE5.mono hE4.size)).mono hE3.size)).mono hE2.size)).mono hE1.size)).mono hz4)).mono hz2)⟩
end Go.Proofs.YtcknpofnpabkiaaGreat
