/- Sums of bytes. -/
import Derived.Test.YtcknpofnpabkiaaGreatRpAP
import Derived.Test.YtcknpofnpabkiaaGreatRpAA
set_option maxRecDepth 100000
namespace Go.Proofs.YtcknpofnpabkiaaGreat
open Go.RowKit Go.Lo
def addL (l:List Int) (c:Int × Int):Int × Int:=l.foldl (fun c x=>(c.1+x,c.2+(c.1+x))) c
theorem addL_snoc (l:List Int) (x:Int) (c:Int × Int):addL (l++[x]) c=((addL l c).1+x,(addL l c).2+((addL l c).1+x)):=by simp[addL]
def modC (c:Int × Int):Int × Int:=(c.1%255,c.2%255)
def addP (bs:List Int) (c:Int × Int):Int × Int:=if bs.length=0 then c else addP (bs.drop 4000) (modC (addL (bs.take 4000) c))
termination_by bs.length
decreasing_by rw[List.length_drop];omega
theorem addP_nil (c:Int × Int):addP [] c=c:=by rw[addP];simp
theorem addP_step (bs:List Int) (c:Int × Int) (h:0<bs.length):addP bs c=addP (bs.drop 4000) (modC (addL (bs.take 4000) c)):=by
 rw[addP,if_neg (by omega)]
theorem addL_le (c:Int × Int) (hc:0≤c.1∧c.1<255∧0≤c.2∧c.2<255) (l:List Int) (hl:∀ x∈l,0≤x∧x<256):∀ j,j≤l.length→j≤4000 →
  0≤(addL (l.take j) c).1∧(addL (l.take j) c).1≤255+255*j∧0≤(addL (l.take j) c).2∧(addL (l.take j) c).2≤255+1100000*j
 | 0,_,_=>by simp[addL];omega
 | j+1,h,hj=>by
  have ih:=addL_le c hc l hl j (by omega) (by omega)
  have hx:=hl l[j] (g'm _)
  rw[t'k (by omega),addL_snoc]
  simp only
  omega
theorem modC_ok {c:Int × Int} (_h:0≤c.1∧0≤c.2):0≤(modC c).1∧(modC c).1<255∧0≤(modC c).2∧(modC c).2<255:=by
 simp only[modC]
 omega
theorem _root_.Go.Lo.Put.drew_ {w W:World} {g:Nat} {t:TypeId} (p:Put w g t W):Put w g t W.drew:=⟨p.os,p.tape,p.output,p.size,p.pre,p.other⟩
theorem putT {w W W2:World} {g:Nat} {t:TypeId} (p:Put w g t W) (q:Put W g t W2):Put w g t W2:=⟨q.os.trans p.os,q.tape.trans p.tape,q.output.trans p.output,q.size.trans p.size,p.pre,fun k hk=>(q.other k hk).trans (p.other k hk)⟩
def AddR (w:World) (b B:Nat) (bs:List Int) (c:Int × Int) (m:Nat) (v:Value) (wr:World):Prop:=
 ∃ (rest:List Int) (c1:Int × Int),m=rest.length∧Sl wr B 1 v rest.length (rest.map u8c)∧(0≤c1.1∧c1.1<255∧0≤c1.2∧c1.2<255)∧addP rest c1=addP bs c∧(∀ x∈rest,0≤x∧x<256)∧Blk wr b 261 #[.int .i64 c1.1,.int .i64 c1.2]∧Put w b 261 wr
set_option maxHeartbeats 2000000 in
theorem add_any (b B:Nat) (c:Int × Int) (hc:0≤c.1∧c.1<255∧0≤c.2∧c.2<255) (xv:Value) (bs:List Int) (w:World) (hb:Blk w b 261 #[.int .i64 c.1,.int .i64 c.2]) (hx:Sl w B 1 xv bs.length (bs.map u8c)) (hB:B≤b) (hl:∀ x∈bs,0≤x∧x<256) (hn:bs.length≤140737488355328) :
  Calls Tryz.prog 176 #[.pointer (some ⟨b,0,none⟩),xv] w fun x w'=>x=.returned (.tuple #[])∧Blk w' b 261 #[.int .i64 (addP bs c).1,.int .i64 (addP bs c).2]∧Put w b 261 w':=by
 have hx0:=hx
 obtain ⟨-,A,cc,rfl,-⟩:=hx
 go_enter Tryz.func176,Tryz.ntmps176
 go_wp2_with fail
 go_step3
 go_wp2_with fail
 go_step3
 go_wp2_with fail
 go_loopg [1] bs.length (fun m v wr=>m≤bs.length∧AddR w b B bs c m v wr)
 case atStart=>exact ⟨n'r _,bs,c,rfl,hx0,hc,rfl,hl,hb,Put.refl_ hb⟩
 case round =>
  obtain ⟨hmn,rest,c1,hm,hs,hc1,he,hl1,hb1,hp⟩:=hrel
  obtain ⟨w1,rfl⟩:∃ x:World,x=wr:=⟨_,rfl⟩
  have hs0:=hs
  obtain ⟨-,A1,cap1,rfl,hcap,hcm,-⟩:=hs
  clear hb hx0
  by_cases h0:0<rest.length
  ·rcases Nat.lt_or_ge 4000 rest.length with h4 | h4
   ·have h4I:(4000:Int)<(rest.length:Int):=by omega
    obtain ⟨v3,hv3,hv3s⟩:=drop_ex u8T A1 rest.length cap1 4000 (by omega) hcap
    have hs2:=Sl.take (k:=4000) hs0 (by omega)
    have hs3:=hv3s w1 B _ hs0
    rw[Nat.mul_one,←List.map_take] at hs2
    rw[Nat.mul_one,←List.map_drop] at hs3
    obtain ⟨ps,hps⟩:∃ ps,ps=rest.take 4000:=⟨_,rfl⟩
    have hps4:ps=rest.take 4000:=by exact hps
    have hds4:rest.drop 4000=rest.drop 4000:=rfl
    rw[←hps] at hs2
    have hpl:ps.length=4000:=by rw[hps,List.length_take];omega
    have hpx:∀ x∈ps,0≤x∧x<256:=fun x hx=>hl1 x (by rw[hps] at hx;exact List.mem_of_mem_take hx)
    obtain ⟨-,A2,cap2,hA2v,-,-,hA2⟩:=id hs2
    obtain ⟨-,A3,cap3,rfl,-⟩:=id hs3
    obtain ⟨b2,o2,hA2e,hb2,hcell⟩:=hA2 (by omega)
    have hget:∀ j (hj:j<ps.length),w1.cell? ⟨b2,o2+j,none⟩=some (.int .u8 ps[j]):=fun j hj=>hcell j _ (by rw[List.getElem?_map,List.getElem?_eq_getElem hj];rfl)
    have hA1:A1=some ⟨b2,o2,none⟩:=by simp only[Value.slice.injEq] at hA2v;rw[hA2v.1,hA2e]
    subst hA1
    have hs5:=h'd (show Sl w1 B 1 (.slice (some ⟨b2,o2+4000,none⟩) (rest.length-4000) (cap1-4000)) (rest.length-4000) ((rest.drop 4000).map u8c) by have h:=Sl.drop (k:=4000) hs0 (by omega);rw[if_neg (by omega),←List.map_drop] at h;simpa[addr_add] using h)
    have hbnd:=addL_le c1 hc1 ps hpx
    have hlr:(0:Int)<(rest.length:Int):=by omega
    have hmx:max (4000:Int) 0=4000:=by omega
    replace hget:=h'd hget
    replace hbnd:=h'd hbnd
    replace hm:=h'd hm
    replace hs3:=h'd hs3
    replace he:=h'd he
    replace hps4:=h'd hps4
    replace hds4:=h'd hds4
    replace hp:=h'd hp
    clear hs0 hs2 hcell hv3s hA2 hps hA2v hA2e
    go_wp2_with fail
    go_loopg [17] 4000 (fun m i wx=>∃ j:Nat,j≤4000∧m=4000-j∧i=.int .i64 j∧Blk wx b 261 #[.int .i64 (addL (ps.take j) c1).1,.int .i64 (addL (ps.take j) c1).2]∧Put w1 b 261 wx)
    case atStart=>exact ⟨0,Nat.zero_le _,rfl,rfl,hb1,Put.refl_ hb1⟩
    case round =>
     obtain ⟨j,hj,hmj,rfl,hbj,hpj⟩:=hrel
     obtain ⟨w2,rfl⟩:∃ x:World,x=wr:=⟨_,rfl⟩
     clear hb1
     by_cases hjn:j<4000
     ·have cj:=((hpj.below (B:=b) (a:=w1) (b'r _ _) (n'r _)).cell (p:=⟨b2,o2+j,none⟩) (show b2<b by omega)).trans (hget.out j (by omega))
      have htk:=t'k (l:=ps) (i:=j) (by omega)
      have hsn:=addL_snoc (ps.take j) ps[j] c1
      rw[←htk] at hsn
      have hx:=hbnd.out j (by omega) (by omega)
      have hx2:=hpx ps[j] (g'm _)
      generalize ps[j]=x at cj hsn hx2
      obtain ⟨pq,hpq⟩:∃ pq,pq=addL (ps.take j) c1:=⟨_,rfl⟩
      rw[←hpq] at hbj hsn hx
      have x0:=hbj.cell 0
      have x1:=hbj.cell 1
      have f0:=hbj.free 0
      have f1:=hbj.free 1
      simp only[q'a,q'z,q's] at x0 x1
      replace hbj:=h'd hbj
      replace hsn:=h'd hsn
      replace hpq:=h'd hpq
      replace htk:=h'd htk
      go_wp2_with fail
      go_region
      go_wp2_with fail
      go_region
      go_wp2
      go_roundg ( 4000-(j+1))
      case measure=>omega
      case rel =>
       refine ⟨j+1,by omega,rfl,by go_num,?_,?_⟩
       ·rw[hsn.out]
        exact (((Blk.drew_ hbj.out).set_ 0 _).drew_).set_ 1 _
       ·exact ((show Put w1 b 261 _ from ((show Put w1 b 261 w2.drew from ⟨hpj.os,hpj.tape,hpj.output,hpj.size,hpj.pre,hpj.other⟩).cell_ 0 _)).drew_).cell_ 1 _
     ·obtain rfl:j=4000:=(by omega)
      have hall:ps.take 4000=ps:=by rw[←hpl];exact List.take_length
      have hx:=hbnd.out 4000 (by omega) (by omega)
      rw[hall] at hbj hx
      obtain ⟨pq,hpq⟩:∃ pq,pq=addL ps c1:=⟨_,rfl⟩
      rw[←hpq] at hbj hx
      have x0:=hbj.cell 0
      have x1:=hbj.cell 1
      have f0:=hbj.free 0
      have f1:=hbj.free 1
      simp only[q'a,q'z,q's] at x0 x1
      have heq:addP (rest.drop 4000) (modC pq)=addP bs c:=by
       rw[←he.out,addP_step rest c1 h0,←hps4.out,hpq]
      have hmk:=modC_ok (c:=pq) ⟨hx.1,hx.2.2.1⟩
      replace hbj:=h'd hbj
      replace heq:=h'd heq
      replace hmk:=h'd hmk
      replace hpq:=h'd hpq
      replace hall:=h'd hall
      go_wp2_with fail
      go_region
      all_goals
       go_wp2_with fail
       go_roundg (rest.length-4000)
       case measure=>have:=hm.out;omega
       case rel =>
        have P1:Put w1 b 261 _:=((hpj.cell_ 0 (.int .i64 (pq.1%255))).cell_ 1 (.int .i64 (pq.2%255))).drew_
        have K1:Blk _ b 261 _:=((hbj.out.set_ 0 (.int .i64 (pq.1%255))).set_ 1 (.int .i64 (pq.2%255))).drew_
        simp only[s'a,s'z,s's] at K1
        exact ⟨by have:=hm.out;omega,rest.drop 4000,modC pq,by rw[List.length_drop],by rw[List.length_drop];exact hs5.out.below (P1.below (B:=B) (a:=w1) (b'r _ _) hB),hmk.out,by first | exact heq.out | (rw[hds4.out];exact heq.out),fun x hx=>hl1 x (List.mem_of_mem_drop hx),K1,putT hp.out P1⟩
   ·have h4I:(rest.length:Int)≤4000:=by omega
    have h4J:¬ (4000:Int)<(rest.length:Int):=by omega
    obtain ⟨v3,hv3,hv3s⟩:=drop_ex u8T A1 rest.length cap1 rest.length (by omega) hcap
    have hs2:=Sl.take (k:=rest.length) hs0 (by omega)
    have hs3:=hv3s w1 B _ hs0
    rw[Nat.mul_one,←List.map_take] at hs2
    rw[Nat.mul_one,←List.map_drop] at hs3
    obtain ⟨ps,hps⟩:∃ ps,ps=rest.take rest.length:=⟨_,rfl⟩
    have hps4:ps=rest.take 4000:=by rw[hps,List.take_length,List.take_of_length_le h4]
    have hds4:rest.drop rest.length=rest.drop 4000:=by rw[List.drop_length,List.drop_of_length_le h4]
    rw[←hps] at hs2
    have hpl:ps.length=rest.length:=by rw[hps,List.length_take];omega
    have hpx:∀ x∈ps,0≤x∧x<256:=fun x hx=>hl1 x (by rw[hps] at hx;exact List.mem_of_mem_take hx)
    obtain ⟨-,A2,cap2,hA2v,-,-,hA2⟩:=id hs2
    obtain ⟨-,A3,cap3,rfl,-⟩:=id hs3
    obtain ⟨b2,o2,hA2e,hb2,hcell⟩:=hA2 (by omega)
    have hget:∀ j (hj:j<ps.length),w1.cell? ⟨b2,o2+j,none⟩=some (.int .u8 ps[j]):=fun j hj=>hcell j _ (by rw[List.getElem?_map,List.getElem?_eq_getElem hj];rfl)
    have hA1:A1=some ⟨b2,o2,none⟩:=by simp only[Value.slice.injEq] at hA2v;rw[hA2v.1,hA2e]
    subst hA1
    have hbnd:=addL_le c1 hc1 ps hpx
    have hlr:(0:Int)<(rest.length:Int):=by omega
    have hmx:max (4000:Int) 0=4000:=by omega
    replace hget:=h'd hget
    replace hbnd:=h'd hbnd
    replace hm:=h'd hm
    replace hs3:=h'd hs3
    replace he:=h'd he
    replace hps4:=h'd hps4
    replace hds4:=h'd hds4
    replace hp:=h'd hp
    clear hs0 hs2 hcell hv3s hA2 hps hA2v hA2e
    go_wp2_with fail
    go_loopg [17] rest.length (fun m i wx=>∃ j:Nat,j≤rest.length∧m=rest.length-j∧i=.int .i64 j∧Blk wx b 261 #[.int .i64 (addL (ps.take j) c1).1,.int .i64 (addL (ps.take j) c1).2]∧Put w1 b 261 wx)
    case atStart=>exact ⟨0,Nat.zero_le _,rfl,rfl,hb1,Put.refl_ hb1⟩
    case round =>
     obtain ⟨j,hj,hmj,rfl,hbj,hpj⟩:=hrel
     obtain ⟨w2,rfl⟩:∃ x:World,x=wr:=⟨_,rfl⟩
     clear hb1
     by_cases hjn:j<rest.length
     ·have cj:=((hpj.below (B:=b) (a:=w1) (b'r _ _) (n'r _)).cell (p:=⟨b2,o2+j,none⟩) (show b2<b by omega)).trans (hget.out j (by omega))
      have htk:=t'k (l:=ps) (i:=j) (by omega)
      have hsn:=addL_snoc (ps.take j) ps[j] c1
      rw[←htk] at hsn
      have hx:=hbnd.out j (by omega) (by omega)
      have hx2:=hpx ps[j] (g'm _)
      generalize ps[j]=x at cj hsn hx2
      obtain ⟨pq,hpq⟩:∃ pq,pq=addL (ps.take j) c1:=⟨_,rfl⟩
      rw[←hpq] at hbj hsn hx
      have x0:=hbj.cell 0
      have x1:=hbj.cell 1
      have f0:=hbj.free 0
      have f1:=hbj.free 1
      simp only[q'a,q'z,q's] at x0 x1
      replace hbj:=h'd hbj
      replace hsn:=h'd hsn
      replace hpq:=h'd hpq
      replace htk:=h'd htk
      go_wp2_with fail
      go_region
      go_wp2_with fail
      go_region
      go_wp2
      go_roundg ( rest.length-(j+1))
      case measure=>omega
      case rel =>
       refine ⟨j+1,by omega,rfl,by go_num,?_,?_⟩
       ·rw[hsn.out]
        exact (((Blk.drew_ hbj.out).set_ 0 _).drew_).set_ 1 _
       ·exact ((show Put w1 b 261 _ from ((show Put w1 b 261 w2.drew from ⟨hpj.os,hpj.tape,hpj.output,hpj.size,hpj.pre,hpj.other⟩).cell_ 0 _)).drew_).cell_ 1 _
     ·obtain rfl:j=rest.length:=(by omega)
      have hall:ps.take rest.length=ps:=by rw[←hpl];exact List.take_length
      have hx:=hbnd.out rest.length (by omega) (by omega)
      rw[hall] at hbj hx
      obtain ⟨pq,hpq⟩:∃ pq,pq=addL ps c1:=⟨_,rfl⟩
      rw[←hpq] at hbj hx
      have x0:=hbj.cell 0
      have x1:=hbj.cell 1
      have f0:=hbj.free 0
      have f1:=hbj.free 1
      simp only[q'a,q'z,q's] at x0 x1
      have heq:addP (rest.drop 4000) (modC pq)=addP bs c:=by
       rw[←he.out,addP_step rest c1 h0,←hps4.out,hpq]
      have hmk:=modC_ok (c:=pq) ⟨hx.1,hx.2.2.1⟩
      replace hbj:=h'd hbj
      replace heq:=h'd heq
      replace hmk:=h'd hmk
      replace hpq:=h'd hpq
      replace hall:=h'd hall
      go_wp2_with fail
      go_region
      all_goals
       go_wp2_with fail
       go_roundg (rest.length-rest.length)
       case measure=>have:=hm.out;omega
       case rel =>
        have P1:Put w1 b 261 _:=((hpj.cell_ 0 (.int .i64 (pq.1%255))).cell_ 1 (.int .i64 (pq.2%255))).drew_
        have K1:Blk _ b 261 _:=((hbj.out.set_ 0 (.int .i64 (pq.1%255))).set_ 1 (.int .i64 (pq.2%255))).drew_
        simp only[s'a,s'z,s's] at K1
        exact ⟨by have:=hm.out;omega,rest.drop rest.length,modC pq,by rw[List.length_drop],by rw[List.drop_length];have h:=hs3.out;rw[Nat.sub_self,List.drop_length] at h;exact h.below (P1.below (B:=B) (a:=w1) (b'r _ _) hB),hmk.out,by first | exact heq.out | (rw[hds4.out];exact heq.out),fun x hx=>hl1 x (List.mem_of_mem_drop hx),K1,putT hp.out P1⟩
  ·have hr:rest=[]:=List.eq_nil_of_length_eq_zero (by omega)
   subst hr
   rw[addP_nil] at he
   have hb2:Blk w1 b 261 #[.int .i64 (addP bs c).1,.int .i64 (addP bs c).2]:=by rw[←he];exact hb1
   clear hb1 he hs0
   go_wp2
   unfold Exit.noGoto
   refine bodyPost_end (results_none rfl _ _ _) rfl ?_
   exact ⟨rfl,hb2,hp⟩
end Go.Proofs.YtcknpofnpabkiaaGreat
