/- lodestarlaw16's GraphPairs answers true. Conditions: the states lie in memory. -/
import Derived.Test.YtiikagabdiphkaaGreatGpBD
import Derived.Test.YtiikagabdiphkaaGreatGpBE
import Derived.Test.YtiikagabdiphkaaGreatGpAY
set_option maxRecDepth 100000
namespace Go.Proofs.YtiikagabdiphkaaGreat
open Go.RowKit Go.Lo
theorem own_max {w:World} {b s n:Nat} {e:TypeId} {v:Value} {xs:List Value} (h:w.ownsRow b e s v n xs):n≤9223372036854775807:=by
 rcases h.2 with ⟨_,h0⟩ | ⟨g,cap,cur,rfl,_,_,hnc,hcm,_⟩
 ·omega
 ·simp only[maxLen] at hcm
  omega
theorem states_len {w:World} {B:Nat} {sv:Value} {S:List StG} {ls:List StV} (hS:StatesIn w B sv S ls) {m:Nat} (h:∀ s∈S,s.2.length≤m):∀ x∈ls,x.len≤m:=fun x hx=>by
 obtain ⟨k,hk,rfl⟩:=List.getElem_of_mem hx
 have hl:=hS.len
 have h1:=sl_len (hS.bodies k hk (by omega))
 rw[h1]
 exact h _ (List.getElem_mem _)
theorem lens_states {w:World} {B:Nat} {sv:Value} {S:List StG} {ls:List StV} (hS:StatesIn w B sv S ls) {m:Nat} (h:∀ x∈ls,x.len≤m):∀ s∈S,s.2.length≤m:=fun s hs=>by
 obtain ⟨k,hk,rfl⟩:=List.getElem_of_mem hs
 have hl:=hS.len
 have h1:=sl_len (hS.bodies k (by omega) hk)
 rw[←h1]
 exact h _ (List.getElem_mem _)
theorem pairs_rows {rows:List NodR} {S:List StG} (h:rows.map (·.n)=graphG (nodesG S)):∀ (i:Nat) (hi:i<rows.length),∀ e∈rows[i].n.edges,∃ (j:Nat) (hj:j<rows.length),e.dst=j∧j≠i∧(rows[i].n.network=true→e.cost=0∧rows[j].n.network=false)∧(rows[j].n.edges.any fun x=>x.dst==(i:Int) && x.virt==e.virt)=true:=by
 intro i hi e he
 have hP:=pairs_ok (nodesG_ok S).rise
 have hl:(graphG (nodesG S)).length=rows.length:=by rw[←h];simp
 have hg:∀ j (hj:j<(graphG (nodesG S)).length),(graphG (nodesG S))[j]=(rows[j]'(by omega)).n:=fun j hj=>by simp only[←h,List.getElem_map]
 obtain ⟨j,hj,h1,h2,h3,x,hx,h4,h5⟩:=hP i (by omega) e (by rw[hg];exact he)
 rw[hg] at h3 hx
 rw[hg] at h3
 refine ⟨j,by omega,h1,h2,h3,List.any_eq_true.2 ⟨x,hx,?_⟩⟩
 rw[h4,h5]
 simp
set_option maxHeartbeats 8000000 in
theorem graphPairs_any (B:Nat) (sv:Value) (S:List StG) (ls:List StV) (w:World) (hS:StatesIn w B sv S ls) (hB:B≤w.heap.size) (hok:∀ s∈S,HeadOk s.1∧∀ b∈s.2,0≤b∧b<256) (hh:∀ s∈S,s.2.length≤140737488355328) (hn:ls.length≤140737488355328) :
  Calls Tryz.prog 7 #[sv] w fun e w'=>e=.returned (.bool true)∧Below w.heap.size w w':=by
 have CH:=heavy16_any ls sv B w hS.sl hn (states_len hS hh)
 have CW:=fun W=>works16_any W
 have CC:=fun h1 h2=>copystates_any B sv S ls w hS hB (lens_states hS h1) h2
 have LS:∀ m,(∀ x∈ls,x.len≤m)→∀ s∈S,s.2.length≤m:=fun m h=>lens_states hS h
 replace LS:=Lib.hid LS
 replace CH:=Lib.hid CH
 replace CW:=Lib.hid CW
 replace CC:=Lib.hid CC
 have hsl:=hS.len
 obtain ⟨-,lA,lc,rfl,-⟩:=id hS.sl
 clear hS
 replace hsl:=Lib.hid hsl
 go_enter Tryz.func7,Tryz.ntmps7
 go_upto_if 11 with (go_at_call 23;refine Calls.mono CH.out ?_;rintro e w1 ⟨q,rfl,rfl,hq⟩)
 cases q with
 | true =>
  go_wp2_with (go_at_call 24;refine Calls.mono (CW.out _) ?_;rintro e w2 ⟨rfl,hB2⟩)
  go_ret
  exact ⟨rfl,hB2⟩
 | false =>
  obtain ⟨h60,h16⟩:=hq rfl
  have CC:=Lib.hid (CC.out (fun x hx=>Nat.le_trans (h16 x hx) (by omega)) (by omega))
  have hso:∀ s∈S,StOk s:=fun s hs=>⟨(hok s hs).1,Nat.le_trans (LS.out _ h16 s hs) (by omega),(hok s hs).2⟩
  replace hso:=Lib.hid hso
  clear CH hq h16 LS
  go_upto_region 4 with (go_at_call 19;refine Calls.mono CC.out ?_;rintro e w2 ⟨v,ys,rfl,hys,hR⟩;replace hys:=Lib.hid hys)
  have hS2:=hR.states
  rw[hys.out] at hS2
  refine Calls.mono (build_any _ v S (ys.map (·.1)) w2 hS2 (Nat.le_refl _) hso.out (by
   have h1:=congrArg List.length hys.out
   have h2:=hsl.out
   rw[List.length_map]
   unfold sOf at h1
   rw[List.length_map] at h1
   omega)) ?_
  rintro e w3 ⟨nv,rows,rfl,hG,hgr,hB3⟩
  go_upto_region 4 with fail
  have hP:=pairs_rows hgr
  have hw3:Below w1.heap.size w1 w3:=hR.below.trans (hB3.mono hR.below.size)
  have hnl:=own_max hG.nods
  have hel:=fun r hr=>own_max (hG.edges r hr)
  have hno:=Sl.of_own hG.nods
  have hed:=fun r hr=>Sl.of_own (hG.edges r hr)
  obtain ⟨-,nA,nc,rfl,-⟩:=id hno
  replace hP:=Lib.hid hP
  replace hed:=Lib.hid hed
  replace hel:=Lib.hid hel
  clear CC hgr hR hB3 hS2 hG
  go_upto_region 5 with fail
  go_loopg [4] rows.length (fun m u wr=>∃ i:Nat,i≤rows.length∧m=rows.length-i∧u=.int .i64 i∧Below w3.heap.size w3 wr)
  case atStart=>exact ⟨0,Nat.zero_le _,rfl,rfl,Below.refl _ _⟩
  case round =>
   obtain ⟨i,hi,rfl,rfl,hBi⟩:=hrel
   obtain ⟨w4,rfl⟩:∃ x:World,x=wr:=⟨_,rfl⟩
   by_cases hil:i<rows.length
   ·obtain ⟨nb,no,rfl,hnb,hnr⟩:=Sl.row nodC_len (hno.below hBi) hil
    have ii:(i:Int)<(rows.length:Int):=by omega
    have hPi:=Lib.hid (hP.out i hil)
    have hei:=hed.out _ (List.getElem_mem hil)
    have heli:=hel.out _ (List.getElem_mem hil)
    obtain ⟨r,hr⟩:∃ r,r=rows[i]:=⟨_,rfl⟩
    rw[←hr] at hnr hPi hei heli
    replace hr:=Lib.hid hr
    obtain ⟨rn,rev,rsv⟩:=r
    obtain ⟨-,eA,ec,he,-⟩:=id hei
    simp only at he
    subst he
    simp only at hPi hei heli
    have a0:w4.cell? ⟨nb,no+i*7,none⟩=some (.bool rn.network):=hnr 0 _ rfl
    have a5:w4.cell? ⟨nb,no+i*7+5,none⟩=some (.slice eA rn.edges.length ec):=hnr 5 _ rfl
    obtain ⟨es,hes⟩:∃ es,es=rn.edges:=⟨_,rfl⟩
    rw[←hes] at hPi hei heli a5
    replace hes:=Lib.hid hes
    obtain ⟨net,hnet⟩:∃ b,b=rn.network:=⟨_,rfl⟩
    rw[←hnet] at hPi a0
    replace hnet:=Lib.hid hnet
    have wi:wrap64 ((i:Int)+1)=(i:Int)+1:=by unfold wrap64;omega
    clear hnr
    go_upto_region 8 with fail
    go_loopg [5] es.length (fun m u wr=>∃ k:Nat,k≤es.length∧m=es.length-k∧u=.int .i64 k∧Below w4.heap.size w4 wr)
    case atStart=>exact ⟨0,Nat.zero_le _,rfl,rfl,Below.refl _ _⟩
    case round =>
     obtain ⟨k,hk,rfl,rfl,hBk⟩:=hrel
     obtain ⟨w5,rfl⟩:∃ x:World,x=wr:=⟨_,rfl⟩
     have hnb4:nb<w4.heap.size:=Nat.lt_of_lt_of_le hnb hBi.size
     have b0:=(hBk.cell (p:=⟨nb,no+i*7,none⟩) hnb4).trans a0
     have b5:=(hBk.cell (p:=⟨nb,no+i*7+5,none⟩) hnb4).trans a5
     by_cases hkl:k<es.length
     ·obtain ⟨eb,eo,rfl,heb,her⟩:=Sl.row (f:=edgeC) (fun _=>rfl) ((hei.below (hBi.trans (hBk.mono hBi.size)))) hkl
      have kk:(k:Int)<(es.length:Int):=by omega
      obtain ⟨j,hj,hd,hji,hnn,hany⟩:=hPi.out _ (List.getElem_mem hkl)
      have hrg:w5.rangeAt eb (eo+k*4) (edgeC es[k]):=her
      obtain ⟨e,he⟩:∃ e,e=es[k]:=⟨_,rfl⟩
      rw[←he] at hd hnn hany hrg
      replace he:=Lib.hid he
      obtain ⟨x0,x1,x2,x3⟩:=e
      simp only at hd hnn hany
      subst hd
      dsimp only[edgeC] at hrg
      obtain ⟨kz,hkz⟩:∃ z:Int,z=(k:Int)+1:=⟨_,rfl⟩
      have wk:wrap64 ((k:Int)+1)=kz:=by unfold wrap64;omega
      replace hkz:=Lib.hid hkz
      have hej:=hed.out _ (List.getElem_mem hj)
      have helj:=hel.out _ (List.getElem_mem hj)
      obtain ⟨nb2,no2,hx2,-,hnj⟩:=Sl.row nodC_len (hno.below (hBi.trans (hBk.mono hBi.size))) hj
      simp only[Option.some.injEq,Addr.mk.injEq,and_true] at hx2
      obtain ⟨rfl,rfl⟩:=hx2
      obtain ⟨rj,hrj⟩:∃ r,r=rows[j]:=⟨_,rfl⟩
      rw[←hrj] at hej helj hnj hnn hany
      replace hrj:=Lib.hid hrj
      obtain ⟨jn,jev,jsv⟩:=rj
      obtain ⟨-,fA,fc,hf,-⟩:=id hej
      simp only at hf
      subst hf
      simp only at hej helj hnn hany
      have j0:w5.cell? ⟨nb,no+j*7,none⟩=some (.bool jn.network):=hnj 0 _ rfl
      have j5:w5.cell? ⟨nb,no+j*7+5,none⟩=some (.slice fA jn.edges.length fc):=hnj 5 _ rfl
      obtain ⟨fs,hfs⟩:∃ es,es=jn.edges:=⟨_,rfl⟩
      rw[←hfs] at hej helj hany j5
      replace hfs:=Lib.hid hfs
      obtain ⟨nj,hnj2⟩:∃ b,b=jn.network:=⟨_,rfl⟩
      rw[←hnj2] at hnn j0
      replace hnj2:=Lib.hid hnj2
      replace hany:=Lib.hid hany
      have q1:¬ ((j:Int)<0):=by omega
      have q2:¬ ((rows.length:Int)≤(j:Int)):=by omega
      have q2b:(j:Int)<(rows.length:Int):=by omega
      have q3:((j:Int)==(i:Int))=false:=by simp;omega
      have q3b:¬ (j:Int)=(i:Int):=by omega
      clear her hnj
      go_upto_region 11 with (refine wpList_load_mid rfl 73 (.tmp 38) rfl eb (eo+k*4) rfl [.int .i64 (j:Int),.int .u32 x1,.int .u32 x2,.bool x3] _ hrg Tryz.underlying73 rfl (by kernel_rfl) ?_)
      have k6:=Blk.new w5 73 #[.int .i64 (j:Int),.int .u32 x1,.int .u32 x2,.bool x3]
      have kB:Below w5.heap.size w5 (w5.alloc (.cells #[.int .i64 (j:Int),.int .u32 x1,.int .u32 x2,.bool x3] 73)):=(Below.refl _ _).alloc (Nat.le_refl _) _
      generalize w5.alloc (.cells #[.int .i64 (j:Int),.int .u32 x1,.int .u32 x2,.bool x3] 73)=w6 at k6 kB ⊢
      obtain ⟨g6,hg6⟩:∃ x,x=w5.heap.size:=⟨_,rfl⟩
      rw[←hg6] at k6 ⊢
      have hg6l:=k6.lt
      replace hg6:=Lib.hid hg6
      have hnb5:nb<w5.heap.size:=Nat.lt_of_lt_of_le hnb4 hBk.size
      have c0:=(kB.cell (p:=⟨nb,no+i*7,none⟩) hnb5).trans b0
      have i0:=(kB.cell (p:=⟨nb,no+j*7,none⟩) hnb5).trans j0
      have i5:=(kB.cell (p:=⟨nb,no+j*7+5,none⟩) hnb5).trans j5
      have u0:=k6.cell 0
      have u1:=k6.cell 1
      have u3:=k6.cell 3
      simp only[q'a,q'z,q's] at u0 u1 u3
      have hnb6:nb<w6.heap.size:=Nat.lt_of_lt_of_le hnb5 kB.size
      have hB6:Below w3.heap.size w3 w6:=(hBi.trans (hBk.mono hBi.size)).trans (kB.mono (hBi.trans (hBk.mono hBi.size)).size)
      have hB46:Below w4.heap.size w4 w6:=hBk.trans (kB.mono hBk.size)
      have hej6:=hej.below hB6
      clear b0 b5 j0 j5 hrg k6 hej
      cases hnt:net with
      | true =>
       obtain ⟨z1,z2⟩:=hnn hnt
       subst z1 z2 hnt
       go_upto_region 15 with fail
       clear q1 q2 q3 q3b c0 i0
       obtain ⟨p,hp⟩:∃ p:GEdge→Bool,p=fun x=>x.dst==(i:Int) && x.virt==x3:=⟨_,rfl⟩
       have hany2:fs.any p=true:=by rw[hp];exact hany.out
       replace hp:=Lib.hid hp
       go_loopg [7,8] fs.length (fun m bv u wr=>∃ q:Nat,q≤fs.length∧m=fs.length-q∧bv=.bool ((fs.take q).any p)∧u=.int .i64 q∧Below w6.heap.size w6 wr)
       case atStart=>exact ⟨0,Nat.zero_le _,rfl,rfl,rfl,Below.refl _ _⟩
       case round =>
        obtain ⟨q,hq,rfl,rfl,rfl,hBq⟩:=hrel
        obtain ⟨w7,rfl⟩:∃ x:World,x=wr:=⟨_,rfl⟩
        have v0:=(hBq.cell (p:=⟨g6,0,none⟩) hg6l).trans u0
        have v3:=(hBq.cell (p:=⟨g6,3,none⟩) hg6l).trans u3
        have l5:=(hBq.cell (p:=⟨nb,no+j*7+5,none⟩) hnb6).trans i5
        by_cases hql:q<fs.length
        ·obtain ⟨fb,fo,rfl,hfb,hfr⟩:=Sl.row (f:=edgeC) (fun _=>rfl) ((hej6.more hB6.size).below hBq) hql
         have hfg:w7.rangeAt fb (fo+q*4) (edgeC fs[q]):=hfr
         have hta:(fs.take (q+1)).any p=((fs.take q).any p || p fs[q]):=by rw[List.take_succ_eq_append_getElem hql,List.any_append];simp
         obtain ⟨f,hf⟩:∃ f,f=fs[q]:=⟨_,rfl⟩
         rw[←hf] at hfg hta
         replace hf:=Lib.hid hf
         obtain ⟨y0,y1,y2,y3⟩:=f
         dsimp only[edgeC] at hfg
         obtain ⟨b,hb⟩:∃ b,b=(fs.take q).any p:=⟨_,rfl⟩
         obtain ⟨c1,hc1⟩:∃ b,(y0==(i:Int))=b:=⟨_,rfl⟩
         obtain ⟨c2,hc2⟩:∃ b,(y3==x3)=b:=⟨_,rfl⟩
         have hpf:p ⟨y0,y1,y2,y3⟩=(c1 && c2):=by rw[hp.out];show ((y0==(i:Int)) && (y3==x3))=_;rw[hc1,hc2]
         rw[hpf,←hb] at hta
         rw[←hb]
         replace hta:=Lib.hid hta
         have qq:(q:Int)<(fs.length:Int):=by omega
         obtain ⟨qz,hqz⟩:∃ z:Int,z=(q:Int)+1:=⟨_,rfl⟩
         have wq:wrap64 ((q:Int)+1)=qz:=by unfold wrap64;omega
         replace hqz:=Lib.hid hqz
         clear hfr hpf hb hany hany2
         go_upto_region 18 with (refine wpList_load_mid rfl 73 (.tmp 94) rfl fb (fo+q*4) rfl [.int .i64 y0,.int .u32 y1,.int .u32 y2,.bool y3] _ hfg Tryz.underlying73 rfl (by kernel_rfl) ?_)
         have k9:=Blk.new w7 73 #[.int .i64 y0,.int .u32 y1,.int .u32 y2,.bool y3]
         have kB9:Below w7.heap.size w7 (w7.alloc (.cells #[.int .i64 y0,.int .u32 y1,.int .u32 y2,.bool y3] 73)):=(Below.refl _ _).alloc (Nat.le_refl _) _
         have hBq9s:=hBq.size
         have hg67:g6<w7.heap.size:=Nat.lt_of_lt_of_le hg6l hBq.size
         generalize w7.alloc (.cells #[.int .i64 y0,.int .u32 y1,.int .u32 y2,.bool y3] 73)=w8 at k9 kB9 ⊢
         generalize w7.heap.size=g9 at k9 kB9 hg67 hBq9s ⊢
         have m0:=k9.cell 0
         have m3:=k9.cell 3
         have v3:=(kB9.cell (p:=⟨g6,3,none⟩) hg67).trans v3
         simp only[q'a,q'z,q's] at m0 m3
         have hBq9:Below w6.heap.size w6 w8:=hBq.trans (kB9.mono hBq9s)
         clear k9 hfg l5 v0
         cases b <;> cases c1 <;> cases c2
         all_goals
          go_wp2
          go_roundg (fs.length-(q+1))
          case measure=>omega
          case rel=>exact ⟨q+1,by omega,rfl,by rw[hta.out];rfl,by rfl,hBq9⟩
        ·obtain rfl:q=fs.length:=Nat.le_antisymm hq (Nat.not_lt.1 hql)
         have kq:¬ (fs.length:Int)<(fs.length:Int):=Int.lt_irrefl _
         have ht:(fs.take fs.length).any p=true:=by rw[List.take_of_length_le (Nat.le_refl _)];exact hany2
         rw[ht]
         have hfin:=hB46.trans (hBq.mono hB46.size)
         go_wp2
         go_roundg (es.length-(k+1))
         case measure=>omega
         case rel=>exact ⟨k+1,by omega,rfl,by rfl,hfin⟩
      | false =>
       subst hnt
       go_upto_region 15 with fail
       clear q1 q2 q3 q3b c0 i0
       obtain ⟨p,hp⟩:∃ p:GEdge→Bool,p=fun x=>x.dst==(i:Int) && x.virt==x3:=⟨_,rfl⟩
       have hany2:fs.any p=true:=by rw[hp];exact hany.out
       replace hp:=Lib.hid hp
       go_loopg [7,8] fs.length (fun m bv u wr=>∃ q:Nat,q≤fs.length∧m=fs.length-q∧bv=.bool ((fs.take q).any p)∧u=.int .i64 q∧Below w6.heap.size w6 wr)
       case atStart=>exact ⟨0,Nat.zero_le _,rfl,rfl,rfl,Below.refl _ _⟩
       case round =>
        obtain ⟨q,hq,rfl,rfl,rfl,hBq⟩:=hrel
        obtain ⟨w7,rfl⟩:∃ x:World,x=wr:=⟨_,rfl⟩
        have v0:=(hBq.cell (p:=⟨g6,0,none⟩) hg6l).trans u0
        have v3:=(hBq.cell (p:=⟨g6,3,none⟩) hg6l).trans u3
        have l5:=(hBq.cell (p:=⟨nb,no+j*7+5,none⟩) hnb6).trans i5
        by_cases hql:q<fs.length
        ·obtain ⟨fb,fo,rfl,hfb,hfr⟩:=Sl.row (f:=edgeC) (fun _=>rfl) ((hej6.more hB6.size).below hBq) hql
         have hfg:w7.rangeAt fb (fo+q*4) (edgeC fs[q]):=hfr
         have hta:(fs.take (q+1)).any p=((fs.take q).any p || p fs[q]):=by rw[List.take_succ_eq_append_getElem hql,List.any_append];simp
         obtain ⟨f,hf⟩:∃ f,f=fs[q]:=⟨_,rfl⟩
         rw[←hf] at hfg hta
         replace hf:=Lib.hid hf
         obtain ⟨y0,y1,y2,y3⟩:=f
         dsimp only[edgeC] at hfg
         obtain ⟨b,hb⟩:∃ b,b=(fs.take q).any p:=⟨_,rfl⟩
         obtain ⟨c1,hc1⟩:∃ b,(y0==(i:Int))=b:=⟨_,rfl⟩
         obtain ⟨c2,hc2⟩:∃ b,(y3==x3)=b:=⟨_,rfl⟩
         have hpf:p ⟨y0,y1,y2,y3⟩=(c1 && c2):=by rw[hp.out];show ((y0==(i:Int)) && (y3==x3))=_;rw[hc1,hc2]
         rw[hpf,←hb] at hta
         rw[←hb]
         replace hta:=Lib.hid hta
         have qq:(q:Int)<(fs.length:Int):=by omega
         obtain ⟨qz,hqz⟩:∃ z:Int,z=(q:Int)+1:=⟨_,rfl⟩
         have wq:wrap64 ((q:Int)+1)=qz:=by unfold wrap64;omega
         replace hqz:=Lib.hid hqz
         clear hfr hpf hb hany hany2
         go_upto_region 18 with (refine wpList_load_mid rfl 73 (.tmp 94) rfl fb (fo+q*4) rfl [.int .i64 y0,.int .u32 y1,.int .u32 y2,.bool y3] _ hfg Tryz.underlying73 rfl (by kernel_rfl) ?_)
         have k9:=Blk.new w7 73 #[.int .i64 y0,.int .u32 y1,.int .u32 y2,.bool y3]
         have kB9:Below w7.heap.size w7 (w7.alloc (.cells #[.int .i64 y0,.int .u32 y1,.int .u32 y2,.bool y3] 73)):=(Below.refl _ _).alloc (Nat.le_refl _) _
         have hBq9s:=hBq.size
         have hg67:g6<w7.heap.size:=Nat.lt_of_lt_of_le hg6l hBq.size
         generalize w7.alloc (.cells #[.int .i64 y0,.int .u32 y1,.int .u32 y2,.bool y3] 73)=w8 at k9 kB9 ⊢
         generalize w7.heap.size=g9 at k9 kB9 hg67 hBq9s ⊢
         have m0:=k9.cell 0
         have m3:=k9.cell 3
         have v3:=(kB9.cell (p:=⟨g6,3,none⟩) hg67).trans v3
         simp only[q'a,q'z,q's] at m0 m3
         have hBq9:Below w6.heap.size w6 w8:=hBq.trans (kB9.mono hBq9s)
         clear k9 hfg l5 v0
         cases b <;> cases c1 <;> cases c2
         all_goals
          go_wp2
          go_roundg (fs.length-(q+1))
          case measure=>omega
          case rel=>exact ⟨q+1,by omega,rfl,by rw[hta.out];rfl,by rfl,hBq9⟩
        ·obtain rfl:q=fs.length:=Nat.le_antisymm hq (Nat.not_lt.1 hql)
         have kq:¬ (fs.length:Int)<(fs.length:Int):=Int.lt_irrefl _
         have ht:(fs.take fs.length).any p=true:=by rw[List.take_of_length_le (Nat.le_refl _)];exact hany2
         rw[ht]
         have hfin:=hB46.trans (hBq.mono hB46.size)
         go_wp2
         go_roundg (es.length-(k+1))
         case measure=>omega
         case rel=>exact ⟨k+1,by omega,rfl,by rfl,hfin⟩
     ·obtain rfl:k=es.length:=by omega
      have kk:¬ (es.length:Int)<(es.length:Int):=by omega
      go_wp2
      go_roundg (rows.length-(i+1))
      case measure=>omega
      case rel=>exact ⟨i+1,by omega,rfl,by go_num,hBi.trans (hBk.mono hBi.size)⟩
   ·obtain rfl:i=rows.length:=by omega
    go_wp2_with (go_at_call 24;refine Calls.mono (CW.out _) ?_;rintro e w5 ⟨rfl,hB5⟩)
    go_ret
    have h5:=hBi.trans (hB5.mono hBi.size)
    exact ⟨rfl,hw3.trans (h5.mono hw3.size)⟩
end Go.Proofs.YtiikagabdiphkaaGreat
