/- The document's nodes: the link states that are nodes, in order. Conditions: the states lie in memory. -/
import Derived.Test.YtcknpofnpabkiaaGreatGzAT
import Derived.Test.YtcknpofnpabkiaaGreatGzBI
namespace Go.Proofs.YtcknpofnpabkiaaGreat
open Go.RowKit Go.Lo
def flagsTo (S:List StG) (k:Nat):List Bool:=S.mapIdx fun i s=>decide (i<k) && isG s
theorem flagsTo_len (S:List StG) (k:Nat):(flagsTo S k).length=S.length:=by simp[flagsTo]
theorem flagsTo_zero (S:List StG):flagsTo S 0=List.replicate S.length false:=by
 apply List.ext_getElem
 ·simp[flagsTo]
 ·intro i h1 h2
  simp[flagsTo]
theorem flagsTo_succ {S:List StG} {k:Nat} (h:k<S.length):((flagsTo S k).map Value.bool).toArray.setIfInBounds k (.bool (isG S[k]))=((flagsTo S (k+1)).map Value.bool).toArray:=by
 rw[s'a]
 congr 1
 apply List.ext_getElem
 ·simp[flagsTo]
 ·intro i h1 h2
  have hi:i<S.length:=by simpa[flagsTo] using h2
  rw[List.getElem_set]
  by_cases e:k=i
  ·subst e
   simp[flagsTo]
  ·have:decide (i<k)=decide (i<k+1):=by
    by_cases h3:i<k
    ·simp[h3];omega
    ·have:¬ i<k+1:=by omega
     simp[h3,this]
   simp[flagsTo,e,this]
def FlagsAt (W:World) (g:Nat) (S:List StG):Prop:=∀ i (h:i<S.length),W.cell? ⟨g,i,none⟩=some (.bool (isG S[i]))
theorem flags_all {W:World} {g:Nat} {S:List StG} {t:TypeId} (h:Blk W g t ((flagsTo S S.length).map Value.bool).toArray):FlagsAt W g S:=fun i hi=>by
 rw[h.cell i]
 simp[flagsTo,hi]
theorem ins_len (L:List StG) (s:StG):(insN L s).length≤L.length+1:=by
 induction L with
 | nil=>simp[insN]
 | cons x r ih =>
  unfold insN
  split
  ·simp only[List.length_cons];omega
  ·split
   ·simp
   ·simp
theorem nodesG_len (S:List StG):(nodesG S).length≤S.length:=by
 obtain ⟨n,hn⟩:∃ n,S.length=n:=⟨_,rfl⟩
 induction n generalizing S with
 | zero =>
  rw[List.length_eq_zero_iff.1 hn]
  exact Nat.le_refl _
 | succ n ih =>
  rcases List.eq_nil_or_concat S with rfl | ⟨T,s,rfl⟩
  ·exact Nat.le_refl _
  ·rw[List.concat_eq_append] at hn ⊢
   have h1:=ih T (by simpa using hn)
   rw[nodesG_snoc]
   split
   ·have:=ins_len (nodesG T) s
    simp only[List.length_append,List.length_singleton];omega
   ·simp only[List.length_append,List.length_singleton];omega
theorem sts9T:ElT Tryz.prog 22 71 9 48:=⟨by kernel_rfl,by
 obtain ⟨i,hi,h1,h2,h3⟩:=info_parts (show (Tryz.prog.info? 71).map (fun i=>(i.zero,i.size,i.bytes))=some (some (.agg #[.int .u16 0,.int .u8 0,.int .u8 0,.int .u32 0,.int .u32 0,.int .i32 0,.int .u16 0,.int .u16 0,.slice none 0 0]),9,48) by kernel_rfl)
 exact ⟨i,_,hi,h1,h2,h3,rfl⟩,by omega⟩
theorem boolsT:ElT Tryz.prog 170 4 1 1:=⟨by kernel_rfl,by
 obtain ⟨i,hi,h1,h2,h3⟩:=info_parts (show (Tryz.prog.info? 4).map (fun i=>(i.zero,i.size,i.bytes))=some (some (.bool false),1,1) by kernel_rfl)
 exact ⟨i,_,hi,h1,h2,h3,rfl⟩,by omega⟩
theorem flat_bool (l:List Bool):(l.flatMap fun b=>[Value.bool b])=l.map Value.bool:=by
 induction l with
 | nil=>rfl
 | cons a l ih=>rw[List.flatMap_cons,ih];rfl
theorem only_step {S:List StG} {i k:Nat} {s x:StG} {q b:Bool} (hx:S[k]?=some x) (hq:q=true↔OnlyTo S i k s) (hb:b=(q && !(k != i && (isG x && aheadP x.1 s.1 k i)))):b=true↔OnlyTo S i (k+1) s:=by
 subst hb
 constructor
 ·intro h j y hj hy hne hg
  simp only[Bool.and_eq_true] at h
  by_cases e:j=k
  ·subst e
   rw[hx] at hy
   injection hy with hy
   subst hy
   have h2:=h.2
   rw[hg] at h2
   have:(j != i)=true:=by simpa using hne
   rw[this] at h2
   simpa using h2
  ·exact hq.1 h.1 j y (by omega) hy hne hg
 ·intro h
  have h1:=hq.2 fun j y hj hy hne hg=>h j y (by omega) hy hne hg
  rw[h1,Bool.true_and]
  by_cases e:k=i
  ·simp[e]
  ·cases hg:isG x with
   | false=>simp
   | true=>rw[h k x (by omega) hx e hg];simp
set_option maxRecDepth 100000
theorem succ_pos_int (j:Nat):(0:Int)<((j+1:Nat):Int):=by omega
theorem succ_sub_int (j:Nat):(((j+1:Nat):Int)-1)=(j:Int):=by omega
theorem lt_cases29 (j:Nat) (h:j<29):j=0∨j=1∨j=2∨j=3∨j=4∨j=5∨j=6∨j=7∨j=8∨j=9∨j=10∨j=11∨j=12∨j=13∨j=14∨j=15∨j=16∨j=17∨j=18∨j=19∨j=20∨j=21∨j=22∨j=23∨j=24∨j=25∨j=26∨j=27∨j=28:=by omega
structure NoI (w2:World) (S:List StG) (ys:List StY) (t i:Nat) (v:Value) (out:List StY) (W:World):Prop where
 own:W.ownsRow w2.heap.size 71 9 v out.length (out.flatMap sL)
 ind:InD S t i (sOf out)
 mem:∀ y∈out,y∈ys
 len:out.length≤(t-1)*S.length+i
 below:Below w2.heap.size w2 W
theorem NoI.call {w2 W W':World} {S:List StG} {ys:List StY} {t i:Nat} {v:Value} {out:List StY} (h:NoI w2 S ys t i v out W) (hb:Below W.heap.size W W'):NoI w2 S ys t i v out W':=
 ⟨own_below h.own hb,h.ind,h.mem,h.len,h.below.trans (hb.mono h.below.size)⟩
theorem NoI.skip {w2 W:World} {S:List StG} {ys:List StY} {t i:Nat} {v:Value} {out:List StY} (h:NoI w2 S ys t i v out W) {s:StG} (hi:S[i]?=some s) (hn:¬ (s.1.type=t∧isG s=true∧OnlyTo S i S.length s)):NoI w2 S ys t (i+1) v out W:=
 ⟨h.own,h.ind.skip hi hn,h.mem,by have:=h.len;omega,h.below⟩
theorem NoI.turn {w2 W:World} {S:List StG} {ys:List StY} {t:Nat} {v:Value} {out:List StY} (h:NoI w2 S ys t S.length v out W) (ht:1≤t):NoI w2 S ys (t+1) 0 v out W:=
 ⟨h.own,by have:=h.ind.turn;rw[show ((t+1:Nat):Int)=(t:Int)+1 by omega];exact this,h.mem,by
  have:=h.len
  have e:(t+1-1)*S.length=(t-1)*S.length+S.length:=by
   rw[show t+1-1=(t-1)+1 by omega,Nat.succ_mul]
  omega,h.below⟩
theorem blk_of_own {w:World} {base g n:Nat} {e:TypeId} {xs:List Value} (h:w.ownsRow base e 1 (.slice (some ⟨g,0,none⟩) n n) n xs):w.heap[g]?=some (.cells xs.toArray e (0,0)):=by
 rcases h.2 with ⟨h',_⟩ | ⟨g',cap,cur,h',_,hg,hnc,_,hcs,ht⟩
 ·simp at h'
 ·simp only[Value.slice.injEq,Option.some.injEq,Addr.mk.injEq,and_true,true_and] at h'
  obtain ⟨rfl,rfl⟩:=h'
  rw[hg]
  have e1:cur.toList=xs:=by rw[←ht,List.take_of_length_le (by simp;omega)]
  rw[←e1]
theorem sts_oneCell (l:List StY):∀ u∈l.flatMap sL,u.oneCell'=true:=by
 intro u hu
 obtain ⟨y,_,hh⟩:=List.mem_flatMap.1 hu
 exact sLE.one y u hh
theorem noI_put {w2 W0 W:World} {S:List StG} {ys:List StY} {ty i p:Nat} {v0 v:Value} {out:List StY} {x:StV} {body:List Int} (h:NoI w2 S ys ty i v0 out W0) (hi:S[i]?=some (x.h,body)) (hy:(x,body)∈ys) (ht:x.h.type=ty) (hg:isG (x.h,body)=true) (hO:OnlyTo S i S.length (x.h,body)) (hp:p≤out.length)
  (h1:∀ j (hj:j<out.length),p≤j→out[j].1.h.type=ty∧x.h.id<out[j].1.h.id) (h2:∀ hj:p-1<out.length,0<p→¬ (out[p-1].1.h.type=ty∧x.h.id<out[p-1].1.h.id))
  (ho:W.ownsRow w2.heap.size 71 9 v (p+1+(out.length-p)) ((out.take p).flatMap sL++stL x++(out.drop p).flatMap sL)) (hb:Below w2.heap.size W0 W):∃ out',NoI w2 S ys ty (i+1) v out' W:=by
 refine ⟨out.take p++[(x,body)]++out.drop p,?_,?_,?_,?_,h.below.trans hb⟩
 ·have e:(out.take p++[(x,body)]++out.drop p).length=p+1+(out.length-p):=by simp only[List.length_append,List.length_take,List.length_singleton,List.length_drop];omega
  rw[e,List.flatMap_append,List.flatMap_append]
  simpa[sL] using ho
 ·have e:sOf (out.take p++[(x,body)]++out.drop p)=(sOf out).take p++[(x.h,body)]++(sOf out).drop p:=by simp[sOf,List.map_take,List.map_drop]
  rw[e]
  refine h.ind.put hi ht hg hO (by simpa[sOf] using hp) (fun j hj hpj => ?_) (fun hj h0 => ?_)
  ·have:=h1 j (by simpa[sOf] using hj) hpj
   simpa[sOf] using this
  ·have:=h2 (by simpa[sOf] using hj) h0
   simpa[sOf] using this
 ·intro y hm
  simp only[List.mem_append,List.mem_singleton] at hm
  rcases hm with (hm | hm) | hm
  ·exact h.mem y (List.mem_of_mem_take hm)
  ·rw[hm];exact hy
  ·exact h.mem y (List.mem_of_mem_drop hm)
 ·have:=h.len
  simp only[List.length_append,List.length_take,List.length_singleton,List.length_drop]
  omega
set_option maxHeartbeats 8000000 in
theorem rnodes_any (B:Nat) (sv:Value) (S:List StG) (ls:List StV) (w:World) (hS:StatesIn w B sv S ls) (hB:B≤w.heap.size) (hok:∀ s∈S,StOk s) (hn:ls.length≤100000) :
  Calls Tryz.prog 39 #[sv] w fun e w'=>ChPost S (ysOf ls S) w e w':=by
 obtain ⟨-,lA,lc,rfl,-⟩:=id hS.sl
 have hls:=hS.len
 have hyl:=ysOf_len hls
 have hyS:=ysOf_s hS.map
 have hyg:∀ i (h:i<ls.length) (h2:i<S.length),(ls[i],S[i].2)∈ysOf ls S:=fun i h h2=>by
  rw[←ysOf_get h h2 (by omega)]
  exact List.getElem_mem _
 obtain ⟨ys,hys⟩:∃ ys,ys=ysOf ls S:=⟨_,rfl⟩
 rw[←hys] at hyl hyS hyg ⊢
 clear hys
 have CC:=fun W (h:StatesIn W B (.slice lA ls.length lc) S ls) (hz:B≤W.heap.size) i hi hi2=>rcounts_any B (.slice lA ls.length lc) S ls W h hz hok i hi hi2
 have CA:=fun W (h:StatesIn W B (.slice lA ls.length lc) S ls) (hz:B≤W.heap.size) i k hi hi2 hk hk2=>rahead_any B (.slice lA ls.length lc) S ls W h hz i k hi hi2 hk hk2
 replace CC:=h'd CC
 replace CA:=h'd CA
 replace hyS:=h'd hyS
 replace hyg:=h'd hyg
 have hls':=h'd hls
 clear hls
 replace hyl:=h'd hyl
 have hmix:(Tryz.prog).follows .mixedOrders=true:=by kernel_rfl
 go_enter Tryz.func39,Tryz.ntmps39
 go_wp2_with (at_make;refine wpList_make rfl (.tmp 13) (.tmp 13) 170 rfl w.heap.size boolsT (fun b:Bool=>[.bool b]) (fun _=>rfl) false (by kernel_rfl) .i64 .i64 _ _ ls.length rfl rfl rfl rfl (by omega) (by simp only[maxLen];omega) (Nat.le_refl _) ?_;intro w1 hown1 hgr1)
 have hk1:Blk w1 w.heap.size 4 ((flagsTo S 0).map Value.bool).toArray:=by
  have:=blk_of_own hown1
  rw[flat_bool] at this
  rw[flagsTo_zero,←hls'.out]
  exact this
 have hB1:Below w.heap.size w w1:=below_of_grown hgr1 (Nat.le_refl _) (by simp)
 clear hown1 hgr1
 go_loopg [4] ls.length (fun m u wr=>∃ k:Nat,k≤ls.length∧m=ls.length-k∧u=.int .i64 k∧Blk wr w.heap.size 4 ((flagsTo S k).map Value.bool).toArray∧Below w.heap.size w wr)
 case atStart=>exact ⟨0,Nat.zero_le _,rfl,rfl,hk1,hB1⟩
 case round =>
  clear hk1 hB1
  obtain ⟨k,hk,rfl,rfl,hk1,hB1⟩:=hrel
  obtain ⟨w2,rfl⟩:∃ x:World,x=wr:=⟨_,rfl⟩
  by_cases hkl:k<ls.length
  ·have hk2:k<S.length:=by have:=hls'.out;omega
   have ik:(k:Int)<(ls.length:Int):=by omega
   have hS2:=hS.below (hB1.mono hB)
   have C:=h'd (CC.out w2 hS2 (Nat.le_trans hB hB1.size) k hkl hk2)
   have hsuc:=h'd (flagsTo_succ hk2)
   generalize isG S[k]=b at C hsuc
   have hfl:=flagsTo_len S k
   go_wp2_with (go_at_call 86;refine Calls.mono C.out ?_;rintro e w3 ⟨rfl,hB3⟩;have k3:=hk1.below hB3 hk1.lt;obtain ⟨⟨cu,cb⟩,cf⟩:=Blk.ok k3 k (by simp[hfl,hk2]))
   go_roundg (ls.length-(k+1))
   case measure=>omega
   case rel =>
    refine ⟨k+1,by omega,rfl,by go_num,?_,(hB1.trans (hB3.mono hB1.size)).setCell (by simp) _⟩
    have:=k3.set_ k (.bool b)
    rw[hsuc.out] at this
    exact this
  ·obtain rfl:k=ls.length:=by omega
   have hF0:=hk1
   rw[show ls.length=S.length from hls'.out] at hF0
   have hF:=flags_all hF0
   clear hk1 hF0
   have hI0:NoI w2 S ys 1 0 (.slice none 0 0) [] w2:=⟨World.ownsRow_nil _ _ _ _,InD.start S,fun _ h=>(by cases h),Nat.zero_le _,Below.refl _ _⟩
   have hg2:w.heap.size<w2.heap.size∨S.length=0:=by
    by_cases h0:S.length=0
    ·exact .inr h0
    ·have:=hF 0 (by omega)
     refine .inl (Nat.lt_of_not_le fun h => ?_)
     unfold World.cell? at this
     simp[Array.getElem?_eq_none h] at this
   have hB12:=hB1
   generalize hgb:w.heap.size=gb at hF hg2
   replace hgb:=h'd hgb
   go_upto_region 8 with fail
   go_loopg [6,5] 2 (fun m u v wr=>∃ (ty:Nat) (out:List StY),1≤ty∧ty≤3∧m=3-ty∧u=.int .u8 ty∧NoI w2 S ys ty 0 v out wr)
   case atStart=>exact ⟨1,[],by omega,by omega,rfl,rfl,hI0⟩
   case round =>
    clear hI0
    obtain ⟨ty,out,ht1,ht3,rfl,rfl,hI⟩:=hrel
    obtain ⟨w3,rfl⟩:∃ x:World,x=wr:=⟨_,rfl⟩
    by_cases ht:ty≤2
    ·have it:(ty:Int)≤2:=by omega
     go_upto_region 11 with fail
     go_loopg [7,5] ls.length (fun m u v wr=>∃ (i:Nat) (out:List StY),i≤ls.length∧m=ls.length-i∧u=.int .i64 i∧NoI w2 S ys ty i v out wr)
     case atStart=>exact ⟨0,out,Nat.zero_le _,rfl,rfl,hI⟩
     case round =>
      clear hI
      obtain ⟨i,out,hi,rfl,rfl,hI⟩:=hrel
      obtain ⟨w4,rfl⟩:∃ x:World,x=wr:=⟨_,rfl⟩
      by_cases hil:i<ls.length
      ·have hi2:i<S.length:=by have:=hls'.out;omega
       have ii:(i:Int)<(ls.length:Int):=by omega
       have hgl:gb<w2.heap.size:=hg2.resolve_right (by omega)
       have hBw4:Below w.heap.size w w4:=hB12.trans (hI.below.mono hB12.size)
       have hS4:=hS.below (hBw4.mono hB)
       obtain ⟨ab,ao,rfl,hab,hrow⟩:=Sl.row stL_len hS4.sl hil
       have hhd:=hS.head hil hi2
       have hSi:S[i]?=some S[i]:=List.getElem?_eq_getElem hi2
       have hFi:=(hI.below.cell (p:=⟨gb,i,none⟩) hgl).trans (hF i hi2)
       have hyi:=hyg.out i hil hi2
       obtain ⟨x,hx⟩:∃ x,x=ls[i]:=⟨_,rfl⟩
       obtain ⟨s,hs⟩:∃ s,s=S[i]:=⟨_,rfl⟩
       rw[←hx] at hrow hhd hyi
       rw[←hs] at hSi hFi hhd hyi
       replace hx:=h'd hx
       replace hs:=h'd hs
       obtain ⟨b,body⟩:=s
       simp only at hhd hyi
       subst hhd
       have a2:w4.cell? ⟨ab,ao+i*9+2,none⟩=some (.int .u8 x.h.type):=hrow 2 _ rfl
       have hskip:=fun (h:¬ (x.h.type=ty∧isG (x.h,body)=true∧OnlyTo S i S.length (x.h,body)))=>hI.skip (i:=i) hSi h
       replace hskip:=h'd hskip
       replace hSi:=h'd hSi
       by_cases hty:x.h.type=ty
       ·have e1:(x.h.type != (ty:Int))=false:=by simpa using hty
        replace hty:=h'd hty
        cases hg:isG (x.h,body) with
        | false =>
         rw[hg] at hFi
         replace hg:=h'd hg
         go_wp2
         go_roundg (ls.length-(i+1))
         case measure=>omega
         case rel=>exact ⟨i+1,out,by omega,rfl,by go_num,hskip.out fun h=>by rw[hg.out] at h;exact absurd h.2.1 (by decide)⟩
        | true =>
         rw[hg] at hFi
         replace hg:=h'd hg
         go_upto_region 16 with fail
         go_loopg [8,9] ls.length (fun m q u wr=>∃ (k:Nat) (b:Bool),k≤ls.length∧m=ls.length-k∧q=.bool b∧u=.int .i64 k∧(b=true↔OnlyTo S i k (x.h,body))∧Below w4.heap.size w4 wr)
         case atStart=>exact ⟨0,true,Nat.zero_le _,rfl,rfl,rfl,⟨fun _ k _ h=>absurd h (by omega),fun _=>rfl⟩,Below.refl _ _⟩
         case round =>
          obtain ⟨k,b,hk,rfl,rfl,rfl,hq,hB5⟩:=hrel
          obtain ⟨w5,rfl⟩:∃ x:World,x=wr:=⟨_,rfl⟩
          replace hq:=h'd hq
          by_cases hkl:k<ls.length
          ·have hk2:k<S.length:=by have:=hls'.out;omega
           have ik:(k:Int)<(ls.length:Int):=by omega
           have hBk:Below w2.heap.size w2 w5:=hI.below.trans (hB5.mono hI.below.size)
           have hFk:=(hBk.cell (p:=⟨gb,k,none⟩) hgl).trans (hF k hk2)
           have C:=CA.out w5 (hS4.below (hB5.mono (Nat.le_trans hB hBw4.size))) (Nat.le_trans hB (Nat.le_trans hBw4.size hB5.size)) k i hkl hk2 hil hi2
           have hst:=fun q'=>only_step (i:=i) (s:=(x.h,body)) (b:=q') (List.getElem?_eq_getElem hk2) hq.out
           rw[←hs.out] at C
           simp only at C hst
           generalize aheadP S[k].1 x.h k i=c at C hst
           generalize isG S[k]=d at hFk hst
           replace hst:=h'd hst
           replace C:=h'd C
           cases b with
           | false =>
            go_wp2
            go_roundg (ls.length-(k+1))
            case measure=>omega
            case rel=>exact ⟨k+1,false,by omega,rfl,rfl,by go_num,hst.out _ rfl,hB5⟩
           | true =>
            by_cases hki:k=i
            ·have e2:((k:Int) != (i:Int))=false:=by simp[hki]
             have e3:(k != i)=false:=by simp[hki]
             replace e3:=h'd e3
             replace hki:=h'd hki
             go_wp2
             go_roundg (ls.length-(k+1))
             case measure=>omega
             case rel=>exact ⟨k+1,true,by omega,rfl,rfl,by go_num,hst.out _ (by rw[e3.out];rfl),hB5⟩
            ·have e2:((k:Int) != (i:Int))=true:=by simp;omega
             have e3:(k != i)=true:=by simpa using hki
             replace e3:=h'd e3
             replace hki:=h'd hki
             cases d with
             | false =>
              go_wp2
              go_roundg (ls.length-(k+1))
              case measure=>omega
              case rel=>exact ⟨k+1,true,by omega,rfl,rfl,by go_num,hst.out _ (by rw[e3.out];rfl),hB5⟩
             | true =>
              go_wp2_with (go_at_call 87;refine Calls.mono C.out ?_;rintro e w6 ⟨rfl,hB6⟩)
              go_roundg (ls.length-(k+1))
              case measure=>omega
              case rel=>exact ⟨k+1,!c,by omega,rfl,rfl,by go_num,hst.out _ (by rw[e3.out];rfl),hB5.trans (hB6.mono hB5.size)⟩
          ·obtain rfl:k=ls.length:=by omega
           cases b with
           | false =>
            go_wp2
            go_roundg (ls.length-(i+1))
            case measure=>omega
            case rel=>exact ⟨i+1,out,by omega,rfl,by go_num,(hskip.out fun h=>by
                   have h2:=hq.out.2 (by rw[hls'.out];exact h.2.2)
                   exact absurd h2 (by decide)).call hB5⟩
           | true =>
            have hO:=hq.out.1 rfl
            rw[hls'.out] at hO
            have hI5:=hI.call hB5
            replace hO:=h'd hO
            clear hq
            have hol:out.length≤300000:=by
             have h1:=hI.len
             have h2:(ty-1)*S.length≤2*100000:=Nat.mul_le_mul (by omega) (by have:=hls'.out;omega)
             omega
            obtain ⟨-,oA,oc,rfl,hoc,-⟩:=id (Sl.of_own hI5.own)
            go_upto_region 21 with fail
            go_loopg [10] out.length (fun m u wr=>∃ p:Nat,p≤out.length∧p=m∧u=.int .i64 p∧(∀ j (hj:j<out.length),p≤j→out[j].1.h.type=ty∧x.h.id<out[j].1.h.id)∧Below w5.heap.size w5 wr)
            case atStart=>exact ⟨out.length,Nat.le_refl _,rfl,rfl,fun j hj h=>absurd hj (by omega),Below.refl _ _⟩
            case round =>
             obtain ⟨p,hp,rfl,rfl,hup,hB6⟩:=hrel
             obtain ⟨w6,rfl⟩:∃ x:World,x=wr:=⟨_,rfl⟩
             have hI6:=hI5.call hB6
             have hBw6:Below w.heap.size w w6:=hB12.trans (hI6.below.mono hB12.size)
             have hrow6:∀ j u,(stL x)[j]?=some u→w6.cell? ⟨ab,ao+i*9+j,none⟩=some u:=fun j u hj=>((hB5.trans (hB6.mono hB5.size)).cell (p:=⟨ab,ao+i*9+j,none⟩) (Nat.lt_of_lt_of_le hab (Nat.le_trans hB hBw4.size))).trans (hrow j u hj)
             have r3:w6.cell? ⟨ab,ao+i*9+3,none⟩=some (.int .u32 x.h.id):=hrow6 3 _ rfl
             have habw:ab<w6.heap.size:=Nat.lt_of_lt_of_le hab (Nat.le_trans hB hBw6.size)
             replace hup:=h'd hup
             replace hrow6:=h'd hrow6
             replace hyi:=h'd hyi
             replace hF:=h'd hF
             clear a2 hFi hrow
             by_cases hc:∃ j,∃ hj:j<out.length,p=j+1∧out[j].1.h.type=ty∧x.h.id<out[j].1.h.id
             ·obtain ⟨j,hj,hpj,hc1,hc2⟩:=hc
              obtain ⟨ob,oo,rfl,hob,horow⟩:=Sl.row (f:=sL) (fun _=>rfl) (Sl.of_own hI6.own) hj
              have cy2:w6.cell? ⟨ob,oo+j*9+2,none⟩=some (.int .u8 out[j].1.h.type):=horow 2 _ rfl
              have cy3:w6.cell? ⟨ob,oo+j*9+3,none⟩=some (.int .u32 out[j].1.h.id):=horow 3 _ rfl
              obtain ⟨y,hy⟩:∃ y,y=out[j]:=⟨_,rfl⟩
              rw[←hy] at cy2 cy3 hc1 hc2
              have e0:decide ((0:Int)<(p:Int))=true:=decide_eq_true (by rw[hpj];exact succ_pos_int j)
              have e0':decide (0<p)=true:=decide_eq_true (by rw[hpj];exact Nat.succ_pos j)
              have ej:(p:Int)-1=(j:Int):=by rw[hpj];exact succ_sub_int j
              have ij:(j:Int)<(out.length:Int):=Int.ofNat_lt.2 hj
              have e4:(y.1.h.type==(ty:Int))=true:=by simpa using hc1
              have e5:=decide_eq_true hc2
              replace hpj:=h'd hpj
              replace hy:=h'd hy
              replace hc1:=h'd hc1
              replace hc2:=h'd hc2
              go_wp2_with fail
              refine wp_region_vals [some 81,some 82,some 83,some 84,some 85,some 86,some 87,some 88,some 89,some 90,some 91,some 92,some 93,some 94,some 95,some 96,some 97,some 98,some 99,some 100,some 101,some 102,some 103,some 104,some 105,some 106,some 107,some 108,some 109] (fun W=>Below w6.heap.size w6 W) (fun W W'=>Below W.heap.size W W') id (ValV [.int .i64 p,.bool true,.bool true,.slice (some ⟨ob,oo,none⟩) out.length oc,.int .i64 p,.int .i64 j,.pointer (some ⟨ob,oo+j*9,none⟩),.pointer (some ⟨ob,oo+j*9,none⟩),.pointer (some ⟨ob,oo+j*9+2,none⟩),.int .u8 y.1.h.type,.int .u8 ty,.bool true,.bool true,.bool true,.slice (some ⟨ob,oo,none⟩) out.length oc,.int .i64 p,.int .i64 j,.pointer (some ⟨ob,oo+j*9,none⟩),.pointer (some ⟨ob,oo+j*9,none⟩),.pointer (some ⟨ob,oo+j*9+3,none⟩),.int .u32 y.1.h.id,.slice (some ⟨ab,ao,none⟩) ls.length lc,.int .i64 i,.pointer (some ⟨ab,ao+i*9,none⟩),.pointer (some ⟨ab,ao+i*9,none⟩),.pointer (some ⟨ab,ao+i*9+3,none⟩),.int .u32 x.h.id,.bool true,.bool true]) hmix (by kernel_rfl) rfl (by decide) (by kernel_rfl) (fun _ _ _ _ _ _ h=>h) (Below.refl _ _).drew ?_ ?_
              ·intro t w' a' hI' ha j' hlt' hd
               simp only[putFrom,Act.put,Nat.reduceAdd,s'a,s'z,s's] at ha
               subst ha
               replace hlt':j'<29:=hlt'
               rcases lt_cases29 j' hlt' with rfl | rfl | rfl | rfl | rfl | rfl | rfl | rfl | rfl | rfl | rfl | rfl | rfl | rfl | rfl | rfl | rfl | rfl | rfl | rfl | rfl | rfl | rfl | rfl | rfl | rfl | rfl | rfl | rfl
               ·refine w'k rfl fun K' hK => ?_
                go_wp2
                exact hK.out _ _ ⟨_,rfl,hI',Below.refl _ _,rfl⟩
               ·rw[←o'i (hd 0 (by kernel_rfl))]
                refine w'k rfl fun K' hK => ?_
                go_wp2
                exact hK.out _ _ ⟨_,rfl,hI',Below.refl _ _,rfl⟩
               ·rw[←o'i (hd 1 (by kernel_rfl))]
                refine w'k rfl fun K' hK => ?_
                go_wp2
                exact hK.out _ _ ⟨_,rfl,hI',Below.refl _ _,rfl⟩
               ·rw[←o'i (hd 2 (by kernel_rfl))]
                refine w'k rfl fun K' hK => ?_
                go_wp2
                exact hK.out _ _ ⟨_,rfl,hI',Below.refl _ _,rfl⟩
               ·rw[←o'i (hd 2 (by kernel_rfl))]
                refine w'k rfl fun K' hK => ?_
                go_wp2
                exact hK.out _ _ ⟨_,rfl,hI',Below.refl _ _,rfl⟩
               ·rw[←o'i (hd 4 (by kernel_rfl))]
                rw[←o'i (hd 2 (by kernel_rfl))]
                refine w'k rfl fun K' hK => ?_
                go_wp2
                exact hK.out _ _ ⟨_,rfl,hI',Below.refl _ _,rfl⟩
               ·rw[←o'i (hd 3 (by kernel_rfl))]
                rw[←o'i (hd 5 (by kernel_rfl))]
                rw[←o'i (hd 2 (by kernel_rfl))]
                refine w'k rfl fun K' hK => ?_
                go_wp2
                exact hK.out _ _ ⟨_,rfl,hI',Below.refl _ _,rfl⟩
               ·rw[←o'i (hd 6 (by kernel_rfl))]
                rw[←o'i (hd 2 (by kernel_rfl))]
                refine w'k rfl fun K' hK => ?_
                go_wp2
                exact hK.out _ _ ⟨_,rfl,hI',Below.refl _ _,rfl⟩
               ·rw[←o'i (hd 7 (by kernel_rfl))]
                rw[←o'i (hd 2 (by kernel_rfl))]
                refine w'k rfl fun K' hK => ?_
                go_wp2
                exact hK.out _ _ ⟨_,rfl,hI',Below.refl _ _,rfl⟩
               ·rw[←o'i (hd 8 (by kernel_rfl))]
                rw[←o'i (hd 2 (by kernel_rfl))]
                have f0:w'.cell? ⟨ob,oo+j*9+2,none⟩=some (.int .u8 y.1.h.type):=(hI'.cell (p:=⟨ob,oo+j*9+2,none⟩) hob).trans cy2
                refine w'k rfl fun K' hK => ?_
                go_wp2
                exact hK.out _ _ ⟨_,rfl,hI',Below.refl _ _,rfl⟩
               ·rw[←o'i (hd 2 (by kernel_rfl))]
                refine w'k rfl fun K' hK => ?_
                go_wp2
                exact hK.out _ _ ⟨_,rfl,hI',Below.refl _ _,rfl⟩
               ·rw[←o'i (hd 9 (by kernel_rfl))]
                rw[←o'i (hd 10 (by kernel_rfl))]
                rw[←o'i (hd 2 (by kernel_rfl))]
                refine w'k rfl fun K' hK => ?_
                go_wp2
                exact hK.out _ _ ⟨_,rfl,hI',Below.refl _ _,rfl⟩
               ·rw[←o'i (hd 2 (by kernel_rfl))]
                rw[←o'i (hd 11 (by kernel_rfl))]
                refine w'k rfl fun K' hK => ?_
                go_wp2
                exact hK.out _ _ ⟨_,rfl,hI',Below.refl _ _,rfl⟩
               ·rw[←o'i (hd 12 (by kernel_rfl))]
                refine w'k rfl fun K' hK => ?_
                go_wp2
                exact hK.out _ _ ⟨_,rfl,hI',Below.refl _ _,rfl⟩
               ·rw[←o'i (hd 13 (by kernel_rfl))]
                refine w'k rfl fun K' hK => ?_
                go_wp2
                exact hK.out _ _ ⟨_,rfl,hI',Below.refl _ _,rfl⟩
               ·rw[←o'i (hd 13 (by kernel_rfl))]
                refine w'k rfl fun K' hK => ?_
                go_wp2
                exact hK.out _ _ ⟨_,rfl,hI',Below.refl _ _,rfl⟩
               ·rw[←o'i (hd 15 (by kernel_rfl))]
                rw[←o'i (hd 13 (by kernel_rfl))]
                refine w'k rfl fun K' hK => ?_
                go_wp2
                exact hK.out _ _ ⟨_,rfl,hI',Below.refl _ _,rfl⟩
               ·rw[←o'i (hd 14 (by kernel_rfl))]
                rw[←o'i (hd 16 (by kernel_rfl))]
                rw[←o'i (hd 13 (by kernel_rfl))]
                refine w'k rfl fun K' hK => ?_
                go_wp2
                exact hK.out _ _ ⟨_,rfl,hI',Below.refl _ _,rfl⟩
               ·rw[←o'i (hd 17 (by kernel_rfl))]
                rw[←o'i (hd 13 (by kernel_rfl))]
                refine w'k rfl fun K' hK => ?_
                go_wp2
                exact hK.out _ _ ⟨_,rfl,hI',Below.refl _ _,rfl⟩
               ·rw[←o'i (hd 18 (by kernel_rfl))]
                rw[←o'i (hd 13 (by kernel_rfl))]
                refine w'k rfl fun K' hK => ?_
                go_wp2
                exact hK.out _ _ ⟨_,rfl,hI',Below.refl _ _,rfl⟩
               ·rw[←o'i (hd 19 (by kernel_rfl))]
                rw[←o'i (hd 13 (by kernel_rfl))]
                have f0:w'.cell? ⟨ob,oo+j*9+3,none⟩=some (.int .u32 y.1.h.id):=(hI'.cell (p:=⟨ob,oo+j*9+3,none⟩) hob).trans cy3
                refine w'k rfl fun K' hK => ?_
                go_wp2
                exact hK.out _ _ ⟨_,rfl,hI',Below.refl _ _,rfl⟩
               ·rw[←o'i (hd 13 (by kernel_rfl))]
                refine w'k rfl fun K' hK => ?_
                go_wp2
                exact hK.out _ _ ⟨_,rfl,hI',Below.refl _ _,rfl⟩
               ·rw[←o'i (hd 13 (by kernel_rfl))]
                refine w'k rfl fun K' hK => ?_
                go_wp2
                exact hK.out _ _ ⟨_,rfl,hI',Below.refl _ _,rfl⟩
               ·rw[←o'i (hd 21 (by kernel_rfl))]
                rw[←o'i (hd 22 (by kernel_rfl))]
                rw[←o'i (hd 13 (by kernel_rfl))]
                refine w'k rfl fun K' hK => ?_
                go_wp2
                exact hK.out _ _ ⟨_,rfl,hI',Below.refl _ _,rfl⟩
               ·rw[←o'i (hd 23 (by kernel_rfl))]
                rw[←o'i (hd 13 (by kernel_rfl))]
                refine w'k rfl fun K' hK => ?_
                go_wp2
                exact hK.out _ _ ⟨_,rfl,hI',Below.refl _ _,rfl⟩
               ·rw[←o'i (hd 24 (by kernel_rfl))]
                rw[←o'i (hd 13 (by kernel_rfl))]
                refine w'k rfl fun K' hK => ?_
                go_wp2
                exact hK.out _ _ ⟨_,rfl,hI',Below.refl _ _,rfl⟩
               ·rw[←o'i (hd 25 (by kernel_rfl))]
                rw[←o'i (hd 13 (by kernel_rfl))]
                have f0:w'.cell? ⟨ab,ao+i*9+3,none⟩=some (.int .u32 x.h.id):=(hI'.cell (p:=⟨ab,ao+i*9+3,none⟩) habw).trans r3
                refine w'k rfl fun K' hK => ?_
                go_wp2
                exact hK.out _ _ ⟨_,rfl,hI',Below.refl _ _,rfl⟩
               ·rw[←o'i (hd 20 (by kernel_rfl))]
                rw[←o'i (hd 26 (by kernel_rfl))]
                rw[←o'i (hd 13 (by kernel_rfl))]
                refine w'k rfl fun K' hK => ?_
                go_wp2
                exact hK.out _ _ ⟨_,rfl,hI',Below.refl _ _,rfl⟩
               ·rw[←o'i (hd 13 (by kernel_rfl))]
                rw[←o'i (hd 27 (by kernel_rfl))]
                refine w'k rfl fun K' hK => ?_
                go_wp2
                exact hK.out _ _ ⟨_,rfl,hI',Below.refl _ _,rfl⟩
              intro t w' a' hI' ha hv
              simp only[putFrom,Act.put,Nat.reduceAdd,s'a,s'z,s's] at ha
              subst ha
              have dl:t 28=.bool true:=(o'i (hv 28 (by decide))).symm
              rw[dl]
              clear hv dl
              obtain ⟨w7,rfl⟩:∃ x:World,x=w':=⟨_,rfl⟩
              have hB7:=hI'
              go_wp2
              go_roundg j
              case measure=>exact Nat.lt_of_succ_le (Nat.le_of_eq hpj.out.symm)
              case rel=>exact ⟨j,Nat.le_of_lt hj,rfl,by go_num,fun q hq hjq=>by
                     by_cases e:q=j
                     ·subst e;rw[←hy.out];exact ⟨hc1.out,hc2.out⟩
                     ·exact hup.out q hq (by rw[hpj.out];exact Nat.lt_of_le_of_ne hjq (Ne.symm e)),hB6.trans (hB7.mono hB6.size)⟩
             ·have hbelow:∀ hj:p-1<out.length,0<p→¬ (out[p-1].1.h.type=ty∧x.h.id<out[p-1].1.h.id):=fun hj h0 h=>hc ⟨p-1,hj,by omega,h⟩
              replace hbelow:=h'd hbelow
              have hthree:p=0∨(∃ j,∃ hj:j<out.length,p=j+1∧¬ out[j].1.h.type=ty)∨(∃ j,∃ hj:j<out.length,p=j+1∧out[j].1.h.type=ty∧¬ x.h.id<out[j].1.h.id):=by
               by_cases hp0:p=0
               ·exact .inl hp0
               ·by_cases hpt:out[p-1].1.h.type=ty
                ·exact .inr (.inr ⟨p-1,by omega,by omega,hpt,fun h=>hc ⟨p-1,by omega,by omega,hpt,h⟩⟩)
                ·exact .inr (.inl ⟨p-1,by omega,by omega,hpt⟩)
              clear hc
              rcases hthree with hpj | ⟨j,hj,hpj,hc1⟩ | ⟨j,hj,hpj,hc1,hc2⟩
              focus
               have e0:decide ((0:Int)<(p:Int))=false:=decide_eq_false (by rw[hpj];decide)
               have e0':decide (0<p)=false:=decide_eq_false (by rw[hpj];decide)
               replace hpj:=h'd hpj
               go_wp2_with fail
               refine wp_region_vals [some 81,some 82,some 83,some 84,some 85,some 86,some 87,some 88,some 89,some 90,some 91,some 92,some 93,some 94,some 95,some 96,some 97,some 98,some 99,some 100,some 101,some 102,some 103,some 104,some 105,some 106,some 107,some 108,some 109] (fun W=>Below w6.heap.size w6 W) (fun W W'=>Below W.heap.size W W') id (ValV [.int .i64 p,.bool false,.bool false,undef,undef,undef,undef,undef,undef,undef,undef,undef,.bool false,.bool false,undef,undef,undef,undef,undef,undef,undef,undef,undef,undef,undef,undef,undef,undef,.bool false]) hmix (by kernel_rfl) rfl (by decide) (by kernel_rfl) (fun _ _ _ _ _ _ h=>h) (Below.refl _ _).drew ?_ ?_
               ·intro t w' a' hI' ha j' hlt' hd
                simp only[putFrom,Act.put,Nat.reduceAdd,s'a,s'z,s's] at ha
                subst ha
                replace hlt':j'<29:=hlt'
                rcases lt_cases29 j' hlt' with rfl | rfl | rfl | rfl | rfl | rfl | rfl | rfl | rfl | rfl | rfl | rfl | rfl | rfl | rfl | rfl | rfl | rfl | rfl | rfl | rfl | rfl | rfl | rfl | rfl | rfl | rfl | rfl | rfl
                ·refine w'k rfl fun K' hK => ?_
                 go_wp2
                 exact hK.out _ _ ⟨_,rfl,hI',Below.refl _ _,rfl⟩
                ·rw[←o'i (hd 0 (by kernel_rfl))]
                 refine w'k rfl fun K' hK => ?_
                 go_wp2
                 exact hK.out _ _ ⟨_,rfl,hI',Below.refl _ _,rfl⟩
                ·rw[←o'i (hd 1 (by kernel_rfl))]
                 refine w'k rfl fun K' hK => ?_
                 go_wp2
                 exact hK.out _ _ ⟨_,rfl,hI',Below.refl _ _,rfl⟩
                ·rw[←o'i (hd 2 (by kernel_rfl))]
                 refine w'k rfl fun K' hK => ?_
                 go_wp2
                 exact hK.out _ _ ⟨_,rfl,hI',Below.refl _ _,rfl⟩
                ·rw[←o'i (hd 2 (by kernel_rfl))]
                 refine w'k rfl fun K' hK => ?_
                 go_wp2
                 exact hK.out _ _ ⟨_,rfl,hI',Below.refl _ _,rfl⟩
                ·rw[←o'i (hd 2 (by kernel_rfl))]
                 refine w'k rfl fun K' hK => ?_
                 go_wp2
                 exact hK.out _ _ ⟨_,rfl,hI',Below.refl _ _,rfl⟩
                ·rw[←o'i (hd 2 (by kernel_rfl))]
                 refine w'k rfl fun K' hK => ?_
                 go_wp2
                 exact hK.out _ _ ⟨_,rfl,hI',Below.refl _ _,rfl⟩
                ·rw[←o'i (hd 2 (by kernel_rfl))]
                 refine w'k rfl fun K' hK => ?_
                 go_wp2
                 exact hK.out _ _ ⟨_,rfl,hI',Below.refl _ _,rfl⟩
                ·rw[←o'i (hd 2 (by kernel_rfl))]
                 refine w'k rfl fun K' hK => ?_
                 go_wp2
                 exact hK.out _ _ ⟨_,rfl,hI',Below.refl _ _,rfl⟩
                ·rw[←o'i (hd 2 (by kernel_rfl))]
                 refine w'k rfl fun K' hK => ?_
                 go_wp2
                 exact hK.out _ _ ⟨_,rfl,hI',Below.refl _ _,rfl⟩
                ·rw[←o'i (hd 2 (by kernel_rfl))]
                 refine w'k rfl fun K' hK => ?_
                 go_wp2
                 exact hK.out _ _ ⟨_,rfl,hI',Below.refl _ _,rfl⟩
                ·rw[←o'i (hd 2 (by kernel_rfl))]
                 refine w'k rfl fun K' hK => ?_
                 go_wp2
                 exact hK.out _ _ ⟨_,rfl,hI',Below.refl _ _,rfl⟩
                ·rw[←o'i (hd 2 (by kernel_rfl))]
                 rw[←o'i (hd 11 (by kernel_rfl))]
                 refine w'k rfl fun K' hK => ?_
                 go_wp2
                 exact hK.out _ _ ⟨_,rfl,hI',Below.refl _ _,rfl⟩
                ·rw[←o'i (hd 12 (by kernel_rfl))]
                 refine w'k rfl fun K' hK => ?_
                 go_wp2
                 exact hK.out _ _ ⟨_,rfl,hI',Below.refl _ _,rfl⟩
                ·rw[←o'i (hd 13 (by kernel_rfl))]
                 refine w'k rfl fun K' hK => ?_
                 go_wp2
                 exact hK.out _ _ ⟨_,rfl,hI',Below.refl _ _,rfl⟩
                ·rw[←o'i (hd 13 (by kernel_rfl))]
                 refine w'k rfl fun K' hK => ?_
                 go_wp2
                 exact hK.out _ _ ⟨_,rfl,hI',Below.refl _ _,rfl⟩
                ·rw[←o'i (hd 13 (by kernel_rfl))]
                 refine w'k rfl fun K' hK => ?_
                 go_wp2
                 exact hK.out _ _ ⟨_,rfl,hI',Below.refl _ _,rfl⟩
                ·rw[←o'i (hd 13 (by kernel_rfl))]
                 refine w'k rfl fun K' hK => ?_
                 go_wp2
                 exact hK.out _ _ ⟨_,rfl,hI',Below.refl _ _,rfl⟩
                ·rw[←o'i (hd 13 (by kernel_rfl))]
                 refine w'k rfl fun K' hK => ?_
                 go_wp2
                 exact hK.out _ _ ⟨_,rfl,hI',Below.refl _ _,rfl⟩
                ·rw[←o'i (hd 13 (by kernel_rfl))]
                 refine w'k rfl fun K' hK => ?_
                 go_wp2
                 exact hK.out _ _ ⟨_,rfl,hI',Below.refl _ _,rfl⟩
                ·rw[←o'i (hd 13 (by kernel_rfl))]
                 refine w'k rfl fun K' hK => ?_
                 go_wp2
                 exact hK.out _ _ ⟨_,rfl,hI',Below.refl _ _,rfl⟩
                ·rw[←o'i (hd 13 (by kernel_rfl))]
                 refine w'k rfl fun K' hK => ?_
                 go_wp2
                 exact hK.out _ _ ⟨_,rfl,hI',Below.refl _ _,rfl⟩
                ·rw[←o'i (hd 13 (by kernel_rfl))]
                 refine w'k rfl fun K' hK => ?_
                 go_wp2
                 exact hK.out _ _ ⟨_,rfl,hI',Below.refl _ _,rfl⟩
                ·rw[←o'i (hd 13 (by kernel_rfl))]
                 refine w'k rfl fun K' hK => ?_
                 go_wp2
                 exact hK.out _ _ ⟨_,rfl,hI',Below.refl _ _,rfl⟩
                ·rw[←o'i (hd 13 (by kernel_rfl))]
                 refine w'k rfl fun K' hK => ?_
                 go_wp2
                 exact hK.out _ _ ⟨_,rfl,hI',Below.refl _ _,rfl⟩
                ·rw[←o'i (hd 13 (by kernel_rfl))]
                 refine w'k rfl fun K' hK => ?_
                 go_wp2
                 exact hK.out _ _ ⟨_,rfl,hI',Below.refl _ _,rfl⟩
                ·rw[←o'i (hd 13 (by kernel_rfl))]
                 refine w'k rfl fun K' hK => ?_
                 go_wp2
                 exact hK.out _ _ ⟨_,rfl,hI',Below.refl _ _,rfl⟩
                ·rw[←o'i (hd 13 (by kernel_rfl))]
                 refine w'k rfl fun K' hK => ?_
                 go_wp2
                 exact hK.out _ _ ⟨_,rfl,hI',Below.refl _ _,rfl⟩
                ·rw[←o'i (hd 13 (by kernel_rfl))]
                 rw[←o'i (hd 27 (by kernel_rfl))]
                 refine w'k rfl fun K' hK => ?_
                 go_wp2
                 exact hK.out _ _ ⟨_,rfl,hI',Below.refl _ _,rfl⟩
               intro t w' a' hI' ha hv
               simp only[putFrom,Act.put,Nat.reduceAdd,s'a,s'z,s's] at ha
               subst ha
               have dl:t 28=.bool false:=(o'i (hv 28 (by decide))).symm
               rw[dl]
               clear hv dl
               obtain ⟨w7,rfl⟩:∃ x:World,x=w':=⟨_,rfl⟩
               have hB7:=hI'
              rotate_left
              focus
               obtain ⟨ob,oo,rfl,hob,horow⟩:=Sl.row (f:=sL) (fun _=>rfl) (Sl.of_own hI6.own) hj
               have cy2:w6.cell? ⟨ob,oo+j*9+2,none⟩=some (.int .u8 out[j].1.h.type):=horow 2 _ rfl
               have cy3:w6.cell? ⟨ob,oo+j*9+3,none⟩=some (.int .u32 out[j].1.h.id):=horow 3 _ rfl
               obtain ⟨y,hy⟩:∃ y,y=out[j]:=⟨_,rfl⟩
               rw[←hy] at cy2 cy3 hc1
               have e0:decide ((0:Int)<(p:Int))=true:=decide_eq_true (by rw[hpj];exact succ_pos_int j)
               have e0':decide (0<p)=true:=decide_eq_true (by rw[hpj];exact Nat.succ_pos j)
               have ej:(p:Int)-1=(j:Int):=by rw[hpj];exact succ_sub_int j
               have ij:(j:Int)<(out.length:Int):=Int.ofNat_lt.2 hj
               replace hpj:=h'd hpj
               replace hy:=h'd hy
               clear horow
               have e4:(y.1.h.type==(ty:Int))=false:=by simpa using hc1
               replace hc1:=h'd hc1
               go_wp2_with fail
               refine wp_region_vals [some 81,some 82,some 83,some 84,some 85,some 86,some 87,some 88,some 89,some 90,some 91,some 92,some 93,some 94,some 95,some 96,some 97,some 98,some 99,some 100,some 101,some 102,some 103,some 104,some 105,some 106,some 107,some 108,some 109] (fun W=>Below w6.heap.size w6 W) (fun W W'=>Below W.heap.size W W') id (ValV [.int .i64 p,.bool true,.bool true,.slice (some ⟨ob,oo,none⟩) out.length oc,.int .i64 p,.int .i64 j,.pointer (some ⟨ob,oo+j*9,none⟩),.pointer (some ⟨ob,oo+j*9,none⟩),.pointer (some ⟨ob,oo+j*9+2,none⟩),.int .u8 y.1.h.type,.int .u8 ty,.bool false,.bool false,.bool false,undef,undef,undef,undef,undef,undef,undef,undef,undef,undef,undef,undef,undef,undef,.bool false]) hmix (by kernel_rfl) rfl (by decide) (by kernel_rfl) (fun _ _ _ _ _ _ h=>h) (Below.refl _ _).drew ?_ ?_
               ·intro t w' a' hI' ha j' hlt' hd
                simp only[putFrom,Act.put,Nat.reduceAdd,s'a,s'z,s's] at ha
                subst ha
                replace hlt':j'<29:=hlt'
                rcases lt_cases29 j' hlt' with rfl | rfl | rfl | rfl | rfl | rfl | rfl | rfl | rfl | rfl | rfl | rfl | rfl | rfl | rfl | rfl | rfl | rfl | rfl | rfl | rfl | rfl | rfl | rfl | rfl | rfl | rfl | rfl | rfl
                ·refine w'k rfl fun K' hK => ?_
                 go_wp2
                 exact hK.out _ _ ⟨_,rfl,hI',Below.refl _ _,rfl⟩
                ·rw[←o'i (hd 0 (by kernel_rfl))]
                 refine w'k rfl fun K' hK => ?_
                 go_wp2
                 exact hK.out _ _ ⟨_,rfl,hI',Below.refl _ _,rfl⟩
                ·rw[←o'i (hd 1 (by kernel_rfl))]
                 refine w'k rfl fun K' hK => ?_
                 go_wp2
                 exact hK.out _ _ ⟨_,rfl,hI',Below.refl _ _,rfl⟩
                ·rw[←o'i (hd 2 (by kernel_rfl))]
                 refine w'k rfl fun K' hK => ?_
                 go_wp2
                 exact hK.out _ _ ⟨_,rfl,hI',Below.refl _ _,rfl⟩
                ·rw[←o'i (hd 2 (by kernel_rfl))]
                 refine w'k rfl fun K' hK => ?_
                 go_wp2
                 exact hK.out _ _ ⟨_,rfl,hI',Below.refl _ _,rfl⟩
                ·rw[←o'i (hd 4 (by kernel_rfl))]
                 rw[←o'i (hd 2 (by kernel_rfl))]
                 refine w'k rfl fun K' hK => ?_
                 go_wp2
                 exact hK.out _ _ ⟨_,rfl,hI',Below.refl _ _,rfl⟩
                ·rw[←o'i (hd 3 (by kernel_rfl))]
                 rw[←o'i (hd 5 (by kernel_rfl))]
                 rw[←o'i (hd 2 (by kernel_rfl))]
                 refine w'k rfl fun K' hK => ?_
                 go_wp2
                 exact hK.out _ _ ⟨_,rfl,hI',Below.refl _ _,rfl⟩
                ·rw[←o'i (hd 6 (by kernel_rfl))]
                 rw[←o'i (hd 2 (by kernel_rfl))]
                 refine w'k rfl fun K' hK => ?_
                 go_wp2
                 exact hK.out _ _ ⟨_,rfl,hI',Below.refl _ _,rfl⟩
                ·rw[←o'i (hd 7 (by kernel_rfl))]
                 rw[←o'i (hd 2 (by kernel_rfl))]
                 refine w'k rfl fun K' hK => ?_
                 go_wp2
                 exact hK.out _ _ ⟨_,rfl,hI',Below.refl _ _,rfl⟩
                ·rw[←o'i (hd 8 (by kernel_rfl))]
                 rw[←o'i (hd 2 (by kernel_rfl))]
                 have f0:w'.cell? ⟨ob,oo+j*9+2,none⟩=some (.int .u8 y.1.h.type):=(hI'.cell (p:=⟨ob,oo+j*9+2,none⟩) hob).trans cy2
                 refine w'k rfl fun K' hK => ?_
                 go_wp2
                 exact hK.out _ _ ⟨_,rfl,hI',Below.refl _ _,rfl⟩
                ·rw[←o'i (hd 2 (by kernel_rfl))]
                 refine w'k rfl fun K' hK => ?_
                 go_wp2
                 exact hK.out _ _ ⟨_,rfl,hI',Below.refl _ _,rfl⟩
                ·rw[←o'i (hd 9 (by kernel_rfl))]
                 rw[←o'i (hd 10 (by kernel_rfl))]
                 rw[←o'i (hd 2 (by kernel_rfl))]
                 refine w'k rfl fun K' hK => ?_
                 go_wp2
                 exact hK.out _ _ ⟨_,rfl,hI',Below.refl _ _,rfl⟩
                ·rw[←o'i (hd 2 (by kernel_rfl))]
                 rw[←o'i (hd 11 (by kernel_rfl))]
                 refine w'k rfl fun K' hK => ?_
                 go_wp2
                 exact hK.out _ _ ⟨_,rfl,hI',Below.refl _ _,rfl⟩
                ·rw[←o'i (hd 12 (by kernel_rfl))]
                 refine w'k rfl fun K' hK => ?_
                 go_wp2
                 exact hK.out _ _ ⟨_,rfl,hI',Below.refl _ _,rfl⟩
                ·rw[←o'i (hd 13 (by kernel_rfl))]
                 refine w'k rfl fun K' hK => ?_
                 go_wp2
                 exact hK.out _ _ ⟨_,rfl,hI',Below.refl _ _,rfl⟩
                ·rw[←o'i (hd 13 (by kernel_rfl))]
                 refine w'k rfl fun K' hK => ?_
                 go_wp2
                 exact hK.out _ _ ⟨_,rfl,hI',Below.refl _ _,rfl⟩
                ·rw[←o'i (hd 13 (by kernel_rfl))]
                 refine w'k rfl fun K' hK => ?_
                 go_wp2
                 exact hK.out _ _ ⟨_,rfl,hI',Below.refl _ _,rfl⟩
                ·rw[←o'i (hd 13 (by kernel_rfl))]
                 refine w'k rfl fun K' hK => ?_
                 go_wp2
                 exact hK.out _ _ ⟨_,rfl,hI',Below.refl _ _,rfl⟩
                ·rw[←o'i (hd 13 (by kernel_rfl))]
                 refine w'k rfl fun K' hK => ?_
                 go_wp2
                 exact hK.out _ _ ⟨_,rfl,hI',Below.refl _ _,rfl⟩
                ·rw[←o'i (hd 13 (by kernel_rfl))]
                 refine w'k rfl fun K' hK => ?_
                 go_wp2
                 exact hK.out _ _ ⟨_,rfl,hI',Below.refl _ _,rfl⟩
                ·rw[←o'i (hd 13 (by kernel_rfl))]
                 refine w'k rfl fun K' hK => ?_
                 go_wp2
                 exact hK.out _ _ ⟨_,rfl,hI',Below.refl _ _,rfl⟩
                ·rw[←o'i (hd 13 (by kernel_rfl))]
                 refine w'k rfl fun K' hK => ?_
                 go_wp2
                 exact hK.out _ _ ⟨_,rfl,hI',Below.refl _ _,rfl⟩
                ·rw[←o'i (hd 13 (by kernel_rfl))]
                 refine w'k rfl fun K' hK => ?_
                 go_wp2
                 exact hK.out _ _ ⟨_,rfl,hI',Below.refl _ _,rfl⟩
                ·rw[←o'i (hd 13 (by kernel_rfl))]
                 refine w'k rfl fun K' hK => ?_
                 go_wp2
                 exact hK.out _ _ ⟨_,rfl,hI',Below.refl _ _,rfl⟩
                ·rw[←o'i (hd 13 (by kernel_rfl))]
                 refine w'k rfl fun K' hK => ?_
                 go_wp2
                 exact hK.out _ _ ⟨_,rfl,hI',Below.refl _ _,rfl⟩
                ·rw[←o'i (hd 13 (by kernel_rfl))]
                 refine w'k rfl fun K' hK => ?_
                 go_wp2
                 exact hK.out _ _ ⟨_,rfl,hI',Below.refl _ _,rfl⟩
                ·rw[←o'i (hd 13 (by kernel_rfl))]
                 refine w'k rfl fun K' hK => ?_
                 go_wp2
                 exact hK.out _ _ ⟨_,rfl,hI',Below.refl _ _,rfl⟩
                ·rw[←o'i (hd 13 (by kernel_rfl))]
                 refine w'k rfl fun K' hK => ?_
                 go_wp2
                 exact hK.out _ _ ⟨_,rfl,hI',Below.refl _ _,rfl⟩
                ·rw[←o'i (hd 13 (by kernel_rfl))]
                 rw[←o'i (hd 27 (by kernel_rfl))]
                 refine w'k rfl fun K' hK => ?_
                 go_wp2
                 exact hK.out _ _ ⟨_,rfl,hI',Below.refl _ _,rfl⟩
               intro t w' a' hI' ha hv
               simp only[putFrom,Act.put,Nat.reduceAdd,s'a,s'z,s's] at ha
               subst ha
               have dl:t 28=.bool false:=(o'i (hv 28 (by decide))).symm
               rw[dl]
               clear hv dl
               obtain ⟨w7,rfl⟩:∃ x:World,x=w':=⟨_,rfl⟩
               have hB7:=hI'
               clear cy2 cy3 hob hy hpj
               generalize (some ⟨ob,oo,none⟩:Option Addr)=oA at *
              rotate_left
              focus
               obtain ⟨ob,oo,rfl,hob,horow⟩:=Sl.row (f:=sL) (fun _=>rfl) (Sl.of_own hI6.own) hj
               have cy2:w6.cell? ⟨ob,oo+j*9+2,none⟩=some (.int .u8 out[j].1.h.type):=horow 2 _ rfl
               have cy3:w6.cell? ⟨ob,oo+j*9+3,none⟩=some (.int .u32 out[j].1.h.id):=horow 3 _ rfl
               obtain ⟨y,hy⟩:∃ y,y=out[j]:=⟨_,rfl⟩
               rw[←hy] at cy2 cy3 hc1 hc2
               have e0:decide ((0:Int)<(p:Int))=true:=decide_eq_true (by rw[hpj];exact succ_pos_int j)
               have e0':decide (0<p)=true:=decide_eq_true (by rw[hpj];exact Nat.succ_pos j)
               have ej:(p:Int)-1=(j:Int):=by rw[hpj];exact succ_sub_int j
               have ij:(j:Int)<(out.length:Int):=Int.ofNat_lt.2 hj
               replace hpj:=h'd hpj
               replace hy:=h'd hy
               clear horow
               have e4:(y.1.h.type==(ty:Int))=true:=by simpa using hc1
               have e5:=decide_eq_false hc2
               replace hc1:=h'd hc1
               replace hc2:=h'd hc2
               go_wp2_with fail
               refine wp_region_vals [some 81,some 82,some 83,some 84,some 85,some 86,some 87,some 88,some 89,some 90,some 91,some 92,some 93,some 94,some 95,some 96,some 97,some 98,some 99,some 100,some 101,some 102,some 103,some 104,some 105,some 106,some 107,some 108,some 109] (fun W=>Below w6.heap.size w6 W) (fun W W'=>Below W.heap.size W W') id (ValV [.int .i64 p,.bool true,.bool true,.slice (some ⟨ob,oo,none⟩) out.length oc,.int .i64 p,.int .i64 j,.pointer (some ⟨ob,oo+j*9,none⟩),.pointer (some ⟨ob,oo+j*9,none⟩),.pointer (some ⟨ob,oo+j*9+2,none⟩),.int .u8 y.1.h.type,.int .u8 ty,.bool true,.bool true,.bool true,.slice (some ⟨ob,oo,none⟩) out.length oc,.int .i64 p,.int .i64 j,.pointer (some ⟨ob,oo+j*9,none⟩),.pointer (some ⟨ob,oo+j*9,none⟩),.pointer (some ⟨ob,oo+j*9+3,none⟩),.int .u32 y.1.h.id,.slice (some ⟨ab,ao,none⟩) ls.length lc,.int .i64 i,.pointer (some ⟨ab,ao+i*9,none⟩),.pointer (some ⟨ab,ao+i*9,none⟩),.pointer (some ⟨ab,ao+i*9+3,none⟩),.int .u32 x.h.id,.bool false,.bool false]) hmix (by kernel_rfl) rfl (by decide) (by kernel_rfl) (fun _ _ _ _ _ _ h=>h) (Below.refl _ _).drew ?_ ?_
               ·intro t w' a' hI' ha j' hlt' hd
                simp only[putFrom,Act.put,Nat.reduceAdd,s'a,s'z,s's] at ha
                subst ha
                replace hlt':j'<29:=hlt'
                rcases lt_cases29 j' hlt' with rfl | rfl | rfl | rfl | rfl | rfl | rfl | rfl | rfl | rfl | rfl | rfl | rfl | rfl | rfl | rfl | rfl | rfl | rfl | rfl | rfl | rfl | rfl | rfl | rfl | rfl | rfl | rfl | rfl
                ·refine w'k rfl fun K' hK => ?_
                 go_wp2
                 exact hK.out _ _ ⟨_,rfl,hI',Below.refl _ _,rfl⟩
                ·rw[←o'i (hd 0 (by kernel_rfl))]
                 refine w'k rfl fun K' hK => ?_
                 go_wp2
                 exact hK.out _ _ ⟨_,rfl,hI',Below.refl _ _,rfl⟩
                ·rw[←o'i (hd 1 (by kernel_rfl))]
                 refine w'k rfl fun K' hK => ?_
                 go_wp2
                 exact hK.out _ _ ⟨_,rfl,hI',Below.refl _ _,rfl⟩
                ·rw[←o'i (hd 2 (by kernel_rfl))]
                 refine w'k rfl fun K' hK => ?_
                 go_wp2
                 exact hK.out _ _ ⟨_,rfl,hI',Below.refl _ _,rfl⟩
                ·rw[←o'i (hd 2 (by kernel_rfl))]
                 refine w'k rfl fun K' hK => ?_
                 go_wp2
                 exact hK.out _ _ ⟨_,rfl,hI',Below.refl _ _,rfl⟩
                ·rw[←o'i (hd 4 (by kernel_rfl))]
                 rw[←o'i (hd 2 (by kernel_rfl))]
                 refine w'k rfl fun K' hK => ?_
                 go_wp2
                 exact hK.out _ _ ⟨_,rfl,hI',Below.refl _ _,rfl⟩
                ·rw[←o'i (hd 3 (by kernel_rfl))]
                 rw[←o'i (hd 5 (by kernel_rfl))]
                 rw[←o'i (hd 2 (by kernel_rfl))]
                 refine w'k rfl fun K' hK => ?_
                 go_wp2
                 exact hK.out _ _ ⟨_,rfl,hI',Below.refl _ _,rfl⟩
                ·rw[←o'i (hd 6 (by kernel_rfl))]
                 rw[←o'i (hd 2 (by kernel_rfl))]
                 refine w'k rfl fun K' hK => ?_
                 go_wp2
                 exact hK.out _ _ ⟨_,rfl,hI',Below.refl _ _,rfl⟩
                ·rw[←o'i (hd 7 (by kernel_rfl))]
                 rw[←o'i (hd 2 (by kernel_rfl))]
                 refine w'k rfl fun K' hK => ?_
                 go_wp2
                 exact hK.out _ _ ⟨_,rfl,hI',Below.refl _ _,rfl⟩
                ·rw[←o'i (hd 8 (by kernel_rfl))]
                 rw[←o'i (hd 2 (by kernel_rfl))]
                 have f0:w'.cell? ⟨ob,oo+j*9+2,none⟩=some (.int .u8 y.1.h.type):=(hI'.cell (p:=⟨ob,oo+j*9+2,none⟩) hob).trans cy2
                 refine w'k rfl fun K' hK => ?_
                 go_wp2
                 exact hK.out _ _ ⟨_,rfl,hI',Below.refl _ _,rfl⟩
                ·rw[←o'i (hd 2 (by kernel_rfl))]
                 refine w'k rfl fun K' hK => ?_
                 go_wp2
                 exact hK.out _ _ ⟨_,rfl,hI',Below.refl _ _,rfl⟩
                ·rw[←o'i (hd 9 (by kernel_rfl))]
                 rw[←o'i (hd 10 (by kernel_rfl))]
                 rw[←o'i (hd 2 (by kernel_rfl))]
                 refine w'k rfl fun K' hK => ?_
                 go_wp2
                 exact hK.out _ _ ⟨_,rfl,hI',Below.refl _ _,rfl⟩
                ·rw[←o'i (hd 2 (by kernel_rfl))]
                 rw[←o'i (hd 11 (by kernel_rfl))]
                 refine w'k rfl fun K' hK => ?_
                 go_wp2
                 exact hK.out _ _ ⟨_,rfl,hI',Below.refl _ _,rfl⟩
                ·rw[←o'i (hd 12 (by kernel_rfl))]
                 refine w'k rfl fun K' hK => ?_
                 go_wp2
                 exact hK.out _ _ ⟨_,rfl,hI',Below.refl _ _,rfl⟩
                ·rw[←o'i (hd 13 (by kernel_rfl))]
                 refine w'k rfl fun K' hK => ?_
                 go_wp2
                 exact hK.out _ _ ⟨_,rfl,hI',Below.refl _ _,rfl⟩
                ·rw[←o'i (hd 13 (by kernel_rfl))]
                 refine w'k rfl fun K' hK => ?_
                 go_wp2
                 exact hK.out _ _ ⟨_,rfl,hI',Below.refl _ _,rfl⟩
                ·rw[←o'i (hd 15 (by kernel_rfl))]
                 rw[←o'i (hd 13 (by kernel_rfl))]
                 refine w'k rfl fun K' hK => ?_
                 go_wp2
                 exact hK.out _ _ ⟨_,rfl,hI',Below.refl _ _,rfl⟩
                ·rw[←o'i (hd 14 (by kernel_rfl))]
                 rw[←o'i (hd 16 (by kernel_rfl))]
                 rw[←o'i (hd 13 (by kernel_rfl))]
                 refine w'k rfl fun K' hK => ?_
                 go_wp2
                 exact hK.out _ _ ⟨_,rfl,hI',Below.refl _ _,rfl⟩
                ·rw[←o'i (hd 17 (by kernel_rfl))]
                 rw[←o'i (hd 13 (by kernel_rfl))]
                 refine w'k rfl fun K' hK => ?_
                 go_wp2
                 exact hK.out _ _ ⟨_,rfl,hI',Below.refl _ _,rfl⟩
                ·rw[←o'i (hd 18 (by kernel_rfl))]
                 rw[←o'i (hd 13 (by kernel_rfl))]
                 refine w'k rfl fun K' hK => ?_
                 go_wp2
                 exact hK.out _ _ ⟨_,rfl,hI',Below.refl _ _,rfl⟩
                ·rw[←o'i (hd 19 (by kernel_rfl))]
                 rw[←o'i (hd 13 (by kernel_rfl))]
                 have f0:w'.cell? ⟨ob,oo+j*9+3,none⟩=some (.int .u32 y.1.h.id):=(hI'.cell (p:=⟨ob,oo+j*9+3,none⟩) hob).trans cy3
                 refine w'k rfl fun K' hK => ?_
                 go_wp2
                 exact hK.out _ _ ⟨_,rfl,hI',Below.refl _ _,rfl⟩
                ·rw[←o'i (hd 13 (by kernel_rfl))]
                 refine w'k rfl fun K' hK => ?_
                 go_wp2
                 exact hK.out _ _ ⟨_,rfl,hI',Below.refl _ _,rfl⟩
                ·rw[←o'i (hd 13 (by kernel_rfl))]
                 refine w'k rfl fun K' hK => ?_
                 go_wp2
                 exact hK.out _ _ ⟨_,rfl,hI',Below.refl _ _,rfl⟩
                ·rw[←o'i (hd 21 (by kernel_rfl))]
                 rw[←o'i (hd 22 (by kernel_rfl))]
                 rw[←o'i (hd 13 (by kernel_rfl))]
                 refine w'k rfl fun K' hK => ?_
                 go_wp2
                 exact hK.out _ _ ⟨_,rfl,hI',Below.refl _ _,rfl⟩
                ·rw[←o'i (hd 23 (by kernel_rfl))]
                 rw[←o'i (hd 13 (by kernel_rfl))]
                 refine w'k rfl fun K' hK => ?_
                 go_wp2
                 exact hK.out _ _ ⟨_,rfl,hI',Below.refl _ _,rfl⟩
                ·rw[←o'i (hd 24 (by kernel_rfl))]
                 rw[←o'i (hd 13 (by kernel_rfl))]
                 refine w'k rfl fun K' hK => ?_
                 go_wp2
                 exact hK.out _ _ ⟨_,rfl,hI',Below.refl _ _,rfl⟩
                ·rw[←o'i (hd 25 (by kernel_rfl))]
                 rw[←o'i (hd 13 (by kernel_rfl))]
                 have f0:w'.cell? ⟨ab,ao+i*9+3,none⟩=some (.int .u32 x.h.id):=(hI'.cell (p:=⟨ab,ao+i*9+3,none⟩) habw).trans r3
                 refine w'k rfl fun K' hK => ?_
                 go_wp2
                 exact hK.out _ _ ⟨_,rfl,hI',Below.refl _ _,rfl⟩
                ·rw[←o'i (hd 20 (by kernel_rfl))]
                 rw[←o'i (hd 26 (by kernel_rfl))]
                 rw[←o'i (hd 13 (by kernel_rfl))]
                 refine w'k rfl fun K' hK => ?_
                 go_wp2
                 exact hK.out _ _ ⟨_,rfl,hI',Below.refl _ _,rfl⟩
                ·rw[←o'i (hd 13 (by kernel_rfl))]
                 rw[←o'i (hd 27 (by kernel_rfl))]
                 refine w'k rfl fun K' hK => ?_
                 go_wp2
                 exact hK.out _ _ ⟨_,rfl,hI',Below.refl _ _,rfl⟩
               intro t w' a' hI' ha hv
               simp only[putFrom,Act.put,Nat.reduceAdd,s'a,s'z,s's] at ha
               subst ha
               have dl:t 28=.bool false:=(o'i (hv 28 (by decide))).symm
               rw[dl]
               clear hv dl
               obtain ⟨w7,rfl⟩:∃ x:World,x=w':=⟨_,rfl⟩
               have hB7:=hI'
               clear cy2 cy3 hob hy hpj
               generalize (some ⟨ob,oo,none⟩:Option Addr)=oA at *
              rotate_left
              all_goals
               have hI7:=hI6.call hB7
               have hr7:w7.rangeAt ab (ao+i*9) (stL x):=fun q u hq=>(hB7.cell (p:=⟨ab,ao+i*9+q,none⟩) habw).trans (hrow6.out q u hq)
               have habw7:ab<w7.heap.size:=Nat.lt_of_lt_of_le habw hB7.size
               have hS7:=Sl.of_own hI7.own
               have hz7:=hI7.below.size
               obtain ⟨vt,hrt,hst⟩:=take_ex sts9T oA out.length oc p hp hoc
               obtain ⟨vd,hrd,hsd⟩:=drop_ex sts9T oA out.length oc p hp hoc
               have ht7:=hst w7 w7.heap.size _ hS7
               have Hsd:=h'd hsd
               have hft:=flat_take (f:=sL) (s:=9) (fun _=>rfl) out p
               have hfd:=flat_drop (f:=sL) (s:=9) (fun _=>rfl) out p
               rw[hft] at ht7
               have Hfd:=h'd hfd
               have hput:=fun W v ho hb=>noI_put hI7 hSi.out hyi.out hty.out hg.out hO.out hp hup.out hbelow.out (W:=W) (v:=v) ho hb
               replace hput:=h'd hput
               obtain ⟨n9,hn9⟩:∃ n,n=w7.heap.size:=⟨_,rfl⟩
               have hmax:out.length≤300000∧p≤out.length:=⟨hol,hp⟩
               clear hst hsd hft hfd hI6 hI7 hI5 hI hup hbelow hI' hB6 hrow6 r3
               obtain ⟨⟨age,opts,type,id,adv,seq,sum,len⟩,A,nb,cap⟩:=x
               dsimp only[stL] at hr7
               go_wp2_with (first
                | (at_builtin;refine wpList_append rfl (.tmp 112) (.tmp 115) 22 rfl w7.heap.size sts9T (.slice none 0 0) 0 [] rfl (World.ownsRow_nil _ _ _ _) w7.heap.size vt p ((out.take p).flatMap sL) rfl ht7 (sts_oneCell _) (by simp only[maxLen];omega) (by omega) (Nat.le_refl _) ?_;intro va w8 ho8 hg8 hob8;have hB8:Below w7.heap.size w7 w8:=below_of_grown hg8 (Nat.le_refl _) (by simp[Value.ownBlock]);have hr8:w8.rangeAt ab (ao+i*9) [.int .u16 age,.int .u8 opts,.int .u8 type,.int .u32 id,.int .u32 adv,.int .i32 seq,.int .u16 sum,.int .u16 len,.slice A nb cap]:=fun q u hq=>(hB8.cell (p:=⟨ab,ao+i*9+q,none⟩) habw7).trans (hr7 q u hq);have hz8:=hB8.size;simp only[Nat.zero_add,List.nil_append] at ho8;clear hg8 hob8 hrt ht7)
                | (refine wpList_load_mid rfl 71 (.tmp 120) rfl ab (ao+i*9) rfl (#[.int .u16 age,.int .u8 opts,.int .u8 type,.int .u32 id,.int .u32 adv,.int .i32 seq,.int .u16 sum,.int .u16 len,.slice A nb cap]).toList _ hr8 Tryz.underlying71 rfl (by kernel_rfl) ?_;dsimp only)
                | (at_builtin;refine wpList_append rfl (.tmp 117) (.tmp 122) 22 rfl w7.heap.size sts9T va p _ rfl (own_alloc ho8 _) _ _ 1 [.int .u16 age,.int .u8 opts,.int .u8 type,.int .u32 id,.int .u32 adv,.int .i32 seq,.int .u16 sum,.int .u16 len,.slice A nb cap] rfl (Sl.lit w8 #[.int .u16 age,.int .u8 opts,.int .u8 type,.int .u32 id,.int .u32 adv,.int .i32 seq,.int .u16 sum,.int .u16 len,.slice A nb cap] 71 (by simp[maxLen]) rfl) (by simp[Value.oneCell']) (by simp only[maxLen];omega) (by omega) (by simp;omega) ?_;intro vb w9 ho9 hg9 hob9;have hB9:Below w7.heap.size w7 w9:=Below.trans (hB8.alloc hz8 _) (below_of_grown hg9 (by simp;omega) (fun g hg=>(ho8.lt g hg).1));have hz9:=hB9.size;have hd9:=Hsd.out w9 w7.heap.size _ (hS7.below hB9);rw[Hfd.out] at hd9;clear hg9 hob9)
                | (at_builtin;refine wpList_append rfl (.tmp 124) (.tmp 127) 22 rfl w7.heap.size sts9T vb (p+1) _ rfl ho9 w7.heap.size vd (out.length-p) ((out.drop p).flatMap sL) rfl hd9 (sts_oneCell _) (by simp only[maxLen];omega) (by omega) hz9 ?_;intro vc wd hod hgd hobd))
               have hBd:Below w7.heap.size w7 wd:=hB9.trans (below_of_grown hgd hz9 (fun g hg=>(ho9.lt g hg).1))
               obtain ⟨out',hN⟩:=hput.out wd vc (own_less hod hz7) (hBd.mono hz7)
               clear hput hod hgd hobd hBd ho9 hB9 hd9
               go_roundg (ls.length-(i+1))
               case measure=>omega
               case rel=>exact ⟨i+1,out',by omega,rfl,by go_num,hN⟩
       ·have e1:(x.h.type != (ty:Int))=true:=by simpa using hty
        replace hty:=h'd hty
        go_wp2
        go_roundg (ls.length-(i+1))
        case measure=>omega
        case rel=>exact ⟨i+1,out,by omega,rfl,by go_num,hskip.out fun h=>hty.out h.1⟩
      ·obtain rfl:i=ls.length:=by omega
       go_wp2
       go_roundg (3-(ty+1))
       case measure=>omega
       case rel =>
        have h:=hI
        rw[show ls.length=S.length from hls'.out] at h
        exact ⟨ty+1,out,by omega,by omega,rfl,by go_num,h.turn ht1⟩
    ·obtain rfl:ty=3:=by omega
     go_wp2
     go_ret
     have hd:=hI.ind.done
     refine ⟨_,out,rfl,own_less hI.own hB12.size,hd,hI.mem,?_,hB12.trans (hI.below.mono hB12.size)⟩
     have h1:=nodesG_len S
     rw[←hd] at h1
     have h2:=hyl.out
     have h3:=hls'.out
     simp only[sOf,List.length_map] at h1
     omega
end Go.Proofs.YtcknpofnpabkiaaGreat
