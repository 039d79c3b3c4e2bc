/- The contracts of math/bits for this seat, as the kit lays them. -/
import Derived.Shelf.Small.Bits
import Derived.Shelf.Strconv.Itoa0
import Derived.Test.YtcknpofnpabkiaaGreatProg
import Derived.Laws.Bits64
import Derived.Laws.Bits64b
import Derived.Sort.WalkA14
import Derived.Sort.Row
import Derived.Sort.LotD5
import Derived.Test.YtcknpofnpabkiaaGreatRpAC
namespace Go.Proofs
open Go.Shelf
def Tryz.lays128_ren:Go.Shelf.Ren:=⟨fun | 128=>149 | n=>n,fun | 51=>23 | 3=>3 | 4=>4 | 46=>204 | 5=>5 | 9=>9 | n=>n,fun | n=>n⟩
def Tryz.lays125_ren:Go.Shelf.Ren:=⟨fun | 125=>115 | 128=>149 | 129=>150 | n=>n,fun | 46=>204 | 3=>3 | 51=>23 | 53=>49 | 4=>4 | 5=>5 | 9=>9 | n=>n,fun | n=>n⟩
theorem Tryz.lays125:Go.Proofs.Lays.n125 Tryz.prog Tryz.lays125_ren:={
 mixed:=by kernel_rfl
 f125:=Tryz.func115.trans (congrArg some (by kernel_rfl))
 f128:=Tryz.func149.trans (congrArg some (by kernel_rfl))
 f129:=Tryz.func150.trans (congrArg some (by kernel_rfl))
 t3:=Tryz.underlying3
 a3:=Tryz.isAgg3
 z3:=Tryz.sizeOf3
 v3:=Tryz.zeroValue3
 t4:=Tryz.underlying4
 a4:=Tryz.isAgg4
 z4:=Tryz.sizeOf4
 v4:=Tryz.zeroValue4
 t5:=Tryz.underlying5
 a5:=Tryz.isAgg5
 z5:=Tryz.sizeOf5
 v5:=Tryz.zeroValue5
 t9:=Tryz.underlying9
 a9:=Tryz.isAgg9
 z9:=Tryz.sizeOf9
 v9:=Tryz.zeroValue9
 t46:=Tryz.underlying204
 a46:=Tryz.isAgg204
 z46:=Tryz.sizeOf204
 v46:=Tryz.zeroValue204
 t51:=Tryz.underlying23
 a51:=Tryz.isAgg23
 z51:=Tryz.sizeOf23
 v51:=Tryz.zeroValue23
 t53:=Tryz.underlying49
 a53:=Tryz.isAgg49
 z53:=Tryz.sizeOf49
 v53:=Tryz.zeroValue49 }
theorem Tryz.bits_Len (x:Int) (w:World) (h0:0≤x) (h1:x≤18446744073709551615) :
  Calls Tryz.prog 115 #[.int .u64 x] w fun e w'=>e=.returned (.int .i64 (Lib.bitLen x.toNat))∧w'=w:=Any.bits_Len Tryz.lays125 x w h0 h1
def Tryz.lays133_ren:Go.Shelf.Ren:=⟨fun | 133=>121 | 128=>149 | n=>n,fun | 51=>23 | 3=>3 | 4=>4 | 46=>204 | 5=>5 | 9=>9 | n=>n,fun | n=>n⟩
theorem Tryz.lays133:Go.Proofs.Lays.n133 Tryz.prog Tryz.lays133_ren:={
 mixed:=by kernel_rfl
 f128:=Tryz.func149.trans (congrArg some (by kernel_rfl))
 f133:=Tryz.func121.trans (congrArg some (by kernel_rfl))
 t3:=Tryz.underlying3
 a3:=Tryz.isAgg3
 z3:=Tryz.sizeOf3
 v3:=Tryz.zeroValue3
 t4:=Tryz.underlying4
 a4:=Tryz.isAgg4
 z4:=Tryz.sizeOf4
 v4:=Tryz.zeroValue4
 t5:=Tryz.underlying5
 a5:=Tryz.isAgg5
 z5:=Tryz.sizeOf5
 v5:=Tryz.zeroValue5
 t9:=Tryz.underlying9
 a9:=Tryz.isAgg9
 z9:=Tryz.sizeOf9
 v9:=Tryz.zeroValue9
 t46:=Tryz.underlying204
 a46:=Tryz.isAgg204
 z46:=Tryz.sizeOf204
 v46:=Tryz.zeroValue204
 t51:=Tryz.underlying23
 a51:=Tryz.isAgg23
 z51:=Tryz.sizeOf23
 v51:=Tryz.zeroValue23 }
theorem Tryz.bits_LeadingZeros32 (x:Int) (w:World) (h0:0≤x) (h1:x≤4294967295) :
  Calls Tryz.prog 121 #[.int .u32 x] w fun e w'=>e=.returned (.int .i64 (32-(Lib.bitLen x.toNat:Int)))∧w'=w:=Any.bits_LeadingZeros32 Tryz.lays133 x w h0 h1
end Go.Proofs
set_option maxRecDepth 100000
namespace Go.Lo
open Go.RowKit
section
variable {α:Type} [Inhabited α] {enc:α→List Value} {S:Nat} {T:TypeId} {P:Program} {w0 w:World} {g:Nat} {rest:List Value} {d:Array α}
theorem RowC.swpK (E:RowE enc S) (R:RowT P T S) (h:RowC enc T w0 g rest d w) {i j:Nat} (hi:i<d.size) (hj:j<d.size) :
  ∃ W1 W2,(Instr.storeAt T (.pointer (some ⟨g,i*S,none⟩)) (.agg (enc d[j]!).toArray)).run P w=.ok () W1∧(Instr.storeAt T (.pointer (some ⟨g,j*S,none⟩)) (.agg (enc d[i]!).toArray)).run P W1=.ok () W2∧RowC enc T w0 g rest (Sort.swp d i j) W2∧∀ b,b≠g→W2.heap[b]?=w.heap[b]?:=by
 have st:∀ {w:World} {d:Array α},RowC enc T w0 g rest d w→∀ {i:Nat},i<d.size→∀ x,∃ W,(Instr.storeAt T (.pointer (some ⟨g,i*S,none⟩)) (.agg (enc x).toArray)).run P w=.ok () W∧RowC enc T w0 g rest (d.setIfInBounds i x) W∧∀ b,b≠g→W.heap[b]?=w.heap[b]?:=fun {w d} h {i} hi x =>
  ⟨_,run_storeAt_mid w g (i*S) T (enc x).toArray (by simp only[List.size_toArray,E.len];exact h.there E hi) (by simp only[List.size_toArray,E.len];exact R.info) (all_oneCell_toArray (E.one x)),by simpa using h.set E hi x,fun b hb=>setCells_far _ _ _ _ hb⟩
 obtain ⟨W1,h1,k1,f1⟩:=st h hi d[j]!
 obtain ⟨W2,h2,k2,f2⟩:=st k1 (i:=j) (by simpa using hj) d[i]!
 exact ⟨W1,W2,h1,h2,k2,fun b hb=>(f2 b hb).trans (f1 b hb)⟩
end
end Go.Lo
namespace Go.Proofs.YtcknpofnpabkiaaGreat
open Go.RowKit Go.Lo
theorem set_set (w:World) (b o:Nat) (v v':Value):(w.setCell ⟨b,o,none⟩ v).setCell ⟨b,o,none⟩ v'=w.setCell ⟨b,o,none⟩ v':=by
 rw[Sort.setCell_eq,Sort.setCell_eq,Sort.setCell_eq,Sort.mapBlock_mapBlock]
 congr 1
 funext c
 simp
set_option maxHeartbeats 1000000 in
theorem next32_any (rb X:Nat) (hX:X<18446744073709551616) (w:World) (hk:Blk w rb 265 #[.int .u64 X]) :
  Calls Tryz.prog 181 #[.pointer (some ⟨rb,0,none⟩)] w fun e w'=>e=.returned (.int .u64 (Sort.xorNextN X:Nat))∧w'=(w.setCell ⟨rb,0,none⟩ (.int .u64 (Sort.xorNextN X:Nat))).drewN 3:=by
 obtain ⟨A,hA⟩:∃ A:Nat,A=X ^^^ (X*8192%18446744073709551616):=⟨_,rfl⟩
 obtain ⟨B,hB⟩:∃ B:Nat,B=A ^^^ (A / 128):=⟨_,rfl⟩
 obtain ⟨C,hC⟩:∃ C:Nat,C=B ^^^ (B*131072%18446744073709551616):=⟨_,rfl⟩
 have lA:A<18446744073709551616:=by rw[hA];exact Nat.xor_lt_two_pow (n:=64) (by omega) (by omega)
 have lB:B<18446744073709551616:=by rw[hB];exact Nat.xor_lt_two_pow (n:=64) (by omega) (by omega)
 have e1:bits .xor .u64 (X:Int) (IntKind.u64.wrap ((X:Int)*8192))=(A:Int):=by
  rw[IntKind.wrap_u64,show ((X:Int)*8192%18446744073709551616)=((X*8192%18446744073709551616:Nat):Int) by omega,bits_xor_u64_nat _ _ hX (by omega),hA]
 have e2:bits .xor .u64 (A:Int) ((A:Int) / 128)=(B:Int):=by
  rw[show ((A:Int) / 128)=((A / 128:Nat):Int) by omega,bits_xor_u64_nat _ _ lA (by omega),hB]
 have e3:bits .xor .u64 (B:Int) (IntKind.u64.wrap ((B:Int)*131072))=(C:Int):=by
  rw[IntKind.wrap_u64,show ((B:Int)*131072%18446744073709551616)=((B*131072%18446744073709551616:Nat):Int) by omega,bits_xor_u64_nat _ _ lB (by omega),hC]
 have hv:Sort.xorNextN X=C:=by
  unfold Sort.xorNextN
  simp only[]
  rw[←hA,←hB,←hC]
 rw[hv]
 clear hA hB hC hv lA lB
 have hc:=hk.cell 0
 have hf:=hk.free 0
 simp only[q'a,q'z] at hc
 have hss:=set_set w rb 0
 clear hk
 go_enter Tryz.func181,Tryz.ntmps181
 go_wp2
 go_region
 all_goals go_wp2
 all_goals go_region
 all_goals go_wp2
 all_goals go_region
 all_goals go_wp2
 go_ret
 exact ⟨rfl,rfl⟩
theorem npot_any (n:Nat) (hn:n<4611686018427387904) (w:World) :
  Calls Tryz.prog 180 #[.int .i64 n] w fun e w'=>e=.returned (.int .u64 ((1 <<< Sort.bitsLen n:Nat):Int))∧w'=w:=by
 have hL:∀ w,Calls Tryz.prog 115 #[.int .u64 (n:Int)] w fun e w'=>e=.returned (.int .i64 (Sort.bitsLen n:Nat))∧w'=w:=fun w=>by
  have h:=Go.Proofs.Tryz.bits_Len (n:Int) w (by omega) (by omega)
  rwa[Int.toNat_natCast,bitLen_eq _ (by omega)] at h
 have hk:Sort.bitsLen n≤62:=(Sort.bitsLen_le_iff n 62).2 (by omega)
 have hp:IntKind.u64.wrap ((2:Int) ^ Sort.bitsLen n)=((1 <<< Sort.bitsLen n:Nat):Int):=by
  have h:(2:Nat) ^ Sort.bitsLen n≤2 ^ 62:=Nat.pow_le_pow_right (by decide) hk
  rw[IntKind.wrap_u64,Nat.one_shiftLeft,show ((2:Int) ^ Sort.bitsLen n)=((2 ^ Sort.bitsLen n:Nat):Int) by push_cast;rfl]
  generalize (2:Nat) ^ Sort.bitsLen n=p at h
  omega
 replace hL:=h'd hL
 go_enter Tryz.func180,Tryz.ntmps180
 go_wp2_with (go_at_call 115;refine c'm (hL.out _) ?_;rintro e w1 ⟨rfl,rfl⟩)
 go_ret
 exact ⟨rfl,rfl⟩
end Go.Proofs.YtcknpofnpabkiaaGreat
