/- prefix.Mask and prefix.Bits. Conditions: the numbers are of their kinds. -/
import Derived.Test.YtiikagabdiphkaaGreatOctJ
import Derived.Test.YtiikagabdiphkaaGreatShelfZ
namespace Go.Proofs.YtiikagabdiphkaaGreat
open Go.RowKit Go.Lo

/-- a mask of so many bits -/
def maskI (b : Int) : Int := if 32 < b then 0 else 4294967295 * 2 ^ (32 - b).toNat % 4294967296

theorem mask_any (b : Int) (hb : 0 ≤ b ∧ b ≤ 255) (w : World) : Calls Tryz.prog 148 #[.int .u8 b] w fun e w' => e = .returned (.int .u32 (maskI b)) ∧ w' = w := by
  go_enter Tryz.func148, Tryz.ntmps148
  go_wp2
  all_goals go_ret
  · refine ⟨?_, rfl⟩
    rw [maskI, if_pos (by assumption)]; rfl
  · refine ⟨?_, rfl⟩
    rw [maskI, if_neg (by omega)]; rfl

/-- of how many bits a mask would be -/
def bitsN (m : Int) : Int := (32 - (Go.Lib.bitLen (bits BinOp.xor IntKind.u32 IntKind.u32.max m).toNat : Int)) % 256
/-- of how many bits a mask is; is it one? -/
def bitsB (m : Int) : Bool := maskI (bitsN m) == m
def bitsV (m : Int) : Int := if bitsB m then bitsN m else 0

theorem bits_any (m : Int) (w : World) : Calls Tryz.prog 113 #[.int .u32 m] w fun e w' => e = .returned (.tuple #[.int .u8 (bitsV m), .bool (bitsB m)]) ∧ w' = w := by
  have hx : 0 ≤ bits BinOp.xor IntKind.u32 IntKind.u32.max m ∧ bits BinOp.xor IntKind.u32 IntKind.u32.max m ≤ 4294967295 := by
    unfold bits
    rw [IntKind.wrap_u32]
    omega
  have CL := Lib.hid (Tryz.bits_LeadingZeros32 _ w hx.1 hx.2)
  have CM := Lib.hid (mask_any (bitsN m) (by unfold bitsN; omega) w)
  by_cases hb : maskI (bitsN m) = m
  · have e1 : bitsB m = true := by unfold bitsB; rw [hb]; simp
    have e2 : bitsV m = bitsN m := if_pos e1
    rw [e1, e2]
    have hne : (maskI (bitsN m) != m) = false := by simp [hb]
    unfold bitsN at *
    go_enter Tryz.func113, Tryz.ntmps113
    go_wp2_with (first
      | (go_at_call 147; refine Calls.mono CL.out ?_; rintro x w1 ⟨rfl, rfl⟩)
      | (go_at_call 148; refine Calls.mono CM.out ?_; rintro x w2 ⟨rfl, rfl⟩)
      | fail)
    refine bodyPost_ret (results_tmp2 rfl _ _ _) rfl ?_
    exact ⟨rfl, rfl⟩
  · have e1 : bitsB m = false := by unfold bitsB; exact beq_false_of_ne hb
    have e2 : bitsV m = 0 := if_neg (by rw [e1]; simp)
    rw [e1, e2]
    have hne : (maskI (bitsN m) != m) = true := by simpa using hb
    unfold bitsN at *
    go_enter Tryz.func113, Tryz.ntmps113
    go_wp2_with (first
      | (go_at_call 147; refine Calls.mono CL.out ?_; rintro x w1 ⟨rfl, rfl⟩)
      | (go_at_call 148; refine Calls.mono CM.out ?_; rintro x w2 ⟨rfl, rfl⟩)
      | fail)
    refine bodyPost_ret (results_tmp2 rfl _ _ _) rfl ?_
    exact ⟨rfl, rfl⟩
end Go.Proofs.YtiikagabdiphkaaGreat
