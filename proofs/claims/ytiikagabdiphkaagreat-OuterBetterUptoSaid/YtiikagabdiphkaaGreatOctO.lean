/- state.may of a summary's body, in one word. No premise beyond the ones written. -/
import Derived.Test.YtiikagabdiphkaaGreatOctN
namespace Go.Proofs.YtiikagabdiphkaaGreat
open Go.RowKit Go.Lo

def mayB (t : Nat) (m k : Int) : Bool := if t = 3 then may3 m k else may4 m k

theorem bitsB_zero : bitsB 0 = true := by decide

theorem may_yes (t : Nat) (ht : t = 3 ∨ t = 4) (m k : Int) (h : mayB t m k = true) (w : World) : Calls Tryz.prog 109 #[.int .u8 t, .agg (sumC m k)] w fun e w' => e = .returned (.tuple #[]) ∧ Below w.heap.size w w' := by
  rcases ht with rfl | rfl
  · simp only [mayB, if_true, may3, Bool.and_eq_true, Bool.not_eq_true', decide_eq_false_iff_not] at h
    exact may3_ok m k h.1 h.2 w
  · simp only [mayB, may4, show ¬ (4 : Nat) = 3 by omega, if_false, Bool.and_eq_true, Bool.not_eq_true', decide_eq_false_iff_not, beq_iff_eq] at h
    exact may4_ok m k h.1.1 h.1.2 h.2 w

theorem may_no (t : Nat) (ht : t = 3 ∨ t = 4) (m k : Int) (h : mayB t m k = false) (w : World) : Calls Tryz.prog 109 #[.int .u8 t, .agg (sumC m k)] w fun e w' => e = thrown 28 ∧ Below w.heap.size w w' := by
  rcases ht with rfl | rfl
  · cases hb : bitsB m
    · exact may3_mask m k hb w
    · refine may3_far m k hb ?_ w
      simpa [mayB, may3, hb] using h
  · cases hm : (m == 0)
    · exact may4_mask m k hm w
    · have hm0 : m = 0 := by simpa using hm
      have hb : bitsB m = true := by rw [hm0]; exact bitsB_zero
      refine may4_far m k hm0 hb ?_ w
      simpa [mayB, may4, hb, hm] using h
end Go.Proofs.YtiikagabdiphkaaGreat
