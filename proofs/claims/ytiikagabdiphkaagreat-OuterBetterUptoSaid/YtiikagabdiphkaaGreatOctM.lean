/- state.caught, as the deferred call of a frame that threw an error, and of one that returns. Conditions: the cell that it writes lies in memory. -/
import Derived.Test.YtiikagabdiphkaaGreatOctL
import Derived.Recover
namespace Go.Proofs.YtiikagabdiphkaaGreat
open Go.RowKit Go.Lo

set_option maxRecDepth 100000 in
theorem caught_idle (p : Addr) (w : World) : CallsD Tryz.prog 104 #[.pointer (some p)] .returning w fun e u' w' => e = .returned (.tuple #[]) ∧ u' = .returning ∧ w' = w := by
  refine callsD_of_wpS Tryz.func104 rfl fun c₀ cs hu => ?_
  apply wpS_seq
  apply wpS_region
  simp [wpOpsS, go_sem, recoverD, hu, Tryz.ntmps104, Exit.thenS]
  apply wpS_seq
  apply wpS_region
  simp [wpOpsS, go_sem, Exit.thenS]
  refine wpS_cond (t := false) (by simp [Act.eval, Array.replicate]) ?_
  simp only [Bool.false_eq_true, if_false]
  refine wpS_of_wp (wp_skip ?_)
  cases c₀
  simp_all [bodyPostS, results, Tryz.results104]

set_option maxRecDepth 100000 in
theorem caught_thrown (p : Addr) (k0 k : Int) (w : World) (hc : w.cell? p = some (.int .i64 k0)) (hz : w.frozen? p = false) : CallsD Tryz.prog 104 #[.pointer (some p)] (.panicking [{ v := .iface 56 (.int .i64 k), recovered := false }]) w fun e u' w' =>
    e = .returned (.tuple #[]) ∧ u' = .panicking [{ v := .iface 56 (.int .i64 k), recovered := true }] ∧ w' = w.setCell p (.int .i64 k) := by
  refine callsD_of_wpS Tryz.func104 rfl fun c₀ cs hu => ?_
  apply wpS_seq
  apply wpS_region
  simp [wpOpsS, go_sem, recoverD, hu, Tryz.ntmps104, Exit.thenS]
  apply wpS_seq
  apply wpS_region
  simp [wpOpsS, go_sem, Exit.thenS]
  refine wpS_cond (t := true) (by simp [Act.eval, Array.replicate]) ?_
  simp only [if_true]
  have ta : ∀ W, (Instr.typeAssert (.iface 56 (.int .i64 k)) 20 56 true).run Tryz.prog W = .ok (.tuple #[.int .i64 k, .bool true]) W := fun W => by kernel_rfl
  apply wpS_seq
  apply wpS_region
  simp [wpOpsS, go_sem, Exit.thenS, ta]
  apply wpS_seq
  apply wpS_seq
  apply wpS_region
  simp [wpOpsS, go_sem, Exit.thenS]
  refine wpS_cond (t := false) (by simp [Act.eval, Array.replicate]) ?_
  simp only [Bool.false_eq_true, if_false]
  refine wpS_of_wp (wp_skip ?_)
  simp only [Exit.thenS]
  apply wpS_region
  simp [wpOpsS, go_sem, hc, hz, bodyPostS, results, Tryz.results104]
end Go.Proofs.YtiikagabdiphkaaGreat
