/- lodestarlaw23's BorderOne: too many numbers, and none. Conditions: the numbers lie in memory. -/
import Derived.Test.YtdilbcmnfpmijaaBorK
namespace Go.Proofs.Ytdilbcmnfpmijaa
open Go.RowKit Go.Lo

set_option maxRecDepth 100000 in
theorem borderOne_big (l : List Int) (lv : Value) (w : World) (hl : Sl w w.heap.size 1 lv l.length (l.flatMap u32Cells)) (h30 : 30 < l.length) : Calls Try.prog 9 #[lv] w fun e w' => e = .returned (.bool true) ∧ Below w.heap.size w w' := by
  obtain ⟨-, A, c, rfl, -⟩ := hl
  have i30 : (30 : Int) < (l.length : Int) := by omega
  go_enter Try.func9, Try.ntmps9
  go_wp2_with (go_at_call 27; refine Calls.mono (works23_any _) ?_; rintro e w1 ⟨rfl, hB1⟩)
  go_ret
  exact ⟨rfl, hB1⟩

set_option maxRecDepth 100000 in
theorem borderOne_none (l : List Int) (lv : Value) (w : World) (hl : Sl w w.heap.size 1 lv l.length (l.flatMap u32Cells)) (h0 : l.length = 0) : Calls Try.prog 9 #[lv] w fun e w' => e = .returned (.bool true) ∧ Below w.heap.size w w' := by
  obtain rfl : l = [] := List.eq_nil_of_length_eq_zero h0
  obtain ⟨-, A, c, rfl, -⟩ := hl
  go_enter Try.func9, Try.ntmps9
  go_wp2_with (go_at_call 27; refine Calls.mono (works23_any _) ?_; rintro e w1 ⟨rfl, hB1⟩)
  go_ret
  exact ⟨rfl, hB1⟩

theorem borderOne_all (l : List Int) (lv : Value) (w : World) (hl : Sl w w.heap.size 1 lv l.length (l.flatMap u32Cells)) : Calls Try.prog 9 #[lv] w fun e w' => e = .returned (.bool true) ∧ Below w.heap.size w w' := by
  rcases Nat.lt_or_ge 30 l.length with h | h
  · exact borderOne_big l lv w hl h
  · rcases Nat.eq_zero_or_pos l.length with h0 | h0
    · exact borderOne_none l lv w hl h0
    · exact borderOne_any l lv w hl h h0
end Go.Proofs.Ytdilbcmnfpmijaa
