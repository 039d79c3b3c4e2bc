/- slices.SortFunc of two places that stand in order: nothing is moved. Conditions: the two places lie in memory, and the comparison finds the second one behind the first. -/
import Derived.Test.YtdilbcmnfpmijaaBorB
import Derived.Test.YtdilbcmnfpmijaaShelf
namespace Go.Proofs.Ytdilbcmnfpmijaa
open Go.RowKit Go.Lo

/-- what the comparison does wherever it is called -/
def CmpGt (B : Nat) (w : World) (r : Value) : Prop := ∀ W, Below B w W → Calls Try.prog 55 #[r, .int .i64 1, .int .i64 0] W fun e w' => e = .returned (.int .i64 1) ∧ Below W.heap.size W w'
def SortFn (r : Value) : Value := .func (.func 55) #[r] #[]

set_option maxRecDepth 100000 in
theorem pdq2_any (g c : Nat) (L : Int) (r : Value) (w : World) (hg : g < w.heap.size) (h0 : w.cell? ⟨g, 0, none⟩ = some (.int .i64 0)) (h1 : w.cell? ⟨g, 1, none⟩ = some (.int .i64 1)) (hc : CmpGt w.heap.size w r) :
    Calls Try.prog 80 #[.slice (some ⟨g, 0, none⟩) 2 c, .int .i64 0, .int .i64 2, .int .i64 L, SortFn r] w fun e w' => e = .returned (.tuple #[]) ∧ Below w.heap.size w w' := by
  have CI := Lib.hid (ins2_any g c r w hg h0 h1 hc)
  clear hc h0 h1
  unfold SortFn
  go_enter Try.func80, Try.ntmps80
  go_wp2_with fail
  go_loopg [1, 2, 3, 10, 11] 1 (fun m v1 v2 v3 v10 v11 wr => m = 1 ∧ v1 = .int .i64 0 ∧ v2 = .int .i64 2 ∧ v3 = .int .i64 L ∧ v10 = .bool true ∧ v11 = .bool true ∧ wr = w)
  case atStart => exact ⟨rfl, rfl, rfl, rfl, rfl, rfl, rfl⟩
  case round =>
    obtain ⟨hm, rfl, rfl, rfl, rfl, rfl, rfl⟩ := hrel
    go_wp2_with (go_at_call 91; refine Calls.mono CI.out ?_; rintro e w1 ⟨rfl, hB1⟩)
    refine bodyPost_ret (results_none rfl _ _ _) rfl ?_
    exact ⟨rfl, hB1⟩

set_option maxRecDepth 100000 in
theorem sortfunc2_any (g c : Nat) (r : Value) (w : World) (hg : g < w.heap.size) (h0 : w.cell? ⟨g, 0, none⟩ = some (.int .i64 0)) (h1 : w.cell? ⟨g, 1, none⟩ = some (.int .i64 1)) (hc : CmpGt w.heap.size w r) :
    Calls Try.prog 54 #[.slice (some ⟨g, 0, none⟩) 2 c, SortFn r] w fun e w' => e = .returned (.tuple #[]) ∧ Below w.heap.size w w' := by
  have CP := Lib.hid (fun L => pdq2_any g c L r w hg h0 h1 hc)
  have CB := Lib.hid (Try.bits_Len 2 w (by omega) (by omega))
  clear hc h0 h1
  generalize SortFn r = F at *
  go_enter Try.func54, Try.ntmps54
  go_wp2_with (first
    | (go_at_call 53; refine Calls.mono CB.out ?_; rintro e w1 ⟨rfl, rfl⟩)
    | (go_at_call 80; refine Calls.mono (CP.out _) ?_; rintro e w2 ⟨rfl, hB2⟩)
    | fail)
  go_end0
  exact ⟨rfl, hB2⟩
end Go.Proofs.Ytdilbcmnfpmijaa
