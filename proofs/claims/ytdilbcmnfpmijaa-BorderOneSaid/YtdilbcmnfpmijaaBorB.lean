/- border's places.compare at the two places of layer 23's known run. Conditions: the two prefixes lie in memory, and differ in their bits alone. -/
import Derived.Test.YtdilbcmnfpmijaaBorA
namespace Go.Proofs.Ytdilbcmnfpmijaa
open Go.RowKit Go.Lo

theorem places_gt (bl : Nat) (a b d : Int) (lc : Nat) (at_ : Value) (h : d < b) (w : World) (hl : bl < w.heap.size) (h0 : w.cell? ⟨bl, 0, none⟩ = some (.int .u32 a)) (h1 : w.cell? ⟨bl, 1, none⟩ = some (.int .u8 d)) (h2 : w.cell? ⟨bl, 2, none⟩ = some (.int .u32 a)) (h3 : w.cell? ⟨bl, 3, none⟩ = some (.int .u8 b)) :
    Calls Try.prog 55 #[.agg #[.slice (some ⟨bl, 0, none⟩) 2 lc, at_], .int .i64 1, .int .i64 0] w fun e w' => e = .returned (.int .i64 1) ∧ Below w.heap.size w w' := by
  have hB0 : Below w.heap.size w (w.alloc (.cells #[.slice (some ⟨bl, 0, none⟩) 2 lc, at_] 138)) := (Below.refl _ _).alloc (Nat.le_refl _) _
  have P := Blk.new w 138 #[.slice (some ⟨bl, 0, none⟩) 2 lc, at_]
  have C0 := P.cell 0
  simp only [List.getElem?_toArray, List.getElem?_cons_zero] at C0
  have e0 := (hB0.cell (p := ⟨bl, 0, none⟩) hl).trans h0
  have e1 := (hB0.cell (p := ⟨bl, 1, none⟩) hl).trans h1
  have e2 := (hB0.cell (p := ⟨bl, 2, none⟩) hl).trans h2
  have e3 := (hB0.cell (p := ⟨bl, 3, none⟩) hl).trans h3
  have hz : (w.alloc (.cells #[.slice (some ⟨bl, 0, none⟩) 2 lc, at_] 138)).heap.size = w.heap.size + 1 := by simp
  clear P h0 h1 h2 h3
  go_enter Try.func55, Try.ntmps55
  go_upto_region 1 with fail
  generalize (w.alloc (.cells #[.slice (some ⟨bl, 0, none⟩) 2 lc, at_] 138)) = w1 at C0 hB0 e0 e1 e2 e3 hz ⊢
  have q0 : ∀ W, Below (w.heap.size + 1) w1 W → W.cell? ⟨w.heap.size, 0, none⟩ = some (.slice (some ⟨bl, 0, none⟩) 2 lc) := fun W h => (h.cell (p := ⟨w.heap.size, 0, none⟩) (by show w.heap.size < w.heap.size + 1; omega)).trans C0
  have b0 : ∀ W, Below (w.heap.size + 1) w1 W → W.cell? ⟨bl, 0, none⟩ = some (.int .u32 a) := fun W h => (h.cell (p := ⟨bl, 0, none⟩) (by show bl < w.heap.size + 1; omega)).trans e0
  have b1 : ∀ W, Below (w.heap.size + 1) w1 W → W.cell? ⟨bl, 1, none⟩ = some (.int .u8 d) := fun W h => (h.cell (p := ⟨bl, 1, none⟩) (by show bl < w.heap.size + 1; omega)).trans e1
  have b2 : ∀ W, Below (w.heap.size + 1) w1 W → W.cell? ⟨bl, 2, none⟩ = some (.int .u32 a) := fun W h => (h.cell (p := ⟨bl, 2, none⟩) (by show bl < w.heap.size + 1; omega)).trans e2
  have b3 : ∀ W, Below (w.heap.size + 1) w1 W → W.cell? ⟨bl, 3, none⟩ = some (.int .u8 b) := fun W h => (h.cell (p := ⟨bl, 3, none⟩) (by show bl < w.heap.size + 1; omega)).trans e3
  have hle : w.heap.size + 1 ≤ w1.heap.size := by omega
  go_region_held3 (fun W => Below (w.heap.size + 1) w1 W) (first | assumption | exact (Below.refl _ _).drew | exact Below.refl _ _ | (refine below_alloc ?_ hle _; first | assumption | exact (Below.refl _ _).drew) | fail)
    (first
      | (go_at_call 81; refine Calls.mono (or_first _ _ 1 2 (by simp) rfl) ?_; rintro e w4 ⟨rfl, rfl⟩)
      | (go_at_call 82; refine Calls.mono (pcompare_gt a b d h _) ?_; rintro e w2 ⟨rfl, hB2⟩; have hS2 := below_call (B := w.heap.size + 1) (a := w1) (by first | assumption | exact (Below.refl _ _).drew) hB2 hle)
      | (go_at_call 83; refine Calls.mono (compare_gt _ _ (by omega) _) ?_; rintro e w3 ⟨rfl, rfl⟩)
      | fail)
  go_wp2
  go_ret
  exact ⟨rfl, hB0.trans ((below_alloc hS2 hle _).mono (by omega))⟩

set_option maxRecDepth 100000 in
/-- the library's insertion sort of two that stand in order: nothing is moved -/
theorem ins2_any (g c : Nat) (r : Value) (w : World) (hg : g < w.heap.size) (h0 : w.cell? ⟨g, 0, none⟩ = some (.int .i64 0)) (h1 : w.cell? ⟨g, 1, none⟩ = some (.int .i64 1))
    (hc : ∀ W, Below w.heap.size w W → Calls Try.prog 55 #[r, .int .i64 1, .int .i64 0] W fun e w' => e = .returned (.int .i64 1) ∧ Below W.heap.size W w') :
    Calls Try.prog 91 #[.slice (some ⟨g, 0, none⟩) 2 c, .int .i64 0, .int .i64 2, .func (.func 55) #[r] #[]] w fun e w' => e = .returned (.tuple #[]) ∧ Below w.heap.size w w' := by
  replace hc := Lib.hid hc
  go_enter Try.func91, Try.ntmps91
  go_wp2_with fail
  go_loopg [8] 1 (fun m v wr => ∃ i : Nat, (i = 1 ∨ i = 2) ∧ m = 2 - i ∧ v = .int .i64 i ∧ Below w.heap.size w wr)
  case atStart => exact ⟨1, .inl rfl, rfl, rfl, Below.refl _ _⟩
  case round =>
    obtain ⟨i, hi, rfl, rfl, hB⟩ := hrel
    obtain ⟨w1, rfl⟩ : ∃ x : World, x = wr := ⟨_, rfl⟩
    rcases hi with rfl | rfl
    · have c0 := (hB.cell (p := ⟨g, 0, none⟩) hg).trans h0
      have c1 := (hB.cell (p := ⟨g, 1, none⟩) hg).trans h1
      go_wp2_with fail
      go_loopg [9] 1 (fun m v wx => m = 1 ∧ v = .int .i64 1 ∧ wx = w1)
      case atStart => exact ⟨rfl, rfl, rfl⟩
      case round =>
        obtain ⟨hm, rfl, rfl⟩ := hrel
        replace hm := Lib.hid hm
        have iw : IntKind.i64.wrap (0 : Int) = 0 := by decide
        go_wp2_with fail
        go_still_tail 14, (by kernel_rfl)
        go_wp2_with (go_at_call 55; refine Calls.mono (hc.out _ hB.drew) ?_; rintro e w3 ⟨rfl, hB3⟩)
        go_roundg (2 - 2)
        case measure => omega
        case rel => exact ⟨2, .inr rfl, rfl, rfl, below_call hB.drew hB3 (Nat.le_refl _)⟩
    · go_wp2
      go_end0
      exact ⟨rfl, hB⟩
end Go.Proofs.Ytdilbcmnfpmijaa
