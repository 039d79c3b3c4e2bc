/- lodestarlaw20's known run answers true. No condition. -/
import Derived.Test.YtiikagabdiphkaaGreatOutH
import Derived.Test.YtiikagabdiphkaaGreatOutI
namespace Go.Proofs.YtiikagabdiphkaaGreat
open Go.RowKit Go.Lo

theorem sl_len {w : World} {B s n c m : Nat} {A : Option Addr} {xs : List Value} (h : Sl w B s (.slice A n c) m xs) : n = m := by
  obtain ⟨-, A7, c7, h7, -⟩ := h
  injection h7

theorem near20 (A : Option Addr) : pickP 5 [⟨⟨0, 0, 5, 2, 1, 0, 10, 0, 0⟩, A, 1, 1⟩] = (⟨⟨0, 0, 5, 2, 1, 0, 10, 0, 0⟩, A, 1, 1⟩, true) := by
  have h : countsR 5 ⟨0, 0, 5, 2, 1, 0, 10, 0, 0⟩ = true := by decide
  simp [pickP, pickStep, h]

set_option maxRecDepth 100000 in
set_option maxHeartbeats 2000000 in
theorem works20_any (w : World) : Calls Tryz.prog 36 #[] w fun e w' => e = .returned (.bool true) ∧ Below w.heap.size w w' := by
  have h0 : Blk ((w.alloc (.cells #[.int .u32 5, .int .u32 2, .bool false] 47)).alloc (.cells #[.int .u32 0, .int .u8 0, .int .u32 5, .int .u8 2, .int .u8 1, .int .u32 0, .int .u32 10, .int .u32 0, .int .u32 0, .slice (some ⟨w.heap.size, 0, none⟩) 1 1] 38)) w.heap.size 47 #[.int .u32 5, .int .u32 2, .bool false] := (Blk.new _ _ _).alloc _
  have h1 : Blk ((w.alloc (.cells #[.int .u32 5, .int .u32 2, .bool false] 47)).alloc (.cells #[.int .u32 0, .int .u8 0, .int .u32 5, .int .u8 2, .int .u8 1, .int .u32 0, .int .u32 10, .int .u32 0, .int .u32 0, .slice (some ⟨w.heap.size, 0, none⟩) 1 1] 38)) (w.heap.size + 1) 38 #[.int .u32 0, .int .u8 0, .int .u32 5, .int .u8 2, .int .u8 1, .int .u32 0, .int .u32 10, .int .u32 0, .int .u32 0, .slice (some ⟨w.heap.size, 0, none⟩) 1 1] := Blk.new_ _ (by simp)
  have hB0 : Below w.heap.size w ((w.alloc (.cells #[.int .u32 5, .int .u32 2, .bool false] 47)).alloc (.cells #[.int .u32 0, .int .u8 0, .int .u32 5, .int .u8 2, .int .u8 1, .int .u32 0, .int .u32 10, .int .u32 0, .int .u32 0, .slice (some ⟨w.heap.size, 0, none⟩) 1 1] 38)) := ((Below.refl _ _).alloc (Nat.le_refl _) _).alloc (by simp) _
  have hz0 : (((w.alloc (.cells #[.int .u32 5, .int .u32 2, .bool false] 47)).alloc (.cells #[.int .u32 0, .int .u8 0, .int .u32 5, .int .u8 2, .int .u8 1, .int .u32 0, .int .u32 10, .int .u32 0, .int .u32 0, .slice (some ⟨w.heap.size, 0, none⟩) 1 1] 38)) : World).heap.size = w.heap.size + 1 + 1 := by simp
  have hs0 : Sl ((w.alloc (.cells #[.int .u32 5, .int .u32 2, .bool false] 47)).alloc (.cells #[.int .u32 0, .int .u8 0, .int .u32 5, .int .u8 2, .int .u8 1, .int .u32 0, .int .u32 10, .int .u32 0, .int .u32 0, .slice (some ⟨w.heap.size, 0, none⟩) 1 1] 38)) (w.heap.size + 1 + 1) 3 (.slice (some ⟨w.heap.size, 0, none⟩) 1 1) 1 [.int .u32 5, .int .u32 2, .bool false] := ((Sl.lit w #[.int .u32 5, .int .u32 2, .bool false] 47 (by simp [maxLen]) rfl).alloc (by simp) _).more (by omega)
  have hs1 : Sl ((w.alloc (.cells #[.int .u32 5, .int .u32 2, .bool false] 47)).alloc (.cells #[.int .u32 0, .int .u8 0, .int .u32 5, .int .u8 2, .int .u8 1, .int .u32 0, .int .u32 10, .int .u32 0, .int .u32 0, .slice (some ⟨w.heap.size, 0, none⟩) 1 1] 38)) (w.heap.size + 1 + 1) 10 (.slice (some ⟨w.heap.size + 1, 0, none⟩) 1 1) 1 [.int .u32 0, .int .u8 0, .int .u32 5, .int .u8 2, .int .u8 1, .int .u32 0, .int .u32 10, .int .u32 0, .int .u32 0, .slice (some ⟨w.heap.size, 0, none⟩) 1 1] := by
    have := Sl.lit (w.alloc (.cells #[.int .u32 5, .int .u32 2, .bool false] 47)) (n := 1) (s := 10) #[.int .u32 0, .int .u8 0, .int .u32 5, .int .u8 2, .int .u8 1, .int .u32 0, .int .u32 10, .int .u32 0, .int .u32 0, .slice (some ⟨w.heap.size, 0, none⟩) 1 1] 38 (by simp [maxLen]) rfl
    simpa using this
  go_enter Tryz.func36, Tryz.ntmps36
  go_upto_region 2 with fail
  generalize ((w.alloc (.cells #[.int .u32 5, .int .u32 2, .bool false] 47)).alloc (.cells #[.int .u32 0, .int .u8 0, .int .u32 5, .int .u8 2, .int .u8 1, .int .u32 0, .int .u32 10, .int .u32 0, .int .u32 0, .slice (some ⟨w.heap.size, 0, none⟩) 1 1] 38)) = w0 at h0 h1 hB0 hz0 hs0 hs1 ⊢
  go_upto_region 3 with (first
    | (go_at_call 78; refine Calls.mono (one20_any _) ?_; rintro e w1 ⟨gs, A, bn, bc, rfl, hgs, ks, hbs, hB1⟩; obtain rfl := sl_len hbs; have CRo := Lib.hid (routes20_any [⟨⟨0, 0, 5, 2, 1, 0, 10, 0, 0⟩, some ⟨w.heap.size, 0, none⟩, 1, 1⟩] (.slice (some ⟨w.heap.size + 1, 0, none⟩) 1 1) (.slice none 0 0) (.slice (some ⟨A, 0, none⟩) 16 bc) w1.heap.size gs ⟨⟨0, 0, 5, 2, 1, 0, 10, 0, 0⟩, some ⟨w.heap.size, 0, none⟩, 1, 1⟩ [(5, 2, false)] w1 hbs ((hs1.below (hB1.mono (by omega))).more (by have := hB1.size; omega)) (Nat.le_refl _) (by simp) ks (near20 _) ((hs0.below (hB1.mono (by omega))).more (by have := hB1.size; omega)) (by simp) ⟨by show (0 : Int) ≤ 10; decide, by show (10 : Int) < 4294967290; decide⟩))
    | (go_at_call 46; refine Calls.mono CRo.out ?_; rintro e w2 ⟨gn, capn, x, rfl, hx, hon, hhn, hB2⟩))
  rw [show route20N ⟨0, 0, 5, 2, 1, 0, 10, 0, 0⟩ = ⟨335544320, 8, 0, 0, 3, 0, 13, 0, 9⟩ from rfl] at hx
  obtain ⟨xn, nA, nl, nc⟩ := x
  obtain rfl := sl_len hhn
  try dsimp only [List.length_cons, List.length_nil, Nat.zero_add] at *
  try dsimp only at hx
  subst hx
  have hz1 := hB1.size
  have hz2 := hB2.size
  have hBn : Below w.heap.size w w2 := (hB0.trans (hB1.mono hB0.size)).trans (hB2.mono (Nat.le_trans hB0.size hz1))
  clear CRo hbs ks hs0 hs1 h0 h1 hB1 hB2 hB0
  have hon2 := own_less hon (Nat.le_trans (by omega : w.heap.size ≤ w0.heap.size) hz1)
  have hsn := Sl.of_own hon
  have km : Blk (w2.alloc (.cells #[.int .u32 335544320, .int .u8 8, .int .u32 0, .int .u8 0, .int .u8 2, .int .u32 0, .int .u32 99, .int .u32 0, .int .u32 0, .slice none 0 0] 38)) w2.heap.size 38 #[.int .u32 335544320, .int .u8 8, .int .u32 0, .int .u8 0, .int .u8 2, .int .u32 0, .int .u32 99, .int .u32 0, .int .u32 0, .slice none 0 0] := Blk.new _ _ _
  have CMe := merge20_any [⟨⟨335544320, 8, 0, 0, 3, 0, 13, 0, 9⟩, nA, 1, nc⟩] [⟨⟨335544320, 8, 0, 0, 2, 0, 99, 0, 0⟩, none, 0, 0⟩] (.slice (some ⟨gn, 0, none⟩) 1 capn) (.slice (some ⟨w2.heap.size, 0, none⟩) 1 1) (w2.heap.size + 1) (w2.alloc (.cells #[.int .u32 335544320, .int .u8 8, .int .u32 0, .int .u8 0, .int .u8 2, .int .u32 0, .int .u32 99, .int .u32 0, .int .u32 0, .slice none 0 0] 38)) ((hsn.alloc (Nat.le_refl _) _).more (by omega)) (Sl.lit w2 #[.int .u32 335544320, .int .u8 8, .int .u32 0, .int .u8 0, .int .u8 2, .int .u32 0, .int .u32 99, .int .u32 0, .int .u32 0, .slice none 0 0] 38 (by simp [maxLen]) rfl) (by simp)
    (fun x hx => by
      simp only [List.cons_append, List.nil_append, List.mem_cons, List.not_mem_nil, or_false] at hx
      rcases hx with rfl | rfl
      · exact ⟨rfl, rfl, [(5, 2, false)], by simp, (hhn.alloc (Nat.le_refl _) _).more (by omega)⟩
      · exact ⟨rfl, rfl, [], by simp, Sl.nil _ _ _⟩) (by simp) (by simp)
    (fun k h h' hk => by
      simp only [List.cons_append, List.nil_append, List.length_cons, List.length_nil] at h
      obtain rfl : k = 1 := by omega
      show betterP ⟨335544320, 8, 0, 0, 2, 0, 99, 0, 0⟩ ⟨335544320, 8, 0, 0, 3, 0, 13, 0, 9⟩ = -1
      decide)
  replace CMe := Lib.hid CMe
  go_upto_region 4 with (go_at_call 42; refine Calls.mono CMe.out ?_; rintro e w4 ⟨gm, capm, y, hlt, rfl, hy, hom, hB4⟩)
  replace hy : y.n = ⟨335544320, 8, 0, 0, 2, 0, 99, 0, 0⟩ := hy
  obtain ⟨yn, mA, ml, mc⟩ := y
  try dsimp only at hy
  subst hy
  have hz4 := hB4.size
  simp at hz4
  have hon4 : w4.ownsRow w.heap.size 38 10 (.slice (some ⟨gn, 0, none⟩) 1 capn) 1 (wayL ⟨⟨335544320, 8, 0, 0, 3, 0, 13, 0, 9⟩, nA, 1, nc⟩) := own_below (own_alloc hon2 _) hB4
  have hB44 : Below w.heap.size w w4 := (hBn.alloc hBn.size (.cells #[.int .u32 335544320, .int .u8 8, .int .u32 0, .int .u8 0, .int .u8 2, .int .u32 0, .int .u32 99, .int .u32 0, .int .u32 0, .slice none 0 0] 38)).trans (hB4.mono (by have := hBn.size; simp; omega))
  clear CMe hsn km hon hon2 hhn hB4
  have hgn := hon4.lt gn rfl
  have hgm := hom.lt gm rfl
  have p0 : ∀ W, Below w4.heap.size w4 W → W.cell? ⟨gn, 0, none⟩ = some (.int .u32 335544320) := fun W h => (h.cell (p := ⟨gn, 0, none⟩) hgn.2).trans (hon4.cellAt 0 (by omega))
  have r0 : ∀ W, Below w4.heap.size w4 W → W.cell? ⟨gm, 0, none⟩ = some (.int .u32 335544320) := fun W h => (h.cell (p := ⟨gm, 0, none⟩) hgm.2).trans (hom.cellAt 0 (by omega))
  have p1 : ∀ W, Below w4.heap.size w4 W → W.cell? ⟨gn, 1, none⟩ = some (.int .u8 8) := fun W h => (h.cell (p := ⟨gn, 1, none⟩) hgn.2).trans (hon4.cellAt 1 (by omega))
  have r1 : ∀ W, Below w4.heap.size w4 W → W.cell? ⟨gm, 1, none⟩ = some (.int .u8 8) := fun W h => (h.cell (p := ⟨gm, 1, none⟩) hgm.2).trans (hom.cellAt 1 (by omega))
  have p2 : ∀ W, Below w4.heap.size w4 W → W.cell? ⟨gn, 2, none⟩ = some (.int .u32 0) := fun W h => (h.cell (p := ⟨gn, 2, none⟩) hgn.2).trans (hon4.cellAt 2 (by omega))
  have r2 : ∀ W, Below w4.heap.size w4 W → W.cell? ⟨gm, 2, none⟩ = some (.int .u32 0) := fun W h => (h.cell (p := ⟨gm, 2, none⟩) hgm.2).trans (hom.cellAt 2 (by omega))
  have p3 : ∀ W, Below w4.heap.size w4 W → W.cell? ⟨gn, 3, none⟩ = some (.int .u8 0) := fun W h => (h.cell (p := ⟨gn, 3, none⟩) hgn.2).trans (hon4.cellAt 3 (by omega))
  have r3 : ∀ W, Below w4.heap.size w4 W → W.cell? ⟨gm, 3, none⟩ = some (.int .u8 0) := fun W h => (h.cell (p := ⟨gm, 3, none⟩) hgm.2).trans (hom.cellAt 3 (by omega))
  have p4 : ∀ W, Below w4.heap.size w4 W → W.cell? ⟨gn, 4, none⟩ = some (.int .u8 3) := fun W h => (h.cell (p := ⟨gn, 4, none⟩) hgn.2).trans (hon4.cellAt 4 (by omega))
  have r4 : ∀ W, Below w4.heap.size w4 W → W.cell? ⟨gm, 4, none⟩ = some (.int .u8 2) := fun W h => (h.cell (p := ⟨gm, 4, none⟩) hgm.2).trans (hom.cellAt 4 (by omega))
  have p5 : ∀ W, Below w4.heap.size w4 W → W.cell? ⟨gn, 5, none⟩ = some (.int .u32 0) := fun W h => (h.cell (p := ⟨gn, 5, none⟩) hgn.2).trans (hon4.cellAt 5 (by omega))
  have r5 : ∀ W, Below w4.heap.size w4 W → W.cell? ⟨gm, 5, none⟩ = some (.int .u32 0) := fun W h => (h.cell (p := ⟨gm, 5, none⟩) hgm.2).trans (hom.cellAt 5 (by omega))
  have p6 : ∀ W, Below w4.heap.size w4 W → W.cell? ⟨gn, 6, none⟩ = some (.int .u32 13) := fun W h => (h.cell (p := ⟨gn, 6, none⟩) hgn.2).trans (hon4.cellAt 6 (by omega))
  have r6 : ∀ W, Below w4.heap.size w4 W → W.cell? ⟨gm, 6, none⟩ = some (.int .u32 99) := fun W h => (h.cell (p := ⟨gm, 6, none⟩) hgm.2).trans (hom.cellAt 6 (by omega))
  have p7 : ∀ W, Below w4.heap.size w4 W → W.cell? ⟨gn, 7, none⟩ = some (.int .u32 0) := fun W h => (h.cell (p := ⟨gn, 7, none⟩) hgn.2).trans (hon4.cellAt 7 (by omega))
  have r7 : ∀ W, Below w4.heap.size w4 W → W.cell? ⟨gm, 7, none⟩ = some (.int .u32 0) := fun W h => (h.cell (p := ⟨gm, 7, none⟩) hgm.2).trans (hom.cellAt 7 (by omega))
  have p8 : ∀ W, Below w4.heap.size w4 W → W.cell? ⟨gn, 8, none⟩ = some (.int .u32 9) := fun W h => (h.cell (p := ⟨gn, 8, none⟩) hgn.2).trans (hon4.cellAt 8 (by omega))
  have r8 : ∀ W, Below w4.heap.size w4 W → W.cell? ⟨gm, 8, none⟩ = some (.int .u32 0) := fun W h => (h.cell (p := ⟨gm, 8, none⟩) hgm.2).trans (hom.cellAt 8 (by omega))
  have p9 : ∀ W, Below w4.heap.size w4 W → W.cell? ⟨gn, 9, none⟩ = some (.slice nA 1 nc) := fun W h => (h.cell (p := ⟨gn, 9, none⟩) hgn.2).trans (hon4.cellAt 9 (by omega))
  have r9 : ∀ W, Below w4.heap.size w4 W → W.cell? ⟨gm, 9, none⟩ = some (.slice mA ml mc) := fun W h => (h.cell (p := ⟨gm, 9, none⟩) hgm.2).trans (hom.cellAt 9 (by omega))
  have CBt := fun W => better_any ⟨335544320, 8, 0, 0, 2, 0, 99, 0, 0⟩ ⟨335544320, 8, 0, 0, 3, 0, 13, 0, 9⟩ (.slice mA ml mc) (.slice nA 1 nc) W
  rw [show betterP ⟨335544320, 8, 0, 0, 2, 0, 99, 0, 0⟩ ⟨335544320, 8, 0, 0, 3, 0, 13, 0, 9⟩ = -1 from by decide] at CBt
  dsimp only [wayC] at CBt
  replace CBt := Lib.hid CBt
  replace hz4 := Lib.hid hz4
  clear hgn hgm hon4 hom
  go_region_held3 (fun W => Below w4.heap.size w4 W) (first | assumption | exact (Below.refl _ _).drew | exact Below.refl _ _ | fail)
    (first
      | (go_at_call 38; with_reducible refine Calls.mono (CBt.out _) ?_; rintro e w5 ⟨rfl, hB5⟩; have hS5 := below_call (B := w4.heap.size) (a := w4) (by first | assumption | exact (Below.refl _ _).drew) hB5 (Nat.le_refl _))
      | fail)
  all_goals
    go_wp2
    go_ret
    exact ⟨rfl, hB44.trans (hS5.mono hB44.size)⟩
end Go.Proofs.YtiikagabdiphkaaGreat
