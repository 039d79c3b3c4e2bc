/- lodestarlaw23's works, from whatever world: it answers true. No condition. -/
import Derived.Test.YtdilbcmnfpmijaaBorH
namespace Go.Proofs.Ytdilbcmnfpmijaa
open Go.RowKit Go.Lo

abbrev idsP : Array Value := #[.int .u32 167772160, .int .u8 8, .int .u32 167772160, .int .u8 16]

set_option maxRecDepth 100000 in
set_option maxHeartbeats 2000000 in
theorem works23_any (w : World) : Calls Try.prog 27 #[] w fun e w' => e = .returned (.bool true) ∧ Below w.heap.size w w' := by
  have kp := Blk.new w 46 idsP
  have hB0 : Below w.heap.size w (w.alloc (.cells idsP 46)) := (Below.refl _ _).alloc (Nat.le_refl _) _
  have p0 := kp.cell 0
  have p1 := kp.cell 1
  have p2 := kp.cell 2
  have p3 := kp.cell 3
  simp only [List.getElem?_toArray, List.getElem?_cons_zero, List.getElem?_cons_succ] at p0 p1 p2 p3
  have CI := Lib.hid (ids_any w.heap.size (w.alloc (.cells idsP 46)) (by simp) p0 p1 p2 p3)
  clear p0 p1 p2 p3 kp
  go_enter Try.func27, Try.ntmps27
  go_upto_region 2 with (go_at_call 38; refine Calls.mono CI.out ?_; rintro e w1 ⟨bi, bs, rfl, ki, ks, hB1⟩)
  clear CI
  have hB := below_call hB0 hB1 (Nat.le_refl _)
  clear hB0 hB1
  replace ki := Lib.hid ki
  replace ks := Lib.hid ks
  have hn : Blk (((w1.alloc (.cells wayC 83)).alloc (.cells rangeC 114)).alloc (.cells (areaC (.slice (some ⟨w1.heap.size + 1, 0, none⟩) 1 1)) 117)) w1.heap.size 83 wayC := ((Blk.new _ _ _).alloc _).alloc _
  have hr : Blk (((w1.alloc (.cells wayC 83)).alloc (.cells rangeC 114)).alloc (.cells (areaC (.slice (some ⟨w1.heap.size + 1, 0, none⟩) 1 1)) 117)) (w1.heap.size + 1) 114 rangeC := Blk.alloc (heap_alloc2_new w1 _ _) _
  have ha : Blk (((w1.alloc (.cells wayC 83)).alloc (.cells rangeC 114)).alloc (.cells (areaC (.slice (some ⟨w1.heap.size + 1, 0, none⟩) 1 1)) 117)) (w1.heap.size + 1 + 1) 117 (areaC (.slice (some ⟨w1.heap.size + 1, 0, none⟩) 1 1)) := Blk.new_ _ (by simp)
  have hA : Below w1.heap.size w1 (((w1.alloc (.cells wayC 83)).alloc (.cells rangeC 114)).alloc (.cells (areaC (.slice (some ⟨w1.heap.size + 1, 0, none⟩) 1 1)) 117)) := (((Below.refl _ _).alloc (Nat.le_refl _) _).alloc (by simp) _).alloc (by simp; omega) _
  have CR := Lib.hid (ranged_known w1.heap.size (w1.heap.size + 1 + 1) (w1.heap.size + 1) _ hn ha hr)
  clear hn hr ha
  go_upto_region 3 with (go_at_call 39; refine Calls.mono CR.out ?_; rintro e w2 ⟨v, rfl, ho, hB2⟩)
  obtain ⟨g, cp, rfl, hg, hgl⟩ := ho.form (by omega)
  have q0 : w2.cell? ⟨g, 1, none⟩ = some (.int .u8 8) := ho.cellAt 1 (by omega)
  have q1 : w2.cell? ⟨g, 6, none⟩ = some (.int .u32 3) := ho.cellAt 6 (by omega)
  have hB3 : Below w1.heap.size w1 w2 := below_call hA hB2 (Nat.le_refl _)
  have ki2 := Blk.call hB3 ki.out
  have ks2 := Blk.call hB3 ks.out
  have i0 := ki2.cell 0
  have i1 := ki2.cell 1
  have s0 := ks2.cell 0
  have s1 := ks2.cell 1
  simp only [idsC, flagsC, List.getElem?_toArray, List.getElem?_cons_zero, List.getElem?_cons_succ] at i0 i1 s0 s1
  have hBe := below_call hB hB3 (Nat.le_refl _)
  clear ho hB2 hA CR ki2 ks2 ki ks
  go_wp2
  go_ret
  exact ⟨rfl, hBe⟩
end Go.Proofs.Ytdilbcmnfpmijaa
