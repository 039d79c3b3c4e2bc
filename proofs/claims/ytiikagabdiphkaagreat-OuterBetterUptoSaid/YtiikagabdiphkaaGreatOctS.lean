/- state's readOuter at sixteen bytes, and writeOuter. Conditions: the reader's and the writer's blocks are the call's own. -/
import Derived.Test.YtiikagabdiphkaaGreatOctJ
namespace Go.Proofs.YtiikagabdiphkaaGreat
open Go.RowKit Go.Lo

/-- a body of another system's -/
abbrev outC (m k : Int) (t2 : Bool) (fw tg : Int) : Array Value := #[.int .u8 0, .slice none 0 0, .int .u32 m, .slice none 0 0, .int .u32 k, .bool t2, .int .u32 fw, .int .u32 tg, .slice none 0 0]

theorem nextS_in (bs : List Int) (a n : Nat) (h : a + n ≤ bs.length) : nextS bs a 0 n = (a + n, 0) := by
  unfold nextS
  rw [if_neg (by simp), if_neg (by omega)]
theorem nextB_in (bs : List Int) (a n : Nat) (h : a + n ≤ bs.length) : nextB bs a 0 n = (bs.drop a).take n := by
  unfold nextB
  rw [if_neg (by simp), if_neg (by omega)]

theorem Rd.far {w : World} {b : Nat} {bs : List Int} {a : Nat} {e : Int} (h : Rd w b bs a e) {p : Addr} (hp : b < p.block) (u : Value) : Rd (w.setCell p u) b bs a e := by
  exact h.below ((Below.refl (b + 1) w).setCell (p := p) hp u) (Nat.lt_succ_self b)

set_option maxRecDepth 100000 in
set_option maxHeartbeats 1000000 in
theorem readOuter_16 (b : Nat) (bs : List Int) (w : World) (h : Rd w b bs 0 0) (hn : bs.length = 16) (hl : ∀ x ∈ bs, 0 ≤ x ∧ x < 256) : Calls Tryz.prog 186 #[.pointer (some ⟨b, 0, none⟩)] w fun x w' =>
    x = .returned (.agg (outC (numB (bs.take 4)) (numB ((bs.drop 5).take 3)) (numB ((bs.drop 4).take 1) == 128) (numB ((bs.drop 8).take 4)) (numB ((bs.drop 12).take 4)))) ∧ Rd w' b bs 16 0 ∧ Below b w w' := by
  have hlt := h.lt
  have k0 : Blk (w.alloc (.cells (sumC 0 0) 93)) w.heap.size 93 (sumC 0 0) := Blk.new _ _ _
  have kB : Below w.heap.size w (w.alloc (.cells (sumC 0 0) 93)) := (Below.refl _ _).alloc (Nat.le_refl _) _
  have hR := h.below kB hlt
  have C1 := fun W h => rnum_any b bs 0 0 4 (by omega) (by omega) W h (by omega) hl
  have C2 := fun W h => rnum_any b bs 4 0 1 (by omega) (by omega) W h (by omega) hl
  have C3 := fun W h => rnum_any b bs 5 0 3 (by omega) (by omega) W h (by omega) hl
  have C4 := fun W h => rnum_any b bs 8 0 4 (by omega) (by omega) W h (by omega) hl
  have C5 := fun W h => rnum_any b bs 12 0 4 (by omega) (by omega) W h (by omega) hl
  simp only [nextS_in bs 0 4 (by omega), nextB_in bs 0 4 (by omega), List.drop_zero] at C1
  simp only [nextS_in bs 4 1 (by omega), nextB_in bs 4 1 (by omega)] at C2
  simp only [nextS_in bs 5 3 (by omega), nextB_in bs 5 3 (by omega)] at C3
  simp only [nextS_in bs 8 4 (by omega), nextB_in bs 8 4 (by omega)] at C4
  simp only [nextS_in bs 12 4 (by omega), nextB_in bs 12 4 (by omega)] at C5
  generalize numB (bs.take 4) = n1 at C1 ⊢
  generalize numB ((bs.drop 4).take 1) = n2 at C2 ⊢
  generalize numB ((bs.drop 5).take 3) = n3 at C3 ⊢
  generalize numB ((bs.drop 8).take 4) = n4 at C4 ⊢
  generalize numB ((bs.drop 12).take 4) = n5 at C5 ⊢
  replace C1 := Lib.hid C1
  replace C2 := Lib.hid C2
  replace C3 := Lib.hid C3
  replace C4 := Lib.hid C4
  replace C5 := Lib.hid C5
  clear h
  go_enter Tryz.func186, Tryz.ntmps186
  go_upto_region 1 with fail
  generalize w.alloc (.cells #[.int .u8 0, .slice none 0 0, .int .u32 0, .slice none 0 0, .int .u32 0, .bool false, .int .u32 0, .int .u32 0, .slice none 0 0] 93) = w0 at k0 kB hR ⊢
  go_upto_region 2 with (go_at_call 202; refine Calls.mono (C1.out _ hR) ?_; rintro x w1 ⟨rfl, hR1, hP1⟩)
  have j0 : Blk (w1.alloc (.cells (outC n1 0 false 0 0) 93)) w.heap.size 93 (sumC 0 0) := (Blk.put hP1 (by omega) k0).alloc _
  have j1 : Blk (w1.alloc (.cells (outC n1 0 false 0 0) 93)) w1.heap.size 93 (outC n1 0 false 0 0) := Blk.new _ _ _
  have jz := (Blk.put hP1 (by omega) k0).lt
  have jB0 : Below b w w1 := hP1.below (kB.mono (Nat.le_of_lt hlt)) (Nat.le_refl _)
  have jB : Below b w (w1.alloc (.cells (outC n1 0 false 0 0) 93)) := below_alloc jB0 (Nat.le_of_lt hlt) _
  have jR : Rd (w1.alloc (.cells (outC n1 0 false 0 0) 93)) b bs 4 0 := hR1.below ((Below.refl _ _).alloc (Nat.le_refl _) _) hR1.lt
  dsimp only [outC] at j0 j1 jB jR
  obtain ⟨g, hg⟩ : ∃ g, g = w1.heap.size := ⟨_, rfl⟩
  rw [← hg] at j1 jz ⊢
  generalize (w1.alloc (.cells #[.int .u8 0, .slice none 0 0, .int .u32 n1, .slice none 0 0, .int .u32 0, .bool false, .int .u32 0, .int .u32 0, .slice none 0 0] 93)) = w2 at j0 j1 jB jR ⊢
  clear hg jB0 hR1 hP1 C1 k0 kB hR
  go_upto_region 3 with (go_at_call 202; refine Calls.mono (C2.out _ jR) ?_; rintro x w3 ⟨rfl, jR3, hP3⟩; have j3 := Blk.put hP3 (by omega) j1; have f5 := j3.free 5; have y5 := j3.cell 5; simp only [List.getElem?_toArray, List.getElem?_cons_zero, List.getElem?_cons_succ] at y5)
  have k0 := (Blk.put hP3 (by omega) j0).far (p := ⟨g, 5, none⟩) (by simp; omega) (.bool (n2 == 128))
  have k1 := j3.set_ 5 (.bool (n2 == 128))
  have kB := (hP3.below jB (Nat.le_refl _)).setCell (p := ⟨g, 5, none⟩) (by simp; omega) (.bool (n2 == 128))
  have kR := jR3.far (p := ⟨g, 5, none⟩) (by simp; omega) (.bool (n2 == 128))
  simp only [List.setIfInBounds_toArray, List.set_cons_zero, List.set_cons_succ] at k1
  obtain ⟨t2, ht2⟩ : ∃ t, t = (n2 == 128) := ⟨_, rfl⟩
  rw [← ht2] at k0 k1 kB kR ⊢
  replace ht2 := Lib.hid ht2
  generalize w3.setCell ⟨g, 5, none⟩ (.bool t2) = w4 at k0 k1 kB kR ⊢
  clear f5 y5 j3 j0 j1 jB jR jR3 hP3 C2
  have C3' := C3.out _ kR
  go_upto_region 4 with (first
    | (have _q := hR6; go_at_call 202; refine Calls.mono (C5.out _ hR6) ?_; rintro x w7 ⟨rfl, hR7, hP7⟩; have j7 := Blk.put hP7 (by omega) (Blk.put hP6 (by omega) (Blk.put hP5 (by omega) k1)); have f4 := j7.free 4; have f6 := j7.free 6; have f7 := j7.free 7; have y4 := j7.cell 4; have y6 := j7.cell 6; have y7 := j7.cell 7; simp only [List.getElem?_toArray, List.getElem?_cons_zero, List.getElem?_cons_succ] at y4 y6 y7)
    | (have _q := hR5; go_at_call 202; refine Calls.mono (C4.out _ hR5) ?_; rintro x w6 ⟨rfl, hR6, hP6⟩)
    | (go_at_call 202; refine Calls.mono C3' ?_; rintro x w5 ⟨rfl, hR5, hP5⟩)
    | fail)
  have m1 := ((j7.set_ 4 (.int .u32 n3)).set_ 6 (.int .u32 n4)).set_ 7 (.int .u32 n5)
  simp only [List.setIfInBounds_toArray, List.set_cons_zero, List.set_cons_succ] at m1
  have q0 := Blk.put hP7 (by omega) (Blk.put hP6 (by omega) (Blk.put hP5 (by omega) k0))
  have m0 := ((q0.far (p := ⟨g, 4, none⟩) (by simp; omega) (.int .u32 n3)).far (p := ⟨g, 6, none⟩) (by simp; omega) (.int .u32 n4)).far (p := ⟨g, 7, none⟩) (by simp; omega) (.int .u32 n5)
  have mR := ((hR7.far (p := ⟨g, 4, none⟩) (by simp; omega) (.int .u32 n3)).far (p := ⟨g, 6, none⟩) (by simp; omega) (.int .u32 n4)).far (p := ⟨g, 7, none⟩) (by simp; omega) (.int .u32 n5)
  have qB := hP7.below (hP6.below (hP5.below kB (Nat.le_refl _)) (Nat.le_refl _)) (Nat.le_refl _)
  have mB := ((qB.setCell (p := ⟨g, 4, none⟩) (by simp; omega) (.int .u32 n3)).setCell (p := ⟨g, 6, none⟩) (by simp; omega) (.int .u32 n4)).setCell (p := ⟨g, 7, none⟩) (by simp; omega) (.int .u32 n5)
  generalize (((w7.setCell ⟨g, 4, none⟩ (.int .u32 n3)).setCell ⟨g, 6, none⟩ (.int .u32 n4)).setCell ⟨g, 7, none⟩ (.int .u32 n5)) = w8 at m1 m0 mR mB ⊢
  clear f4 f6 f7 y4 y6 y7 j7 q0 hR7 hP7 hP6 hP5 k0 k1 kB kR qB C3 C4 C5 C3' _q hR6 hR5
  go_wp2_with (first
    | (refine wpList_load_row rfl 93 (.tmp 3) rfl g rfl 93 (outC n1 n3 t2 n4 n5) (0, 0) _ m1 Tryz.underlying93 rfl (by kernel_rfl) ?_)
    | (refine wpList_store_row rfl 93 (.tmp 2) (.tmp 20) rfl w.heap.size (outC n1 n3 t2 n4 n5) rfl rfl 93 (sumC 0 0) m0 (by kernel_rfl) rfl (by simp [Value.oneCell']) ?_))
  have hset : Blk (w8.setRow w.heap.size (outC n1 n3 t2 n4 n5)) w.heap.size 93 (outC n1 n3 t2 n4 n5) := setRow_heap w8 w.heap.size (sumC 0 0) (outC n1 n3 t2 n4 n5) 93 (0, 0) m0
  have hB3 : Below w.heap.size w8 (w8.setRow w.heap.size (outC n1 n3 t2 n4 n5)) := ⟨rfl, rfl, rfl, by simp [World.setRow], fun k hk => setRow_other _ _ k _ (by omega)⟩
  refine bodyPost_ret (results_cell_row rfl _ _ w.heap.size 93 (outC n1 n3 t2 n4 n5) (0, 0) _ rfl hset Tryz.underlying93 rfl (by kernel_rfl)) rfl ?_
  exact ⟨by rw [ht2.out], mR.below hB3 hlt, mB.trans (hB3.mono (Nat.le_of_lt hlt))⟩
end Go.Proofs.YtiikagabdiphkaaGreat
