/- state.formOf at another system's types. Conditions: none. -/
import Derived.Test.YtiikagabdiphkaaGreatOctI
namespace Go.Proofs.YtiikagabdiphkaaGreat
open Go.RowKit Go.Lo

set_option maxRecDepth 100000 in
theorem formOf57 (t : Nat) (ht : t = 5 ∨ t = 7) (w : World) : Calls Tryz.prog 105 #[.int .u8 t] w fun x w' => x = .returned (.agg #[.func (.func 185) #[] #[], .func (.func 186) #[] #[]]) ∧ Below w.heap.size w w' := by
  rcases ht with rfl | rfl
  · have q0 : Blk (w.alloc (.cells #[.nilFunc, .nilFunc] 181)) w.heap.size 181 #[.nilFunc, .nilFunc] := Blk.new _ _ _
    have qB : Below w.heap.size w (w.alloc (.cells #[.nilFunc, .nilFunc] 181)) := (Below.refl _ _).alloc (Nat.le_refl _) _
    have hwz : w.heap.size < (w.alloc (.cells #[.nilFunc, .nilFunc] 181)).heap.size := by simp
    go_enter Tryz.func105, Tryz.ntmps105
    go_upto_region 2 with (first
      | (go_at_call 144; refine Calls.mono (forms_any _) ?_; rintro x w1 ⟨rfl, hB1⟩)
      | (refine wpList_store_row rfl 222 (.tmp 3) (.tmp 4) rfl w1.heap.size formsC rfl rfl 222 formsZ (Blk.new w1 222 formsZ) (by kernel_rfl) rfl (by simp [formsC, Value.oneCell']) ?_)
      | fail)
    have hset : Blk ((w1.alloc (.cells formsZ 222)).setRow w1.heap.size formsC) w1.heap.size 222 formsC := setRow_heap (w1.alloc (.cells formsZ 222)) w1.heap.size formsZ formsC 222 (0, 0) (Blk.new w1 222 formsZ)
    have hB2 : Below w1.heap.size w1 ((w1.alloc (.cells formsZ 222)).setRow w1.heap.size formsC) := ((Below.refl _ _).alloc (Nat.le_refl _) _).trans ⟨rfl, rfl, rfl, by simp [World.setRow], fun k hk => setRow_other _ _ k _ (by omega)⟩
    have q2 := Blk.call hB2 (Blk.call hB1 q0)
    have hBt := below_call (below_call qB hB1 (Nat.le_refl _)) hB2 (Nat.le_refl _)
    have hz := hB1.size
    clear q0 qB hB1 hB2
    generalize (w1.alloc (.cells formsZ 222)).setRow w1.heap.size formsC = w2 at hset q2 hBt ⊢
    generalize w1.heap.size = g at hset hz ⊢
    have c0 : w2.cell? ⟨g, 10, none⟩ = some (.func (.func 185) #[] #[]) := hset.cell 10
    have c1 : w2.cell? ⟨g, 11, none⟩ = some (.func (.func 186) #[] #[]) := hset.cell 11
    have r0 := q2.cell 0
    have r1 := q2.cell 1
    have f0 := q2.free 0
    have f1 := q2.free 1
    simp only [List.getElem?_toArray, List.getElem?_cons_zero, List.getElem?_cons_succ] at r0 r1
    have K := (q2.set_ 0 (.func (.func 185) #[] #[])).set_ 1 (.func (.func 186) #[] #[])
    simp only [List.setIfInBounds_toArray, List.set_cons_zero, List.set_cons_succ] at K
    replace K := Lib.hid K
    have he : ∀ W, (binOp .eql 178 (.func (.func 185) #[] #[]) .nilFunc).run Tryz.prog W = .ok (.bool false) W := fun W => by kernel_rfl
    clear hset q2 hz hwz
    go_wp2
    refine bodyPost_ret (results_cell_row rfl _ _ w.heap.size 181 #[.func (.func 185) #[] #[], .func (.func 186) #[] #[]] (0, 0) _ rfl K.out Tryz.underlying181 rfl (by kernel_rfl)) rfl ?_
    exact ⟨rfl, (hBt.setCell (p := ⟨w.heap.size, 0, none⟩) (Nat.le_refl _) _).setCell (p := ⟨w.heap.size, 1, none⟩) (Nat.le_refl _) _⟩
  · have q0 : Blk (w.alloc (.cells #[.nilFunc, .nilFunc] 181)) w.heap.size 181 #[.nilFunc, .nilFunc] := Blk.new _ _ _
    have qB : Below w.heap.size w (w.alloc (.cells #[.nilFunc, .nilFunc] 181)) := (Below.refl _ _).alloc (Nat.le_refl _) _
    have hwz : w.heap.size < (w.alloc (.cells #[.nilFunc, .nilFunc] 181)).heap.size := by simp
    go_enter Tryz.func105, Tryz.ntmps105
    go_upto_region 2 with (first
      | (go_at_call 144; refine Calls.mono (forms_any _) ?_; rintro x w1 ⟨rfl, hB1⟩)
      | (refine wpList_store_row rfl 222 (.tmp 3) (.tmp 4) rfl w1.heap.size formsC rfl rfl 222 formsZ (Blk.new w1 222 formsZ) (by kernel_rfl) rfl (by simp [formsC, Value.oneCell']) ?_)
      | fail)
    have hset : Blk ((w1.alloc (.cells formsZ 222)).setRow w1.heap.size formsC) w1.heap.size 222 formsC := setRow_heap (w1.alloc (.cells formsZ 222)) w1.heap.size formsZ formsC 222 (0, 0) (Blk.new w1 222 formsZ)
    have hB2 : Below w1.heap.size w1 ((w1.alloc (.cells formsZ 222)).setRow w1.heap.size formsC) := ((Below.refl _ _).alloc (Nat.le_refl _) _).trans ⟨rfl, rfl, rfl, by simp [World.setRow], fun k hk => setRow_other _ _ k _ (by omega)⟩
    have q2 := Blk.call hB2 (Blk.call hB1 q0)
    have hBt := below_call (below_call qB hB1 (Nat.le_refl _)) hB2 (Nat.le_refl _)
    have hz := hB1.size
    clear q0 qB hB1 hB2
    generalize (w1.alloc (.cells formsZ 222)).setRow w1.heap.size formsC = w2 at hset q2 hBt ⊢
    generalize w1.heap.size = g at hset hz ⊢
    have c0 : w2.cell? ⟨g, 14, none⟩ = some (.func (.func 185) #[] #[]) := hset.cell 14
    have c1 : w2.cell? ⟨g, 15, none⟩ = some (.func (.func 186) #[] #[]) := hset.cell 15
    have r0 := q2.cell 0
    have r1 := q2.cell 1
    have f0 := q2.free 0
    have f1 := q2.free 1
    simp only [List.getElem?_toArray, List.getElem?_cons_zero, List.getElem?_cons_succ] at r0 r1
    have K := (q2.set_ 0 (.func (.func 185) #[] #[])).set_ 1 (.func (.func 186) #[] #[])
    simp only [List.setIfInBounds_toArray, List.set_cons_zero, List.set_cons_succ] at K
    replace K := Lib.hid K
    have he : ∀ W, (binOp .eql 178 (.func (.func 185) #[] #[]) .nilFunc).run Tryz.prog W = .ok (.bool false) W := fun W => by kernel_rfl
    clear hset q2 hz hwz
    go_wp2
    refine bodyPost_ret (results_cell_row rfl _ _ w.heap.size 181 #[.func (.func 185) #[] #[], .func (.func 186) #[] #[]] (0, 0) _ rfl K.out Tryz.underlying181 rfl (by kernel_rfl)) rfl ?_
    exact ⟨rfl, (hBt.setCell (p := ⟨w.heap.size, 0, none⟩) (Nat.le_refl _) _).setCell (p := ⟨w.heap.size, 1, none⟩) (Nat.le_refl _) _⟩
end Go.Proofs.YtiikagabdiphkaaGreat
