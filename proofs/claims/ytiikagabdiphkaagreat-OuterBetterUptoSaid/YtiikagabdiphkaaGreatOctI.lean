/- octet.Read, and a type's form. Conditions: the bytes lie in memory. -/
import Derived.Test.YtiikagabdiphkaaGreatOctH
import Derived.Laws.EntriesVeiled
namespace Go.Proofs.YtiikagabdiphkaaGreat
open Go.RowKit Go.Lo

set_option maxRecDepth 100000 in
theorem rread_any (B : Nat) (bv : Value) (bs : List Int) (w : World) (hx : Sl w B 1 bv bs.length (bs.map u8c)) (hB : B ≤ w.heap.size) (hn : bs.length ≤ 140737488355328) :
    Calls Tryz.prog 106 #[bv] w fun x w' => ∃ b, x = .returned (.pointer (some ⟨b, 0, none⟩)) ∧ w.heap.size ≤ b ∧ Rd w' b bs 0 0 ∧ Below w.heap.size w w' := by
  have CC := Lib.hid (clone8_any B bv bs w hx hB hn)
  obtain ⟨-, A, c, rfl, -⟩ := hx
  go_enter Tryz.func106, Tryz.ntmps106
  go_wp2_with (go_at_call 145; refine Calls.mono CC.out ?_; rintro x w1 ⟨v, rfl, ho, hB1⟩; obtain ⟨-, A1, c1, rfl, -⟩ := Sl.of_own ho)
  go_ret
  have hk := Blk.new w1 225 #[.slice A1 bs.length c1, .int .i64 0, .int .i64 0, .bool true]
  exact ⟨_, rfl, hB1.size, ⟨Nat.zero_le _, _, hk, (Sl.of_own ho).alloc (Nat.le_refl _) _⟩, hB1.alloc hB1.size _⟩

abbrev fnV (f : FuncId) : Value := .func (.func f) #[] #[]
/-- by type: how it is written, how it is read -/
def formsC : Array Value := #[.nilFunc, .nilFunc, fnV 179, fnV 180, fnV 181, fnV 182, fnV 183, fnV 184, fnV 183, fnV 184,
  fnV 185, fnV 186, .nilFunc, .nilFunc, fnV 185, fnV 186, .nilFunc, .nilFunc, fnV 187, fnV 188, fnV 187, fnV 188, fnV 187, fnV 188]

abbrev formsZ : Array Value := #[.nilFunc, .nilFunc, .nilFunc, .nilFunc, .nilFunc, .nilFunc, .nilFunc, .nilFunc, .nilFunc, .nilFunc, .nilFunc, .nilFunc, .nilFunc, .nilFunc, .nilFunc, .nilFunc, .nilFunc, .nilFunc, .nilFunc, .nilFunc, .nilFunc, .nilFunc, .nilFunc, .nilFunc]

set_option maxRecDepth 100000 in
theorem forms_any (w : World) : Calls Tryz.prog 144 #[] w fun x w' => x = .returned (.agg formsC) ∧ Below w.heap.size w w' := by
  have hk : Blk (w.alloc (.cells formsZ 222)) w.heap.size 222 formsZ := Blk.new _ _ _
  have hB : Below w.heap.size w (w.alloc (.cells formsZ 222)) := (Below.refl _ _).alloc (Nat.le_refl _) _
  have hset := setRow_heap (w.alloc (.cells formsZ 222)) w.heap.size formsZ formsC 222 (0, 0) hk
  go_enter Tryz.func144, Tryz.ntmps144
  go_wp2_with (refine wpList_store_row rfl 222 (.tmp 0) (.tmp 10) rfl w.heap.size formsC rfl rfl 222 formsZ hk (by kernel_rfl) rfl (by simp [formsC, Value.oneCell']) ?_)
  refine bodyPost_ret (results_cell_row rfl _ _ w.heap.size 222 formsC (0, 0) _ rfl (by first | exact hset | exact hk) Tryz.underlying222 rfl (by kernel_rfl)) rfl ?_
  exact ⟨rfl, hB.trans ⟨rfl, rfl, rfl, by simp [World.setRow], fun k hk => setRow_other _ _ k _ (by omega)⟩⟩

/-- the error that is thrown -/
def thrown (k : Int) : Ending := .panicked [{ v := .iface 56 (.int .i64 k), recovered := false }]

set_option maxRecDepth 100000 in
theorem formOf_any (t : Nat) (ht : t = 1 ∨ t = 2 ∨ t = 3 ∨ t = 4) (w : World) : Calls Tryz.prog 105 #[.int .u8 t] w fun x w' => x = .returned (.agg #[formsC.getD (2 * t) undef, formsC.getD (2 * t + 1) undef]) ∧ Below w.heap.size w w' := by
  rcases ht with rfl | rfl | rfl | rfl
  · have q0 : Blk (w.alloc (.cells #[.nilFunc, .nilFunc] 181)) w.heap.size 181 #[.nilFunc, .nilFunc] := Blk.new _ _ _
    have qB : Below w.heap.size w (w.alloc (.cells #[.nilFunc, .nilFunc] 181)) := (Below.refl _ _).alloc (Nat.le_refl _) _
    have hwz : w.heap.size < (w.alloc (.cells #[.nilFunc, .nilFunc] 181)).heap.size := by simp
    go_enter Tryz.func105, Tryz.ntmps105
    go_upto_region 2 with (first
      | (go_at_call 144; refine Calls.mono (forms_any _) ?_; rintro x w1 ⟨rfl, hB1⟩)
      | (refine wpList_store_row rfl 222 (.tmp 3) (.tmp 4) rfl w1.heap.size formsC rfl rfl 222 formsZ (Blk.new w1 222 formsZ) (by kernel_rfl) rfl (by simp [formsC, Value.oneCell']) ?_)
      | fail)
    have hset : Blk ((w1.alloc (.cells formsZ 222)).setRow w1.heap.size formsC) w1.heap.size 222 formsC := setRow_heap (w1.alloc (.cells formsZ 222)) w1.heap.size formsZ formsC 222 (0, 0) (Blk.new w1 222 formsZ)
    have hB2 : Below w1.heap.size w1 ((w1.alloc (.cells formsZ 222)).setRow w1.heap.size formsC) := ((Below.refl _ _).alloc (Nat.le_refl _) _).trans ⟨rfl, rfl, rfl, by simp [World.setRow], fun k hk => setRow_other _ _ k _ (by omega)⟩
    have q2 := Blk.call hB2 (Blk.call hB1 q0)
    have hBt := below_call (below_call qB hB1 (Nat.le_refl _)) hB2 (Nat.le_refl _)
    have hz := hB1.size
    clear q0 qB hB1 hB2
    generalize (w1.alloc (.cells formsZ 222)).setRow w1.heap.size formsC = w2 at hset q2 hBt ⊢
    generalize w1.heap.size = g at hset hz ⊢
    have c0 : w2.cell? ⟨g, 2, none⟩ = some (.func (.func 179) #[] #[]) := hset.cell 2
    have c1 : w2.cell? ⟨g, 3, none⟩ = some (.func (.func 180) #[] #[]) := hset.cell 3
    have r0 := q2.cell 0
    have r1 := q2.cell 1
    have f0 := q2.free 0
    have f1 := q2.free 1
    simp only [List.getElem?_toArray, List.getElem?_cons_zero, List.getElem?_cons_succ] at r0 r1
    have K := (q2.set_ 0 (.func (.func 179) #[] #[])).set_ 1 (.func (.func 180) #[] #[])
    simp only [List.setIfInBounds_toArray, List.set_cons_zero, List.set_cons_succ] at K
    replace K := Lib.hid K
    have he : ∀ W, (binOp .eql 178 (.func (.func 179) #[] #[]) .nilFunc).run Tryz.prog W = .ok (.bool false) W := fun W => by kernel_rfl
    clear hset q2 hz hwz
    go_wp2
    refine bodyPost_ret (results_cell_row rfl _ _ w.heap.size 181 #[.func (.func 179) #[] #[], .func (.func 180) #[] #[]] (0, 0) _ rfl K.out Tryz.underlying181 rfl (by kernel_rfl)) rfl ?_
    exact ⟨rfl, (hBt.setCell (p := ⟨w.heap.size, 0, none⟩) (Nat.le_refl _) _).setCell (p := ⟨w.heap.size, 1, none⟩) (Nat.le_refl _) _⟩
  · have q0 : Blk (w.alloc (.cells #[.nilFunc, .nilFunc] 181)) w.heap.size 181 #[.nilFunc, .nilFunc] := Blk.new _ _ _
    have qB : Below w.heap.size w (w.alloc (.cells #[.nilFunc, .nilFunc] 181)) := (Below.refl _ _).alloc (Nat.le_refl _) _
    have hwz : w.heap.size < (w.alloc (.cells #[.nilFunc, .nilFunc] 181)).heap.size := by simp
    go_enter Tryz.func105, Tryz.ntmps105
    go_upto_region 2 with (first
      | (go_at_call 144; refine Calls.mono (forms_any _) ?_; rintro x w1 ⟨rfl, hB1⟩)
      | (refine wpList_store_row rfl 222 (.tmp 3) (.tmp 4) rfl w1.heap.size formsC rfl rfl 222 formsZ (Blk.new w1 222 formsZ) (by kernel_rfl) rfl (by simp [formsC, Value.oneCell']) ?_)
      | fail)
    have hset : Blk ((w1.alloc (.cells formsZ 222)).setRow w1.heap.size formsC) w1.heap.size 222 formsC := setRow_heap (w1.alloc (.cells formsZ 222)) w1.heap.size formsZ formsC 222 (0, 0) (Blk.new w1 222 formsZ)
    have hB2 : Below w1.heap.size w1 ((w1.alloc (.cells formsZ 222)).setRow w1.heap.size formsC) := ((Below.refl _ _).alloc (Nat.le_refl _) _).trans ⟨rfl, rfl, rfl, by simp [World.setRow], fun k hk => setRow_other _ _ k _ (by omega)⟩
    have q2 := Blk.call hB2 (Blk.call hB1 q0)
    have hBt := below_call (below_call qB hB1 (Nat.le_refl _)) hB2 (Nat.le_refl _)
    have hz := hB1.size
    clear q0 qB hB1 hB2
    generalize (w1.alloc (.cells formsZ 222)).setRow w1.heap.size formsC = w2 at hset q2 hBt ⊢
    generalize w1.heap.size = g at hset hz ⊢
    have c0 : w2.cell? ⟨g, 4, none⟩ = some (.func (.func 181) #[] #[]) := hset.cell 4
    have c1 : w2.cell? ⟨g, 5, none⟩ = some (.func (.func 182) #[] #[]) := hset.cell 5
    have r0 := q2.cell 0
    have r1 := q2.cell 1
    have f0 := q2.free 0
    have f1 := q2.free 1
    simp only [List.getElem?_toArray, List.getElem?_cons_zero, List.getElem?_cons_succ] at r0 r1
    have K := (q2.set_ 0 (.func (.func 181) #[] #[])).set_ 1 (.func (.func 182) #[] #[])
    simp only [List.setIfInBounds_toArray, List.set_cons_zero, List.set_cons_succ] at K
    replace K := Lib.hid K
    have he : ∀ W, (binOp .eql 178 (.func (.func 181) #[] #[]) .nilFunc).run Tryz.prog W = .ok (.bool false) W := fun W => by kernel_rfl
    clear hset q2 hz hwz
    go_wp2
    refine bodyPost_ret (results_cell_row rfl _ _ w.heap.size 181 #[.func (.func 181) #[] #[], .func (.func 182) #[] #[]] (0, 0) _ rfl K.out Tryz.underlying181 rfl (by kernel_rfl)) rfl ?_
    exact ⟨rfl, (hBt.setCell (p := ⟨w.heap.size, 0, none⟩) (Nat.le_refl _) _).setCell (p := ⟨w.heap.size, 1, none⟩) (Nat.le_refl _) _⟩
  · have q0 : Blk (w.alloc (.cells #[.nilFunc, .nilFunc] 181)) w.heap.size 181 #[.nilFunc, .nilFunc] := Blk.new _ _ _
    have qB : Below w.heap.size w (w.alloc (.cells #[.nilFunc, .nilFunc] 181)) := (Below.refl _ _).alloc (Nat.le_refl _) _
    have hwz : w.heap.size < (w.alloc (.cells #[.nilFunc, .nilFunc] 181)).heap.size := by simp
    go_enter Tryz.func105, Tryz.ntmps105
    go_upto_region 2 with (first
      | (go_at_call 144; refine Calls.mono (forms_any _) ?_; rintro x w1 ⟨rfl, hB1⟩)
      | (refine wpList_store_row rfl 222 (.tmp 3) (.tmp 4) rfl w1.heap.size formsC rfl rfl 222 formsZ (Blk.new w1 222 formsZ) (by kernel_rfl) rfl (by simp [formsC, Value.oneCell']) ?_)
      | fail)
    have hset : Blk ((w1.alloc (.cells formsZ 222)).setRow w1.heap.size formsC) w1.heap.size 222 formsC := setRow_heap (w1.alloc (.cells formsZ 222)) w1.heap.size formsZ formsC 222 (0, 0) (Blk.new w1 222 formsZ)
    have hB2 : Below w1.heap.size w1 ((w1.alloc (.cells formsZ 222)).setRow w1.heap.size formsC) := ((Below.refl _ _).alloc (Nat.le_refl _) _).trans ⟨rfl, rfl, rfl, by simp [World.setRow], fun k hk => setRow_other _ _ k _ (by omega)⟩
    have q2 := Blk.call hB2 (Blk.call hB1 q0)
    have hBt := below_call (below_call qB hB1 (Nat.le_refl _)) hB2 (Nat.le_refl _)
    have hz := hB1.size
    clear q0 qB hB1 hB2
    generalize (w1.alloc (.cells formsZ 222)).setRow w1.heap.size formsC = w2 at hset q2 hBt ⊢
    generalize w1.heap.size = g at hset hz ⊢
    have c0 : w2.cell? ⟨g, 6, none⟩ = some (.func (.func 183) #[] #[]) := hset.cell 6
    have c1 : w2.cell? ⟨g, 7, none⟩ = some (.func (.func 184) #[] #[]) := hset.cell 7
    have r0 := q2.cell 0
    have r1 := q2.cell 1
    have f0 := q2.free 0
    have f1 := q2.free 1
    simp only [List.getElem?_toArray, List.getElem?_cons_zero, List.getElem?_cons_succ] at r0 r1
    have K := (q2.set_ 0 (.func (.func 183) #[] #[])).set_ 1 (.func (.func 184) #[] #[])
    simp only [List.setIfInBounds_toArray, List.set_cons_zero, List.set_cons_succ] at K
    replace K := Lib.hid K
    have he : ∀ W, (binOp .eql 178 (.func (.func 183) #[] #[]) .nilFunc).run Tryz.prog W = .ok (.bool false) W := fun W => by kernel_rfl
    clear hset q2 hz hwz
    go_wp2
    refine bodyPost_ret (results_cell_row rfl _ _ w.heap.size 181 #[.func (.func 183) #[] #[], .func (.func 184) #[] #[]] (0, 0) _ rfl K.out Tryz.underlying181 rfl (by kernel_rfl)) rfl ?_
    exact ⟨rfl, (hBt.setCell (p := ⟨w.heap.size, 0, none⟩) (Nat.le_refl _) _).setCell (p := ⟨w.heap.size, 1, none⟩) (Nat.le_refl _) _⟩
  · have q0 : Blk (w.alloc (.cells #[.nilFunc, .nilFunc] 181)) w.heap.size 181 #[.nilFunc, .nilFunc] := Blk.new _ _ _
    have qB : Below w.heap.size w (w.alloc (.cells #[.nilFunc, .nilFunc] 181)) := (Below.refl _ _).alloc (Nat.le_refl _) _
    have hwz : w.heap.size < (w.alloc (.cells #[.nilFunc, .nilFunc] 181)).heap.size := by simp
    go_enter Tryz.func105, Tryz.ntmps105
    go_upto_region 2 with (first
      | (go_at_call 144; refine Calls.mono (forms_any _) ?_; rintro x w1 ⟨rfl, hB1⟩)
      | (refine wpList_store_row rfl 222 (.tmp 3) (.tmp 4) rfl w1.heap.size formsC rfl rfl 222 formsZ (Blk.new w1 222 formsZ) (by kernel_rfl) rfl (by simp [formsC, Value.oneCell']) ?_)
      | fail)
    have hset : Blk ((w1.alloc (.cells formsZ 222)).setRow w1.heap.size formsC) w1.heap.size 222 formsC := setRow_heap (w1.alloc (.cells formsZ 222)) w1.heap.size formsZ formsC 222 (0, 0) (Blk.new w1 222 formsZ)
    have hB2 : Below w1.heap.size w1 ((w1.alloc (.cells formsZ 222)).setRow w1.heap.size formsC) := ((Below.refl _ _).alloc (Nat.le_refl _) _).trans ⟨rfl, rfl, rfl, by simp [World.setRow], fun k hk => setRow_other _ _ k _ (by omega)⟩
    have q2 := Blk.call hB2 (Blk.call hB1 q0)
    have hBt := below_call (below_call qB hB1 (Nat.le_refl _)) hB2 (Nat.le_refl _)
    have hz := hB1.size
    clear q0 qB hB1 hB2
    generalize (w1.alloc (.cells formsZ 222)).setRow w1.heap.size formsC = w2 at hset q2 hBt ⊢
    generalize w1.heap.size = g at hset hz ⊢
    have c0 : w2.cell? ⟨g, 8, none⟩ = some (.func (.func 183) #[] #[]) := hset.cell 8
    have c1 : w2.cell? ⟨g, 9, none⟩ = some (.func (.func 184) #[] #[]) := hset.cell 9
    have r0 := q2.cell 0
    have r1 := q2.cell 1
    have f0 := q2.free 0
    have f1 := q2.free 1
    simp only [List.getElem?_toArray, List.getElem?_cons_zero, List.getElem?_cons_succ] at r0 r1
    have K := (q2.set_ 0 (.func (.func 183) #[] #[])).set_ 1 (.func (.func 184) #[] #[])
    simp only [List.setIfInBounds_toArray, List.set_cons_zero, List.set_cons_succ] at K
    replace K := Lib.hid K
    have he : ∀ W, (binOp .eql 178 (.func (.func 183) #[] #[]) .nilFunc).run Tryz.prog W = .ok (.bool false) W := fun W => by kernel_rfl
    clear hset q2 hz hwz
    go_wp2
    refine bodyPost_ret (results_cell_row rfl _ _ w.heap.size 181 #[.func (.func 183) #[] #[], .func (.func 184) #[] #[]] (0, 0) _ rfl K.out Tryz.underlying181 rfl (by kernel_rfl)) rfl ?_
    exact ⟨rfl, (hBt.setCell (p := ⟨w.heap.size, 0, none⟩) (Nat.le_refl _) _).setCell (p := ⟨w.heap.size, 1, none⟩) (Nat.le_refl _) _⟩
end Go.Proofs.YtiikagabdiphkaaGreat
