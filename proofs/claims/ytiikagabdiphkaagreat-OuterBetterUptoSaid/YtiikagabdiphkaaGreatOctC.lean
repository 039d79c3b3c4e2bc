/- octet's writer done, and slices.Clone of bytes. Conditions: the bytes lie in memory. -/
import Derived.Test.YtiikagabdiphkaaGreatOctB
namespace Go.Proofs.YtiikagabdiphkaaGreat
open Go.RowKit Go.Lo

set_option maxRecDepth 100000 in
theorem clone8_any (B : Nat) (xv : Value) (xs : List Int) (w : World) (hx : Sl w B 1 xv xs.length (xs.map u8c)) (hB : B ≤ w.heap.size) (hn : xs.length ≤ 140737488355328) :
    Calls Tryz.prog 145 #[xv] w fun x w' => ∃ v, x = .returned v ∧ w'.ownsRow w.heap.size 5 1 v xs.length (xs.map u8c) ∧ Below w.heap.size w w' := by
  have hx0 := hx
  obtain ⟨-, A, c, rfl, -, -, hA⟩ := hx
  cases A with
  | none =>
    have h0 : xs.length = 0 := by
      rcases Nat.eq_zero_or_pos xs.length with h | h
      · exact h
      · obtain ⟨_, _, h, _⟩ := hA h; cases h
    obtain rfl : xs = [] := List.eq_nil_of_length_eq_zero h0
    have he : ∀ W, (binOp .eql 52 (.slice none 0 c) (.slice none 0 0)).run Tryz.prog W = .ok (.bool true) W := fun W => Lib.run_eql_slice_nil W _ _ none 0 c 0 0 Tryz.underlying52
    clear hA hx0
    go_enter Tryz.func145, Tryz.ntmps145
    go_wp2
    go_ret
    exact ⟨_, rfl, World.ownsRow_nil _ _ _ _, Below.refl _ _⟩
  | some a =>
    have ho : (w.alloc (.cells #[] 5)).ownsRow w.heap.size 5 1 (.slice (some ⟨w.heap.size, 0, none⟩) 0 0) 0 [] := World.ownsRow_lit w #[] 0 (Nat.le_refl _) (by simp [maxLen]) rfl
    have he : ∀ W, (binOp .eql 52 (.slice (some a) xs.length c) (.slice none 0 0)).run Tryz.prog W = .ok (.bool false) W := fun W => Lib.run_eql_slice_nil W _ _ (some a) xs.length c 0 0 Tryz.underlying52
    clear hA
    go_enter Tryz.func145, Tryz.ntmps145
    go_wp2_with (at_builtin; refine wpList_append rfl (.tmp 5) (.tmp 6) 52 rfl w.heap.size u8T (.slice (some ⟨w.heap.size, 0, none⟩) 0 0) 0 [] rfl ho (B) (.slice (some a) xs.length c) xs.length (xs.map u8c) rfl (hx0.below ?_) (u8s_oneCell xs) (by simp only [maxLen]; omega) (by omega) (by simp) ?_; (focus (exact (Below.refl _ _).alloc hB _)); intro v3 w3 ho3 hg3 hob3; simp only [Nat.zero_add, List.nil_append] at ho3)
    go_wp2
    go_ret
    exact ⟨_, rfl, ho3, ((Below.refl _ _).alloc (Nat.le_refl _) _).trans (below_of_grown hg3 (by simp) (fun g hg => by simp [Value.ownBlock] at hg; omega))⟩

/-- what is done: all, or nothing -/
def doneBs (e : Int) (bs : List Int) : List Int := if e = 0 then bs else []

set_option maxRecDepth 100000 in
theorem done_any (K : Nat → Prop) (b : Nat) (most : Int) (bs : List Int) (e : Int) (w : World) (h : Wr K w b most bs e) (hn : bs.length ≤ 140737488355328) :
    Calls Tryz.prog 111 #[.pointer (some ⟨b, 0, none⟩)] w fun x w' => ∃ v, x = .returned (.tuple #[v, .int .i64 e]) ∧ w'.ownsRow w.heap.size 5 1 v (doneBs e bs).length ((doneBs e bs).map u8c) ∧ Below w.heap.size w w' := by
  obtain ⟨_, v, hb, ho, _⟩ := h
  have hs := Sl.of_own ho
  have CC := Lib.hid (clone8_any w.heap.size v bs w hs (Nat.le_refl _) hn)
  obtain ⟨-, A, c, rfl, -⟩ := hs
  have c0 := hb.cell 0
  have c2 := hb.cell 2
  have c3 := hb.cell 3
  simp only [List.getElem?_toArray, List.getElem?_cons_zero, List.getElem?_cons_succ] at c0 c2 c3
  clear hb ho
  by_cases he : e = 0
  · subst he
    go_enter Tryz.func111, Tryz.ntmps111
    go_wp2_with (go_at_call 145; refine Calls.mono CC.out ?_; rintro x w1 ⟨v1, rfl, ho1, hB1⟩)
    refine bodyPost_ret (results_tmp2 rfl _ _ _) rfl ?_
    exact ⟨v1, rfl, ho1, hB1⟩
  · have he1 : (e == 0) = false := beq_false_of_ne he
    have he2 : (e != 0) = true := by simpa using he
    clear CC
    go_enter Tryz.func111, Tryz.ntmps111
    go_wp2_with fail
    go_region
    go_wp2
    refine bodyPost_ret (results_tmp2 rfl _ _ _) rfl ?_
    rw [show doneBs e bs = [] from if_neg he]
    exact ⟨_, rfl, World.ownsRow_nil _ _ _ _, (Below.refl _ _).drew⟩
end Go.Proofs.YtiikagabdiphkaaGreat
