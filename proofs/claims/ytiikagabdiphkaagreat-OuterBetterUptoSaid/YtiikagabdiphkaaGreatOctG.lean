/- sum.Whole. Conditions: the bytes lie in memory. -/
import Derived.Test.YtiikagabdiphkaaGreatOctF
import Derived.ChangeKeysEq
namespace Go.Proofs.YtiikagabdiphkaaGreat
open Go.RowKit Go.Lo

/-- are both sums nought? -/
def wholeB (bs : List Int) : Bool := (addP bs (0, 0)).1 == 0 && (addP bs (0, 0)).2 == 0

theorem intT : ElT Tryz.prog 203 3 1 8 := ⟨by kernel_rfl, by
  obtain ⟨i, hi, h1, h2, h3⟩ := info_parts (show (Tryz.prog.info? 3).map (fun i => (i.zero, i.size, i.bytes)) = some (some (.int .i64 0), 1, 8) by kernel_rfl)
  exact ⟨i, _, hi, h1, h2, h3, rfl⟩, by omega⟩

theorem eql_both (p q : Int) (w : World) : (binOp .eql 253 (.agg #[.int .i64 p, .int .i64 q]) (.agg #[.int .i64 0, .int .i64 0])).run Tryz.prog w = .ok (.bool (p == 0 && q == 0)) w := by
  obtain ⟨i, _, hi, -⟩ := intT.info
  rw [run_eql_struct, run_equalIn_array w 9999 _ _ Tryz.underlying253 hi, show Tryz.prog.cellsOf 3 = 1 by kernel_rfl, show List.range 2 = [0, 1] from rfl]
  have hp : ∀ x y W, (part 3 #[Value.int .i64 x, Value.int .i64 y] 0).run Tryz.prog W = .ok (.int .i64 x) W := fun x y W => by kernel_rfl
  have hq : ∀ x y W, (part 3 #[Value.int .i64 x, Value.int .i64 y] 1).run Tryz.prog W = .ok (.int .i64 y) W := fun x y W => by kernel_rfl
  simp only [Op.eqItems, Sem.run_bind, Nat.zero_mul, Nat.one_mul, hp, Result.andThen_ok, run_equalIn_int _ _ _ _ _ _ _ Tryz.underlying3]
  cases (p == 0)
  · simp
  · simp only [Bool.not_true, Bool.false_eq_true, if_false, Sem.run_bind, hq, Result.andThen_ok, run_equalIn_int _ _ _ _ _ _ _ Tryz.underlying3]
    cases (q == 0) <;> simp

set_option maxRecDepth 100000 in
theorem whole8_any (B : Nat) (xv : Value) (bs : List Int) (w : World) (hx : Sl w B 1 xv bs.length (bs.map u8c)) (hB : B ≤ w.heap.size) (hl : ∀ x ∈ bs, 0 ≤ x ∧ x < 256) (hn : bs.length ≤ 140737488355328) :
    Calls Tryz.prog 155 #[xv] w fun x w' => x = .returned (.bool (wholeB bs)) ∧ Below w.heap.size w w' := by
  have hB0 : Below w.heap.size w (w.alloc (.cells #[.int .i64 0, .int .i64 0] 253)) := (Below.refl _ _).alloc (Nat.le_refl _) _
  have CA := Lib.hid (add_any w.heap.size B (0, 0) (by simp) xv bs (w.alloc (.cells #[.int .i64 0, .int .i64 0] 253)) (Blk.new _ _ _) (hx.below (hB0.mono hB)) hB hl hn)
  obtain ⟨-, A, c, rfl, -⟩ := hx
  go_enter Tryz.func155, Tryz.ntmps155
  go_upto_region 3 with (go_at_call 190; refine Calls.mono CA.out ?_; rintro x w1 ⟨rfl, hb1, hp1⟩)
  have hB1 := hp1.below hB0 (Nat.le_refl _)
  have x0 := hb1.cell 0
  have x1 := hb1.cell 1
  simp only [List.getElem?_toArray, List.getElem?_cons_zero, List.getElem?_cons_succ] at x0 x1
  have he := fun W => eql_both (addP bs (0, 0)).1 (addP bs (0, 0)).2 W
  clear hb1 hp1 CA
  go_wp2
  go_ret
  exact ⟨rfl, hB1⟩
end Go.Proofs.YtiikagabdiphkaaGreat
