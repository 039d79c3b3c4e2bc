/- More words for memory: a struct of nine cells stored whole. No theorem of the program stands here. -/
import Derived.Test.YtiikagabdiphkaaGreatLib4
namespace Go.Lo
open Go.RowKit
theorem upon9 {P : Program} {o : Oper} {a : Act} {K : Act → World → Prop} {Q : Exit → Act → World → Prop} {w : World} {g : Nat} {t : TypeId} {x0 x1 x2 x3 x4 x5 x6 x7 x8 : Value}
    (h : Blk w g t #[x0, x1, x2, x3, x4, x5, x6, x7, x8]) (v0 v1 v2 v3 v4 v5 v6 v7 v8 : Value)
    (hK : ∀ W, Blk W g t #[v0, v1, v2, v3, v4, v5, v6, v7, v8] → Put w g t W → Oper.upon P o a K Q (Result.ok Next.skip W)) :
    Oper.upon P o a K Q (((cellPut P w ⟨g, 0, none⟩ v0).andThen fun _ w1 => (cellPut P w1 ⟨g, 1, none⟩ v1).andThen fun _ w2 => (cellPut P w2 ⟨g, 2, none⟩ v2).andThen fun _ w3 => (cellPut P w3 ⟨g, 3, none⟩ v3).andThen fun _ w4 => (cellPut P w4 ⟨g, 4, none⟩ v4).andThen fun _ w5 => (cellPut P w5 ⟨g, 5, none⟩ v5).andThen fun _ w6 => (cellPut P w6 ⟨g, 6, none⟩ v6).andThen fun _ w7 => (cellPut P w7 ⟨g, 7, none⟩ v7).andThen fun _ w8 => cellPut P w8 ⟨g, 8, none⟩ v8).andThen fun _ w' => Result.ok Next.skip w') := by
  have k0 := h
  have k1 := k0.set_ 0 v0
  have k2 := k1.set_ 1 v1
  have k3 := k2.set_ 2 v2
  have k4 := k3.set_ 3 v3
  have k5 := k4.set_ 4 v4
  have k6 := k5.set_ 5 v5
  have k7 := k6.set_ 6 v6
  have k8 := k7.set_ 7 v7
  have k9 := k8.set_ 8 v8
  have p9 := ((((((((((Put.refl_ h).cell_ 0 v0).cell_ 1 v1).cell_ 2 v2).cell_ 3 v3).cell_ 4 v4).cell_ 5 v5).cell_ 6 v6).cell_ 7 v7).cell_ 8 v8)
  rw [cellPut_ok k0 0 (by simp)]
  simp only [Result.andThen_ok]
  rw [cellPut_ok k1 1 (by simp)]
  simp only [Result.andThen_ok]
  rw [cellPut_ok k2 2 (by simp)]
  simp only [Result.andThen_ok]
  rw [cellPut_ok k3 3 (by simp)]
  simp only [Result.andThen_ok]
  rw [cellPut_ok k4 4 (by simp)]
  simp only [Result.andThen_ok]
  rw [cellPut_ok k5 5 (by simp)]
  simp only [Result.andThen_ok]
  rw [cellPut_ok k6 6 (by simp)]
  simp only [Result.andThen_ok]
  rw [cellPut_ok k7 7 (by simp)]
  simp only [Result.andThen_ok]
  rw [cellPut_ok k8 8 (by simp)]
  simp only [Result.andThen_ok]
  simp only [List.setIfInBounds_toArray, List.set_cons_zero, List.set_cons_succ] at k9
  exact hK _ k9 p9
/-- a struct that is loaded whole, as one step of a region that draws its order -/
theorem step_load_row {P : Program} {ops : Array Oper} {o : Oper} {a : Act} {w : World} {K : Act → World → Prop} {Q : Exit → Act → World → Prop} {F : Prop} (hgd : o.guard = none) (ty : TypeId) (x : Operand) (ho : o.op = .load ty x)
    (g : Nat) (hx : a.eval x = .pointer (some ⟨g, 0, none⟩)) (t : TypeId) (cs : Array Value) (d : TypeDesc) (hg : Blk w g t cs)
    (hu : P.underlying ty = some d) (hd : (match d with | .struct _ | .array _ _ => true | _ => false) = true) (hi : (P.info? ty).map (·.size) = some cs.size)
    (h : K (a.put o.dst (.agg cs)) w) : if Region.wanted o (yielded ops a.tmps) = true then Oper.wp P o a w K Q else F := by
  have hw : Region.wanted o (yielded ops a.tmps) = true := by simp [Region.wanted, hgd]
  rw [if_pos hw]
  exact wp_load_row ty x ho g hx t cs (0, 0) d hg hu hd hi h

/-- a struct that is stored whole, as one step of a region that draws its order -/
theorem step_store_row {P : Program} {ops : Array Oper} {o : Oper} {a : Act} {w : World} {K : Act → World → Prop} {Q : Exit → Act → World → Prop} {F : Prop} (hgd : o.guard = none) (ty : TypeId) (x y : Operand) (ho : o.op = .store ty x y)
    (g : Nat) (cells : Array Value) (hx : a.eval x = .pointer (some ⟨g, 0, none⟩)) (hy : a.eval y = .agg cells)
    (t : TypeId) (old : Array Value) (hg : Blk w g t old) (hi : (P.info? ty).map (·.size) = some cells.size)
    (hold : old.size = cells.size) (h1 : cells.all (·.oneCell') = true)
    (h : K (a.put o.dst undef) (w.setRow g cells)) : if Region.wanted o (yielded ops a.tmps) = true then Oper.wp P o a w K Q else F := by
  have hw : Region.wanted o (yielded ops a.tmps) = true := by simp [Region.wanted, hgd]
  rw [if_pos hw]
  exact wp_store_row ty x y ho g cells hx hy t old hg hi hold h1 h

/-- what a struct's store leaves -/
theorem blk_setRow {w : World} {g : Nat} {t : TypeId} {old cs : Array Value} (h : Blk w g t old) : Blk (w.setRow g cs) g t cs := setRow_heap w g old cs t (0, 0) h
theorem below_setRow {B : Nat} {a w : World} {g : Nat} (h : Below B a w) (hg : B ≤ g) (cs : Array Value) : Below B a (w.setRow g cs) := h.trans ⟨rfl, rfl, rfl, by simp [World.setRow], fun k hk => setRow_other _ _ k _ (by omega)⟩
theorem own_setRow {w : World} {base : Nat} {e : TypeId} {s n : Nat} {v : Value} {xs : List Value} (h : w.ownsRow base e s v n xs) {g : Nat} (hg : g < base) (cs : Array Value) : (w.setRow g cs).ownsRow base e s v n xs :=
  own_same h fun k hk => setRow_other _ _ k _ (by have := (h.lt k hk).1; omega)
theorem blk_setRow_far {w : World} {g g2 : Nat} {t : TypeId} {c cs : Array Value} (h : Blk w g t c) (hne : g ≠ g2) : Blk (w.setRow g2 cs) g t c := (setRow_other _ _ _ _ hne).trans h
end Go.Lo
