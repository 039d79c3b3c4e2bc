/- The library's sort at uint32, its words and its insertion sort. Conditions: the row is the call's own block, of fewer than 2^40 cells. -/
import Derived.Test.YtdilbcmnfpmijaaOriJ
import Derived.Sort.AssemblyPlain
import Derived.BigQuiet
namespace Go.Proofs.Ytdilbcmnfpmijaa
open Go.RowKit Go.Lo

abbrev u32c (x : Int) : Value := .int .u32 x

/-- block g holds d, and rest behind it; all else is as it was -/
structure RowU (w0 : World) (g : Nat) (rest : List Value) (d : Array Int) (w : World) : Prop where
  blk : Blk w g 22 (d.toList.map u32c ++ rest).toArray
  os : w.os = w0.os
  tape : w.tape = w0.tape
  output : w.output = w0.output
  size : w0.heap.size ≤ w.heap.size
  other : ∀ b, b < w0.heap.size → b ≠ g → w.heap[b]? = w0.heap[b]?

variable {w0 w w' : World} {g : Nat} {rest : List Value} {d : Array Int}
theorem RowU.cell (h : RowU w0 g rest d w) {i : Nat} (hi : i < d.size) : w.cell? ⟨g, i, none⟩ = some (u32c d[i]!) := by
  rw [h.blk.cell i]
  rw [List.getElem?_toArray, List.getElem?_append_left (by simpa using hi), List.getElem?_map, Array.getElem?_toList, Array.getElem?_eq_getElem hi]
  rw [getElem!_pos d i hi]
  rfl
theorem RowU.free (h : RowU w0 g rest d w) (i : Nat) : w.frozen? ⟨g, i, none⟩ = false := h.blk.free i
theorem RowU.drewN (h : RowU w0 g rest d w) (n : Nat) : RowU w0 g rest d (w.drewN n) := ⟨h.blk, h.os, h.tape, h.output, h.size, h.other⟩
theorem RowU.drew (h : RowU w0 g rest d w) : RowU w0 g rest d w.drew := ⟨h.blk, h.os, h.tape, h.output, h.size, h.other⟩
theorem RowU.of_drew (h : RowU w0.drew g rest d w) : RowU w0 g rest d w := ⟨h.blk, h.os, h.tape, h.output, h.size, h.other⟩
theorem RowU.of_drewN {n : Nat} (h : RowU (w0.drewN n) g rest d w) : RowU w0 g rest d w := ⟨h.blk, h.os, h.tape, h.output, h.size, h.other⟩
theorem RowU.self (h : RowU w0 g rest d w) : RowU w g rest d w := ⟨h.blk, rfl, rfl, rfl, Nat.le_refl _, fun _ _ _ => rfl⟩
theorem RowU.trans {d' : Array Int} (h : RowU w0 g rest d w) (k : RowU w g rest d' w') : RowU w0 g rest d' w' :=
  ⟨k.blk, k.os.trans h.os, k.tape.trans h.tape, k.output.trans h.output, Nat.le_trans h.size k.size, fun b hb hne => (k.other b (Nat.lt_of_lt_of_le hb h.size) hne).trans (h.other b hb hne)⟩
theorem RowU.alloc (h : RowU w0 g rest d w) (o : Obj) : RowU w0 g rest d (w.alloc o) :=
  ⟨h.blk.alloc o, h.os, h.tape, h.output, Nat.le_trans h.size (by simp), fun b hb hne => (Below.heap_alloc w o b (Nat.lt_of_lt_of_le hb h.size)).trans (h.other b hb hne)⟩
theorem RowU.far (h : RowU w0 g rest d w) {p : Addr} (hp : w0.heap.size ≤ p.block) (hg : g < w0.heap.size) (u : Value) : RowU w0 g rest d (w.setCell p u) :=
  ⟨h.blk.far (by omega) u, h.os, h.tape, h.output, by simpa [World.setCell] using h.size, fun b hb hne => (Below.heap_setCell w p u b (by omega)).trans (h.other b hb hne)⟩
theorem RowU.set (h : RowU w0 g rest d w) {i : Nat} (hi : i < d.size) (x : Int) : RowU w0 g rest (d.setIfInBounds i x) (w.setCell ⟨g, i, none⟩ (u32c x)) := by
  refine ⟨?_, h.os, h.tape, h.output, by simpa [World.setCell] using h.size, fun b hb hne => (Below.heap_setCell w ⟨g, i, none⟩ _ b hne).trans (h.other b hb hne)⟩
  have := h.blk.set_ i (u32c x)
  have e : ((d.toList.map u32c ++ rest).toArray).setIfInBounds i (u32c x) = (((d.setIfInBounds i x).toList.map u32c) ++ rest).toArray := by
    rw [List.setIfInBounds_toArray, List.set_append_left _ _ (by simpa using hi), Array.toList_setIfInBounds, List.map_set]
  rw [e] at this
  exact this
theorem RowU.swp (h : RowU w0 g rest d w) {i j : Nat} (hi : i < d.size) (hj : j < d.size) : RowU w0 g rest (Sort.swp d i j) ((w.setCell ⟨g, i, none⟩ (u32c d[j]!)).setCell ⟨g, j, none⟩ (u32c d[i]!)) :=
  (h.set hi _).set (by simpa using hj) _

theorem isNaN_any (a : Int) (w : World) : Calls Try.prog 90 #[.int .u32 a] w fun e w' => e = .returned (.bool false) ∧ w' = w := by
  go_enter Try.func90, Try.ntmps90
  go_wp2
  go_ret
  exact ⟨by simp, rfl⟩
theorem less32_any (a b : Int) (w : World) : Calls Try.prog 75 #[.int .u32 a, .int .u32 b] w fun e w' => e = .returned (.bool (Sort.ltInt a b)) ∧ w' = w := by
  go_enter Try.func75, Try.ntmps75
  go_wp2_with (go_at_call 90; refine Calls.mono (isNaN_any _ _) ?_; rintro e w1 ⟨rfl, rfl⟩)
  go_ret
  exact ⟨rfl, rfl⟩
end Go.Proofs.Ytdilbcmnfpmijaa
