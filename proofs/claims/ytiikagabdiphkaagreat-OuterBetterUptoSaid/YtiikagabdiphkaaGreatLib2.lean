/- More words for memory. No theorem of the program stands here. -/
import Derived.Test.YtiikagabdiphkaaGreatLib
import Derived.Deep.LoopGhost
import Derived.Deep.DeepCutAuto
import Derived.Deep.DeepFit
namespace Go.Lo
open Go.RowKit
section
variable {P : Program} {w : World}

theorem flat_set1 {α : Type} {f : α → List Value} {s : Nat} (hf : ∀ x, (f x).length = s) (l : List α) (k j : Nat) (hk : k < l.length) (hj : j < s) (x : α) (u : Value) (hx : f x = (f l[k]).set j u) :
    (l.flatMap f).set (k * s + j) u = (l.set k x).flatMap f := by
  induction l generalizing k with
  | nil => simp at hk
  | cons y r ih =>
    cases k with
    | zero =>
      simp only [List.getElem_cons_zero] at hx
      simp only [List.flatMap_cons, List.set_cons_zero, Nat.zero_mul, Nat.zero_add]
      rw [List.set_append_left _ _ (by rw [hf]; exact hj), hx]
    | succ k =>
      simp only [List.getElem_cons_succ] at hx
      have := ih k (by simpa using hk) hx
      simp only [List.flatMap_cons, List.set_cons_succ]
      rw [List.set_append_right _ _ (by rw [hf, Nat.succ_mul]; omega), hf, show (k + 1) * s + j - s = k * s + j by rw [Nat.succ_mul]; omega, this]

/-- a list of which the first k have been turned -/
def mix {α : Type} (f : α → α) (l : List α) (k : Nat) : List α := (l.take k).map f ++ l.drop k
theorem mix_len {α : Type} (f : α → α) (l : List α) (k : Nat) : (mix f l k).length = l.length := by simp [mix]; omega
theorem mix_zero {α : Type} (f : α → α) (l : List α) : mix f l 0 = l := by simp [mix]
theorem mix_all {α : Type} (f : α → α) (l : List α) : mix f l l.length = l.map f := by simp [mix]
theorem mix_get {α : Type} (f : α → α) (l : List α) (k : Nat) (hk : k < l.length) : (mix f l k)[k]'(by rw [mix_len]; exact hk) = l[k] := by
  unfold mix
  rw [List.getElem_append_right (by simp; omega)]
  have : min k l.length = k := by omega
  simp [this]
theorem mix_succ {α : Type} (f : α → α) (l : List α) (k : Nat) (hk : k < l.length) : (mix f l k).set k (f l[k]) = mix f l (k + 1) := by
  unfold mix
  rw [List.set_append_right _ _ (by simp; omega), List.drop_eq_getElem_cons hk]
  simp only [List.length_map, List.length_take, show min k l.length = k by omega, Nat.sub_self, List.set_cons_zero]
  rw [List.take_succ_eq_append_getElem hk, List.map_append, List.append_assoc]
  rfl

theorem own_same {w w' : World} {base : Nat} {e : TypeId} {s n : Nat} {v : Value} {xs : List Value} (h : w.ownsRow base e s v n xs) (hb : ∀ k, v.ownBlock = some k → w'.heap[k]? = w.heap[k]?) : w'.ownsRow base e s v n xs := by
  refine ⟨h.1, ?_⟩
  rcases h.2 with h' | ⟨g, cap, cur, rfl, h1, h2, h3⟩
  · exact .inl h'
  · exact .inr ⟨g, cap, cur, rfl, h1, (hb g rfl).trans h2, h3⟩

/-- a block that is known whole -/
def Blk (w : World) (g : Nat) (t : TypeId) (cs : Array Value) : Prop := w.heap[g]? = some (.cells cs t (0, 0))
theorem Blk.lt {g : Nat} {t : TypeId} {cs : Array Value} (h : Blk w g t cs) : g < w.heap.size := lt_of_block h
theorem Blk.cell {g : Nat} {t : TypeId} {cs : Array Value} (h : Blk w g t cs) (i : Nat) : w.cell? ⟨g, i, none⟩ = cs[i]? := cell_of_row w g i cs t (0, 0) h
theorem Blk.free {g : Nat} {t : TypeId} {cs : Array Value} (h : Blk w g t cs) (i : Nat) : w.frozen? ⟨g, i, none⟩ = false := frozen_of_row w g i cs t h
theorem Blk.new (w : World) (t : TypeId) (cs : Array Value) : Blk (w.alloc (.cells cs t)) w.heap.size t cs := heap_alloc_new w _
theorem Blk.same {w' : World} {g : Nat} {t : TypeId} {cs : Array Value} (h : Blk w g t cs) (hb : w'.heap[g]? = w.heap[g]?) : Blk w' g t cs := hb.trans h
theorem Blk.alloc {g : Nat} {t : TypeId} {cs : Array Value} (h : Blk w g t cs) (o : Obj) : Blk (w.alloc o) g t cs := (Below.heap_alloc w o g h.lt).trans h
theorem Blk.far {g : Nat} {t : TypeId} {cs : Array Value} (h : Blk w g t cs) {p : Addr} (hp : g ≠ p.block) (u : Value) : Blk (w.setCell p u) g t cs := (Below.heap_setCell w p u g hp).trans h
theorem Blk.below {B : Nat} {w' : World} {g : Nat} {t : TypeId} {cs : Array Value} (h : Blk w g t cs) (hb : Below B w w') (hg : g < B) : Blk w' g t cs := (hb.block g hg).trans h
theorem Blk.set_ {g : Nat} {t : TypeId} {cs : Array Value} (h : Blk w g t cs) (i : Nat) (u : Value) : Blk (w.setCell ⟨g, i, none⟩ u) g t (cs.setIfInBounds i u) := heap_setCell_same w g i cs t u h

theorem made_flat {α : Type} {f : α → List Value} {s : Nat} (hf : ∀ x, (f x).length = s) (x0 : α) (n : Nat) (z : Array Value) (hz : z.toList = f x0) (hs : 0 < s) : (madeCells z (n * s)).toList = (List.replicate n x0).flatMap f := by
  have hsz : z.size = s := by rw [← hf x0, ← hz]; simp
  have hl : ((List.replicate n x0).flatMap f).length = n * s := by rw [flat_len hf, List.length_replicate]
  apply List.ext_getElem
  · rw [hl]; simp [size_madeCells]
  · intro i h1 h2
    have hi : i < n * s := by rw [hl] at h2; exact h2
    have hd : i / s < n := (Nat.div_lt_iff_lt_mul hs).2 hi
    have hm : i % s < s := Nat.mod_lt _ hs
    have he : i / s * s + i % s = i := Nat.div_add_mod' i s
    have h3 := flat_get hf (List.replicate n x0) (i / s) (i % s) hm (by simpa using hd)
    rw [he, List.getElem?_eq_getElem h2] at h3
    have h4 : (f x0)[i % s]? = some (z[i % s]!) := by
      rw [← hz]
      have : i % s < z.size := by omega
      simp [this]
    have h5 : (List.replicate n x0)[i / s]'(by simpa using hd) = x0 := List.getElem_replicate _
    rw [h5, h4] at h3
    have h6 := Option.some.inj h3
    rw [h6]
    simp [madeCells, hsz]

/-- 'make([]T, n)' -/
theorem wpList_make {ops : Array Oper} {rest : List Oper} {o : Oper} {a : Act} {Q : Exit → Act → World → Prop} (hgd : o.guard = none) (l c : Operand) (t : TypeId) (hop : o.op = Op.makeSlice t l c)
    (base : Nat) {e : TypeId} {size bytes : Nat} (E : ElT P t e size bytes) {α : Type} (f : α → List Value) (hf : ∀ x, (f x).length = size) (x0 : α) (hz : (P.info? e).map (fun i => i.zero.map fun z => z.cells.toList) = some (some (f x0)))
    (kl kc : IntKind) (L C : Int) (n : Nat) (hl : a.eval l = .int kl L) (hc : a.eval c = .int kc C) (hL : L = (n : Int)) (hC : C = (n : Int)) (b2 : bytes * n ≤ 281474976710656) (b3 : n ≤ maxLen) (b4 : base ≤ w.heap.size)
    (hK : ∀ w', w'.ownsRow base e size (.slice (some ⟨w.heap.size, 0, none⟩) n n) n ((List.replicate n x0).flatMap f) → w.grownBy w' none → wpList P ops Q rest (a.put o.dst (.slice (some ⟨w.heap.size, 0, none⟩) n n)) w') : wpList P ops Q (o :: rest) a w := by
  obtain ⟨i, z, hi, hz', hsz, hby, hzs⟩ := E.info
  have hzz : z.cells.toList = f x0 := by simpa [hi, hz'] using hz
  refine wpList_make_full w hgd l c t hop base e i z size E.sl hi hz' hsz kl kc L C n hl hc hL hC (by rw [hby]; exact b2) b3 b4 fun w' h1 h2 => hK w' ?_ h2
  rw [made_flat hf x0 n z.cells hzz E.pos] at h1
  exact h1

end
end Go.Lo
