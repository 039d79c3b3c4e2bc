/- Plain laws for the walks of TreeLeast and TreeSteps: what a row of what was found says, and which nodes have been marked so far. No program here. Conditions: as each theorem says. -/
import Derived.Test.YtdilbcmnfpmijaaLeastP
import Derived.Test.YtdilbcmnfpmijaaGraphM
namespace Go.Lo
open Go.RowKit

theorem found_at {α : Type} {rs : List α} {p : α → Bool} {q : α → Int} {c : List Int} (h : rs.map (fun r => (p r, q r)) = c.map fun x => if x < far then (true, x) else (false, 0)) {i : Nat} (hi : i < rs.length) :
    p rs[i] = decide (at_ c i < far) ∧ q rs[i] = if at_ c i < far then at_ c i else 0 := by
  have hl : rs.length = c.length := by have := congrArg List.length h; simpa using this
  have h1 := congrArg (fun l => l[i]?) h
  simp only [List.getElem?_map, List.getElem?_eq_getElem hi, List.getElem?_eq_getElem (show i < c.length by omega), Option.map_some, Option.some.injEq] at h1
  have h2 : at_ c i = c[i]'(by omega) := by simp [at_, show i < c.length by omega]
  rw [h2]
  by_cases h3 : c[i]'(by omega) < far
  · rw [if_pos h3] at h1
    rw [if_pos h3, decide_eq_true h3]
    exact Prod.mk.inj h1
  · rw [if_neg h3] at h1
    rw [if_neg h3, decide_eq_false h3]
    exact Prod.mk.inj h1

/-- the nodes that are marked by the edges of the first i nodes, and by the first q of node i -/
def Marks (g : List GNode) (c : List Int) (b : List Bool) (i q : Nat) : Prop :=
  b.length = g.length ∧ ∀ (i' : Nat) (e : GEdge), (i' < i ∧ e ∈ esOf g i' ∨ i' = i ∧ e ∈ (esOf g i).take q) → at_ c i' < far → ∀ j : Nat, e.to = j → at_ c j = at_ c i' + e.cost → b[j]? = some true
theorem Marks.start (g : List GNode) (c : List Int) : Marks g c (List.replicate g.length false) 0 0 :=
  ⟨by simp, fun i' e h => by rcases h with ⟨h, _⟩ | ⟨_, h⟩ <;> simp at h⟩
theorem Marks.next {g : List GNode} {c : List Int} {b : List Bool} {i : Nat} (h : Marks g c b i (esOf g i).length) : Marks g c b (i + 1) 0 := by
  refine ⟨h.1, fun i' e h1 => ?_⟩
  rcases h1 with ⟨h1, h2⟩ | ⟨_, h2⟩
  · rcases Nat.lt_succ_iff_lt_or_eq.1 h1 with h3 | rfl
    · exact h.2 i' e (.inl ⟨h3, h2⟩)
    · exact h.2 i' e (.inr ⟨rfl, by rw [List.take_length]; exact h2⟩)
  · simp at h2
theorem Marks.skip {g : List GNode} {c : List Int} {b : List Bool} {i q : Nat} (h : Marks g c b i q) (hf : ¬ at_ c i < far) : Marks g c b (i + 1) 0 := by
  refine ⟨h.1, fun i' e h1 => ?_⟩
  rcases h1 with ⟨h1, h2⟩ | ⟨_, h2⟩
  · rcases Nat.lt_succ_iff_lt_or_eq.1 h1 with h3 | rfl
    · exact h.2 i' e (.inl ⟨h3, h2⟩)
    · exact fun h3 => absurd h3 hf
  · simp at h2
theorem Marks.step {g : List GNode} {c : List Int} {b : List Bool} {i q j : Nat} {x : Bool} (h : Marks g c b i q) (hq : q < (esOf g i).length) (hj : ((esOf g i)[q]).to = j) (hjl : j < g.length)
    (hx : at_ c j = at_ c i + ((esOf g i)[q]).cost → x = true) (hold : b[j]? = some true → x = true) : Marks g c (b.set j x) i (q + 1) := by
  refine ⟨by simpa using h.1, fun i' e h1 hf k hk hc => ?_⟩
  have hb : j < b.length := by rw [h.1]; exact hjl
  by_cases hkj : k = j
  · subst hkj
    rw [List.getElem?_set_self hb]
    congr 1
    rcases h1 with h1 | ⟨rfl, h1⟩
    · exact hold (h.2 i' e (.inl h1) hf k hk hc)
    · rw [List.take_succ_eq_append_getElem hq] at h1
      rcases List.mem_append.1 h1 with h1 | h1
      · exact hold (h.2 i' e (.inr ⟨rfl, h1⟩) hf k hk hc)
      · rw [List.mem_singleton] at h1
        subst h1
        exact hx hc
  · rw [List.getElem?_set_ne (by omega)]
    rcases h1 with h1 | ⟨rfl, h1⟩
    · exact h.2 i' e (.inl h1) hf k hk hc
    · rw [List.take_succ_eq_append_getElem hq] at h1
      rcases List.mem_append.1 h1 with h1 | h1
      · exact h.2 i' e (.inr ⟨rfl, h1⟩) hf k hk hc
      · rw [List.mem_singleton] at h1
        subst h1
        rw [hj] at hk
        exact absurd (by omega) hkj
theorem Marks.all {g : List GNode} {root : Nat} {c : List Int} {b : List Bool} (h : Marks g c b g.length 0) (hc : Costs g root c) (hg : okG g) (hr : root < g.length) {i : Nat} (hi : i < g.length) (hf : at_ c i < far) (hir : i ≠ root) : b[i]? = some true := by
  obtain ⟨j, e, hj, he, hto, hx, hjf⟩ := hc.pred hg hr hi hf hir
  exact h.2 j e (.inl ⟨hj, he⟩) hjf i hto hx.symm

/-- a block that is the row of a slice, as a whole -/
theorem blk_of_own {w : World} {base g n : Nat} {e : TypeId} {xs : List Value} (h : w.ownsRow base e 1 (.slice (some ⟨g, 0, none⟩) n n) n xs) : w.heap[g]? = some (.cells xs.toArray e (0, 0)) := by
  rcases h.2 with ⟨h', _⟩ | ⟨g', cap, cur, h', _, hg, hnc, _, hcs, ht⟩
  · simp at h'
  · simp only [Value.slice.injEq, Option.some.injEq, Addr.mk.injEq, and_true, true_and] at h'
    obtain ⟨rfl, rfl⟩ := h'
    rw [hg]
    have e1 : cur.toList = xs := by rw [← ht, List.take_of_length_le (by simp; omega)]
    rw [← e1]

/-- the first k nodes are as TreeLeast wants them -/
def GoodN (rows : List NodeRow) (r : NodeRow) : Prop := (r.node.network = false → r.node.id ≠ 0) ∧ ∀ e ∈ r.node.edges, 0 ≤ e.to ∧ e.to < (rows.length : Int) ∧ e.cost < 65536
def GoodTo (rows : List NodeRow) (k : Nat) : Prop := ∀ j (hj : j < rows.length), j < k → GoodN rows rows[j]
theorem GoodTo.start (rows : List NodeRow) : GoodTo rows 0 := fun _ _ h => absurd h (by omega)
theorem GoodTo.step {rows : List NodeRow} {k : Nat} (h : GoodTo rows k) (hk : k < rows.length) (hn : GoodN rows rows[k]) : GoodTo rows (k + 1) := fun j hj hjk => by
  rcases Nat.lt_succ_iff_lt_or_eq.1 hjk with h1 | rfl
  · exact h j hj h1
  · exact hn
theorem marks_set (b : List Bool) (t : Nat) (x : Bool) : (b.map Value.bool).toArray.setIfInBounds t (.bool x) = ((b.set t x).map Value.bool).toArray := by
  rw [List.setIfInBounds_toArray, List.map_set]
theorem marks_get {b : List Bool} {t : Nat} (h : t < b.length) : (b.map Value.bool).toArray[t]? = some (.bool b[t]) := by simp [h]
end Go.Lo
