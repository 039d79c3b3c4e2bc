/- The plain law of BetweenShorter: improving makes no way longer, and is done when it is done once. No walk stands here. -/
import Derived.Test.YtiikagabdiphkaaGreatMq
namespace Go.Proofs.YtiikagabdiphkaaGreat
open Go.RowKit Go.Lo

/-- what a way is, but for its cost and its hops -/
def same (x g : WayG) : Prop := x.1.addr = g.1.addr ∧ x.1.bits = g.1.bits ∧ x.1.router = g.1.router ∧ x.1.kind = g.1.kind ∧ x.1.area = g.1.area
theorem improveP_same (f : K3 → Option WayG) (g : WayG) : same (improveP f g) g := by
  unfold improveP
  split
  · exact ⟨rfl, rfl, rfl, rfl, rfl⟩
  · split <;> exact ⟨rfl, rfl, rfl, rfl, rfl⟩
theorem improveP_cost (f : K3 → Option WayG) (g : WayG) : (improveP f g).1.cost ≤ g.1.cost ∧ ((improveP f g).1.cost < g.1.cost → g.1.area = 0 ∧ (g.1.kind = 1 ∨ g.1.kind = 2)) := by
  unfold improveP
  split
  · exact ⟨Int.le_refl _, fun h => absurd h (Int.lt_irrefl _)⟩
  · rename_i o ho
    split
    · exact ⟨Int.le_refl _, fun h => absurd h (Int.lt_irrefl _)⟩
    · rename_i hi
      have hi2 : improves o g = true := by simpa using hi
      unfold improves at hi2
      simp only [Bool.and_eq_true, Bool.or_eq_true, beq_iff_eq, decide_eq_true_eq] at hi2
      exact ⟨hi2.2.2, fun _ => ⟨hi2.2.1, hi2.1⟩⟩
theorem improveP_twice (f : K3 → Option WayG) (g : WayG) : (improveP f (improveP f g)).1.cost = (improveP f g).1.cost := by
  have hs := improveP_same f g
  have hk : keyG (improveP f g).1 = keyG g.1 := by
    unfold keyG
    rw [hs.1, hs.2.1, hs.2.2.1]
  cases ho : f (keyG g.1) with
  | none =>
    have h1 : improveP f g = g := by
      unfold improveP
      rw [ho]
    rw [h1, h1]
  | some o =>
    by_cases hi : improves o g = false
    · have h1 : improveP f g = g := by
        unfold improveP
        rw [ho]
        simp only [hi, if_true]
      rw [h1, h1]
    · have h1 : (improveP f g).1.cost = o.1.cost := by
        unfold improveP
        rw [ho]
        simp only [if_neg hi]
      generalize improveP f g = x at *
      unfold improveP
      rw [hk, ho]
      simp only
      split
      · rfl
      · exact h1.symm
theorem improveP_len {f : K3 → Option WayG} {m n : Nat} (hf : ∀ k o, f k = some o → o.2.length ≤ m) {g : WayG} (hg : g.2.length ≤ n) : (improveP f g).2.length ≤ n + m := by
  unfold improveP
  split
  · omega
  · rename_i o ho
    split
    · omega
    · have h1 := hf _ o ho
      have h2 := puts_le (puts [] (if o.1.cost < g.1.cost then [] else g.2)) o.2
      have h3 := puts_le [] (if o.1.cost < g.1.cost then [] else g.2)
      have h4 : (if o.1.cost < g.1.cost then [] else g.2).length ≤ n := by
        split
        · simp
        · exact hg
      simp only [List.length_nil] at h3
      simp only
      omega
theorem improveP_key {f : K3 → Option WayG} {g : WayG} : keyG (improveP f g).1 = keyG g.1 := by
  have hs := improveP_same f g
  unfold keyG
  rw [hs.1, hs.2.1, hs.2.2.1]
end Go.Proofs.YtiikagabdiphkaaGreat
