/- What layer 20's arguments hold, as plain lists. No condition. -/
import Derived.Test.YtiikagabdiphkaaGreatMus
import Derived.Test.YtiikagabdiphkaaGreatArgO
namespace Go.Proofs.YtiikagabdiphkaaGreat
open Go.RowKit Go.Lo

theorem ways_ofO {W : World} {m : Nat} {lv : Value} {lw : List WayV} (hsl : Sl W W.heap.size 10 lv lw.length (lw.flatMap wayL)) (h : ∀ x ∈ lw, WayIs W m x) (hm : m ≤ 2000000) : ∃ R, WaysIn W W.heap.size lv R lw ∧ ArgW R := by
  obtain ⟨f, hf⟩ := Classical.axiomOfChoice (r := fun (x : WayV) (hops : List Hop) => x ∈ lw → ((0 ≤ x.n.bits ∧ x.n.bits < 256) ∧ ((0 ≤ x.n.addr ∧ x.n.addr ≤ 4294967295) ∧ 0 ≤ x.n.router ∧ x.n.router ≤ 4294967295) ∧ (0 ≤ x.n.cost ∧ x.n.cost ≤ 4294967295)) ∧ Sl W W.heap.size 3 (.slice x.A x.len x.cap) hops.length (hops.flatMap hopCells) ∧ hops.length ≤ m) (fun x => by
    by_cases hx : x ∈ lw
    · obtain ⟨h1, h2, h3, hops, h4, h5, h6⟩ := h x hx
      exact ⟨hops, fun _ => ⟨⟨h1, h2, h3⟩, h5, h6⟩⟩
    · exact ⟨[], fun hx' => absurd hx' hx⟩)
  refine ⟨lw.map fun x => (x.n, f x), ⟨hsl, by simp, fun k hk hk2 => ?_⟩, fun s hs => ?_⟩
  · have := hf lw[k] (List.getElem_mem hk)
    simp only [List.getElem_map]
    exact this.2.1
  · obtain ⟨x, hx, rfl⟩ := List.mem_map.1 hs
    obtain ⟨⟨h1, h2, h3⟩, -, h5⟩ := hf x hx
    exact ⟨⟨⟨h3.1, by show x.n.cost < _; omega⟩, h1, by show (f x).length ≤ _; omega⟩, h2.1.1, by show x.n.addr < _; omega⟩
end Go.Proofs.YtiikagabdiphkaaGreat
