/- What layer 19's arguments hold, as plain lists. No condition. -/
import Derived.Test.YtiikagabdiphkaaGreatMus
import Derived.Test.YtiikagabdiphkaaGreatGuaN
namespace Go.Proofs.YtiikagabdiphkaaGreat
open Go.RowKit Go.Lo

theorem flat_u8 (l : List Int) : l.flatMap u8Cells = l.map u8c := by
  induction l with
  | nil => rfl
  | cons x r ih =>
    rw [List.flatMap_cons, ih]
    rfl
theorem states_of {W : World} {m : Nat} {sv : Value} {ls : List StV} (hsl : Sl W W.heap.size 9 sv ls.length (ls.flatMap stL)) (h : ∀ x ∈ ls, StateIs W m x) (hm : m ≤ 2000000) : ∃ S, StatesIn W W.heap.size sv S ls ∧ ArgS S := by
  obtain ⟨f, hf⟩ := Classical.axiomOfChoice (r := fun (x : StV) (body : List Int) => x ∈ ls → HeadOk x.h ∧ x.len = body.length ∧ Sl W W.heap.size 1 (.slice x.A x.len x.cap) body.length (body.map u8c) ∧ (∀ b ∈ body, 0 ≤ b ∧ b < 256) ∧ body.length ≤ m) (fun x => by
    by_cases hx : x ∈ ls
    · obtain ⟨h1, body, h2, h3, h4, h5⟩ := h x hx
      rw [flat_u8] at h3
      exact ⟨body, fun _ => ⟨h1, h2, h3, fun b hb => by have := h4 b hb; omega, h5⟩⟩
    · exact ⟨[], fun hx' => absurd hx' hx⟩)
  refine ⟨ls.map fun x => (x.h, f x), ⟨hsl, by simp, fun k hk hk2 => ?_⟩, fun s hs => ?_⟩
  · have := hf ls[k] (List.getElem_mem hk)
    simp only [List.getElem_map]
    exact this.2.2.1
  · obtain ⟨x, hx, rfl⟩ := List.mem_map.1 hs
    obtain ⟨h1, -, -, h4, h5⟩ := hf x hx
    exact ⟨h1, by show (f x).length ≤ _; omega, h4⟩
theorem ways_of {W : World} {m : Nat} {lv : Value} {lw : List WayV} (hsl : Sl W W.heap.size 10 lv lw.length (lw.flatMap wayL)) (h : ∀ x ∈ lw, WayIs W m x) (hm : m ≤ 2000000) : ∃ R, WaysIn W W.heap.size lv R lw ∧ ArgR R ∧ ∀ g ∈ R, InK (keyG g.1) := by
  obtain ⟨f, hf⟩ := Classical.axiomOfChoice (r := fun (x : WayV) (hops : List Hop) => x ∈ lw → ((0 ≤ x.n.bits ∧ x.n.bits < 256) ∧ ((0 ≤ x.n.addr ∧ x.n.addr ≤ 4294967295) ∧ 0 ≤ x.n.router ∧ x.n.router ≤ 4294967295) ∧ (0 ≤ x.n.cost ∧ x.n.cost ≤ 4294967295)) ∧ Sl W W.heap.size 3 (.slice x.A x.len x.cap) hops.length (hops.flatMap hopCells) ∧ hops.length ≤ m) (fun x => by
    by_cases hx : x ∈ lw
    · obtain ⟨h1, h2, h3, hops, h4, h5, h6⟩ := h x hx
      exact ⟨hops, fun _ => ⟨⟨h1, h2, h3⟩, h5, h6⟩⟩
    · exact ⟨[], fun hx' => absurd hx' hx⟩)
  refine ⟨lw.map fun x => (x.n, f x), ⟨hsl, by simp, fun k hk hk2 => ?_⟩, fun s hs => ?_, fun s hs => ?_⟩
  · have := hf lw[k] (List.getElem_mem hk)
    simp only [List.getElem_map]
    exact this.2.1
  · obtain ⟨x, hx, rfl⟩ := List.mem_map.1 hs
    obtain ⟨⟨h1, h2, h3⟩, -, h5⟩ := hf x hx
    exact ⟨⟨h3.1, by show x.n.cost < _; omega⟩, h1, by show (f x).length ≤ _; omega⟩
  · obtain ⟨x, hx, rfl⟩ := List.mem_map.1 hs
    obtain ⟨⟨h1, h2, -⟩, -, -⟩ := hf x hx
    exact ⟨⟨h2.1.1, by show x.n.addr < _; omega⟩, h1, ⟨h2.2.1, by show x.n.router < _; omega⟩⟩
end Go.Proofs.YtiikagabdiphkaaGreat
