/- Two routers: what their shortest ways are. No program here. -/
import Derived.Test.YtdilbcmnfpmijaaSpread
namespace Go.Lo

def g17 : List GNode := [⟨false, 1, 0, 0, 0, [⟨1, 3, 7, false⟩]⟩, ⟨false, 2, 0, 0, 0, [⟨0, 3, 8, false⟩]⟩]
theorem g17_ok : okG g17 := by
  intro n hn e he
  simp only [g17, List.mem_cons, List.not_mem_nil, or_false] at hn
  rcases hn with rfl | rfl
  · have : e = ⟨1, 3, 7, false⟩ := by simpa using he
    subst this; decide
  · have : e = ⟨0, 3, 8, false⟩ := by simpa using he
    subst this; decide
theorem g17_way {i : Nat} {x : Int} (h : Way g17 0 i x) : i < 2 ∧ 0 ≤ x ∧ (i = 1 → 3 ≤ x) := by
  induction h with
  | here => exact ⟨by omega, by omega, by omega⟩
  | @on i j x e hw he ht hj ih =>
    obtain ⟨hi, hx, h1⟩ := ih
    have hc := esOf_cost g17_ok he
    have hi' : i = 0 ∨ i = 1 := by omega
    rcases hi' with rfl | rfl
    · have : e = ⟨1, 3, 7, false⟩ := by simpa [esOf, g17] using he
      subst this
      simp only at ht hc ⊢
      exact ⟨hj, by omega, by omega⟩
    · have : e = ⟨0, 3, 8, false⟩ := by simpa [esOf, g17] using he
      subst this
      have := h1 rfl
      simp only at ht hc ⊢
      exact ⟨hj, by omega, by omega⟩
theorem g17_costs {c : List Int} (h : Costs g17 0 c) : c = [0, 3] := by
  have hl : c.length = 2 := h.len
  match c, hl with
  | [a, b], _ =>
    have h0 : a = 0 := h.root0
    subst h0
    have h1 : at_ [0, b] 1 ≤ 0 + 3 := h.slack 0 (by simp) (by simp [at_, far]) ⟨1, 3, 7, false⟩ (by simp [esOf, g17]) 1 rfl (by simp)
    have h1' : b ≤ 3 := by simpa [at_] using h1
    have h2 := g17_way (h.way 1 (by simp) (by simp [at_, far]; omega))
    have h3 : 3 ≤ b := by have := h2.2.2 rfl; simpa [at_] using this
    have : b = 3 := by omega
    subst this; rfl
theorem g17_hop {i : Nat} {h : Hop} : HopOf g17 0 [0, 3] i h ↔ i = 1 ∧ h = (7, 2, false) := by
  have t0 : Tight g17 0 [0, 3] 0 ⟨1, 3, 7, false⟩ := by decide
  constructor
  · intro hh
    induction hh with
    | @first e he ht =>
      have : e = ⟨1, 3, 7, false⟩ := by simpa [esOf, g17] using he
      subst this
      exact ⟨rfl, rfl⟩
    | @on i e y hy hir he ht ih =>
      obtain ⟨rfl, rfl⟩ := ih
      have : e = ⟨0, 3, 8, false⟩ := by simpa [esOf, g17] using he
      subst this
      exact absurd rfl ht.2.2.1
  · rintro ⟨rfl, rfl⟩
    exact HopOf.first (e := ⟨1, 3, 7, false⟩) (by simp [esOf, g17]) t0
theorem g17_hops {H : List (List Hop)} (h : Hops g17 0 [0, 3] H) : H = [[], [(7, 2, false)]] := by
  have hl : H.length = 2 := h.len
  match H, hl with
  | [a, b], _ =>
    have ha : a = [] := by
      refine List.eq_nil_iff_forall_not_mem.2 fun x hx => ?_
      have := (g17_hop.1 ((h.mem 0 x).1 hx)).1
      omega
    have hb : b = [(7, 2, false)] := by
      refine (h.sorted 1).ext (List.pairwise_singleton _ _) fun x => ?_
      rw [List.mem_singleton]
      exact ⟨fun hx => (g17_hop.1 ((h.mem 1 x).1 hx)).2, fun hx => (h.mem 1 x).2 (g17_hop.2 ⟨rfl, hx⟩)⟩
    rw [ha, hb]
end Go.Lo
