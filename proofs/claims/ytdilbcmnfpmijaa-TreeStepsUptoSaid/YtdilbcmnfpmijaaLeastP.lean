/- Plain laws of shortest ways: the costs are least, each but the root's has a node before it, they stay small where the edges' costs do, and each node that is reached has a first step; a first step's rest. No program here. Conditions: as each theorem says. -/
import Derived.Test.YtdilbcmnfpmijaaSpread
namespace Go.Lo

theorem esOf_lt {g : List GNode} {i : Nat} {e : GEdge} (he : e ∈ esOf g i) : i < g.length := by
  rcases Nat.lt_or_ge i g.length with h1 | h1
  · exact h1
  · unfold esOf at he; rw [List.getElem?_eq_none h1] at he; cases he

section
variable {g : List GNode} {root : Nat} {c : List Int}

theorem Costs.least (hc : Costs g root c) (hg : okG g) (hr : root < g.length) {i : Nat} {x : Int} (hw : Way g root i x) (hx : x < far) : i < g.length ∧ at_ c i ≤ x := by
  induction hw with
  | here => exact ⟨hr, by rw [hc.root0]; exact Int.le_refl _⟩
  | @on i' j x' e hw he hto hj ih =>
    have h0 := (esOf_cost hg he).1
    obtain ⟨h1, h2⟩ := ih (by omega)
    have h3 := hc.slack i' (by rw [hc.len]; exact h1) (by omega) e he j hto (by rw [hc.len]; exact hj)
    exact ⟨hj, by omega⟩

theorem Costs.tight (hc : Costs g root c) (hg : okG g) (hr : root < g.length) {i j : Nat} {x : Int} {e : GEdge} (hw : Way g root i x) (he : e ∈ esOf g i) (hto : e.to = j) (hj : j < g.length) (hx : x + e.cost = at_ c j) (hf : at_ c j < far) :
    at_ c i = x := by
  have h0 := (esOf_cost hg he).1
  obtain ⟨h1, h2⟩ := hc.least hg hr hw (by omega)
  have h3 := hc.slack i (by rw [hc.len]; exact h1) (by omega) e he j hto (by rw [hc.len]; exact hj)
  omega

theorem Costs.pred (hc : Costs g root c) (hg : okG g) (hr : root < g.length) {i : Nat} (hi : i < g.length) (hf : at_ c i < far) (hir : i ≠ root) :
    ∃ j e, j < g.length ∧ e ∈ esOf g j ∧ e.to = (i : Int) ∧ at_ c j + e.cost = at_ c i ∧ at_ c j < far := by
  have hw := hc.way i (by rw [hc.len]; exact hi) hf
  generalize hx : at_ c i = x at hw
  cases hw with
  | here => exact absurd rfl hir
  | @on i' _ x' e hw he hto hj =>
    have h0 := (esOf_cost hg he).1
    have ht := hc.tight hg hr hw he hto hj hx.symm hf
    exact ⟨i', e, esOf_lt he, he, hto, by omega, by omega⟩

theorem Costs.hop (hc : Costs g root c) (hg : okG g) (hr : root < g.length) {i : Nat} {x : Int} (hw : Way g root i x) (hx : x = at_ c i) (hf : x < far) (hir : i ≠ root) : ∃ h, HopOf g root c i h := by
  induction hw with
  | here => exact absurd rfl hir
  | @on i' j x' e hw he hto hj ih =>
    have h0 := (esOf_cost hg he).1
    have ht := hc.tight hg hr hw he hto hj hx (by omega)
    have hjn : e.to.toNat = j := by omega
    have hT : Tight g root c i' e := ⟨by omega, by omega, by omega, by rw [hjn]; omega, by rw [hjn]; omega⟩
    by_cases h1 : i' = root
    · subst h1
      exact ⟨_, hjn ▸ HopOf.first he hT⟩
    · obtain ⟨h, hh⟩ := ih ht.symm (by omega) h1
      exact ⟨_, hjn ▸ HopOf.on hh h1 he hT⟩

theorem Hops.some_ {H : List (List Hop)} (hH : Hops g root c H) (hc : Costs g root c) (hg : okG g) (hr : root < g.length) {i : Nat} (hi : i < g.length) (hf : at_ c i < far) (hir : i ≠ root) : hAt H i ≠ [] := by
  obtain ⟨h, hh⟩ := hc.hop hg hr (hc.way i (by rw [hc.len]; exact hi) hf) rfl hf hir
  have := (hH.mem i h).2 hh
  intro hn; rw [hn] at this; cases this

theorem HopOf.not_root {i : Nat} {h : Hop} (hh : HopOf g root c i h) : i ≠ root ∧ at_ c i < far ∧ i < g.length := by
  cases hh with
  | first he ht => obtain ⟨h1, h2, h3, _, h5⟩ := ht; exact ⟨by omega, h5, by omega⟩
  | on _ _ he ht => obtain ⟨h1, h2, h3, _, h5⟩ := ht; exact ⟨by omega, h5, by omega⟩

theorem Hops.root_ {H : List (List Hop)} (hH : Hops g root c H) : hAt H root = [] := by
  cases h : hAt H root with
  | nil => rfl
  | cons x r => exact absurd rfl ((hH.mem root x).1 (by rw [h]; exact List.mem_cons_self ..)).not_root.1

theorem countP_lt {l : List Int} {p q : Int → Bool} (h : ∀ x ∈ l, p x = true → q x = true) {y : Int} (hy : y ∈ l) (h1 : q y = true) (h2 : p y = false) : l.countP p < l.countP q := by
  induction l with
  | nil => cases hy
  | cons a l ih =>
    have hm : l.countP p ≤ l.countP q := List.countP_mono_left fun x hx => h x (List.mem_cons_of_mem _ hx)
    rw [List.countP_cons, List.countP_cons]
    rcases List.mem_cons.1 hy with rfl | hy
    · rw [h1, h2]; simp; omega
    · have := ih (fun x hx => h x (List.mem_cons_of_mem _ hx)) hy
      have ha := h a (List.mem_cons_self ..)
      cases hp : p a <;> cases hq : q a <;> simp_all <;> omega

theorem Costs.gap (hc : Costs g root c) (hg : okG g) (hr : root < g.length) {M : Int} (hM : ∀ i, ∀ e ∈ esOf g i, e.cost ≤ M) {i : Nat} {x : Int} (hw : Way g root i x) (hx : x = at_ c i) (hf : x < far) (h0 : 0 < x) :
    ∃ j, j < g.length ∧ at_ c j < x ∧ x ≤ at_ c j + M := by
  induction hw with
  | here => omega
  | @on i' j x' e hw he hto hj ih =>
    have hc0 := (esOf_cost hg he).1
    have hcM := hM i' e he
    have ht := hc.tight hg hr hw he hto hj hx (by omega)
    by_cases he0 : e.cost = 0
    · obtain ⟨k, h1, h2, h3⟩ := ih ht.symm (by omega) (by omega)
      exact ⟨k, h1, by omega, by omega⟩
    · exact ⟨i', esOf_lt he, by omega, by omega⟩

theorem Costs.count (hc : Costs g root c) (hg : okG g) (hr : root < g.length) {M : Nat} (hM : ∀ i, ∀ e ∈ esOf g i, e.cost ≤ M) (k : Nat) : ∀ i, i < g.length → at_ c i < far → c.countP (fun u => decide (u < at_ c i)) ≤ k → at_ c i ≤ M * k := by
  induction k with
  | zero =>
    intro i hi hf hk
    have hcl := hc.len
    rcases Int.lt_or_le 0 (at_ c i) with h0 | h0
    · exfalso
      obtain ⟨j, hj, h1, h2⟩ := hc.gap hg hr hM (hc.way i (by omega) hf) rfl hf h0
      have hjm : at_ c j ∈ c := by unfold at_; rw [List.getD_eq_getElem?_getD, List.getElem?_eq_getElem (by omega)]; exact List.getElem_mem _
      have : 0 < c.countP (fun u => decide (u < at_ c i)) := List.countP_pos_iff.2 ⟨at_ c j, hjm, decide_eq_true h1⟩
      omega
    · omega
  | succ k ih =>
    intro i hi hf hk
    have hcl := hc.len
    have hmk : (M : Int) * ((k + 1 : Nat) : Int) = M * k + M := by rw [Int.natCast_succ, Int.mul_add, Int.mul_one]
    have hm0 : (0 : Int) ≤ M * k := Int.mul_nonneg (by omega) (by omega)
    rw [hmk]
    generalize (M : Int) * k = p at *
    rcases Int.lt_or_le 0 (at_ c i) with h0 | h0
    · obtain ⟨j, hj, h1, h2⟩ := hc.gap hg hr hM (hc.way i (by omega) hf) rfl hf h0
      have hjm : at_ c j ∈ c := by unfold at_; rw [List.getD_eq_getElem?_getD, List.getElem?_eq_getElem (by omega)]; exact List.getElem_mem _
      have hlt := countP_lt (l := c) (p := fun u => decide (u < at_ c j)) (q := fun u => decide (u < at_ c i)) (fun x _ hx => decide_eq_true (by have := of_decide_eq_true hx; omega)) hjm (decide_eq_true h1) (decide_eq_false (by omega))
      have := ih j hj (by omega) (by omega)
      omega
    · omega

/-- where each edge costs M at most, no node is farther than the nodes' number times M -/
theorem Costs.bound (hc : Costs g root c) (hg : okG g) (hr : root < g.length) {M : Nat} (hM : ∀ i, ∀ e ∈ esOf g i, e.cost ≤ M) {i : Nat} (hi : i < g.length) (hf : at_ c i < far) : at_ c i ≤ M * g.length := by
  have := hc.count hg hr hM g.length i hi hf (by have := List.countP_le_length (p := fun u => decide (u < at_ c i)) (l := c); rw [hc.len] at this; exact this)
  exact this

theorem Way.lead {a b i : Nat} {x y : Int} (h : Way g a b x) (k : Way g b i y) : Way g a i (x + y) := by
  induction k with
  | here => rw [Int.add_zero]; exact h
  | on _ he hto hj ih => rw [← Int.add_assoc]; exact Way.on ih he hto hj

/-- a first step among routers alone: an edge of the root, and the rest of the way -/
theorem HopOf.rest (hn : ∀ j, netAt g j = false) {i : Nat} {h : Hop} (hh : HopOf g root c i h) :
    ∃ e ∈ esOf g root, 0 ≤ e.to ∧ e.to < g.length ∧ h = (e.data, idAt g e.to.toNat, e.virt) ∧ ∃ y, Way g e.to.toNat i y ∧ at_ c i = at_ c root + e.cost + y := by
  induction hh with
  | @first e he ht =>
    obtain ⟨h1, h2, h3, h4, h5⟩ := ht
    refine ⟨e, he, h1, h2, by unfold first_; rw [hn]; rfl, 0, Way.here, by omega⟩
  | @on i e h hh hir he ht ih =>
    obtain ⟨e0, he0, ha, hb, hh0, y, hy, hyc⟩ := ih
    obtain ⟨h1, h2, h3, h4, h5⟩ := ht
    refine ⟨e0, he0, ha, hb, by unfold on_; rw [hn]; exact hh0, y + e.cost, Way.on hy he (by omega) (by omega), by omega⟩

/-- along a first step the rest is shorter by its cost -/
theorem Hops.steps (hc : Costs g root c) (hg : okG g) (hr : root < g.length) (hn : ∀ j, netAt g j = false) {i : Nat} {h : Hop} (hh : HopOf g root c i h) :
    ∃ e ∈ esOf g root, 0 ≤ e.to ∧ e.to < g.length ∧ h = (e.data, idAt g e.to.toNat, e.virt) ∧
      ∀ c', Costs g e.to.toNat c' → at_ c' i < far ∧ e.cost + at_ c' i = at_ c i := by
  obtain ⟨_, hf, hi⟩ := hh.not_root
  obtain ⟨e, he, h1, h2, h3, y, hy, hyc⟩ := hh.rest hn
  refine ⟨e, he, h1, h2, h3, fun c' hc' => ?_⟩
  have h0 := (esOf_cost hg he).1
  rw [hc.root0] at hyc
  have hto : e.to.toNat < g.length := by omega
  obtain ⟨_, k1⟩ := hc'.least hg hto hy (by omega)
  have hf' : at_ c' i < far := by omega
  have hw' := hc'.way i (by rw [hc'.len]; exact hi) hf'
  have hstep : Way g root e.to.toNat (0 + e.cost) := Way.on Way.here he (by omega) hto
  obtain ⟨_, k2⟩ := hc.least hg hr (hstep.lead hw') (by omega)
  exact ⟨hf', by omega⟩
end
end Go.Lo
