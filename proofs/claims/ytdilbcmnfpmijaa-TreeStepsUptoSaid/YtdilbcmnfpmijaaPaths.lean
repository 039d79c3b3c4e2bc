/- Graphs as plain data, ways, and what the search for the shortest of them keeps true from step to step. No program here. -/
import Derived.Test.YtdilbcmnfpmijaaHops
namespace Go.Lo

structure GEdge where
  to : Int
  cost : Int
  data : Int
  virt : Bool
structure GNode where
  network : Bool
  id : Int
  netA : Int
  netB : Int
  flags : Int
  edges : List GEdge

def far : Int := 4294967296
def esOf (g : List GNode) (i : Nat) : List GEdge := match g[i]? with | some n => n.edges | none => []
def okG (g : List GNode) : Prop := ∀ n ∈ g, ∀ e ∈ n.edges, 0 ≤ e.cost ∧ e.cost ≤ 4294967295

theorem esOf_eq {g : List GNode} {i : Nat} (h : i < g.length) : esOf g i = g[i].edges := by unfold esOf; rw [List.getElem?_eq_getElem h]
theorem esOf_cost {g : List GNode} (hg : okG g) {i : Nat} {e : GEdge} (he : e ∈ esOf g i) : 0 ≤ e.cost ∧ e.cost ≤ 4294967295 := by
  unfold esOf at he
  split at he
  · rename_i n hn
    exact hg n (List.mem_of_getElem? hn) e he
  · cases he

/-- there is a way of that length -/
inductive Way (g : List GNode) (root : Nat) : Nat → Int → Prop where
  | here : Way g root root 0
  | on {i j : Nat} {x : Int} {e : GEdge} : Way g root i x → e ∈ esOf g i → e.to = j → j < g.length → Way g root j (x + e.cost)

theorem Way.nonneg {g : List GNode} (hg : okG g) {root i : Nat} {x : Int} (h : Way g root i x) : 0 ≤ x := by
  induction h with
  | here => exact Int.le_refl _
  | on _ he _ _ ih => have := (esOf_cost hg he).1; omega

def at_ (c : List Int) (i : Nat) : Int := c.getD i far
/-- all of these edges are no shorter way -/
def Slack (c : List Int) (x : Int) (es : List GEdge) : Prop := ∀ e ∈ es, ∀ j : Nat, e.to = j → j < c.length → at_ c j ≤ x + e.cost
/-- the edges that must be slack, but for those that wait -/
def part_ (g : List GNode) (cur : Option (Nat × Nat)) (i : Nat) : List GEdge :=
  match cur with
  | some (a, k) => if a = i then (esOf g i).take k else esOf g i
  | none => esOf g i

structure CInv (g : List GNode) (root : Nat) (c : List Int) (q : List (Int × Int)) (cur : Option (Nat × Nat)) : Prop where
  len : c.length = g.length
  root0 : at_ c root = 0
  rng : ∀ i, i < c.length → 0 ≤ at_ c i ∧ at_ c i ≤ far
  way : ∀ i, i < c.length → at_ c i < far → Way g root i (at_ c i)
  que : ∀ p ∈ q, 0 ≤ p.1 ∧ p.1 < far ∧ ∃ i : Nat, p.2 = i ∧ i < c.length ∧ at_ c i ≤ p.1
  done : ∀ i, i < c.length → at_ c i < far → (at_ c i, (i : Int)) ∈ q ∨ Slack c (at_ c i) (part_ g cur i)

theorem CInv.perm {g : List GNode} {root : Nat} {c : List Int} {q q' : List (Int × Int)} {cur : Option (Nat × Nat)} (h : CInv g root c q cur) (hp : q'.Perm q) : CInv g root c q' cur :=
  ⟨h.len, h.root0, h.rng, h.way, fun p hm => h.que p (hp.mem_iff.1 hm), fun i hi hf => (h.done i hi hf).imp (hp.mem_iff.2) id⟩

/-- a node that was found shorter already -/
theorem CInv.stale {g : List GNode} {root : Nat} {c : List Int} {q : List (Int × Int)} {x : Int} {i : Nat} (h : CInv g root c ((x, (i : Int)) :: q) none) (hx : at_ c i < x) : CInv g root c q none :=
  ⟨h.len, h.root0, h.rng, h.way, fun p hm => h.que p (List.mem_cons_of_mem _ hm), fun j hj hf => by
    rcases h.done j hj hf with h1 | h1
    · rcases List.mem_cons.1 h1 with h2 | h2
      · simp only [Prod.mk.injEq] at h2
        have : j = i := by omega
        subst this
        omega
      · exact .inl h2
    · exact .inr h1⟩

theorem CInv.begin {g : List GNode} {root : Nat} {c : List Int} {q : List (Int × Int)} {x : Int} {i : Nat} (h : CInv g root c ((x, (i : Int)) :: q) none) (_hx : at_ c i = x) : CInv g root c q (some (i, 0)) :=
  ⟨h.len, h.root0, h.rng, h.way, fun p hm => h.que p (List.mem_cons_of_mem _ hm), fun j hj hf => by
    by_cases hji : i = j
    · subst hji
      refine .inr ?_
      unfold part_
      simp only [if_true, List.take_zero]
      intro e he; cases he
    · rcases h.done j hj hf with h1 | h1
      · rcases List.mem_cons.1 h1 with h2 | h2
        · simp only [Prod.mk.injEq] at h2
          omega
        · exact .inl h2
      · refine .inr ?_
        unfold part_ at h1 ⊢
        simpa only [if_neg hji] using h1⟩

theorem CInv.skip {g : List GNode} {root : Nat} {c : List Int} {q : List (Int × Int)} {i k : Nat} (h : CInv g root c q (some (i, k))) (hk : k < (esOf g i).length)
    (hs : ∀ j : Nat, ((esOf g i)[k]).to = j → j < c.length → at_ c j ≤ at_ c i + ((esOf g i)[k]).cost) : CInv g root c q (some (i, k + 1)) :=
  ⟨h.len, h.root0, h.rng, h.way, h.que, fun j hj hf => by
    rcases h.done j hj hf with h1 | h1
    · exact .inl h1
    · refine .inr ?_
      unfold part_ at h1 ⊢
      by_cases hji : i = j
      · subst hji
        simp only [if_true] at h1 ⊢
        rw [List.take_succ_eq_append_getElem hk]
        intro e he m hm hmc
        rcases List.mem_append.1 he with he | he
        · exact h1 e he m hm hmc
        · have : e = (esOf g i)[k] := by simpa using he
          subst this
          exact hs m hm hmc
      · simpa only [if_neg hji] using h1⟩

theorem at_set_ne {c : List Int} {t i : Nat} {x : Int} (h : i ≠ t) : at_ (c.set t x) i = at_ c i := by
  unfold at_; rw [List.getD_eq_getElem?_getD, List.getD_eq_getElem?_getD, List.getElem?_set_ne (Ne.symm h)]
theorem at_set_eq {c : List Int} {t : Nat} {x : Int} (h : t < c.length) : at_ (c.set t x) t = x := by
  unfold at_; rw [List.getD_eq_getElem?_getD, List.getElem?_set_self h]; rfl

theorem CInv.step {g : List GNode} {root : Nat} {c : List Int} {q : List (Int × Int)} {i k t : Nat} (hg : okG g) (h : CInv g root c q (some (i, k))) (hi : i < c.length) (hif : at_ c i < far) (hk : k < (esOf g i).length)
    (ht : ((esOf g i)[k]).to = t) (htc : t < c.length) (hlt : at_ c i + ((esOf g i)[k]).cost < at_ c t) :
    CInv g root (c.set t (at_ c i + ((esOf g i)[k]).cost)) ((at_ c i + ((esOf g i)[k]).cost, (t : Int)) :: q) (some (i, k + 1)) := by
  have hc := esOf_cost hg (List.getElem_mem hk)
  have h0 := (h.rng i hi).1
  have htr := h.rng t htc
  have hit : i ≠ t := by rintro rfl; omega
  have hroot : root ≠ t := by rintro rfl; rw [h.root0] at hlt; omega
  have hle : ∀ j, at_ (c.set t (at_ c i + ((esOf g i)[k]).cost)) j ≤ at_ c j := fun j => by
    by_cases hj : j = t
    · subst hj; rw [at_set_eq htc]; omega
    · rw [at_set_ne hj]; exact Int.le_refl _
  generalize hx : at_ c i + ((esOf g i)[k]).cost = x at *
  refine ⟨by rw [List.length_set]; exact h.len, by rw [at_set_ne hroot]; exact h.root0, fun j hj => ?_, fun j hj hf => ?_, fun p hp => ?_, fun j hj hf => ?_⟩
  · rw [List.length_set] at hj
    by_cases e : j = t
    · subst e; rw [at_set_eq htc]; omega
    · rw [at_set_ne e]; exact h.rng j hj
  · rw [List.length_set] at hj
    by_cases e : j = t
    · subst e
      rw [at_set_eq htc, ← hx]
      exact Way.on (h.way i hi hif) (List.getElem_mem hk) ht (by rw [← h.len]; exact htc)
    · rw [at_set_ne e] at hf ⊢; exact h.way j hj hf
  · rcases List.mem_cons.1 hp with rfl | hp
    · exact ⟨by omega, by show x < far; omega, t, rfl, by rw [List.length_set]; exact htc, by rw [at_set_eq htc]; exact Int.le_refl _⟩
    · obtain ⟨h1, h2, m, h3, h4, h5⟩ := h.que p hp
      exact ⟨h1, h2, m, h3, by rw [List.length_set]; exact h4, Int.le_trans (hle m) h5⟩
  · rw [List.length_set] at hj
    by_cases e : j = t
    · subst e
      rw [at_set_eq htc]
      exact .inl (List.mem_cons_self ..)
    · rw [at_set_ne e] at hf ⊢
      rcases h.done j hj hf with h1 | h1
      · exact .inl (List.mem_cons_of_mem _ h1)
      · refine .inr ?_
        unfold part_ at h1 ⊢
        have old : ∀ es, Slack c (at_ c j) es → Slack (c.set t x) (at_ c j) es := fun es hs e' he' m hm hmc => Int.le_trans (hle m) (hs e' he' m hm (by rw [List.length_set] at hmc; exact hmc))
        by_cases hji : i = j
        · subst hji
          simp only [if_true] at h1 ⊢
          rw [List.take_succ_eq_append_getElem hk]
          intro e' he' m hm hmc
          rcases List.mem_append.1 he' with he' | he'
          · exact old _ h1 e' he' m hm hmc
          · have : e' = (esOf g i)[k] := by simpa using he'
            subst this
            have hmt : m = t := by omega
            subst hmt
            rw [at_set_eq htc]; omega
        · simp only [if_neg hji] at h1 ⊢
          exact old _ h1

theorem CInv.finish {g : List GNode} {root : Nat} {c : List Int} {q : List (Int × Int)} {i : Nat} (h : CInv g root c q (some (i, (esOf g i).length))) : CInv g root c q none :=
  ⟨h.len, h.root0, h.rng, h.way, h.que, fun j hj hf => (h.done j hj hf).imp id fun h1 => by
    unfold part_ at h1 ⊢
    by_cases hji : i = j
    · subst hji; simpa using h1
    · simpa only [if_neg hji] using h1⟩

/-- the costs of all nodes -/
structure Costs (g : List GNode) (root : Nat) (c : List Int) : Prop where
  len : c.length = g.length
  root0 : at_ c root = 0
  rng : ∀ i, i < c.length → 0 ≤ at_ c i ∧ at_ c i ≤ far
  way : ∀ i, i < c.length → at_ c i < far → Way g root i (at_ c i)
  slack : ∀ i, i < c.length → at_ c i < far → Slack c (at_ c i) (esOf g i)

theorem CInv.costs {g : List GNode} {root : Nat} {c : List Int} (h : CInv g root c [] none) : Costs g root c :=
  ⟨h.len, h.root0, h.rng, h.way, fun i hi hf => (h.done i hi hf).resolve_left (by simp)⟩

theorem CInv.start {g : List GNode} {root : Nat} (hr : root < g.length) : CInv g root ((List.replicate g.length far).set root 0) [(0, (root : Int))] none := by
  have hl : root < (List.replicate g.length far).length := by simpa using hr
  have hoth : ∀ j, j ≠ root → at_ ((List.replicate g.length far).set root 0) j = far := fun j hj => by
    rw [at_set_ne hj]; unfold at_; rw [List.getD_eq_getElem?_getD, List.getElem?_replicate]; split <;> rfl
  have hself : at_ ((List.replicate g.length far).set root 0) root = 0 := at_set_eq hl
  refine ⟨by simp, hself, fun i _ => ?_, fun i _ hf => ?_, fun p hp => ?_, fun i _ hf => ?_⟩
  · by_cases e : i = root
    · subst e; rw [hself]; simp [far]
    · rw [hoth i e]; simp [far]
  · by_cases e : i = root
    · subst e; rw [hself]; exact Way.here
    · rw [hoth i e] at hf; exact absurd hf (Int.lt_irrefl _)
  · have : p = (0, (root : Int)) := by simpa using hp
    subst this
    exact ⟨Int.le_refl _, by simp [far], root, rfl, by simpa using hr, by rw [hself]; exact Int.le_refl _⟩
  · by_cases e : i = root
    · subst e; rw [hself]; exact .inl (by simp)
    · rw [hoth i e] at hf; exact absurd hf (Int.lt_irrefl _)

/-- what is left to go -/
def sumC (c : List Int) : Nat := (c.map Int.toNat).sum
theorem sumC_set {c : List Int} {t : Nat} {x : Int} (ht : t < c.length) (h0 : 0 ≤ x) (hx : x < at_ c t) : sumC (c.set t x) + 1 ≤ sumC c := by
  induction c generalizing t with
  | nil => simp at ht
  | cons y r ih =>
    cases t with
    | zero =>
      have : x < y := by simpa [at_] using hx
      simp only [sumC, List.set_cons_zero, List.map_cons, List.sum_cons]
      omega
    | succ t =>
      have := ih (t := t) (by simpa using ht) (by simpa [at_] using hx)
      simp only [sumC, List.set_cons_succ, List.map_cons, List.sum_cons] at this ⊢
      omega
theorem sumC_le {c : List Int} (h : ∀ i, i < c.length → at_ c i ≤ far) : sumC c ≤ c.length * 4294967296 := by
  induction c with
  | nil => simp [sumC]
  | cons y r ih =>
    have h1 := h 0 (by simp)
    have h2 := ih fun i hi => by have := h (i + 1) (by simpa using hi); simpa [at_] using this
    simp only [at_, List.getD_cons_zero, far] at h1
    simp only [sumC, List.map_cons, List.sum_cons, List.length_cons] at h2 ⊢
    omega
end Go.Lo
