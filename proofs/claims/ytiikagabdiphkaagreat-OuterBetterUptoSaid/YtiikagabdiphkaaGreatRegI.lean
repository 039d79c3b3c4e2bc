/- A law for regions that draw their order: an invariant over what has been done, in place of a walk for each order. No theorem of the program stands here. -/
import Derived.Test.YtiikagabdiphkaaGreatLib5
import Derived.StillTailTactics
namespace Go.Lo
open Go.RowKit

section
variable {P : Program} {ops : Array Oper} {Q : Exit → Act → World → Prop}

/-- how many are left -/
def leftN (n : Nat) (L : Array Bool) : Nat := ((List.range n).filter fun i => !L.getD i true).length

theorem leftN_set {n : Nat} {L : Array Bool} {i : Nat} (hi : i < n) (hs : L.size = n) (hu : L.getD i true = false) : leftN n (L.setIfInBounds i true) + 1 ≤ leftN n L := by
  unfold leftN
  have h1 : ∀ j, (!(L.setIfInBounds i true).getD j true) = ((!L.getD j true) && !(j == i)) := by
    intro j
    simp only [Array.getD_eq_getD_getElem?, Array.getElem?_setIfInBounds]
    by_cases hj : i = j
    · subst hj
      simp [hs, hi]
    · have hj' : (j == i) = false := by simp; omega
      simp [hj, hj']
  simp only [h1]
  rw [← List.filter_filter, ← List.countP_eq_length_filter, ← List.countP_eq_length_filter, List.countP_filter]
  have h2 : (List.range n).countP (fun j => (!L.getD j true)) = (List.range n).countP (fun j => (!(j == i)) && (!L.getD j true)) + (List.range n).countP (fun j => (j == i) && (!L.getD j true)) := by
    induction List.range n with
    | nil => rfl
    | cons x r ih =>
      simp only [List.countP_cons, ih]
      by_cases hx : x = i
      · subst hx
        simp
        omega
      · have : (x == i) = false := by simp [hx]
        simp [this]
        omega
  have h3 : 1 ≤ (List.range n).countP (fun j => (j == i) && (!L.getD j true)) := List.countP_pos_iff.2 ⟨i, List.mem_range.2 hi, by simp [hu]⟩
  have h4 : (List.range n).countP (fun a => (!L.getD a true) && !(a == i)) = (List.range n).countP (fun j => (!(j == i)) && (!L.getD j true)) := List.countP_congr fun x _ => by rw [Bool.and_comm]
  first
    | omega
    | (simp only [Bool.and_comm] at *; omega)

theorem ready_mem {L : Array Bool} {i : Nat} (h : i ∈ Region.ready .any ops L) : i < ops.size ∧ L.getD i true = false := by
  unfold Region.ready at h
  have := List.mem_filter.1 h
  refine ⟨List.mem_range.1 this.1, ?_⟩
  have h2 := this.2
  simp only [Bool.and_eq_true, Bool.not_eq_true'] at h2
  exact h2.1

theorem ready_after {L : Array Bool} {i : Nat} {o : Oper} (h : i ∈ Region.ready .any ops L) (ho : ops[i]? = some o) : (o.after.all fun e => !Region.binds .any e || L.getD e.on false) = true := by
  unfold Region.ready at h
  have := (List.mem_filter.1 h).2
  simp only [ho, Option.map_some, Option.getD_some, Bool.and_eq_true] at this
  exact this.2

def ordB (ops : Array Oper) : Bool := (List.range ops.size).all fun i => ((ops[i]?).map fun o => o.after.all fun e => decide (e.on < i)).getD true
theorem ord_of (h : ordB ops = true) : ∀ (i : Nat) (o : Oper), ops[i]? = some o → ∀ e ∈ o.after, e.on < i := by
  intro i o ho e he
  have hi : i < ops.size := (Array.getElem?_eq_some_iff.1 ho).1
  have h1 := List.all_eq_true.1 h i (List.mem_range.2 hi)
  simp only [ho, Option.map_some, Option.getD_some] at h1
  have h2 := (Array.all_eq_true'.1 h1) e he
  exact of_decide_eq_true h2

theorem all_listed (hord : ∀ (i : Nat) (o : Oper), ops[i]? = some o → ∀ e ∈ o.after, e.on < i) {L : Array Bool} (hs : L.size = ops.size) (hr : Region.ready .any ops L = []) : ∀ i, i < ops.size → L.getD i false = true := by
  intro i
  induction i using Nat.strongRecOn with
  | _ i ih =>
    intro hi
    cases hc : L.getD i false with
    | true => rfl
    | false =>
      exfalso
      have hmem : i ∈ Region.ready .any ops L := by
        unfold Region.ready
        refine List.mem_filter.2 ⟨List.mem_range.2 hi, ?_⟩
        have h1 : L.getD i true = false := by
          simp only [Array.getD_eq_getD_getElem?] at hc ⊢
          rw [Array.getElem?_eq_getElem (by omega)] at hc ⊢
          simpa using hc
        rw [h1]
        simp only [Bool.not_false, Bool.true_and]
        rw [Array.getElem?_eq_getElem hi]
        simp only [Option.map_some, Option.getD_some]
        rw [Array.all_eq_true']
        intro e he
        have := hord i _ (Array.getElem?_eq_getElem hi) e he
        rw [ih e.on this (by omega)]
        simp
      rw [hr] at hmem
      cases hmem

theorem wpAny_inv (hord : ∀ (i : Nat) (o : Oper), ops[i]? = some o → ∀ e ∈ o.after, e.on < i) (Inv : Array Bool → Act → World → Prop)
    (hs : ∀ L a w i, L.size = ops.size → i ∈ Region.ready .any ops L → Inv L a w → wpOp P ops Q i (fun a' w' => Inv (L.setIfInBounds i true) a' w') a w)
    (hf : ∀ L a w, (∀ i, i < ops.size → L.getD i false = true) → Inv L a w → Q .normal a w) :
    ∀ (fuel : Nat) (L : Array Bool) (a : Act) (w : World), L.size = ops.size → leftN ops.size L ≤ fuel → Inv L a w → wpAny P .any ops Q fuel L a w := by
  intro fuel
  induction fuel with
  | zero =>
    intro L a w hL hl hI
    have hr : Region.ready .any ops L = [] := by
      apply List.eq_nil_iff_forall_not_mem.2
      intro i hi
      obtain ⟨h1, h2⟩ := ready_mem hi
      have := leftN_set h1 hL h2
      omega
    exact ⟨hr, hf L a w (all_listed hord hL hr) hI⟩
  | succ fuel ih =>
    intro L a w hL hl hI
    refine ⟨fun hr => hf L a w (all_listed hord hL hr) hI, fun i hi => ?_⟩
    obtain ⟨h1, h2⟩ := ready_mem hi
    have := leftN_set h1 hL h2
    exact wpOp_mono (fun a' w' hI' => ih _ a' w' (by simpa using hL) (by omega) hI') (hs L a w i hL hi hI)

/-- a region that draws its order, by an invariant -/
theorem wp_region_inv {id : Nat} {a : Act} {w : World} (hm : P.follows .mixedOrders = true) (hord : ∀ (i : Nat) (o : Oper), ops[i]? = some o → ∀ e ∈ o.after, e.on < i) (Inv : Array Bool → Act → World → Prop)
    (h0 : Inv (Array.replicate ops.size false) a w.drew)
    (hs : ∀ L a w i, L.size = ops.size → i ∈ Region.ready .any ops L → Inv L a w → wpOp P ops Q i (fun a' w' => Inv (L.setIfInBounds i true) a' w') a w)
    (hf : ∀ L a w, (∀ i, i < ops.size → L.getD i false = true) → Inv L a w → Q .normal a w) : (Code.region id ops true).wp P Q a w :=
  wp_region_any hm (wpAny_inv hord Inv hs hf ops.size _ a _ (by simp) (by
    unfold leftN
    exact Nat.le_trans (List.length_filter_le _ _) (by simp)) h0)

/-- the same; the invariant may speak of the start -/
theorem wp_region_inv0 {id : Nat} {a : Act} {w : World} (Inv : Act → World → Array Bool → Act → World → Prop) (hm : P.follows .mixedOrders = true) (hord : ordB ops = true)
    (h0 : Inv a w (Array.replicate ops.size false) a w.drew)
    (hs : ∀ L a' w' i, L.size = ops.size → i ∈ Region.ready .any ops L → Inv a w L a' w' → wpOp P ops Q i (fun a2 w2 => Inv a w (L.setIfInBounds i true) a2 w2) a' w')
    (hf : ∀ L a' w', (∀ i, i < ops.size → L.getD i false = true) → Inv a w L a' w' → Q .normal a' w') : (Code.region id ops true).wp P Q a w :=
  wp_region_inv hm (ord_of hord) (Inv a w) h0 hs hf
theorem getD_low {L : Array Bool} {i : Nat} (h : L.getD i true = false) : L.getD i false = false := by
  simp only [Array.getD_eq_getD_getElem?] at h ⊢
  cases hc : L[i]? with
  | none => rfl
  | some b => rw [hc] at h; simpa using h
theorem getD_set {L : Array Bool} {i j : Nat} (hi : i < L.size) : (L.setIfInBounds i true).getD j false = if j = i then true else L.getD j false := by
  simp only [Array.getD_eq_getD_getElem?, Array.getElem?_setIfInBounds]
  by_cases h : i = j
  · subst h; simp [hi]
  · have : ¬ j = i := fun e => h e.symm
    simp [h, this]
end
end Go.Lo
