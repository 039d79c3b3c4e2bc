/- The document's Merge, in plain words. No walk stands here. -/
import Derived.Test.YtiikagabdiphkaaGreatRebN
namespace Go.Proofs.YtiikagabdiphkaaGreat
open Go.RowKit Go.Lo

def insAll (l : List WayG) : List WayG := l.foldl insP []
theorem insAll_snoc (l : List WayG) (g : WayG) : insAll (l ++ [g]) = insP (insAll l) g := by
  unfold insAll
  rw [List.foldl_append]
  rfl
theorem insP_len (l : List WayG) (w : WayG) : (insP l w).length ≤ l.length + 1 := by
  have h := ahead_le l (keyO w.1)
  unfold insP
  split
  · split
    · split
      · simp
      · split
        · simp
        · omega
    · simp only [List.length_append, List.length_take, List.length_cons, List.length_drop]; omega
  · simp only [List.length_append, List.length_take, List.length_cons, List.length_drop]; omega
theorem insP_sum (l : List WayG) (w : WayG) : hopsN (insP l w) ≤ hopsN l + w.2.length := by
  have hcons : ∀ (a : WayG) (r : List WayG), hopsN (a :: r) = a.2.length + hopsN r := fun a r => by simp [hopsN]
  have hnew : hopsN (l.take (ahead l (keyO w.1)) ++ w :: l.drop (ahead l (keyO w.1))) ≤ hopsN l + w.2.length := by
    have := hopsN_append (l.take (ahead l (keyO w.1))) (l.drop (ahead l (keyO w.1)))
    rw [List.take_append_drop] at this
    rw [hopsN_append, hcons]
    omega
  unfold insP
  cases hg : l[ahead l (keyO w.1)]? with
  | none => exact hnew
  | some o =>
    obtain ⟨hi, ho⟩ := List.getElem?_eq_some_iff.1 hg
    simp only
    split
    · split
      · have := hopsN_set l _ hi w
        omega
      · split
        · have h1 := puts_le (puts [] o.2) w.2
          have h2 := puts_le [] o.2
          simp only [List.length_nil] at h2
          have := hopsN_set l _ hi (o.1, puts (puts [] o.2) w.2)
          rw [ho] at this
          simp only at this
          omega
        · omega
    · exact hnew
theorem insAll_len (l : List WayG) : (insAll l).length ≤ l.length := by
  have : ∀ (l out : List WayG), (l.foldl insP out).length ≤ out.length + l.length := by
    intro l
    induction l with
    | nil => intro out; simp
    | cons x r ih =>
      intro out
      have h1 := ih (insP out x)
      have h2 := insP_len out x
      simp only [List.foldl_cons, List.length_cons]
      omega
  have h := this l []
  unfold insAll
  simpa using h
theorem insAll_sum (l : List WayG) : hopsN (insAll l) ≤ hopsN l := by
  have : ∀ (l out : List WayG), hopsN (l.foldl insP out) ≤ hopsN out + hopsN l := by
    intro l
    induction l with
    | nil => intro out; simp [hopsN]
    | cons x r ih =>
      intro out
      have h1 := ih (insP out x)
      have h2 := insP_sum out x
      have h3 : hopsN (x :: r) = x.2.length + hopsN r := by simp [hopsN]
      simp only [List.foldl_cons]
      omega
  have h := this l []
  unfold insAll
  simpa [hopsN] using h

/-- the next way of two lists -/
theorem both_get (RA RB : List WayG) (k : Nat) (h : k < RA.length + RB.length) : ∃ g, (RA ++ RB)[k]? = some g ∧ (RA ++ RB).take (k + 1) = (RA ++ RB).take k ++ [g] ∧ g ∈ RA ++ RB := by
  have hk : k < (RA ++ RB).length := by simpa using h
  exact ⟨(RA ++ RB)[k], List.getElem?_eq_getElem hk, List.take_succ_eq_append_getElem hk, List.getElem_mem hk⟩
theorem grown_setRow (w : World) (g : Nat) (cs : Array Value) : w.grownBy (w.setRow g cs) (some g) := ⟨rfl, rfl, rfl, by simp [World.setRow], fun k _ hne => setRow_other _ _ k _ (fun e => hne (by rw [e]))⟩

/-- the row of the k-th way of two lists, wherever it lies -/
structure BothAt (w : World) (B : Nat) (RA RB : List WayG) (la lb : List WayV) (aA bA : Option Addr) (k : Nat) (x : WayV) (xh : List Hop) (bq oq : Nat) : Prop where
  get : (RA ++ RB)[k]? = some (x.n, xh)
  lt : bq < B
  row : ∀ q u, (wayL x)[q]? = some u → w.cell? ⟨bq, oq + q, none⟩ = some u
  hops : Sl w B 3 (.slice x.A x.len x.cap) xh.length (xh.flatMap hopCells)
  side : (k < la.length ∧ ∃ off, aA = some ⟨bq, off, none⟩ ∧ oq = off + k * 10) ∨ (∃ j, k = la.length + j ∧ j < lb.length ∧ ∃ off, bA = some ⟨bq, off, none⟩ ∧ oq = off + j * 10)
theorem both_at {w : World} {B : Nat} {RA RB : List WayG} {la lb : List WayV} {aA bA : Option Addr} {ac bc : Nat} (hA : WaysIn w B (.slice aA la.length ac) RA la) (hB : WaysIn w B (.slice bA lb.length bc) RB lb) {k : Nat} (hk : k < la.length + lb.length) : ∃ x xh bq oq, BothAt w B RA RB la lb aA bA k x xh bq oq := by
  have h1 := hA.len
  have h2 := hB.len
  by_cases hka : k < la.length
  · obtain ⟨b, off, rfl, hb, hrow⟩ := Sl.row wayL_len hA.sl hka
    have hkR : k < RA.length := by omega
    refine ⟨la[k], RA[k].2, b, off + k * 10, ⟨?_, hb, fun q u hu => hrow q u hu, hA.hops k hka hkR, .inl ⟨hka, off, rfl, rfl⟩⟩⟩
    rw [List.getElem?_append_left hkR, List.getElem?_eq_getElem hkR, hA.n k hka hkR]
  · obtain ⟨j, rfl⟩ : ∃ j, k = la.length + j := ⟨k - la.length, by omega⟩
    have hj : j < lb.length := by omega
    have hjR : j < RB.length := by omega
    obtain ⟨b, off, rfl, hb, hrow⟩ := Sl.row wayL_len hB.sl hj
    refine ⟨lb[j], RB[j].2, b, off + j * 10, ⟨?_, hb, fun q u hu => hrow q u hu, hB.hops j hj hjR, .inr ⟨j, rfl, hj, off, rfl, rfl⟩⟩⟩
    rw [h1, List.getElem?_append_right (by omega), Nat.add_sub_cancel_left, List.getElem?_eq_getElem hjR, hB.n j hj hjR]
end Go.Proofs.YtiikagabdiphkaaGreat
