/- Hops as plain data: their order, and joining. No program here. -/
import Derived.WalkKit
namespace Go.Lo
/-- out, via, virtual -/
abbrev Hop := Int × Int × Bool
def hopLt (a b : Hop) : Bool :=
  if a.1 != b.1 then decide (a.1 < b.1) else if a.2.1 != b.2.1 then decide (a.2.1 < b.2.1) else (!a.2.2 && b.2.2)
/-- where a hop belongs -/
def insAt (l : List Hop) (h : Hop) : Nat := (l.takeWhile (hopLt · h)).length
def ins (l : List Hop) (h : Hop) : List Hop := if l[insAt l h]? = some h then l else l.take (insAt l h) ++ h :: l.drop (insAt l h)
def puts (l more : List Hop) : List Hop := more.foldl ins l

theorem insAt_le (l : List Hop) (h : Hop) : insAt l h ≤ l.length := List.takeWhile_prefix (l := l) (hopLt · h) |>.length_le
theorem insAt_of {l : List Hop} {h : Hop} {k : Nat} (hk : k ≤ l.length) (hb : ∀ i (hi : i < l.length), i < k → hopLt l[i] h = true) (he : ∀ hi : k < l.length, hopLt l[k] h = false) : insAt l h = k := by
  induction l generalizing k with
  | nil => simp at hk; subst hk; rfl
  | cons x r ih =>
    cases k with
    | zero =>
      have := he (by simp)
      simp only [List.getElem_cons_zero] at this
      simp [insAt, this]
    | succ k =>
      have h0 := hb 0 (by simp) (by omega)
      simp only [List.getElem_cons_zero] at h0
      have := ih (k := k) (by simpa using hk) (fun i hi hik => by have := hb (i + 1) (by simpa using hi) (by omega); simpa using this) (fun hi => by have := he (by simpa using hi); simpa using this)
      unfold insAt at this ⊢
      rw [List.takeWhile_cons, if_pos h0, List.length_cons, this]
theorem ins_at {l : List Hop} {h : Hop} {k : Nat} (hk : insAt l h = k) (hlt : k < l.length) (he : l[k] = h) : ins l h = l := by
  unfold ins; rw [hk, List.getElem?_eq_getElem hlt, he, if_pos rfl]
theorem ins_new {l : List Hop} {h : Hop} {k : Nat} (hk : insAt l h = k) (he : ∀ hi : k < l.length, l[k] ≠ h) : ins l h = l.take k ++ h :: l.drop k := by
  unfold ins; rw [hk, if_neg]
  intro h'
  obtain ⟨hi, h''⟩ := List.getElem?_eq_some_iff.1 h'
  exact he hi h''
theorem puts_snoc (l more : List Hop) (h : Hop) : puts l (more ++ [h]) = ins (puts l more) h := by simp [puts]
theorem puts_take (l more : List Hop) (k : Nat) (hk : k < more.length) : puts l (more.take (k + 1)) = ins (puts l (more.take k)) more[k] := by
  rw [List.take_succ_eq_append_getElem hk, puts_snoc]
theorem ins_length (l : List Hop) (h : Hop) : (ins l h).length ≤ l.length + 1 ∧ l.length ≤ (ins l h).length := by
  unfold ins; split
  · omega
  · have := insAt_le l h
    simp only [List.length_append, List.length_take, List.length_cons, List.length_drop]; omega
theorem puts_length (l more : List Hop) : (puts l more).length ≤ l.length + more.length := by
  induction more generalizing l with
  | nil => simp [puts]
  | cons x r ih =>
    have h1 := ih (ins l x)
    have h2 := (ins_length l x).1
    simp only [puts, List.foldl_cons, List.length_cons] at h1 ⊢
    omega

def hopCells (h : Hop) : List Value := [.int .u32 h.1, .int .u32 h.2.1, .bool h.2.2]
theorem hops_oneCell {l : List Hop} : ∀ u ∈ l.flatMap hopCells, u.oneCell' = true := by
  intro u hu
  obtain ⟨h, _, hh⟩ := List.mem_flatMap.1 hu
  simp only [hopCells, List.mem_cons, List.not_mem_nil, or_false] at hh
  rcases hh with rfl | rfl | rfl <;> rfl
theorem hopCells_len (h : Hop) : (hopCells h).length = 3 := rfl
end Go.Lo
