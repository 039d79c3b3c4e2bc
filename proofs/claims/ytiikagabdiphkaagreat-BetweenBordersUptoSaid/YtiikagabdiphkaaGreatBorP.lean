/- The plain law of BetweenBorders: every way's first steps are some border's. No walk stands here. -/
import Derived.Test.YtiikagabdiphkaaGreatMp
namespace Go.Proofs.YtiikagabdiphkaaGreat
open Go.RowKit Go.Lo

theorem mem_ins {l : List Hop} {h x : Hop} : x ∈ ins l h ↔ x ∈ l ∨ x = h := by
  unfold ins
  split
  · rename_i e
    constructor
    · exact .inl
    · rintro (h1 | rfl)
      · exact h1
      · exact List.mem_of_getElem? e
  · rw [List.mem_append, List.mem_cons]
    constructor
    · rintro (h1 | rfl | h1)
      · exact .inl (List.mem_of_mem_take h1)
      · exact .inr rfl
      · exact .inl (List.mem_of_mem_drop h1)
    · rintro (h1 | rfl)
      · rw [← List.take_append_drop (insAt l h) l, List.mem_append] at h1
        rcases h1 with h1 | h1
        · exact .inl h1
        · exact .inr (.inr h1)
      · exact .inr (.inl rfl)
theorem mem_puts {l m : List Hop} {x : Hop} : x ∈ puts l m ↔ x ∈ l ∨ x ∈ m := by
  induction m generalizing l with
  | nil => simp [puts]
  | cons y r ih =>
    have := ih (l := ins l y)
    simp only [puts, List.foldl_cons] at this ⊢
    rw [this, mem_ins, List.mem_cons, or_assoc]

/-- is a router a border, at such a cost at the most? -/
def bord (c : Int) (r : WayN) : Bool := bits BinOp.and IntKind.u8 r.flags 1 != 0 && decide (r.cost ≤ c)
/-- what is claimed of a way -/
def Backed (R : List WayG) (g : WayG) : Prop := g.1.kind = 2 ∧ ∀ h ∈ g.2, ∃ r ∈ R, bord g.1.cost r.1 = true ∧ h ∈ r.2

theorem decP_metric (t : Nat) (body : List Int) : 0 ≤ (decP t body).2.1 := by
  have hk := (decS_k body).1
  unfold decP
  simp only
  split
  · decide
  · split
    · decide
    · split
      · decide
      · exact hk
theorem leadT_backed {h : OHead} {body : List Int} {self : Int} {R : List WayG} {t : Nat} {g : WayG} (e : leadT h body self R t = some g) : Backed R g := by
  unfold leadT at e
  split at e
  · cases e
  split at e
  · cases e
  rename_i r hr
  have hm := List.mem_of_find?_eq_some hr
  have ho := List.find?_some hr
  have hd := decP_metric t body
  have hf : bits BinOp.and IntKind.u8 r.1.flags 1 != 0 := by
    unfold ofP at ho
    simp only [Bool.and_eq_true] at ho
    exact ho.2
  have hb : bord (r.1.cost + (decP t body).2.1) r.1 = true := by
    unfold bord
    rw [hf, Bool.true_and]
    exact decide_eq_true (by omega)
  split at e
  · cases e
  split at e
  · split at e
    · cases e
    · simp only [Option.some.injEq] at e
      subst e
      exact ⟨rfl, fun x hx => ⟨r, hm, hb, hx⟩⟩
  · simp only [Option.some.injEq] at e
    subst e
    exact ⟨rfl, fun x hx => ⟨r, hm, hb, hx⟩⟩
theorem leadP_backed {h : OHead} {body : List Int} {self : Int} {R : List WayG} {g : WayG} (e : leadP h body self R = some g) : Backed R g := by
  unfold leadP at e
  split at e
  · exact leadT_backed e
  · split at e
    · exact leadT_backed e
    · cases e
theorem leadsP_backed {S : List StG} {self : Int} {R : List WayG} : ∀ g ∈ leadsP S self R, Backed R g := fun g hg => by
  obtain ⟨s, -, hg2⟩ := List.mem_filterMap.1 hg
  exact leadP_backed hg2
theorem bestF_backed {R : List WayG} (gs : List WayG) : (∀ g ∈ gs, Backed R g) → ∀ k o, bestF gs k = some o → Backed R o := bestF_ind (fun gs f => (∀ g ∈ gs, Backed R g) → ∀ k o, f k = some o → Backed R o) (fun _ _ _ h => by cases h) (fun gs g ih hg k o h => by
  have ih2 := ih (fun x hx => hg x (by simp [hx])) k
  have hgg := hg g (by simp)
  rw [bestF_snoc] at h
  split at h
  · simp only [Option.some.injEq] at h
    subst h
    unfold bestStep
    cases hb : bestF gs k with
    | none => exact hgg
    | some x =>
      have hx := ih2 x hb
      simp only
      split
      · exact hgg
      · split
        · exact hx
        · rename_i h1 h2
          have hc : g.1.cost = x.1.cost := by omega
          refine ⟨hx.1, fun y hy => ?_⟩
          rcases mem_puts.1 hy with hy | hy
          · rcases mem_puts.1 hy with hy | hy
            · cases hy
            · exact hx.2 y hy
          · obtain ⟨r, hr, hbr, hyr⟩ := hgg.2 y hy
            exact ⟨r, hr, by rw [← hc]; exact hbr, hyr⟩
  · exact ih2 o h) gs
/-- what between.Routes leads to is backed -/
theorem routes_backed {S : List StG} {self : Int} {R : List WayG} {k : K3} {o : WayG} (h : bestF (leadsP S self R) k = some o) : Backed R o := bestF_backed _ leadsP_backed _ _ h
end Go.Proofs.YtiikagabdiphkaaGreat
