/- The program's merge, sorted, is the document's: in plain words. No walk stands here. -/
import Derived.Test.YtiikagabdiphkaaGreatMrfA
namespace Go.Proofs.YtiikagabdiphkaaGreat
open Go.RowKit Go.Lo

/-- two ways to one prefix -/
def comb (x w : WayG) : WayG := if betterP w.1 x.1 < 0 then w else if betterP w.1 x.1 = 0 then (x.1, puts (puts [] x.2) w.2) else x
theorem comb_key {x w : WayG} (h : keyO x.1 = keyO w.1) : keyO (comb x w).1 = keyO w.1 := by
  unfold comb
  split
  · rfl
  · split
    · exact h
    · exact h
theorem insP_lt {x w : WayG} {r : List WayG} (h : ltK2 (keyO x.1) (keyO w.1) = true) : insP (x :: r) w = x :: insP r w := by
  have h0 : ahead (x :: r) (keyO w.1) = ahead r (keyO w.1) + 1 := by
    unfold ahead
    rw [List.takeWhile_cons, h]
    simp
  unfold insP
  rw [h0]
  simp only [List.getElem?_cons_succ, List.set_cons_succ, List.take_succ_cons, List.drop_succ_cons, List.cons_append]
  cases r[ahead r (keyO w.1)]? with
  | none => rfl
  | some o =>
    simp only
    split
    · split
      · rfl
      · split
        · rfl
        · rfl
    · rfl
theorem insP_ge {x w : WayG} {r : List WayG} (h : ltK2 (keyO x.1) (keyO w.1) = false) : insP (x :: r) w = if keyO x.1 = keyO w.1 then comb x w :: r else w :: x :: r := by
  have h0 : ahead (x :: r) (keyO w.1) = 0 := by
    unfold ahead
    rw [List.takeWhile_cons, h]
    rfl
  unfold insP comb
  rw [h0]
  simp only [List.getElem?_cons_zero, List.set_cons_zero, List.take_zero, List.drop_zero, List.nil_append]
  split
  · split
    · rfl
    · split
      · rfl
      · rfl
  · rfl

theorem ltK2_iff (a b : K2) : ltK2 a b = true ↔ (a.1 < b.1 ∨ (a.1 = b.1 ∧ a.2 < b.2)) := by
  unfold ltK2
  simp
theorem ltK2_trans {a b c : K2} (h1 : ltK2 a b = true) (h2 : ltK2 b c = true) : ltK2 a c = true := by
  rw [ltK2_iff] at *
  omega
theorem ltK2_ne {a b : K2} (h : ltK2 a b = true) : a ≠ b := fun e => by
  rw [ltK2_iff, e] at h
  omega
theorem ltK2_of {a b : K2} (h : ltK2 a b = false) (hne : a ≠ b) : ltK2 b a = true := by
  have h1 : ¬ (a.1 < b.1 ∨ (a.1 = b.1 ∧ a.2 < b.2)) := fun e => by rw [(ltK2_iff a b).2 e] at h; cases h
  rw [ltK2_iff]
  by_cases h2 : a.1 = b.1
  · by_cases h3 : a.2 = b.2
    · exact absurd (Prod.ext h2 h3) hne
    · omega
  · omega

/-- each stands strictly ahead of the next ones -/
def Strict (l : List WayG) : Prop := l.Pairwise fun a b => ltK2 (keyO a.1) (keyO b.1) = true
/-- what lies in a row when a way more has come -/
def Came (s : List WayG) (w z : WayG) : Prop := (z ∈ s ∧ keyO z.1 ≠ keyO w.1) ∨ (z = w ∧ ∀ x ∈ s, keyO x.1 ≠ keyO w.1) ∨ ∃ x ∈ s, keyO x.1 = keyO w.1 ∧ z = comb x w
theorem ins_mem {s : List WayG} (hs : Strict s) (w z : WayG) : z ∈ insP s w ↔ Came s w z := by
  induction s with
  | nil =>
    show z ∈ [w] ↔ _
    unfold Came
    simp
  | cons x r ih =>
    obtain ⟨hx, hr⟩ := List.pairwise_cons.1 hs
    have ih := ih hr
    cases hl : ltK2 (keyO x.1) (keyO w.1) with
    | true =>
      have hxw := ltK2_ne hl
      rw [insP_lt hl, List.mem_cons, ih]
      unfold Came
      simp only [List.mem_cons, forall_eq_or_imp, exists_eq_or_imp]
      constructor
      · rintro (rfl | h | ⟨h1, h2⟩ | h)
        · exact .inl ⟨.inl rfl, hxw⟩
        · exact .inl ⟨.inr h.1, h.2⟩
        · exact .inr (.inl ⟨h1, hxw, h2⟩)
        · exact .inr (.inr (.inr h))
      · rintro (⟨rfl | h1, h2⟩ | ⟨h1, -, h3⟩ | ⟨h1, -⟩ | h)
        · exact .inl rfl
        · exact .inr (.inl ⟨h1, h2⟩)
        · exact .inr (.inr (.inl ⟨h1, h3⟩))
        · exact absurd h1 hxw
        · exact .inr (.inr (.inr h))
    | false =>
      rw [insP_ge hl]
      by_cases hk : keyO x.1 = keyO w.1
      · have hrk : ∀ y ∈ r, keyO y.1 ≠ keyO w.1 := fun y hy e => ltK2_ne (hx y hy) (by rw [hk, e])
        rw [if_pos hk, List.mem_cons]
        unfold Came
        simp only [List.mem_cons, forall_eq_or_imp, exists_eq_or_imp]
        constructor
        · rintro (h | h)
          · exact .inr (.inr (.inl ⟨hk, h⟩))
          · exact .inl ⟨.inr h, hrk z h⟩
        · rintro (⟨rfl | h1, h2⟩ | ⟨h1, h2, -⟩ | ⟨-, h⟩ | ⟨y, hy, h1, -⟩)
          · exact absurd hk h2
          · exact .inr h1
          · exact absurd hk h2
          · exact .inl h
          · exact absurd h1 (hrk y hy)
      · have hwx := ltK2_of hl hk
        have hrk : ∀ y ∈ r, keyO y.1 ≠ keyO w.1 := fun y hy e => ltK2_ne (ltK2_trans hwx (hx y hy)) e.symm
        rw [if_neg hk, List.mem_cons, List.mem_cons]
        unfold Came
        simp only [List.mem_cons, forall_eq_or_imp, exists_eq_or_imp]
        constructor
        · rintro (h | rfl | h)
          · exact .inr (.inl ⟨h, hk, hrk⟩)
          · exact .inl ⟨.inl rfl, hk⟩
          · exact .inl ⟨.inr h, hrk z h⟩
        · rintro (⟨rfl | h1, h2⟩ | ⟨h1, -⟩ | ⟨h1, -⟩ | ⟨y, hy, h1, -⟩)
          · exact .inr (.inl rfl)
          · exact .inr (.inr h1)
          · exact .inl h1
          · exact absurd h1 hk
          · exact absurd h1 (hrk y hy)
theorem came_key {s : List WayG} {w z : WayG} (h : Came s w z) : keyO z.1 = keyO w.1 ∨ z ∈ s := by
  rcases h with ⟨h, -⟩ | ⟨rfl, -⟩ | ⟨x, -, hx, rfl⟩
  · exact .inr h
  · exact .inl rfl
  · exact .inl (comb_key hx)
theorem ins_strict {s : List WayG} (hs : Strict s) (w : WayG) : Strict (insP s w) := by
  induction s with
  | nil => exact List.pairwise_singleton _ _
  | cons x r ih =>
    obtain ⟨hx, hr⟩ := List.pairwise_cons.1 hs
    cases hl : ltK2 (keyO x.1) (keyO w.1) with
    | true =>
      rw [insP_lt hl]
      refine List.pairwise_cons.2 ⟨fun z hz => ?_, ih hr⟩
      rcases came_key ((ins_mem hr w z).1 hz) with h | h
      · rw [h]; exact hl
      · exact hx z h
    | false =>
      rw [insP_ge hl]
      by_cases hk : keyO x.1 = keyO w.1
      · rw [if_pos hk]
        refine List.pairwise_cons.2 ⟨fun z hz => ?_, hr⟩
        rw [comb_key hk, ← hk]
        exact hx z hz
      · have hwx := ltK2_of hl hk
        rw [if_neg hk]
        refine List.pairwise_cons.2 ⟨fun z hz => ?_, hs⟩
        rcases List.mem_cons.1 hz with rfl | hz
        · exact hwx
        · exact ltK2_trans hwx (hx z hz)
theorem step_mem {o : List WayG} (ho : (keysO o).Nodup) (w z : WayG) : z ∈ mergeStep o w ↔ Came o w z := by
  unfold mergeStep
  cases ha : at_ o (keyO w.1) with
  | none =>
    have hn := at_none ha
    simp only [List.mem_append, List.mem_singleton]
    unfold Came
    constructor
    · rintro (h | h)
      · exact .inl ⟨h, hn z h⟩
      · exact .inr (.inl ⟨h, hn⟩)
    · rintro (h | h | ⟨x, hx, h, -⟩)
      · exact .inl h.1
      · exact .inr h.1
      · exact absurd h (hn x hx)
  | some i =>
    obtain ⟨hi, hk⟩ := at_some ha
    have hg : o.getD i w = o[i] := by simp [List.getD_eq_getElem?_getD, List.getElem?_eq_getElem hi]
    have hb := betterP_range w.1 o[i].1
    have he : (if betterP w.1 o[i].1 = -1 then o.set i w else if betterP w.1 o[i].1 = 0 then o.set i (o[i].1, puts (puts [] o[i].2) w.2) else o) = o.set i (comb o[i] w) := by
      unfold comb
      by_cases h1 : betterP w.1 o[i].1 = -1
      · rw [if_pos h1, if_pos (by omega)]
      · rw [if_neg h1, if_neg (show ¬ betterP w.1 o[i].1 < 0 by omega)]
        by_cases h2 : betterP w.1 o[i].1 = 0
        · rw [if_pos h2, if_pos h2]
        · rw [if_neg h2, if_neg h2, List.set_getElem_self]
    simp only [hg]
    rw [he]
    unfold Came
    constructor
    · intro h
      rcases mem_set_other h with h | ⟨j, hj, hji, rfl⟩
      · exact .inr (.inr ⟨o[i], List.getElem_mem hi, hk, h⟩)
      · exact .inl ⟨List.getElem_mem hj, fun e => hji (keys_inj ho hj hi (by rw [e, hk]))⟩
    · rintro (⟨h1, h2⟩ | ⟨-, h⟩ | ⟨x, hx, h1, rfl⟩)
      · obtain ⟨j, hj, rfl⟩ := List.mem_iff_getElem.1 h1
        have hji : i ≠ j := fun e => by subst e; exact h2 hk
        exact List.mem_iff_getElem.2 ⟨j, by simpa using hj, by rw [List.getElem_set_ne hji]⟩
      · exact absurd hk (h _ (List.getElem_mem hi))
      · obtain ⟨j, hj, rfl⟩ := List.mem_iff_getElem.1 hx
        obtain rfl := keys_inj ho hj hi (by rw [h1, hk])
        exact List.mem_iff_getElem.2 ⟨j, by simpa using hj, by simp⟩

theorem strict_keys {l : List WayG} (h : Strict l) : (keysO l).Nodup := by
  unfold keysO List.Nodup
  rw [List.pairwise_map]
  exact h.imp fun h1 => ltK2_ne h1
theorem strict_rises {l : List WayG} (h : Strict l) : RisesO l := by
  unfold RisesO
  refine h.imp fun {a b} h1 h2 => ?_
  rw [ltK2_iff] at h1
  unfold keyO at h1
  simp only at h1
  omega
theorem nodup_of_keys {l : List WayG} (h : (keysO l).Nodup) : l.Nodup := by
  unfold keysO List.Nodup at h
  rw [List.pairwise_map] at h
  exact h.imp fun h1 e => h1 (by rw [e])
theorem insAll_is (E : List WayG) : Strict (insAll E) ∧ ∀ z, z ∈ insAll E ↔ z ∈ mergeP E := by
  have : ∀ n, ∀ E : List WayG, E.length = n → Strict (insAll E) ∧ ∀ z, z ∈ insAll E ↔ z ∈ mergeP E := by
    intro n
    induction n with
    | zero =>
      intro E hE
      obtain rfl := List.eq_nil_of_length_eq_zero hE
      exact ⟨List.Pairwise.nil, fun z => Iff.rfl⟩
    | succ n ih =>
      intro E hE
      have hne : E ≠ [] := fun e => by subst e; simp at hE
      obtain ⟨h1, h2⟩ := ih E.dropLast (by rw [List.length_dropLast]; omega)
      rw [← List.dropLast_concat_getLast hne, insAll_snoc, mergeP_snoc]
      refine ⟨ins_strict h1 _, fun z => ?_⟩
      rw [ins_mem h1, step_mem (merged_ok _).once]
      unfold Came
      simp only [h2]
  exact this _ E rfl
/-- the merged ways in order are the document's -/
theorem merged_is {E ms : List WayG} (hp : ms.Perm (mergeP E)) (hr : RisesO ms) : ms = insAll E := by
  obtain ⟨h1, h2⟩ := insAll_is E
  refine rises_eq (hp.trans ?_) (strict_keys h1) hr (strict_rises h1)
  exact (List.perm_ext_iff_of_nodup (nodup_of_keys (merged_ok E).once) (nodup_of_keys (strict_keys h1))).2 fun z => (h2 z).symm
end Go.Proofs.YtiikagabdiphkaaGreat
