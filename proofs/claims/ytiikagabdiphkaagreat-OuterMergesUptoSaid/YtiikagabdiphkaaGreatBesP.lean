/- outer.Merge in plain words: each prefix once, nothing better was there, merging again changes nothing. No walk stands here. -/
import Derived.Test.YtiikagabdiphkaaGreatMerN
namespace Go.Proofs.YtiikagabdiphkaaGreat
open Go.RowKit Go.Lo

theorem betterP_le (a b : WayN) : betterP a b ≤ 0 ↔ (a.kind < b.kind ∨ a.kind = b.kind ∧ (a.kind = 4 ∧ (a.far < b.far ∨ a.far = b.far ∧ a.cost ≤ b.cost) ∨ a.kind ≠ 4 ∧ a.cost ≤ b.cost)) := by
  unfold betterP
  simp only [orI, cmpI]
  repeat' split
  all_goals omega
theorem cmpI_swap (a b : Int) : cmpI b a = - cmpI a b := by
  unfold cmpI
  split <;> split <;> first | omega | (split <;> omega)
theorem orI_neg (x y z : Int) : orI [-x, -y, -z] = - orI [x, y, z] := by
  simp only [orI]
  by_cases h1 : x = 0 <;> by_cases h2 : y = 0 <;> by_cases h3 : z = 0 <;> simp [h1, h2, h3]
theorem cmpI_zero {a b : Int} (h : cmpI a b = 0) : a = b := by
  unfold cmpI at h
  split at h
  · omega
  · split at h <;> omega
theorem betterP_swap (a b : WayN) : betterP b a = - betterP a b := by
  unfold betterP
  rw [← orI_neg, ← cmpI_swap a.kind b.kind, ← cmpI_swap a.cost b.cost]
  by_cases h : cmpI b.kind a.kind = 0
  · rw [cmpI_zero h]
    by_cases h4 : a.kind = 4
    · rw [if_pos h4, if_pos h4, ← cmpI_swap a.far b.far]
    · rw [if_neg h4, if_neg h4]
      rfl
  · simp only [orI, if_neg h]
theorem betterP_self (a : WayN) : betterP a a = 0 := by
  have h := betterP_swap a a
  omega
theorem betterP_range (a b : WayN) : -1 ≤ betterP a b ∧ betterP a b ≤ 1 := by
  unfold betterP
  simp only [orI, cmpI]
  repeat' split
  all_goals omega
theorem betterP_trans (a b c : WayN) (h1 : betterP a b ≤ 0) (h2 : betterP b c ≤ 0) : ¬ 0 < betterP a c := by
  rw [betterP_le] at h1 h2
  have := (betterP_le a c).2 (by omega)
  omega

def keysO (l : List WayG) : List K2 := l.map fun o => keyO o.1
/-- what holds of all that is merged -/
structure MergedOk (E out : List WayG) : Prop where
  once : (keysO out).Nodup
  all : ∀ e ∈ E, ∃ x ∈ out, keyO x.1 = keyO e.1
  best : ∀ e ∈ E, ∀ x ∈ out, keyO x.1 = keyO e.1 → 0 ≤ betterP e.1 x.1
  from_ : ∀ x ∈ out, ∃ e ∈ E, x.1 = e.1
theorem keys_inj {l : List WayG} (h : (keysO l).Nodup) {i j : Nat} (hi : i < l.length) (hj : j < l.length) (e : keyO l[i].1 = keyO l[j].1) : i = j := by
  have h1 : (keysO l)[i]'(by simpa [keysO] using hi) = (keysO l)[j]'(by simpa [keysO] using hj) := by simp [keysO, e]
  rcases Nat.lt_trichotomy i j with hlt | heq | hgt
  · exact absurd h1 ((List.pairwise_iff_getElem.1 h) i j _ _ hlt)
  · exact heq
  · exact absurd h1.symm ((List.pairwise_iff_getElem.1 h) j i _ _ hgt)
theorem keys_set {l : List WayG} {i : Nat} {q : WayG} (hi : i < l.length) (hq : keyO q.1 = keyO l[i].1) : keysO (l.set i q) = keysO l := by
  unfold keysO
  rw [List.map_set, hq]
  apply List.ext_getElem
  · simp
  · intro n h1 h2
    rw [List.getElem_set]
    split
    · rename_i h
      subst h
      simp
    · rfl
theorem mem_set_other {l : List WayG} {i : Nat} {q x : WayG} (hx : x ∈ l.set i q) : x = q ∨ ∃ j, ∃ hj : j < l.length, j ≠ i ∧ x = l[j] := by
  obtain ⟨j, hj, rfl⟩ := List.mem_iff_getElem.1 hx
  rw [List.getElem_set]
  by_cases h : i = j
  · left; rw [if_pos h]
  · right
    rw [if_neg h]
    exact ⟨j, by simpa using hj, fun e => h e.symm, rfl⟩
theorem merged_ok (E : List WayG) : MergedOk E (mergeP E) := by
  have : ∀ n, ∀ E : List WayG, E.length = n → MergedOk E (mergeP E) := by
    intro n
    induction n with
    | zero =>
      intro E hE
      obtain rfl := List.eq_nil_of_length_eq_zero hE
      exact ⟨List.nodup_nil, fun e he => (by cases he), fun e he => (by cases he), fun x hx => (by cases hx)⟩
    | succ n ih =>
      intro E hE
      obtain ⟨l, w, rfl⟩ : ∃ l w, E = l ++ [w] := ⟨E.dropLast, E.getLast (fun e => by rw [e] at hE; cases hE), (List.dropLast_concat_getLast _).symm⟩
      have h := ih l (by simpa using hE)
      rw [mergeP_snoc]
      generalize mergeP l = out at h
      unfold mergeStep
      cases hat : at_ out (keyO w.1) with
      | none =>
        have hno := at_none hat
        refine ⟨?_, fun e he => ?_, fun e he x hx hk => ?_, fun x hx => ?_⟩
        · unfold keysO
          rw [List.map_append, List.nodup_append]
          refine ⟨h.once, by simp, fun a ha b hb e => ?_⟩
          obtain ⟨o, ho, rfl⟩ := List.mem_map.1 ha
          simp only [List.map_cons, List.map_nil, List.mem_singleton] at hb
          exact hno o ho (by rw [e, hb])
        · rcases List.mem_append.1 he with he | he
          · obtain ⟨x, hx, hk⟩ := h.all e he
            exact ⟨x, List.mem_append_left _ hx, hk⟩
          · rw [List.mem_singleton.1 he]
            exact ⟨w, by simp, rfl⟩
        · rcases List.mem_append.1 he with he | he <;> rcases List.mem_append.1 hx with hx | hx
          · exact h.best e he x hx hk
          · rw [List.mem_singleton.1 hx] at hk
            obtain ⟨x0, hx0, hk0⟩ := h.all e he
            exact absurd (hk0.trans hk.symm) (hno x0 hx0)
          · rw [List.mem_singleton.1 he] at hk
            exact absurd hk (hno x hx)
          · rw [List.mem_singleton.1 he, List.mem_singleton.1 hx, betterP_self]
            exact Int.le_refl _
        · rcases List.mem_append.1 hx with hx | hx
          · obtain ⟨e, he, h1⟩ := h.from_ x hx
            exact ⟨e, List.mem_append_left _ he, h1⟩
          · rw [List.mem_singleton.1 hx]
            exact ⟨w, by simp, rfl⟩
      | some i =>
        obtain ⟨hi, hki⟩ := at_some hat
        have hgd : out.getD i w = out[i] := by simp [List.getD_eq_getElem?_getD, hi]
        simp only [hgd]
        have hother : ∀ j (hj : j < out.length), j ≠ i → keyO out[j].1 ≠ keyO w.1 := fun j hj hne e => hne (keys_inj h.once hj hi (by rw [e, hki]))
        have hr := betterP_range w.1 out[i].1
        have hset : ∀ q : WayG, keyO q.1 = keyO out[i].1 → (∃ e ∈ l ++ [w], q.1 = e.1) → 0 ≤ betterP w.1 q.1 → (∀ e ∈ l, keyO e.1 = keyO w.1 → 0 ≤ betterP e.1 q.1) → MergedOk (l ++ [w]) (out.set i q) := fun q hq hqe hqw hqb => by
          refine ⟨by rw [keys_set hi hq]; exact h.once, fun e he => ?_, fun e he x hx hk => ?_, fun x hx => ?_⟩
          · have : keyO e.1 ∈ keysO out := by
              rcases List.mem_append.1 he with he | he
              · obtain ⟨x, hx, hk⟩ := h.all e he
                exact List.mem_map.2 ⟨x, hx, hk⟩
              · rw [List.mem_singleton.1 he]
                exact List.mem_map.2 ⟨out[i], List.getElem_mem hi, hki⟩
            rw [← keys_set hi hq] at this
            obtain ⟨x, hx, hk⟩ := List.mem_map.1 this
            exact ⟨x, hx, hk⟩
          · rcases mem_set_other hx with rfl | ⟨j, hj, hji, rfl⟩
            · rcases List.mem_append.1 he with he | he
              · exact hqb e he (by rw [← hk, hq, hki])
              · rw [List.mem_singleton.1 he]
                exact hqw
            · rcases List.mem_append.1 he with he | he
              · exact h.best e he _ (List.getElem_mem hj) hk
              · rw [List.mem_singleton.1 he] at hk
                exact absurd hk (hother j hj hji)
          · rcases mem_set_other hx with rfl | ⟨j, hj, -, rfl⟩
            · exact hqe
            · obtain ⟨e, he, h1⟩ := h.from_ _ (List.getElem_mem hj)
              exact ⟨e, List.mem_append_left _ he, h1⟩
        have hbi : ∀ e ∈ l, keyO e.1 = keyO w.1 → 0 ≤ betterP e.1 out[i].1 := fun e he hk => h.best e he _ (List.getElem_mem hi) (by rw [hki, hk])
        split
        · rename_i hz
          refine hset w (by rw [hki]) ⟨w, by simp, rfl⟩ (by rw [betterP_self]; exact Int.le_refl _) fun e he hk => ?_
          have h1 := hbi e he hk
          have h2 := betterP_swap e.1 out[i].1
          have h3 := betterP_swap w.1 out[i].1
          apply Int.not_lt.1
          intro hlt
          exact betterP_trans out[i].1 e.1 w.1 (by omega) (by omega) (by omega)
        · split
          · rename_i hz
            obtain ⟨e, he, h1⟩ := h.from_ _ (List.getElem_mem hi)
            exact hset (out[i].1, _) rfl ⟨e, List.mem_append_left _ he, h1⟩ (by show 0 ≤ betterP w.1 out[i].1; omega) hbi
          · have := hset out[i] rfl (by
              obtain ⟨e, he, h1⟩ := h.from_ _ (List.getElem_mem hi)
              exact ⟨e, List.mem_append_left _ he, h1⟩) (by omega) hbi
            rw [List.set_getElem_self] at this
            exact this
  exact this _ E rfl
theorem mergeP_id (l : List WayG) : (keysO l).Nodup → mergeP l = l := by
  have : ∀ n, ∀ l : List WayG, l.length = n → (keysO l).Nodup → mergeP l = l := by
    intro n
    induction n with
    | zero =>
      intro l hl _
      obtain rfl := List.eq_nil_of_length_eq_zero hl
      rfl
    | succ n ih =>
      intro l hl hnd
      obtain ⟨r, w, rfl⟩ : ∃ r w, l = r ++ [w] := ⟨l.dropLast, l.getLast (fun e => by rw [e] at hl; cases hl), (List.dropLast_concat_getLast _).symm⟩
      unfold keysO at hnd
      rw [List.map_append, List.nodup_append] at hnd
      rw [mergeP_snoc, ih r (by simpa using hl) hnd.1]
      unfold mergeStep
      have hno : at_ r (keyO w.1) = none := by
        unfold at_
        rw [List.findIdx?_eq_none_iff]
        intro o ho
        simp only [beq_eq_false_iff_ne, ne_eq]
        intro e
        exact hnd.2.2 (keyO o.1) (List.mem_map.2 ⟨o, ho, rfl⟩) (keyO w.1) (by simp) e
      rw [hno]
  exact this _ l rfl

/-- no later one stands ahead of an earlier one -/
def RisesO (l : List WayG) : Prop := l.Pairwise fun a b => ¬ (b.1.addr < a.1.addr ∨ (b.1.addr = a.1.addr ∧ b.1.bits < a.1.bits))
theorem rises_of {xs : List WayY} (h : ∀ i j : Nat, i < j → ∀ (hj : j < xs.length) (hi : i < xs.length), ltO xs[j].1 xs[i].1 = false) : RisesO (gOf xs) := by
  unfold RisesO
  rw [List.pairwise_iff_getElem]
  intro i j hi hj hij hc
  have hi2 : i < xs.length := by simpa [gOf] using hi
  have hj2 : j < xs.length := by simpa [gOf] using hj
  have h1 := h i j hij hj2 hi2
  have h2 : (gOf xs)[i] = (xs[i].1.n, xs[i].2) := by simp [gOf]
  have h3 : (gOf xs)[j] = (xs[j].1.n, xs[j].2) := by simp [gOf]
  rw [h2, h3] at hc
  rw [(ltO_iff xs[j].1 xs[i].1).2 hc] at h1
  cases h1
theorem rises_eq {a b : List WayG} (hp : a.Perm b) (hb : (keysO b).Nodup) (ha : RisesO a) (hb2 : RisesO b) : a = b := by
  refine List.Perm.eq_of_pairwise (le := fun a b : WayG => ¬ (b.1.addr < a.1.addr ∨ (b.1.addr = a.1.addr ∧ b.1.bits < a.1.bits))) (fun x y hx hy h1 h2 => ?_) ha hb2 hp
  have hk : keyO x.1 = keyO y.1 := by
    unfold keyO
    simp only [Prod.mk.injEq]
    omega
  obtain ⟨i, hi, rfl⟩ := List.mem_iff_getElem.1 (hp.mem_iff.1 hx)
  obtain ⟨j, hj, rfl⟩ := List.mem_iff_getElem.1 hy
  have := keys_inj hb hi hj hk
  subst this
  rfl
/-- in order, each once: each stands strictly ahead of the next ones -/
theorem rises_lt {l : List WayG} (hn : (keysO l).Nodup) (hr : RisesO l) {i j : Nat} (hij : i < j) (hi : i < l.length) (hj : j < l.length) : l[i].1.addr < l[j].1.addr ∨ (l[i].1.addr = l[j].1.addr ∧ l[i].1.bits < l[j].1.bits) := by
  have h1 := (List.pairwise_iff_getElem.1 hr) i j hi hj hij
  have h2 : keyO l[i].1 ≠ keyO l[j].1 := fun e => by have := keys_inj hn hi hj e; omega
  unfold keyO at h2
  simp only [ne_eq, Prod.mk.injEq] at h2
  omega
theorem elig_eq {x e : WayG} (h : x.1 = e.1) : elig x = elig e := by
  unfold elig
  rw [h]
theorem merged_elig (E : List WayG) (hE : ∀ e ∈ E, elig e = true) : ∀ x ∈ mergeP E, elig x = true := fun x hx => by
  obtain ⟨e, he, h1⟩ := (merged_ok E).from_ x hx
  rw [elig_eq h1]
  exact hE e he
end Go.Proofs.YtiikagabdiphkaaGreat
