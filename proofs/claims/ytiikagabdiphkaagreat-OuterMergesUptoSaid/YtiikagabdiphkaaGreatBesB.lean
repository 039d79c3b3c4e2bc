/- outer.best in plain words: of the ways to one prefix the best is left; the map that says where each prefix stands. No walk stands here. -/
import Derived.Test.YtiikagabdiphkaaGreatBesA
namespace Go.Proofs.YtiikagabdiphkaaGreat
open Go.RowKit Go.Lo Go.Maps

/-- which prefix a way leads to -/
abbrev K2 := Int × Int
def keyO (n : WayN) : K2 := (n.addr, n.bits)
structure InO (k : K2) : Prop where
  a : 0 ≤ k.1 ∧ k.1 < 4294967296
  b : 0 ≤ k.2 ∧ k.2 < 256
def olit (k : K2) : Lit := .string (keyBytes [.int .u32 k.1, .int .u8 k.2])
abbrev oV (k : K2) : Value := .agg #[.int .u32 k.1, .int .u8 k.2]
theorem key_o (k : K2) (h : InO k) : keyOf Tryz.prog 35 (oV k) = some (olit k) := by
  have e1 : ((Tryz.prog).keyType 35 && (oV k).formed Tryz.prog 35) = true := by kernel_rfl
  obtain ⟨d, e2⟩ := types_many
  unfold keyOf
  rw [Tryz.underlying35]
  simp only [e1, if_true, e2, Value.cells]
  have h1 := lits_pre (d + 1) k.1 k.2 h.a h.b
  rw [show d + 1 + 2 = d + 3 from rfl] at h1
  rw [h1]
  rfl
theorem olit_inj {k k' : K2} (h : InO k) (h' : InO k') (e : olit k = olit k') : k = k' := by
  have := pref_keyed.inj (key_o k h) (by rw [e]; exact key_o k' h')
  obtain ⟨a, b⟩ := k
  obtain ⟨a', b'⟩ := k'
  simpa using this
theorem olit_key (k : K2) (h : InO k) : WideAt.IsKeyLit (olit k) := pref_keyed.key (key_o k h)

/-- the map says where each prefix stands -/
structure MapI (D : DataW Unit) (f : K2 → Option Nat) : Prop where
  none_ : ∀ k, InO k → f k = none → Maps.has D (olit k) = false
  some_ : ∀ k i, InO k → f k = some i → Maps.has D (olit k) = true ∧ ∀ z, D.atKey (olit k) z = .lit (.int .i64 i)
theorem MapI.start {f : K2 → Option Nat} (h : ∀ k, f k = none) : MapI (.map []) f := ⟨fun _ _ _ => rfl, fun k i _ e => by rw [h] at e; cases e⟩
theorem MapI.put {D : DataW Unit} {f f' : K2 → Option Nat} (h : MapI D f) (hD : IsMap D) (k : K2) (hk : InO k) (i : Nat) (hf : ∀ k', f' k' = if k' = k then some i else f k') : MapI (D.put (olit k) (.lit (.int .i64 i))) f' := by
  refine ⟨fun k' hk' h0 => ?_, fun k' j hk' hj => ?_⟩
  · rw [hf] at h0
    split at h0
    · cases h0
    · rename_i hne
      have hlne : olit k' ≠ olit k := fun e => hne (olit_inj hk' hk e)
      rw [has_put_other hlne]
      exact h.none_ k' hk' h0
  · rw [hf] at hj
    split at hj
    · rename_i he
      subst he
      simp only [Option.some.injEq] at hj
      subst hj
      exact ⟨has_put_same hD (olit_key _ hk) _, fun z => atKey_put_same hD (olit_key _ hk) _ z⟩
    · rename_i hne
      have hlne : olit k' ≠ olit k := fun e => hne (olit_inj hk' hk e)
      obtain ⟨h3, h4⟩ := h.some_ k' j hk' hj
      exact ⟨by rw [has_put_other hlne]; exact h3, fun z => by rw [atKey_put_other hlne]; exact h4 z⟩
theorem MapI.same {D : DataW Unit} {f f' : K2 → Option Nat} (h : MapI D f) (hf : ∀ k, f' k = f k) : MapI D f' := ⟨fun k hk e => h.none_ k hk (by rw [← hf]; exact e), fun k i hk e => h.some_ k i hk (by rw [← hf]; exact e)⟩

/-- where a prefix stands -/
def at_ (out : List WayG) (k : K2) : Option Nat := out.findIdx? fun o => keyO o.1 == k
/-- a way more -/
def mergeStep (out : List WayG) (w : WayG) : List WayG :=
  match at_ out (keyO w.1) with
  | none => out ++ [w]
  | some i => if betterP w.1 (out.getD i w).1 = -1 then out.set i w else if betterP w.1 (out.getD i w).1 = 0 then out.set i ((out.getD i w).1, puts (puts [] (out.getD i w).2) w.2) else out
def mergeP (l : List WayG) : List WayG := l.foldl mergeStep []
theorem mergeP_snoc (l : List WayG) (w : WayG) : mergeP (l ++ [w]) = mergeStep (mergeP l) w := by
  unfold mergeP
  rw [List.foldl_append]
  rfl
theorem at_some {out : List WayG} {k : K2} {i : Nat} (h : at_ out k = some i) : ∃ hi : i < out.length, keyO out[i].1 = k := by
  unfold at_ at h
  obtain ⟨hi, h1, -⟩ := List.findIdx?_eq_some_iff_getElem.1 h
  exact ⟨hi, by simpa using h1⟩
theorem at_none {out : List WayG} {k : K2} (h : at_ out k = none) : ∀ o ∈ out, keyO o.1 ≠ k := by
  unfold at_ at h
  rw [List.findIdx?_eq_none_iff] at h
  intro o ho e
  have := h o ho
  rw [e] at this
  simp at this
theorem at_snoc {out : List WayG} {w : WayG} (h : at_ out (keyO w.1) = none) (k : K2) : at_ (out ++ [w]) k = if k = keyO w.1 then some out.length else at_ out k := by
  unfold at_
  rw [List.findIdx?_append]
  by_cases hk : k = keyO w.1
  · rw [if_pos hk, hk]
    unfold at_ at h
    rw [h]
    simp [List.findIdx?_cons]
  · rw [if_neg hk]
    have h1 : (keyO w.1 == k) = false := by simpa using fun e => hk e.symm
    cases hq : out.findIdx? (fun o => keyO o.1 == k) with
    | none => simp [List.findIdx?_cons, h1]
    | some i => simp
theorem at_set {out : List WayG} {i : Nat} {w : WayG} (hi : i < out.length) (hw : keyO w.1 = keyO out[i].1) (k : K2) : at_ (out.set i w) k = at_ out k := by
  unfold at_
  induction out generalizing i with
  | nil => cases hi
  | cons x r ih =>
    cases i with
    | zero =>
      simp only [List.getElem_cons_zero] at hw
      simp only [List.set_cons_zero, List.findIdx?_cons, hw]
    | succ i =>
      simp only [List.length_cons, Nat.add_lt_add_iff_right] at hi
      simp only [List.getElem_cons_succ] at hw
      simp only [List.set_cons_succ, List.findIdx?_cons, ih hi hw]
theorem mergeStep_len (out : List WayG) (w : WayG) : (mergeStep out w).length ≤ out.length + 1 := by
  unfold mergeStep
  split
  · simp
  · split
    · simp
    · split
      · simp
      · omega
theorem mergeP_len (l : List WayG) : (mergeP l).length ≤ l.length := by
  have : ∀ (l out : List WayG), (l.foldl mergeStep out).length ≤ out.length + l.length := by
    intro l
    induction l with
    | nil => intro out; simp
    | cons x r ih =>
      intro out
      have h1 := ih (mergeStep out x)
      have h2 := mergeStep_len out x
      simp only [List.foldl_cons, List.length_cons]
      omega
  have h := this l []
  unfold mergeP
  simpa using h
/-- how many hops all these ways have -/
def hopsN (l : List WayG) : Nat := (l.map fun g => g.2.length).sum
theorem hopsN_append (a b : List WayG) : hopsN (a ++ b) = hopsN a + hopsN b := by simp [hopsN]
theorem hopsN_mem {l : List WayG} {g : WayG} (h : g ∈ l) : g.2.length ≤ hopsN l := by
  unfold hopsN
  induction l with
  | nil => cases h
  | cons x r ih =>
    simp only [List.map_cons, List.sum_cons]
    rcases List.mem_cons.1 h with rfl | h
    · omega
    · have := ih h; omega
theorem hopsN_take (l : List WayG) (k : Nat) : hopsN (l.take k) ≤ hopsN l := by
  have := hopsN_append (l.take k) (l.drop k)
  rw [List.take_append_drop] at this
  omega
theorem hopsN_filter (p : WayG → Bool) (l : List WayG) : hopsN (l.filter p) ≤ hopsN l := by
  unfold hopsN
  induction l with
  | nil => simp
  | cons x r ih =>
    rw [List.filter_cons]
    split
    · simp only [List.map_cons, List.sum_cons]; omega
    · simp only [List.map_cons, List.sum_cons]; omega
theorem hopsN_perm {a b : List WayG} (h : a.Perm b) : hopsN a = hopsN b := (h.map _).sum_nat
theorem hopsN_set (l : List WayG) (i : Nat) (hi : i < l.length) (q : WayG) : hopsN (l.set i q) + l[i].2.length = hopsN l + q.2.length := by
  unfold hopsN
  induction l generalizing i with
  | nil => cases hi
  | cons x r ih =>
    cases i with
    | zero =>
      simp only [List.set_cons_zero, List.map_cons, List.sum_cons, List.getElem_cons_zero]
      omega
    | succ i =>
      have := ih i (by simpa using hi)
      simp only [List.set_cons_succ, List.map_cons, List.sum_cons, List.getElem_cons_succ]
      omega
theorem mergeStep_sum (out : List WayG) (w : WayG) : hopsN (mergeStep out w) ≤ hopsN out + w.2.length := by
  unfold mergeStep
  split
  · rw [hopsN_append]
    simp [hopsN]
  · rename_i i hi
    obtain ⟨hil, -⟩ := at_some hi
    have hgd : out.getD i w = out[i] := by simp [List.getD_eq_getElem?_getD, hil]
    rw [hgd]
    split
    · have := hopsN_set out i hil w
      omega
    · split
      · have h1 := puts_le (puts [] out[i].2) w.2
        have h2 := puts_le [] out[i].2
        simp only [List.length_nil] at h2
        have := hopsN_set out i hil (out[i].1, puts (puts [] out[i].2) w.2)
        simp only at this
        omega
      · omega
theorem mergeP_sum (l : List WayG) : hopsN (mergeP l) ≤ hopsN l := by
  have : ∀ (l out : List WayG), hopsN (l.foldl mergeStep out) ≤ hopsN out + hopsN l := by
    intro l
    induction l with
    | nil => intro out; simp [hopsN]
    | cons x r ih =>
      intro out
      have h1 := ih (mergeStep out x)
      have h2 := mergeStep_sum out x
      have h3 : hopsN (x :: r) = x.2.length + hopsN r := by simp [hopsN]
      simp only [List.foldl_cons]
      omega
  have h := this l []
  unfold mergeP
  simpa [hopsN] using h
end Go.Proofs.YtiikagabdiphkaaGreat
