/- The least way to each place, as a map. -/
import Derived.Test.YtiikagabdiphkaaGreatMod
import Derived.Test.YtiikagabdiphkaaGreatMjg
import Derived.Maps.OwnIn
namespace Go.Proofs.YtiikagabdiphkaaGreat
open Go.RowKit Go.Lo Go.Maps

/-- where a way leads -/
abbrev K3 := Int × Int × Int
def keyG (n : WayN) : K3 := (n.addr, n.bits, n.router)
structure InK (k : K3) : Prop where
  a : 0 ≤ k.1 ∧ k.1 < 4294967296
  b : 0 ≤ k.2.1 ∧ k.2.1 < 256
  r : 0 ≤ k.2.2 ∧ k.2.2 < 4294967296
def klit (k : K3) : Lit := .string (keyBytes [.int .u32 k.1, .int .u8 k.2.1, .int .u32 k.2.2])
abbrev keyV (k : K3) : Value := .agg #[.int .u32 k.1, .int .u8 k.2.1, .int .u32 k.2.2]

theorem to_keyed : Keyed Tryz.prog 108 := Keyed.of_law (deep_law_laid laidOutZ (m := 3) (by omega) (of_decide_eq_true (by kernel_rfl)) (by kernel_rfl) (by rw [Tryz.underlying108]))
theorem wf_u32 {a : Int} (h : 0 ≤ a ∧ a < 4294967296) : (Lit.int .u32 a).wf = true := by
  have h1 : IntKind.u32.min = 0 := by decide
  have h2 : IntKind.u32.max = 4294967295 := by decide
  simp [Lit.wf, h1, h2]
  omega
theorem wf_u8 {a : Int} (h : 0 ≤ a ∧ a < 256) : (Lit.int .u8 a).wf = true := by
  have h1 : IntKind.u8.min = 0 := by decide
  have h2 : IntKind.u8.max = 255 := by decide
  simp [Lit.wf, h1, h2]
  omega
theorem lits_pre (d : Nat) (a b : Int) (ha : 0 ≤ a ∧ a < 4294967296) (hb : 0 ≤ b ∧ b < 256) : (Tryz.prog).keyLits (d + 2) 35 [.int .u32 a, .int .u8 b] = some [.int .u32 a, .int .u8 b] := by
  have c2 : (Tryz.prog).cellsOf 35 = 2 := by kernel_rfl
  have c1 : (Tryz.prog).cellsOf 24 = 1 := by kernel_rfl
  have c0 : (Tryz.prog).cellsOf 5 = 1 := by kernel_rfl
  unfold Program.keyLits
  rw [Tryz.underlying35]
  simp only [c2]
  rw [if_pos ⟨rfl, by kernel_rfl⟩]
  simp [Program.keyLits, Tryz.underlying24, Tryz.underlying5, c1, c0, wf_u32 ha, wf_u8 hb]
theorem lits_to (d : Nat) (k : K3) (h : InK k) : (Tryz.prog).keyLits (d + 3) 108 [.int .u32 k.1, .int .u8 k.2.1, .int .u32 k.2.2] = some [.int .u32 k.1, .int .u8 k.2.1, .int .u32 k.2.2] := by
  obtain ⟨a, b, r⟩ := k
  have c3 : (Tryz.prog).cellsOf 108 = 3 := by kernel_rfl
  have c2 : (Tryz.prog).cellsOf 35 = 2 := by kernel_rfl
  have c1 : (Tryz.prog).cellsOf 24 = 1 := by kernel_rfl
  have w3 := wf_u32 h.r
  have hp := lits_pre d a b h.a h.b
  have hr : (Tryz.prog).keyLits (d + 2) 24 [.int .u32 r] = some [.int .u32 r] := by
    simp only at w3
    simp [Program.keyLits, Tryz.underlying24, w3]
  rw [show d + 3 = (d + 2) + 1 from rfl]
  unfold Program.keyLits
  rw [Tryz.underlying108]
  simp only [c3]
  rw [if_pos ⟨rfl, by kernel_rfl⟩]
  simp [c2, c1, hp, hr]
theorem types_many : ∃ d, (Tryz.prog).types.size + 1 = d + 3 := by
  have h1 : Nat.ble 2 (Tryz.prog).types.size = true := by kernel_rfl
  have h2 := Nat.le_of_ble_eq_true h1
  exact ⟨(Tryz.prog).types.size - 2, by omega⟩
theorem key_to (k : K3) (h : InK k) : keyOf Tryz.prog 108 (keyV k) = some (klit k) := by
  have e1 : ((Tryz.prog).keyType 108 && (keyV k).formed Tryz.prog 108) = true := by kernel_rfl
  obtain ⟨d, e2⟩ := types_many
  unfold keyOf
  rw [Tryz.underlying108]
  simp only [e1, if_true, e2, Value.cells]
  rw [lits_to d k h]
  rfl
theorem klit_inj {k k' : K3} (h : InK k) (h' : InK k') (e : klit k = klit k') : k = k' := by
  have := to_keyed.inj (key_to k h) (by rw [e]; exact key_to k' h')
  obtain ⟨a, b, r⟩ := k
  obtain ⟨a', b', r'⟩ := k'
  simpa using this
theorem klit_key (k : K3) (h : InK k) : WideAt.IsKeyLit (klit k) := to_keyed.key (key_to k h)

/-- of two ways to one place -/
def bestStep (o : Option WayG) (g : WayG) : WayG :=
  match o with
  | none => g
  | some o => if g.1.cost < o.1.cost then g else if o.1.cost < g.1.cost then o else (o.1, puts (puts [] o.2) g.2)
def bestF (gs : List WayG) : K3 → Option WayG := gs.foldl (fun f g k => if k = keyG g.1 then some (bestStep (f k) g) else f k) (fun _ => none)
theorem bestF_snoc (gs : List WayG) (g : WayG) (k : K3) : bestF (gs ++ [g]) k = if k = keyG g.1 then some (bestStep (bestF gs k) g) else bestF gs k := by
  unfold bestF
  rw [List.foldl_append]
  rfl
theorem bestF_ind (p : List WayG → (K3 → Option WayG) → Prop) (h0 : p [] (fun _ => none)) (h1 : ∀ gs g, p gs (bestF gs) → p (gs ++ [g]) (bestF (gs ++ [g]))) : ∀ gs, p gs (bestF gs) := by
  intro gs
  have : ∀ n, ∀ gs : List WayG, gs.length = n → p gs (bestF gs) := by
    intro n
    induction n with
    | zero => intro gs hg; obtain rfl := List.eq_nil_of_length_eq_zero hg; exact h0
    | succ n ih =>
      intro gs hg
      obtain ⟨l, g, rfl⟩ : ∃ l g, gs = l ++ [g] := ⟨gs.dropLast, gs.getLast (fun e => by rw [e] at hg; cases hg), (List.dropLast_concat_getLast _).symm⟩
      exact h1 l g (ih l (by simpa using hg))
  exact this _ gs rfl
theorem bestStep_key (o : Option WayG) (g : WayG) (ho : ∀ x, o = some x → keyG x.1 = keyG g.1) : keyG (bestStep o g).1 = keyG g.1 := by
  unfold bestStep
  cases o with
  | none => rfl
  | some o =>
    simp only
    split
    · rfl
    · split
      · exact ho o rfl
      · exact ho o rfl
theorem bestF_key (gs : List WayG) : ∀ k o, bestF gs k = some o → keyG o.1 = k := bestF_ind (fun _ f => ∀ k o, f k = some o → keyG o.1 = k) (fun _ _ h => by cases h) (fun gs g ih k o h => by
  rw [bestF_snoc] at h
  split at h
  · rename_i hk
    simp only [Option.some.injEq] at h
    rw [← h, bestStep_key _ _ fun x hx => by rw [ih k x hx, hk], hk]
  · exact ih k o h) gs
theorem puts_le (a b : List Hop) : (puts a b).length ≤ a.length + b.length := by
  induction b generalizing a with
  | nil => simp [puts]
  | cons h r ih =>
    have h1 := ih (ins a h)
    have h2 := (ins_length a h).1
    show (puts (ins a h) r).length ≤ _
    simp only [List.length_cons]
    omega
theorem bestF_len (m : Nat) (gs : List WayG) : (∀ g ∈ gs, g.2.length ≤ m) → ∀ k o, bestF gs k = some o → o.2.length ≤ m * gs.length := bestF_ind (fun gs f => (∀ g ∈ gs, g.2.length ≤ m) → ∀ k o, f k = some o → o.2.length ≤ m * gs.length) (fun _ _ _ h => by cases h) (fun gs g ih hm k o h => by
  have ih2 := ih (fun x hx => hm x (by simp [hx])) k
  have hg := hm g (by simp)
  rw [bestF_snoc] at h
  rw [List.length_append, List.length_singleton, Nat.mul_add, Nat.mul_one]
  split at h
  · simp only [Option.some.injEq] at h
    subst h
    unfold bestStep
    cases hb : bestF gs k with
    | none => simp only; omega
    | some x =>
      have hx := ih2 x hb
      simp only
      split
      · omega
      · split
        · omega
        · have h1 := puts_le (puts [] x.2) g.2
          have h2 := puts_le [] x.2
          simp only [List.length_nil] at h2
          simp only
          omega
  · exact Nat.le_trans (ih2 o h) (by omega)) gs

/-- how an element reads: as itself -/
abbrev rawR (v : Value) : Option (DataW Value × List MemPlace) := some (.held v, [])
/-- the map holds the best way to each place, and its hops lie in memory -/
structure MapOk (W : World) (D : DataW Value) (f : K3 → Option WayG) : Prop where
  none_ : ∀ k, InK k → f k = none → Maps.has D (klit k) = false ∧ ∀ z, D.atKey (klit k) z = z
  some_ : ∀ k g, InK k → f k = some g → ∃ x : WayV, x.n = g.1 ∧ HopsAt (x, g.2) W ∧ Maps.has D (klit k) = true ∧ ∀ z, D.atKey (klit k) z = .held (.agg x.cells)
  ink : ∀ k g, f k = some g → InK k
  all : ∀ l, Maps.has D l = true → ∃ k g, f k = some g ∧ l = klit k
theorem MapOk.move {W W' : World} {D : DataW Value} {f : K3 → Option WayG} (h : MapOk W D f) (hH : ∀ x, HopsAt x W → HopsAt x W') : MapOk W' D f :=
  ⟨h.none_, fun k g hk hg => by
    obtain ⟨x, h1, h2, h3⟩ := h.some_ k g hk hg
    exact ⟨x, h1, hH _ h2, h3⟩, h.ink, h.all⟩
theorem MapOk.start (W : World) : MapOk W (.map []) (bestF []) :=
  ⟨fun _ _ _ => ⟨rfl, fun _ => rfl⟩, fun _ _ _ h => (by cases h), fun _ _ h => (by cases h), fun l h => (by cases h)⟩
theorem MapOk.put {W : World} {D : DataW Value} {f f' : K3 → Option WayG} (h : MapOk W D f) (hD : IsMap D) (k : K3) (hk : InK k) (x : WayV) (hops : List Hop) (hH : HopsAt (x, hops) W) (hf : ∀ k', f' k' = if k' = k then some (x.n, hops) else f k') : MapOk W (D.put (klit k) (.held (.agg x.cells))) f' := by
  refine ⟨fun k' hk' h0 => ?_, fun k' g hk' hg => ?_, fun k' g hg => ?_, fun l hl => ?_⟩
  · rw [hf] at h0
    split at h0
    · cases h0
    · rename_i hne
      have hlne : klit k' ≠ klit k := fun e => hne (klit_inj hk' hk e)
      obtain ⟨h1, h2⟩ := h.none_ k' hk' h0
      exact ⟨by rw [has_put_other hlne]; exact h1, fun z => by rw [atKey_put_other hlne]; exact h2 z⟩
  · rw [hf] at hg
    split at hg
    · rename_i he
      subst he
      simp only [Option.some.injEq] at hg
      subst hg
      exact ⟨x, rfl, hH, has_put_same hD (klit_key _ hk) _, fun z => atKey_put_same hD (klit_key _ hk) _ z⟩
    · rename_i hne
      have hlne : klit k' ≠ klit k := fun e => hne (klit_inj hk' hk e)
      obtain ⟨y, h1, h2, h3, h4⟩ := h.some_ k' g hk' hg
      exact ⟨y, h1, h2, by rw [has_put_other hlne]; exact h3, fun z => by rw [atKey_put_other hlne]; exact h4 z⟩
  · rw [hf] at hg
    split at hg
    · rename_i he; rw [he]; exact hk
    · exact h.ink k' g hg
  · by_cases he : l = klit k
    · exact ⟨k, (x.n, hops), by rw [hf, if_pos rfl], he⟩
    · rw [has_put_other he] at hl
      obtain ⟨k', g, h1, h2⟩ := h.all l hl
      refine ⟨k', g, ?_, h2⟩
      rw [hf, if_neg (fun e => he (by rw [h2, e]))]
      exact h1
end Go.Proofs.YtiikagabdiphkaaGreat
