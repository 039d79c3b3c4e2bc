/- Rows of structs are sorted (first part). -/
import Derived.Test.YtiikagabdiphkaaGreatMa
import Derived.Deep.MidRow
import Derived.Sort.AssemblyPlain
import Derived.Test.YtiikagabdiphkaaGreatProg
import Derived.BigQuiet
import Derived.BigRegion
namespace Go.Lo
open Go.RowKit

/-- how an element lies in memory: S cells each, every one a plain one -/
structure RowE {α : Type} (enc : α → List Value) (S : Nat) : Prop where
  len : ∀ x, (enc x).length = S
  one : ∀ x, ∀ v ∈ enc x, v.oneCell' = true
  pos : 0 < S

section
variable {α : Type} {enc : α → List Value} {S : Nat} {T : TypeId} {P : Program}

/-- block g holds the rows d, and rest behind them; all else is as it was -/
structure RowC (enc : α → List Value) (T : TypeId) (w0 : World) (g : Nat) (rest : List Value) (d : Array α) (w : World) : Prop where
  blk : Blk w g T (d.toList.flatMap enc ++ rest).toArray
  os : w.os = w0.os
  tape : w.tape = w0.tape
  output : w.output = w0.output
  size : w0.heap.size ≤ w.heap.size
  other : ∀ b, b < w0.heap.size → b ≠ g → w.heap[b]? = w0.heap[b]?

variable {w0 w w' : World} {g : Nat} {rest : List Value} {d : Array α}
theorem RowC.drewN (h : RowC enc T w0 g rest d w) (n : Nat) : RowC enc T w0 g rest d (w.drewN n) := ⟨h.blk, h.os, h.tape, h.output, h.size, h.other⟩
theorem RowC.drew (h : RowC enc T w0 g rest d w) : RowC enc T w0 g rest d w.drew := ⟨h.blk, h.os, h.tape, h.output, h.size, h.other⟩
theorem RowC.self (h : RowC enc T w0 g rest d w) : RowC enc T w g rest d w := ⟨h.blk, rfl, rfl, rfl, Nat.le_refl _, fun _ _ _ => rfl⟩
theorem RowC.trans {d' : Array α} (h : RowC enc T w0 g rest d w) (k : RowC enc T w g rest d' w') : RowC enc T w0 g rest d' w' :=
  ⟨k.blk, k.os.trans h.os, k.tape.trans h.tape, k.output.trans h.output, Nat.le_trans h.size k.size, fun b hb hne => (k.other b (Nat.lt_of_lt_of_le hb h.size) hne).trans (h.other b hb hne)⟩
theorem RowC.below {B : Nat} (h : RowC enc T w0 g rest d w) (hb : Below B w w') (hB : w.heap.size ≤ B) : RowC enc T w0 g rest d w' :=
  ⟨h.blk.below hb (by have := h.blk.lt; omega), hb.os.trans h.os, hb.tape.trans h.tape, hb.output.trans h.output, Nat.le_trans h.size hb.size, fun b hlt hne => (hb.block b (by have := h.size; omega)).trans (h.other b hlt hne)⟩
theorem RowC.call (h : RowC enc T w0 g rest d w) (hb : Below w.heap.size w w') : RowC enc T w0 g rest d w' := h.below hb (Nat.le_refl _)
theorem RowC.alloc (h : RowC enc T w0 g rest d w) (o : Obj) : RowC enc T w0 g rest d (w.alloc o) := h.call ((Below.refl _ _).alloc (Nat.le_refl _) _)
theorem RowC.far (h : RowC enc T w0 g rest d w) {p : Addr} (hp : w0.heap.size ≤ p.block) (hg : g < w0.heap.size) (u : Value) : RowC enc T w0 g rest d (w.setCell p u) :=
  ⟨h.blk.far (by omega) u, h.os, h.tape, h.output, by simpa [World.setCell] using h.size, fun b hb hne => (Below.heap_setCell w p u b (by omega)).trans (h.other b hb hne)⟩

theorem get_of [Inhabited α] {d : Array α} {i : Nat} (hi : i < d.size) : d.toList[i]'(by simpa using hi) = d[i]! := by rw [getElem!_pos d i hi]; simp

variable [Inhabited α]
theorem RowC.range (E : RowE enc S) (h : RowC enc T w0 g rest d w) {i : Nat} (hi : i < d.size) : w.rangeAt g (i * S) (enc d[i]!) := fun j v hv => by
  have hj : j < S := by
    have := (List.getElem?_eq_some_iff.1 hv).1
    rw [E.len] at this
    exact this
  have hlt : i * S + j < (d.toList.flatMap enc).length := by
    rw [flat_len E.len]
    have := Nat.mul_le_mul_right S (show i + 1 ≤ d.toList.length by simp only [Array.length_toList]; omega)
    rw [Nat.succ_mul] at this
    omega
  rw [h.blk.cell, List.getElem?_toArray, List.getElem?_append_left hlt, flat_get E.len d.toList i j hj (by simpa using hi), get_of hi]
  exact hv
theorem RowC.there (E : RowE enc S) (h : RowC enc T w0 g rest d w) {i : Nat} (hi : i < d.size) : w.there g (i * S) S := fun j hj =>
  ⟨(h.range E hi).isSome j (by rw [E.len]; exact hj), h.blk.free _⟩

/-- what a load of a row needs of its type -/
structure RowT (P : Program) (T : TypeId) (S : Nat) : Prop where
  und : ∃ d, P.underlying T = some d ∧ d.isRow = true
  info : (P.info? T).map (·.size) = some S

omit [Inhabited α] in
/-- the same block in a world of the same heap -/
theorem RowC.heap (h : RowC enc T w0 g rest d w) {W : World} (hW : W.heap = w.heap) : Blk W g T (d.toList.flatMap enc ++ rest).toArray := by
  unfold Blk
  rw [hW]
  exact h.blk
theorem RowC.load (E : RowE enc S) (R : RowT P T S) (h : RowC enc T w0 g rest d w) {i : Nat} (hi : i < d.size) : ∀ W : World, W.heap = w.heap → (Instr.loadAt T (.pointer (some ⟨g, i * S, none⟩))).run P W = .ok (.agg (enc d[i]!).toArray) W := by
  intro W hW
  obtain ⟨t, h1, h2⟩ := R.und
  have k : RowC enc T W g rest d W := ⟨h.heap hW, rfl, rfl, rfl, Nat.le_refl _, fun _ _ _ => rfl⟩
  exact run_loadAt_mid W g (i * S) T (enc d[i]!) t (k.range E hi) h1 h2 (by rw [E.len]; exact R.info)

omit [Inhabited α] in
theorem setCells_heap : ∀ (vs : List Value) (o : Nat) (cur : Array Value) (w : World), Blk w g T cur → o + vs.length ≤ cur.size → Blk (w.setCells g o vs) g T (splice cur.toList o vs).toArray
  | [], o, cur, w, h, _ => by simpa [World.setCells, splice] using h
  | v :: r, o, cur, w, h, hl => by
    have hl' : o + (r.length + 1) ≤ cur.size := by simpa using hl
    have h1 := setCells_heap r (o + 1) _ _ (h.set_ o v) (by simp; omega)
    simp only [World.setCells]
    have e : splice (cur.setIfInBounds o v).toList (o + 1) r = splice cur.toList o (v :: r) := by
      have ho : o < cur.toList.length := by simp; omega
      unfold splice
      simp only [Array.toList_setIfInBounds, List.length_cons, List.drop_set, List.take_set]
      rw [if_pos (by omega)]
      have e1 : (cur.toList.take (o + 1)).set o v = cur.toList.take o ++ [v] := by
        rw [List.take_succ_eq_append_getElem ho, List.set_append_right _ _ (by simp; omega)]
        simp [show min o cur.size = o by simp at ho; omega]
      rw [e1, show o + (r.length + 1) = o + 1 + r.length by omega]
      simp
    rw [e] at h1
    exact h1
omit [Inhabited α] in
theorem setCells_far : ∀ (vs : List Value) (o : Nat) (w : World) (b : Nat), b ≠ g → (w.setCells g o vs).heap[b]? = w.heap[b]?
  | [], _, _, _, _ => rfl
  | v :: r, o, w, b, hb => by
    simp only [World.setCells]
    rw [setCells_far r (o + 1) _ b hb]
    exact Below.heap_setCell w _ v b hb
omit [Inhabited α] in
theorem setCells_same : ∀ (vs : List Value) (o : Nat) (w : World), (w.setCells g o vs).os = w.os ∧ (w.setCells g o vs).tape = w.tape ∧ (w.setCells g o vs).output = w.output ∧ (w.setCells g o vs).heap.size = w.heap.size
  | [], _, _ => ⟨rfl, rfl, rfl, rfl⟩
  | v :: r, o, w => by
    simp only [World.setCells]
    obtain ⟨h1, h2, h3, h4⟩ := setCells_same r (o + 1) (w.setCell ⟨g, o, none⟩ v)
    exact ⟨h1, h2, h3, h4.trans (by simp [World.setCell])⟩

omit [Inhabited α] in
theorem flat_splice (E : RowE enc S) (l : List α) (rest : List Value) (i : Nat) (hi : i < l.length) (x : α) : splice (l.flatMap enc ++ rest) (i * S) (enc x) = (l.set i x).flatMap enc ++ rest := by
  have hl : (l.flatMap enc).length = l.length * S := flat_len E.len l
  have hm := Nat.mul_le_mul_right S (show i + 1 ≤ l.length by omega)
  rw [Nat.succ_mul] at hm
  unfold splice
  rw [E.len, List.take_append_of_le_length (by omega), List.drop_append_of_le_length (by omega), flat_take E.len, show i * S + S = (i + 1) * S by rw [Nat.succ_mul], flat_drop E.len]
  have e : l.set i x = l.take i ++ x :: l.drop (i + 1) := by
    rw [List.set_eq_take_append_cons_drop, if_pos hi]
  rw [e]
  simp

omit [Inhabited α] in
theorem RowC.set (E : RowE enc S) (h : RowC enc T w0 g rest d w) {i : Nat} (hi : i < d.size) (x : α) : RowC enc T w0 g rest (d.setIfInBounds i x) (w.setCells g (i * S) (enc x)) := by
  obtain ⟨s1, s2, s3, s4⟩ := setCells_same (g := g) (enc x) (i * S) w
  refine ⟨?_, s1.trans h.os, s2.trans h.tape, s3.trans h.output, by rw [s4]; exact h.size, fun b hb hne => (setCells_far _ _ _ _ hne).trans (h.other b hb hne)⟩
  have hm := Nat.mul_le_mul_right S (show i + 1 ≤ d.toList.length by simp only [Array.length_toList]; omega)
  rw [Nat.succ_mul] at hm
  have k := setCells_heap (enc x) (i * S) _ _ h.blk (by
    simp only [List.size_toArray, List.length_append]
    rw [E.len, flat_len E.len]
    omega)
  simp only [flat_splice E d.toList rest i (by simpa using hi) x] at k
  rw [Array.toList_setIfInBounds]
  exact k

/-- a store of a row, as an equation; its world is left unnamed -/
theorem RowC.store (E : RowE enc S) (R : RowT P T S) (h : RowC enc T w0 g rest d w) {i : Nat} (hi : i < d.size) (x : α) : ∃ W, (Instr.storeAt T (.pointer (some ⟨g, i * S, none⟩)) (.agg (enc x).toArray)).run P w = .ok () W ∧ RowC enc T w0 g rest (d.setIfInBounds i x) W :=
  ⟨_, run_storeAt_mid w g (i * S) T (enc x).toArray (by simp only [List.size_toArray, E.len]; exact h.there E hi) (by simp only [List.size_toArray, E.len]; exact R.info) (all_oneCell_toArray (E.one x)), by simpa using h.set E hi x⟩

/-- 'data[i], data[j] = data[j], data[i]' -/
theorem RowC.swp (E : RowE enc S) (R : RowT P T S) (h : RowC enc T w0 g rest d w) {i j : Nat} (hi : i < d.size) (hj : j < d.size) :
    ∃ W1 W2, (Instr.storeAt T (.pointer (some ⟨g, i * S, none⟩)) (.agg (enc d[j]!).toArray)).run P w = .ok () W1 ∧ (Instr.storeAt T (.pointer (some ⟨g, j * S, none⟩)) (.agg (enc d[i]!).toArray)).run P W1 = .ok () W2 ∧ RowC enc T w0 g rest (Sort.swp d i j) W2 := by
  obtain ⟨W1, h1, k1⟩ := h.store E R hi d[j]!
  obtain ⟨W2, h2, k2⟩ := k1.store E R (i := j) (by simpa using hj) d[i]!
  exact ⟨W1, W2, h1, h2, k2⟩
end

theorem wpStill_load {P : Program} {ops : Array Oper} {w : World} {Q : Act → Prop} {a : Act} {o : Oper} {rest : List Oper} (hw : Region.wanted o (yielded ops a.tmps) = true) (ty : TypeId) (x : Operand) (ho : o.op = .load ty x) (v : Value)
    (hrun : (Instr.loadAt ty (a.eval x)).run P w = .ok v w) (h : wpStill P ops w Q rest (a.put o.dst v)) : wpStill P ops w Q (o :: rest) a := by
  unfold wpStill
  rw [if_pos hw]
  unfold Oper.still execOp
  simp only [ho, Sem.run_bind, hrun, Result.andThen_ok, Sem.run_pure, Oper.stillUpon_value]
  exact h
end Go.Lo
namespace Go.Lo
open Go.RowKit

/-- the operands that an operation of these kinds looks at -/
def opnds : Op → Option (List Operand)
  | .move x | .assign x => some [x]
  | .binOp _ _ x y _ => some [x, y]
  | .indexAddr _ x y => some [x, y]
  | .fieldAddr _ x _ => some [x]
  | .field _ x _ => some [x]
  | .convert _ _ x => some [x]
  | .unOp _ _ x => some [x]
  | .load _ x => some [x]
  | .store _ x y => some [x, y]
  | _ => none

theorem execOp_congr {ρ σ : Operand → Value} {o : Oper} {l : List Operand} (h : opnds o.op = some l) (hl : ∀ x ∈ l, ρ x = σ x) : execOp ρ o = execOp σ o := by
  unfold execOp
  cases hop : o.op <;> simp only [opnds, hop, Option.some.injEq, reduceCtorEq] at h <;> subst h <;> simp only [List.mem_cons, List.not_mem_nil, or_false, forall_eq_or_imp, forall_eq] at hl <;> simp [hl]

def isStore : Op → Bool
  | .store .. => true
  | _ => false
def isLoad : Op → Bool
  | .load .. => true
  | _ => false

section
variable (ops : Array Oper)
def dstOf (i : Nat) : Option Tmp := (ops[i]?).bind (·.dst)
/-- i comes directly ahead of j, in every order -/
def aft (i j : Nat) : Bool := ((ops[j]?).map fun o => o.after.any fun e => Region.binds .any e && e.on == i).getD false
def tmpOk (j : Nat) : Operand → Bool
  | .tmp k => (List.range ops.size).all fun i => dstOf ops i != some k || aft ops i j
  | _ => true
def ssaOp (s1 s2 size i : Nat) (o : Oper) : Bool :=
  o.guard.isNone && (match opnds o.op with | none => false | some l => l.all (tmpOk ops i)) &&
    (if i = s1 ∨ i = s2 then o.dst.isNone else !isStore o.op && (match o.dst with | none => false | some k => decide (k < size) && (List.range i).all fun j => dstOf ops j != some k)) && (!isLoad o.op || aft ops i s1)
def ssaB (s1 s2 size : Nat) : Bool :=
  decide (s1 < ops.size) && (decide (s2 < ops.size) && (aft ops s1 s2 && (List.range ops.size).all fun i => ((ops[i]?).map (ssaOp ops s1 s2 size i)).getD true))

/-- the frame behind the first n operations -/
def putAll (vs : Array Value) (a : Act) : Nat → Act
  | 0 => a
  | n + 1 => (putAll vs a n).put (dstOf ops n) (vs.getD n undef)
end

section
variable {P : Program} {ops : Array Oper} {Q : Exit → Act → World → Prop} {vs : Array Value} {a : Act}

theorem put_size (b : Act) (d : Option Tmp) (v : Value) : (b.put d v).tmps.size = b.tmps.size := by
  cases d <;> simp [Act.put]
theorem put_def (b : Act) (d : Option Tmp) (v : Value) : (b.put d v).defers = b.defers := by
  cases d <;> simp [Act.put]
theorem put_get (b : Act) (d : Option Tmp) (v : Value) (k : Nat) : (b.put d v).tmps.getD k undef = if d = some k ∧ k < b.tmps.size then v else b.tmps.getD k undef := by
  cases d with
  | none => simp [Act.put]
  | some j =>
    simp only [Act.put, Array.getD_eq_getD_getElem?, Array.getElem?_setIfInBounds, Option.some.injEq]
    by_cases hj : j = k
    · subst hj
      by_cases hk : j < b.tmps.size
      · simp [hk]
      · simp [hk]
    · simp [hj]
theorem putAll_size (n : Nat) : (putAll ops vs a n).tmps.size = a.tmps.size := by
  induction n with
  | zero => rfl
  | succ n ih => rw [putAll, put_size, ih]
theorem putAll_def (n : Nat) : (putAll ops vs a n).defers = a.defers := by
  induction n with
  | zero => rfl
  | succ n ih => rw [putAll, put_def, ih]
theorem putAll_other (k : Nat) (n : Nat) (h : ∀ i, i < n → dstOf ops i ≠ some k) : (putAll ops vs a n).tmps.getD k undef = a.tmps.getD k undef := by
  induction n with
  | zero => rfl
  | succ n ih =>
    rw [putAll, put_get, if_neg (fun hc => h n (by omega) hc.1), ih fun i hi => h i (by omega)]
theorem putAll_at (k : Nat) (hk : k < a.tmps.size) : ∀ (n i : Nat), i < n → dstOf ops i = some k → (∀ j, j < n → i < j → dstOf ops j ≠ some k) → (putAll ops vs a n).tmps.getD k undef = vs.getD i undef
  | 0, _, h, _, _ => by omega
  | n + 1, i, h, hd, hu => by
    by_cases hi : i = n
    · subst hi
      rw [putAll, put_get, if_pos ⟨hd, by rw [putAll_size]; exact hk⟩]
    · rw [putAll, put_get, if_neg (fun hc => hu n (by omega) (by omega) hc.1)]
      exact putAll_at k hk n i (by omega) hd fun j hj => hu j (by omega)

theorem act_ext {x y : Act} (h1 : x.defers = y.defers) (h2 : x.tmps.size = y.tmps.size) (h3 : ∀ k, x.tmps.getD k undef = y.tmps.getD k undef) : x = y := by
  obtain ⟨xt, xd⟩ := x
  obtain ⟨yt, yd⟩ := y
  simp only at h1 h2 h3
  subst h1
  congr 1
  apply Array.ext h2
  intro i hi hj
  have := h3 i
  simpa [Array.getD_eq_getD_getElem?, hi, hj] using this

theorem eval_eq {x y : Act} (h : ∀ k, x.tmps.getD k undef = y.tmps.getD k undef) (o : Operand) : x.eval o = y.eval o := by
  cases o <;> simp only [Act.eval]
  exact h _

/-- what holds on the way -/
structure SsaI (ops : Array Oper) (vs : Array Value) (a : Act) (s1 s2 : Nat) (w0 w1 w2 : World) (L : Array Bool) (b : Act) (W : World) : Prop where
  size : b.tmps.size = a.tmps.size
  defs : b.defers = a.defers
  off : ∀ k, (∀ i, L.getD i false = true → dstOf ops i ≠ some k) → b.tmps.getD k undef = a.tmps.getD k undef
  on : ∀ i k, L.getD i false = true → dstOf ops i = some k → b.tmps.getD k undef = vs.getD i undef
  closed : ∀ i j, L.getD j false = true → aft ops i j = true → L.getD i false = true
  wld : W = if L.getD s2 false then w2 else if L.getD s1 false then w1 else w0

theorem wp_region_ssa {id : Nat} {w : World} (s1 s2 : Nat) (vs : Array Value) (w1 w2 : World) (A : Act) (hA : putAll ops vs a ops.size = A) (hm : P.follows .mixedOrders = true) (hord : ordB ops = true) (hB : ssaB ops s1 s2 a.tmps.size = true)
    (hrun : ∀ i o, ops[i]? = some o → i ≠ s1 → i ≠ s2 → ∀ W, (isLoad o.op = true → W = w.drew) → (execOp A.eval o).run P W = .ok (.value (vs.getD i undef)) W)
    (h1 : ∀ o, ops[s1]? = some o → (execOp A.eval o).run P w.drew = .ok .skip w1) (h2 : ∀ o, ops[s2]? = some o → (execOp A.eval o).run P w1 = .ok .skip w2)
    (hf : Q .normal A w2) : (Code.region id ops true).wp P Q a w := by
  subst hA
  simp only [ssaB, Bool.and_eq_true, decide_eq_true_eq] at hB
  obtain ⟨hs1, hs2, h12, hall⟩ := hB
  have hop : ∀ i o, ops[i]? = some o → ssaOp ops s1 s2 a.tmps.size i o = true := fun i o ho => by
    have hi : i < ops.size := (Array.getElem?_eq_some_iff.1 ho).1
    have := List.all_eq_true.1 hall i (List.mem_range.2 hi)
    simpa [ho] using this
  have hdst : ∀ i o, ops[i]? = some o → i ≠ s1 → i ≠ s2 → ∃ k, o.dst = some k ∧ k < a.tmps.size ∧ ∀ j, j < i → dstOf ops j ≠ some k := fun i o ho n1 n2 => by
    have := hop i o ho
    simp only [ssaOp, Bool.and_eq_true] at this
    have h3 := this.1.2
    rw [if_neg (by omega), Bool.and_eq_true] at h3
    replace h3 := h3.2
    cases hd : o.dst with
    | none => rw [hd] at h3; cases h3
    | some k =>
      rw [hd] at h3
      simp only [Bool.and_eq_true, decide_eq_true_eq] at h3
      refine ⟨k, rfl, h3.1, fun j hj => ?_⟩
      have := List.all_eq_true.1 h3.2 j (List.mem_range.2 hj)
      simpa using this
  have hnone : ∀ i o, ops[i]? = some o → i = s1 ∨ i = s2 → o.dst = none := fun i o ho hs => by
    have := hop i o ho
    simp only [ssaOp, Bool.and_eq_true] at this
    have h3 := this.1.2
    rw [if_pos hs] at h3
    simpa using h3
  have huniq : ∀ i j k, dstOf ops i = some k → dstOf ops j = some k → i = j := fun i j k hi hj => by
    obtain ⟨oi, hoi, hdi⟩ := Option.bind_eq_some_iff.1 hi
    obtain ⟨oj, hoj, hdj⟩ := Option.bind_eq_some_iff.1 hj
    have ni : ¬ (i = s1 ∨ i = s2) := fun hc => by rw [hnone i oi hoi hc] at hdi; cases hdi
    have nj : ¬ (j = s1 ∨ j = s2) := fun hc => by rw [hnone j oj hoj hc] at hdj; cases hdj
    obtain ⟨k1, e1, _, u1⟩ := hdst i oi hoi (by omega) (by omega)
    obtain ⟨k2, e2, _, u2⟩ := hdst j oj hoj (by omega) (by omega)
    rw [hdi] at e1
    rw [hdj] at e2
    obtain rfl := Option.some.inj e1
    obtain rfl := Option.some.inj e2
    rcases Nat.lt_trichotomy i j with h | h | h
    · exact absurd hi (u2 i h)
    · exact h
    · exact absurd hj (u1 j h)
  have hlt : ∀ i k, dstOf ops i = some k → i < ops.size ∧ k < a.tmps.size := fun i k hi => by
    obtain ⟨oi, hoi, hdi⟩ := Option.bind_eq_some_iff.1 hi
    have ni : ¬ (i = s1 ∨ i = s2) := fun hc => by rw [hnone i oi hoi hc] at hdi; cases hdi
    obtain ⟨k1, e1, l1, _⟩ := hdst i oi hoi (by omega) (by omega)
    rw [hdi] at e1
    obtain rfl := Option.some.inj e1
    exact ⟨(Array.getElem?_eq_some_iff.1 hoi).1, l1⟩
  have hfin : ∀ i k, dstOf ops i = some k → (putAll ops vs a ops.size).tmps.getD k undef = vs.getD i undef := fun i k hi =>
    putAll_at k (hlt i k hi).2 ops.size i (hlt i k hi).1 hi fun j _ hj hc => by have := huniq i j k hi hc; omega
  refine wp_region_inv0 (fun a0 w0 L b W => SsaI ops vs a s1 s2 w.drew w1 w2 L b W) hm hord ?_ ?_ ?_
  · refine ⟨rfl, rfl, fun _ _ => rfl, fun i k h => ?_, fun i j h => ?_, ?_⟩
    · simp [Array.getD_eq_getD_getElem?, Array.getElem?_replicate] at h
      split at h <;> simp at h
    · simp [Array.getD_eq_getD_getElem?, Array.getElem?_replicate] at h
      split at h <;> simp at h
    · have hz : ∀ s, (Array.replicate ops.size false).getD s false = false := fun s => by
        simp only [Array.getD_eq_getD_getElem?, Array.getElem?_replicate]
        split <;> rfl
      rw [hz, hz]
      rfl
  · intro L b W i hL hi hI
    have hilt := (ready_mem hi).1
    have hun := getD_low (ready_mem hi).2
    obtain ⟨o, ho⟩ : ∃ o, ops[i]? = some o := ⟨_, Array.getElem?_eq_getElem hilt⟩
    have hso := hop i o ho
    simp only [ssaOp, Bool.and_eq_true] at hso
    obtain ⟨⟨⟨hg, hx⟩, _⟩, hld⟩ := hso
    have hgd : o.guard = none := by simpa using hg
    have haft : ∀ j, aft ops j i = true → L.getD j false = true := fun j hj => by
      have h3 := ready_after hi ho
      simp only [aft, ho, Option.map_some, Option.getD_some] at hj
      obtain ⟨e, he, h4⟩ := Array.any_eq_true'.1 hj
      simp only [Bool.and_eq_true, beq_iff_eq] at h4
      have h5 := (Array.all_eq_true'.1 h3) e he
      rw [h4.1, h4.2] at h5
      simpa using h5
    have hev : execOp b.eval o = execOp (putAll ops vs a ops.size).eval o := by
      cases hl : opnds o.op with
      | none => rw [hl] at hx; cases hx
      | some l =>
        rw [hl] at hx
        refine execOp_congr hl fun x hxl => ?_
        have h3 := List.all_eq_true.1 hx x hxl
        cases x with
        | tmp k =>
          simp only [Act.eval]
          by_cases hk : ∃ j, dstOf ops j = some k
          · obtain ⟨j, hj⟩ := hk
            have h4 := List.all_eq_true.1 h3 j (List.mem_range.2 (hlt j k hj).1)
            rw [hj] at h4
            simp only [bne_self_eq_false, Bool.false_or] at h4
            rw [hI.on j k (haft j h4) hj, hfin j k hj]
          · rw [hI.off k fun j _ hc => hk ⟨j, hc⟩, putAll_other k ops.size fun j _ hc => hk ⟨j, hc⟩]
        | const v => rfl
        | global g => rfl
        | func f => rfl
    have hstep : ∀ (v : Value) (W' : World), (W' = if (L.setIfInBounds i true).getD s2 false then w2 else if (L.setIfInBounds i true).getD s1 false then w1 else w.drew) → (∀ k, o.dst = some k → v = vs.getD i undef) →
        SsaI ops vs a s1 s2 w.drew w1 w2 (L.setIfInBounds i true) (b.put o.dst v) W' := by
      intro v W' hW hv
      have hg2 : ∀ j, (L.setIfInBounds i true).getD j false = if j = i then true else L.getD j false := fun j => getD_set (by rw [hL]; exact hilt)
      have hdo : dstOf ops i = o.dst := by simp [dstOf, ho]
      refine ⟨by rw [put_size, hI.size], by rw [put_def, hI.defs], fun k hk => ?_, fun j k hj hd => ?_, fun p q hq hpq => ?_, hW⟩
      · rw [put_get, if_neg (fun hc => hk i (by rw [hg2, if_pos rfl]) (by rw [hdo]; exact hc.1))]
        refine hI.off k fun j hj => hk j ?_
        rw [hg2]
        split
        · rfl
        · exact hj
      · rw [hg2] at hj
        rw [put_get]
        by_cases hji : j = i
        · subst hji
          rw [hdo] at hd
          rw [if_pos ⟨hd, by rw [hI.size]; exact (hlt j k (hdo.trans hd)).2⟩, hv k hd]
        · rw [if_neg hji] at hj
          rw [if_neg (fun hc => hji (huniq j i k hd (hdo.trans hc.1)))]
          exact hI.on j k hj hd
      · rw [hg2] at hq ⊢
        by_cases hqi : q = i
        · subst hqi
          split
          · rfl
          · exact haft p hpq
        · rw [if_neg hqi] at hq
          split
          · rfl
          · exact hI.closed p q hq hpq
    have hw : Region.wanted o (yielded ops b.tmps) = true := by simp [Region.wanted, hgd]
    have hg2 : ∀ j, (L.setIfInBounds i true).getD j false = if j = i then true else L.getD j false := fun j => getD_set (by rw [hL]; exact hilt)
    have hne12 : s1 ≠ s2 := fun hc => by
      have h3 := ord_of hord
      rw [hc] at h12
      cases ho2 : ops[s2]? with
      | none => simp [aft, ho2] at h12
      | some o2 =>
        simp only [aft, ho2, Option.map_some, Option.getD_some] at h12
        obtain ⟨e, he, h4⟩ := Array.any_eq_true'.1 h12
        simp only [Bool.and_eq_true, beq_iff_eq] at h4
        have := h3 s2 o2 ho2 e he h4.1
        omega
    unfold wpOp
    simp only [ho, hw, if_true]
    refine .inl ?_
    unfold Oper.wp
    rw [hev]
    have hWd := hI.wld
    by_cases e1 : i = s1
    · subst e1
      have hn2 : L.getD s2 false = false := by
        cases hc : L.getD s2 false with
        | false => rfl
        | true => have := hI.closed i s2 hc h12; rw [hun] at this; cases this
      rw [hn2, hun] at hWd
      simp only [Bool.false_eq_true, if_false] at hWd
      rw [hWd, h1 o ho]
      exact hstep _ _ (by
        have q2 := hg2 s2
        rw [if_neg (show ¬ s2 = i by omega)] at q2
        have q1 := hg2 i
        rw [if_pos rfl] at q1
        rw [q2, q1, hn2]
        rfl) fun k hk => by rw [hnone i o ho (.inl rfl)] at hk; cases hk
    · by_cases e2 : i = s2
      · subst e2
        rw [hun, haft s1 h12] at hWd
        simp only [Bool.false_eq_true, if_false, if_true] at hWd
        rw [hWd, h2 o ho]
        exact hstep _ _ (by rw [hg2, if_pos rfl]; rfl) fun k hk => by rw [hnone i o ho (.inr rfl)] at hk; cases hk
      · have hr := hrun i o ho e1 e2 W (fun hl => by
          have h3 : aft ops i s1 = true := by rw [hl] at hld; simpa using hld
          have n1 : L.getD s1 false = false := by
            cases hc : L.getD s1 false with
            | false => rfl
            | true => have := hI.closed i s1 hc h3; rw [hun] at this; cases this
          have n2 : L.getD s2 false = false := by
            cases hc : L.getD s2 false with
            | false => rfl
            | true => have := hI.closed s1 s2 hc h12; rw [n1] at this; cases this
          rw [n1, n2] at hWd
          exact hWd)
        rw [hr]
        refine hstep _ _ ?_ fun _ _ => rfl
        have q2 := hg2 s2
        rw [if_neg (show ¬ s2 = i by omega)] at q2
        have q1 := hg2 s1
        rw [if_neg (show ¬ s1 = i by omega)] at q1
        rw [q2, q1]
        exact hWd
  · intro L b W hA hI
    have hb : b = putAll ops vs a ops.size := by
      refine act_ext (hI.defs.trans (putAll_def _).symm) (hI.size.trans (putAll_size _).symm) fun k => ?_
      by_cases hk : ∃ j, dstOf ops j = some k
      · obtain ⟨j, hj⟩ := hk
        rw [hI.on j k (hA j (hlt j k hj).1) hj, hfin j k hj]
      · rw [hI.off k fun j _ hc => hk ⟨j, hc⟩, putAll_other k ops.size fun j _ hc => hk ⟨j, hc⟩]
    have hW := hI.wld
    rw [hA s2 hs2] at hW
    rw [hb, hW]
    exact hf

/-- what an operation owes, its operands' last values at hand -/
@[reducible] def RunOp (P : Program) (A : Act) (w0 : World) (o : Oper) (v : Value) : Prop :=
  match o.op with
  | .load ty x => (Instr.loadAt ty (A.eval x)).run P w0 = .ok v w0
  | .store _ _ _ => True
  | _ => ∀ W, (execOp A.eval o).run P W = .ok (.value v) W
def RunL (P : Program) (A : Act) (w0 : World) : List Oper → List Value → Prop
  | o :: r, v :: vs => RunOp P A w0 o v ∧ RunL P A w0 r vs
  | _, _ => True
theorem RunL.at {A : Act} {w0 : World} : ∀ {l : List Oper} {vs : List Value}, RunL P A w0 l vs → ∀ i o, l[i]? = some o → i < vs.length → RunOp P A w0 o (vs.getD i undef)
  | [], _, _, _, _, h, _ => by simp at h
  | _ :: _, [], _, _, _, _, h => by simp at h
  | x :: r, v :: vs, h, 0, o, ho, _ => by
    simp only [List.getElem?_cons_zero, Option.some.injEq] at ho
    subst ho
    simpa using h.1
  | x :: r, v :: vs, h, i + 1, o, ho, hi => by
    simp only [List.getElem?_cons_succ] at ho
    simpa using h.2.at i o ho (by simpa using hi)

/-- the frame behind the operations, by the list of their slots -/
def putL : List (Option Tmp) → List Value → Act → Act
  | d :: ds, v :: vs, a => putL ds vs (a.put d v)
  | _, _, a => a
theorem putL_append : ∀ (ds : List (Option Tmp)) (vs : List Value) (a : Act) (d : Option Tmp) (v : Value), ds.length = vs.length → putL (ds ++ [d]) (vs ++ [v]) a = (putL ds vs a).put d v
  | [], [], _, _, _, _ => rfl
  | [], _ :: _, _, _, _, h => by simp at h
  | _ :: _, [], _, _, _, h => by simp at h
  | x :: ds, y :: vs, a, d, v, h => by
    simp only [List.cons_append, putL]
    exact putL_append ds vs _ d v (by simpa using h)
theorem putAll_eq (n : Nat) (hn : n ≤ vs.size) : putAll ops vs a n = putL ((List.range n).map (dstOf ops)) (vs.toList.take n) a := by
  induction n with
  | zero => rfl
  | succ n ih =>
    have h2 : vs.toList.take (n + 1) = vs.toList.take n ++ [vs.getD n undef] := by
      have hlt : n < vs.toList.length := by simp; omega
      rw [List.take_succ_eq_append_getElem hlt]
      simp [Array.getD_eq_getD_getElem?, show n < vs.size by omega]
    rw [putAll, ih (by omega), List.range_succ, List.map_append, h2]
    exact (putL_append _ _ _ _ _ (by simp; omega)).symm

theorem wp_region_swp {id : Nat} {w : World} (s1 s2 : Nat) (ds : List (Option Tmp)) (vs : List Value) (w1 w2 : World) (A : Act) (hA : putL ds vs a = A) (hds : (List.range ops.size).map (dstOf ops) = ds) (hvs : vs.length = ds.length)
    (hm : P.follows .mixedOrders = true) (hord : ordB ops = true) (hB : ssaB ops s1 s2 a.tmps.size = true) (hrun : RunL P A w.drew ops.toList vs)
    (t1 t2 : TypeId) (x1 y1 x2 y2 : Operand) (o1 : (ops[s1]?).map (·.op) = some (.store t1 x1 y1)) (o2 : (ops[s2]?).map (·.op) = some (.store t2 x2 y2))
    (h1 : (Instr.storeAt t1 (A.eval x1) (A.eval y1)).run P w.drew = .ok () w1) (h2 : (Instr.storeAt t2 (A.eval x2) (A.eval y2)).run P w1 = .ok () w2)
    (hf : Q .normal A w2) : (Code.region id ops true).wp P Q a w := by
  have hn : vs.length = ops.size := by rw [hvs, ← hds]; simp
  have hA2 : putAll ops vs.toArray a ops.size = A := by
    rw [putAll_eq _ (by simp [hn]), hds, ← hA]
    simp [← hn]
  have hst : ∀ (s : Nat) (t : TypeId) (x y : Operand), (ops[s]?).map (·.op) = some (.store t x y) → ∀ o, ops[s]? = some o → o.op = .store t x y := fun s t x y h o ho => by
    rw [ho] at h
    simpa using h
  have hS := hB
  simp only [ssaB, Bool.and_eq_true, decide_eq_true_eq] at hS
  refine wp_region_ssa s1 s2 vs.toArray w1 w2 A hA2 hm hord hB (fun i o ho n1 n2 W hW => ?_) (fun o ho => ?_) (fun o ho => ?_) hf
  · have hi : i < ops.size := (Array.getElem?_eq_some_iff.1 ho).1
    have hr := hrun.at i o (by simpa using ho) (by omega)
    have hso := List.all_eq_true.1 hS.2.2.2 i (List.mem_range.2 hi)
    simp only [ho, Option.map_some, Option.getD_some, ssaOp, Bool.and_eq_true] at hso
    have hv : vs.toArray.getD i undef = vs.getD i undef := by simp [Array.getD_eq_getD_getElem?, List.getD_eq_getElem?_getD]
    rw [hv]
    cases hop : o.op
    case load ty x =>
      simp only [RunOp, hop] at hr
      rw [hW (by simp [isLoad, hop])]
      unfold execOp
      simp only [hop, Sem.run_bind, hr, Result.andThen_ok, Sem.run_pure]
    case store ty x y =>
      have h3 := hso.1.2
      rw [if_neg (by omega), hop] at h3
      simp [isStore] at h3
    all_goals (simp only [RunOp, hop] at hr; exact hr W)
  · unfold execOp
    simp only [hst s1 t1 x1 y1 o1 o ho, Sem.run_bind, h1, Result.andThen_ok, Sem.run_pure]
  · unfold execOp
    simp only [hst s2 t2 x2 y2 o2 o ho, Sem.run_bind, h2, Result.andThen_ok, Sem.run_pure]
end
end Go.Lo
namespace Go.Lo
open Go.RowKit

section
variable (ops : Array Oper)
def ssaOp1 (s size i : Nat) (o : Oper) : Bool :=
  o.guard.isNone && (match opnds o.op with | none => false | some l => l.all (tmpOk ops i)) &&
    (if i = s then o.dst.isNone else !isStore o.op && (match o.dst with | none => false | some k => decide (k < size) && (List.range i).all fun j => dstOf ops j != some k))
def ssaB1 (s size : Nat) : Bool := decide (s < ops.size) && (List.range ops.size).all fun i => ((ops[i]?).map (ssaOp1 ops s size i)).getD true
end

section
variable {P : Program} {ops : Array Oper} {Q : Exit → Act → World → Prop} {vs : Array Value} {a : Act}

/-- what holds on the way -/
structure SsaI1 (ops : Array Oper) (vs : Array Value) (a : Act) (s : Nat) (w0 w1 : World) (L : Array Bool) (b : Act) (W : World) : Prop where
  size : b.tmps.size = a.tmps.size
  defs : b.defers = a.defers
  off : ∀ k, (∀ i, L.getD i false = true → dstOf ops i ≠ some k) → b.tmps.getD k undef = a.tmps.getD k undef
  on : ∀ i k, L.getD i false = true → dstOf ops i = some k → b.tmps.getD k undef = vs.getD i undef
  closed : ∀ i j, L.getD j false = true → aft ops i j = true → L.getD i false = true
  wld : W = if L.getD s false then w1 else w0

theorem wp_region_one {id : Nat} {w : World} (s : Nat) (ds : List (Option Tmp)) (vl : List Value) (w1 : World) (A : Act) (hA : putL ds vl a = A) (hds : (List.range ops.size).map (dstOf ops) = ds) (hvs : vl.length = ds.length)
    (hm : P.follows .mixedOrders = true) (hord : ordB ops = true) (hB : ssaB1 ops s a.tmps.size = true) (hrun : RunL P A w.drew ops.toList vl) (hrun1 : RunL P A w1 ops.toList vl)
    (t1 : TypeId) (x1 y1 : Operand) (o1 : (ops[s]?).map (·.op) = some (.store t1 x1 y1)) (h1 : (Instr.storeAt t1 (A.eval x1) (A.eval y1)).run P w.drew = .ok () w1)
    (hf : Q .normal A w1) : (Code.region id ops true).wp P Q a w := by
  have hn : vl.length = ops.size := by rw [hvs, ← hds]; simp
  obtain ⟨vs, hvv⟩ : ∃ vs, vs = vl.toArray := ⟨_, rfl⟩
  have hA2 : putAll ops vs a ops.size = A := by
    rw [hvv, putAll_eq _ (by simp [hn]), hds, ← hA]
    simp [← hn]
  have hv : ∀ i, vs.getD i undef = vl.getD i undef := fun i => by rw [hvv]; simp [Array.getD_eq_getD_getElem?, List.getD_eq_getElem?_getD]
  subst hA2
  simp only [ssaB1, Bool.and_eq_true, decide_eq_true_eq] at hB
  obtain ⟨hs1, hall⟩ := hB
  have hop : ∀ i o, ops[i]? = some o → ssaOp1 ops s a.tmps.size i o = true := fun i o ho => by
    have hi : i < ops.size := (Array.getElem?_eq_some_iff.1 ho).1
    have := List.all_eq_true.1 hall i (List.mem_range.2 hi)
    simpa [ho] using this
  have hdst : ∀ i o, ops[i]? = some o → i ≠ s → isStore o.op = false ∧ ∃ k, o.dst = some k ∧ k < a.tmps.size ∧ ∀ j, j < i → dstOf ops j ≠ some k := fun i o ho n1 => by
    have := hop i o ho
    simp only [ssaOp1, Bool.and_eq_true] at this
    have h3 := this.2
    rw [if_neg n1, Bool.and_eq_true] at h3
    refine ⟨by simpa using h3.1, ?_⟩
    replace h3 := h3.2
    cases hd : o.dst with
    | none => rw [hd] at h3; cases h3
    | some k =>
      rw [hd] at h3
      simp only [Bool.and_eq_true, decide_eq_true_eq] at h3
      refine ⟨k, rfl, h3.1, fun j hj => ?_⟩
      have := List.all_eq_true.1 h3.2 j (List.mem_range.2 hj)
      simpa using this
  have hnone : ∀ o, ops[s]? = some o → o.dst = none := fun o ho => by
    have := hop s o ho
    simp only [ssaOp1, Bool.and_eq_true] at this
    have h3 := this.2
    rw [if_pos trivial] at h3
    simpa using h3
  have huniq : ∀ i j k, dstOf ops i = some k → dstOf ops j = some k → i = j := fun i j k hi hj => by
    obtain ⟨oi, hoi, hdi⟩ := Option.bind_eq_some_iff.1 hi
    obtain ⟨oj, hoj, hdj⟩ := Option.bind_eq_some_iff.1 hj
    have ni : i ≠ s := fun hc => by subst hc; rw [hnone oi hoi] at hdi; cases hdi
    have nj : j ≠ s := fun hc => by subst hc; rw [hnone oj hoj] at hdj; cases hdj
    obtain ⟨-, k1, e1, _, u1⟩ := hdst i oi hoi ni
    obtain ⟨-, k2, e2, _, u2⟩ := hdst j oj hoj nj
    rw [hdi] at e1
    rw [hdj] at e2
    obtain rfl := Option.some.inj e1
    obtain rfl := Option.some.inj e2
    rcases Nat.lt_trichotomy i j with h | h | h
    · exact absurd hi (u2 i h)
    · exact h
    · exact absurd hj (u1 j h)
  have hlt : ∀ i k, dstOf ops i = some k → i < ops.size ∧ k < a.tmps.size := fun i k hi => by
    obtain ⟨oi, hoi, hdi⟩ := Option.bind_eq_some_iff.1 hi
    have ni : i ≠ s := fun hc => by subst hc; rw [hnone oi hoi] at hdi; cases hdi
    obtain ⟨-, k1, e1, l1, _⟩ := hdst i oi hoi ni
    rw [hdi] at e1
    obtain rfl := Option.some.inj e1
    exact ⟨(Array.getElem?_eq_some_iff.1 hoi).1, l1⟩
  have hfin : ∀ i k, dstOf ops i = some k → (putAll ops vs a ops.size).tmps.getD k undef = vs.getD i undef := fun i k hi =>
    putAll_at k (hlt i k hi).2 ops.size i (hlt i k hi).1 hi fun j _ hj hc => by have := huniq i j k hi hc; omega
  refine wp_region_inv0 (fun a0 w0 L b W => SsaI1 ops vs a s w.drew w1 L b W) hm hord ?_ ?_ ?_
  · have hz : ∀ j, (Array.replicate ops.size false).getD j false = false := fun j => by
      simp only [Array.getD_eq_getD_getElem?, Array.getElem?_replicate]
      split <;> rfl
    exact ⟨rfl, rfl, fun _ _ => rfl, fun i k h => (by rw [hz] at h; cases h), fun i j h => (by rw [hz] at h; cases h), by rw [hz]; rfl⟩
  · intro L b W i hL hi hI
    have hilt := (ready_mem hi).1
    have hun := getD_low (ready_mem hi).2
    obtain ⟨o, ho⟩ : ∃ o, ops[i]? = some o := ⟨_, Array.getElem?_eq_getElem hilt⟩
    have hso := hop i o ho
    simp only [ssaOp1, Bool.and_eq_true] at hso
    obtain ⟨⟨hg, hx⟩, _⟩ := hso
    have hgd : o.guard = none := by simpa using hg
    have haft : ∀ j, aft ops j i = true → L.getD j false = true := fun j hj => by
      have h3 := ready_after hi ho
      simp only [aft, ho, Option.map_some, Option.getD_some] at hj
      obtain ⟨e, he, h4⟩ := Array.any_eq_true'.1 hj
      simp only [Bool.and_eq_true, beq_iff_eq] at h4
      have h5 := (Array.all_eq_true'.1 h3) e he
      rw [h4.1, h4.2] at h5
      simpa using h5
    have hev : execOp b.eval o = execOp (putAll ops vs a ops.size).eval o := by
      cases hl : opnds o.op with
      | none => rw [hl] at hx; cases hx
      | some l =>
        rw [hl] at hx
        refine execOp_congr hl fun x hxl => ?_
        have h3 := List.all_eq_true.1 hx x hxl
        cases x with
        | tmp k =>
          simp only [Act.eval]
          by_cases hk : ∃ j, dstOf ops j = some k
          · obtain ⟨j, hj⟩ := hk
            have h4 := List.all_eq_true.1 h3 j (List.mem_range.2 (hlt j k hj).1)
            rw [hj] at h4
            simp only [bne_self_eq_false, Bool.false_or] at h4
            rw [hI.on j k (haft j h4) hj, hfin j k hj]
          · rw [hI.off k fun j _ hc => hk ⟨j, hc⟩, putAll_other k ops.size fun j _ hc => hk ⟨j, hc⟩]
        | const v => rfl
        | global g => rfl
        | func f => rfl
    have hg2 : ∀ j, (L.setIfInBounds i true).getD j false = if j = i then true else L.getD j false := fun j => getD_set (by rw [hL]; exact hilt)
    have hstep : ∀ (v : Value) (W' : World), (W' = if (L.setIfInBounds i true).getD s false then w1 else w.drew) → (∀ k, o.dst = some k → v = vs.getD i undef) → SsaI1 ops vs a s w.drew w1 (L.setIfInBounds i true) (b.put o.dst v) W' := by
      intro v W' hW hv
      have hdo : dstOf ops i = o.dst := by simp [dstOf, ho]
      refine ⟨by rw [put_size, hI.size], by rw [put_def, hI.defs], fun k hk => ?_, fun j k hj hd => ?_, fun p q hq hpq => ?_, hW⟩
      · rw [put_get, if_neg (fun hc => hk i (by rw [hg2, if_pos rfl]) (by rw [hdo]; exact hc.1))]
        refine hI.off k fun j hj => hk j ?_
        rw [hg2]
        split
        · rfl
        · exact hj
      · rw [hg2] at hj
        rw [put_get]
        by_cases hji : j = i
        · subst hji
          rw [hdo] at hd
          rw [if_pos ⟨hd, by rw [hI.size]; exact (hlt j k (hdo.trans hd)).2⟩, hv k hd]
        · rw [if_neg hji] at hj
          rw [if_neg (fun hc => hji (huniq j i k hd (hdo.trans hc.1)))]
          exact hI.on j k hj hd
      · rw [hg2] at hq ⊢
        by_cases hqi : q = i
        · subst hqi
          split
          · rfl
          · exact haft p hpq
        · rw [if_neg hqi] at hq
          split
          · rfl
          · exact hI.closed p q hq hpq
    have hw : Region.wanted o (yielded ops b.tmps) = true := by simp [Region.wanted, hgd]
    unfold wpOp
    simp only [ho, hw, if_true]
    refine .inl ?_
    unfold Oper.wp
    rw [hev]
    have hWd := hI.wld
    by_cases e1 : i = s
    · subst e1
      rw [hun] at hWd
      simp only [Bool.false_eq_true, if_false] at hWd
      have hr : (execOp (putAll ops vs a ops.size).eval o).run P w.drew = .ok .skip w1 := by
        have h2 : o.op = .store t1 x1 y1 := by rw [ho] at o1; simpa using o1
        unfold execOp
        simp only [h2, Sem.run_bind, h1, Result.andThen_ok, Sem.run_pure]
      rw [hWd, hr]
      exact hstep _ _ (by
        have q1 := hg2 i
        rw [if_pos rfl] at q1
        rw [q1]
        rfl) fun k hk => by rw [hnone o ho] at hk; cases hk
    · have hr := hrun.at i o (by simpa using ho) (by omega)
      rw [← hv] at hr
      obtain ⟨hst, -⟩ := hdst i o ho e1
      have hr1 := hrun1.at i o (by simpa using ho) (by omega)
      rw [← hv] at hr1
      have hr2 : (execOp (putAll ops vs a ops.size).eval o).run P W = .ok (.value (vs.getD i undef)) W := by
        cases hop2 : o.op
        case load ty x =>
          simp only [RunOp, hop2] at hr hr1
          have h5 : W = w1 ∨ W = w.drew := by
            rw [hWd]
            split
            · exact .inl rfl
            · exact .inr rfl
          rcases h5 with rfl | rfl
          · unfold execOp
            simp only [hop2, Sem.run_bind, hr1, Result.andThen_ok, Sem.run_pure]
          · unfold execOp
            simp only [hop2, Sem.run_bind, hr, Result.andThen_ok, Sem.run_pure]
        case store ty x y => rw [hop2] at hst; simp [isStore] at hst
        all_goals (simp only [RunOp, hop2] at hr; exact hr W)
      rw [hr2]
      refine hstep _ _ ?_ fun _ _ => rfl
      have q1 := hg2 s
      rw [if_neg (show ¬ s = i by omega)] at q1
      rw [q1]
      exact hWd
  · intro L b W hA hI
    have hb : b = putAll ops vs a ops.size := by
      refine act_ext (hI.defs.trans (putAll_def _).symm) (hI.size.trans (putAll_size _).symm) fun k => ?_
      by_cases hk : ∃ j, dstOf ops j = some k
      · obtain ⟨j, hj⟩ := hk
        rw [hI.on j k (hA j (hlt j k hj).1) hj, hfin j k hj]
      · rw [hI.off k fun j _ hc => hk ⟨j, hc⟩, putAll_other k ops.size fun j _ hc => hk ⟨j, hc⟩]
    have hW := hI.wld
    rw [hA s hs1] at hW
    rw [hb, hW]
    exact hf
end
end Go.Lo
namespace Go.Proofs.YtiikagabdiphkaaGreat
open Go.RowKit Go.Lo

/-- what a comparison without captured variables answers of two elements -/
structure CmpF {α : Type} (enc : α → List Value) (lt : α → α → Bool) (F : FuncId) : Prop where
  enters : ∀ args w, (callFunc F args).run Tryz.prog w = .ok (.enter F args) w
  call : ∀ (x y : α) (W : World), Calls Tryz.prog F #[.agg (enc x).toArray, .agg (enc y).toArray] W fun e W' => ∃ c : Int, e = .returned (.int .i64 c) ∧ decide (c < 0) = lt x y ∧ Below W.heap.size W W'

theorem wRowT : RowT Tryz.prog 38 10 := ⟨⟨_, Tryz.underlying38, rfl⟩, by kernel_rfl⟩

section
variable {α : Type} [Inhabited α] {enc : α → List Value} (E : RowE enc 10) {lt : α → α → Bool} {F : FuncId} (HC : CmpF enc lt F)

/-- what a call on the row leaves -/
def RowPC (enc : α → List Value) (w : World) (g : Nat) (rest : List Value) (d : Array α) (e : Ending) (w' : World) : Prop := e = .returned (.tuple #[]) ∧ RowC enc 38 w g rest d w'

include E HC
set_option maxRecDepth 100000 in
set_option maxHeartbeats 1000000 in
theorem insC_any (g n cap : Nat) (rest : List Value) (d : Array α) (a b : Nat) (w : World) (h : RowC enc 38 w g rest d w) (hd : d.size = n) (hab : a ≤ b) (hb : b ≤ n) (hn : n ≤ 1099511627776) :
    Calls Tryz.prog 161 #[.slice (some ⟨g, 0, none⟩) n cap, .int .i64 a, .int .i64 b, .func (.func F) #[] #[]] w (RowPC enc w g rest (Sort.insertionSort lt d a b)) := by
  have hEF := HC.enters
  replace HC := Lib.hid HC.call
  replace E := Lib.hid E
  go_enter Tryz.func161, Tryz.ntmps161
  go_wp2_with fail
  go_loopg [8] (b - (a + 1)) (fun m v wr => ∃ (i : Nat) (d1 : Array α), a + 1 ≤ i ∧ m = b - i ∧ v = .int .i64 i ∧ d1.size = n ∧ Sort.insOuter lt a b i d1 = Sort.insertionSort lt d a b ∧ RowC enc 38 w g rest d1 wr)
  case atStart => exact ⟨a + 1, d, Nat.le_refl _, by omega, by go_num, hd, rfl, h⟩
  case round =>
    obtain ⟨i, d1, hi, rfl, rfl, hd1, he, hr⟩ := hrel
    obtain ⟨w1, rfl⟩ : ∃ x : World, x = wr := ⟨_, rfl⟩
    by_cases hib : i < b
    · have he' : Sort.insOuter lt a b (i + 1) (Sort.insInner lt a i d1) = Sort.insertionSort lt d a b := by
        rw [← he]
        conv => rhs; unfold Sort.insOuter
        rw [if_pos hib]
      replace he' := Lib.hid he'
      replace hr := Lib.hid hr
      clear he h
      go_wp2_with fail
      go_loopg [9] i (fun m v wr => ∃ (j : Nat) (d2 : Array α), j ≤ i ∧ m = j ∧ v = .int .i64 j ∧ d2.size = n ∧ Sort.insInner lt a j d2 = Sort.insInner lt a i d1 ∧ RowC enc 38 w g rest d2 wr)
      case atStart => exact ⟨i, d1, Nat.le_refl _, rfl, rfl, hd1, rfl, hr.out⟩
      case round =>
        obtain ⟨j, d2, hj, hmj, rfl, hd2, he2, hr2⟩ := hrel
        obtain ⟨w2, rfl⟩ : ∃ x : World, x = wr := ⟨_, rfl⟩
        replace hmj := Lib.hid hmj
        by_cases hja : a < j
        · obtain ⟨k, rfl⟩ : ∃ k, j = k + 1 := ⟨j - 1, by omega⟩
          have dja : decide ((a : Int) < (k : Int) + 1) = true := decide_eq_true (by omega)
          have i1 : (k : Int) + 1 < (n : Int) := by omega
          have i2 : (0 : Int) ≤ (k : Int) + 1 := by omega
          have i3 : (k : Int) < (n : Int) := by omega
          have iw : IntKind.i64.wrap (k : Int) = (k : Int) := IntWalk.i64_in _ (by omega)
          have c1 := hr2.load E.out wRowT (i := k + 1) (by omega)
          have c0 := hr2.load E.out wRowT (i := k) (by omega)
          replace hr2 := Lib.hid hr2
          cases hlt : lt d2[k + 1]! d2[k]! with
          | true =>
            have he3 : Sort.insInner lt a k (Sort.swp d2 (k + 1) k) = Sort.insInner lt a i d1 := by
              rw [← he2]
              conv => rhs; unfold Sort.insInner
              rw [if_pos (by simp [hlt]; omega)]
            replace he3 := Lib.hid he3
            replace hlt := Lib.hid hlt
            clear he2
            go_wp2_with fail
            refine wp_region_still_tail 14 (by kernel_rfl) (by kernel_rfl) ?_
            simp only [List.take_succ_cons, List.take_zero, List.drop_succ_cons, List.drop_zero]
            repeat (first | (refine wpStill_load rfl 38 _ rfl _ (c1 _ rfl) ?_; try simp only [Act.put, List.setIfInBounds_toArray, List.set_cons_zero, List.set_cons_succ]) | (refine wpStill_load rfl 38 _ rfl _ (c0 _ rfl) ?_; try simp only [Act.put, List.setIfInBounds_toArray, List.set_cons_zero, List.set_cons_succ]) | still_step)
            refine wpStill_nil ?_
            go_upto_region 6 with (refine Calls.mono (HC.out _ _ _) ?_; rintro e w3 ⟨c, rfl, hc, hB3⟩; rw [hlt.out] at hc; have hcp : c < 0 := of_decide_eq_true hc)
            have hr3 := hr2.out.drew.call hB3
            have hsz := Lib.hid ((Sort.size_swp d2 (k + 1) k).trans hd2)
            clear c1 c0 hc hcp hB3 dja
            have c1 := hr3.drew.load E.out wRowT (i := k + 1) (by omega)
            have c0 := hr3.drew.load E.out wRowT (i := k) (by omega)
            obtain ⟨W1, W2, s1, s2, hsw⟩ := hr3.drew.swp E.out wRowT (i := k + 1) (j := k) (by omega) (by omega)
            replace hsw := Lib.hid hsw
            clear hr3
            have e1 := c1 _ rfl
            have e0 := c0 _ rfl
            clear c1 c0
            generalize (enc d2[k + 1]!).toArray = x1 at *
            generalize (enc d2[k]!).toArray = x0 at *
            refine wp_region_swp 15 17 [some 37, some 38, some 39, some 40, some 41, some 42, some 43, some 44, some 45, some 46, some 47, some 48, some 49, some 50, some 51, none, some 52, none] [.slice (some ⟨g, 0, none⟩) n cap, .int .i64 ((k : Int) + 1), .slice (some ⟨g, 0, none⟩) n cap, .int .i64 ((k : Int) + 1), .int .i64 k, .slice (some ⟨g, 0, none⟩) n cap, .int .i64 ((k : Int) + 1), .int .i64 k, .pointer (some ⟨g, k * 10, none⟩), .agg x0, .slice (some ⟨g, 0, none⟩) n cap, .int .i64 ((k : Int) + 1), .pointer (some ⟨g, (k + 1) * 10, none⟩), .agg x1, .pointer (some ⟨g, (k + 1) * 10, none⟩), undef, .pointer (some ⟨g, k * 10, none⟩), undef] W1 W2 ?A ?hA (by kernel_rfl) rfl (by kernel_rfl) (by kernel_rfl) (by kernel_rfl) ?hrun 38 38 (.tmp 51) (.tmp 46) (.tmp 52) (.tmp 50) rfl rfl ?h1 ?h2 ?hf
            case hA => simp only [putL, Act.put, List.setIfInBounds_toArray, List.set_cons_zero, List.set_cons_succ]; rfl
            case h1 => exact s1
            case h2 => exact s2
            case hrun =>
              simp only [RunL, RunOp]
              refine ⟨?_, ?_, ?_, ?_, ?_, ?_, ?_, ?_, ?_, ?_, ?_, ?_, ?_, ?_, ?_, ?_, ?_, ?_, ?_⟩
              all_goals first | exact e0 | exact e1 | trivial | (intro W; go_simp)
            go_wp2
            go_roundg k
            case measure => have := hmj.out; omega
            case rel => exact ⟨k, Sort.swp d2 (k + 1) k, by omega, rfl, by go_num, hsz.out, he3.out, hsw.out⟩
          | false =>
            have he3 : d2 = Sort.insInner lt a i d1 := by
              rw [← he2]
              unfold Sort.insInner
              rw [if_neg (by simp [hlt])]
            replace he3 := Lib.hid he3
            replace hlt := Lib.hid hlt
            clear he2
            go_wp2_with fail
            refine wp_region_still_tail 14 (by kernel_rfl) (by kernel_rfl) ?_
            simp only [List.take_succ_cons, List.take_zero, List.drop_succ_cons, List.drop_zero]
            repeat (first | (refine wpStill_load rfl 38 _ rfl _ (c1 _ rfl) ?_; try simp only [Act.put, List.setIfInBounds_toArray, List.set_cons_zero, List.set_cons_succ]) | (refine wpStill_load rfl 38 _ rfl _ (c0 _ rfl) ?_; try simp only [Act.put, List.setIfInBounds_toArray, List.set_cons_zero, List.set_cons_succ]) | still_step)
            refine wpStill_nil ?_
            go_wp2_with (refine Calls.mono (HC.out _ _ _) ?_; rintro e w3 ⟨c, rfl, hc, hB3⟩; rw [hlt.out] at hc; have hcp : ¬ c < 0 := of_decide_eq_false hc; have hr3 := hr2.out.drew.call hB3)
            go_roundg (b - (i + 1))
            case measure => omega
            case rel => exact ⟨i + 1, d2, by omega, rfl, by go_num, hd2, by rw [← he'.out, ← he3.out], hr3⟩
        · have dja : decide ((a : Int) < (j : Int)) = false := decide_eq_false (by omega)
          have he3 : d2 = Sort.insInner lt a i d1 := by
            rw [← he2]
            cases j with
            | zero => rfl
            | succ k =>
              unfold Sort.insInner
              rw [if_neg (by simp; omega)]
          replace he3 := Lib.hid he3
          replace hr2 := Lib.hid hr2
          clear he2
          go_wp2_with fail
          go_quiet (fail)
          go_wp2_with fail
          go_roundg (b - (i + 1))
          case measure => omega
          case rel => exact ⟨i + 1, d2, by omega, rfl, by go_num, hd2, by rw [← he'.out, ← he3.out], hr2.out.drewN nq⟩
    · have he' : d1 = Sort.insertionSort lt d a b := by
        rw [← he]
        unfold Sort.insOuter
        rw [if_neg hib]
      subst he'
      go_wp2
      go_end0
      exact ⟨rfl, hr⟩
end
end Go.Proofs.YtiikagabdiphkaaGreat
namespace Go.Proofs.YtiikagabdiphkaaGreat
open Go.RowKit Go.Lo

section
variable {α : Type} [Inhabited α] {enc : α → List Value} (E : RowE enc 10) {lt : α → α → Bool} {F : FuncId} (HC : CmpF enc lt F)
include E
set_option maxRecDepth 100000 in
set_option maxHeartbeats 1000000 in
theorem revC_any (g n cap : Nat) (rest : List Value) (d : Array α) (a b : Nat) (w : World) (h : RowC enc 38 w g rest d w) (hd : d.size = n) (hb1 : 1 ≤ b) (hb : b ≤ n) (hn : n ≤ 1099511627776) :
    Calls Tryz.prog 165 #[.slice (some ⟨g, 0, none⟩) n cap, .int .i64 a, .int .i64 b, .func (.func F) #[] #[]] w (RowPC enc w g rest (Sort.reverseRange d a b)) := by
  replace E := Lib.hid E
  have e1 : ((b : Int) - 1) = ((b - 1 : Nat) : Int) := by omega
  have e2 : IntKind.i64.wrap ((b : Int) - 1) = ((b - 1 : Nat) : Int) := by rw [e1]; exact IntWalk.i64_in _ (by omega)
  go_enter Tryz.func165, Tryz.ntmps165
  go_wp2_with fail
  clear e2
  go_loopg [8, 9] (b - 1 - a) (fun m v u wr => ∃ (i j : Nat) (d1 : Array α), a ≤ i ∧ j ≤ b - 1 ∧ m = j - i ∧ v = .int .i64 i ∧ u = .int .i64 j ∧ d1.size = n ∧ Sort.reverseLoop i j d1 = Sort.reverseRange d a b ∧ RowC enc 38 w g rest d1 wr)
  case atStart => exact ⟨a, b - 1, d, Nat.le_refl _, Nat.le_refl _, rfl, rfl, rfl, hd, rfl, h⟩
  case round =>
    obtain ⟨i, j, d1, hi, hj, hm, rfl, rfl, hd1, he, hr⟩ := hrel
    obtain ⟨w1, rfl⟩ : ∃ x : World, x = wr := ⟨_, rfl⟩
    replace hm := Lib.hid hm
    clear h e1
    by_cases hij : i < j
    · have he' : Sort.reverseLoop (i + 1) (j - 1) (Sort.swp d1 i j) = Sort.reverseRange d a b := by
        rw [← he]
        conv => rhs; unfold Sort.reverseLoop
        rw [if_pos hij]
      have i1 : (i : Int) < (n : Int) := by omega
      have i2 : (j : Int) < (n : Int) := by omega
      have i3 : (i : Int) < (j : Int) := by omega
      have ej : ((j : Int) - 1) = ((j - 1 : Nat) : Int) := by omega
      replace he' := Lib.hid he'
      replace ej := Lib.hid ej
      clear he
      go_upto_region 3 with fail
      obtain ⟨W1, W2, s1, s2, hsw⟩ := hr.drew.swp E.out wRowT (i := i) (j := j) (by omega) (by omega)
      have e1 := hr.drew.load E.out wRowT (i := j) (by omega) _ rfl
      have e0 := hr.drew.load E.out wRowT (i := i) (by omega) _ rfl
      have hsz := Sort.size_swp d1 i j
      replace hsw := Lib.hid hsw
      replace hsz := Lib.hid hsz
      clear hr
      generalize (enc d1[i]!).toArray = xa at *
      generalize (enc d1[j]!).toArray = xb at *
      refine wp_region_swp 13 15 [some 16, some 17, some 18, some 19, some 20, some 21, some 22, some 23, some 24, some 25, some 26, some 27, some 28, none, some 29, none] [.slice (some ⟨g, 0, none⟩) n cap, .int .i64 i, .slice (some ⟨g, 0, none⟩) n cap, .int .i64 j, .slice (some ⟨g, 0, none⟩) n cap, .int .i64 j, .pointer (some ⟨g, j * 10, none⟩), .agg xb, .slice (some ⟨g, 0, none⟩) n cap, .int .i64 i, .pointer (some ⟨g, i * 10, none⟩), .agg xa, .pointer (some ⟨g, i * 10, none⟩), undef, .pointer (some ⟨g, j * 10, none⟩), undef] W1 W2 ?A ?hA (by kernel_rfl) rfl (by kernel_rfl) (by kernel_rfl) (by kernel_rfl) ?hrun 38 38 (.tmp 28) (.tmp 23) (.tmp 29) (.tmp 27) rfl rfl ?h1 ?h2 ?hf
      case hA => simp only [putL, Act.put, List.setIfInBounds_toArray, List.set_cons_zero, List.set_cons_succ]; rfl
      case h1 => exact s1
      case h2 => exact s2
      case hrun =>
        simp only [RunL, RunOp]
        refine ⟨?_, ?_, ?_, ?_, ?_, ?_, ?_, ?_, ?_, ?_, ?_, ?_, ?_, ?_, ?_, ?_, ?_⟩
        all_goals first | exact e0 | exact e1 | trivial | (intro W; go_simp)
      clear s1 s2 e0 e1
      go_wp2
      go_roundg (j - 1 - (i + 1))
      case measure => have := hm.out; omega
      case rel => exact ⟨i + 1, j - 1, Sort.swp d1 i j, by omega, by omega, rfl, by go_num, by rw [← ej.out], by rw [hsz.out]; exact hd1, he'.out, hsw.out⟩
    · have he' : d1 = Sort.reverseRange d a b := by
        rw [← he]
        unfold Sort.reverseLoop
        rw [if_neg hij]
      have i3 : ¬ (i : Int) < (j : Int) := by omega
      subst he'
      go_wp2
      go_end0
      exact ⟨rfl, hr⟩

/-- the pivot's looks: nothing turns but the count of swaps -/
structure SwC (enc : α → List Value) (w0 : World) (g : Nat) (rest : List Value) (d : Array α) (sb s : Nat) (w : World) : Prop where
  row : RowC enc 38 w0 g rest d w
  cnt : Blk w sb 3 #[.int .i64 s]
omit E [Inhabited α] in
theorem SwC.drew {w0 w : World} {g sb s : Nat} {rest : List Value} {d : Array α} (h : SwC enc w0 g rest d sb s w) : SwC enc w0 g rest d sb s w.drew := ⟨h.row.drew, h.cnt⟩
omit E [Inhabited α] in
theorem SwC.call {w0 w w' : World} {g sb s : Nat} {rest : List Value} {d : Array α} (h : SwC enc w0 g rest d sb s w) (hb : Below w.heap.size w w') : SwC enc w0 g rest d sb s w' := ⟨h.row.call hb, h.cnt.below hb h.cnt.lt⟩

include HC
set_option maxRecDepth 100000 in
theorem order2C_any (w0 : World) (g n cap : Nat) (rest : List Value) (d : Array α) (sb s a b : Nat) (w : World) (h : SwC enc w0 g rest d sb s w) (hg : g < w0.heap.size) (hsb : w0.heap.size ≤ sb) (hd : d.size = n) (ha : a < n) (hb : b < n) (_hn : n ≤ 1099511627776) (hs : s ≤ 1000) :
    Calls Tryz.prog 205 #[.slice (some ⟨g, 0, none⟩) n cap, .int .i64 a, .int .i64 b, .pointer (some ⟨sb, 0, none⟩), .func (.func F) #[] #[]] w fun e w' =>
      e = .returned (.tuple #[.int .i64 (Sort.order2 lt d a b s).1, .int .i64 (Sort.order2 lt d a b s).2.1]) ∧ SwC enc w0 g rest d sb (Sort.order2 lt d a b s).2.2 w' := by
  have hEF := HC.enters
  replace HC := Lib.hid HC.call
  have ca := h.row.load E wRowT (i := a) (by omega)
  have cb := h.row.load E wRowT (i := b) (by omega)
  have i1 : (a : Int) < (n : Int) := by omega
  have i2 : (b : Int) < (n : Int) := by omega
  replace h := Lib.hid h
  cases hlt : lt d[b]! d[a]! with
  | true =>
    rw [show Sort.order2 lt d a b s = (b, a, s + 1) by unfold Sort.order2; rw [if_pos hlt]]
    replace hlt := Lib.hid hlt
    generalize d[b]! = x1 at *
    generalize d[a]! = x0 at *
    go_enter Tryz.func205, Tryz.ntmps205
    go_wp2_with fail
    refine wp_region_still_tail 9 (by kernel_rfl) (by kernel_rfl) ?_
    simp only [List.take_succ_cons, List.take_zero, List.drop_succ_cons, List.drop_zero]
    repeat (first | (refine wpStill_load rfl 38 _ rfl _ (cb _ rfl) ?_; try simp only [Act.put, List.setIfInBounds_toArray, List.set_cons_zero, List.set_cons_succ]) | (refine wpStill_load rfl 38 _ rfl _ (ca _ rfl) ?_; try simp only [Act.put, List.setIfInBounds_toArray, List.set_cons_zero, List.set_cons_succ]) | still_step)
    refine wpStill_nil ?_
    go_wp2_with (refine Calls.mono (HC.out _ _ _) ?_; rintro e w3 ⟨c, rfl, hc, hB3⟩; rw [hlt.out] at hc; have hcp : c < 0 := of_decide_eq_true hc; have h3 := h.out.drew.call hB3; have s0 := h3.cnt.cell 0; have t0 := h3.cnt.free 0; simp only [List.getElem?_toArray, List.getElem?_cons_zero] at s0; have hfar := Lib.hid (h3.row.far (p := ⟨sb, 0, none⟩) hsb hg (.int .i64 ((s : Int) + 1))); have hset := Lib.hid (h3.cnt.set_ 0 (.int .i64 ((s : Int) + 1))))
    refine bodyPost_ret (results_tmp2 rfl _ _ _) rfl ?_
    exact ⟨rfl, ⟨hfar.out, hset.out⟩⟩
  | false =>
    rw [show Sort.order2 lt d a b s = (a, b, s) by unfold Sort.order2; rw [if_neg (by simp [hlt])]]
    replace hlt := Lib.hid hlt
    generalize d[b]! = x1 at *
    generalize d[a]! = x0 at *
    go_enter Tryz.func205, Tryz.ntmps205
    go_wp2_with fail
    refine wp_region_still_tail 9 (by kernel_rfl) (by kernel_rfl) ?_
    simp only [List.take_succ_cons, List.take_zero, List.drop_succ_cons, List.drop_zero]
    repeat (first | (refine wpStill_load rfl 38 _ rfl _ (cb _ rfl) ?_; try simp only [Act.put, List.setIfInBounds_toArray, List.set_cons_zero, List.set_cons_succ]) | (refine wpStill_load rfl 38 _ rfl _ (ca _ rfl) ?_; try simp only [Act.put, List.setIfInBounds_toArray, List.set_cons_zero, List.set_cons_succ]) | still_step)
    refine wpStill_nil ?_
    go_wp2_with (refine Calls.mono (HC.out _ _ _) ?_; rintro e w3 ⟨c, rfl, hc, hB3⟩; rw [hlt.out] at hc; have hcp : ¬ c < 0 := of_decide_eq_false hc; have h3 := Lib.hid (h.out.drew.call hB3))
    refine bodyPost_ret (results_tmp2 rfl _ _ _) rfl ?_
    exact ⟨rfl, h3.out⟩

omit E HC in
theorem order2C_in {d : Array α} {a b s n : Nat} (ha : a < n) (hb : b < n) : (Sort.order2 lt d a b s).1 < n ∧ (Sort.order2 lt d a b s).2.1 < n ∧ (Sort.order2 lt d a b s).2.2 ≤ s + 1 := by
  unfold Sort.order2
  split <;> simp <;> omega

set_option maxRecDepth 100000 in
theorem medianC_any (w0 : World) (g n cap : Nat) (rest : List Value) (d : Array α) (sb s a b c : Nat) (w : World) (h : SwC enc w0 g rest d sb s w) (hg : g < w0.heap.size) (hsb : w0.heap.size ≤ sb) (hd : d.size = n) (ha : a < n) (hb : b < n) (hc : c < n) (hn : n ≤ 1099511627776) (hs : s ≤ 900) :
    Calls Tryz.prog 197 #[.slice (some ⟨g, 0, none⟩) n cap, .int .i64 a, .int .i64 b, .int .i64 c, .pointer (some ⟨sb, 0, none⟩), .func (.func F) #[] #[]] w fun e w' =>
      e = .returned (.int .i64 (Sort.median lt d a b c s).1) ∧ SwC enc w0 g rest d sb (Sort.median lt d a b c s).2 w' := by
  obtain ⟨r1, hr1⟩ : ∃ r, r = Sort.order2 lt d a b s := ⟨_, rfl⟩
  obtain ⟨r2, hr2⟩ : ∃ r, r = Sort.order2 lt d r1.2.1 c r1.2.2 := ⟨_, rfl⟩
  obtain ⟨r3, hr3⟩ : ∃ r, r = Sort.order2 lt d r1.1 r2.1 r2.2.2 := ⟨_, rfl⟩
  have hm : Sort.median lt d a b c s = (r3.2.1, r3.2.2) := by
    rw [hr3, hr2, hr1]
    rfl
  rw [hm]
  obtain ⟨l1, l2, l3⟩ := order2C_in (lt := lt) (d := d) (s := s) ha hb
  rw [← hr1] at l1 l2 l3
  obtain ⟨m1, m2, m3⟩ := order2C_in (lt := lt) (d := d) (s := r1.2.2) l2 hc
  rw [← hr2] at m1 m2 m3
  have C1 := order2C_any E HC w0 g n cap rest d sb s a b w h hg hsb hd ha hb hn (by omega)
  rw [← hr1] at C1
  have C2 := fun w h => order2C_any E HC w0 g n cap rest d sb r1.2.2 r1.2.1 c w h hg hsb hd l2 hc hn (by omega)
  rw [← hr2] at C2
  have C3 := fun w h => order2C_any E HC w0 g n cap rest d sb r2.2.2 r1.1 r2.1 w h hg hsb hd l1 m1 hn (by omega)
  rw [← hr3] at C3
  replace C1 := Lib.hid C1
  replace C2 := Lib.hid C2
  replace C3 := Lib.hid C3
  clear hr1 hr2 hr3 hm h E HC
  obtain ⟨r11, r12, r13⟩ := r1
  obtain ⟨r21, r22, r23⟩ := r2
  obtain ⟨r31, r32, r33⟩ := r3
  go_enter Tryz.func197, Tryz.ntmps197
  go_upto_region 2 with (go_at_call 205; refine Calls.mono C1.out ?_; rintro e w1 ⟨rfl, h1⟩)
  go_upto_region 3 with (go_at_call 205; refine Calls.mono (C2.out w1 h1) ?_; rintro e w2 ⟨rfl, h2⟩)
  go_wp2_with (go_at_call 205; refine Calls.mono (C3.out w2 h2) ?_; rintro e w3 ⟨rfl, h3⟩)
  go_ret
  exact ⟨rfl, h3⟩

omit E HC in
theorem medianC_in {d : Array α} {a b c s n : Nat} (ha : a < n) (hb : b < n) (hc : c < n) : (Sort.median lt d a b c s).1 < n ∧ (Sort.median lt d a b c s).2 ≤ s + 3 := by
  unfold Sort.median
  obtain ⟨l1, l2, l3⟩ := order2C_in (lt := lt) (d := d) (s := s) ha hb
  obtain ⟨m1, m2, m3⟩ := order2C_in (lt := lt) (d := d) (s := (Sort.order2 lt d a b s).2.2) l2 hc
  obtain ⟨n1, n2, n3⟩ := order2C_in (lt := lt) (d := d) (s := (Sort.order2 lt d (Sort.order2 lt d a b s).2.1 c (Sort.order2 lt d a b s).2.2).2.2) l1 m1
  exact ⟨n2, by simp only; omega⟩

set_option maxRecDepth 100000 in
theorem medadjC_any (w0 : World) (g n cap : Nat) (rest : List Value) (d : Array α) (sb s a : Nat) (w : World) (h : SwC enc w0 g rest d sb s w) (hg : g < w0.heap.size) (hsb : w0.heap.size ≤ sb) (hd : d.size = n) (ha : 1 ≤ a) (hb : a + 1 < n) (hn : n ≤ 1099511627776) (hs : s ≤ 900) :
    Calls Tryz.prog 196 #[.slice (some ⟨g, 0, none⟩) n cap, .int .i64 a, .pointer (some ⟨sb, 0, none⟩), .func (.func F) #[] #[]] w fun e w' =>
      e = .returned (.int .i64 (Sort.medianAdjacent lt d a s).1) ∧ SwC enc w0 g rest d sb (Sort.medianAdjacent lt d a s).2 w' := by
  have C := medianC_any E HC w0 g n cap rest d sb s (a - 1) a (a + 1) w h hg hsb hd (by omega) (by omega) hb hn hs
  rw [show ((a - 1 : Nat) : Int) = (a : Int) - 1 by omega, show ((a + 1 : Nat) : Int) = (a : Int) + 1 by omega] at C
  replace C := Lib.hid C
  clear E HC h
  have iw : IntKind.i64.wrap ((a : Int) - 1) = (a : Int) - 1 := IntWalk.i64_in _ (by omega)
  go_enter Tryz.func196, Tryz.ntmps196
  go_wp2_with (go_at_call 197; refine Calls.mono C.out ?_; rintro e w1 ⟨rfl, h1⟩)
  go_ret
  exact ⟨rfl, h1⟩
end
end Go.Proofs.YtiikagabdiphkaaGreat
namespace Go.Proofs.YtiikagabdiphkaaGreat
open Go.RowKit Go.Lo

theorem wrap64_in (z : Int) (h : -9223372036854775808 ≤ z ∧ z < 9223372036854775808) : wrap64 z = z := by
  unfold wrap64
  omega
theorem wrap64_nat (x : Nat) (h : x < 4611686018427387904) : wrap64 (x : Int) = (x : Int) := wrap64_in _ (by omega)

def hintC : Sort.Hint → Int
  | .unknown => 0
  | .increasing => 1
  | .decreasing => 2

section
variable {α : Type} [Inhabited α] {enc : α → List Value} (E : RowE enc 10) {lt : α → α → Bool} {F : FuncId} (HC : CmpF enc lt F)
include E HC
set_option maxRecDepth 100000 in
set_option maxHeartbeats 1000000 in
theorem chooseC_any (g n cap : Nat) (rest : List Value) (d : Array α) (a b : Nat) (w : World) (h : RowC enc 38 w g rest d w) (hd : d.size = n) (hl : 12 < b - a) (hb : b ≤ n) (hn : n ≤ 1099511627776) :
    Calls Tryz.prog 164 #[.slice (some ⟨g, 0, none⟩) n cap, .int .i64 a, .int .i64 b, .func (.func F) #[] #[]] w fun e w' =>
      e = .returned (.tuple #[.int .i64 (Sort.choosePivot lt d a b).1, .int .i64 (hintC (Sort.choosePivot lt d a b).2)]) ∧ RowC enc 38 w g rest d w' := by
  have hg : g < w.heap.size := h.blk.lt
  have h1 : SwC enc w g rest d w.heap.size 0 (w.alloc (.cells #[.int .i64 0] 3)) := ⟨h.alloc _, Blk.new _ _ _⟩
  obtain ⟨l, hle⟩ : ∃ l, l = b - a := ⟨_, rfl⟩
  obtain ⟨q, hq⟩ : ∃ q, q = l / 4 := ⟨_, rfl⟩
  have el : (b : Int) - (a : Int) = (l : Int) := by omega
  have ew : IntKind.i64.wrap (l : Int) = (l : Int) := IntWalk.i64_in _ (by omega)
  have eq4 : Int.tdiv (l : Int) 4 = (q : Int) := by rw [hq, Int.tdiv_eq_ediv_of_nonneg (by omega)]; omega
  have ei : Sort.choosePivot lt d a b = (let r := (if l ≥ 50 then
        let ri := Sort.medianAdjacent lt d (a + q * 1) 0
        let rj := Sort.medianAdjacent lt d (a + q * 2) ri.2
        let rk := Sort.medianAdjacent lt d (a + q * 3) rj.2
        Sort.median lt d ri.1 rj.1 rk.1 rk.2
      else Sort.median lt d (a + q * 1) (a + q * 2) (a + q * 3) 0); (r.1, if r.2 = 0 then Sort.Hint.increasing else if r.2 = 12 then .decreasing else .unknown)) := by
    unfold Sort.choosePivot
    simp only
    rw [← hle, ← hq, if_pos (show l ≥ 8 by omega)]
  rw [ei]
  clear ei
  obtain ⟨x1, hx1⟩ : ∃ x, x = a + q * 1 := ⟨_, rfl⟩
  obtain ⟨x2, hx2⟩ : ∃ x, x = a + q * 2 := ⟨_, rfl⟩
  obtain ⟨x3, hx3⟩ : ∃ x, x = a + q * 3 := ⟨_, rfl⟩
  rw [← hx1, ← hx2, ← hx3]
  have lx : a ≤ x1 ∧ x1 + 1 < n ∧ x2 + 1 < n ∧ x3 + 1 < n ∧ (50 ≤ l → 1 ≤ x1 ∧ 1 ≤ x2 ∧ 1 ≤ x3) := by omega
  have s1 : (a : Int) + (q : Int) = (x1 : Int) := by omega
  have s2 : (a : Int) + (q : Int) * 2 = (x2 : Int) := by omega
  have s3 : (a : Int) + (q : Int) * 3 = (x3 : Int) := by omega
  have bx1 : x1 < 4611686018427387904 := by omega
  have bx2 : x2 < 4611686018427387904 := by omega
  have bx3 : x3 < 4611686018427387904 := by omega
  have bq0 : q < 4611686018427387904 := by omega
  have bq2 : -9223372036854775808 ≤ (q : Int) * 2 ∧ (q : Int) * 2 < 9223372036854775808 := by omega
  have bq3 : -9223372036854775808 ≤ (q : Int) * 3 ∧ (q : Int) * 3 < 9223372036854775808 := by omega
  have p0 : wrap64 (q : Int) = (q : Int) := wrap64_nat q bq0
  have p1 : wrap64 ((a : Int) + (q : Int)) = (x1 : Int) := by rw [s1]; exact wrap64_nat x1 bx1
  have p22 : wrap64 ((q : Int) * 2) = (q : Int) * 2 := wrap64_in _ bq2
  have p2 : wrap64 ((a : Int) + (q : Int) * 2) = (x2 : Int) := by rw [s2]; exact wrap64_nat x2 bx2
  have p33 : wrap64 ((q : Int) * 3) = (q : Int) * 3 := wrap64_in _ bq3
  have p3 : wrap64 ((a : Int) + (q : Int) * 3) = (x3 : Int) := by rw [s3]; exact wrap64_nat x3 bx3
  clear s1 s2 s3 bx1 bx2 bx3 bq0 bq2 bq3
  clear hx1 hx2 hx3 hq
  by_cases h50 : 50 ≤ l
  · rw [if_pos h50]
    obtain ⟨_, b1, b2, b3, b4⟩ := lx
    obtain ⟨b5, b6, b7⟩ := b4 h50
    have i1 : (50 : Int) ≤ (l : Int) := by clear p0 p1 p2 p3 p22 p33; omega
    have i2 : (8 : Int) ≤ (l : Int) := by clear p0 p1 p2 p3 p22 p33; omega
    replace p0 := Lib.hid p0
    replace p1 := Lib.hid p1
    replace p2 := Lib.hid p2
    replace p3 := Lib.hid p3
    replace p22 := Lib.hid p22
    replace p33 := Lib.hid p33
    obtain ⟨r1, hr1⟩ : ∃ r, r = Sort.medianAdjacent lt d x1 0 := ⟨_, rfl⟩
    obtain ⟨r2, hr2⟩ : ∃ r, r = Sort.medianAdjacent lt d x2 r1.2 := ⟨_, rfl⟩
    obtain ⟨r3, hr3⟩ : ∃ r, r = Sort.medianAdjacent lt d x3 r2.2 := ⟨_, rfl⟩
    obtain ⟨R, hR⟩ : ∃ r, r = Sort.median lt d r1.1 r2.1 r3.1 r3.2 := ⟨_, rfl⟩
    have hm : (let ri := Sort.medianAdjacent lt d x1 0
        let rj := Sort.medianAdjacent lt d x2 ri.2
        let rk := Sort.medianAdjacent lt d x3 rj.2
        Sort.median lt d ri.1 rj.1 rk.1 rk.2) = R := by rw [hR, hr3, hr2, hr1]
    rw [hm]
    have l1 := medianC_in (lt := lt) (d := d) (a := x1 - 1) (b := x1) (c := x1 + 1) (s := 0) (n := n) (by omega) (by omega) (by omega)
    have e1 : Sort.medianAdjacent lt d x1 0 = Sort.median lt d (x1 - 1) x1 (x1 + 1) 0 := rfl
    rw [← e1, ← hr1] at l1
    have l2 := medianC_in (lt := lt) (d := d) (a := x2 - 1) (b := x2) (c := x2 + 1) (s := r1.2) (n := n) (by omega) (by omega) (by omega)
    have e2 : Sort.medianAdjacent lt d x2 r1.2 = Sort.median lt d (x2 - 1) x2 (x2 + 1) r1.2 := rfl
    rw [← e2, ← hr2] at l2
    have l3 := medianC_in (lt := lt) (d := d) (a := x3 - 1) (b := x3) (c := x3 + 1) (s := r2.2) (n := n) (by omega) (by omega) (by omega)
    have e3 : Sort.medianAdjacent lt d x3 r2.2 = Sort.median lt d (x3 - 1) x3 (x3 + 1) r2.2 := rfl
    rw [← e3, ← hr3] at l3
    have C1 := medadjC_any E HC w g n cap rest d w.heap.size 0 x1 _ h1 hg (Nat.le_refl _) hd b5 b1 hn (by omega)
    rw [← hr1] at C1
    have C2 := fun w1 h => medadjC_any E HC w g n cap rest d w.heap.size r1.2 x2 w1 h hg (Nat.le_refl _) hd b6 b2 hn (by omega)
    rw [← hr2] at C2
    have C3 := fun w1 h => medadjC_any E HC w g n cap rest d w.heap.size r2.2 x3 w1 h hg (Nat.le_refl _) hd b7 b3 hn (by omega)
    rw [← hr3] at C3
    have C4 := fun w1 h => medianC_any E HC w g n cap rest d w.heap.size r3.2 r1.1 r2.1 r3.1 w1 h hg (Nat.le_refl _) hd l1.1 l2.1 l3.1 hn (by omega)
    rw [← hR] at C4
    replace C1 := Lib.hid C1
    replace C2 := Lib.hid C2
    replace C3 := Lib.hid C3
    replace C4 := Lib.hid C4
    clear E HC hr1 hr2 hr3 hR hm hle h h1 e1 e2 e3 l1 l2 l3
    obtain ⟨r11, r12⟩ := r1
    obtain ⟨r21, r22⟩ := r2
    obtain ⟨r31, r32⟩ := r3
    replace p0 := p0.out
    replace p1 := p1.out
    replace p2 := p2.out
    replace p3 := p3.out
    replace p22 := p22.out
    replace p33 := p33.out
    go_enter Tryz.func164, Tryz.ntmps164
    go_upto_region 9 with (go_at_call 196; refine Calls.mono C1.out ?_; rintro e w1 ⟨rfl, h1⟩)
    clear p0 p1 p2 p3 p22 p33
    go_upto_region 10 with (go_at_call 196; refine Calls.mono (C2.out w1 h1) ?_; rintro e w2 ⟨rfl, h2⟩)
    go_upto_region 11 with (go_at_call 196; refine Calls.mono (C3.out w2 h2) ?_; rintro e w3 ⟨rfl, h3⟩)
    go_upto_region 12 with (go_at_call 197; refine Calls.mono (C4.out w3 h3) ?_; rintro e w4 ⟨rfl, h4⟩)
    clear C1 C2 C3 C4
    obtain ⟨m1, m2⟩ := R
    have s0 := h4.cnt.cell 0
    simp only [List.getElem?_toArray, List.getElem?_cons_zero] at s0
    have hrow := Lib.hid h4.row
    clear h4
    by_cases h0 : m2 = 0
    · subst h0
      go_wp2_with fail
      refine bodyPost_ret (results_tmp2 rfl _ _ _) rfl ?_
      exact ⟨rfl, hrow.out⟩
    · by_cases h12 : m2 = 12
      · subst h12
        go_wp2_with fail
        refine bodyPost_ret (results_tmp2 rfl _ _ _) rfl ?_
        exact ⟨rfl, hrow.out⟩
      · have n0 : ((m2 : Int) == 0) = false := by simpa using h0
        have n12 : ((m2 : Int) == 12) = false := by simp; omega
        go_wp2_with fail
        refine bodyPost_ret (results_tmp2 rfl _ _ _) rfl ?_
        exact ⟨by simp [hintC], hrow.out⟩
  · rw [if_neg h50]
    obtain ⟨_, b1, b2, b3, _⟩ := lx
    have i1 : ¬ (50 : Int) ≤ (l : Int) := by clear p0 p1 p2 p3 p22 p33; omega
    have i2 : (8 : Int) ≤ (l : Int) := by clear p0 p1 p2 p3 p22 p33; omega
    obtain ⟨R, hR⟩ : ∃ r, r = Sort.median lt d x1 x2 x3 0 := ⟨_, rfl⟩
    have C := medianC_any E HC w g n cap rest d w.heap.size 0 x1 x2 x3 _ h1 hg (Nat.le_refl _) hd (by clear p0 p1 p2 p3 p22 p33; omega) (by clear p0 p1 p2 p3 p22 p33; omega) (by clear p0 p1 p2 p3 p22 p33; omega) hn (by omega)
    rw [← hR] at C
    rw [← hR]
    replace C := Lib.hid C
    clear E HC hR hle h h1
    go_enter Tryz.func164, Tryz.ntmps164
    go_upto_region 12 with (go_at_call 197; refine Calls.mono C.out ?_; rintro e w1 ⟨rfl, h2⟩)
    clear p0 p1 p2 p3 p22 p33 C
    obtain ⟨m1, m2⟩ := R
    have s0 := h2.cnt.cell 0
    simp only [List.getElem?_toArray, List.getElem?_cons_zero] at s0
    have hrow := Lib.hid h2.row
    clear h2
    by_cases h0 : m2 = 0
    · subst h0
      go_wp2_with fail
      refine bodyPost_ret (results_tmp2 rfl _ _ _) rfl ?_
      exact ⟨rfl, hrow.out⟩
    · by_cases h12 : m2 = 12
      · subst h12
        go_wp2_with fail
        refine bodyPost_ret (results_tmp2 rfl _ _ _) rfl ?_
        exact ⟨rfl, hrow.out⟩
      · have n0 : ((m2 : Int) == 0) = false := by simpa using h0
        have n12 : ((m2 : Int) == 12) = false := by simp; omega
        go_wp2_with fail
        refine bodyPost_ret (results_tmp2 rfl _ _ _) rfl ?_
        exact ⟨by simp [hintC], hrow.out⟩
end
end Go.Proofs.YtiikagabdiphkaaGreat
namespace Go.Proofs.YtiikagabdiphkaaGreat
open Go.RowKit Go.Lo

section
variable {α : Type} [Inhabited α] {enc : α → List Value} (E : RowE enc 10) {lt : α → α → Bool} {F : FuncId} (HC : CmpF enc lt F)

omit [Inhabited α] in
theorem sift_ex [Inhabited α] (hi first r ch : Nat) (d1 : Array α) (cb : Bool) (h : ¬ hi ≤ 2 * r + 1) (hcb : cb = (decide (2 * r + 1 + 1 < hi) && lt d1[first + (2 * r + 1)]! d1[first + (2 * r + 2)]!)) (hch : ch = if cb then 2 * r + 2 else 2 * r + 1) :
    ch < hi ∧ Sort.siftDown lt hi first r d1 = if lt d1[first + r]! d1[first + ch]! then Sort.siftDown lt hi first ch (Sort.swp d1 (first + r) (first + ch)) else d1 := by
  have e : Sort.siftDown lt hi first r d1 = if decide (2 * r + 1 + 1 < hi) && lt d1[first + (2 * r + 1)]! d1[first + (2 * r + 2)]! then
      if !lt d1[first + r]! d1[first + (2 * r + 2)]! then d1 else if 2 * r + 2 < hi then Sort.siftDown lt hi first (2 * r + 2) (Sort.swp d1 (first + r) (first + (2 * r + 2))) else d1
      else if !lt d1[first + r]! d1[first + (2 * r + 1)]! then d1 else Sort.siftDown lt hi first (2 * r + 1) (Sort.swp d1 (first + r) (first + (2 * r + 1))) := by
    conv => lhs; unfold Sort.siftDown
    rw [dif_neg (by omega)]
    rfl
  rw [e, ← hcb]
  cases cb with
  | true =>
    have h2 : 2 * r + 2 < hi := by
      have := hcb.symm
      simp only [Bool.and_eq_true, decide_eq_true_eq] at this
      omega
    simp only [if_true] at hch
    subst hch
    refine ⟨h2, ?_⟩
    rw [if_pos rfl, if_pos h2]
    cases lt d1[first + r]! d1[first + (2 * r + 2)]! <;> simp
  | false =>
    simp only [Bool.false_eq_true, if_false] at hch
    subst hch
    refine ⟨by omega, ?_⟩
    rw [if_neg (by simp)]
    cases lt d1[first + r]! d1[first + (2 * r + 1)]! <;> simp

include E HC
set_option maxRecDepth 100000 in
set_option maxHeartbeats 2000000 in
theorem siftC_any (g n cap : Nat) (rest : List Value) (d : Array α) (lo hi first : Nat) (w : World) (h : RowC enc 38 w g rest d w) (hd : d.size = n) (hlo : lo ≤ n) (hb : first + hi ≤ n) (hn : n ≤ 1099511627776) :
    Calls Tryz.prog 193 #[.slice (some ⟨g, 0, none⟩) n cap, .int .i64 lo, .int .i64 hi, .int .i64 first, .func (.func F) #[] #[]] w (RowPC enc w g rest (Sort.siftDown lt hi first lo d)) := by
  have hEF := HC.enters
  replace HC := Lib.hid HC.call
  replace E := Lib.hid E
  go_enter Tryz.func193, Tryz.ntmps193
  go_wp2_with fail
  go_loopg [10] (hi - lo) (fun m v wr => ∃ (r : Nat) (d1 : Array α), r ≤ n ∧ m = hi - r ∧ v = .int .i64 r ∧ d1.size = n ∧ Sort.siftDown lt hi first r d1 = Sort.siftDown lt hi first lo d ∧ RowC enc 38 w g rest d1 wr)
  case atStart => exact ⟨lo, d, hlo, rfl, rfl, hd, rfl, h⟩
  case round =>
    obtain ⟨r, d1, hr, rfl, rfl, hd1, he, hR⟩ := hrel
    obtain ⟨w1, rfl⟩ : ∃ x : World, x = wr := ⟨_, rfl⟩
    clear h
    by_cases hch : hi ≤ 2 * r + 1
    · have he' : d1 = Sort.siftDown lt hi first lo d := by
        rw [← he]
        unfold Sort.siftDown
        rw [dif_pos (by omega)]
      have j1 : (hi : Int) ≤ 2 * (r : Int) + 1 := by omega
      replace he' := Lib.hid he'
      replace hR := Lib.hid hR
      clear he
      go_wp2_with fail
      go_end0
      exact ⟨rfl, by rw [← he'.out]; exact hR.out⟩
    · have j1 : ¬ (hi : Int) ≤ 2 * (r : Int) + 1 := by omega
      obtain ⟨cb, hcb⟩ : ∃ cb : Bool, cb = (decide (2 * r + 1 + 1 < hi) && lt d1[first + (2 * r + 1)]! d1[first + (2 * r + 2)]!) := ⟨_, rfl⟩
      obtain ⟨ch, hch2⟩ : ∃ ch, ch = if cb then 2 * r + 2 else 2 * r + 1 := ⟨_, rfl⟩
      obtain ⟨hchi, hex⟩ := sift_ex hi first r ch d1 cb hch hcb hch2
      rw [hex] at he
      replace he := Lib.hid he
      replace hR := Lib.hid hR
      replace hcb := Lib.hid hcb
      replace hch2 := Lib.hid hch2
      clear hex
      have wA : IntKind.i64.wrap (2 * (r : Int) + 1 + 1) = 2 * (r : Int) + 1 + 1 := IntWalk.i64_in _ (by omega)
      have wB : IntKind.i64.wrap ((first : Int) + (2 * (r : Int) + 1)) = (first : Int) + (2 * (r : Int) + 1) := IntWalk.i64_in _ (by omega)
      have wC : IntKind.i64.wrap ((first : Int) + (2 * (r : Int) + 1) + 1) = (first : Int) + (2 * (r : Int) + 1) + 1 := IntWalk.i64_in _ (by omega)
      have wE : IntKind.i64.wrap ((first : Int) + (ch : Int)) = (first : Int) + (ch : Int) := IntWalk.i64_in _ (by omega)
      have wD : IntKind.i64.wrap ((first : Int) + (r : Int)) = (first : Int) + (r : Int) := IntWalk.i64_in _ (by omega)
      have z1 : (0 : Int) ≤ (first : Int) + (2 * (r : Int) + 1) := by omega
      have z2 : (0 : Int) ≤ (first : Int) + (2 * (r : Int) + 1) + 1 := by omega
      have z3 : (0 : Int) ≤ (first : Int) + (ch : Int) := by omega
      have z0 : (0 : Int) ≤ (first : Int) + (r : Int) := by omega
      have t1 : ((first : Int) + (2 * (r : Int) + 1)).toNat = first + (2 * r + 1) := by omega
      have t2 : ((first : Int) + (2 * (r : Int) + 1) + 1).toNat = first + (2 * r + 2) := by omega
      have t3 : ((first : Int) + (ch : Int)).toNat = first + ch := by omega
      have t0 : ((first : Int) + (r : Int)).toNat = first + r := by omega
      have k1 : (first : Int) + (2 * (r : Int) + 1) < (n : Int) := by omega
      have k3 : (first : Int) + (ch : Int) < (n : Int) := by omega
      have k0 : (first : Int) + (r : Int) < (n : Int) := by omega
      go_upto_region 3 with fail
      go_cut [40] (fun v wx => v = .bool cb ∧ RowC enc 38 w g rest d1 wx)
      case first =>
        by_cases hc2 : 2 * r + 1 + 1 < hi
        · have i2 : 2 * (r : Int) + 1 + 1 < (hi : Int) := by omega
          have di : decide (2 * (r : Int) + 1 + 1 < (hi : Int)) = true := decide_eq_true i2
          have k2 : (first : Int) + (2 * (r : Int) + 1) + 1 < (n : Int) := by omega
          have c1 := hR.out.load E.out wRowT (i := first + (2 * r + 1)) (by omega)
          have c2 := hR.out.load E.out wRowT (i := first + (2 * r + 2)) (by omega)
          have hcb2 := Lib.hid (hcb.out.trans (by rw [decide_eq_true hc2, Bool.true_and]))
          clear hcb
          generalize d1[first + (2 * r + 1)]! = x1 at *
          generalize d1[first + (2 * r + 2)]! = x2 at *
          refine wp_region_still_tail 19 (by kernel_rfl) (by kernel_rfl) ?_
          simp only [List.take_succ_cons, List.take_zero, List.drop_succ_cons, List.drop_zero]
          repeat (first | (refine wpStill_load rfl 38 _ rfl _ (c1 _ rfl) ?_; try simp only [Act.put, List.setIfInBounds_toArray, List.set_cons_zero, List.set_cons_succ]) | (refine wpStill_load rfl 38 _ rfl _ (c2 _ rfl) ?_; try simp only [Act.put, List.setIfInBounds_toArray, List.set_cons_zero, List.set_cons_succ]) | still_step)
          refine wpStill_nil ?_
          go_wp2_with (refine Calls.mono (HC.out _ _ _) ?_; rintro e w3 ⟨c, rfl, hc, hB3⟩; have hr3 := hR.out.drew.call hB3)
          go_meet
          case rel => exact ⟨by rw [hcb2.out, ← hc], hr3⟩
        · have di : decide (2 * (r : Int) + 1 + 1 < (hi : Int)) = false := decide_eq_false (by omega)
          have i2 : ¬ 2 * (r : Int) + 1 + 1 < (hi : Int) := by omega
          have hcb2 := Lib.hid (hcb.out.trans (by rw [decide_eq_false hc2, Bool.false_and]))
          clear hcb
          go_quiet (fail)
          go_wp2_with fail
          go_meet
          case rel => exact ⟨by rw [hcb2.out], hR.out.drewN nq⟩
      case rest =>
        obtain ⟨rfl, hR2⟩ := hcut
        clear hR
        have hR := Lib.hid hR2
        clear hR2
        go_upto_if 40 with fail
        go_cut [11] (fun v wx => v = .int .i64 ch ∧ RowC enc 38 w g rest d1 wx)
        case first =>
          have hc3 := hch2.out
          clear hcb
          cases cb with
          | true =>
            simp only [if_true] at hc3
            replace hc3 := Lib.hid hc3
            go_wp2_with fail
            go_meet
            case rel => exact ⟨congrArg (Value.int .i64) (by have := hc3.out; omega), hR.out⟩
          | false =>
            simp only [Bool.false_eq_true, if_false] at hc3
            replace hc3 := Lib.hid hc3
            go_wp2_with fail
            go_meet
            case rel => exact ⟨congrArg (Value.int .i64) (by have := hc3.out; omega), hR.out⟩
        case rest =>
          obtain ⟨rfl, hR2⟩ := hcut
          clear hR
          have hR := Lib.hid hR2
          have hcr : r < ch := by
            have := hch2.out
            split at this <;> omega
          clear hR2 hcb hch2 wA wB wC z1 z2 t1 t2 k1
          have hf1 : first + r < d1.size := by omega
          have hf2 : first + ch < d1.size := by omega
          have c0 := hR.out.load E.out wRowT (i := first + r) hf1
          have cc := hR.out.load E.out wRowT (i := first + ch) hf2
          replace hf1 := Lib.hid hf1
          replace hf2 := Lib.hid hf2
          go_upto_region 5 with fail
          cases hlt : lt d1[first + r]! d1[first + ch]! with
          | false =>
            have he' : d1 = Sort.siftDown lt hi first lo d := by
              have := he.out
              rw [if_neg (by simp [hlt])] at this
              exact this
            replace he' := Lib.hid he'
            replace hlt := Lib.hid hlt
            clear he
            generalize d1[first + r]! = x1 at *
            generalize d1[first + ch]! = x2 at *
            refine wp_region_still_tail 13 (by kernel_rfl) (by kernel_rfl) ?_
            simp only [List.take_succ_cons, List.take_zero, List.drop_succ_cons, List.drop_zero]
            repeat (first | (refine wpStill_load rfl 38 _ rfl _ (c0 _ rfl) ?_; try simp only [Act.put, List.setIfInBounds_toArray, List.set_cons_zero, List.set_cons_succ]) | (refine wpStill_load rfl 38 _ rfl _ (cc _ rfl) ?_; try simp only [Act.put, List.setIfInBounds_toArray, List.set_cons_zero, List.set_cons_succ]) | still_step)
            refine wpStill_nil ?_
            go_wp2_with (refine Calls.mono (HC.out _ _ _) ?_; rintro e w3 ⟨c, rfl, hc, hB3⟩; rw [hlt.out] at hc; have hcp : ¬ c < 0 := of_decide_eq_false hc; have hr3 := Lib.hid (hR.out.drew.call hB3))
            go_end0
            exact ⟨rfl, by rw [← he'.out]; exact hr3.out⟩
          | true =>
            have he' : Sort.siftDown lt hi first ch (Sort.swp d1 (first + r) (first + ch)) = Sort.siftDown lt hi first lo d := by
              have := he.out
              rw [if_pos hlt] at this
              exact this
            replace he' := Lib.hid he'
            replace hlt := Lib.hid hlt
            clear he
            obtain ⟨x1, hx1⟩ : ∃ x, x = d1[first + r]! := ⟨_, rfl⟩
            obtain ⟨x2, hx2⟩ : ∃ x, x = d1[first + ch]! := ⟨_, rfl⟩
            rw [← hx1] at c0 hlt
            rw [← hx2] at cc hlt
            replace hx1 := Lib.hid hx1
            replace hx2 := Lib.hid hx2
            refine wp_region_still_tail 13 (by kernel_rfl) (by kernel_rfl) ?_
            simp only [List.take_succ_cons, List.take_zero, List.drop_succ_cons, List.drop_zero]
            repeat (first | (refine wpStill_load rfl 38 _ rfl _ (c0 _ rfl) ?_; try simp only [Act.put, List.setIfInBounds_toArray, List.set_cons_zero, List.set_cons_succ]) | (refine wpStill_load rfl 38 _ rfl _ (cc _ rfl) ?_; try simp only [Act.put, List.setIfInBounds_toArray, List.set_cons_zero, List.set_cons_succ]) | still_step)
            refine wpStill_nil ?_
            go_upto_region 6 with (refine Calls.mono (HC.out _ _ _) ?_; rintro e w3 ⟨c, rfl, hc, hB3⟩; rw [hlt.out] at hc; have hcp : c < 0 := of_decide_eq_true hc; have h := hR.out.drew.call hB3)
            clear c0 cc hc hcp hB3
            obtain ⟨W1, W2, s1, s2, hsw⟩ := h.drew.swp E.out wRowT (i := first + r) (j := first + ch) (by omega) (by omega)
            have e1 := h.drew.load E.out wRowT (i := first + ch) (by omega) _ rfl
            have e0 := h.drew.load E.out wRowT (i := first + r) (by omega) _ rfl
            have hsz := Sort.size_swp d1 (first + r) (first + ch)
            replace hsw := Lib.hid hsw
            replace hsz := Lib.hid hsz
            clear h
            generalize (enc d1[first + r]!).toArray = xa at *
            generalize (enc d1[first + ch]!).toArray = xb at *
            refine wp_region_swp 21 23 [some 59, some 60, some 61, some 62, some 63, some 64, some 65, some 66, some 67, some 68, some 69, some 70, some 71, some 72, some 73, some 74, some 75, some 76, some 77, some 78, some 79, none, some 80, none] [.slice (some ⟨g, 0, none⟩) n cap, .int .i64 first, .int .i64 r, .int .i64 ((first : Int) + (r : Int)), .slice (some ⟨g, 0, none⟩) n cap, .int .i64 first, .int .i64 ch, .int .i64 ((first : Int) + (ch : Int)), .slice (some ⟨g, 0, none⟩) n cap, .int .i64 first, .int .i64 ch, .int .i64 ((first : Int) + (ch : Int)), .pointer (some ⟨g, (first + ch) * 10, none⟩), .agg xb, .slice (some ⟨g, 0, none⟩) n cap, .int .i64 first, .int .i64 r, .int .i64 ((first : Int) + (r : Int)), .pointer (some ⟨g, (first + r) * 10, none⟩), .agg xa, .pointer (some ⟨g, (first + r) * 10, none⟩), undef, .pointer (some ⟨g, (first + ch) * 10, none⟩), undef] W1 W2 ?A ?hA (by kernel_rfl) rfl (by kernel_rfl) (by kernel_rfl) (by kernel_rfl) ?hrun 38 38 (.tmp 79) (.tmp 72) (.tmp 80) (.tmp 78) rfl rfl ?h1 ?h2 ?hf
            case hA => simp only [putL, Act.put, List.setIfInBounds_toArray, List.set_cons_zero, List.set_cons_succ]; rfl
            case h1 => exact s1
            case h2 => exact s2
            case hrun =>
              simp only [RunL, RunOp]
              clear hsw hsz
              refine ⟨fun W => rfl, fun W => rfl, fun W => rfl, ?_, fun W => rfl, fun W => rfl, fun W => rfl, ?_, fun W => rfl, fun W => rfl, fun W => rfl, ?_, ?_, e1, fun W => rfl, fun W => rfl, fun W => rfl, ?_, ?_, e0, ?_, trivial, ?_, trivial, trivial⟩
              all_goals (intro W; go_simp)
            clear s1 s2 e0 e1
            go_wp2
            go_roundg (hi - ch)
            case measure => have := hch; omega
            case rel => exact ⟨ch, Sort.swp d1 (first + r) (first + ch), by omega, rfl, by go_num, by rw [hsz.out]; exact hd1, he'.out, hsw.out⟩
end
end Go.Proofs.YtiikagabdiphkaaGreat
