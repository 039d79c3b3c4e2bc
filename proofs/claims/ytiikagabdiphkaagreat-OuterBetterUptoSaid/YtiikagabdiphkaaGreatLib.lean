/- Words for memory that the walks of this seat share: a slice that reads as a list of rows, rows of structs, pieces of a region. No theorem of the program stands here. -/
import Derived.WalkKit
import Derived.WalkSpells
import Derived.WalkLawsBesides
import Derived.Deep.QuietTactic
import Derived.BigQuiet
import Derived.StillTailTactics
import Derived.Deep.AppendLies
import Derived.Lib.Hide
import Derived.Maps.AppendAt
import Derived.Laws.CopyOwn
import Derived.Laws.AppendOwnNone
import Derived.OneCell
import Derived.Deep.RegionHeld3
import Derived.Deep.RegionLaw
namespace Go.Lo
open Go.RowKit

section lists
variable {α : Type} {f : α → List Value} {s : Nat}

theorem flat_len (hf : ∀ x, (f x).length = s) (l : List α) : (l.flatMap f).length = l.length * s := by
  induction l with
  | nil => simp
  | cons x r ih => rw [List.flatMap_cons, List.length_append, hf, ih, List.length_cons, Nat.succ_mul]; omega

theorem flat_get (hf : ∀ x, (f x).length = s) (l : List α) (k j : Nat) (hj : j < s) (hk : k < l.length) : (l.flatMap f)[k * s + j]? = (f (l[k]))[j]? := by
  induction l generalizing k with
  | nil => simp at hk
  | cons x r ih =>
    rw [List.flatMap_cons]
    cases k with
    | zero =>
      rw [List.getElem?_append_left (by rw [hf]; omega)]
      simp
    | succ k =>
      rw [List.getElem?_append_right (by rw [hf, Nat.succ_mul]; omega), hf, show (k + 1) * s + j - s = k * s + j by rw [Nat.succ_mul]; omega, ih k (by simpa using hk)]
      simp

theorem flat_take (hf : ∀ x, (f x).length = s) (l : List α) (k : Nat) : (l.flatMap f).take (k * s) = (l.take k).flatMap f := by
  induction l generalizing k with
  | nil => simp
  | cons x r ih =>
    cases k with
    | zero => simp
    | succ k => rw [List.take_succ_cons, List.flatMap_cons, List.flatMap_cons, List.take_append, hf, List.take_of_length_le (by rw [hf, Nat.succ_mul]; omega), show (k + 1) * s - s = k * s by rw [Nat.succ_mul]; omega, ih]

theorem flat_drop (hf : ∀ x, (f x).length = s) (l : List α) (k : Nat) : (l.flatMap f).drop (k * s) = (l.drop k).flatMap f := by
  induction l generalizing k with
  | nil => simp
  | cons x r ih =>
    cases k with
    | zero => simp
    | succ k => rw [List.drop_succ_cons, List.flatMap_cons, List.drop_append, hf, List.drop_of_length_le (by rw [hf, Nat.succ_mul]; omega), show (k + 1) * s - s = k * s by rw [Nat.succ_mul]; omega, ih]; simp

theorem flat_set2 {a b : α → Value} (l : List α) (k : Nat) (x : α) : ((l.flatMap fun y => [a y, b y]).set (k * 2) (a x)).set (k * 2 + 1) (b x) = (l.set k x).flatMap fun y => [a y, b y] := by
  induction l generalizing k with
  | nil => simp
  | cons y r ih =>
    cases k with
    | zero => simp
    | succ k =>
      have := ih k
      simp only [List.flatMap_cons, List.cons_append, List.nil_append, List.set_cons_succ, show (k + 1) * 2 = k * 2 + 1 + 1 by omega]
      rw [this]

theorem flat_insert (hf : ∀ x, (f x).length = s) (l : List α) (z : List Value) (hz : z.length = s) (j : Nat) (hj : j ≤ l.length) (x : α) :
    splice (splice (l.flatMap f ++ z) ((j + 1) * s) ((l.drop j).flatMap f)) (j * s) (f x) = (l.take j ++ x :: l.drop j).flatMap f := by
  have hA : (l.flatMap f ++ z).length = (l.length + 1) * s := by rw [List.length_append, flat_len hf, hz, Nat.succ_mul]
  have hle : (j + 1) * s ≤ (l.length + 1) * s := Nat.mul_le_mul_right _ (by omega)
  have hjs : (j + 1) * s = j * s + s := Nat.succ_mul _ _
  have hls : (l.length + 1) * s = l.length * s + s := Nat.succ_mul _ _
  have hD : ((l.drop j).flatMap f).length = (l.length - j) * s := by rw [flat_len hf, List.length_drop]
  have hsub : (l.length - j) * s = l.length * s - j * s := Nat.sub_mul _ _ _
  have h1 : splice (l.flatMap f ++ z) ((j + 1) * s) ((l.drop j).flatMap f) = (l.flatMap f ++ z).take ((j + 1) * s) ++ (l.drop j).flatMap f := by
    have e : (l.flatMap f ++ z).drop ((j + 1) * s + ((l.drop j).flatMap f).length) = [] := List.drop_of_length_le (by rw [hA, hD]; omega)
    unfold splice
    rw [e, List.append_nil]
  have hT : ((l.flatMap f ++ z).take ((j + 1) * s)).length = (j + 1) * s := by rw [List.length_take, hA]; omega
  have h2 : ((l.flatMap f ++ z).take ((j + 1) * s) ++ (l.drop j).flatMap f).take (j * s) = (l.take j).flatMap f := by
    rw [List.take_append_of_le_length (by rw [hT]; omega), List.take_take, show min (j * s) ((j + 1) * s) = j * s by omega,
      List.take_append_of_le_length (by rw [flat_len hf]; exact Nat.mul_le_mul_right _ hj), flat_take hf]
  have h3 : ((l.flatMap f ++ z).take ((j + 1) * s) ++ (l.drop j).flatMap f).drop (j * s + (f x).length) = (l.drop j).flatMap f := by
    have e : ((l.flatMap f ++ z).take ((j + 1) * s)).drop ((j + 1) * s) = [] := List.drop_of_length_le (by rw [hT]; exact Nat.le_refl _)
    rw [hf, ← hjs, List.drop_append, hT, Nat.sub_self, e]; rfl
  rw [h1]
  unfold splice
  rw [h2, h3, List.flatMap_append, List.flatMap_cons]
end lists

theorem addr_add (g k i : Nat) : (⟨g, k, none⟩ : Addr).add i = ⟨g, k + i, none⟩ := by unfold Addr.add; split <;> simp_all

/-- The slice 'v' of 'n' elements, of 's' cells each, reads as the cells 'xs', and lies below block 'B'. -/
def Sl (w : World) (B s : Nat) (v : Value) (n : Nat) (xs : List Value) : Prop :=
  xs.length = n * s ∧ ∃ A c, v = .slice A n c ∧ n ≤ c ∧ c ≤ maxLen ∧ (0 < n → ∃ b off, A = some ⟨b, off, none⟩ ∧ b < B ∧ ∀ j u, xs[j]? = some u → w.cell? ⟨b, off + j, none⟩ = some u)

section
variable {w w' : World} {B B' s n : Nat} {v : Value} {xs : List Value}

theorem Sl.nil (w : World) (B s : Nat) : Sl w B s (.slice none 0 0) 0 [] := ⟨by simp, none, 0, rfl, Nat.le_refl _, Nat.zero_le _, fun h => absurd h (by omega)⟩

theorem Sl.keep (h : Sl w B s v n xs) (hk : ∀ p : Addr, p.block < B → w'.cell? p = w.cell? p) : Sl w' B s v n xs := by
  obtain ⟨h1, A, c, hv, h2, h3, h4⟩ := h
  refine ⟨h1, A, c, hv, h2, h3, fun hn => ?_⟩
  obtain ⟨b, off, hA, hb, hc⟩ := h4 hn
  exact ⟨b, off, hA, hb, fun j u hu => (hk ⟨b, off + j, none⟩ hb).trans (hc j u hu)⟩

theorem Sl.more (h : Sl w B s v n xs) (hB : B ≤ B') : Sl w B' s v n xs := by
  obtain ⟨h1, A, c, hv, h2, h3, h4⟩ := h
  refine ⟨h1, A, c, hv, h2, h3, fun hn => ?_⟩
  obtain ⟨b, off, hA, hb, hc⟩ := h4 hn
  exact ⟨b, off, hA, by omega, hc⟩

theorem Sl.below (h : Sl w B s v n xs) (hb : Below B w w') : Sl w' B s v n xs := h.keep fun _ hp => hb.cell hp
theorem Sl.drew (h : Sl w B s v n xs) : Sl w.drew B s v n xs := h
theorem Sl.alloc (h : Sl w B s v n xs) (hB : B ≤ w.heap.size) (o : Obj) : Sl (w.alloc o) B s v n xs := h.keep fun p hp => World.cell?_alloc_lt w o p (by omega)

theorem Sl.of_own {base : Nat} {e : TypeId} (h : w.ownsRow base e s v n xs) : Sl w w.heap.size s v n xs := by
  refine ⟨h.1, ?_⟩
  rcases h.2 with ⟨rfl, rfl⟩ | ⟨g, cap, cur, rfl, _, hg, hnc, hcm, hcs, htake⟩
  · exact ⟨none, 0, rfl, Nat.le_refl _, Nat.zero_le _, fun h => absurd h (by omega)⟩
  · refine ⟨_, _, rfl, hnc, hcm, fun hn => ⟨g, 0, rfl, ?_, fun j u hu => ?_⟩⟩
    · rcases Nat.lt_or_ge g w.heap.size with hlt | hge
      · exact hlt
      · rw [Array.getElem?_eq_none hge] at hg; cases hg
    · have := h.cells (g := g) rfl j u hu
      unfold Addr.add at this
      split at this <;> simp_all

/-- A row of the slice: its address, and the cells of element k. -/
theorem Sl.row {α : Type} {f : α → List Value} {l : List α} {A : Option Addr} {c k : Nat} (hf : ∀ x, (f x).length = s) (h : Sl w B s (.slice A l.length c) l.length (l.flatMap f)) (hk : k < l.length) :
    ∃ b off, A = some ⟨b, off, none⟩ ∧ b < B ∧ ∀ j u, (f l[k])[j]? = some u → w.cell? ⟨b, off + k * s + j, none⟩ = some u := by
  obtain ⟨h1, A', c', hv, h2, h3, h4⟩ := h
  simp only [Value.slice.injEq] at hv
  obtain ⟨rfl, _, rfl⟩ := hv
  obtain ⟨b, off, hA, hb, hc⟩ := h4 (by omega)
  refine ⟨b, off, hA, hb, fun j u hu => ?_⟩
  have hj : j < s := by
    have := (List.getElem?_eq_some_iff.1 hu).1
    rw [hf] at this; exact this
  rw [show off + k * s + j = off + (k * s + j) by omega]
  exact hc _ _ (by rw [flat_get hf l k j hj hk]; exact hu)

theorem own_cap {base : Nat} {e : TypeId} {g cap : Nat} (h : w.ownsRow base e s (.slice (some ⟨g, 0, none⟩) n cap) n xs) : n ≤ cap := by
  rcases h.2 with ⟨h', _⟩ | ⟨g', cap', cur, h', _, _, hc, _⟩
  · simp at h'
  · simp only [Value.slice.injEq] at h'
    omega
theorem own_take {base : Nat} {e : TypeId} {g cap m : Nat} (h : w.ownsRow base e s (.slice (some ⟨g, 0, none⟩) n cap) n xs) (hm : m ≤ n) : w.ownsRow base e s (.slice (some ⟨g, 0, none⟩) m cap) m (xs.take (m * s)) := by
  have hms : m * s ≤ n * s := Nat.mul_le_mul_right _ hm
  refine ⟨by rw [List.length_take, h.1]; omega, ?_⟩
  rcases h.2 with ⟨h', _⟩ | ⟨g', cap', cur, h', hb, hg, hc, hcm, hcs, ht⟩
  · simp at h'
  · simp only [Value.slice.injEq, Option.some.injEq, Addr.mk.injEq, and_true, true_and] at h'
    obtain ⟨rfl, rfl⟩ := h'
    refine .inr ⟨g, cap, cur, rfl, hb, hg, by omega, hcm, hcs, ?_⟩
    rw [← ht, List.take_take, show min (m * s) (n * s) = m * s by omega]
/-- A row of a slice of the call's own. -/
theorem own_row {α : Type} {f : α → List Value} {l : List α} {base k : Nat} {e : TypeId} (hf : ∀ x, (f x).length = s) (h : w.ownsRow base e s v l.length (l.flatMap f)) (hk : k < l.length) :
    ∃ g cap, v = .slice (some ⟨g, 0, none⟩) l.length cap ∧ l.length ≤ cap ∧ base ≤ g ∧ g < w.heap.size ∧ (∀ i, w.frozen? ⟨g, i, none⟩ = false) ∧ ∀ j u, (f l[k])[j]? = some u → w.cell? ⟨g, k * s + j, none⟩ = some u := by
  obtain ⟨g, cap, rfl, hb, hg⟩ := h.form (by omega)
  refine ⟨g, cap, rfl, ?_, hb, hg, fun i => h.frozenAt i, fun j u hu => ?_⟩
  · rcases h.2 with ⟨h', _⟩ | ⟨g', cap', cur, h', _, _, hc, _⟩
    · simp at h'
    · simp only [Value.slice.injEq] at h'
      omega
  · have hj : j < s := by
      have := (List.getElem?_eq_some_iff.1 hu).1
      rw [hf] at this; exact this
    have hlt : k * s + j < l.length * s := by
      have := Nat.mul_le_mul_right s (show k + 1 ≤ l.length by omega)
      rw [Nat.succ_mul] at this; omega
    rw [h.cellAt _ hlt, flat_get hf l k j hj hk]; exact hu

/-- A slice that was just built out of a literal. -/
theorem Sl.lit (w : World) (cs : Array Value) (e : TypeId) (hm : n ≤ maxLen) (hs : cs.size = n * s) : Sl (w.alloc (.cells cs e)) (w.heap.size + 1) s (.slice (some ⟨w.heap.size, 0, none⟩) n n) n cs.toList := by
  have h := Sl.of_own (World.ownsRow_lit (base := 0) (e := e) w cs n (Nat.zero_le _) hm hs)
  have hz : (w.alloc (.cells cs e)).heap.size = w.heap.size + 1 := by simp
  rw [hz] at h; exact h
end

theorem own_below {w w' : World} {base : Nat} {e : TypeId} {s : Nat} {v : Value} {n : Nat} {xs : List Value} (h : w.ownsRow base e s v n xs) (hb : Below w.heap.size w w') : w'.ownsRow base e s v n xs :=
  h.kept (row := none) ⟨hb.os, hb.tape, hb.output, hb.size, fun k hk _ => hb.block k hk⟩ (by cases v.ownBlock <;> simp)
theorem below_of_drew {B : Nat} {w w' : World} (h : Below B w.drew w') : Below B w w' := ⟨h.os, h.tape, h.output, h.size, h.block⟩
theorem below_of_drewN {B n : Nat} {w w' : World} (h : Below B (w.drewN n) w') : Below B w w' := ⟨h.os, h.tape, h.output, h.size, h.block⟩
theorem below_drewN {B : Nat} {a w : World} (h : Below B a w) (n : Nat) : Below B a (w.drewN n) := ⟨h.os, h.tape, h.output, h.size, h.block⟩
theorem grown_of_below {w w' : World} (hb : Below w.heap.size w w') (row : Option Nat) : w.grownBy w' row := ⟨hb.os, hb.tape, hb.output, hb.size, fun k hk _ => hb.block k hk⟩
theorem grown_trans {a b c : World} {row : Option Nat} (h : a.grownBy b row) (k : b.grownBy c row) : a.grownBy c row :=
  ⟨k.os.trans h.os, k.tape.trans h.tape, k.output.trans h.output, Nat.le_trans h.size k.size, fun i hi hne => (k.block i (Nat.lt_of_lt_of_le hi h.size) hne).trans (h.block i hi hne)⟩
/-- a step that writes into a row that is 'row' itself, or newer than all that was there -/
theorem grown_step {a b c : World} {row row' : Option Nat} (h : a.grownBy b row) (k : b.grownBy c row') (hr : row' = row ∨ row' = none ∨ ∃ g, row' = some g ∧ a.heap.size ≤ g) : a.grownBy c row :=
  ⟨k.os.trans h.os, k.tape.trans h.tape, k.output.trans h.output, Nat.le_trans h.size k.size, fun i hi hne => (k.block i (Nat.lt_of_lt_of_le hi h.size) (by
    rcases hr with rfl | rfl | ⟨g, rfl, hg⟩
    · exact hne
    · simp
    · intro e; injection e with e; omega)).trans (h.block i hi hne)⟩

theorem grown_refl (w : World) (row : Option Nat) : w.grownBy w row := ⟨rfl, rfl, rfl, Nat.le_refl _, fun _ _ _ => rfl⟩
theorem grown_alloc {a w : World} {row : Option Nat} (h : a.grownBy w row) (o : Obj) : a.grownBy (w.alloc o) row :=
  ⟨h.os, h.tape, h.output, Nat.le_trans h.size (by simp), fun i hi hne => (Below.heap_alloc w o i (Nat.lt_of_lt_of_le hi h.size)).trans (h.block i hi hne)⟩
theorem grown_drewN {a w : World} {row : Option Nat} (h : a.grownBy w row) (n : Nat) : a.grownBy (w.drewN n) row := ⟨h.os, h.tape, h.output, h.size, h.block⟩
theorem grown_setCell {a w : World} {g : Nat} (h : a.grownBy w (some g)) {p : Addr} (hp : p.block = g ∨ a.heap.size ≤ p.block) (u : Value) : a.grownBy (w.setCell p u) (some g) :=
  ⟨h.os, h.tape, h.output, by simpa [World.setCell] using h.size, fun i hi hne => (Below.heap_setCell w p u i (by
    rintro rfl
    rcases hp with hp | hp
    · exact hne (by rw [hp])
    · omega)).trans (h.block i hi hne)⟩

theorem below_of_grown {w w' : World} {base : Nat} {row : Option Nat} (h : w.grownBy w' row) (hb : base ≤ w.heap.size) (hr : ∀ g, row = some g → base ≤ g) : Below base w w' :=
  ⟨h.os, h.tape, h.output, h.size, fun k hk => h.block k (by omega) (fun e => by have := hr k e.symm; omega)⟩

/-- What the walk asks of a slice type 't' of elements 'e', of 'size' cells and 'bytes' bytes each. -/
structure ElT (P : Program) (t e : TypeId) (size bytes : Nat) : Prop where
  sl : P.underlying t = some (.slice e)
  info : ∃ i z, P.info? e = some i ∧ i.zero = some z ∧ i.size = size ∧ i.bytes = bytes ∧ z.cells.size = size
  pos : 0 < size

section
variable {P : Program} {w : World}

theorem run_append_sl (base : Nat) {t e : TypeId} (ty : TypeId) {size bytes : Nat} (E : ElT P t e size bytes) (v : Value) (n : Nat) (xs : List Value) (hown : w.ownsRow base e size v n xs)
    (B : Nat) (x : Value) (m : Nat) (news : List Value) (hx : Sl w B size x m news) (h1 : ∀ u ∈ news, u.oneCell' = true)
    (h63 : n + m ≤ maxLen) (hbytes : (n + m) * bytes ≤ 140737488355328) (hbase : base ≤ w.heap.size) :
    ∃ v' w', (Builtin.append_ #[t, t] ty #[v, x]).run P w = .ok v' w' ∧ w'.ownsRow base e size v' (n + m) (xs ++ news) ∧ w.grownBy w' v.ownBlock ∧ (v'.ownBlock = v.ownBlock ∨ v'.ownBlock = some w.heap.size) := by
  obtain ⟨i, z, hi, hz, hsz, hby, hzs⟩ := E.info
  obtain ⟨hl, A, c, rfl, hmc, hcm, hat⟩ := hx
  have hA : A = none ∨ ∃ ad, A = some ad := by cases A <;> simp
  rcases hA with rfl | ⟨ad, rfl⟩
  · have hm : m = 0 := by
      rcases Nat.eq_zero_or_pos m with h0 | h0
      · exact h0
      · obtain ⟨b, off, h, _⟩ := hat h0; cases h
    subst hm
    have hn : news = [] := List.eq_nil_of_length_eq_zero (by simpa using hl)
    subst hn
    refine ⟨v, w, ?_, by simpa using hown, World.grownBy.refl w _, .inl rfl⟩
    rcases hown.2 with ⟨rfl, rfl⟩ | ⟨g, cap, cur, rfl, _, _, hnc, _⟩
    · simp [Builtin.append_, run_underlying E.sl, sizeOf, typeInfo, hi, Builtin.lenOf, Builtin.firstCells]
    · simp [Builtin.append_, run_underlying E.sl, sizeOf, typeInfo, hi, Builtin.lenOf, Builtin.firstCells, hnc, storeCells]
  · have hnews : ∀ j u, news[j]? = some u → w.cell? (ad.add j) = some u := fun j u hu => by
      rcases Nat.eq_zero_or_pos m with h0 | h0
      · subst h0
        have hn : news = [] := List.eq_nil_of_length_eq_zero (by simpa using hl)
        subst hn; simp at hu
      · obtain ⟨b, off, h, _, hc⟩ := hat h0
        injection h with h
        subst h
        have := hc j u hu
        unfold Addr.add
        split
        · rename_i hj; subst hj; simpa using this
        · exact this
    obtain ⟨v', w', h, h2, h3, _, h5⟩ := run_append_own_at (P := P) w base t ty e i z size bytes E.sl hi hz hsz hby hzs E.pos v n xs hown ad m c news hl hnews h1 h63 hbytes hbase
    exact ⟨v', w', h, h2, h3, h5⟩

/-- append onto a row of the call's own, of a slice that reads. -/
theorem wp_append {o : Oper} {a : Act} {K : Act → World → Prop} {Q : Exit → Act → World → Prop} (s x : Operand) (t : TypeId)
    (ho : o.op = .call { callee := .builtin .append, args := #[s, x], argTypes := #[t, t] }) (base : Nat) {e : TypeId} {size bytes : Nat} (E : ElT P t e size bytes)
    (v : Value) (n : Nat) (xs : List Value) (hs : a.eval s = v) (hown : w.ownsRow base e size v n xs)
    (B : Nat) (xv : Value) (m : Nat) (news : List Value) (hxv : a.eval x = xv) (hx : Sl w B size xv m news) (h1 : ∀ u ∈ news, u.oneCell' = true)
    (h63 : n + m ≤ maxLen) (hbytes : (n + m) * bytes ≤ 140737488355328) (hbase : base ≤ w.heap.size)
    (h : ∀ v' w', w'.ownsRow base e size v' (n + m) (xs ++ news) → w.grownBy w' v.ownBlock → (v'.ownBlock = v.ownBlock ∨ v'.ownBlock = some w.heap.size) → K (a.put o.dst v') w') : o.wp P a w K Q := by
  obtain ⟨v', w', hr, h2, h3, h4⟩ := run_append_sl (P := P) (w := w) base o.type E v n xs hown B xv m news hx h1 h63 hbytes hbase
  unfold Oper.wp execOp
  simp only [ho, resolve, invoke, builtin, Sem.run_bind, Sem.run_pure, Result.andThen_ok, List.map_toArray, List.map_cons, List.map_nil, hs, hxv, hr]
  exact h v' w' h2 h3 h4

theorem wpList_append {ops : Array Oper} {rest : List Oper} {o : Oper} {a : Act} {Q : Exit → Act → World → Prop} (hgd : o.guard = none) (s x : Operand) (t : TypeId)
    (ho : o.op = .call { callee := .builtin .append, args := #[s, x], argTypes := #[t, t] }) (base : Nat) {e : TypeId} {size bytes : Nat} (E : ElT P t e size bytes)
    (v : Value) (n : Nat) (xs : List Value) (hs : a.eval s = v) (hown : w.ownsRow base e size v n xs)
    (B : Nat) (xv : Value) (m : Nat) (news : List Value) (hxv : a.eval x = xv) (hx : Sl w B size xv m news) (h1 : ∀ u ∈ news, u.oneCell' = true)
    (h63 : n + m ≤ maxLen) (hbytes : (n + m) * bytes ≤ 140737488355328) (hbase : base ≤ w.heap.size)
    (h : ∀ v' w', w'.ownsRow base e size v' (n + m) (xs ++ news) → w.grownBy w' v.ownBlock → (v'.ownBlock = v.ownBlock ∨ v'.ownBlock = some w.heap.size) → wpList P ops Q rest (a.put o.dst v') w') : wpList P ops Q (o :: rest) a w :=
  wpList_plain hgd fun _ hK => wp_append s x t ho base E v n xs hs hown B xv m news hxv hx h1 h63 hbytes hbase fun v' w' h2 h3 h4 => hK _ _ (h v' w' h2 h3 h4)

/-- the same as one step of a region that draws its order -/
theorem step_append {ops : Array Oper} {o : Oper} {a : Act} {K : Act → World → Prop} {Q : Exit → Act → World → Prop} {F : Prop} (hgd : o.guard = none) (s x : Operand) (t : TypeId)
    (ho : o.op = .call { callee := .builtin .append, args := #[s, x], argTypes := #[t, t] }) (base : Nat) {e : TypeId} {size bytes : Nat} (E : ElT P t e size bytes)
    (v : Value) (n : Nat) (xs : List Value) (hs : a.eval s = v) (hown : w.ownsRow base e size v n xs)
    (B : Nat) (xv : Value) (m : Nat) (news : List Value) (hxv : a.eval x = xv) (hx : Sl w B size xv m news) (h1 : ∀ u ∈ news, u.oneCell' = true)
    (h63 : n + m ≤ maxLen) (hbytes : (n + m) * bytes ≤ 140737488355328) (hbase : base ≤ w.heap.size)
    (h : ∀ v' w', w'.ownsRow base e size v' (n + m) (xs ++ news) → w.grownBy w' v.ownBlock → (v'.ownBlock = v.ownBlock ∨ v'.ownBlock = some w.heap.size) → K (a.put o.dst v') w') :
    if Region.wanted o (yielded ops a.tmps) = true then Oper.wp P o a w K Q else F := by
  have hw : Region.wanted o (yielded ops a.tmps) = true := by simp [Region.wanted, hgd]
  rw [if_pos hw]
  exact wp_append s x t ho base E v n xs hs hown B xv m news hxv hx h1 h63 hbytes hbase h

/-- 'copy(dst, src)' within rows of elements of any size; dst lies in a block that is known whole. -/
theorem run_copy_sl {dT sT ty elem : TypeId} {size bytes : Nat} (E : ElT P dT elem size bytes) (g o dLen dCap : Nat) (a : Addr) (sLen sCap : Nat) (cur : Array Value) (t : TypeId) (cs : List Value)
    (hg : w.heap[g]? = some (.cells cur t (0, 0))) (hn : cs.length = Nat.min sLen dLen * size)
    (hsrc : ∀ j v, cs[j]? = some v → w.cell? (a.add j) = some v) (hfit : o + cs.length ≤ cur.size) (h1 : ∀ v ∈ cs, v.oneCell' = true) :
    (Builtin.copy_ #[dT, sT] ty #[.slice (some ⟨g, o, none⟩) dLen dCap, .slice (some a) sLen sCap]).run P w =
      .ok (goInt (Nat.min sLen dLen)) (w.setRow g (cur.toList.take o ++ cs ++ cur.toList.drop (o + cs.length)).toArray) := by
  obtain ⟨i, z, hi, hz, hsz, hby, hzs⟩ := E.info
  have hl := run_loadCells_list (P := P) w a cs hsrc
  have hst := run_storeCells_at P g o t cs 0 cur w hg (by simpa using hfit) h1
  simp [Builtin.copy_, run_underlying E.sl, Builtin.lenOf, Builtin.firstCells, sizeOf, typeInfo, hi, hsz, ← hn, hl, hst]

/-- cells of a row of the call's own are overwritten, from cell k on -/
theorem own_set {base : Nat} {e : TypeId} {s g n cap k : Nat} {xs cs : List Value} (h : w.ownsRow base e s (.slice (some ⟨g, 0, none⟩) n cap) n xs) (hfit : k + cs.length ≤ n * s) :
    ∃ cur, w.heap[g]? = some (.cells cur e (0, 0)) ∧ n * s ≤ cur.size ∧ cur.toList.take (n * s) = xs ∧
      (w.setRow g (cur.toList.take k ++ cs ++ cur.toList.drop (k + cs.length)).toArray).ownsRow base e s (.slice (some ⟨g, 0, none⟩) n cap) n (splice xs k cs) ∧
      w.grownBy (w.setRow g (cur.toList.take k ++ cs ++ cur.toList.drop (k + cs.length)).toArray) (some g) := by
  rcases h.2 with ⟨h', _⟩ | ⟨g', cap', cur, h', hb, hg, hnc, hcm, hcs, htake⟩
  · simp at h'
  · simp only [Value.slice.injEq, Option.some.injEq, Addr.mk.injEq, and_true, true_and] at h'
    obtain ⟨rfl, rfl⟩ := h'
    have hle : n * s ≤ cur.size := by rw [hcs]; exact Nat.mul_le_mul_right _ hnc
    have hlen : (cur.toList.take k ++ cs ++ cur.toList.drop (k + cs.length)).length = cur.size := by
      simp only [List.length_append, List.length_take, List.length_drop, Array.length_toList]; omega
    have hx : xs.length = n * s := h.1
    refine ⟨cur, hg, hle, htake, ⟨?_, .inr ⟨g, cap, _, rfl, hb, setRow_heap w g cur _ e _ hg, hnc, hcm, ?_, ?_⟩⟩, ⟨rfl, rfl, rfl, by simp [World.setRow], fun i _ hi => setRow_other w g i _ (fun e => hi (by rw [e]))⟩⟩
    · rw [length_splice _ _ _ (by omega)]; exact hx
    · simp only [List.size_toArray, hlen, hcs]
    · rw [← htake]
      unfold splice
      apply List.ext_getElem?
      intro j
      simp only [List.append_assoc, List.getElem?_append, List.getElem?_take, List.getElem?_drop, List.length_take, Array.length_toList]
      by_cases h1 : j < k
      · simp [h1, show j < n * s by omega, show j < min k cur.size by omega, show j < min k (min (n * s) cur.size) by omega]
      · by_cases h2 : j < k + cs.length
        · simp [show j < n * s by omega, show min k cur.size = k by omega, show min k (min (n * s) cur.size) = k by omega, show j - k < cs.length by omega]
        · simp only [show min k cur.size = k by omega, show min k (min (n * s) cur.size) = k by omega, show ¬ j - k < cs.length by omega, if_false, show k + cs.length + (j - k - cs.length) = j by omega, if_neg h1]

theorem run_storeAt_own {base : Nat} {e : TypeId} {s g n cap k : Nat} {xs cs : List Value} {ty : TypeId} {v : Value} (h : w.ownsRow base e s (.slice (some ⟨g, 0, none⟩) n cap) n xs) (hcs : v.cells.toList = cs)
    (hi : (P.info? ty).map (·.size) = some cs.length) (h1 : ∀ u ∈ cs, u.oneCell' = true) (hfit : k + cs.length ≤ n * s) :
    ∃ w', (Instr.storeAt ty (.pointer (some ⟨g, k, none⟩)) v).run P w = .ok () w' ∧ w'.ownsRow base e s (.slice (some ⟨g, 0, none⟩) n cap) n (splice xs k cs) ∧ w.grownBy w' (some g) := by
  obtain ⟨cur, hg, hle, _, ho, hgr⟩ := own_set h hfit
  have hst := run_storeCells_at P g k e cs 0 cur w hg (by simpa using (by omega : k + cs.length ≤ cur.size)) h1
  refine ⟨_, ?_, ho, hgr⟩
  cases hq : P.info? ty with
  | none => simp [hq] at hi
  | some i =>
    have hs : v.cells.size = i.size := by simp [hq] at hi; rw [hi, ← hcs]; simp
    simp only [Nat.add_zero] at hst
    simp [Instr.storeAt, Instr.sureAddr, storeVar, sizeOf, typeInfo, hq, hs, hcs, hst]

theorem wp_store_own {o : Oper} {a : Act} {K : Act → World → Prop} {Q : Exit → Act → World → Prop} (ty : TypeId) (x y : Operand) (ho : o.op = .store ty x y)
    {base : Nat} {e : TypeId} {s g n cap k : Nat} {xs : List Value} (cs : List Value) {v : Value} (hx : a.eval x = .pointer (some ⟨g, k, none⟩)) (hy : a.eval y = v) (h : w.ownsRow base e s (.slice (some ⟨g, 0, none⟩) n cap) n xs) (hcs : v.cells.toList = cs)
    (hi : (P.info? ty).map (·.size) = some cs.length) (h1 : ∀ u ∈ cs, u.oneCell' = true) (hfit : k + cs.length ≤ n * s)
    (hK : ∀ w', w'.ownsRow base e s (.slice (some ⟨g, 0, none⟩) n cap) n (splice xs k cs) → w.grownBy w' (some g) → K (a.put o.dst undef) w') : o.wp P a w K Q := by
  obtain ⟨w', hr, h2, h3⟩ := run_storeAt_own (P := P) h hcs hi h1 hfit
  unfold Oper.wp execOp
  simp only [ho, hx, hy, Sem.run_bind, hr, Result.andThen_ok, Sem.run_pure]
  exact hK w' h2 h3

theorem wpList_store_own {ops : Array Oper} {rest : List Oper} {o : Oper} {a : Act} {Q : Exit → Act → World → Prop} (hgd : o.guard = none) (ty : TypeId) (x y : Operand) (ho : o.op = .store ty x y)
    {base : Nat} {e : TypeId} {s g n cap k : Nat} {xs : List Value} (cs : List Value) {v : Value} (hx : a.eval x = .pointer (some ⟨g, k, none⟩)) (hy : a.eval y = v) (h : w.ownsRow base e s (.slice (some ⟨g, 0, none⟩) n cap) n xs) (hcs : v.cells.toList = cs)
    (hi : (P.info? ty).map (·.size) = some cs.length) (h1 : ∀ u ∈ cs, u.oneCell' = true) (hfit : k + cs.length ≤ n * s)
    (hK : ∀ w', w'.ownsRow base e s (.slice (some ⟨g, 0, none⟩) n cap) n (splice xs k cs) → w.grownBy w' (some g) → wpList P ops Q rest (a.put o.dst undef) w') : wpList P ops Q (o :: rest) a w :=
  wpList_plain hgd fun _ hk => wp_store_own ty x y ho cs hx hy h hcs hi h1 hfit fun w' h2 h3 => hk _ _ (hK w' h2 h3)

/-- 'copy' into a row of the call's own. -/
theorem wpList_copy_row {ops : Array Oper} {rest : List Oper} {o : Oper} {a : Act} {Q : Exit → Act → World → Prop} (hgd : o.guard = none) (d s : Operand) (dT sT : TypeId)
    (ho : o.op = .call { callee := .builtin .copy, args := #[d, s], argTypes := #[dT, sT] }) {elem : TypeId} {size bytes : Nat} (E : ElT P dT elem size bytes)
    (dp sp : Option Addr) (dLen dCap sLen sCap : Nat) (hd : a.eval d = .slice dp dLen dCap) (hs : a.eval s = .slice sp sLen sCap)
    {base g n cap k m : Nat} {xs : List Value} (h : w.ownsRow base elem size (.slice (some ⟨g, 0, none⟩) n cap) n xs) (cs : List Value) (hm : m = Nat.min sLen dLen) (hn : cs.length = m * size)
    (hpos : 0 < m → dp = some ⟨g, k, none⟩ ∧ ∃ ad, sp = some ad ∧ ∀ j v, cs[j]? = some v → w.cell? (ad.add j) = some v) (hnil : m = 0 → dp = none ∨ (∃ ad, dp = some ad) )
    (hfit : k + cs.length ≤ n * size) (h1 : ∀ v ∈ cs, v.oneCell' = true)
    (hK : ∀ w', w'.ownsRow base elem size (.slice (some ⟨g, 0, none⟩) n cap) n (splice xs k cs) → w.grownBy w' (some g) → wpList P ops Q rest (a.put o.dst (goInt m)) w') : wpList P ops Q (o :: rest) a w := by
  refine wpList_plain hgd fun K hk => ?_
  obtain ⟨i, z, hi, hz, hsz, hby, hzs⟩ := E.info
  rcases Nat.eq_zero_or_pos m with h0 | h0
  · have hc0 : cs = [] := List.eq_nil_of_length_eq_zero (by rw [hn, h0]; simp)
    subst hc0
    have hrun : (Builtin.copy_ #[dT, sT] o.type #[.slice dp dLen dCap, .slice sp sLen sCap]).run P w = .ok (goInt m) w := by
      rw [h0] at hm
      cases dp <;> cases sp <;> simp [Builtin.copy_, run_underlying E.sl, Builtin.lenOf, Builtin.firstCells, sizeOf, typeInfo, hi, ← hm, h0, loadCells, loadCellsFrom, storeCells]
    unfold Oper.wp
    simp [execOp, ho, resolve, invoke, builtin, hd, hs, hrun, Result.andThen]
    exact hk _ _ (hK w (by simpa [splice] using h) (World.grownBy.refl _ _))
  · obtain ⟨rfl, ad, rfl, hsrc⟩ := hpos h0
    obtain ⟨cur, hg, hle, _, hown, hgr⟩ := own_set h hfit
    have hrun := run_copy_sl (P := P) (w := w) (sT := sT) (ty := o.type) E g k dLen dCap ad sLen sCap cur elem cs hg (by rw [hn, hm]) hsrc (by omega) h1
    unfold Oper.wp
    simp [execOp, ho, resolve, invoke, builtin, hd, hs, hrun, Result.andThen]
    rw [← hm]
    exact hk _ _ (hK _ (by simpa using hown) (by simpa using hgr))
end
section
theorem run_wrapNil {P : Program} (xt : TypeId) (a : Addr) (s : ByteArray) (n : ByteArray) (W : World) : (Builtin.ssaWrapNilChk_ #[xt] xt #[.pointer (some a), .string s, .string n]).run P W = .ok (.pointer (some a)) W := by rfl
/-- a method of a value receiver, called behind a pointer in an interface value -/
theorem method_val {P : Program} {t e : TypeId} {name : String} {f : FuncId} (hi : (P.info? t).map (fun i => (i.methods.find? (·.name == name)).map (fun m => (m.func, m.path.size))) = some (some (some (f, false), 0)))
    (ht : P.underlying t = some (.pointer e)) (n q : Nat) (v : Value) (W : World) (hload : (loadVar e ⟨q, 0, none⟩).run P W = .ok v W) :
    (method (n + 1) t (.pointer (some ⟨q, 0, none⟩)) name).run P W = .ok (f, v) W := by
  obtain ⟨i, hi1, hi2⟩ := Option.map_eq_some_iff.1 hi
  obtain ⟨m, hm1, hm2⟩ := Option.map_eq_some_iff.1 hi2
  simp only [Prod.mk.injEq] at hm2
  have hp : m.path = #[] := Array.eq_empty_of_size_eq_zero hm2.2
  unfold method
  simp [typeInfo, hi1, hm1, hm2.1, hp, follow, receiverAt, run_underlying ht, Place.get, strVal, run_wrapNil, asAddr, hload]
theorem method_ptr {P : Program} {t e : TypeId} {name : String} {f : FuncId} (hi : (P.info? t).map (fun i => (i.methods.find? (·.name == name)).map (fun m => (m.func, m.path.size))) = some (some (some (f, true), 0)))
    (ht : P.underlying t = some (.pointer e)) (n q : Nat) (W : World) :
    (method (n + 1) t (.pointer (some ⟨q, 0, none⟩)) name).run P W = .ok (f, .pointer (some ⟨q, 0, none⟩)) W := by
  obtain ⟨i, hi1, hi2⟩ := Option.map_eq_some_iff.1 hi
  obtain ⟨m, hm1, hm2⟩ := Option.map_eq_some_iff.1 hi2
  simp only [Prod.mk.injEq] at hm2
  have hp : m.path = #[] := Array.eq_empty_of_size_eq_zero hm2.2
  unfold method
  simp [typeInfo, hi1, hm1, hm2.1, hp, follow, receiverAt, run_underlying ht, Place.get, asAddr]
end
end Go.Lo
