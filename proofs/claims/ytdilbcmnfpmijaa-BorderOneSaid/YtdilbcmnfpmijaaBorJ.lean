/- border's Chosen of border routers, none of which must or must not; and of distinct numbers just one is the greatest. Conditions: the routers lie in memory, each with the flag of a border router alone. -/
import Derived.Test.YtdilbcmnfpmijaaBorI
namespace Go.Proofs.Ytdilbcmnfpmijaa
open Go.RowKit Go.Lo

/-- a border router: its number, and the block of its one hop -/
abbrev BWay := Int × Nat
def bwayCells (x : BWay) : List Value := [.int .u32 0, .int .u8 0, .int .u32 x.1, .int .u8 1, .int .u8 1, .int .u32 0, .int .u32 0, .int .u32 0, .int .u32 0, .slice (some ⟨x.2, 0, none⟩) 1 1]
theorem bwayCells_len (x : BWay) : (bwayCells x).length = 10 := rfl

set_option maxRecDepth 100000 in
theorem above_any (x : BWay) (b : Nat) (self : Int) (w : World) (hb : b < w.heap.size) (hk : w.cell? ⟨b, 0, none⟩ = some (.int .u32 self)) :
    Calls Try.prog 41 #[.agg (bwayCells x).toArray, .pointer (some ⟨b, 0, none⟩)] w fun e w' => e = .returned (.bool (decide (self < x.1))) ∧ Below w.heap.size w w' := by
  obtain ⟨r, g⟩ := x
  have hB : Below w.heap.size w (w.alloc (.cells (bwayCells (r, g)).toArray 83)) := (Below.refl _ _).alloc (Nat.le_refl _) _
  have hk' := (hB.cell (p := ⟨b, 0, none⟩) hb).trans hk
  have k := Blk.new w 83 (bwayCells (r, g)).toArray
  have c2 := k.cell 2
  have c3 := k.cell 3
  simp only [bwayCells, List.getElem?_toArray, List.getElem?_cons_zero, List.getElem?_cons_succ] at c2 c3 hB hk' ⊢
  clear k
  have f1 : bits BinOp.and IntKind.u8 1 1 = 1 := by decide
  have f2 : bits BinOp.and IntKind.u8 1 16 = 0 := by decide
  go_enter Try.func41, Try.ntmps41
  go_upto_region 1 with fail
  generalize w.alloc (.cells #[.int .u32 0, .int .u8 0, .int .u32 r, .int .u8 1, .int .u8 1, .int .u32 0, .int .u32 0, .int .u32 0, .int .u32 0, .slice (some ⟨g, 0, none⟩) 1 1] 83) = w1 at hB hk' c2 c3 ⊢
  go_wp2
  go_ret
  exact ⟨rfl, hB⟩

/-- what IndexFunc answers -/
def IdxPost (w : World) (l : List BWay) (self : Int) (e : Ending) (w' : World) : Prop :=
  ∃ i : Int, e = .returned (.int .i64 i) ∧ (0 ≤ i ↔ ∃ x ∈ l, self < x.1) ∧ Below w.heap.size w w'

set_option maxRecDepth 100000 in
set_option maxHeartbeats 1000000 in
theorem idx_ways (l : List BWay) (lv : Value) (b : Nat) (self : Int) (w : World) (hl : Sl w w.heap.size 10 lv l.length (l.flatMap bwayCells)) (hb : b < w.heap.size) (hk : w.cell? ⟨b, 0, none⟩ = some (.int .u32 self)) (hn : l.length ≤ 1000000) :
    Calls Try.prog 63 #[lv, .func (.func 41) #[] #[.pointer (some ⟨b, 0, none⟩)]] w (IdxPost w l self) := by
  have hl0 := hl
  obtain ⟨-, A, c, rfl, -⟩ := hl
  go_enter Try.func63, Try.ntmps63
  go_wp2_with fail
  go_loopg [8] l.length (fun m i wr => ∃ k : Nat, k ≤ l.length ∧ m = l.length - k ∧ i = .int .i64 k ∧ (∀ x ∈ l.take k, ¬ self < x.1) ∧ Below w.heap.size w wr)
  case atStart => exact ⟨0, Nat.zero_le _, rfl, rfl, by simp, Below.refl _ _⟩
  case round =>
    obtain ⟨k, hkl, rfl, rfl, hno, hB⟩ := hrel
    obtain ⟨w1, rfl⟩ : ∃ x : World, x = wr := ⟨_, rfl⟩
    have hz := hB.size
    by_cases hlt : k < l.length
    · obtain ⟨bb, off, rfl, hbb, hrow⟩ := Sl.row bwayCells_len (hl0.below hB) hlt
      have htk : l.take (k + 1) = l.take k ++ [l[k]] := List.take_succ_eq_append_getElem hlt
      have hmem : l[k] ∈ l := List.getElem_mem hlt
      obtain ⟨x, hx⟩ : ∃ x, x = l[k] := ⟨_, rfl⟩
      rw [← hx] at hrow htk hmem
      clear hx
      have q0 := hrow 0 _ rfl
      have q1 := hrow 1 _ rfl
      have q2 := hrow 2 _ rfl
      have q3 := hrow 3 _ rfl
      have q4 := hrow 4 _ rfl
      have q5 := hrow 5 _ rfl
      have q6 := hrow 6 _ rfl
      have q7 := hrow 7 _ rfl
      have q8 := hrow 8 _ rfl
      have q9 := hrow 9 _ rfl
      simp only [Nat.add_zero] at q0
      have CA := above_any x b self w1 (by omega) ((hB.cell (p := ⟨b, 0, none⟩) hb).trans hk)
      simp only [bwayCells] at CA
      replace CA := Lib.hid CA
      replace htk := Lib.hid htk
      replace hno := Lib.hid hno
      replace hmem := Lib.hid hmem
      clear hrow
      have ik : (k : Int) < (l.length : Int) := by omega
      by_cases hs : self < x.1
      · go_wp2_with (go_at_call 41; refine Calls.mono CA.out ?_; rintro e w2 ⟨rfl, hB2⟩)
        go_ret
        exact ⟨k, rfl, ⟨fun _ => ⟨x, hmem.out, hs⟩, fun _ => by omega⟩, below_call hB hB2 (Nat.le_refl _)⟩
      · go_wp2_with (go_at_call 41; refine Calls.mono CA.out ?_; rintro e w2 ⟨rfl, hB2⟩)
        go_roundg (l.length - (k + 1))
        case measure => omega
        case rel =>
          refine ⟨k + 1, by omega, rfl, by go_num, fun y hy => ?_, below_call hB hB2 (Nat.le_refl _)⟩
          rw [htk.out] at hy
          rcases List.mem_append.1 hy with h | h
          · exact hno.out y h
          · obtain rfl := List.mem_singleton.1 h
            exact hs
    · obtain rfl : k = l.length := by omega
      rw [List.take_length] at hno
      go_wp2
      go_ret
      exact ⟨-1, rfl, ⟨fun h => absurd h (by omega), fun ⟨x, hx, h⟩ => absurd h (Int.not_lt.2 (hno x hx))⟩, hB⟩

set_option maxRecDepth 100000 in
theorem contains_ways (l : List BWay) (lv : Value) (b : Nat) (self : Int) (w : World) (hl : Sl w w.heap.size 10 lv l.length (l.flatMap bwayCells)) (hb : b < w.heap.size) (hk : w.cell? ⟨b, 0, none⟩ = some (.int .u32 self)) (hn : l.length ≤ 1000000) :
    Calls Try.prog 40 #[lv, .func (.func 41) #[] #[.pointer (some ⟨b, 0, none⟩)]] w fun e w' => ∃ q : Bool, e = .returned (.bool q) ∧ (q = true ↔ ∃ x ∈ l, self < x.1) ∧ Below w.heap.size w w' := by
  have CI := Lib.hid (idx_ways l lv b self w hl hb hk hn)
  obtain ⟨-, A, c, rfl, -⟩ := hl
  clear hk
  go_enter Try.func40, Try.ntmps40
  go_wp2_with (go_at_call 63; refine Calls.mono CI.out ?_; rintro e w1 ⟨i, rfl, hi, hB1⟩)
  go_ret
  exact ⟨_, rfl, by rw [← hi]; simp, hB1⟩

set_option maxRecDepth 100000 in
theorem chosen_any (l : List BWay) (lv : Value) (self : Int) (w : World) (hl : Sl w w.heap.size 10 lv l.length (l.flatMap bwayCells)) (hn : l.length ≤ 1000000) :
    Calls Try.prog 28 #[.int .u32 self, .bool false, .bool false, lv] w fun e w' => ∃ q : Bool, e = .returned (.bool q) ∧ (q = true ↔ ∀ x ∈ l, x.1 ≤ self) ∧ Below w.heap.size w w' := by
  have hB0 : Below w.heap.size w (w.alloc (.cells #[.int .u32 self] 22)) := (Below.refl _ _).alloc (Nat.le_refl _) _
  have k0 := (Blk.new w 22 #[.int .u32 self]).cell 0
  simp only [List.getElem?_toArray, List.getElem?_cons_zero] at k0
  have CC := Lib.hid (contains_ways l lv w.heap.size self (w.alloc (.cells #[.int .u32 self] 22)) ((hl.below hB0).more hB0.size) (by simp) k0 hn)
  obtain ⟨-, A, c, rfl, -⟩ := hl
  clear k0
  go_enter Try.func28, Try.ntmps28
  go_wp2_with (go_at_call 40; refine Calls.mono CC.out ?_; rintro e w1 ⟨q, rfl, hq, hB1⟩)
  go_ret
  refine ⟨_, rfl, ?_, below_call hB0 hB1 (Nat.le_refl _)⟩
  cases q <;> simp at hq ⊢
  · exact fun a b h => by have := hq a b h; omega
  · obtain ⟨a, ⟨b, h1⟩, h2⟩ := hq
    exact ⟨a, ⟨b, h1⟩, by omega⟩

/-- number i is the greatest -/
def IsMax (ids : List Int) (i : Nat) : Prop := ∃ h : i < ids.length, ∀ k (hk : k < ids.length), ids[k] ≤ ids[i]

theorem isMax_one {ids : List Int} (hn : ids.Nodup) {i j : Nat} (hi : IsMax ids i) (hj : IsMax ids j) : i = j := by
  obtain ⟨h1, a⟩ := hi
  obtain ⟨h2, b⟩ := hj
  have e : ids[i] = ids[j] := Int.le_antisymm (b i h1) (a j h2)
  exact (List.getElem_inj hn).1 e

theorem isMax_some : ∀ ids : List Int, 0 < ids.length → ∃ i, IsMax ids i
  | [], h => absurd h (by simp)
  | [x], _ => ⟨0, by simp, fun k hk => by simp at hk; subst hk; exact Int.le_refl _⟩
  | x :: y :: r, _ => by
    obtain ⟨i, hi, h⟩ := isMax_some (y :: r) (by simp)
    rcases Int.lt_or_le x ((y :: r)[i]) with hx | hx
    · refine ⟨i + 1, by simpa using hi, fun k hk => ?_⟩
      cases k with
      | zero => simpa using Int.le_of_lt hx
      | succ k => simpa using h k (by simpa using hk)
    · refine ⟨0, by simp, fun k hk => ?_⟩
      cases k with
      | zero => simp
      | succ k => have := h k (by simpa using hk); simp only [List.getElem_cons_succ, List.getElem_cons_zero]; exact Int.le_trans this hx
end Go.Proofs.Ytdilbcmnfpmijaa
