/- lodestarlaw22's big. Conditions: the ports lie in memory, and their sizes are below 2^40. -/
import Derived.Test.YtdilbcmnfpmijaaOriJ
namespace Go.Proofs.Ytdilbcmnfpmijaa
open Go.RowKit Go.Lo

def fullN (ps : List OPort) : Nat := (ps.map fun p => p.full.length).sum
theorem fullN_take {ps : List OPort} {k : Nat} (h : k < ps.length) : fullN (ps.take (k + 1)) = fullN (ps.take k) + ps[k].full.length := by
  unfold fullN
  rw [List.take_succ_eq_append_getElem h, List.map_append, List.sum_append]; simp
theorem fullN_le (ps : List OPort) (k : Nat) : fullN (ps.take k) ≤ fullN ps := by
  have : fullN ps = fullN (ps.take k) + fullN (ps.drop k) := by
    unfold fullN
    rw [← List.sum_append, ← List.map_append, List.take_append_drop]
  omega
theorem fullN_mem {ps : List OPort} {r : OPort} (h : r ∈ ps) : r.full.length ≤ fullN ps := by
  unfold fullN
  induction ps with
  | nil => cases h
  | cons a l ih =>
    rw [List.map_cons, List.sum_cons]
    rcases List.mem_cons.1 h with rfl | h
    · omega
    · have := ih h; omega

def PortsIn (w : World) (B : Nat) (v : Value) (ps : List OPort) : Prop := Sl w B 10 v ps.length (ps.flatMap portCells) ∧ ∀ p ∈ ps, Sl w B 1 p.fv p.full.length (p.full.flatMap u32Cells)
theorem PortsIn.below {w w' : World} {B : Nat} {v : Value} {ps : List OPort} (h : PortsIn w B v ps) (hb : Below B w w') : PortsIn w' B v ps := ⟨h.1.below hb, fun p hp => (h.2 p hp).below hb⟩

/-- what 'big' tells: where it says no the ports are few, and stand in states that are some -/
def BigPost (w : World) (ps : List OPort) (e : Ending) (w' : World) : Prop :=
  ∃ b : Bool, e = .returned (.bool b) ∧ (b = false → ps.length ≤ 60 ∧ fullN ps ≤ 400) ∧ Below w.heap.size w w'

set_option maxRecDepth 100000 in
set_option maxHeartbeats 1000000 in
theorem big22_any (v : OView) (pv : Value) (ps : List OPort) (w : World) (hg : PortsIn w w.heap.size pv ps) (hn : ps.length ≤ 2 ^ 40) (hs : fullN ps ≤ 2 ^ 40) :
    Calls Try.prog 10 #[viewVal v pv] w (BigPost w ps) := by
  obtain ⟨router, border, outer, ends, always, most⟩ := v
  have hgs := hg.1
  obtain ⟨_, A, c, rfl, _, _, _⟩ := hgs
  go_enter Try.func10, Try.ntmps10
  have k0 : Blk (w.alloc (.cells #[.int .u32 router, .bool border, .bool outer, .bool ends, .bool always, .bool most, .slice A ps.length c] 25)) w.heap.size 25 #[.int .u32 router, .bool border, .bool outer, .bool ends, .bool always, .bool most, .slice A ps.length c] := Blk.new _ _ _
  have hB0 : Below w.heap.size w (w.alloc (.cells #[.int .u32 router, .bool border, .bool outer, .bool ends, .bool always, .bool most, .slice A ps.length c] 25)) := (Below.refl _ _).alloc (Nat.le_refl _) _
  go_wp2_with fail
  generalize (w.alloc (.cells #[.int .u32 router, .bool border, .bool outer, .bool ends, .bool always, .bool most, .slice A ps.length c] 25)) = w0 at *
  go_loopg [3, 4] ps.length (fun m s i wr => ∃ k : Nat, k ≤ ps.length ∧ m = ps.length - k ∧ s = .int .i64 (fullN (ps.take k)) ∧ i = .int .i64 k ∧ wr = w0)
  case atStart => exact ⟨0, Nat.zero_le _, rfl, rfl, rfl, rfl⟩
  case round =>
    obtain ⟨k, hk, rfl, rfl, rfl, rfl⟩ := hrel
    have hg1 := hg.below hB0
    have z6 := k0.cell 6
    simp only [List.getElem?_toArray, List.getElem?_cons_zero, List.getElem?_cons_succ] at z6
    by_cases hkl : k < ps.length
    · obtain ⟨bg, og, rfl, hbg, hrow⟩ := Sl.row portCells_len hg1.1 hkl
      have h8 := hrow 8 _ rfl
      have h1 := hrow 1 _ rfl
      obtain ⟨_, A5, c5, he5, _⟩ := hg1.2 _ (List.getElem_mem hkl)
      rw [he5] at h8
      have hsum := fullN_take hkl
      have hle := fullN_le ps (k + 1)
      clear hrow he5 hg1 hg k0
      generalize hx : fullN (ps.take (k + 1)) = x at *
      generalize fullN (ps.take k) = y at *
      have Hx := Lib.hid hx
      clear hx
      rcases Int.lt_or_le 6 ps[k].state with h6 | h6
      · have d6 : decide (6 < ps[k].state) = true := decide_eq_true h6
        go_wp2
        go_ret
        exact ⟨true, rfl, by simp, hB0⟩
      · have d6 : decide (6 < ps[k].state) = false := decide_eq_false (by omega)
        go_wp2
        go_roundg (ps.length - (k + 1))
        case measure => omega
        case rel => exact ⟨k + 1, by omega, rfl, by rw [Hx.out]; go_num, by go_num, rfl⟩
    · obtain rfl : k = ps.length := by omega
      rw [List.take_length]
      clear hg1 hg k0
      by_cases h1 : 60 < ps.length
      · go_wp2
        go_ret
        exact ⟨true, rfl, by simp, hB0⟩
      · have d1 : decide ((60 : Int) < (ps.length : Int)) = false := decide_eq_false (by omega)
        by_cases h2 : 400 < fullN ps
        · have d2 : decide ((400 : Int) < (fullN ps : Int)) = true := decide_eq_true (by omega)
          go_wp2
          all_goals go_ret
          all_goals exact ⟨true, rfl, by simp, hB0⟩
        · have d2 : decide ((400 : Int) < (fullN ps : Int)) = false := decide_eq_false (by omega)
          go_wp2
          all_goals go_ret
          all_goals exact ⟨false, rfl, fun _ => ⟨by omega, by omega⟩, hB0⟩
end Go.Proofs.Ytdilbcmnfpmijaa
