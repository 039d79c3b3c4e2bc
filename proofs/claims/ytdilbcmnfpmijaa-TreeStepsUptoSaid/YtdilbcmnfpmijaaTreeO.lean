/- What TreeSteps' walk needs beside the walk: where Find leads, what a row of the answer holds. Conditions: as each theorem says. -/
import Derived.Test.YtdilbcmnfpmijaaTreeG
import Derived.Test.YtdilbcmnfpmijaaTreeK
import Derived.Test.YtdilbcmnfpmijaaLeastQ
namespace Go.Proofs.Ytdilbcmnfpmijaa
open Go.RowKit Go.Lo

def First (rows : List NodeRow) (i : Nat) (id : Int) : Prop := ∀ j (hj : j < rows.length), j < i → ¬ (rows[j].node.network = false ∧ rows[j].node.id = id)
def GoodS (rows : List NodeRow) (i : Nat) (x : GNode) : Prop :=
  x.network = false ∧ x.id ≠ 0 ∧ First rows i x.id ∧ ∀ e ∈ x.edges, 0 ≤ e.to ∧ e.to < (rows.length : Int) ∧ e.to ≠ (i : Int) ∧ 1 ≤ e.cost ∧ e.cost ≤ 65536
def GoodSTo (rows : List NodeRow) (k : Nat) : Prop := ∀ j (hj : j < rows.length), j < k → GoodS rows j rows[j].node
theorem GoodSTo.start (rows : List NodeRow) : GoodSTo rows 0 := fun _ _ h => absurd h (by omega)
theorem GoodSTo.step {rows : List NodeRow} {k : Nat} (h : GoodSTo rows k) (hk : k < rows.length) (hn : GoodS rows k rows[k].node) : GoodSTo rows (k + 1) := fun j hj hjk => by
  rcases Nat.lt_succ_iff_lt_or_eq.1 hjk with h1 | rfl
  · exact h j hj h1
  · exact hn

/-- what Find hands back, as a number -/
theorem find_at {rows : List NodeRow} {net : Bool} {id : Int} {w w' : World} {e : Ending} (h : FindPost w rows net id e w') (i : Nat) :
    ∃ z : Int, e = .returned (.int .i64 z) ∧ Below w.heap.size w w' ∧ (net = false → z = (i : Int) → First rows i id) := by
  obtain ⟨hb, ⟨k, hk, rfl, h1, h2, h3⟩ | ⟨rfl, h1⟩⟩ := h
  · refine ⟨k, rfl, hb, fun hn hz => ?_⟩
    obtain rfl : k = i := Int.ofNat.inj hz
    subst hn
    exact h3
  · exact ⟨-1, rfl, hb, fun _ hz => by omega⟩

theorem find_to {rows : List NodeRow} (hg : GoodSTo rows rows.length) {t : Nat} (ht : t < rows.length) {id : Int} (hid : rows[t].node.id = id) {w w' : World} {e : Ending} (h : FindPost w rows false id e w') :
    e = .returned (.int .i64 t) ∧ Below w.heap.size w w' := by
  obtain ⟨h1, _, h3, _⟩ := hg t ht ht
  subst hid
  obtain ⟨hb, ⟨k, hk, rfl, k1, k2, k3⟩ | ⟨rfl, k1⟩⟩ := h
  · rcases Nat.lt_trichotomy k t with h4 | rfl | h4
    · exact absurd ⟨k1, k2⟩ (h3 k hk h4)
    · exact ⟨rfl, hb⟩
    · exact absurd ⟨h1, rfl⟩ (k3 t ht h4)
  · exact absurd ⟨h1, rfl⟩ (k1 t ht)

theorem goodS_net {rows : List NodeRow} (hg : GoodSTo rows rows.length) (j : Nat) : netAt (nodesOf rows) j = false := by
  rcases Nat.lt_or_ge j rows.length with h | h
  · rw [netAt_rows h]; exact (hg j h h).1
  · unfold netAt; rw [List.getElem?_eq_none (by rw [nodesOf_len]; exact h)]

theorem goodS_zero {rows rs : List NodeRow} (hg : GoodSTo rows rows.length) (hnd : rs.map NodeRow.node = rows.map NodeRow.node) : NoZero rs := fun y hy _ => by
  have : y.node ∈ rows.map NodeRow.node := by rw [← hnd]; exact List.mem_map_of_mem hy
  obtain ⟨z, hz, hzy⟩ := List.mem_map.1 this
  obtain ⟨j, hj, rfl⟩ := List.mem_iff_getElem.1 hz
  rw [← hzy]
  exact (hg j hj hj).2.1

theorem hAt_map2 {rs : List ReachRow} {i : Nat} (h : i < rs.length) : hAt (rs.map ReachRow.hops) i = rs[i].hops := by simp [hAt, h]
/-- what a row of the answer reads as, its first steps with it, as long as nothing old is written -/
theorem found_rows {w4 : World} {base : Nat} {v4 : Value} {rs : List ReachRow} {c : List Int} (hout : OutAt w4 base v4 rs) (hmap : rs.map (fun r => (r.is, r.cost)) = c.map fun x => if x < far then (true, x) else (false, 0)) (hn : 0 < rs.length) :
    ∃ g cap, v4 = .slice (some ⟨g, 0, none⟩) rs.length cap ∧ g < w4.heap.size ∧ ∀ i (hi : i < rs.length) (W : World), Below w4.heap.size w4 W → W.cell? ⟨g, i * 3, none⟩ = some (.bool (decide (at_ c i < far))) ∧
      (at_ c i < far → W.cell? ⟨g, i * 3 + 1, none⟩ = some (.int .u32 (at_ c i))) ∧ ∃ A n, W.cell? ⟨g, i * 3 + 2, none⟩ = some (.slice A rs[i].hops.length n) ∧ Sl W w4.heap.size 3 (.slice A rs[i].hops.length n) rs[i].hops.length (rs[i].hops.flatMap hopCells) := by
  obtain ⟨g, cap, rfl, _, _, hg, _, _⟩ := own_row reachCells_len hout.row hn
  refine ⟨g, cap, rfl, hg, fun i hi W hW => ?_⟩
  obtain ⟨g', cap', hv, _, _, _, _, hro⟩ := own_row reachCells_len hout.row hi
  simp only [Value.slice.injEq, Option.some.injEq, Addr.mk.injEq, and_true, true_and] at hv
  obtain ⟨rfl, rfl⟩ := hv
  obtain ⟨f1, f2⟩ := found_at hmap hi
  have hsl := Sl.of_own (hout.hop rs[i] (List.getElem_mem hi))
  have hsl' := hsl
  obtain ⟨_, A, n, hv, _⟩ := hsl
  have h0 := hro 0 _ rfl
  have h1 := hro 1 _ rfl
  have h2 := hro 2 _ rfl
  rw [f1] at h0
  rw [f2] at h1
  rw [hv] at h2 hsl'
  refine ⟨(hW.cell (p := ⟨g, i * 3, none⟩) hg).trans h0, fun hf => ?_, A, n, (hW.cell (p := ⟨g, i * 3 + 2, none⟩) hg).trans h2, hsl'.below hW⟩
  rw [if_pos hf] at h1
  exact (hW.cell (p := ⟨g, i * 3 + 1, none⟩) hg).trans h1
end Go.Proofs.Ytdilbcmnfpmijaa
