/- lodestarlaw17's heavy and lodestarref16's Find: what they answer. Conditions: the graph lies in memory, and its sizes are below 2^40. -/
import Derived.Test.YtdilbcmnfpmijaaGraphM
import Derived.Test.YtdilbcmnfpmijaaTreeA
import Derived.Test.YtdilbcmnfpmijaaLib2
namespace Go.Proofs.Ytdilbcmnfpmijaa
open Go.RowKit Go.Lo

def edgesN (rows : List NodeRow) : Nat := (rows.map fun r => r.node.edges.length).sum
theorem edgesN_take {rows : List NodeRow} {k : Nat} (h : k < rows.length) : edgesN (rows.take (k + 1)) = edgesN (rows.take k) + rows[k].node.edges.length := by
  unfold edgesN
  rw [List.take_succ_eq_append_getElem h, List.map_append, List.sum_append]; simp
theorem edgesN_le (rows : List NodeRow) (k : Nat) : edgesN (rows.take k) ≤ edgesN rows := by
  have : edgesN rows = edgesN (rows.take k) + edgesN (rows.drop k) := by
    unfold edgesN
    rw [← List.sum_append, ← List.map_append, List.take_append_drop]
  omega
theorem edgesN_mem {rows : List NodeRow} {r : NodeRow} (h : r ∈ rows) : r.node.edges.length ≤ edgesN rows := by
  unfold edgesN
  induction rows with
  | nil => cases h
  | cons a l ih =>
    rw [List.map_cons, List.sum_cons]
    rcases List.mem_cons.1 h with rfl | h
    · omega
    · have := ih h; omega

set_option maxRecDepth 100000 in
set_option maxHeartbeats 1000000 in
theorem heavy_any (rows : List NodeRow) (gv : Value) (w : World) (hg : GraphAt w w.heap.size gv rows) (hn : rows.length ≤ 2 ^ 40) (hs : edgesN rows ≤ 2 ^ 40) :
    Calls Try.prog 14 #[gv] w fun e w' => e = .returned (.bool (decide (40 < rows.length ∨ 200 < edgesN rows))) ∧ Below w.heap.size w w' := by
  have hgs := hg.sl
  obtain ⟨_, A, c, rfl, _, _, _⟩ := hgs
  go_enter Try.func14, Try.ntmps14
  go_wp2_with fail
  go_loopg [3, 4] rows.length (fun m s i wr => ∃ k : Nat, k ≤ rows.length ∧ m = rows.length - k ∧ s = .int .i64 (edgesN (rows.take k)) ∧ i = .int .i64 k ∧ Below w.heap.size w wr)
  case atStart => exact ⟨0, Nat.zero_le _, rfl, rfl, rfl, Below.refl _ _⟩
  case round =>
    obtain ⟨k, hk, rfl, rfl, rfl, hbk⟩ := hrel
    obtain ⟨w1, rfl⟩ : ∃ x : World, x = wr := ⟨_, rfl⟩
    have hg1 := hg.below hbk
    by_cases hkl : k < rows.length
    · obtain ⟨bg, og, rfl, hbg, hrow⟩ := Sl.row nodeCells_len hg1.sl hkl
      have h5 := hrow 5 _ rfl
      obtain ⟨_, A5, c5, he5, _⟩ := hg1.edges _ (List.getElem_mem hkl)
      rw [he5] at h5
      have hsum := edgesN_take hkl
      have hle := edgesN_le rows (k + 1)
      clear hrow he5 hg1 hg
      generalize hx : edgesN (rows.take (k + 1)) = x at *
      generalize edgesN (rows.take k) = y at *
      have Hx := Lib.hid hx
      clear hx
      go_wp2
      go_roundg (rows.length - (k + 1))
      case measure => omega
      case rel => exact ⟨k + 1, by omega, rfl, by rw [Hx.out]; go_num, by go_num, hbk⟩
    · obtain rfl : k = rows.length := by omega
      rw [List.take_length]
      clear hg1 hg
      by_cases h1 : 40 < rows.length
      · go_wp2
        go_ret
        exact ⟨by simp, hbk⟩
      · have d1 : decide ((40 : Int) < (rows.length : Int)) = false := decide_eq_false (by omega)
        by_cases h2 : 200 < edgesN rows
        · have d2 : decide ((200 : Int) < (edgesN rows : Int)) = true := decide_eq_true (by omega)
          go_wp2
          all_goals go_ret
          all_goals exact ⟨by simp [h1, h2], hbk⟩
        · have d2 : decide ((200 : Int) < (edgesN rows : Int)) = false := decide_eq_false (by omega)
          go_wp2
          all_goals go_ret
          all_goals exact ⟨by simp [h1, h2], hbk⟩

/-- the first node of that kind with that ID -/
def FindPost (w : World) (rows : List NodeRow) (net : Bool) (id : Int) (e : Ending) (w' : World) : Prop :=
  Below w.heap.size w w' ∧ ((∃ (k : Nat) (hk : k < rows.length), e = .returned (.int .i64 k) ∧ rows[k].node.network = net ∧ rows[k].node.id = id ∧ ∀ j (hj : j < rows.length), j < k → ¬ (rows[j].node.network = net ∧ rows[j].node.id = id)) ∨
    (e = .returned (.int .i64 (-1)) ∧ ∀ j (hj : j < rows.length), ¬ (rows[j].node.network = net ∧ rows[j].node.id = id)))

set_option maxRecDepth 100000 in
set_option maxHeartbeats 1000000 in
theorem find_any (rows : List NodeRow) (gv : Value) (net : Bool) (id : Int) (w : World) (hg : GraphAt w w.heap.size gv rows) (hn : rows.length ≤ 2 ^ 40) :
    Calls Try.prog 18 #[gv, .bool net, .int .u32 id] w (FindPost w rows net id) := by
  have hgs := hg.sl
  obtain ⟨_, A, c, rfl, _, _, _⟩ := hgs
  go_enter Try.func18, Try.ntmps18
  go_wp2_with fail
  go_loopg [7] rows.length (fun m i wr => ∃ k : Nat, k ≤ rows.length ∧ m = rows.length - k ∧ i = .int .i64 k ∧ (∀ j (hj : j < rows.length), j < k → ¬ (rows[j].node.network = net ∧ rows[j].node.id = id)) ∧ Below w.heap.size w wr)
  case atStart => exact ⟨0, Nat.zero_le _, rfl, rfl, fun _ _ h => absurd h (by omega), Below.refl _ _⟩
  case round =>
    obtain ⟨k, hk, rfl, rfl, hno, hbk⟩ := hrel
    obtain ⟨w1, rfl⟩ : ∃ x : World, x = wr := ⟨_, rfl⟩
    have Hno := Lib.hid hno
    clear hno
    have hg1 := hg.below hbk
    by_cases hkl : k < rows.length
    · obtain ⟨bg, og, rfl, hbg, hrow⟩ := Sl.row nodeCells_len hg1.sl hkl
      have h0 := hrow 0 _ rfl
      have h1 := hrow 1 _ rfl
      simp only [Nat.add_zero] at h0
      clear hrow hg1 hg
      generalize hnet : rows[k].node.network = nk at *
      generalize hid : rows[k].node.id = ik at *
      have Hnet := Lib.hid hnet
      have Hidk := Lib.hid hid
      clear hnet hid
      have onward : ¬ (nk = net ∧ ik = id) → ∀ j (hj : j < rows.length), j < k + 1 → ¬ (rows[j].node.network = net ∧ rows[j].node.id = id) := fun hne j hj hjk => by
        rcases Nat.lt_succ_iff_lt_or_eq.1 hjk with h | rfl
        · exact Hno.out j hj h
        · rw [Hnet.out, Hidk.out]; exact hne
      have On := Lib.hid onward
      clear onward
      by_cases hq : nk = net
      · by_cases hp : ik = id
        · have hqb : (nk == net) = true := beq_iff_eq.2 hq
          have hpb : (ik == id) = true := beq_iff_eq.2 hp
          have Hq := Lib.hid hq
          have Hp := Lib.hid hp
          clear hq hp
          go_wp2
          go_ret
          exact ⟨hbk, .inl ⟨k, hkl, rfl, Hnet.out.trans Hq.out, Hidk.out.trans Hp.out, Hno.out⟩⟩
        · have hqb : (nk == net) = true := beq_iff_eq.2 hq
          have hpb : (ik == id) = false := beq_eq_false_iff_ne.2 hp
          have Hp := Lib.hid hp
          clear hq hp
          go_wp2
          go_roundg (rows.length - (k + 1))
          case measure => omega
          case rel => exact ⟨k + 1, by omega, rfl, by go_num, On.out (fun h => Hp.out h.2), hbk⟩
      · have hqb : (nk == net) = false := beq_eq_false_iff_ne.2 hq
        have Hq := Lib.hid hq
        clear hq
        go_wp2
        go_roundg (rows.length - (k + 1))
        case measure => omega
        case rel => exact ⟨k + 1, by omega, rfl, by go_num, On.out (fun h => Hq.out h.1), hbk⟩
    · obtain rfl : k = rows.length := by omega
      clear hg1 hg
      go_wp2
      go_ret
      exact ⟨hbk, .inr ⟨rfl, fun j hj => Hno.out j hj hj⟩⟩
end Go.Proofs.Ytdilbcmnfpmijaa
