/- lodestarlaw17's works: two routers find each other. -/
import Derived.Test.YtdilbcmnfpmijaaTreeG
import Derived.Test.YtdilbcmnfpmijaaTreeH
import Derived.Test.YtdilbcmnfpmijaaWorks17
namespace Go.Proofs.Ytdilbcmnfpmijaa
open Go.RowKit Go.Lo

/-- the two rows as they are built from block n on -/
def rows17 (n : Nat) : List NodeRow := [⟨⟨false, 1, 0, 0, 0, [⟨1, 3, 7, false⟩]⟩, .slice (some ⟨n, 0, none⟩) 1 1, .slice none 0 0⟩, ⟨⟨false, 2, 0, 0, 0, [⟨0, 3, 8, false⟩]⟩, .slice (some ⟨n + 1, 0, none⟩) 1 1, .slice none 0 0⟩]
def world17 (w : World) : World := ((w.alloc (Obj.cells #[.int .i64 1, .int .u32 3, .int .u32 7, .bool false] 88)).alloc (Obj.cells #[.int .i64 0, .int .u32 3, .int .u32 8, .bool false] 88)).alloc
  (Obj.cells #[.bool false, .int .u32 1, .int .u32 0, .int .u8 0, .int .u8 0, .slice (some ⟨w.heap.size, 0, none⟩) 1 1, .slice none 0 0, .bool false, .int .u32 2, .int .u32 0, .int .u8 0, .int .u8 0, .slice (some ⟨w.heap.size + 1, 0, none⟩) 1 1, .slice none 0 0] 92)
theorem world17_below (w : World) : Below w.heap.size w (world17 w) := (((Below.refl _ _).alloc (Nat.le_refl _) _).alloc (by simp) _).alloc (by simp; omega) _
theorem world17_size (w : World) : (world17 w).heap.size = w.heap.size + 3 := by simp [world17]
theorem graph17 (w : World) : GraphAt (world17 w) (w.heap.size + 3) (.slice (some ⟨w.heap.size + 2, 0, none⟩) 2 2) (rows17 w.heap.size) := by
  have e1 := (Sl.lit (s := 4) (n := 1) w #[.int .i64 1, .int .u32 3, .int .u32 7, .bool false] 88 (by simp [maxLen]) rfl)
  have e2 := (Sl.lit (s := 4) (n := 1) (w.alloc (Obj.cells #[.int .i64 1, .int .u32 3, .int .u32 7, .bool false] 88)) #[.int .i64 0, .int .u32 3, .int .u32 8, .bool false] 88 (by simp [maxLen]) rfl)
  have e3 := (Sl.lit (s := 7) (n := 2) ((w.alloc (Obj.cells #[.int .i64 1, .int .u32 3, .int .u32 7, .bool false] 88)).alloc (Obj.cells #[.int .i64 0, .int .u32 3, .int .u32 8, .bool false] 88))
    #[.bool false, .int .u32 1, .int .u32 0, .int .u8 0, .int .u8 0, .slice (some ⟨w.heap.size, 0, none⟩) 1 1, .slice none 0 0, .bool false, .int .u32 2, .int .u32 0, .int .u8 0, .int .u8 0, .slice (some ⟨w.heap.size + 1, 0, none⟩) 1 1, .slice none 0 0] 92 (by simp [maxLen]) rfl)
  simp only [World.size_alloc] at e1 e2 e3
  refine ⟨e3, fun r hr => ?_, fun r hr => ?_⟩
  · simp only [rows17, List.mem_cons, List.not_mem_nil, or_false] at hr
    rcases hr with rfl | rfl
    · exact ((e1.alloc (by simp) _).alloc (by simp) _).more (by omega)
    · exact (e2.alloc (by simp) _).more (by omega)
  · simp only [rows17, List.mem_cons, List.not_mem_nil, or_false] at hr
    rcases hr with rfl | rfl <;> exact ⟨_, _, _, rfl⟩
theorem nodes17 (n : Nat) : nodesOf (rows17 n) = g17 := rfl
theorem nozero17 (n : Nat) : NoZero (rows17 n) := by
  intro r hr _
  simp only [rows17, List.mem_cons, List.not_mem_nil, or_false] at hr
  rcases hr with rfl | rfl <;> simp

set_option maxRecDepth 100000 in
set_option maxHeartbeats 2000000 in
theorem works17_any (w : World) : Calls Try.prog 15 #[] w fun e w' => e = .returned (.bool true) ∧ Below w.heap.size w w' := by
  go_enter Try.func15, Try.ntmps15
  go_wp2_with fail
  have hg := graph17 w
  have hb := world17_below w
  have hs := world17_size w
  have HW : Hid (((w.alloc (Obj.cells #[.int .i64 1, .int .u32 3, .int .u32 7, .bool false] 88)).alloc (Obj.cells #[.int .i64 0, .int .u32 3, .int .u32 8, .bool false] 88)).alloc
    (Obj.cells #[.bool false, .int .u32 1, .int .u32 0, .int .u8 0, .int .u8 0, .slice (some ⟨w.heap.size, 0, none⟩) 1 1, .slice none 0 0, .bool false, .int .u32 2, .int .u32 0, .int .u8 0, .int .u8 0, .slice (some ⟨w.heap.size + 1, 0, none⟩) 1 1, .slice none 0 0] 92) = world17 w) := rfl
  rw [HW.out]
  generalize world17 w = w1 at *
  refine Calls.mono (from_any (rows17 w.heap.size) _ 0 w1 (by rw [hs]; exact hg) g17_ok (by simp [rows17]) (by simp [rows17]) (by rw [nodes17]; simp [rows17, esOf, g17])) ?_
  rintro e w2 hpost
  rcases hpost with ⟨_, v, rs, c, rfl, ho, hB, hc, hh, hic⟩ | ⟨hn, _⟩
  · rw [nodes17] at hc hh
    obtain rfl := g17_costs hc
    have hH := g17_hops hh
    have hlen : rs.length = 2 := by rw [← List.length_map ReachRow.hops, hH]; rfl
    match rs, hlen with
    | [r0, r1], _ =>
      simp only [List.map_cons, List.map_nil, List.cons.injEq, and_true] at hH
      have hic : [(r0.is, r0.cost), (r1.is, r1.cost)] = [(true, 0), (true, 3)] := hic
      simp only [List.cons.injEq, Prod.mk.injEq, and_true] at hic
      obtain ⟨i0, c0, v0, h0⟩ := r0
      obtain ⟨i1, c1, v1, h1⟩ := r1
      obtain ⟨rfl, rfl⟩ := hH
      obtain ⟨⟨rfl, rfl⟩, rfl, rfl⟩ := hic
      have hhop0 := ho.hop _ (List.mem_cons_self ..)
      have hhop1 := ho.hop _ (List.mem_cons_of_mem _ (List.mem_cons_self ..))
      have hrow := ho.row
      obtain ⟨go, co, rfl, _, _, hgo, _, hr0⟩ := own_row (k := 0) reachCells_len hrow (by simp)
      obtain ⟨go', co', hv, _, _, _, _, hr1⟩ := own_row (k := 1) reachCells_len hrow (by simp)
      simp only [Value.slice.injEq, Option.some.injEq, Addr.mk.injEq, and_true, true_and] at hv
      obtain ⟨rfl, rfl⟩ := hv
      obtain ⟨g1, c1', hv1, _, _, hg1, _, hx⟩ := own_row (k := 0) hopCells_len hhop1 (by simp)
      obtain ⟨A0, c0', hv0⟩ := hopVal hhop0
      simp only at hv0 hv1
      subst hv0 hv1
      have a0 : w2.cell? ⟨go, 0, none⟩ = some (.bool true) := hr0 0 _ rfl
      have a2 : w2.cell? ⟨go, 2, none⟩ = some (.slice A0 0 c0') := hr0 2 _ rfl
      have b0 : w2.cell? ⟨go, 3, none⟩ = some (.bool true) := hr1 0 _ rfl
      have b1 : w2.cell? ⟨go, 4, none⟩ = some (.int .u32 3) := hr1 1 _ rfl
      have b2 : w2.cell? ⟨go, 5, none⟩ = some (.slice (some ⟨g1, 0, none⟩) 1 c1') := hr1 2 _ rfl
      have x0 : w2.cell? ⟨g1, 0, none⟩ = some (.int .u32 7) := hx 0 _ rfl
      have x1 : w2.cell? ⟨g1, 1, none⟩ = some (.int .u32 2) := hx 1 _ rfl
      have x2 : w2.cell? ⟨g1, 2, none⟩ = some (.bool false) := hx 2 _ rfl
      have heq : ∀ W, (binOp .eql 64 (.agg #[.int .u32 7, .int .u32 2, .bool false]) (.agg #[.int .u32 7, .int .u32 2, .bool false])).run Try.prog W = .ok (.bool true) W := fun W => eql_hop (7, 2, false) (7, 2, false) W
      clear hr0 hr1 hx hrow
      go_wp2_with fail
      refine Calls.mono (from_out _ 2 _ 2 _ (.inr (by omega))) ?_
      rintro e w3 ⟨rfl, rfl⟩
      go_wp2_with fail
      go_ret
      exact ⟨rfl, hb.trans (hB.mono hb.size)⟩
  · exact absurd (nozero17 _) hn

end Go.Proofs.Ytdilbcmnfpmijaa
