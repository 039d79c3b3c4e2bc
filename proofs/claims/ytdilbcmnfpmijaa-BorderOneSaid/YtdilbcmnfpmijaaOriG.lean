/- lodestarlaw22's works: a point to point link. -/
import Derived.Test.YtdilbcmnfpmijaaOriF
namespace Go.Proofs.Ytdilbcmnfpmijaa
open Go.RowKit Go.Lo

theorem eql_link (a b : OLink) (w : World) : (binOp .eql 42 (.agg #[.int .u32 a.1, .int .u32 a.2.1, .int .u8 a.2.2.1, .int .u16 a.2.2.2]) (.agg #[.int .u32 b.1, .int .u32 b.2.1, .int .u8 b.2.2.1, .int .u16 b.2.2.2])).run Try.prog w = .ok (.bool (decide (a = b))) w := by
  rw [run_eql_struct, run_equalIn_agg _ _ _ _ _ (by kernel_rfl) (by kernel_rfl)]
  go_simp
  obtain ⟨a1, a2, a3, a4⟩ := a
  obtain ⟨b1, b2, b3, b4⟩ := b
  by_cases h1 : a1 = b1 <;> by_cases h2 : a2 = b2 <;> by_cases h3 : a3 = b3 <;> by_cases h4 : a4 = b4 <;> simp [h1, h2, h3, h4]

def port22 (n : Nat) : OPort := ⟨3, 3, 167772161, 167772160, 30, 5, 0, false, .slice (some ⟨n, 0, none⟩) 1 1, [2], 0⟩
def links22 : List OLink := [(2, 167772161, 1, 5), (167772160, maskI 30, 3, 5)]
theorem links22_eq (n : Nat) : linksL (port22 n) false = links22 := rfl
theorem flags22 : fl8 true false false false 4 = 1 := by decide
def wp22 (w : World) : World := (w.alloc (.cells #[.int .u32 2] 22)).alloc (.cells #[.int .u8 3, .int .u8 3, .int .u32 167772161, .int .u32 167772160, .int .u8 30, .int .u16 5, .int .u32 0, .bool false, .slice (some ⟨w.heap.size, 0, none⟩) 1 1, .int .u32 0] 73)
theorem wp22_below (w : World) : Below w.heap.size w (wp22 w) := ((Below.refl _ _).alloc (Nat.le_refl _) _).alloc (by simp) _
theorem wp22_size (w : World) : (wp22 w).heap.size = w.heap.size + 2 := by simp [wp22]
theorem port22_sl (w : World) : Sl (wp22 w) (w.heap.size + 1) 1 (port22 w.heap.size).fv (port22 w.heap.size).full.length ((port22 w.heap.size).full.flatMap u32Cells) :=
  (Sl.lit (s := 1) (n := 1) w #[.int .u32 2] 22 (by simp [maxLen]) rfl).alloc (by simp) _
theorem port22_blk (w : World) : Blk (wp22 w) (w.heap.size + 1) 73 #[.int .u8 3, .int .u8 3, .int .u32 167772161, .int .u32 167772160, .int .u8 30, .int .u16 5, .int .u32 0, .bool false, .slice (some ⟨w.heap.size, 0, none⟩) 1 1, .int .u32 0] := by
  have := Blk.new (w.alloc (.cells #[.int .u32 2] 22)) 73 #[.int .u8 3, .int .u8 3, .int .u32 167772161, .int .u32 167772160, .int .u8 30, .int .u16 5, .int .u32 0, .bool false, .slice (some ⟨w.heap.size, 0, none⟩) 1 1, .int .u32 0]
  rwa [World.size_alloc] at this

set_option maxRecDepth 100000 in
set_option maxHeartbeats 1000000 in
theorem works22_any (w : World) : Calls Try.prog 11 #[] w fun e w' => e = .returned (.bool true) ∧ Below w.heap.size w w' := by
  go_enter Try.func11, Try.ntmps11
  go_wp2_with fail
  have hb := wp22_below w
  have hs := wp22_size w
  have hsl := port22_sl w
  have hbl := port22_blk w
  have HW : Hid ((w.alloc (.cells #[.int .u32 2] 22)).alloc (.cells #[.int .u8 3, .int .u8 3, .int .u32 167772161, .int .u32 167772160, .int .u8 30, .int .u16 5, .int .u32 0, .bool false, .slice (some ⟨w.heap.size, 0, none⟩) 1 1, .int .u32 0] 73) = wp22 w) := rfl
  rw [HW.out]
  generalize wp22 w = w1 at *
  refine Calls.mono (links_any (port22 w.heap.size) false w1 ⟨hsl.more (by omega), by simp [port22], by simp [port22], by simp [port22]⟩ (by simp [port22])) ?_
  rw [links22_eq]
  rintro e w2 ⟨v, rfl, ho, hB⟩
  obtain ⟨g, cap, rfl, _, _, hg, _, r0⟩ := own_row (k := 0) linkCells_len ho (by simp [links22])
  obtain ⟨g', cap', hv, _, _, _, _, r1⟩ := own_row (k := 1) linkCells_len ho (by simp [links22])
  simp only [Value.slice.injEq, Option.some.injEq, Addr.mk.injEq, and_true, true_and] at hv
  obtain ⟨rfl, rfl⟩ := hv
  have a0 : w2.cell? ⟨g, 0, none⟩ = some (.int .u32 2) := r0 0 _ rfl
  have a1 : w2.cell? ⟨g, 1, none⟩ = some (.int .u32 167772161) := r0 1 _ rfl
  have a2 : w2.cell? ⟨g, 2, none⟩ = some (.int .u8 1) := r0 2 _ rfl
  have a3 : w2.cell? ⟨g, 3, none⟩ = some (.int .u16 5) := r0 3 _ rfl
  have a6 : w2.cell? ⟨g, 6, none⟩ = some (.int .u8 3) := r1 2 _ rfl
  have hbl2 := hbl.below hB (by omega)
  have k0 := hbl2.cell 0
  have k1 := hbl2.cell 1
  have k2 := hbl2.cell 2
  have k3 := hbl2.cell 3
  have k4 := hbl2.cell 4
  have k5 := hbl2.cell 5
  have k6 := hbl2.cell 6
  have k7 := hbl2.cell 7
  have k8 := hbl2.cell 8
  have k9 := hbl2.cell 9
  have hlen : links22.length = 2 := rfl
  clear r0 r1
  go_wp2_with fail
  have hB3 : Below w2.heap.size w2 (w2.alloc (.cells #[.int .u8 3, .int .u8 3, .int .u32 167772161, .int .u32 167772160, .int .u8 30, .int .u16 5, .int .u32 0, .bool false, .slice (some ⟨w.heap.size, 0, none⟩) 1 1, .int .u32 0] 73)) := (Below.refl _ _).alloc (Nat.le_refl _) _
  have hl3 : Sl (w2.alloc (.cells #[.int .u8 3, .int .u8 3, .int .u32 167772161, .int .u32 167772160, .int .u8 30, .int .u16 5, .int .u32 0, .bool false, .slice (some ⟨w.heap.size, 0, none⟩) 1 1, .int .u32 0] 73)) (w2.heap.size + 1) 10 (.slice (some ⟨w2.heap.size, 0, none⟩) 1 1) [port22 w.heap.size].length ([port22 w.heap.size].flatMap portCells) := Sl.lit (s := 10) (n := 1) w2 #[.int .u8 3, .int .u8 3, .int .u32 167772161, .int .u32 167772160, .int .u8 30, .int .u16 5, .int .u32 0, .bool false, .slice (some ⟨w.heap.size, 0, none⟩) 1 1, .int .u32 0] 73 (by simp [maxLen]) rfl
  have hz3 : (w2.alloc (.cells #[.int .u8 3, .int .u8 3, .int .u32 167772161, .int .u32 167772160, .int .u8 30, .int .u16 5, .int .u32 0, .bool false, .slice (some ⟨w.heap.size, 0, none⟩) 1 1, .int .u32 0] 73)).heap.size = w2.heap.size + 1 := by simp
  have hb2 : Below w.heap.size w w2 := hb.trans (hB.mono (by omega))
  have hz2 := hB.size
  generalize (w2.alloc (.cells #[.int .u8 3, .int .u8 3, .int .u32 167772161, .int .u32 167772160, .int .u8 30, .int .u16 5, .int .u32 0, .bool false, .slice (some ⟨w.heap.size, 0, none⟩) 1 1, .int .u32 0] 73)) = w3 at *
  have hps : PortsAt w3 w3.heap.size (.slice (some ⟨w2.heap.size, 0, none⟩) 1 1) [port22 w.heap.size] := ⟨hl3.more (by omega), fun p hp => by
    rw [List.mem_singleton] at hp
    subst hp
    exact ⟨((hsl.below (hB.mono (by omega))).below (hB3.mono (by omega))).more (by omega), by simp [port22], by simp [port22], by simp [port22], by simp [port22]⟩⟩
  refine Calls.mono (router_any ⟨1, true, false, false, false, false⟩ _ [port22 w.heap.size] 2 w3 hps (by simp)) ?_
  rintro e w4 ⟨lv, rfl, ho4, hB4⟩
  rw [flags22]
  have hrl : routerL [port22 w.heap.size] false = links22 := rfl
  have ho4 : w4.ownsRow w3.heap.size 42 4 lv (routerL [port22 w.heap.size] false).length ((routerL [port22 w.heap.size] false).flatMap linkCells) := ho4
  rw [hrl, hlen] at ho4
  obtain ⟨_, A4, c4, rfl, _⟩ := Sl.of_own ho4
  have hB24 : Below w2.heap.size w2 w4 := hB3.trans (hB4.mono hB3.size)
  have n0 := (hB24.cell (p := ⟨g, 0, none⟩) hg).trans a0
  have n1 := (hB24.cell (p := ⟨g, 1, none⟩) hg).trans a1
  have n2 := (hB24.cell (p := ⟨g, 2, none⟩) hg).trans a2
  have n3 := (hB24.cell (p := ⟨g, 3, none⟩) hg).trans a3
  have n6 := (hB24.cell (p := ⟨g, 6, none⟩) hg).trans a6
  have hg4 : g < w4.heap.size := by have := hB24.size; omega
  have heq := fun W => eql_link (2, 167772161, 1, 5) (2, 167772161, 1, 5) W
  rw [decide_eq_true rfl] at heq
  have hbf : Below w.heap.size w w4 := hb2.trans (hB24.mono hb2.size)
  clear a0 a1 a2 a3 a6 k0 k1 k2 k3 k4 k5 k6 k7 k8 k9 hps ho4 ho hl3 hsl hbl hbl2
  go_wp2_with fail
  go_ret
  exact ⟨rfl, hbf.alloc hbf.size _⟩
end Go.Proofs.Ytdilbcmnfpmijaa
