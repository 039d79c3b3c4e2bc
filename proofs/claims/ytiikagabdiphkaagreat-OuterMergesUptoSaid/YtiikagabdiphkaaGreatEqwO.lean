/- layer 20's eqWay: two ways that are the same answer yes. Conditions: their hops lie in memory. -/
import Derived.Test.YtiikagabdiphkaaGreatWayO
import Derived.Test.YtiikagabdiphkaaGreatMrfA
namespace Go.Proofs.YtiikagabdiphkaaGreat
open Go.RowKit Go.Lo

theorem neq_hopO (h : Hop) (w : World) : (binOp .neq 47 (.agg #[.int .u32 h.1, .int .u32 h.2.1, .bool h.2.2]) (.agg #[.int .u32 h.1, .int .u32 h.2.1, .bool h.2.2])).run Tryz.prog w = .ok (.bool false) w := by
  rw [run_neq_struct, run_equalIn_agg _ _ _ _ _ (by kernel_rfl) (by kernel_rfl)]
  go_simp
theorem neq_preE (a b : Int) (w : World) : (binOp .neq 35 (.agg #[.int .u32 a, .int .u8 b]) (.agg #[.int .u32 a, .int .u8 b])).run Tryz.prog w = .ok (.bool false) w := by
  rw [run_neq_struct, run_equalIn_agg _ _ _ _ _ (by kernel_rfl) (by kernel_rfl)]
  go_simp

set_option maxRecDepth 100000 in
set_option maxHeartbeats 4000000 in
theorem eqWay20_any (n : WayN) (xA yA : Option Addr) (xc yc : Nat) (L : List Hop) (B : Nat) (w : World) (hx : Sl w B 3 (.slice xA L.length xc) L.length (L.flatMap hopCells)) (hy : Sl w B 3 (.slice yA L.length yc) L.length (L.flatMap hopCells)) (hB : B ≤ w.heap.size) (hL : L.length ≤ 2000000) :
    Calls Tryz.prog 83 #[.agg (wayC n (.slice xA L.length xc)), .agg (wayC n (.slice yA L.length yc))] w fun e w' => e = .returned (.bool true) ∧ Below w.heap.size w w' := by
  obtain ⟨x0, x1, x2, x3, x4, x5, x6, x7, x8⟩ := n
  dsimp only [wayC]
  have hmix : (Tryz.prog).follows .mixedOrders = true := by kernel_rfl
  have k0 : Blk ((w.alloc (.cells #[.int .u32 x0, .int .u8 x1, .int .u32 x2, .int .u8 x3, .int .u8 x4, .int .u32 x5, .int .u32 x6, .int .u32 x7, .int .u32 x8, .slice xA L.length xc] 38)).alloc (.cells #[.int .u32 x0, .int .u8 x1, .int .u32 x2, .int .u8 x3, .int .u8 x4, .int .u32 x5, .int .u32 x6, .int .u32 x7, .int .u32 x8, .slice yA L.length yc] 41)) w.heap.size 38 #[.int .u32 x0, .int .u8 x1, .int .u32 x2, .int .u8 x3, .int .u8 x4, .int .u32 x5, .int .u32 x6, .int .u32 x7, .int .u32 x8, .slice xA L.length xc] := (Blk.new _ _ _).alloc _
  have k1 : Blk ((w.alloc (.cells #[.int .u32 x0, .int .u8 x1, .int .u32 x2, .int .u8 x3, .int .u8 x4, .int .u32 x5, .int .u32 x6, .int .u32 x7, .int .u32 x8, .slice xA L.length xc] 38)).alloc (.cells #[.int .u32 x0, .int .u8 x1, .int .u32 x2, .int .u8 x3, .int .u8 x4, .int .u32 x5, .int .u32 x6, .int .u32 x7, .int .u32 x8, .slice yA L.length yc] 41)) (w.heap.size + 1) 41 #[.int .u32 x0, .int .u8 x1, .int .u32 x2, .int .u8 x3, .int .u8 x4, .int .u32 x5, .int .u32 x6, .int .u32 x7, .int .u32 x8, .slice yA L.length yc] := Blk.new_ _ (by simp)
  have hB0 : Below w.heap.size w ((w.alloc (.cells #[.int .u32 x0, .int .u8 x1, .int .u32 x2, .int .u8 x3, .int .u8 x4, .int .u32 x5, .int .u32 x6, .int .u32 x7, .int .u32 x8, .slice xA L.length xc] 38)).alloc (.cells #[.int .u32 x0, .int .u8 x1, .int .u32 x2, .int .u8 x3, .int .u8 x4, .int .u32 x5, .int .u32 x6, .int .u32 x7, .int .u32 x8, .slice yA L.length yc] 41)) := ((Below.refl _ _).alloc (Nat.le_refl _) _).alloc (by simp) _
  go_enter Tryz.func83, Tryz.ntmps83
  go_upto_region 1 with fail
  generalize ((w.alloc (.cells #[.int .u32 x0, .int .u8 x1, .int .u32 x2, .int .u8 x3, .int .u8 x4, .int .u32 x5, .int .u32 x6, .int .u32 x7, .int .u32 x8, .slice xA L.length xc] 38)).alloc (.cells #[.int .u32 x0, .int .u8 x1, .int .u32 x2, .int .u8 x3, .int .u8 x4, .int .u32 x5, .int .u32 x6, .int .u32 x7, .int .u32 x8, .slice yA L.length yc] 41)) = w1 at *
  have hz1 := k1.lt
  have CW := way20_any ⟨x0, x1, x2, x3, x4, x5, x6, x7, x8⟩ yA yc L B w1 (hy.keep fun p hp => hB0.cell (by omega)) (by omega) hL
  dsimp only [wayC] at CW
  replace CW := Lib.hid CW
  have k1h := Lib.hid k1
  go_upto_region 2 with (first
    | (refine wpList_load_row rfl 41 (.tmp 3) rfl (w.heap.size + 1) rfl 41 #[.int .u32 x0, .int .u8 x1, .int .u32 x2, .int .u8 x3, .int .u8 x4, .int .u32 x5, .int .u32 x6, .int .u32 x7, .int .u32 x8, .slice yA L.length yc] (0, 0) _ k1h.out Tryz.underlying41 rfl (by kernel_rfl) ?_)
    | (go_at_call 37; refine Calls.mono CW.out ?_; rintro e w2 ⟨zA, zc, rfl, hoz, hBz⟩)
    | (refine wpList_store_row rfl 38 (.tmp 5) (.tmp 8) rfl w2.heap.size #[.int .u32 x0, .int .u8 x1, .int .u32 x2, .int .u8 x3, .int .u8 x4, .int .u32 x5, .int .u32 x6, .int .u32 x7, .int .u32 x8, .slice zA L.length zc] rfl rfl 38 #[.int .u32 0, .int .u8 0, .int .u32 0, .int .u8 0, .int .u8 0, .int .u32 0, .int .u32 0, .int .u32 0, .int .u32 0, .slice none 0 0] (Blk.new w2 38 #[.int .u32 0, .int .u8 0, .int .u32 0, .int .u8 0, .int .u8 0, .int .u32 0, .int .u32 0, .int .u32 0, .int .u32 0, .slice none 0 0]) (by kernel_rfl) rfl (by simp [Value.oneCell']) ?_)
    | fail)
  have kb := Blk.new w2 38 #[.int .u32 0, .int .u8 0, .int .u32 0, .int .u8 0, .int .u8 0, .int .u32 0, .int .u32 0, .int .u32 0, .int .u32 0, .slice none 0 0]
  have K2 : Blk ((w2.alloc (.cells #[.int .u32 0, .int .u8 0, .int .u32 0, .int .u8 0, .int .u8 0, .int .u32 0, .int .u32 0, .int .u32 0, .int .u32 0, .slice none 0 0] 38)).setRow w2.heap.size #[.int .u32 x0, .int .u8 x1, .int .u32 x2, .int .u8 x3, .int .u8 x4, .int .u32 x5, .int .u32 x6, .int .u32 x7, .int .u32 x8, .slice zA L.length zc]) w2.heap.size 38 #[.int .u32 x0, .int .u8 x1, .int .u32 x2, .int .u8 x3, .int .u8 x4, .int .u32 x5, .int .u32 x6, .int .u32 x7, .int .u32 x8, .slice zA L.length zc] := setRow_heap _ _ _ _ _ _ kb
  have hB2 : Below w2.heap.size w2 ((w2.alloc (.cells #[.int .u32 0, .int .u8 0, .int .u32 0, .int .u8 0, .int .u8 0, .int .u32 0, .int .u32 0, .int .u32 0, .int .u32 0, .slice none 0 0] 38)).setRow w2.heap.size #[.int .u32 x0, .int .u8 x1, .int .u32 x2, .int .u8 x3, .int .u8 x4, .int .u32 x5, .int .u32 x6, .int .u32 x7, .int .u32 x8, .slice zA L.length zc]) := ((Below.refl _ _).alloc (Nat.le_refl _) _).trans (below_of_grown (grown_setRow _ w2.heap.size #[.int .u32 x0, .int .u8 x1, .int .u32 x2, .int .u8 x3, .int .u8 x4, .int .u32 x5, .int .u32 x6, .int .u32 x7, .int .u32 x8, .slice zA L.length zc]) (by simp) (fun g hg => by simp only [Option.some.injEq] at hg; omega))
  generalize (w2.alloc (.cells #[.int .u32 0, .int .u8 0, .int .u32 0, .int .u8 0, .int .u8 0, .int .u32 0, .int .u32 0, .int .u32 0, .int .u32 0, .slice none 0 0] 38)).setRow w2.heap.size #[.int .u32 x0, .int .u8 x1, .int .u32 x2, .int .u8 x3, .int .u8 x4, .int .u32 x5, .int .u32 x6, .int .u32 x7, .int .u32 x8, .slice zA L.length zc] = w3 at *
  have hz2 := hBz.size
  have hB3 : Below w.heap.size w w3 := hB0.trans ((hBz.mono (by omega)).trans (hB2.mono (by omega)))
  have K0 : Blk w3 w.heap.size 38 #[.int .u32 x0, .int .u8 x1, .int .u32 x2, .int .u8 x3, .int .u8 x4, .int .u32 x5, .int .u32 x6, .int .u32 x7, .int .u32 x8, .slice xA L.length xc] := (k0.below hBz k0.lt).below hB2 (by have := k0.lt; omega)
  have hxw := hx.keep (w' := w3) fun p hp => hB3.cell (by omega)
  have hzw := Sl.of_own (own_below hoz hB2)
  have hz3 := K2.lt
  obtain ⟨b2, hb2⟩ : ∃ b, b = w2.heap.size := ⟨_, rfl⟩
  rw [← hb2] at K2 ⊢
  replace hb2 := Lib.hid hb2
  clear k0 k1 k1h hB0 CW hoz hBz hB2 kb hx hy
  have f0 := K0.cell 0
  have f1 := K0.cell 1
  have f2 := K0.cell 2
  have f3 := K0.cell 3
  have f4 := K0.cell 4
  have f5 := K0.cell 5
  have f6 := K0.cell 6
  have f7 := K0.cell 7
  have f8 := K0.cell 8
  have f9 := K0.cell 9
  simp only [List.getElem?_toArray, List.getElem?_cons_zero, List.getElem?_cons_succ] at f0 f1 f2 f3 f4 f5 f6 f7 f8 f9
  have g0 := K2.cell 0
  have g1 := K2.cell 1
  have g2 := K2.cell 2
  have g3 := K2.cell 3
  have g4 := K2.cell 4
  have g5 := K2.cell 5
  have g6 := K2.cell 6
  have g7 := K2.cell 7
  have g8 := K2.cell 8
  have g9 := K2.cell 9
  simp only [List.getElem?_toArray, List.getElem?_cons_zero, List.getElem?_cons_succ] at g0 g1 g2 g3 g4 g5 g6 g7 g8 g9
  have heqp := fun W => neq_preE x0 x1 W
  replace hB3 := Lib.hid hB3
  replace K0 := Lib.hid K0
  replace K2 := Lib.hid K2
  go_wp2_with fail
  go_loopg [6] L.length (fun c iv wr => ∃ k : Nat, k ≤ L.length ∧ c = L.length - k ∧ iv = .int .i64 k ∧ Below w3.heap.size w3 wr)
  case atStart => exact ⟨0, Nat.zero_le _, rfl, rfl, Below.refl _ _⟩
  case round =>
    clear f0 g0 f1 g1 f2 g2 f3 g3 f4 g4 f5 g5 f6 g6 f7 g7 f8 g8 f9 g9
    obtain ⟨k, hk, rfl, rfl, hBr⟩ := hrel
    obtain ⟨w4, rfl⟩ : ∃ x : World, x = wr := ⟨_, rfl⟩
    have q9 := (K0.out.below hBr K0.out.lt).cell 9
    have r9 := (K2.out.below hBr K2.out.lt).cell 9
    simp only [List.getElem?_toArray, List.getElem?_cons_zero, List.getElem?_cons_succ] at q9 r9
    by_cases hkl : k < L.length
    · obtain ⟨bx, ox, rfl, hbx, hrx⟩ := Sl.row hopCells_len hxw hkl
      obtain ⟨bz, oz, rfl, hbz, hrz⟩ := Sl.row hopCells_len hzw hkl
      have ik : (k : Int) < (L.length : Int) := by omega
      obtain ⟨h, hh⟩ : ∃ h, h = L[k] := ⟨_, rfl⟩
      rw [← hh] at hrx hrz
      clear hh
      have hbx3 : bx < w3.heap.size := by have := hB3.out.size; omega
      have t0 : w4.cell? ⟨bx, ox + k * 3, none⟩ = some (.int .u32 h.1) := (hBr.cell (p := ⟨bx, ox + k * 3, none⟩) hbx3).trans (hrx 0 _ rfl)
      have t1 : w4.cell? ⟨bx, ox + k * 3 + 1, none⟩ = some (.int .u32 h.2.1) := (hBr.cell (p := ⟨bx, ox + k * 3 + 1, none⟩) hbx3).trans (hrx 1 _ rfl)
      have t2 : w4.cell? ⟨bx, ox + k * 3 + 2, none⟩ = some (.bool h.2.2) := (hBr.cell (p := ⟨bx, ox + k * 3 + 2, none⟩) hbx3).trans (hrx 2 _ rfl)
      have s0 : w4.cell? ⟨bz, oz + k * 3, none⟩ = some (.int .u32 h.1) := (hBr.cell (p := ⟨bz, oz + k * 3, none⟩) hbz).trans (hrz 0 _ rfl)
      have s1 : w4.cell? ⟨bz, oz + k * 3 + 1, none⟩ = some (.int .u32 h.2.1) := (hBr.cell (p := ⟨bz, oz + k * 3 + 1, none⟩) hbz).trans (hrz 1 _ rfl)
      have s2 : w4.cell? ⟨bz, oz + k * 3 + 2, none⟩ = some (.bool h.2.2) := (hBr.cell (p := ⟨bz, oz + k * 3 + 2, none⟩) hbz).trans (hrz 2 _ rfl)
      have hnh := fun W => neq_hopO h W
      clear hrx hrz hxw hzw
      go_upto_region 7 with fail
      go_quiet (fail)
      go_wp2_with fail
      go_roundg (L.length - (k + 1))
      case measure => omega
      case rel => exact ⟨k + 1, by omega, rfl, by go_num, below_drewN hBr nq⟩
    · have ik : ¬ (k : Int) < (L.length : Int) := by omega
      clear hxw hzw
      go_wp2_with fail
      go_ret
      exact ⟨rfl, hB3.out.trans (hBr.mono hB3.out.size)⟩
end Go.Proofs.YtiikagabdiphkaaGreat
