/- The guard of layer 20's laws: what it says where it answers no. Conditions: the ways and their hops lie in memory. -/
import Derived.Test.YtiikagabdiphkaaGreatMie
namespace Go.Proofs.YtiikagabdiphkaaGreat
open Go.RowKit Go.Lo

set_option maxRecDepth 100000 in
set_option maxHeartbeats 1000000 in
theorem big20_any (l : List WayV) (lv : Value) (B : Nat) (w : World) (hl : Sl w B 10 lv l.length (l.flatMap wayL)) (hB : B ≤ w.heap.size) (hn : l.length ≤ 2000000)
    (hx : ∀ x ∈ l, (0 ≤ x.n.bits ∧ x.n.bits < 256) ∧ ∃ hops : List Hop, hops.length ≤ 2000000 ∧ Sl w B 3 (.slice x.A x.len x.cap) hops.length (hops.flatMap hopCells)) :
    Calls Tryz.prog 35 #[lv] w (BigP l w) := by
  have hl0 := hl
  obtain ⟨-, A, c, rfl, -⟩ := hl
  replace hx := Lib.hid hx
  go_enter Tryz.func35, Tryz.ntmps35
  go_wp2_with fail
  go_loopg [3, 4] l.length (fun m v i wr => ∃ (k : Nat) (nn : Int), k ≤ l.length ∧ m = l.length - k ∧ v = .int .i64 nn ∧ nn = lenSum (l.take k) ∧ 0 ≤ nn ∧ nn ≤ 2000000 * (k : Int) ∧ i = .int .i64 k ∧ Below w.heap.size w wr)
  case atStart => exact ⟨0, 0, Nat.zero_le _, rfl, rfl, rfl, by omega, by omega, rfl, Below.refl _ _⟩
  case round =>
    obtain ⟨k, nn, hk, rfl, rfl, hns, hnn, hnn2, rfl, hBr⟩ := hrel
    obtain ⟨w1, rfl⟩ : ∃ x : World, x = wr := ⟨_, rfl⟩
    have hz := hBr.size
    replace hns := Lib.hid hns
    by_cases hkl : k < l.length
    · obtain ⟨b, off, rfl, hb, hrow⟩ := Sl.row wayL_len hl0 hkl
      obtain ⟨hbits, hops, hhn, hsl⟩ := hx.out l[k] (List.getElem_mem hkl)
      have htk : lenSum (l.take (k + 1)) = lenSum (l.take k) + (l[k].len : Int) := by rw [List.take_succ_eq_append_getElem hkl, lenSum_snoc]
      obtain ⟨x, hxx⟩ : ∃ x, x = l[k] := ⟨_, rfl⟩
      rw [← hxx] at hrow hbits hsl htk
      clear hxx
      obtain ⟨⟨x0, x1, x2, x3, x4, x5, x6, x7, x8⟩, xA, xn, xc⟩ := x
      obtain rfl : xn = hops.length := by
        obtain ⟨-, A8, c8, h8, -⟩ := hsl
        injection h8
      dsimp only at hbits hsl htk
      replace htk := Lib.hid htk
      have hbw : b < w.heap.size := by omega
      have r0 : ∀ W, Below w.heap.size w W → W.cell? ⟨b, off + k * 10, none⟩ = some (.int .u32 x0) := fun W h => (h.cell (p := ⟨b, off + k * 10, none⟩) hbw).trans (hrow 0 _ rfl)
      have r1 : ∀ W, Below w.heap.size w W → W.cell? ⟨b, off + k * 10 + 1, none⟩ = some (.int .u8 x1) := fun W h => (h.cell (p := ⟨b, off + k * 10 + 1, none⟩) hbw).trans (hrow 1 _ rfl)
      have r2 : ∀ W, Below w.heap.size w W → W.cell? ⟨b, off + k * 10 + 2, none⟩ = some (.int .u32 x2) := fun W h => (h.cell (p := ⟨b, off + k * 10 + 2, none⟩) hbw).trans (hrow 2 _ rfl)
      have r9 : ∀ W, Below w.heap.size w W → W.cell? ⟨b, off + k * 10 + 9, none⟩ = some (.slice xA hops.length xc) := fun W h => (h.cell (p := ⟨b, off + k * 10 + 9, none⟩) hbw).trans (hrow 9 _ rfl)
      have R9 := Lib.hid r9
      have q0 := r0 w1 hBr
      have q1 := r1 w1 hBr
      have q2 := r2 w1 hBr
      have q9 := r9 w1 hBr
      have ik : (k : Int) < (l.length : Int) := by omega
      have iw : IntKind.i64.wrap (nn + (hops.length : Int)) = nn + (hops.length : Int) := IntWalk.i64_in _ (by omega)
      have CI := Lib.hid (is_any x0 x1 hbits w1)
      have hneq := neq_pre0 x0 x1
      clear r0 r1 r2 r9 hrow
      go_upto_region 6 with fail
      go_cut [43] (fun v wx => CondB w v wx)
      case first =>
        obtain ⟨z, hz0⟩ : ∃ z, z = !(decide (x0 = 0) && decide (x1 = 0)) := ⟨_, rfl⟩
        rw [← hz0] at hneq
        clear hz0 q9 iw R9
        cases z <;> by_cases hx2 : x2 = 0
        all_goals
          first | subst hx2 | (have hx2' : (x2 != 0) = true := by simp [hx2])
          go_wp2_with (go_at_call 48; refine Calls.mono CI.out ?_; rintro e w2 ⟨q, rfl, hB2⟩; have qq0 := (hB2.cell (p := ⟨b, off + k * 10, none⟩) (by show b < _; omega)).trans q0; have qq1 := (hB2.cell (p := ⟨b, off + k * 10 + 1, none⟩) (by show b < _; omega)).trans q1; have qq2 := (hB2.cell (p := ⟨b, off + k * 10 + 2, none⟩) (by show b < _; omega)).trans q2)
          all_goals go_meet
          all_goals exact ⟨_, rfl, hBr.trans (hB2.mono hz)⟩
      case rest =>
        clear q0 q1 q2 q9 hneq CI
        obtain ⟨q, rfl, hBc⟩ := hcut
        cases q
        · have hzc := hBc.size
          go_wp2_with fail
          go_loopg [5] (hops.length - 1) (fun m v wx => ∃ j : Nat, m = hops.length - (j + 1) ∧ v = .int .i64 ((j : Int) + 1) ∧ Below w.heap.size w wx)
          case atStart => exact ⟨0, rfl, rfl, hBc⟩
          case round =>
            clear hBc hzc
            obtain ⟨j, rfl, rfl, hBx⟩ := hrel
            obtain ⟨w3, rfl⟩ : ∃ x : World, x = wr := ⟨_, rfl⟩
            have q9 := R9.out w3 hBx
            have hz3 := hBx.size
            by_cases hj : j + 1 < hops.length
            · obtain ⟨bh, oh, hA, hbh, hrh⟩ := Sl.row hopCells_len hsl hj
              obtain ⟨b2, o2, hA2, -, hr2⟩ := Sl.row hopCells_len hsl (show j < hops.length by omega)
              rw [hA] at hA2
              simp only [Option.some.injEq, Addr.mk.injEq, and_true] at hA2
              obtain ⟨rfl, rfl⟩ := hA2
              subst hA
              obtain ⟨a, ha⟩ : ∃ a, a = hops[j] := ⟨_, rfl⟩
              obtain ⟨d, hd⟩ : ∃ d, d = hops[j + 1] := ⟨_, rfl⟩
              rw [← ha] at hr2
              rw [← hd] at hrh
              clear ha hd
              have hbhw : bh < w.heap.size := by omega
              have C := Lib.hid (fun W => refbefore_any a d W)
              have h9 := R9.out
              have e0 : ∀ W, Below w.heap.size w W → W.cell? ⟨bh, oh + j * 3, none⟩ = some (.int .u32 a.1) := fun W h => (h.cell (p := ⟨bh, oh + j * 3, none⟩) hbhw).trans (hr2 0 _ rfl)
              have e1 : ∀ W, Below w.heap.size w W → W.cell? ⟨bh, oh + j * 3 + 1, none⟩ = some (.int .u32 a.2.1) := fun W h => (h.cell (p := ⟨bh, oh + j * 3 + 1, none⟩) hbhw).trans (hr2 1 _ rfl)
              have e2 : ∀ W, Below w.heap.size w W → W.cell? ⟨bh, oh + j * 3 + 2, none⟩ = some (.bool a.2.2) := fun W h => (h.cell (p := ⟨bh, oh + j * 3 + 2, none⟩) hbhw).trans (hr2 2 _ rfl)
              have f0 : ∀ W, Below w.heap.size w W → W.cell? ⟨bh, oh + (j + 1) * 3, none⟩ = some (.int .u32 d.1) := fun W h => (h.cell (p := ⟨bh, oh + (j + 1) * 3, none⟩) hbhw).trans (hrh 0 _ rfl)
              have f1 : ∀ W, Below w.heap.size w W → W.cell? ⟨bh, oh + (j + 1) * 3 + 1, none⟩ = some (.int .u32 d.2.1) := fun W h => (h.cell (p := ⟨bh, oh + (j + 1) * 3 + 1, none⟩) hbhw).trans (hrh 1 _ rfl)
              have f2 : ∀ W, Below w.heap.size w W → W.cell? ⟨bh, oh + (j + 1) * 3 + 2, none⟩ = some (.bool d.2.2) := fun W h => (h.cell (p := ⟨bh, oh + (j + 1) * 3 + 2, none⟩) hbhw).trans (hrh 2 _ rfl)
              have iwj : IntKind.i64.wrap (j : Int) = (j : Int) := IntWalk.i64_in _ (by omega)
              have i1 : (j : Int) + 1 < (hops.length : Int) := by omega
              have i2 : (0 : Int) ≤ (j : Int) + 1 := by omega
              have i3 : (j : Int) < (hops.length : Int) := by omega
              clear hrh hr2
              obtain ⟨r, hr⟩ : ∃ r, r = hopLt a d := ⟨_, rfl⟩
              rw [← hr] at C
              clear hr
              go_upto_region 11 with fail
              clear q9
              go_region_held3 (fun W => Below w.heap.size w W) (first | assumption | exact hBx.drew | fail)
                (first
                  | (go_at_call 49; with_reducible refine Calls.mono (C.out _) ?_; rintro e w4 ⟨rfl, hB4⟩; have hS4 := below_call (B := w.heap.size) (a := w) (by first | assumption | exact hBx.drew) hB4 (Nat.le_refl _))
                  | fail)
              clear e0 e1 e2 f0 f1 f2 h9
              cases r
              · go_wp2
                go_ret
                exact ⟨true, rfl, fun h => (by cases h), hS4⟩
              · go_wp2
                go_roundg (hops.length - (j + 1 + 1))
                case measure => omega
                case rel => exact ⟨j + 1, rfl, by go_num, hS4⟩
            · have i1 : ¬ (j : Int) + 1 < (hops.length : Int) := by omega
              go_wp2
              go_roundg (l.length - (k + 1))
              case measure => omega
              case rel => exact ⟨k + 1, nn + (hops.length : Int), by omega, rfl, rfl, by rw [htk.out, ← hns.out], by omega, by omega, by go_num, hBx⟩
        · go_wp2
          go_ret
          exact ⟨true, rfl, fun h => (by cases h), hBc⟩
    · obtain rfl : k = l.length := by omega
      have hns2 := hns.out
      rw [List.take_length] at hns2
      have hle := lenSum_le l
      by_cases h60 : 60 < l.length
      · have h60' : (60 : Int) < (l.length : Int) := by omega
        go_wp2
        go_ret
        exact ⟨true, rfl, fun h => (by cases h), hBr⟩
      · have h60' : ¬ (60 : Int) < (l.length : Int) := by omega
        go_wp2
        go_ret
        refine ⟨decide (400 < lenSum l), rfl, fun h => ?_, hBr⟩
        have h4 := of_decide_eq_false h
        exact ⟨by omega, fun x hx => by have := hle.2 x hx; omega⟩
end Go.Proofs.YtiikagabdiphkaaGreat
