/- The document's Better, its Is and Before, and the guard of layer 20's laws. Conditions: the ways and their hops lie in memory. -/
import Derived.Test.YtiikagabdiphkaaGreatOutE
namespace Go.Proofs.YtiikagabdiphkaaGreat
open Go.RowKit Go.Lo

theorem rhopT : ElT Tryz.prog 39 46 3 12 := ⟨by kernel_rfl, by
  obtain ⟨i, hi, h1, h2, h3⟩ := info_parts (show (Tryz.prog.info? 46).map (fun i => (i.zero, i.size, i.bytes)) = some (some (.agg #[.int .u32 0, .int .u32 0, .bool false]), 3, 12) by kernel_rfl)
  exact ⟨i, _, hi, h1, h2, h3, rfl⟩, by omega⟩

set_option maxHeartbeats 400000 in
theorem refbefore_any (a b : Hop) (w : World) :
    Calls Tryz.prog 49 #[.agg #[.int .u32 a.1, .int .u32 a.2.1, .bool a.2.2], .agg #[.int .u32 b.1, .int .u32 b.2.1, .bool b.2.2]] w
      fun e w' => e = .returned (.bool (hopLt a b)) ∧ Below w.heap.size w w' := by
  obtain ⟨a1, a2, a3⟩ := a
  obtain ⟨b1, b2, b3⟩ := b
  go_enter Tryz.func49, Tryz.ntmps49
  go_wp2
  all_goals go_ret
  all_goals refine ⟨?_, ((Below.refl _ _).alloc (Nat.le_refl _) _).alloc (by simp) _⟩
  all_goals simp [hopLt, *]

theorem less_any (b : Bool) (w : World) : Calls Tryz.prog 82 #[.bool b] w fun e w' => e = .returned (.int .i64 (if b then -1 else 1)) ∧ w' = w := by
  cases b
  · go_enter Tryz.func82, Tryz.ntmps82
    go_wp2
    go_ret
    exact ⟨rfl, rfl⟩
  · go_enter Tryz.func82, Tryz.ntmps82
    go_wp2
    go_ret
    exact ⟨rfl, rfl⟩

theorem cmpI_ne {a b : Int} (h : a ≠ b) : (if decide (a < b) = true then (-1 : Int) else 1) = cmpI a b ∧ cmpI a b ≠ 0 := by
  unfold cmpI
  rcases Int.lt_trichotomy a b with h1 | h1 | h1
  · simp [h1]
  · exact absurd h1 h
  · have h2 : ¬ a < b := by omega
    simp [h1, h2]
theorem cmpI_self (a : Int) : cmpI a a = 0 := by
  unfold cmpI
  rw [if_neg (by omega), if_neg (by omega)]

set_option maxRecDepth 100000 in
set_option maxHeartbeats 1000000 in
theorem rbetter_any (x y : WayN) (xh yh : Value) (w : World) :
    Calls Tryz.prog 39 #[.agg (wayC x xh), .agg (wayC y yh)] w fun e w' => e = .returned (.int .i64 (betterP x y)) ∧ Below w.heap.size w w' := by
  obtain ⟨x0, x1, x2, x3, x4, x5, x6, x7, x8⟩ := x
  obtain ⟨y0, y1, y2, y3, y4, y5, y6, y7, y8⟩ := y
  have e : betterP ⟨x0, x1, x2, x3, x4, x5, x6, x7, x8⟩ ⟨y0, y1, y2, y3, y4, y5, y6, y7, y8⟩ = orI [cmpI x4 y4, if x4 = 4 then cmpI x7 y7 else 0, cmpI x6 y6] := rfl
  obtain ⟨r, hr⟩ : ∃ r, r = betterP ⟨x0, x1, x2, x3, x4, x5, x6, x7, x8⟩ ⟨y0, y1, y2, y3, y4, y5, y6, y7, y8⟩ := ⟨_, rfl⟩
  rw [← hr]
  rw [← hr] at e
  clear hr
  dsimp only [wayC]
  have k0 : Blk ((w.alloc (.cells #[.int .u32 x0, .int .u8 x1, .int .u32 x2, .int .u8 x3, .int .u8 x4, .int .u32 x5, .int .u32 x6, .int .u32 x7, .int .u32 x8, xh] 41)).alloc (.cells #[.int .u32 y0, .int .u8 y1, .int .u32 y2, .int .u8 y3, .int .u8 y4, .int .u32 y5, .int .u32 y6, .int .u32 y7, .int .u32 y8, yh] 41)) w.heap.size 41 #[.int .u32 x0, .int .u8 x1, .int .u32 x2, .int .u8 x3, .int .u8 x4, .int .u32 x5, .int .u32 x6, .int .u32 x7, .int .u32 x8, xh] := (Blk.new _ _ _).alloc _
  have k1 : Blk ((w.alloc (.cells #[.int .u32 x0, .int .u8 x1, .int .u32 x2, .int .u8 x3, .int .u8 x4, .int .u32 x5, .int .u32 x6, .int .u32 x7, .int .u32 x8, xh] 41)).alloc (.cells #[.int .u32 y0, .int .u8 y1, .int .u32 y2, .int .u8 y3, .int .u8 y4, .int .u32 y5, .int .u32 y6, .int .u32 y7, .int .u32 y8, yh] 41)) (w.heap.size + 1) 41 #[.int .u32 y0, .int .u8 y1, .int .u32 y2, .int .u8 y3, .int .u8 y4, .int .u32 y5, .int .u32 y6, .int .u32 y7, .int .u32 y8, yh] := heap_alloc2_new w _ _
  have kB : Below w.heap.size w ((w.alloc (.cells #[.int .u32 x0, .int .u8 x1, .int .u32 x2, .int .u8 x3, .int .u8 x4, .int .u32 x5, .int .u32 x6, .int .u32 x7, .int .u32 x8, xh] 41)).alloc (.cells #[.int .u32 y0, .int .u8 y1, .int .u32 y2, .int .u8 y3, .int .u8 y4, .int .u32 y5, .int .u32 y6, .int .u32 y7, .int .u32 y8, yh] 41)) := ((Below.refl _ _).alloc (Nat.le_refl _) _).alloc (by simp) _
  replace e := Lib.hid e
  go_enter Tryz.func39, Tryz.ntmps39
  go_upto_region 1 with fail
  generalize (w.alloc (.cells #[.int .u32 x0, .int .u8 x1, .int .u32 x2, .int .u8 x3, .int .u8 x4, .int .u32 x5, .int .u32 x6, .int .u32 x7, .int .u32 x8, xh] 41)).alloc (.cells #[.int .u32 y0, .int .u8 y1, .int .u32 y2, .int .u8 y3, .int .u8 y4, .int .u32 y5, .int .u32 y6, .int .u32 y7, .int .u32 y8, yh] 41) = w1 at k0 k1 kB ⊢
  have c4 := k0.cell 4
  have c6 := k0.cell 6
  have c7 := k0.cell 7
  have d4 := k1.cell 4
  have d6 := k1.cell 6
  have d7 := k1.cell 7
  simp only [List.getElem?_toArray, List.getElem?_cons_zero, List.getElem?_cons_succ] at c4 c6 c7 d4 d6 d7
  clear k0 k1
  by_cases h4 : x4 = y4
  · subst h4
    by_cases h7 : x4 = 4 ∧ x7 ≠ y7
    · obtain ⟨rfl, h7⟩ := h7
      have b7 : (x7 != y7) = true := by simp [h7]
      have hc := cmpI_ne h7
      have e' := e.out
      rw [cmpI_self, if_pos rfl] at e'
      simp only [orI, if_pos, if_neg hc.2] at e'
      rw [← hc.1] at e'
      replace e' := Lib.hid e'
      clear e hc
      go_wp2_with (go_at_call 82; refine Calls.mono (less_any _ _) ?_; rintro v w2 ⟨rfl, rfl⟩)
      all_goals go_ret
      all_goals exact ⟨by rw [e'.out]; simp [*], kB⟩
    · have hz : (if x4 = 4 then cmpI x7 y7 else 0) = 0 := by
        by_cases h : x4 = 4
        · rw [if_pos h]
          have : x7 = y7 := Decidable.byContradiction fun h2 => h7 ⟨h, h2⟩
          rw [this, cmpI_self]
        · exact if_neg h
      have g7 : ((x4 == 4) && (x7 != y7)) = false := by
        cases h : (x4 == 4) && (x7 != y7)
        · rfl
        · simp at h; exact absurd h h7
      by_cases h6 : x6 = y6
      · subst h6
        have e' := e.out
        rw [cmpI_self, hz, cmpI_self] at e'
        simp only [orI, if_pos] at e'
        replace e' := Lib.hid e'
        clear e hz
        by_cases hk : x4 = 4
        · have hx : x7 = y7 := Decidable.byContradiction fun h2 => h7 ⟨hk, h2⟩
          subst hk hx
          clear h7 g7
          go_wp2
          all_goals go_ret
          all_goals exact ⟨by rw [e'.out]; rfl, kB⟩
        · have hk' : (x4 == 4) = false := by simp [hk]
          clear h7 g7
          go_wp2
          all_goals go_ret
          all_goals exact ⟨by rw [e'.out]; rfl, kB⟩
      · have b6 : (x6 != y6) = true := by simp [h6]
        have hc := cmpI_ne h6
        have e' := e.out
        rw [cmpI_self, hz] at e'
        simp only [orI, if_pos, if_neg hc.2] at e'
        rw [← hc.1] at e'
        replace e' := Lib.hid e'
        clear e hz hc
        by_cases hk : x4 = 4
        · have hx : x7 = y7 := Decidable.byContradiction fun h2 => h7 ⟨hk, h2⟩
          subst hk hx
          clear h7 g7
          go_wp2_with (go_at_call 82; refine Calls.mono (less_any _ _) ?_; rintro v w2 ⟨rfl, rfl⟩)
          all_goals go_ret
          all_goals exact ⟨by rw [e'.out]; simp [*], kB⟩
        · have hk' : (x4 == 4) = false := by simp [hk]
          clear h7 g7
          go_wp2_with (go_at_call 82; refine Calls.mono (less_any _ _) ?_; rintro v w2 ⟨rfl, rfl⟩)
          all_goals go_ret
          all_goals exact ⟨by rw [e'.out]; simp [*], kB⟩
  · have b4 : (x4 != y4) = true := by simp [h4]
    have hc := cmpI_ne h4
    have e' := e.out
    simp only [orI, if_neg hc.2] at e'
    rw [← hc.1] at e'
    replace e' := Lib.hid e'
    clear e hc
    go_wp2_with (go_at_call 82; refine Calls.mono (less_any _ _) ?_; rintro v w2 ⟨rfl, rfl⟩)
    all_goals go_ret
    all_goals exact ⟨by rw [e'.out]; simp [*], kB⟩

theorem bit_any (a i : Int) (hi : 0 ≤ i ∧ i < 32) (w : World) : Calls Tryz.prog 90 #[.int .u32 a, .int .u8 i] w fun e w' => (∃ v, e = .returned (.int .u32 v)) ∧ w' = w := by
  have e1 : IntKind.u8.wrap (31 - i) = 31 - i := by show (31 - i) % 256 = _; omega
  go_enter Tryz.func90, Tryz.ntmps90
  go_wp2
  go_ret
  exact ⟨⟨_, rfl⟩, rfl⟩

/-- some answer, yes or no -/
def SomeBool (w : World) (e : Ending) (w' : World) : Prop := ∃ q : Bool, e = .returned (.bool q) ∧ Below w.heap.size w w'

set_option maxRecDepth 100000 in
theorem is_any (a b : Int) (hb : 0 ≤ b ∧ b < 256) (w : World) : Calls Tryz.prog 48 #[.agg #[.int .u32 a, .int .u8 b]] w (SomeBool w) := by
  have kB : Below w.heap.size w (w.alloc (.cells #[.int .u32 a, .int .u8 b] 35)) := (Below.refl _ _).alloc (Nat.le_refl _) _
  have k0 := Blk.new w 35 #[.int .u32 a, .int .u8 b]
  go_enter Tryz.func48, Tryz.ntmps48
  go_upto_region 1 with fail
  generalize w.alloc (.cells #[.int .u32 a, .int .u8 b] 35) = w1 at k0 kB ⊢
  have c0 := k0.cell 0
  have c1 := k0.cell 1
  simp only [List.getElem?_toArray, List.getElem?_cons_zero, List.getElem?_cons_succ] at c0 c1
  by_cases h : 32 < b
  · go_wp2
    go_ret
    exact ⟨_, rfl, kB⟩
  · go_wp2
    go_loopg [3] (32 - b).toNat (fun m v wr => ∃ i : Int, 0 ≤ i ∧ i ≤ 32 ∧ m = (32 - i).toNat ∧ v = .int .u8 i ∧ wr = w1)
    case atStart => exact ⟨b, hb.1, by omega, rfl, rfl, rfl⟩
    case round =>
      obtain ⟨i, hi0, hi1, rfl, rfl, rfl⟩ := hrel
      by_cases hi : i < 32
      · have e1 : IntKind.u8.wrap (i + 1) = i + 1 := by show (i + 1) % 256 = _; omega
        go_upto_if 17 with (go_at_call 90; refine Calls.mono (bit_any a i ⟨hi0, hi⟩ _) ?_; rintro e w2 ⟨⟨v, rfl⟩, rfl⟩)
        by_cases hv : v = 0
        · subst hv
          go_wp2
          go_roundg (32 - (i + 1)).toNat
          case measure => omega
          case rel => exact ⟨i + 1, by omega, by omega, rfl, rfl, rfl⟩
        · have hv' : (v != 0) = true := by simp [hv]
          go_wp2
          go_ret
          exact ⟨_, rfl, kB⟩
      · go_wp2
        go_ret
        exact ⟨_, rfl, kB⟩
end Go.Proofs.YtiikagabdiphkaaGreat
