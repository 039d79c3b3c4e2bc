/- cmp.Compare at uint32 and uint8, cmp.Or, and outer.Better of two ways. Conditions: none but that the operands are numbers. -/
import Derived.Test.YtiikagabdiphkaaGreatJoiA
import Derived.Test.YtiikagabdiphkaaGreatLib4
import Derived.StillTailTactics
namespace Go.Lo
open Go.RowKit

/-- the numbers of a way -/
structure WayN where
  addr : Int
  bits : Int
  router : Int
  flags : Int
  kind : Int
  area : Int
  cost : Int
  far : Int
  tag : Int
  deriving DecidableEq, Inhabited

abbrev wayC (x : WayN) (hv : Value) : Array Value := #[.int .u32 x.addr, .int .u8 x.bits, .int .u32 x.router, .int .u8 x.flags, .int .u8 x.kind, .int .u32 x.area, .int .u32 x.cost, .int .u32 x.far, .int .u32 x.tag, hv]

def cmpI (a b : Int) : Int := if a < b then -1 else if b < a then 1 else 0
def orI : List Int → Int
  | [] => 0
  | x :: r => if x = 0 then orI r else x
def betterP (a b : WayN) : Int := orI [cmpI a.kind b.kind, if a.kind = 4 then cmpI a.far b.far else 0, cmpI a.cost b.cost]

theorem orI_all : ∀ (l : List Int), (∀ i (h : i < l.length), l[i] = 0) → orI l = 0
  | [], _ => rfl
  | x :: r, h => by
    have h0 := h 0 (by simp)
    simp only [List.getElem_cons_zero] at h0
    unfold orI
    rw [if_pos h0]
    exact orI_all r fun i hi => by have := h (i + 1) (by simpa using hi); simpa using this
theorem orI_at : ∀ (l : List Int) (k : Nat) (hk : k < l.length), (∀ i (h : i < l.length), i < k → l[i] = 0) → l[k] ≠ 0 → orI l = l[k]
  | x :: r, 0, _, _, hx => by
    simp only [List.getElem_cons_zero] at hx ⊢
    unfold orI
    rw [if_neg hx]
  | x :: r, k + 1, hk, h, hx => by
    have h0 := h 0 (by simp) (by omega)
    simp only [List.getElem_cons_zero] at h0
    simp only [List.getElem_cons_succ] at hx ⊢
    unfold orI
    rw [if_pos h0]
    exact orI_at r k (by simpa using hk) (fun i hi hik => by have := h (i + 1) (by simpa using hi) (by omega); simpa using this) hx
end Go.Lo
namespace Go.Proofs.YtiikagabdiphkaaGreat
open Go.RowKit Go.Lo

theorem isNaN32_any (a : Int) (w : World) : Calls Tryz.prog 121 #[.int .u32 a] w fun e w' => e = .returned (.bool false) ∧ w' = w := by
  go_enter Tryz.func121, Tryz.ntmps121
  go_wp2
  go_ret
  exact ⟨by simp, rfl⟩
theorem isNaN8_any (a : Int) (w : World) : Calls Tryz.prog 122 #[.int .u8 a] w fun e w' => e = .returned (.bool false) ∧ w' = w := by
  go_enter Tryz.func122, Tryz.ntmps122
  go_wp2
  go_ret
  exact ⟨by simp, rfl⟩
theorem compare32_any (a b : Int) (w : World) : Calls Tryz.prog 79 #[.int .u32 a, .int .u32 b] w fun e w' => e = .returned (.int .i64 (cmpI a b)) ∧ w' = w := by
  unfold cmpI
  rcases Int.lt_trichotomy a b with h | h | h
  · rw [if_pos h]
    go_enter Tryz.func79, Tryz.ntmps79
    go_wp2_with (go_at_call 121; refine Calls.mono (isNaN32_any _ _) ?_; rintro e w1 ⟨rfl, rfl⟩)
    go_ret
    exact ⟨rfl, rfl⟩
  · have h1 : ¬ a < b := by omega
    have h2 : ¬ b < a := by omega
    rw [if_neg h1, if_neg h2]
    go_enter Tryz.func79, Tryz.ntmps79
    go_wp2_with (go_at_call 121; refine Calls.mono (isNaN32_any _ _) ?_; rintro e w1 ⟨rfl, rfl⟩)
    go_ret
    exact ⟨rfl, rfl⟩
  · have h1 : ¬ a < b := by omega
    rw [if_neg h1, if_pos h]
    go_enter Tryz.func79, Tryz.ntmps79
    go_wp2_with (go_at_call 121; refine Calls.mono (isNaN32_any _ _) ?_; rintro e w1 ⟨rfl, rfl⟩)
    go_ret
    exact ⟨rfl, rfl⟩
theorem compare8_any (a b : Int) (w : World) : Calls Tryz.prog 81 #[.int .u8 a, .int .u8 b] w fun e w' => e = .returned (.int .i64 (cmpI a b)) ∧ w' = w := by
  unfold cmpI
  rcases Int.lt_trichotomy a b with h | h | h
  · rw [if_pos h]
    go_enter Tryz.func81, Tryz.ntmps81
    go_wp2_with (go_at_call 122; refine Calls.mono (isNaN8_any _ _) ?_; rintro e w1 ⟨rfl, rfl⟩)
    go_ret
    exact ⟨rfl, rfl⟩
  · have h1 : ¬ a < b := by omega
    have h2 : ¬ b < a := by omega
    rw [if_neg h1, if_neg h2]
    go_enter Tryz.func81, Tryz.ntmps81
    go_wp2_with (go_at_call 122; refine Calls.mono (isNaN8_any _ _) ?_; rintro e w1 ⟨rfl, rfl⟩)
    go_ret
    exact ⟨rfl, rfl⟩
  · have h1 : ¬ a < b := by omega
    rw [if_neg h1, if_pos h]
    go_enter Tryz.func81, Tryz.ntmps81
    go_wp2_with (go_at_call 122; refine Calls.mono (isNaN8_any _ _) ?_; rintro e w1 ⟨rfl, rfl⟩)
    go_ret
    exact ⟨rfl, rfl⟩

set_option maxRecDepth 100000 in
theorem or_any (l : List Int) (b c : Nat) (w : World) (hn : l.length ≤ 1000) (hb : ∀ i (h : i < l.length), w.cell? ⟨b, i, none⟩ = some (.int .i64 l[i])) :
    Calls Tryz.prog 80 #[.slice (some ⟨b, 0, none⟩) l.length c] w fun e w' => e = .returned (.int .i64 (orI l)) ∧ w' = w := by
  replace hb := Lib.hid hb
  go_enter Tryz.func80, Tryz.ntmps80
  go_wp2_with fail
  go_loopg [8] l.length (fun m v wr => ∃ k : Nat, k ≤ l.length ∧ m = l.length - k ∧ v = .int .i64 k ∧ (∀ i (h : i < l.length), i < k → l[i] = 0) ∧ wr = w)
  case atStart => exact ⟨0, Nat.zero_le _, rfl, rfl, fun _ _ h => absurd h (by omega), rfl⟩
  case round =>
    obtain ⟨k, hk, rfl, rfl, hz, rfl⟩ := hrel
    replace hz := Lib.hid hz
    by_cases hkl : k < l.length
    · have ik : (k : Int) < (l.length : Int) := by omega
      have hc := hb.out k hkl
      obtain ⟨x, hx⟩ : ∃ x, x = l[k] := ⟨_, rfl⟩
      rw [← hx] at hc
      by_cases h0 : x = 0
      · subst h0
        replace hx := Lib.hid hx
        go_wp2
        go_roundg (l.length - (k + 1))
        case measure => omega
        case rel => exact ⟨k + 1, by omega, rfl, by go_num, fun i hi hik => by
                      by_cases e : i = k
                      · subst e; exact hx.out.symm
                      · exact hz.out i hi (by omega), rfl⟩
      · have h0' : (x == 0) = false := by simp [h0]
        have hr := orI_at l k hkl hz.out (by rw [← hx]; exact h0)
        rw [← hx] at hr
        replace hr := Lib.hid hr
        clear hx
        go_wp2
        go_ret
        exact ⟨by rw [hr.out]; rfl, rfl⟩
    · have ik : ¬ (k : Int) < (l.length : Int) := by omega
      have hr := orI_all l fun i hi => hz.out i hi (by omega)
      go_wp2
      go_ret
      exact ⟨rfl, rfl⟩

set_option maxRecDepth 100000 in
set_option maxHeartbeats 1000000 in
theorem better_any (x y : WayN) (xh yh : Value) (w : World) :
    Calls Tryz.prog 38 #[.agg (wayC x xh), .agg (wayC y yh)] w fun e w' => e = .returned (.int .i64 (betterP x y)) ∧ Below w.heap.size w w' := by
  obtain ⟨x0, x1, x2, x3, x4, x5, x6, x7, x8⟩ := x
  obtain ⟨y0, y1, y2, y3, y4, y5, y6, y7, y8⟩ := y
  have e : betterP ⟨x0, x1, x2, x3, x4, x5, x6, x7, x8⟩ ⟨y0, y1, y2, y3, y4, y5, y6, y7, y8⟩ = orI [cmpI x4 y4, if x4 = 4 then cmpI x7 y7 else 0, cmpI x6 y6] := rfl
  rw [e]
  clear e
  obtain ⟨f, hf⟩ : ∃ f : Int, f = (if x4 = 4 then cmpI x7 y7 else 0) := ⟨_, rfl⟩
  rw [← hf]
  replace hf := Lib.hid hf
  dsimp only [wayC]
  have k0 : Blk ((w.alloc (.cells #[.int .u32 x0, .int .u8 x1, .int .u32 x2, .int .u8 x3, .int .u8 x4, .int .u32 x5, .int .u32 x6, .int .u32 x7, .int .u32 x8, xh] 38)).alloc (.cells #[.int .u32 y0, .int .u8 y1, .int .u32 y2, .int .u8 y3, .int .u8 y4, .int .u32 y5, .int .u32 y6, .int .u32 y7, .int .u32 y8, yh] 38)) w.heap.size 38 #[.int .u32 x0, .int .u8 x1, .int .u32 x2, .int .u8 x3, .int .u8 x4, .int .u32 x5, .int .u32 x6, .int .u32 x7, .int .u32 x8, xh] := (Blk.new _ _ _).alloc _
  have k1 : Blk ((w.alloc (.cells #[.int .u32 x0, .int .u8 x1, .int .u32 x2, .int .u8 x3, .int .u8 x4, .int .u32 x5, .int .u32 x6, .int .u32 x7, .int .u32 x8, xh] 38)).alloc (.cells #[.int .u32 y0, .int .u8 y1, .int .u32 y2, .int .u8 y3, .int .u8 y4, .int .u32 y5, .int .u32 y6, .int .u32 y7, .int .u32 y8, yh] 38)) (w.heap.size + 1) 38 #[.int .u32 y0, .int .u8 y1, .int .u32 y2, .int .u8 y3, .int .u8 y4, .int .u32 y5, .int .u32 y6, .int .u32 y7, .int .u32 y8, yh] := heap_alloc2_new w _ _
  have kB : Below w.heap.size w ((w.alloc (.cells #[.int .u32 x0, .int .u8 x1, .int .u32 x2, .int .u8 x3, .int .u8 x4, .int .u32 x5, .int .u32 x6, .int .u32 x7, .int .u32 x8, xh] 38)).alloc (.cells #[.int .u32 y0, .int .u8 y1, .int .u32 y2, .int .u8 y3, .int .u8 y4, .int .u32 y5, .int .u32 y6, .int .u32 y7, .int .u32 y8, yh] 38)) := ((Below.refl _ _).alloc (Nat.le_refl _) _).alloc (by simp) _
  go_enter Tryz.func38, Tryz.ntmps38
  go_upto_region 2 with fail
  generalize (w.alloc (.cells #[.int .u32 x0, .int .u8 x1, .int .u32 x2, .int .u8 x3, .int .u8 x4, .int .u32 x5, .int .u32 x6, .int .u32 x7, .int .u32 x8, xh] 38)).alloc (.cells #[.int .u32 y0, .int .u8 y1, .int .u32 y2, .int .u8 y3, .int .u8 y4, .int .u32 y5, .int .u32 y6, .int .u32 y7, .int .u32 y8, yh] 38) = w1 at k0 k1 kB ⊢
  have c4 := k0.cell 4
  have c6 := k0.cell 6
  have c7 := k0.cell 7
  have d4 := k1.cell 4
  have d6 := k1.cell 6
  have d7 := k1.cell 7
  have hz := k1.lt
  simp only [List.getElem?_toArray, List.getElem?_cons_zero, List.getElem?_cons_succ] at c4 c6 c7 d4 d6 d7
  clear k0 k1
  have q4 : ∀ W, Below (w.heap.size + 1 + 1) w1 W → W.cell? ⟨w.heap.size, 4, none⟩ = some (.int .u8 x4) := fun W h => (h.cell (p := ⟨w.heap.size, 4, none⟩) (by show w.heap.size < w.heap.size + 1 + 1; omega)).trans c4
  have q6 : ∀ W, Below (w.heap.size + 1 + 1) w1 W → W.cell? ⟨w.heap.size, 6, none⟩ = some (.int .u32 x6) := fun W h => (h.cell (p := ⟨w.heap.size, 6, none⟩) (by show w.heap.size < w.heap.size + 1 + 1; omega)).trans c6
  have r4 : ∀ W, Below (w.heap.size + 1 + 1) w1 W → W.cell? ⟨w.heap.size + 1, 4, none⟩ = some (.int .u8 y4) := fun W h => (h.cell (p := ⟨w.heap.size + 1, 4, none⟩) (by show w.heap.size + 1 < w.heap.size + 1 + 1; omega)).trans d4
  have r6 : ∀ W, Below (w.heap.size + 1 + 1) w1 W → W.cell? ⟨w.heap.size + 1, 6, none⟩ = some (.int .u32 y6) := fun W h => (h.cell (p := ⟨w.heap.size + 1, 6, none⟩) (by show w.heap.size + 1 < w.heap.size + 1 + 1; omega)).trans d6
  go_upto_if 8 with fail
  go_cut [5] (fun v wx => v = .int .i64 f ∧ wx = w1)
  case first =>
    clear q4 q6 r4 r6
    by_cases h4 : x4 = 4
    · subst h4
      go_wp2_with (go_at_call 79; refine Calls.mono (compare32_any _ _ _) ?_; rintro e w2 ⟨rfl, rfl⟩)
      go_meet
      case rel => exact ⟨by rw [hf.out]; simp, rfl⟩
    · have h4' : (x4 == 4) = false := by simp [h4]
      go_wp2_with fail
      go_meet
      case rel => exact ⟨by rw [hf.out]; simp [h4], rfl⟩
  case rest =>
    obtain ⟨rfl, rfl⟩ := hcut
    clear c4 c6 c7 d4 d6 d7
    obtain ⟨w1, rfl⟩ : ∃ x : World, x = wc := ⟨_, rfl⟩
    have hle : w.heap.size + 1 + 1 ≤ w1.heap.size := by omega
    go_upto_region 4 with fail
    go_region_held3 (fun W => Below (w.heap.size + 1 + 1) w1 W) (first | assumption | exact (Below.refl _ _).drew | exact Below.refl _ _ | exact (below_alloc (Below.refl _ _) hle _).drew | fail)
      (first
        | (go_at_call 81; refine Calls.mono (compare8_any _ _ _) ?_; rintro e w2 ⟨rfl, rfl⟩)
        | (go_at_call 79; refine Calls.mono (compare32_any _ _ _) ?_; rintro e w3 ⟨rfl, rfl⟩)
        | (go_at_call 80; refine Calls.mono (or_any [cmpI x4 y4, f, cmpI x6 y6] _ 3 _ (by simp) (fun i hi => by simp only [List.length_cons, List.length_nil] at hi; show (w1.alloc _).cell? _ = _; rw [World.cell?_alloc_at _ _ _ _ rfl]; rcases (show i = 0 ∨ i = 1 ∨ i = 2 by omega) with rfl | rfl | rfl <;> rfl)) ?_; rintro e w4 ⟨rfl, rfl⟩)
        | fail)
    go_wp2
    go_ret
    exact ⟨rfl, kB.trans ((below_alloc (Below.refl _ _) (by omega) _).drew.mono (by omega))⟩
end Go.Proofs.YtiikagabdiphkaaGreat
