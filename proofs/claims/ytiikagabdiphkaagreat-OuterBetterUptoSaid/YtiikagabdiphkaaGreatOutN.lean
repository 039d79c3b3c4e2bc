/- lodestarlaw20's OuterBetter answers true. Conditions: the ways' hops lie in memory, the numbers are of their kinds. -/
import Derived.Test.YtiikagabdiphkaaGreatOutJ
import Derived.Test.YtiikagabdiphkaaGreatOutL
import Derived.Test.YtiikagabdiphkaaGreatOutM
import Derived.Test.YtiikagabdiphkaaGreatRegI
namespace Go.Proofs.YtiikagabdiphkaaGreat
open Go.RowKit Go.Lo

theorem betterP_le (a b : WayN) : betterP a b ≤ 0 ↔ (a.kind < b.kind ∨ a.kind = b.kind ∧ (a.kind = 4 ∧ (a.far < b.far ∨ a.far = b.far ∧ a.cost ≤ b.cost) ∨ a.kind ≠ 4 ∧ a.cost ≤ b.cost)) := by
  unfold betterP
  simp only [orI, cmpI]
  repeat' split
  all_goals omega
theorem cmpI_swap (a b : Int) : cmpI b a = - cmpI a b := by
  unfold cmpI
  split <;> split <;> first | omega | (split <;> omega)
theorem orI_neg (x y z : Int) : orI [-x, -y, -z] = - orI [x, y, z] := by
  simp only [orI]
  by_cases h1 : x = 0 <;> by_cases h2 : y = 0 <;> by_cases h3 : z = 0 <;> simp [h1, h2, h3]
theorem cmpI_zero {a b : Int} (h : cmpI a b = 0) : a = b := by
  unfold cmpI at h
  split at h
  · omega
  · split at h <;> omega
theorem betterP_swap (a b : WayN) : betterP b a = - betterP a b := by
  unfold betterP
  rw [← orI_neg, ← cmpI_swap a.kind b.kind, ← cmpI_swap a.cost b.cost]
  by_cases h : cmpI b.kind a.kind = 0
  · rw [cmpI_zero h]
    by_cases h4 : a.kind = 4
    · rw [if_pos h4, if_pos h4, ← cmpI_swap a.far b.far]
    · rw [if_neg h4, if_neg h4]
      rfl
  · simp only [orI, if_neg h]
theorem betterP_self (a : WayN) : betterP a a = 0 := by
  have h := betterP_swap a a
  omega
theorem betterP_range (a b : WayN) : -1 ≤ betterP a b ∧ betterP a b ≤ 1 := by
  unfold betterP
  simp only [orI, cmpI]
  repeat' split
  all_goals omega
theorem betterP_trans (a b c : WayN) (h1 : betterP a b ≤ 0) (h2 : betterP b c ≤ 0) : ¬ 0 < betterP a c := by
  rw [betterP_le] at h1 h2
  have := (betterP_le a c).2 (by omega)
  omega

/-- one of the three ways that are made side by side: loaded, called, made room for, stored -/
def JobI (B : Nat) (X : Array Value) (n : WayN) (k : Nat) (w : World) (bl bc ba bs : Bool) (tl tc tp : Value) : Prop :=
  (bl = true → tl = .agg X) ∧ (bc = true → ∃ A c, tc = .agg (wayC n (.slice A k c))) ∧ (ba = true → ∃ g cs, tp = .pointer (some ⟨g, 0, none⟩) ∧ B ≤ g ∧ Blk w g 38 cs ∧ cs.size = 10 ∧ (bs = true → ∃ A c, cs = wayC n (.slice A k c))) ∧ (bs = true → ba = true)
section
variable {B k g : Nat} {X : Array Value} {n : WayN} {w w' : World} {bl bc ba bs : Bool} {tl tc tp : Value}
theorem JobI.load (h : JobI B X n k w bl bc ba bs tl tc tp) : JobI B X n k w true bc ba bs (.agg X) tc tp := ⟨fun _ => rfl, h.2.1, h.2.2.1, h.2.2.2⟩
theorem JobI.call (h : JobI B X n k w bl bc ba bs tl tc tp) (A : Option Addr) (c : Nat) : JobI B X n k w bl true ba bs tl (.agg (wayC n (.slice A k c))) tp := ⟨h.1, fun _ => ⟨A, c, rfl⟩, h.2.2.1, h.2.2.2⟩
theorem JobI.move (h : JobI B X n k w bl bc ba bs tl tc tp) (hw : Below w.heap.size w w') : JobI B X n k w' bl bc ba bs tl tc tp :=
  ⟨h.1, h.2.1, fun hb => by
    obtain ⟨g, cs, h1, h2, h3, h4, h5⟩ := h.2.2.1 hb
    exact ⟨g, cs, h1, h2, Blk.call hw h3, h4, h5⟩, h.2.2.2⟩
theorem JobI.far (h : JobI B X n k w bl bc ba bs tl tc tp) {cs : Array Value} (hne : ba = true → tp ≠ .pointer (some ⟨g, 0, none⟩)) : JobI B X n k (w.setRow g cs) bl bc ba bs tl tc tp :=
  ⟨h.1, h.2.1, fun hb => by
    obtain ⟨g', cs', h1, h2, h3, h4, h5⟩ := h.2.2.1 hb
    exact ⟨g', cs', h1, h2, blk_setRow_far h3 (fun e => hne hb (by rw [h1, e])), h4, h5⟩, h.2.2.2⟩
theorem JobI.fresh (h : JobI B X n k w bl bc ba bs tl tc tp) (hb : ba = true) : tp ≠ .pointer (some ⟨w.heap.size, 0, none⟩) := by
  obtain ⟨g, cs, h1, h2, h3, h4, h5⟩ := h.2.2.1 hb
  intro e
  rw [h1] at e
  simp only [Value.pointer.injEq, Option.some.injEq, Addr.mk.injEq, and_true] at e
  have := h3.lt
  omega
theorem JobI.alloc9 (h : JobI B X n k w bl bc ba bs tl tc tp) (hba : ba = false) (hB : B ≤ w.heap.size) (cs : Array Value) (hc : cs.size = 10) : JobI B X n k (w.alloc (.cells cs 38)) bl bc true bs tl tc (.pointer (some ⟨w.heap.size, 0, none⟩)) :=
  ⟨h.1, h.2.1, fun _ => ⟨w.heap.size, cs, rfl, hB, Blk.new _ _ _, hc, fun e => by have := h.2.2.2 e; rw [hba] at this; cases this⟩, fun _ => rfl⟩
theorem JobI.stored (h : JobI B X n k w bl bc ba bs tl tc (.pointer (some ⟨g, 0, none⟩))) (_hb : ba = true) {cs : Array Value} (kg : Blk w g 38 cs) (hg : B ≤ g) (A : Option Addr) (c : Nat) : JobI B X n k (w.setRow g (wayC n (.slice A k c))) bl bc ba true tl tc (.pointer (some ⟨g, 0, none⟩)) :=
  ⟨h.1, h.2.1, fun _ => ⟨g, _, rfl, hg, blk_setRow kg, rfl, fun _ => ⟨A, c, rfl⟩⟩, fun _ => _hb⟩
end

/-- what the three lines leave -/
def ThreeR (w : World) (B : Nat) (a b c : WayN) (ka kb kc : Nat) (v7 v8 v9 : Value) (wx : World) : Prop :=
  ∃ g1 g2 g3 A1 A2 A3 e1 e2 e3, v7 = .pointer (some ⟨g1, 0, none⟩) ∧ v8 = .pointer (some ⟨g2, 0, none⟩) ∧ v9 = .pointer (some ⟨g3, 0, none⟩) ∧ Blk wx g1 38 (wayC a (.slice A1 ka e1)) ∧ Blk wx g2 38 (wayC b (.slice A2 kb e2)) ∧ Blk wx g3 38 (wayC c (.slice A3 kc e3)) ∧ Below B w wx

set_option maxRecDepth 100000 in
set_option maxHeartbeats 2000000 in
theorem outerBetter_any (x y z : WayN) (xA yA zA : Option Addr) (xc yc zc : Nat) (hx hy hz : List Hop) (w : World) (sx : Sl w w.heap.size 3 (.slice xA hx.length xc) hx.length (hx.flatMap hopCells)) (sy : Sl w w.heap.size 3 (.slice yA hy.length yc) hy.length (hy.flatMap hopCells)) (sz : Sl w w.heap.size 3 (.slice zA hz.length zc) hz.length (hz.flatMap hopCells))
    (nx : hx.length ≤ 2000000) (ny : hy.length ≤ 2000000) (nz : hz.length ≤ 2000000) (bx : 0 ≤ x.bits ∧ x.bits < 256) (by_ : 0 ≤ y.bits ∧ y.bits < 256) (bz : 0 ≤ z.bits ∧ z.bits < 256) :
    Calls Tryz.prog 10 #[.agg (wayC x (.slice xA hx.length xc)), .agg (wayC y (.slice yA hy.length yc)), .agg (wayC z (.slice zA hz.length zc))] w fun e w' => e = .returned (.bool true) ∧ Below w.heap.size w w' := by
  have CX := fun (W : World) (h : Below w.heap.size w W) => way_any x xA xc hx w.heap.size W (sx.below h) h.size nx
  have CY := fun (W : World) (h : Below w.heap.size w W) => way_any y yA yc hy w.heap.size W (sy.below h) h.size ny
  have CZ := fun (W : World) (h : Below w.heap.size w W) => way_any z zA zc hz w.heap.size W (sz.below h) h.size nz
  have Bxy := fun A B W => better_any x y A B W
  have Byx := fun A B W => better_any y x A B W
  have Bxx := fun A B W => better_any x x A B W
  have Byz := fun A B W => better_any y z A B W
  have Bxz := fun A B W => better_any x z A B W
  have Rxy := fun A B W => rbetter_any x y A B W
  have t1 := betterP_trans x y z
  rw [betterP_swap x y] at Byx
  rw [betterP_self x] at Bxx
  have hnr := betterP_range x y
  generalize betterP x y = n at *
  generalize betterP y z = m at *
  generalize betterP x z = p at *
  have CG := fun (W : World) (lv : Value) (B : Nat) (hW : Below w.heap.size w W) (hB : w.heap.size ≤ B) (hl : Sl W B 10 lv 3 (wayL ⟨x, xA, hx.length, xc⟩ ++ (wayL ⟨y, yA, hy.length, yc⟩ ++ (wayL ⟨z, zA, hz.length, zc⟩ ++ [])))) (h2 : B ≤ W.heap.size) =>
    rbig_any [⟨x, xA, hx.length, xc⟩, ⟨y, yA, hy.length, yc⟩, ⟨z, zA, hz.length, zc⟩] lv B W hl h2 (by simp) (fun q hq => by
      simp only [List.mem_cons, List.not_mem_nil, or_false] at hq
      rcases hq with rfl | rfl | rfl
      · exact ⟨bx, hx, nx, (sx.below hW).more hB⟩
      · exact ⟨by_, hy, ny, (sy.below hW).more hB⟩
      · exact ⟨bz, hz, nz, (sz.below hW).more hB⟩)
  obtain ⟨x0, x1, x2, x3, x4, x5, x6, x7, x8⟩ := x
  obtain ⟨y0, y1, y2, y3, y4, y5, y6, y7, y8⟩ := y
  obtain ⟨z0, z1, z2, z3, z4, z5, z6, z7, z8⟩ := z
  dsimp only [wayC] at CX CY CZ Bxy Byx Bxx Byz Bxz Rxy ⊢
  replace CX := Lib.hid CX
  replace CY := Lib.hid CY
  replace CZ := Lib.hid CZ
  replace Bxy := Lib.hid Bxy
  replace Byx := Lib.hid Byx
  replace Bxx := Lib.hid Bxx
  replace Byz := Lib.hid Byz
  replace Bxz := Lib.hid Bxz
  replace Rxy := Lib.hid Rxy
  replace t1 := Lib.hid t1
  replace hnr := Lib.hid hnr
  clear sx sy sz bx by_ bz
  have h0 : Blk (((w.alloc (.cells #[.int .u32 x0, .int .u8 x1, .int .u32 x2, .int .u8 x3, .int .u8 x4, .int .u32 x5, .int .u32 x6, .int .u32 x7, .int .u32 x8, .slice xA hx.length xc] 41)).alloc (.cells #[.int .u32 y0, .int .u8 y1, .int .u32 y2, .int .u8 y3, .int .u8 y4, .int .u32 y5, .int .u32 y6, .int .u32 y7, .int .u32 y8, .slice yA hy.length yc] 41)).alloc (.cells #[.int .u32 z0, .int .u8 z1, .int .u32 z2, .int .u8 z3, .int .u8 z4, .int .u32 z5, .int .u32 z6, .int .u32 z7, .int .u32 z8, .slice zA hz.length zc] 41)) w.heap.size 41 #[.int .u32 x0, .int .u8 x1, .int .u32 x2, .int .u8 x3, .int .u8 x4, .int .u32 x5, .int .u32 x6, .int .u32 x7, .int .u32 x8, .slice xA hx.length xc] := ((Blk.new _ _ _).alloc _).alloc _
  have h1 : Blk (((w.alloc (.cells #[.int .u32 x0, .int .u8 x1, .int .u32 x2, .int .u8 x3, .int .u8 x4, .int .u32 x5, .int .u32 x6, .int .u32 x7, .int .u32 x8, .slice xA hx.length xc] 41)).alloc (.cells #[.int .u32 y0, .int .u8 y1, .int .u32 y2, .int .u8 y3, .int .u8 y4, .int .u32 y5, .int .u32 y6, .int .u32 y7, .int .u32 y8, .slice yA hy.length yc] 41)).alloc (.cells #[.int .u32 z0, .int .u8 z1, .int .u32 z2, .int .u8 z3, .int .u8 z4, .int .u32 z5, .int .u32 z6, .int .u32 z7, .int .u32 z8, .slice zA hz.length zc] 41)) (w.heap.size + 1) 41 #[.int .u32 y0, .int .u8 y1, .int .u32 y2, .int .u8 y3, .int .u8 y4, .int .u32 y5, .int .u32 y6, .int .u32 y7, .int .u32 y8, .slice yA hy.length yc] := (Blk.new_ _ (by simp)).alloc _
  have h2 : Blk (((w.alloc (.cells #[.int .u32 x0, .int .u8 x1, .int .u32 x2, .int .u8 x3, .int .u8 x4, .int .u32 x5, .int .u32 x6, .int .u32 x7, .int .u32 x8, .slice xA hx.length xc] 41)).alloc (.cells #[.int .u32 y0, .int .u8 y1, .int .u32 y2, .int .u8 y3, .int .u8 y4, .int .u32 y5, .int .u32 y6, .int .u32 y7, .int .u32 y8, .slice yA hy.length yc] 41)).alloc (.cells #[.int .u32 z0, .int .u8 z1, .int .u32 z2, .int .u8 z3, .int .u8 z4, .int .u32 z5, .int .u32 z6, .int .u32 z7, .int .u32 z8, .slice zA hz.length zc] 41)) (w.heap.size + 1 + 1) 41 #[.int .u32 z0, .int .u8 z1, .int .u32 z2, .int .u8 z3, .int .u8 z4, .int .u32 z5, .int .u32 z6, .int .u32 z7, .int .u32 z8, .slice zA hz.length zc] := Blk.new_ _ (by simp)
  have hB0 : Below w.heap.size w (((w.alloc (.cells #[.int .u32 x0, .int .u8 x1, .int .u32 x2, .int .u8 x3, .int .u8 x4, .int .u32 x5, .int .u32 x6, .int .u32 x7, .int .u32 x8, .slice xA hx.length xc] 41)).alloc (.cells #[.int .u32 y0, .int .u8 y1, .int .u32 y2, .int .u8 y3, .int .u8 y4, .int .u32 y5, .int .u32 y6, .int .u32 y7, .int .u32 y8, .slice yA hy.length yc] 41)).alloc (.cells #[.int .u32 z0, .int .u8 z1, .int .u32 z2, .int .u8 z3, .int .u8 z4, .int .u32 z5, .int .u32 z6, .int .u32 z7, .int .u32 z8, .slice zA hz.length zc] 41)) := (((Below.refl _ _).alloc (Nat.le_refl _) _).alloc (by simp) _).alloc (by simp; omega) _
  have hz0 : ((((w.alloc (.cells #[.int .u32 x0, .int .u8 x1, .int .u32 x2, .int .u8 x3, .int .u8 x4, .int .u32 x5, .int .u32 x6, .int .u32 x7, .int .u32 x8, .slice xA hx.length xc] 41)).alloc (.cells #[.int .u32 y0, .int .u8 y1, .int .u32 y2, .int .u8 y3, .int .u8 y4, .int .u32 y5, .int .u32 y6, .int .u32 y7, .int .u32 y8, .slice yA hy.length yc] 41)).alloc (.cells #[.int .u32 z0, .int .u8 z1, .int .u32 z2, .int .u8 z3, .int .u8 z4, .int .u32 z5, .int .u32 z6, .int .u32 z7, .int .u32 z8, .slice zA hz.length zc] 41)) : World).heap.size = w.heap.size + 1 + 1 + 1 := by simp
  go_enter Tryz.func10, Tryz.ntmps10
  go_upto_region 1 with fail
  generalize (((w.alloc (.cells #[.int .u32 x0, .int .u8 x1, .int .u32 x2, .int .u8 x3, .int .u8 x4, .int .u32 x5, .int .u32 x6, .int .u32 x7, .int .u32 x8, .slice xA hx.length xc] 41)).alloc (.cells #[.int .u32 y0, .int .u8 y1, .int .u32 y2, .int .u8 y3, .int .u8 y4, .int .u32 y5, .int .u32 y6, .int .u32 y7, .int .u32 y8, .slice yA hy.length yc] 41)).alloc (.cells #[.int .u32 z0, .int .u8 z1, .int .u32 z2, .int .u8 z3, .int .u8 z4, .int .u32 z5, .int .u32 z6, .int .u32 z7, .int .u32 z8, .slice zA hz.length zc] 41)) = w0 at h0 h1 h2 hB0 hz0 ⊢
  have kl : Blk (w0.alloc (.cells #[.int .u32 x0, .int .u8 x1, .int .u32 x2, .int .u8 x3, .int .u8 x4, .int .u32 x5, .int .u32 x6, .int .u32 x7, .int .u32 x8, .slice xA hx.length xc, .int .u32 y0, .int .u8 y1, .int .u32 y2, .int .u8 y3, .int .u8 y4, .int .u32 y5, .int .u32 y6, .int .u32 y7, .int .u32 y8, .slice yA hy.length yc, .int .u32 z0, .int .u8 z1, .int .u32 z2, .int .u8 z3, .int .u8 z4, .int .u32 z5, .int .u32 z6, .int .u32 z7, .int .u32 z8, .slice zA hz.length zc] 41)) w0.heap.size 41 #[.int .u32 x0, .int .u8 x1, .int .u32 x2, .int .u8 x3, .int .u8 x4, .int .u32 x5, .int .u32 x6, .int .u32 x7, .int .u32 x8, .slice xA hx.length xc, .int .u32 y0, .int .u8 y1, .int .u32 y2, .int .u8 y3, .int .u8 y4, .int .u32 y5, .int .u32 y6, .int .u32 y7, .int .u32 y8, .slice yA hy.length yc, .int .u32 z0, .int .u8 z1, .int .u32 z2, .int .u8 z3, .int .u8 z4, .int .u32 z5, .int .u32 z6, .int .u32 z7, .int .u32 z8, .slice zA hz.length zc] := Blk.new _ _ _
  have sl30 : Sl (w0.alloc (.cells #[.int .u32 x0, .int .u8 x1, .int .u32 x2, .int .u8 x3, .int .u8 x4, .int .u32 x5, .int .u32 x6, .int .u32 x7, .int .u32 x8, .slice xA hx.length xc, .int .u32 y0, .int .u8 y1, .int .u32 y2, .int .u8 y3, .int .u8 y4, .int .u32 y5, .int .u32 y6, .int .u32 y7, .int .u32 y8, .slice yA hy.length yc, .int .u32 z0, .int .u8 z1, .int .u32 z2, .int .u8 z3, .int .u8 z4, .int .u32 z5, .int .u32 z6, .int .u32 z7, .int .u32 z8, .slice zA hz.length zc] 41)) (w0.heap.size + 1) 10 (.slice (some ⟨w0.heap.size, 0, none⟩) 3 3) 3 (#[.int .u32 x0, .int .u8 x1, .int .u32 x2, .int .u8 x3, .int .u8 x4, .int .u32 x5, .int .u32 x6, .int .u32 x7, .int .u32 x8, .slice xA hx.length xc, .int .u32 y0, .int .u8 y1, .int .u32 y2, .int .u8 y3, .int .u8 y4, .int .u32 y5, .int .u32 y6, .int .u32 y7, .int .u32 y8, .slice yA hy.length yc, .int .u32 z0, .int .u8 z1, .int .u32 z2, .int .u8 z3, .int .u8 z4, .int .u32 z5, .int .u32 z6, .int .u32 z7, .int .u32 z8, .slice zA hz.length zc] : Array Value).toList := Sl.lit w0 (n := 3) (s := 10) #[.int .u32 x0, .int .u8 x1, .int .u32 x2, .int .u8 x3, .int .u8 x4, .int .u32 x5, .int .u32 x6, .int .u32 x7, .int .u32 x8, .slice xA hx.length xc, .int .u32 y0, .int .u8 y1, .int .u32 y2, .int .u8 y3, .int .u8 y4, .int .u32 y5, .int .u32 y6, .int .u32 y7, .int .u32 y8, .slice yA hy.length yc, .int .u32 z0, .int .u8 z1, .int .u32 z2, .int .u8 z3, .int .u8 z4, .int .u32 z5, .int .u32 z6, .int .u32 z7, .int .u32 z8, .slice zA hz.length zc] 41 (by simp [maxLen]) rfl
  have CB := Lib.hid (CG (w0.alloc (.cells #[.int .u32 x0, .int .u8 x1, .int .u32 x2, .int .u8 x3, .int .u8 x4, .int .u32 x5, .int .u32 x6, .int .u32 x7, .int .u32 x8, .slice xA hx.length xc, .int .u32 y0, .int .u8 y1, .int .u32 y2, .int .u8 y3, .int .u8 y4, .int .u32 y5, .int .u32 y6, .int .u32 y7, .int .u32 y8, .slice yA hy.length yc, .int .u32 z0, .int .u8 z1, .int .u32 z2, .int .u8 z3, .int .u8 z4, .int .u32 z5, .int .u32 z6, .int .u32 z7, .int .u32 z8, .slice zA hz.length zc] 41)) (.slice (some ⟨w0.heap.size, 0, none⟩) 3 3) (w0.heap.size + 1) (hB0.alloc hB0.size _) (by omega) sl30 (by simp))
  clear CG sl30 kl
  replace hz0 := Lib.hid hz0
  go_upto_if 15 with (first
    | (refine wpList_load_row rfl 41 (.tmp 3) rfl w.heap.size rfl 41 #[.int .u32 x0, .int .u8 x1, .int .u32 x2, .int .u8 x3, .int .u8 x4, .int .u32 x5, .int .u32 x6, .int .u32 x7, .int .u32 x8, .slice xA hx.length xc] (0, 0) _ h0 Tryz.underlying41 rfl (by kernel_rfl) ?_)
    | (refine wpList_load_row rfl 41 (.tmp 4) rfl (w.heap.size + 1) rfl 41 #[.int .u32 y0, .int .u8 y1, .int .u32 y2, .int .u8 y3, .int .u8 y4, .int .u32 y5, .int .u32 y6, .int .u32 y7, .int .u32 y8, .slice yA hy.length yc] (0, 0) _ h1 Tryz.underlying41 rfl (by kernel_rfl) ?_)
    | (refine wpList_load_row rfl 41 (.tmp 5) rfl (w.heap.size + 1 + 1) rfl 41 #[.int .u32 z0, .int .u8 z1, .int .u32 z2, .int .u8 z3, .int .u8 z4, .int .u32 z5, .int .u32 z6, .int .u32 z7, .int .u32 z8, .slice zA hz.length zc] (0, 0) _ h2 Tryz.underlying41 rfl (by kernel_rfl) ?_)
    | (go_at_call 35; refine Calls.mono CB.out ?_; rintro e w1 ⟨q, rfl, hB1⟩))
  have hBq : Below w.heap.size w w1 := (hB0.alloc hB0.size _).trans (hB1.mono (by have := hz0.out; simp; omega))
  have k0 := (h0.alloc (.cells #[.int .u32 x0, .int .u8 x1, .int .u32 x2, .int .u8 x3, .int .u8 x4, .int .u32 x5, .int .u32 x6, .int .u32 x7, .int .u32 x8, .slice xA hx.length xc, .int .u32 y0, .int .u8 y1, .int .u32 y2, .int .u8 y3, .int .u8 y4, .int .u32 y5, .int .u32 y6, .int .u32 y7, .int .u32 y8, .slice yA hy.length yc, .int .u32 z0, .int .u8 z1, .int .u32 z2, .int .u8 z3, .int .u8 z4, .int .u32 z5, .int .u32 z6, .int .u32 z7, .int .u32 z8, .slice zA hz.length zc] 41)).below hB1 (h0.alloc (.cells #[.int .u32 x0, .int .u8 x1, .int .u32 x2, .int .u8 x3, .int .u8 x4, .int .u32 x5, .int .u32 x6, .int .u32 x7, .int .u32 x8, .slice xA hx.length xc, .int .u32 y0, .int .u8 y1, .int .u32 y2, .int .u8 y3, .int .u8 y4, .int .u32 y5, .int .u32 y6, .int .u32 y7, .int .u32 y8, .slice yA hy.length yc, .int .u32 z0, .int .u8 z1, .int .u32 z2, .int .u8 z3, .int .u8 z4, .int .u32 z5, .int .u32 z6, .int .u32 z7, .int .u32 z8, .slice zA hz.length zc] 41)).lt
  have k1 := (h1.alloc (.cells #[.int .u32 x0, .int .u8 x1, .int .u32 x2, .int .u8 x3, .int .u8 x4, .int .u32 x5, .int .u32 x6, .int .u32 x7, .int .u32 x8, .slice xA hx.length xc, .int .u32 y0, .int .u8 y1, .int .u32 y2, .int .u8 y3, .int .u8 y4, .int .u32 y5, .int .u32 y6, .int .u32 y7, .int .u32 y8, .slice yA hy.length yc, .int .u32 z0, .int .u8 z1, .int .u32 z2, .int .u8 z3, .int .u8 z4, .int .u32 z5, .int .u32 z6, .int .u32 z7, .int .u32 z8, .slice zA hz.length zc] 41)).below hB1 (h1.alloc (.cells #[.int .u32 x0, .int .u8 x1, .int .u32 x2, .int .u8 x3, .int .u8 x4, .int .u32 x5, .int .u32 x6, .int .u32 x7, .int .u32 x8, .slice xA hx.length xc, .int .u32 y0, .int .u8 y1, .int .u32 y2, .int .u8 y3, .int .u8 y4, .int .u32 y5, .int .u32 y6, .int .u32 y7, .int .u32 y8, .slice yA hy.length yc, .int .u32 z0, .int .u8 z1, .int .u32 z2, .int .u8 z3, .int .u8 z4, .int .u32 z5, .int .u32 z6, .int .u32 z7, .int .u32 z8, .slice zA hz.length zc] 41)).lt
  have k2 := (h2.alloc (.cells #[.int .u32 x0, .int .u8 x1, .int .u32 x2, .int .u8 x3, .int .u8 x4, .int .u32 x5, .int .u32 x6, .int .u32 x7, .int .u32 x8, .slice xA hx.length xc, .int .u32 y0, .int .u8 y1, .int .u32 y2, .int .u8 y3, .int .u8 y4, .int .u32 y5, .int .u32 y6, .int .u32 y7, .int .u32 y8, .slice yA hy.length yc, .int .u32 z0, .int .u8 z1, .int .u32 z2, .int .u8 z3, .int .u8 z4, .int .u32 z5, .int .u32 z6, .int .u32 z7, .int .u32 z8, .slice zA hz.length zc] 41)).below hB1 (h2.alloc (.cells #[.int .u32 x0, .int .u8 x1, .int .u32 x2, .int .u8 x3, .int .u8 x4, .int .u32 x5, .int .u32 x6, .int .u32 x7, .int .u32 x8, .slice xA hx.length xc, .int .u32 y0, .int .u8 y1, .int .u32 y2, .int .u8 y3, .int .u8 y4, .int .u32 y5, .int .u32 y6, .int .u32 y7, .int .u32 y8, .slice yA hy.length yc, .int .u32 z0, .int .u8 z1, .int .u32 z2, .int .u8 z3, .int .u8 z4, .int .u32 z5, .int .u32 z6, .int .u32 z7, .int .u32 z8, .slice zA hz.length zc] 41)).lt
  clear h0 h1 h2 hB0 hB1 CB
  cases q with
  | true =>
    go_wp2_with (go_at_call 36; refine Calls.mono (works20_any _) ?_; rintro e w2 ⟨rfl, hB2⟩)
    go_ret
    exact ⟨rfl, hBq.trans (hB2.mono hBq.size)⟩
  | false =>
    go_upto_region 3 with fail
    have hz1 : w.heap.size + 1 + 1 + 1 ≤ w1.heap.size := by have := k2.lt; omega
    have hmix : (Tryz.prog).follows .mixedOrders = true := by kernel_rfl
    go_cut [7, 8, 9] (fun v7 v8 v9 wx => ThreeR w1 (w.heap.size + 1 + 1 + 1) ⟨x0, x1, x2, x3, x4, x5, x6, x7, x8⟩ ⟨y0, y1, y2, y3, y4, y5, y6, y7, y8⟩ ⟨z0, z1, z2, z3, z4, z5, z6, z7, z8⟩ hx.length hy.length hz.length v7 v8 v9 wx)
    case first =>
      refine wp_region_inv0 (fun a0 w0 L a' w' => ∃ t7 t8 t9 t17 t18 t19 t20 t21 t22 : Value, a' = (((((((((a0.put (some 7) t7).put (some 8) t8).put (some 9) t9).put (some 17) t17).put (some 18) t18).put (some 19) t19).put (some 20) t20).put (some 21) t21).put (some 22) t22) ∧ Below (w.heap.size + 1 + 1 + 1) w0 w' ∧ JobI (w.heap.size + 1 + 1 + 1) #[.int .u32 x0, .int .u8 x1, .int .u32 x2, .int .u8 x3, .int .u8 x4, .int .u32 x5, .int .u32 x6, .int .u32 x7, .int .u32 x8, .slice xA hx.length xc] ⟨x0, x1, x2, x3, x4, x5, x6, x7, x8⟩ hx.length w' (L.getD 0 false) (L.getD 1 false) (L.getD 6 false) (L.getD 9 false) t17 t18 t7 ∧ JobI (w.heap.size + 1 + 1 + 1) #[.int .u32 y0, .int .u8 y1, .int .u32 y2, .int .u8 y3, .int .u8 y4, .int .u32 y5, .int .u32 y6, .int .u32 y7, .int .u32 y8, .slice yA hy.length yc] ⟨y0, y1, y2, y3, y4, y5, y6, y7, y8⟩ hy.length w' (L.getD 2 false) (L.getD 3 false) (L.getD 7 false) (L.getD 10 false) t19 t20 t8 ∧ JobI (w.heap.size + 1 + 1 + 1) #[.int .u32 z0, .int .u8 z1, .int .u32 z2, .int .u8 z3, .int .u8 z4, .int .u32 z5, .int .u32 z6, .int .u32 z7, .int .u32 z8, .slice zA hz.length zc] ⟨z0, z1, z2, z3, z4, z5, z6, z7, z8⟩ hz.length w' (L.getD 4 false) (L.getD 5 false) (L.getD 8 false) (L.getD 11 false) t21 t22 t9 ∧ (L.getD 6 false = true → L.getD 7 false = true → t7 ≠ t8) ∧ (L.getD 6 false = true → L.getD 8 false = true → t7 ≠ t9) ∧ (L.getD 7 false = true → L.getD 8 false = true → t8 ≠ t9)) hmix (by kernel_rfl) ?_ ?_ ?_
      · refine ⟨undef, undef, undef, undef, undef, undef, undef, undef, undef, (by first | (simp only [Act.put, List.setIfInBounds_toArray, List.set_cons_zero, List.set_cons_succ]; done) | (simp [Act.put]; done)), (Below.refl _ _).drew, ?_⟩
        refine ⟨⟨?_, ?_, ?_, ?_⟩, ⟨?_, ?_, ?_, ?_⟩, ⟨?_, ?_, ?_, ?_⟩, ?_, ?_, ?_⟩
        all_goals (intro h; simp at h)
      · rintro L a' w' i hL hi ⟨t7, t8, t9, t17, t18, t19, t20, t21, t22, ha, hB, j1, j2, j3, d1, d2, d3⟩
        simp only [Act.put, List.setIfInBounds_toArray, List.set_cons_zero, List.set_cons_succ] at ha
        subst ha
        have hlt : i < 12 := (ready_mem hi).1
        have hun := (ready_mem hi).2
        have g : ∀ i' j', i' < 12 → (L.setIfInBounds i' true).getD j' false = if j' = i' then true else L.getD j' false := fun i' j' h => getD_set (by rw [hL]; exact h)
        have hw' : w.heap.size + 1 + 1 + 1 ≤ w'.heap.size := Nat.le_trans hz1 hB.size
        rcases (show i = 0 ∨ i = 1 ∨ i = 2 ∨ i = 3 ∨ i = 4 ∨ i = 5 ∨ i = 6 ∨ i = 7 ∨ i = 8 ∨ i = 9 ∨ i = 10 ∨ i = 11 by omega) with rfl | rfl | rfl | rfl | rfl | rfl | rfl | rfl | rfl | rfl | rfl | rfl
        · refine wpOp_step rfl (fun K' hK => ?_)
          refine step_load_row rfl 41 (.tmp 3) rfl w.heap.size rfl 41 #[.int .u32 x0, .int .u8 x1, .int .u32 x2, .int .u8 x3, .int .u8 x4, .int .u32 x5, .int .u32 x6, .int .u32 x7, .int .u32 x8, .slice xA hx.length xc] _ (k0.below hB (by omega)) Tryz.underlying41 rfl (by kernel_rfl) ?_
          exact hK _ _ ⟨t7, t8, t9, (.agg #[.int .u32 x0, .int .u8 x1, .int .u32 x2, .int .u8 x3, .int .u8 x4, .int .u32 x5, .int .u32 x6, .int .u32 x7, .int .u32 x8, .slice xA hx.length xc]), t18, t19, t20, t21, t22, (by first | (simp only [Act.put, List.setIfInBounds_toArray, List.set_cons_zero, List.set_cons_succ]; done) | (simp [Act.put]; done)), hB, (by simpa [g] using j1.load), (by simpa [g] using j2), (by simpa [g] using j3), (by simpa [g] using d1), (by simpa [g] using d2), (by simpa [g] using d3)⟩
        · have haf := ready_after hi rfl
          simp [Region.binds] at haf
          obtain rfl := j1.1 (by simp only [Array.getD_eq_getD_getElem?]; first | exact haf | exact haf.1 | exact haf.2)
          have C := Lib.hid (CX.out w' (hBq.trans (hB.mono (by omega))))
          refine wpOp_step rfl (fun K' hK => ?_)
          replace hK := Lib.hid hK
          go_wp2_with (go_at_call 37; refine Calls.mono C.out ?_; rintro e w9 ⟨yA9, yc9, rfl, hB9⟩)
          exact hK.out _ _ ⟨t7, t8, t9, (.agg #[.int .u32 x0, .int .u8 x1, .int .u32 x2, .int .u8 x3, .int .u8 x4, .int .u32 x5, .int .u32 x6, .int .u32 x7, .int .u32 x8, .slice xA hx.length xc]), (.agg (wayC ⟨x0, x1, x2, x3, x4, x5, x6, x7, x8⟩ (.slice yA9 hx.length yc9))), t19, t20, t21, t22, (by first | (simp only [Act.put, List.setIfInBounds_toArray, List.set_cons_zero, List.set_cons_succ]; done) | (simp [Act.put]; done)), hB.trans (hB9.mono hw'), (by simpa [g] using (j1.move hB9).call yA9 yc9), (by simpa [g] using j2.move hB9), (by simpa [g] using j3.move hB9), (by simpa [g] using d1), (by simpa [g] using d2), (by simpa [g] using d3)⟩
        · refine wpOp_step rfl (fun K' hK => ?_)
          refine step_load_row rfl 41 (.tmp 4) rfl (w.heap.size + 1) rfl 41 #[.int .u32 y0, .int .u8 y1, .int .u32 y2, .int .u8 y3, .int .u8 y4, .int .u32 y5, .int .u32 y6, .int .u32 y7, .int .u32 y8, .slice yA hy.length yc] _ (k1.below hB (by omega)) Tryz.underlying41 rfl (by kernel_rfl) ?_
          exact hK _ _ ⟨t7, t8, t9, t17, t18, (.agg #[.int .u32 y0, .int .u8 y1, .int .u32 y2, .int .u8 y3, .int .u8 y4, .int .u32 y5, .int .u32 y6, .int .u32 y7, .int .u32 y8, .slice yA hy.length yc]), t20, t21, t22, (by first | (simp only [Act.put, List.setIfInBounds_toArray, List.set_cons_zero, List.set_cons_succ]; done) | (simp [Act.put]; done)), hB, (by simpa [g] using j1), (by simpa [g] using j2.load), (by simpa [g] using j3), (by simpa [g] using d1), (by simpa [g] using d2), (by simpa [g] using d3)⟩
        · have haf := ready_after hi rfl
          simp [Region.binds] at haf
          obtain rfl := j2.1 (by simp only [Array.getD_eq_getD_getElem?]; first | exact haf | exact haf.1 | exact haf.2)
          have C := Lib.hid (CY.out w' (hBq.trans (hB.mono (by omega))))
          refine wpOp_step rfl (fun K' hK => ?_)
          replace hK := Lib.hid hK
          go_wp2_with (go_at_call 37; refine Calls.mono C.out ?_; rintro e w9 ⟨yA9, yc9, rfl, hB9⟩)
          exact hK.out _ _ ⟨t7, t8, t9, t17, t18, (.agg #[.int .u32 y0, .int .u8 y1, .int .u32 y2, .int .u8 y3, .int .u8 y4, .int .u32 y5, .int .u32 y6, .int .u32 y7, .int .u32 y8, .slice yA hy.length yc]), (.agg (wayC ⟨y0, y1, y2, y3, y4, y5, y6, y7, y8⟩ (.slice yA9 hy.length yc9))), t21, t22, (by first | (simp only [Act.put, List.setIfInBounds_toArray, List.set_cons_zero, List.set_cons_succ]; done) | (simp [Act.put]; done)), hB.trans (hB9.mono hw'), (by simpa [g] using j1.move hB9), (by simpa [g] using (j2.move hB9).call yA9 yc9), (by simpa [g] using j3.move hB9), (by simpa [g] using d1), (by simpa [g] using d2), (by simpa [g] using d3)⟩
        · refine wpOp_step rfl (fun K' hK => ?_)
          refine step_load_row rfl 41 (.tmp 5) rfl (w.heap.size + 1 + 1) rfl 41 #[.int .u32 z0, .int .u8 z1, .int .u32 z2, .int .u8 z3, .int .u8 z4, .int .u32 z5, .int .u32 z6, .int .u32 z7, .int .u32 z8, .slice zA hz.length zc] _ (k2.below hB (by omega)) Tryz.underlying41 rfl (by kernel_rfl) ?_
          exact hK _ _ ⟨t7, t8, t9, t17, t18, t19, t20, (.agg #[.int .u32 z0, .int .u8 z1, .int .u32 z2, .int .u8 z3, .int .u8 z4, .int .u32 z5, .int .u32 z6, .int .u32 z7, .int .u32 z8, .slice zA hz.length zc]), t22, (by first | (simp only [Act.put, List.setIfInBounds_toArray, List.set_cons_zero, List.set_cons_succ]; done) | (simp [Act.put]; done)), hB, (by simpa [g] using j1), (by simpa [g] using j2), (by simpa [g] using j3.load), (by simpa [g] using d1), (by simpa [g] using d2), (by simpa [g] using d3)⟩
        · have haf := ready_after hi rfl
          simp [Region.binds] at haf
          obtain rfl := j3.1 (by simp only [Array.getD_eq_getD_getElem?]; first | exact haf | exact haf.1 | exact haf.2)
          have C := Lib.hid (CZ.out w' (hBq.trans (hB.mono (by omega))))
          refine wpOp_step rfl (fun K' hK => ?_)
          replace hK := Lib.hid hK
          go_wp2_with (go_at_call 37; refine Calls.mono C.out ?_; rintro e w9 ⟨yA9, yc9, rfl, hB9⟩)
          exact hK.out _ _ ⟨t7, t8, t9, t17, t18, t19, t20, (.agg #[.int .u32 z0, .int .u8 z1, .int .u32 z2, .int .u8 z3, .int .u8 z4, .int .u32 z5, .int .u32 z6, .int .u32 z7, .int .u32 z8, .slice zA hz.length zc]), (.agg (wayC ⟨z0, z1, z2, z3, z4, z5, z6, z7, z8⟩ (.slice yA9 hz.length yc9))), (by first | (simp only [Act.put, List.setIfInBounds_toArray, List.set_cons_zero, List.set_cons_succ]; done) | (simp [Act.put]; done)), hB.trans (hB9.mono hw'), (by simpa [g] using j1.move hB9), (by simpa [g] using j2.move hB9), (by simpa [g] using (j3.move hB9).call yA9 yc9), (by simpa [g] using d1), (by simpa [g] using d2), (by simpa [g] using d3)⟩
        · refine wpOp_step rfl (fun K' hK => ?_)
          replace hK := Lib.hid hK
          have hA : Below w'.heap.size w' (w'.alloc (.cells #[.int .u32 0, .int .u8 0, .int .u32 0, .int .u8 0, .int .u8 0, .int .u32 0, .int .u32 0, .int .u32 0, .int .u32 0, .slice none 0 0] 38)) := (Below.refl _ _).alloc (Nat.le_refl _) _
          go_wp2
          exact hK.out _ _ ⟨(.pointer (some ⟨w'.heap.size, 0, none⟩)), t8, t9, t17, t18, t19, t20, t21, t22, (by first | (simp only [Act.put, List.setIfInBounds_toArray, List.set_cons_zero, List.set_cons_succ]; done) | (simp [Act.put]; done)), hB.alloc hw' _, (by simpa [g] using (j1.alloc9 (getD_low hun) hw' #[.int .u32 0, .int .u8 0, .int .u32 0, .int .u8 0, .int .u8 0, .int .u32 0, .int .u32 0, .int .u32 0, .int .u32 0, .slice none 0 0] rfl)), (by simpa [g] using j2.move hA), (by simpa [g] using j3.move hA), (fun _ h => (j2.fresh (by simpa [g] using h)).symm), (fun _ h => (j3.fresh (by simpa [g] using h)).symm), (by simpa [g] using d3)⟩
        · refine wpOp_step rfl (fun K' hK => ?_)
          replace hK := Lib.hid hK
          have hA : Below w'.heap.size w' (w'.alloc (.cells #[.int .u32 0, .int .u8 0, .int .u32 0, .int .u8 0, .int .u8 0, .int .u32 0, .int .u32 0, .int .u32 0, .int .u32 0, .slice none 0 0] 38)) := (Below.refl _ _).alloc (Nat.le_refl _) _
          go_wp2
          exact hK.out _ _ ⟨t7, (.pointer (some ⟨w'.heap.size, 0, none⟩)), t9, t17, t18, t19, t20, t21, t22, (by first | (simp only [Act.put, List.setIfInBounds_toArray, List.set_cons_zero, List.set_cons_succ]; done) | (simp [Act.put]; done)), hB.alloc hw' _, (by simpa [g] using j1.move hA), (by simpa [g] using (j2.alloc9 (getD_low hun) hw' #[.int .u32 0, .int .u8 0, .int .u32 0, .int .u8 0, .int .u8 0, .int .u32 0, .int .u32 0, .int .u32 0, .int .u32 0, .slice none 0 0] rfl)), (by simpa [g] using j3.move hA), (fun h _ => j1.fresh (by simpa [g] using h)), (by simpa [g] using d2), (fun _ h => (j3.fresh (by simpa [g] using h)).symm)⟩
        · refine wpOp_step rfl (fun K' hK => ?_)
          replace hK := Lib.hid hK
          have hA : Below w'.heap.size w' (w'.alloc (.cells #[.int .u32 0, .int .u8 0, .int .u32 0, .int .u8 0, .int .u8 0, .int .u32 0, .int .u32 0, .int .u32 0, .int .u32 0, .slice none 0 0] 38)) := (Below.refl _ _).alloc (Nat.le_refl _) _
          go_wp2
          exact hK.out _ _ ⟨t7, t8, (.pointer (some ⟨w'.heap.size, 0, none⟩)), t17, t18, t19, t20, t21, t22, (by first | (simp only [Act.put, List.setIfInBounds_toArray, List.set_cons_zero, List.set_cons_succ]; done) | (simp [Act.put]; done)), hB.alloc hw' _, (by simpa [g] using j1.move hA), (by simpa [g] using j2.move hA), (by simpa [g] using (j3.alloc9 (getD_low hun) hw' #[.int .u32 0, .int .u8 0, .int .u32 0, .int .u8 0, .int .u8 0, .int .u32 0, .int .u32 0, .int .u32 0, .int .u32 0, .slice none 0 0] rfl)), (by simpa [g] using d1), (fun h _ => j1.fresh (by simpa [g] using h)), (fun h _ => j2.fresh (by simpa [g] using h))⟩
        · have haf := ready_after hi rfl
          simp [Region.binds] at haf
          have hL1 : L.getD 6 false = true := by simp; exact haf.1
          have hL2 : L.getD 1 false = true := by simp; exact haf.2.1
          obtain ⟨A9, c9, rfl⟩ := j1.2.1 hL2
          obtain ⟨g9, cs9, rfl, hg9, kg9, hs9, -⟩ := j1.2.2.1 hL1
          refine wpOp_step rfl (fun K' hK => ?_)
          refine step_store_row rfl 38 (.tmp 7) (.tmp 18) rfl g9 _ rfl rfl 38 cs9 kg9 (by kernel_rfl) hs9 (by simp [wayC, Value.oneCell']) ?_
          have j9 := j1.stored hL1 kg9 hg9 A9 c9
          exact hK _ _ ⟨(.pointer (some ⟨g9, 0, none⟩)), t8, t9, t17, (.agg (wayC ⟨x0, x1, x2, x3, x4, x5, x6, x7, x8⟩ (.slice A9 hx.length c9))), t19, t20, t21, t22, (by first | (simp only [Act.put, List.setIfInBounds_toArray, List.set_cons_zero, List.set_cons_succ]; done) | (simp [Act.put]; done)), below_setRow hB hg9 _, (by simpa [g] using j9), (by simpa [g] using (j2.far (fun h => (d1 hL1 h).symm))), (by simpa [g] using (j3.far (fun h => (d2 hL1 h).symm))), (by simpa [g] using d1), (by simpa [g] using d2), (by simpa [g] using d3)⟩
        · have haf := ready_after hi rfl
          simp [Region.binds] at haf
          have hL1 : L.getD 7 false = true := by simp; exact haf.1
          have hL2 : L.getD 3 false = true := by simp; exact haf.2.1
          obtain ⟨A9, c9, rfl⟩ := j2.2.1 hL2
          obtain ⟨g9, cs9, rfl, hg9, kg9, hs9, -⟩ := j2.2.2.1 hL1
          refine wpOp_step rfl (fun K' hK => ?_)
          refine step_store_row rfl 38 (.tmp 8) (.tmp 20) rfl g9 _ rfl rfl 38 cs9 kg9 (by kernel_rfl) hs9 (by simp [wayC, Value.oneCell']) ?_
          have j9 := j2.stored hL1 kg9 hg9 A9 c9
          exact hK _ _ ⟨t7, (.pointer (some ⟨g9, 0, none⟩)), t9, t17, t18, t19, (.agg (wayC ⟨y0, y1, y2, y3, y4, y5, y6, y7, y8⟩ (.slice A9 hy.length c9))), t21, t22, (by first | (simp only [Act.put, List.setIfInBounds_toArray, List.set_cons_zero, List.set_cons_succ]; done) | (simp [Act.put]; done)), below_setRow hB hg9 _, (by simpa [g] using (j1.far (fun h => d1 h hL1))), (by simpa [g] using j9), (by simpa [g] using (j3.far (fun h => (d3 hL1 h).symm))), (by simpa [g] using d1), (by simpa [g] using d2), (by simpa [g] using d3)⟩
        · have haf := ready_after hi rfl
          simp [Region.binds] at haf
          have hL1 : L.getD 8 false = true := by simp; exact haf.1
          have hL2 : L.getD 5 false = true := by simp; exact haf.2.1
          obtain ⟨A9, c9, rfl⟩ := j3.2.1 hL2
          obtain ⟨g9, cs9, rfl, hg9, kg9, hs9, -⟩ := j3.2.2.1 hL1
          refine wpOp_step rfl (fun K' hK => ?_)
          refine step_store_row rfl 38 (.tmp 9) (.tmp 22) rfl g9 _ rfl rfl 38 cs9 kg9 (by kernel_rfl) hs9 (by simp [wayC, Value.oneCell']) ?_
          have j9 := j3.stored hL1 kg9 hg9 A9 c9
          exact hK _ _ ⟨t7, t8, (.pointer (some ⟨g9, 0, none⟩)), t17, t18, t19, t20, t21, (.agg (wayC ⟨z0, z1, z2, z3, z4, z5, z6, z7, z8⟩ (.slice A9 hz.length c9))), (by first | (simp only [Act.put, List.setIfInBounds_toArray, List.set_cons_zero, List.set_cons_succ]; done) | (simp [Act.put]; done)), below_setRow hB hg9 _, (by simpa [g] using (j1.far (fun h => d2 h hL1))), (by simpa [g] using (j2.far (fun h => d3 h hL1))), (by simpa [g] using j9), (by simpa [g] using d1), (by simpa [g] using d2), (by simpa [g] using d3)⟩
      · rintro L a' w' hall ⟨t7, t8, t9, t17, t18, t19, t20, t21, t22, ha, hB, j1, j2, j3, d1, d2, d3⟩
        simp only [Act.put, List.setIfInBounds_toArray, List.set_cons_zero, List.set_cons_succ] at ha
        subst ha
        obtain ⟨g1, c1, rfl, hg1, kk1, -, hh1⟩ := j1.2.2.1 (hall 6 (by decide))
        obtain ⟨g2, c2, rfl, hg2, kk2, -, hh2⟩ := j2.2.2.1 (hall 7 (by decide))
        obtain ⟨g3, c3, rfl, hg3, kk3, -, hh3⟩ := j3.2.2.1 (hall 8 (by decide))
        obtain ⟨A1, e1, rfl⟩ := hh1 (hall 9 (by decide))
        obtain ⟨A2, e2, rfl⟩ := hh2 (hall 10 (by decide))
        obtain ⟨A3, e3, rfl⟩ := hh3 (hall 11 (by decide))
        go_wp2_with fail
        go_meet
        case rel => exact ⟨g1, g2, g3, A1, A2, A3, e1, e2, e3, rfl, rfl, rfl, kk1, kk2, kk3, hB⟩
    case rest =>
      obtain ⟨g1, g2, g3, A1, A2, A3, e1, e2, e3, rfl, rfl, rfl, kk1, kk2, kk3, hB⟩ := hcut
      have k0 := k0.below hB (by omega)
      have k1 := k1.below hB (by omega)
      have hBc : Below w.heap.size w wc := hBq.trans (hB.mono (by omega))
      dsimp only [wayC] at kk1 kk2 kk3
      have l1 := kk1.lt
      have l2 := kk2.lt
      have l3 := kk3.lt
      have S0 : Below wc.heap.size wc wc := Below.refl _ _
      have r10 : ∀ W, Below wc.heap.size wc W → W.cell? ⟨g1, 0, none⟩ = some (.int .u32 x0) := fun W h => (h.cell (p := ⟨g1, 0, none⟩) l1).trans (kk1.cell 0)
      have r11 : ∀ W, Below wc.heap.size wc W → W.cell? ⟨g1, 1, none⟩ = some (.int .u8 x1) := fun W h => (h.cell (p := ⟨g1, 1, none⟩) l1).trans (kk1.cell 1)
      have r12 : ∀ W, Below wc.heap.size wc W → W.cell? ⟨g1, 2, none⟩ = some (.int .u32 x2) := fun W h => (h.cell (p := ⟨g1, 2, none⟩) l1).trans (kk1.cell 2)
      have r13 : ∀ W, Below wc.heap.size wc W → W.cell? ⟨g1, 3, none⟩ = some (.int .u8 x3) := fun W h => (h.cell (p := ⟨g1, 3, none⟩) l1).trans (kk1.cell 3)
      have r14 : ∀ W, Below wc.heap.size wc W → W.cell? ⟨g1, 4, none⟩ = some (.int .u8 x4) := fun W h => (h.cell (p := ⟨g1, 4, none⟩) l1).trans (kk1.cell 4)
      have r15 : ∀ W, Below wc.heap.size wc W → W.cell? ⟨g1, 5, none⟩ = some (.int .u32 x5) := fun W h => (h.cell (p := ⟨g1, 5, none⟩) l1).trans (kk1.cell 5)
      have r16 : ∀ W, Below wc.heap.size wc W → W.cell? ⟨g1, 6, none⟩ = some (.int .u32 x6) := fun W h => (h.cell (p := ⟨g1, 6, none⟩) l1).trans (kk1.cell 6)
      have r17 : ∀ W, Below wc.heap.size wc W → W.cell? ⟨g1, 7, none⟩ = some (.int .u32 x7) := fun W h => (h.cell (p := ⟨g1, 7, none⟩) l1).trans (kk1.cell 7)
      have r18 : ∀ W, Below wc.heap.size wc W → W.cell? ⟨g1, 8, none⟩ = some (.int .u32 x8) := fun W h => (h.cell (p := ⟨g1, 8, none⟩) l1).trans (kk1.cell 8)
      have r19 : ∀ W, Below wc.heap.size wc W → W.cell? ⟨g1, 9, none⟩ = some (.slice A1 hx.length e1) := fun W h => (h.cell (p := ⟨g1, 9, none⟩) l1).trans (kk1.cell 9)
      have r20 : ∀ W, Below wc.heap.size wc W → W.cell? ⟨g2, 0, none⟩ = some (.int .u32 y0) := fun W h => (h.cell (p := ⟨g2, 0, none⟩) l2).trans (kk2.cell 0)
      have r21 : ∀ W, Below wc.heap.size wc W → W.cell? ⟨g2, 1, none⟩ = some (.int .u8 y1) := fun W h => (h.cell (p := ⟨g2, 1, none⟩) l2).trans (kk2.cell 1)
      have r22 : ∀ W, Below wc.heap.size wc W → W.cell? ⟨g2, 2, none⟩ = some (.int .u32 y2) := fun W h => (h.cell (p := ⟨g2, 2, none⟩) l2).trans (kk2.cell 2)
      have r23 : ∀ W, Below wc.heap.size wc W → W.cell? ⟨g2, 3, none⟩ = some (.int .u8 y3) := fun W h => (h.cell (p := ⟨g2, 3, none⟩) l2).trans (kk2.cell 3)
      have r24 : ∀ W, Below wc.heap.size wc W → W.cell? ⟨g2, 4, none⟩ = some (.int .u8 y4) := fun W h => (h.cell (p := ⟨g2, 4, none⟩) l2).trans (kk2.cell 4)
      have r25 : ∀ W, Below wc.heap.size wc W → W.cell? ⟨g2, 5, none⟩ = some (.int .u32 y5) := fun W h => (h.cell (p := ⟨g2, 5, none⟩) l2).trans (kk2.cell 5)
      have r26 : ∀ W, Below wc.heap.size wc W → W.cell? ⟨g2, 6, none⟩ = some (.int .u32 y6) := fun W h => (h.cell (p := ⟨g2, 6, none⟩) l2).trans (kk2.cell 6)
      have r27 : ∀ W, Below wc.heap.size wc W → W.cell? ⟨g2, 7, none⟩ = some (.int .u32 y7) := fun W h => (h.cell (p := ⟨g2, 7, none⟩) l2).trans (kk2.cell 7)
      have r28 : ∀ W, Below wc.heap.size wc W → W.cell? ⟨g2, 8, none⟩ = some (.int .u32 y8) := fun W h => (h.cell (p := ⟨g2, 8, none⟩) l2).trans (kk2.cell 8)
      have r29 : ∀ W, Below wc.heap.size wc W → W.cell? ⟨g2, 9, none⟩ = some (.slice A2 hy.length e2) := fun W h => (h.cell (p := ⟨g2, 9, none⟩) l2).trans (kk2.cell 9)
      have r30 : ∀ W, Below wc.heap.size wc W → W.cell? ⟨g3, 0, none⟩ = some (.int .u32 z0) := fun W h => (h.cell (p := ⟨g3, 0, none⟩) l3).trans (kk3.cell 0)
      have r31 : ∀ W, Below wc.heap.size wc W → W.cell? ⟨g3, 1, none⟩ = some (.int .u8 z1) := fun W h => (h.cell (p := ⟨g3, 1, none⟩) l3).trans (kk3.cell 1)
      have r32 : ∀ W, Below wc.heap.size wc W → W.cell? ⟨g3, 2, none⟩ = some (.int .u32 z2) := fun W h => (h.cell (p := ⟨g3, 2, none⟩) l3).trans (kk3.cell 2)
      have r33 : ∀ W, Below wc.heap.size wc W → W.cell? ⟨g3, 3, none⟩ = some (.int .u8 z3) := fun W h => (h.cell (p := ⟨g3, 3, none⟩) l3).trans (kk3.cell 3)
      have r34 : ∀ W, Below wc.heap.size wc W → W.cell? ⟨g3, 4, none⟩ = some (.int .u8 z4) := fun W h => (h.cell (p := ⟨g3, 4, none⟩) l3).trans (kk3.cell 4)
      have r35 : ∀ W, Below wc.heap.size wc W → W.cell? ⟨g3, 5, none⟩ = some (.int .u32 z5) := fun W h => (h.cell (p := ⟨g3, 5, none⟩) l3).trans (kk3.cell 5)
      have r36 : ∀ W, Below wc.heap.size wc W → W.cell? ⟨g3, 6, none⟩ = some (.int .u32 z6) := fun W h => (h.cell (p := ⟨g3, 6, none⟩) l3).trans (kk3.cell 6)
      have r37 : ∀ W, Below wc.heap.size wc W → W.cell? ⟨g3, 7, none⟩ = some (.int .u32 z7) := fun W h => (h.cell (p := ⟨g3, 7, none⟩) l3).trans (kk3.cell 7)
      have r38 : ∀ W, Below wc.heap.size wc W → W.cell? ⟨g3, 8, none⟩ = some (.int .u32 z8) := fun W h => (h.cell (p := ⟨g3, 8, none⟩) l3).trans (kk3.cell 8)
      have r39 : ∀ W, Below wc.heap.size wc W → W.cell? ⟨g3, 9, none⟩ = some (.slice A3 hz.length e3) := fun W h => (h.cell (p := ⟨g3, 9, none⟩) l3).trans (kk3.cell 9)
      clear kk1 kk2 kk3 l1 l2 l3 hB hBq k2
      have hwn : IntKind.i64.wrap (-n) = -n := IntWalk.i64_in _ (by have := hnr.out; omega)
      go_upto_region 5 with (first | (go_at_call 38; with_reducible refine Calls.mono (Bxy.out _ _ _) ?_; rintro e WBxy ⟨rfl, hbBxy⟩; have SBxy := below_call (B := wc.heap.size) (a := wc) (by assumption) hbBxy (Nat.le_refl _); clear hbBxy))
      have k02 := k0.below SBxy k0.lt
      have k12 := k1.below SBxy k1.lt
      go_upto_region 7 with (first
        | (refine wpList_load_row rfl 41 (.tmp 3) rfl w.heap.size rfl 41 #[.int .u32 x0, .int .u8 x1, .int .u32 x2, .int .u8 x3, .int .u8 x4, .int .u32 x5, .int .u32 x6, .int .u32 x7, .int .u32 x8, .slice xA hx.length xc] (0, 0) _ k02 Tryz.underlying41 rfl (by kernel_rfl) ?_)
        | (refine wpList_load_row rfl 41 (.tmp 4) rfl (w.heap.size + 1) rfl 41 #[.int .u32 y0, .int .u8 y1, .int .u32 y2, .int .u8 y3, .int .u8 y4, .int .u32 y5, .int .u32 y6, .int .u32 y7, .int .u32 y8, .slice yA hy.length yc] (0, 0) _ k12 Tryz.underlying41 rfl (by kernel_rfl) ?_)
        | (go_at_call 39; with_reducible refine Calls.mono (Rxy.out _ _ _) ?_; rintro e WR ⟨rfl, hbR⟩; have SR := below_call (B := wc.heap.size) (a := wc) (by assumption) hbR (Nat.le_refl _); clear hbR)
        | (go_at_call 38; with_reducible refine Calls.mono (Byx.out _ _ _) ?_; rintro e WByx ⟨rfl, hbByx⟩; have SByx := below_call (B := wc.heap.size) (a := wc) (by assumption) hbByx (Nat.le_refl _); clear hbByx) | (go_at_call 38; with_reducible refine Calls.mono (Bxx.out _ _ _) ?_; rintro e WBxx ⟨rfl, hbBxx⟩; have SBxx := below_call (B := wc.heap.size) (a := wc) (by assumption) hbBxx (Nat.le_refl _); clear hbBxx))
      by_cases hn0 : n ≤ 0
      · by_cases hm0 : m ≤ 0
        · have hp := t1.out hn0 hm0
          go_wp2_with (first | (go_at_call 38; with_reducible refine Calls.mono (Byz.out _ _ _) ?_; rintro e WByz ⟨rfl, hbByz⟩; have SByz := below_call (B := wc.heap.size) (a := wc) (by assumption) hbByz (Nat.le_refl _); clear hbByz) | (go_at_call 38; with_reducible refine Calls.mono (Bxz.out _ _ _) ?_; rintro e WBxz ⟨rfl, hbBxz⟩; have SBxz := below_call (B := wc.heap.size) (a := wc) (by assumption) hbBxz (Nat.le_refl _); clear hbBxz) | (go_at_call 36; refine Calls.mono (works20_any _) ?_; rintro e Ww ⟨rfl, hbw⟩; have Sw := below_call (B := wc.heap.size) (a := wc) (by assumption) hbw (Nat.le_refl _); clear hbw))
          go_ret
          exact ⟨by first | rfl | (simp; done) | (simp; omega), hBc.trans (Sw.mono hBc.size)⟩
        · go_wp2_with (first | (go_at_call 38; with_reducible refine Calls.mono (Byz.out _ _ _) ?_; rintro e WByz ⟨rfl, hbByz⟩; have SByz := below_call (B := wc.heap.size) (a := wc) (by assumption) hbByz (Nat.le_refl _); clear hbByz) | (go_at_call 36; refine Calls.mono (works20_any _) ?_; rintro e Ww ⟨rfl, hbw⟩; have Sw := below_call (B := wc.heap.size) (a := wc) (by assumption) hbw (Nat.le_refl _); clear hbw))
          go_ret
          exact ⟨by first | rfl | (simp; done) | (simp; omega), hBc.trans (Sw.mono hBc.size)⟩
      · go_wp2_with (first | (go_at_call 36; refine Calls.mono (works20_any _) ?_; rintro e Ww ⟨rfl, hbw⟩; have Sw := below_call (B := wc.heap.size) (a := wc) (by assumption) hbw (Nat.le_refl _); clear hbw) | fail)
        go_ret
        exact ⟨by first | rfl | (simp; done) | (simp; omega), hBc.trans (Sw.mono hBc.size)⟩
end Go.Proofs.YtiikagabdiphkaaGreat
