/- border's Ranged, its closures, at layer 23's known run. Conditions: the one way and the one area lie in memory. -/
import Derived.Test.YtdilbcmnfpmijaaBorE
namespace Go.Proofs.Ytdilbcmnfpmijaa
open Go.RowKit Go.Lo Go.Maps

theorem upon3 {P : Program} {o : Oper} {a : Act} {K : Act → World → Prop} {Q : Exit → Act → World → Prop} {w : World} {g : Nat} {t : TypeId} {x0 x1 x2 : Value}
    (h : Blk w g t #[x0, x1, x2]) (v0 v1 v2 : Value)
    (hK : ∀ W, Blk W g t #[v0, v1, v2] → Put w g t W → Oper.upon P o a K Q (Result.ok Next.skip W)) :
    Oper.upon P o a K Q (((cellPut P w ⟨g, 0, none⟩ v0).andThen fun _ w1 => (cellPut P w1 ⟨g, 1, none⟩ v1).andThen fun _ w2 => cellPut P w2 ⟨g, 2, none⟩ v2).andThen fun _ w' => Result.ok Next.skip w') := by
  have k0 := h
  have k1 := k0.set_ 0 v0
  have k2 := k1.set_ 1 v1
  have k3 := k2.set_ 2 v2
  have p3 := (((Put.refl_ h).cell_ 0 v0).cell_ 1 v1).cell_ 2 v2
  rw [cellPut_ok k0 0 (by simp)]
  simp only [Result.andThen_ok]
  rw [cellPut_ok k1 1 (by simp)]
  simp only [Result.andThen_ok]
  rw [cellPut_ok k2 2 (by simp)]
  simp only [Result.andThen_ok]
  simp only [List.setIfInBounds_toArray, List.set_cons_zero, List.set_cons_succ] at k3
  exact hK _ k3 p3

abbrev areaC (v : Value) : Array Value := #[.int .u32 1, .int .u8 0, .bool false, .int .u32 0, .bool false, v]
abbrev wayC : Array Value := #[.int .u32 167837696, .int .u8 16, .int .u32 0, .int .u8 0, .int .u8 1, .int .u32 1, .int .u32 3, .int .u32 0, .int .u32 0, .slice none 0 0]

set_option maxRecDepth 100000 in
theorem area_is (bw : Nat) (v : Value) (w : World) (hw : bw < w.heap.size) (hk : w.cell? ⟨bw, 5, none⟩ = some (.int .u32 1)) :
    Calls Try.prog 58 #[.agg (areaC v), .pointer (some ⟨bw, 0, none⟩)] w fun e w' => e = .returned (.bool true) ∧ Below w.heap.size w w' := by
  have hB : Below w.heap.size w (w.alloc (.cells (areaC v) 117)) := (Below.refl _ _).alloc (Nat.le_refl _) _
  have hk' := (hB.cell (p := ⟨bw, 5, none⟩) hw).trans hk
  have c0 := (Blk.new w 117 (areaC v)).cell 0
  simp only [List.getElem?_toArray, List.getElem?_cons_zero] at c0
  go_enter Try.func58, Try.ntmps58
  go_upto_region 1 with fail
  generalize w.alloc (.cells (areaC v) 117) = w1 at hB hk' c0 ⊢
  go_wp2
  go_ret
  exact ⟨rfl, hB⟩

set_option maxRecDepth 100000 in
set_option maxHeartbeats 1000000 in
theorem idx_area (ba bw : Nat) (v : Value) (w : World) (h : Blk w ba 117 (areaC v)) (hw : bw < w.heap.size) (hk : w.cell? ⟨bw, 5, none⟩ = some (.int .u32 1)) :
    Calls Try.prog 57 #[.slice (some ⟨ba, 0, none⟩) 1 1, .func (.func 58) #[] #[.pointer (some ⟨bw, 0, none⟩)]] w fun e w' => e = .returned (.int .i64 0) ∧ Below w.heap.size w w' := by
  have CA := Lib.hid (area_is bw v w hw hk)
  clear hk
  go_enter Try.func57, Try.ntmps57
  go_wp2_with fail
  go_loopg [8] 1 (fun m i wr => m = 1 ∧ i = .int .i64 0 ∧ wr = w)
  case atStart => exact ⟨rfl, rfl, rfl⟩
  case round =>
    obtain ⟨hm, rfl, rfl⟩ := hrel
    have c0 := h.cell 0
    have c1 := h.cell 1
    have c2 := h.cell 2
    have c3 := h.cell 3
    have c4 := h.cell 4
    have c5 := h.cell 5
    simp only [List.getElem?_toArray, List.getElem?_cons_zero, List.getElem?_cons_succ] at c0 c1 c2 c3 c4 c5
    go_wp2_with (go_at_call 58; refine Calls.mono CA.out ?_; rintro e w1 ⟨rfl, hB1⟩)
    go_ret
    exact ⟨rfl, hB1⟩

set_option maxRecDepth 100000 in
set_option maxHeartbeats 2000000 in
theorem ranges_any (b1 b2 ba br : Nat) (w : World) (h1 : b1 < w.heap.size) (c1 : w.cell? ⟨b1, 0, none⟩ = some (.slice (some ⟨ba, 0, none⟩) 1 1)) (ha : Blk w ba 117 (areaC (.slice (some ⟨br, 0, none⟩) 1 1))) (hr : Blk w br 114 rangeC) :
    Calls Try.prog 56 #[.agg wayC, .pointer (some ⟨b1, 0, none⟩), .pointer (some ⟨b2, 0, none⟩)] w fun e w' => e = .returned (.tuple #[.agg rangeC, .bool true]) ∧ Below w.heap.size w w' := by
  have k0 : Blk ((w.alloc (.cells wayC 83)).alloc (.cells rangeZ 114)) w.heap.size 83 wayC := (Blk.new _ _ _).alloc _
  have k1 : Blk ((w.alloc (.cells wayC 83)).alloc (.cells rangeZ 114)) (w.heap.size + 1) 114 rangeZ := heap_alloc2_new w _ _
  have kB : Below w.heap.size w ((w.alloc (.cells wayC 83)).alloc (.cells rangeZ 114)) := ((Below.refl _ _).alloc (Nat.le_refl _) _).alloc (by simp) _
  have kz : (((w.alloc (.cells wayC 83)).alloc (.cells rangeZ 114)) : World).heap.size = w.heap.size + 2 := by simp
  go_enter Try.func56, Try.ntmps56
  go_upto_region 1 with fail
  generalize (w.alloc (.cells wayC 83)).alloc (.cells rangeZ 114) = w1 at k0 k1 kB kz ⊢
  have la := ha.lt
  have lr := hr.lt
  have e1 := (kB.cell (p := ⟨b1, 0, none⟩) h1).trans c1
  have ka := ha.below kB la
  have kr := hr.below kB lr
  have x5 := k0.cell 5
  simp only [List.getElem?_toArray, List.getElem?_cons_zero, List.getElem?_cons_succ] at x5
  have CI := Lib.hid (idx_area ba w.heap.size _ w1 ka (by omega) x5)
  clear c1 ha hr
  replace kz := Lib.hid kz
  go_upto_region 2 with (go_at_call 57; refine Calls.mono CI.out ?_; rintro e w2 ⟨rfl, hB2⟩)
  clear CI x5
  have K0 := Blk.call hB2 k0
  have K1 := Blk.call hB2 k1
  have Ka := Blk.call hB2 ka
  have Kr := Blk.call hB2 kr
  have E1 := (hB2.cell (p := ⟨b1, 0, none⟩) (show b1 < w1.heap.size by have := kz.out; omega)).trans e1
  have hB := below_call kB hB2 (Nat.le_refl _)
  have hz2 : w.heap.size + 2 ≤ w2.heap.size := by have := hB2.size; have := kz.out; omega
  clear k0 k1 ka kr e1 hB2 kB
  have y4 := K0.cell 4
  have y5 := K0.cell 5
  have y0 := K0.cell 0
  have y1 := K0.cell 1
  have a5 := Ka.cell 5
  have r0 := Kr.cell 0
  have r1 := Kr.cell 1
  have r2 := Kr.cell 2
  simp only [List.getElem?_toArray, List.getElem?_cons_zero, List.getElem?_cons_succ] at y0 y1 y4 y5 a5 r0 r1 r2
  clear K0 Ka Kr
  go_upto_region 4 with fail
  have hS0 : Below (w.heap.size + 1) w2 w2.drew := (Below.refl _ _).drew
  have q1 : ∀ W, Below (w.heap.size + 1) w2 W → W.cell? ⟨b1, 0, none⟩ = some (.slice (some ⟨ba, 0, none⟩) 1 1) := fun W h => (h.cell (p := ⟨b1, 0, none⟩) (by show b1 < w.heap.size + 1; omega)).trans E1
  have qa : ∀ W, Below (w.heap.size + 1) w2 W → W.cell? ⟨ba, 5, none⟩ = some (.slice (some ⟨br, 0, none⟩) 1 1) := fun W h => (h.cell (p := ⟨ba, 5, none⟩) (by show ba < w.heap.size + 1; omega)).trans a5
  have qy0 : ∀ W, Below (w.heap.size + 1) w2 W → W.cell? ⟨w.heap.size, 0, none⟩ = some (.int .u32 167837696) := fun W h => (h.cell (p := ⟨w.heap.size, 0, none⟩) (by show w.heap.size < w.heap.size + 1; omega)).trans y0
  have qy1 : ∀ W, Below (w.heap.size + 1) w2 W → W.cell? ⟨w.heap.size, 1, none⟩ = some (.int .u8 16) := fun W h => (h.cell (p := ⟨w.heap.size, 1, none⟩) (by show w.heap.size < w.heap.size + 1; omega)).trans y1
  have CW := Lib.hid (within_one br w2.drew (by show br < w2.heap.size; omega) r0 r1 r2)
  clear r0 r1 r2 y0 y1 y4 y5 a5 E1
  replace K1 := Lib.hid K1
  go_region_held3 (fun W => Below (w.heap.size + 1) w2 W) (first | assumption | exact (Below.refl _ _).drew | fail)
    (first
      | (go_at_call 59; refine Calls.mono CW.out ?_; rintro e w3 ⟨rfl, hB3⟩; have hS3 : Below (w.heap.size + 1) w2 w3 := below_call hS0 hB3 (by show w.heap.size + 1 ≤ w2.heap.size; omega); have K3 := Blk.call (W := w2.drew) hB3 K1.out; dsimp only)
      | (refine upon3 (t := 114) (x0 := .int .u32 0) (x1 := .int .u8 0) (x2 := .bool false) K3 _ _ _ ?_; intro W5 kW5 pW5; have SW5 := pW5.below hS3 (by omega); go_simp)
      | fail)
  go_wp2
  refine bodyPost_ret (results_cell_tmp_row rfl _ _ (w.heap.size + 1) 114 _ (0, 0) _ rfl kW5 Try.underlying114 rfl (by kernel_rfl)) rfl ?_
  exact ⟨rfl, hB.trans (SW5.mono (by omega))⟩
end Go.Proofs.Ytdilbcmnfpmijaa
