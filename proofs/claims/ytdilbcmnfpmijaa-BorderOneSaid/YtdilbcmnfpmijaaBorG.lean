/- border's unlike at the one way of layer 23's known run. Conditions: the way lies in memory. -/
import Derived.Test.YtdilbcmnfpmijaaBorF
import Derived.DeepKeys4
namespace Go.Proofs.Ytdilbcmnfpmijaa
open Go.RowKit Go.Lo Go.Maps Go.WideMaps

theorem laidOut : laidOutB Try.prog = true := by kernel_rfl
theorem pref_keyed : Keyed Try.prog 46 := Keyed.of_law (deep_law_laid laidOut (m := 2) (by omega) (of_decide_eq_true (by kernel_rfl)) (by kernel_rfl) (by rw [Try.underlying46]))
theorem pref_key : ∃ kl, keyOf Try.prog 46 (prefV 167772160 8) = some kl := Option.isSome_iff_exists.1 (by kernel_rfl)

abbrev wayR : Array Value := #[.int .u32 167772160, .int .u8 8, .int .u32 0, .int .u8 0, .int .u8 1, .int .u32 1, .int .u32 3, .int .u32 0, .int .u32 0, .slice none 0 0]
theorem wayT : ElT Try.prog 81 83 10 56 := ⟨by kernel_rfl, by
  obtain ⟨i, hi, h1, h2, h3⟩ := info_parts (show (Try.prog.info? 83).map (fun i => (i.zero, i.size, i.bytes)) = some (some (.agg #[.int .u32 0, .int .u8 0, .int .u32 0, .int .u8 0, .int .u8 0, .int .u32 0, .int .u32 0, .int .u32 0, .int .u32 0, .slice none 0 0]), 10, 56) by kernel_rfl)
  exact ⟨i, _, hi, h1, h2, h3, rfl⟩, by omega⟩

set_option maxRecDepth 100000 in
theorem net_of (w : World) : Calls Try.prog 62 #[.agg wayR] w fun e w' => e = .returned (prefV 167772160 8) ∧ Below w.heap.size w w' := by
  have k0 : Blk ((w.alloc (.cells wayR 83)).alloc (.cells (prefCells 0 0) 46)) w.heap.size 83 wayR := (Blk.new _ _ _).alloc _
  have k1 : Blk ((w.alloc (.cells wayR 83)).alloc (.cells (prefCells 0 0) 46)) (w.heap.size + 1) 46 (prefCells 0 0) := heap_alloc2_new w _ _
  have kB : Below w.heap.size w ((w.alloc (.cells wayR 83)).alloc (.cells (prefCells 0 0) 46)) := ((Below.refl _ _).alloc (Nat.le_refl _) _).alloc (by simp) _
  go_enter Try.func62, Try.ntmps62
  go_upto_region 1 with fail
  generalize (w.alloc (.cells wayR 83)).alloc (.cells (prefCells 0 0) 46) = w1 at k0 k1 kB ⊢
  have x0 := k0.cell 0
  have x1 := k0.cell 1
  have y0 := k1.cell 0
  have y1 := k1.cell 1
  have f0 := k1.free 0
  have f1 := k1.free 1
  simp only [List.getElem?_toArray, List.getElem?_cons_zero, List.getElem?_cons_succ] at x0 x1 y0 y1
  have K := (k1.set_ 0 (.int .u32 167772160)).set_ 1 (.int .u8 8)
  replace k1 := Lib.hid k1
  replace K := Lib.hid K
  go_wp2
  refine bodyPost_ret (results_cell_row rfl _ _ (w.heap.size + 1) 46 (prefCells 167772160 8) (0, 0) _ rfl K.out Try.underlying46 rfl (by kernel_rfl)) rfl ?_
  exact ⟨rfl, (kB.setCell (by show w.heap.size ≤ w.heap.size + 1; omega) _).setCell (by show w.heap.size ≤ w.heap.size + 1; omega) _⟩

/-- the rounds of unlike -/
def UnlR (w w0 : World) (m : Nat) (v6 i : Value) (wr : World) : Prop :=
  (m = 1 ∧ i = .int .i64 0 ∧ v6 = .slice none 0 0 ∧ wr = w0) ∨ (m = 0 ∧ i = .int .i64 1 ∧ wr.ownsRow w.heap.size 83 10 v6 1 wayR.toList ∧ Below w.heap.size w wr)

set_option maxRecDepth 100000 in
set_option maxHeartbeats 2000000 in
theorem unlike_one (bo c : Nat) (w : World) (hl : bo < w.heap.size) (ho : w.ownsRow 0 83 10 (.slice (some ⟨bo, 0, none⟩) 1 c) 1 wayR.toList) :
    Calls Try.prog 61 #[.slice (some ⟨bo, 0, none⟩) 1 c, .func (.func 62) #[] #[]] w fun e w' => ∃ v, e = .returned v ∧ w'.ownsRow w.heap.size 83 10 v 1 wayR.toList ∧ Below w.heap.size w w' := by
  have c0 : w.cell? ⟨bo, 0, none⟩ = some (wayR[0]) := ho.cellAt 0 (by omega)
  have c1 : w.cell? ⟨bo, 1, none⟩ = some (wayR[1]) := ho.cellAt 1 (by omega)
  have c2 : w.cell? ⟨bo, 2, none⟩ = some (wayR[2]) := ho.cellAt 2 (by omega)
  have c3 : w.cell? ⟨bo, 3, none⟩ = some (wayR[3]) := ho.cellAt 3 (by omega)
  have c4 : w.cell? ⟨bo, 4, none⟩ = some (wayR[4]) := ho.cellAt 4 (by omega)
  have c5 : w.cell? ⟨bo, 5, none⟩ = some (wayR[5]) := ho.cellAt 5 (by omega)
  have c6 : w.cell? ⟨bo, 6, none⟩ = some (wayR[6]) := ho.cellAt 6 (by omega)
  have c7 : w.cell? ⟨bo, 7, none⟩ = some (wayR[7]) := ho.cellAt 7 (by omega)
  have c8 : w.cell? ⟨bo, 8, none⟩ = some (wayR[8]) := ho.cellAt 8 (by omega)
  have c9 : w.cell? ⟨bo, 9, none⟩ = some (wayR[9]) := ho.cellAt 9 (by omega)
  have hM := World.ownsMap_made (H := Unit) w Try.prog 46 (plainElem Try.prog 4)
  have hB0 : Below w.heap.size w (w.alloc (.map #[] 0)) := (Below.refl _ _).alloc (Nat.le_refl _) _
  have hz0 : (w.alloc (.map #[] 0)).heap.size = w.heap.size + 1 := by simp
  have hmm := @run_makeMap Try.prog
  clear ho
  go_enter Try.func61, Try.ntmps61
  go_wp2_with fail
  generalize w.alloc (.map #[] 0) = w0 at hM hB0 hz0 ⊢
  clear hmm
  go_loopg [6, 12] 1 (fun m v6 i wr => UnlR w w0 m v6 i wr)
  case atStart => exact .inl ⟨rfl, rfl, rfl, rfl⟩
  case round =>
    rcases hrel with ⟨hm, rfl, rfl, rfl⟩ | ⟨rfl, rfl, hown, hB⟩
    · obtain ⟨w1, rfl⟩ : ∃ x : World, x = wr := ⟨_, rfl⟩
      have d0 := (hB0.cell (p := ⟨bo, 0, none⟩) hl).trans c0
      have d1 := (hB0.cell (p := ⟨bo, 1, none⟩) hl).trans c1
      have d2 := (hB0.cell (p := ⟨bo, 2, none⟩) hl).trans c2
      have d3 := (hB0.cell (p := ⟨bo, 3, none⟩) hl).trans c3
      have d4 := (hB0.cell (p := ⟨bo, 4, none⟩) hl).trans c4
      have d5 := (hB0.cell (p := ⟨bo, 5, none⟩) hl).trans c5
      have d6 := (hB0.cell (p := ⟨bo, 6, none⟩) hl).trans c6
      have d7 := (hB0.cell (p := ⟨bo, 7, none⟩) hl).trans c7
      have d8 := (hB0.cell (p := ⟨bo, 8, none⟩) hl).trans c8
      have d9 := (hB0.cell (p := ⟨bo, 9, none⟩) hl).trans c9
      clear c0 c1 c2 c3 c4 c5 c6 c7 c8 c9
      replace hm := Lib.hid hm
      have hwz : w.heap.size < w1.heap.size := by omega
      clear hz0
      go_upto_region 6 with fail
      have kx := Blk.new w1 83 wayR
      have hM1 := hM.alloc (.cells wayR 83)
      have hB1 := hB0.alloc hB0.size (.cells wayR 83)
      have hz1 : (w1.alloc (.cells wayR 83)).heap.size = w1.heap.size + 1 := by simp
      clear hM hB0 d0 d1 d2 d3 d4 d5 d6 d7 d8 d9
      generalize w1.alloc (.cells wayR 83) = w2 at kx hM1 hB1 hz1 ⊢
      generalize w1.heap.size = bx at kx hwz hz1 ⊢
      replace hz1 := Lib.hid hz1
      have x0 := kx.cell 0
      have x1 := kx.cell 1
      have x2 := kx.cell 2
      have x3 := kx.cell 3
      have x4 := kx.cell 4
      have x5 := kx.cell 5
      have x6 := kx.cell 6
      have x7 := kx.cell 7
      have x8 := kx.cell 8
      have x9 := kx.cell 9
      simp only [List.getElem?_toArray, List.getElem?_cons_zero, List.getElem?_cons_succ] at x0 x1 x2 x3 x4 x5 x6 x7 x8 x9
      obtain ⟨kl, hkl⟩ := pref_key
      have hZB : ∀ W, (zeroValue 4).run Try.prog W = .ok (.bool false) W := fun W => by kernel_rfl
      have HM1 := Lib.hid hM1
      clear hM1
      go_upto_region 7 with (go_at_call 62; refine Calls.mono (net_of _) ?_; rintro e w3 ⟨rfl, hB3⟩; have hM3 := HM1.out.kept (grown_of_below hB3 none) (by simp); have L0 : (Instr.lookup 178 (.map (some w.heap.size)) (prefV 167772160 8) false).run Try.prog w3 = .ok (.bool false) w3 := lookup_bool hM3 pref_keyed Try.underlying178 Try.underlying4 (hZB _) hkl rfl; replace hM3 := Lib.hid hM3)
      clear L0 x0 x1 x2 x3 x4 x5 x6 x7 x8 x9
      have ky := Blk.call hB3 kx
      have hB3' := below_call hB1 hB3 (Nat.le_refl _)
      have hz3 := hB3.size
      have lx := ky.lt
      have y0 := ky.cell 0
      have y1 := ky.cell 1
      have y2 := ky.cell 2
      have y3 := ky.cell 3
      have y4 := ky.cell 4
      have y5 := ky.cell 5
      have y6 := ky.cell 6
      have y7 := ky.cell 7
      have y8 := ky.cell 8
      have y9 := ky.cell 9
      simp only [List.getElem?_toArray, List.getElem?_cons_zero, List.getElem?_cons_succ] at y0 y1 y2 y3 y4 y5 y6 y7 y8 y9
      go_upto_region 8 with (at_builtin; refine wpList_append rfl (.tmp 22) (.tmp 24) 81 rfl w3.heap.size wayT (.slice none 0 0) 0 [] rfl (World.ownsRow_nil _ _ _ _) _ _ 1 wayR.toList rfl (Sl.lit _ wayR 83 (by simp [maxLen]) rfl) (by simp [Value.oneCell']) (by simp only [maxLen]; omega) (by omega) (by simp) ?_; intro v4 w4 ho4 hg4 hob4)
      simp only [Nat.zero_add, List.nil_append] at ho4
      have hg4' := grown_trans (grown_alloc (grown_refl w3 none) (.cells wayR 83)) hg4
      have hM4 := hM3.out.kept hg4' (by simp)
      have kz := ky.same (hg4'.block _ lx (by simp))
      have hB4 := hB3'.trans (below_of_grown hg4' hB3'.size (by simp))
      have hz4 := hg4'.size
      clear hg4 hob4 hM3 y0 y1 y2 y3 y4 y5 y6 y7 y8 y9
      have z0 := kz.cell 0
      have z1 := kz.cell 1
      have z2 := kz.cell 2
      have z3 := kz.cell 3
      have z4 := kz.cell 4
      have z5 := kz.cell 5
      have z6 := kz.cell 6
      have z7 := kz.cell 7
      have z8 := kz.cell 8
      have z9 := kz.cell 9
      simp only [List.getElem?_toArray, List.getElem?_cons_zero, List.getElem?_cons_succ] at z0 z1 z2 z3 z4 z5 z6 z7 z8 z9
      obtain ⟨-, A4, cc4, rfl, -⟩ := Sl.of_own ho4
      replace hM4 := Lib.hid hM4
      replace ho4 := Lib.hid ho4
      replace hg4' := Lib.hid hg4'
      go_wp2_with (first
        | (go_at_call 62; refine Calls.mono (net_of _) ?_; rintro e w5 ⟨rfl, hB5⟩; have hM5 := hM4.out.kept (grown_of_below hB5 none) (by simp); replace hM5 := Lib.hid hM5)
        | (at_mapUpdate; refine wpList_mapUpdate_own _ rfl _ _ _ 178 rfl 46 4 pref_keyed Try.underlying178 _ w.heap.size 0 (.map []) rfl hM5.out (by simp only [maxLen]; omega) _ _ kl rfl rfl hkl (.lit (.bool true)) [] (plainElem_bool Try.underlying4 true) ?_; intro w6 hM6 hG6; replace hG6 := Lib.hid hG6; clear hM6)
        | fail)
      replace hG6 := hG6.out
      have ho5 := own_below ho4.out hB5
      go_roundg (1 - 1)
      case measure => have := hm.out; omega
      case rel =>
        have ho6 := own_same ho5 fun k hk => hG6.block k (ho5.lt k hk).2 fun e => by have h1 := Option.some.inj e; have h2 := (ho5.lt k hk).1; omega
        refine .inr ⟨rfl, rfl, own_less ho6 (by omega), (below_call hB4 hB5 (Nat.le_refl _)).trans (below_of_grown hG6 (below_call hB4 hB5 (Nat.le_refl _)).size (fun g hg => by obtain rfl := Option.some.inj hg; exact Nat.le_refl _))⟩

    · obtain ⟨-, A4, cc4, rfl, -⟩ := Sl.of_own hown
      go_wp2
      go_ret
      exact ⟨_, rfl, hown, hB⟩
end Go.Proofs.Ytdilbcmnfpmijaa
