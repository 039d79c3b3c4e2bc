/- border's Ranged at layer 23's known run. Conditions: the way, the area and its range lie in memory. -/
import Derived.Test.YtdilbcmnfpmijaaBorG
namespace Go.Proofs.Ytdilbcmnfpmijaa
open Go.RowKit Go.Lo Go.Maps Go.WideMaps

theorem group_keyed : Keyed Try.prog 150 := Keyed.of_law (deep_law_laid laidOut (m := 3) (by omega) (of_decide_eq_true (by kernel_rfl)) (by kernel_rfl) (by rw [Try.underlying150]))
abbrev groupC : Array Value := #[.int .u32 167772160, .int .u8 8, .int .u32 1]
theorem group_key : ∃ kl, keyOf Try.prog 150 (.agg groupC) = some kl := Option.isSome_iff_exists.1 (by kernel_rfl)
abbrev areaZ : Array Value := #[.int .u32 0, .int .u8 0, .bool false, .int .u32 0, .bool false, .slice none 0 0]

/-- the rounds of Ranged -/
def RangR (w w0 : World) (m : Nat) (v9 i : Value) (wr : World) : Prop :=
  (m = 1 ∧ i = .int .i64 0 ∧ v9 = .slice none 0 0 ∧ wr = w0) ∨ (m = 0 ∧ i = .int .i64 1 ∧ wr.ownsRow w.heap.size 83 10 v9 1 wayR.toList ∧ Below w.heap.size w wr)

set_option maxRecDepth 100000 in
set_option maxHeartbeats 4000000 in
theorem ranged_known (bn ba br : Nat) (w : World) (hn : Blk w bn 83 wayC) (ha : Blk w ba 117 (areaC (.slice (some ⟨br, 0, none⟩) 1 1))) (hr : Blk w br 114 rangeC) :
    Calls Try.prog 39 #[.slice (some ⟨bn, 0, none⟩) 1 1, .slice (some ⟨ba, 0, none⟩) 1 1, .agg areaZ] w fun e w' => ∃ v, e = .returned v ∧ w'.ownsRow w.heap.size 83 10 v 1 wayR.toList ∧ Below w.heap.size w w' := by
  have k4 : Blk ((w.alloc (.cells #[.slice (some ⟨ba, 0, none⟩) 1 1] 118)).alloc (.cells areaZ 117)) w.heap.size 118 #[.slice (some ⟨ba, 0, none⟩) 1 1] := (Blk.new _ _ _).alloc _
  have k5 : Blk ((w.alloc (.cells #[.slice (some ⟨ba, 0, none⟩) 1 1] 118)).alloc (.cells areaZ 117)) (w.heap.size + 1) 117 areaZ := heap_alloc2_new w _ _
  have kB : Below w.heap.size w ((w.alloc (.cells #[.slice (some ⟨ba, 0, none⟩) 1 1] 118)).alloc (.cells areaZ 117)) := ((Below.refl _ _).alloc (Nat.le_refl _) _).alloc (by simp) _
  have kz : (((w.alloc (.cells #[.slice (some ⟨ba, 0, none⟩) 1 1] 118)).alloc (.cells areaZ 117)) : World).heap.size = w.heap.size + 2 := by simp
  have hM : (((w.alloc (.cells #[.slice (some ⟨ba, 0, none⟩) 1 1] 118)).alloc (.cells areaZ 117)).alloc (.map #[] 0)).ownsMap Try.prog 150 (plainElem (H := Unit) Try.prog 3) (w.heap.size + 1 + 1) 0 (.map []) := kz ▸ World.ownsMap_made (H := Unit) ((w.alloc (.cells #[.slice (some ⟨ba, 0, none⟩) 1 1] 118)).alloc (.cells areaZ 117)) Try.prog 150 (plainElem Try.prog 3)
  have m4 := k4.alloc (.map #[] 0)
  have m5 := k5.alloc (.map #[] 0)
  have mB := kB.alloc kB.size (.map #[] 0)
  have mz : ((((w.alloc (.cells #[.slice (some ⟨ba, 0, none⟩) 1 1] 118)).alloc (.cells areaZ 117)).alloc (.map #[] 0)) : World).heap.size = w.heap.size + 3 := by simp
  have hmm := @run_makeMap Try.prog
  have ln := hn.lt
  have la := ha.lt
  have lr := hr.lt
  have hn0 := hn.below mB ln
  have ha0 := ha.below mB la
  have hr0 := hr.below mB lr
  clear k4 k5 kB kz hn ha hr
  go_enter Try.func39, Try.ntmps39
  go_wp2_with fail
  generalize (((w.alloc (.cells #[.slice (some ⟨ba, 0, none⟩) 1 1] 118)).alloc (.cells areaZ 117)).alloc (.map #[] 0)) = w0 at hM m4 m5 mB mz hn0 ha0 hr0 ⊢
  clear hmm
  go_loopg [9, 21] 1 (fun m v9 i wr => RangR w w0 m v9 i wr)
  case atStart => exact .inl ⟨rfl, rfl, rfl, rfl⟩
  case round =>
    rcases hrel with ⟨hm, rfl, rfl, rfl⟩ | ⟨rfl, rfl, hown, hB⟩
    · obtain ⟨w1, rfl⟩ : ∃ x : World, x = wr := ⟨_, rfl⟩
      replace hm := Lib.hid hm
      have hw1 : w.heap.size + 2 < w1.heap.size := by omega
      replace mz := Lib.hid mz
      have n0 := hn0.cell 0
      have n1 := hn0.cell 1
      have n2 := hn0.cell 2
      have n3 := hn0.cell 3
      have n4 := hn0.cell 4
      have n5 := hn0.cell 5
      have n6 := hn0.cell 6
      have n7 := hn0.cell 7
      have n8 := hn0.cell 8
      have n9 := hn0.cell 9
      simp only [List.getElem?_toArray, List.getElem?_cons_zero, List.getElem?_cons_succ] at n0 n1 n2 n3 n4 n5 n6 n7 n8 n9
      go_upto_region 7 with fail
      have kw := Blk.new w1 83 wayC
      have m4' := m4.alloc (.cells wayC 83)
      have m5' := m5.alloc (.cells wayC 83)
      have ha1 := ha0.alloc (.cells wayC 83)
      have hr1 := hr0.alloc (.cells wayC 83)
      have hM1 := hM.alloc (.cells wayC 83)
      have mB' := mB.alloc mB.size (.cells wayC 83)
      have mz1 : (w1.alloc (.cells wayC 83)).heap.size = w1.heap.size + 1 := by simp
      clear m4 m5 ha0 hr0 hM mB hn0 n0 n1 n2 n3 n4 n5 n6 n7 n8 n9
      generalize w1.alloc (.cells wayC 83) = w2 at kw m4' m5' ha1 hr1 hM1 mB' mz1 ⊢
      generalize w1.heap.size = bw at kw hw1 mz mz1 ⊢
      replace mz1 := Lib.hid mz1
      have x0 := kw.cell 0
      have x1 := kw.cell 1
      have x2 := kw.cell 2
      have x3 := kw.cell 3
      have x4 := kw.cell 4
      have x5 := kw.cell 5
      have x6 := kw.cell 6
      have x7 := kw.cell 7
      have x8 := kw.cell 8
      have x9 := kw.cell 9
      simp only [List.getElem?_toArray, List.getElem?_cons_zero, List.getElem?_cons_succ] at x0 x1 x2 x3 x4 x5 x6 x7 x8 x9
      have y0 := m5'.cell 0
      have y4 := m4'.cell 0
      simp only [List.getElem?_toArray, List.getElem?_cons_zero] at y0 y4
      have CR := Lib.hid (ranges_any w.heap.size (w.heap.size + 1) ba br w2 (by have := m4'.lt; omega) y4 ha1 hr1)
      clear y4
      go_upto_region 9 with (go_at_call 56; refine Calls.mono CR.out ?_; rintro e w3 ⟨rfl, hB3⟩)
      clear x0 x1 x2 x3 x4 x5 x6 x7 x8 x9 y0
      have hM3 := hM1.kept (grown_of_below hB3 none) (by simp)
      have kw3 := Blk.call hB3 kw
      have B3 := below_call mB' hB3 (Nat.le_refl _)
      have z3 := hB3.size
      have lw := kw3.lt
      have kr := Blk.new w3 114 rangeC
      have kw4 := kw3.alloc (.cells rangeC 114)
      have hM4 := hM3.alloc (.cells rangeC 114)
      have B4 := B3.alloc B3.size (.cells rangeC 114)
      clear m4' m5' ha1 hr1 hM1 mB' kw hB3 hM3 kw3 B3 CR
      have z4 : (w3.alloc (.cells rangeC 114)).heap.size = w3.heap.size + 1 := by simp
      generalize w3.alloc (.cells rangeC 114) = w4 at kr kw4 hM4 B4 z4 ⊢
      generalize w3.heap.size = bq at kr z3 lw z4 ⊢
      replace z4 := Lib.hid z4
      replace hM4 := Lib.hid hM4
      have r0 := kr.cell 0
      have r1 := kr.cell 1
      have x5 := kw4.cell 5
      simp only [List.getElem?_toArray, List.getElem?_cons_zero, List.getElem?_cons_succ] at r0 r1 x5
      go_upto_region 13 with fail
      clear r0 r1 x5
      have kg := Blk.new w4 150 groupC
      have kr5 := kr.alloc (.cells groupC 150)
      have kw5 := kw4.alloc (.cells groupC 150)
      have hM5 := hM4.out.alloc (.cells groupC 150)
      have B5 := B4.alloc B4.size (.cells groupC 150)
      have z5 : (w4.alloc (.cells groupC 150)).heap.size = w4.heap.size + 1 := by simp
      clear kr kw4 hM4 B4
      generalize w4.alloc (.cells groupC 150) = w5 at kg kr5 kw5 hM5 B5 z5 ⊢
      have z4' := z4.out
      generalize w4.heap.size = bg at kg z4' z5 ⊢
      replace z5 := Lib.hid z5
      replace z4' := Lib.hid z4'
      obtain ⟨kl, hkl⟩ := group_key
      have hZI : ∀ W, (zeroValue 3).run Try.prog W = .ok (.int .i64 0) W := fun W => by kernel_rfl
      have g0 := kg.cell 0
      have g1 := kg.cell 1
      have g2 := kg.cell 2
      simp only [List.getElem?_toArray, List.getElem?_cons_zero, List.getElem?_cons_succ] at g0 g1 g2
      replace hM5 := Lib.hid hM5
      go_upto_region 15 with (at_lookup; refine wpList_lookup_own_ok_int _ rfl _ _ 147 rfl 150 3 .i64 group_keyed Try.underlying147 Try.underlying3 (hZI _) (w.heap.size + 1 + 1) 0 (.map []) rfl hM5.out _ kl rfl hkl ?_; intro cc hcc hwc; rw [show Maps.has (DataW.map (H := Unit) []) kl = false from rfl])
      clear hcc hwc
      go_upto_region 16 with (at_mapUpdate; refine wpList_mapUpdate_own _ rfl _ _ _ 147 rfl 150 3 group_keyed Try.underlying147 _ (w.heap.size + 1 + 1) 0 (.map []) rfl hM5.out (by simp only [maxLen]; omega) _ _ kl rfl rfl hkl (.lit (.int .i64 (-1))) [] (plainElem_int Try.underlying3 (by decide)) ?_; intro w6 hM6 hG6; replace hG6 := Lib.hid hG6; replace hM6 := Lib.hid hM6)
      clear g0 g1 g2
      have ne1 : bq ≠ w.heap.size + 1 + 1 := by omega
      have ne2 : bw ≠ w.heap.size + 1 + 1 := by omega
      have ne3 : bg ≠ w.heap.size + 1 + 1 := by have := z4'.out; omega
      have kr6 := kr5.same (hG6.out.block _ kr5.lt (fun e => ne1 (Option.some.inj e)))
      have kw6 := kw5.same (hG6.out.block _ kw5.lt (fun e => ne2 (Option.some.inj e)))
      have kg6 := kg.same (hG6.out.block _ kg.lt (fun e => ne3 (Option.some.inj e)))
      have B6 := B5.trans (below_of_grown hG6.out B5.size (fun g hg => by obtain rfl := Option.some.inj hg; omega))
      clear kr5 kw5 kg B5 hG6
      have r2 := kr6.cell 2
      have g0 := kg6.cell 0
      have g1 := kg6.cell 1
      have g2 := kg6.cell 2
      simp only [List.getElem?_toArray, List.getElem?_cons_zero, List.getElem?_cons_succ] at r2 g0 g1 g2
      go_upto_region 18 with (at_mapUpdate; refine wpList_mapUpdate_own _ rfl _ _ _ 147 rfl 150 3 group_keyed Try.underlying147 _ (w.heap.size + 1 + 1) (0 + 1) _ rfl hM6.out (by simp only [maxLen]; omega) _ _ kl rfl rfl hkl (.lit (.int .i64 0)) [] (plainElem_int Try.underlying3 (by decide)) ?_; intro w7 hM7 hG7; replace hG7 := Lib.hid hG7; clear hM7)
      clear r2 g0 g1 g2 hM6
      have kr7 := kr6.same (hG7.out.block _ kr6.lt (fun e => ne1 (Option.some.inj e)))
      have kw7 := kw6.same (hG7.out.block _ kw6.lt (fun e => ne2 (Option.some.inj e)))
      have B7 := B6.trans (below_of_grown hG7.out B6.size (fun g hg => by obtain rfl := Option.some.inj hg; omega))
      clear kr6 kw6 kg6 B6 hG7
      have r0 := kr7.cell 0
      have r1 := kr7.cell 1
      have x5 := kw7.cell 5
      have x6 := kw7.cell 6
      simp only [List.getElem?_toArray, List.getElem?_cons_zero, List.getElem?_cons_succ] at r0 r1 x5 x6
      go_wp2_with (at_builtin; refine wpList_append rfl (.tmp 88) (.tmp 96) 81 rfl w.heap.size wayT (.slice none 0 0) 0 [] rfl (World.ownsRow_nil _ _ _ _) _ _ 1 wayR.toList rfl (Sl.lit _ wayR 83 (by simp [maxLen]) rfl) (by simp [Value.oneCell']) (by simp only [maxLen]; omega) (by omega) (by have := B7.size; simp; omega) ?_; intro v8 w8 ho8 hg8 hob8; simp only [Nat.zero_add, List.nil_append] at ho8)
      go_roundg (1 - 1)
      case measure => have := hm.out; omega
      case rel => exact .inr ⟨rfl, rfl, ho8, (B7.alloc B7.size (.cells wayR 83)).trans (below_of_grown hg8 (by have := B7.size; simp; omega) (by simp [Value.ownBlock]))⟩
    · obtain ⟨g9, c9, rfl, hg9, hl9⟩ := hown.form (by omega)
      have CU := Lib.hid (unlike_one g9 c9 wr hl9 (own_less hown (Nat.zero_le _)))
      go_wp2_with (go_at_call 61; refine Calls.mono CU.out ?_; rintro e w2 ⟨v, rfl, ho2, hB2⟩)
      go_ret
      exact ⟨v, rfl, own_less ho2 hB.size, below_call hB hB2 (Nat.le_refl _)⟩
end Go.Proofs.Ytdilbcmnfpmijaa
