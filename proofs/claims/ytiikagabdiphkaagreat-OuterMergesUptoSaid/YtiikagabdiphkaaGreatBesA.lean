/- The comparison by which outer.best sorts, and slices.SortFunc with it. Conditions: the row is the call's own. -/
import Derived.Test.YtiikagabdiphkaaGreatMp
namespace Go.Proofs.YtiikagabdiphkaaGreat
open Go.RowKit Go.Lo

def keyCmp2 (x y : WayN) : Int := orI [cmpI x.addr y.addr, cmpI x.bits y.bits]
def ltO (x y : WayV) : Bool := decide (keyCmp2 x.n y.n < 0)
theorem ltO_iff (x y : WayV) : ltO x y = true ↔ (x.n.addr < y.n.addr ∨ (x.n.addr = y.n.addr ∧ x.n.bits < y.n.bits)) := by
  unfold ltO keyCmp2
  rw [decide_eq_true_eq]
  rcases cmpI_cases x.n.addr y.n.addr with ⟨h1, e1⟩ | ⟨h1, e1⟩ | ⟨h1, e1⟩ <;> rcases cmpI_cases x.n.bits y.n.bits with ⟨h2, e2⟩ | ⟨h2, e2⟩ | ⟨h2, e2⟩ <;> simp [e1, e2, orI] <;> omega
theorem swo_ltO : Sort.SWO ltO where
  irrefl x := by
    cases h : ltO x x with
    | false => rfl
    | true => have := (ltO_iff x x).1 h; omega
  trans x y z h1 h2 := by
    have a1 := (ltO_iff x y).1 h1
    have a2 := (ltO_iff y z).1 h2
    exact (ltO_iff x z).2 (by omega)
  ntrans x y z h1 h2 := by
    have a1 : ¬ (x.n.addr < y.n.addr ∨ (x.n.addr = y.n.addr ∧ x.n.bits < y.n.bits)) := fun h => by rw [(ltO_iff x y).2 h] at h1; cases h1
    have a2 : ¬ (y.n.addr < z.n.addr ∨ (y.n.addr = z.n.addr ∧ y.n.bits < z.n.bits)) := fun h => by rw [(ltO_iff y z).2 h] at h2; cases h2
    cases h : ltO x z with
    | false => rfl
    | true => have := (ltO_iff x z).1 h; omega

set_option maxRecDepth 100000 in
theorem ocmp_any (x y : WayV) (w : World) : Calls Tryz.prog 123 #[.agg x.cells, .agg y.cells] w fun e w' => e = .returned (.int .i64 (keyCmp2 x.n y.n)) ∧ Below w.heap.size w w' := by
  obtain ⟨⟨x0, x1, x2, x3, x4, x5, x6, x7, x8⟩, xA, xn, xc⟩ := x
  obtain ⟨⟨y0, y1, y2, y3, y4, y5, y6, y7, y8⟩, yA, yn, yc⟩ := y
  dsimp only [WayV.cells, wayC, keyCmp2]
  have k0 : Blk ((w.alloc (.cells #[.int .u32 x0, .int .u8 x1, .int .u32 x2, .int .u8 x3, .int .u8 x4, .int .u32 x5, .int .u32 x6, .int .u32 x7, .int .u32 x8, .slice xA xn xc] 38)).alloc (.cells #[.int .u32 y0, .int .u8 y1, .int .u32 y2, .int .u8 y3, .int .u8 y4, .int .u32 y5, .int .u32 y6, .int .u32 y7, .int .u32 y8, .slice yA yn yc] 38)) w.heap.size 38 #[.int .u32 x0, .int .u8 x1, .int .u32 x2, .int .u8 x3, .int .u8 x4, .int .u32 x5, .int .u32 x6, .int .u32 x7, .int .u32 x8, .slice xA xn xc] := (Blk.new _ _ _).alloc _
  have k1 : Blk ((w.alloc (.cells #[.int .u32 x0, .int .u8 x1, .int .u32 x2, .int .u8 x3, .int .u8 x4, .int .u32 x5, .int .u32 x6, .int .u32 x7, .int .u32 x8, .slice xA xn xc] 38)).alloc (.cells #[.int .u32 y0, .int .u8 y1, .int .u32 y2, .int .u8 y3, .int .u8 y4, .int .u32 y5, .int .u32 y6, .int .u32 y7, .int .u32 y8, .slice yA yn yc] 38)) (w.heap.size + 1) 38 #[.int .u32 y0, .int .u8 y1, .int .u32 y2, .int .u8 y3, .int .u8 y4, .int .u32 y5, .int .u32 y6, .int .u32 y7, .int .u32 y8, .slice yA yn yc] := heap_alloc2_new w _ _
  have kB : Below w.heap.size w ((w.alloc (.cells #[.int .u32 x0, .int .u8 x1, .int .u32 x2, .int .u8 x3, .int .u8 x4, .int .u32 x5, .int .u32 x6, .int .u32 x7, .int .u32 x8, .slice xA xn xc] 38)).alloc (.cells #[.int .u32 y0, .int .u8 y1, .int .u32 y2, .int .u8 y3, .int .u8 y4, .int .u32 y5, .int .u32 y6, .int .u32 y7, .int .u32 y8, .slice yA yn yc] 38)) := ((Below.refl _ _).alloc (Nat.le_refl _) _).alloc (by simp) _
  go_enter Tryz.func123, Tryz.ntmps123
  go_upto_region 1 with fail
  generalize (w.alloc (.cells #[.int .u32 x0, .int .u8 x1, .int .u32 x2, .int .u8 x3, .int .u8 x4, .int .u32 x5, .int .u32 x6, .int .u32 x7, .int .u32 x8, .slice xA xn xc] 38)).alloc (.cells #[.int .u32 y0, .int .u8 y1, .int .u32 y2, .int .u8 y3, .int .u8 y4, .int .u32 y5, .int .u32 y6, .int .u32 y7, .int .u32 y8, .slice yA yn yc] 38) = w1 at k0 k1 kB ⊢
  have c0 := k0.cell 0
  have c1 := k0.cell 1
  have d0 := k1.cell 0
  have d1 := k1.cell 1
  have hz := k1.lt
  simp only [List.getElem?_toArray, List.getElem?_cons_zero, List.getElem?_cons_succ] at c0 c1 d0 d1
  clear k0 k1
  have q0 : ∀ W, Below (w.heap.size + 1 + 1) w1 W → W.cell? ⟨w.heap.size, 0, none⟩ = some (.int .u32 x0) := fun W h => (h.cell (p := ⟨w.heap.size, 0, none⟩) (by show w.heap.size < w.heap.size + 1 + 1; omega)).trans c0
  have q1 : ∀ W, Below (w.heap.size + 1 + 1) w1 W → W.cell? ⟨w.heap.size, 1, none⟩ = some (.int .u8 x1) := fun W h => (h.cell (p := ⟨w.heap.size, 1, none⟩) (by show w.heap.size < w.heap.size + 1 + 1; omega)).trans c1
  have r0 : ∀ W, Below (w.heap.size + 1 + 1) w1 W → W.cell? ⟨w.heap.size + 1, 0, none⟩ = some (.int .u32 y0) := fun W h => (h.cell (p := ⟨w.heap.size + 1, 0, none⟩) (by show w.heap.size + 1 < w.heap.size + 1 + 1; omega)).trans d0
  have r1 : ∀ W, Below (w.heap.size + 1 + 1) w1 W → W.cell? ⟨w.heap.size + 1, 1, none⟩ = some (.int .u8 y1) := fun W h => (h.cell (p := ⟨w.heap.size + 1, 1, none⟩) (by show w.heap.size + 1 < w.heap.size + 1 + 1; omega)).trans d1
  clear c0 c1 d0 d1
  have hle : w.heap.size + 1 + 1 ≤ w1.heap.size := by omega
  go_region_held3 (fun W => Below (w.heap.size + 1 + 1) w1 W) (first | assumption | exact (Below.refl _ _).drew | exact Below.refl _ _ | exact (below_alloc (Below.refl _ _) hle _).drew | fail)
    (first
      | (go_at_call 81; refine Calls.mono (compare8_any _ _ _) ?_; rintro e w2 ⟨rfl, rfl⟩)
      | (go_at_call 79; refine Calls.mono (compare32_any _ _ _) ?_; rintro e w3 ⟨rfl, rfl⟩)
      | (go_at_call 80; refine Calls.mono (or_any [cmpI x0 y0, cmpI x1 y1] _ 2 _ (by simp) (fun i hi => by simp only [List.length_cons, List.length_nil] at hi; show (w1.alloc _).cell? _ = _; rw [World.cell?_alloc_at _ _ _ _ rfl]; rcases (show i = 0 ∨ i = 1 by omega) with rfl | rfl <;> rfl)) ?_; rintro e w4 ⟨rfl, rfl⟩)
      | fail)
  go_wp2
  go_ret
  exact ⟨rfl, kB.trans ((below_alloc (Below.refl _ _) (by omega) _).drew.mono (by omega))⟩

/-- the comparison by which best sorts -/
theorem ocmpF : CmpF wayL ltO 123 :=
  ⟨enters_of Tryz.func123 (by kernel_rfl) rfl, fun x y W => Calls.mono (ocmp_any x y W) (by rintro e w' ⟨rfl, h⟩; exact ⟨_, rfl, rfl, h⟩)⟩
theorem yO : CmpF yL (fun x y : WayY => ltO x.1 y.1) 123 := ⟨ocmpF.enters, fun x y W => ocmpF.call x.1 y.1 W⟩
theorem yOS : Sort.SWO (fun x y : WayY => ltO x.1 y.1) := ⟨fun x => swo_ltO.irrefl x.1, fun x y z => swo_ltO.trans x.1 y.1 z.1, fun x y z => swo_ltO.ntrans x.1 y.1 z.1⟩

theorem sortO_any (B : Nat) (v : Value) (out : List WayY) (w : World) (ho : w.ownsRow B 38 10 v out.length (out.flatMap yL)) (hn : out.length ≤ 1000000) :
    Calls Tryz.prog 93 #[v, .func (.func 123) #[] #[]] w fun e w' => e = .returned (.tuple #[]) ∧
      ∃ out' : List WayY, out'.Perm out ∧ (∀ i j : Nat, i < j → ∀ (hj : j < out'.length) (hi : i < out'.length), ltO out'[j].1 out'[i].1 = false) ∧ w'.ownsRow B 38 10 v out.length (out'.flatMap yL) ∧ w.grownBy w' v.ownBlock := by
  obtain ⟨hl, ⟨rfl, h0⟩ | ⟨g, cap, cur, rfl, hBg, hg, hnc, hcm, hcs, htk⟩⟩ := id ho
  · have C := sortwB_one none 0 0 (.func (.func 123) #[] #[]) (Nat.zero_le _) w
    refine Calls.mono C ?_
    rintro e w' ⟨rfl, rfl⟩
    exact ⟨rfl, out, List.Perm.refl _, (fun i j _ hj _ => absurd hj (by omega)), ho, grown_refl _ _⟩
  · have hcur : cur = ((out.toArray).toList.flatMap yL ++ cur.toList.drop (out.length * 10)).toArray := by
      simp only
      rw [← htk, List.take_append_drop]
    have hR : RowC yL 38 w g (cur.toList.drop (out.length * 10)) out.toArray w := ⟨by rw [← hcur]; exact hg, rfl, rfl, rfl, Nat.le_refl _, fun _ _ _ => rfl⟩
    have C := sortC_any yE yO yOS g out.length cap _ (by omega) out.toArray w hR (by simp)
    refine Calls.mono C ?_
    rintro e w' ⟨rfl, d', hR', hP, hSd⟩
    have hsz : d'.size = out.length := by rw [hP.1]; simp
    have hperm : d'.toList.Perm out := by
      have := hP.2.2
      rw [← hsz] at this
      have e1 : d'.extract 0 d'.size = d' := by simp
      have e2 : out.toArray.extract 0 d'.size = out.toArray := by rw [hsz]; simp
      rw [e1, e2] at this
      exact this
    refine ⟨rfl, d'.toList, hperm, (fun i j hij hj hi => by
      have h1 : i < d'.size := by simpa using hi
      have h2 : j < d'.size := by simpa using hj
      have := hSd i j (Nat.zero_le _) hij (by omega)
      rw [getElem!_pos d' i h1, getElem!_pos d' j h2] at this
      simpa using this), ⟨?_, .inr ⟨g, cap, _, rfl, hBg, hR'.blk, hnc, hcm, ?_, ?_⟩⟩, ⟨hR'.os, hR'.tape, hR'.output, hR'.size, fun b hb hne => hR'.other b hb fun e => hne (by rw [e]; rfl)⟩⟩
    · rw [flat_len yE.len]; simp [hsz]
    · have h1 := congrArg Array.size hcur
      simp only [List.size_toArray, List.length_append, flat_len yE.len, Array.length_toList] at h1 ⊢
      generalize (List.drop (out.length * 10) cur.toList).length = z at *
      have h2 : out.toArray.size = out.length := by simp
      omega
    · rw [List.take_append_of_le_length (by rw [flat_len yE.len]; simp [hsz]), List.take_of_length_le (by rw [flat_len yE.len]; simp [hsz])]
end Go.Proofs.YtiikagabdiphkaaGreat
