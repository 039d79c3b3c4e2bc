/- border's within, and what of it layer 23's known run reaches. Conditions: one range lies in memory that covers the prefix. -/
import Derived.Test.YtdilbcmnfpmijaaBorD
namespace Go.Proofs.Ytdilbcmnfpmijaa
open Go.RowKit Go.Lo Go.Maps

theorem pref_a : IsPref 167772160 8 := ⟨by omega, by omega, by decide⟩
theorem pref_b : IsPref 167837696 16 := ⟨by omega, by omega, by decide⟩
theorem pref_in : bits BinOp.and IntKind.u32 167837696 (maskI 8) = 167772160 := by decide

abbrev rangeC : Array Value := #[.int .u32 167772160, .int .u8 8, .bool false]
abbrev rangeZ : Array Value := #[.int .u32 0, .int .u8 0, .bool false]

set_option maxRecDepth 100000 in
set_option maxHeartbeats 1000000 in
theorem within_one (bw : Nat) (w : World) (hl : bw < w.heap.size) (h0 : w.cell? ⟨bw, 0, none⟩ = some (.int .u32 167772160)) (h1 : w.cell? ⟨bw, 1, none⟩ = some (.int .u8 8)) (h2 : w.cell? ⟨bw, 2, none⟩ = some (.bool false)) :
    Calls Try.prog 59 #[.slice (some ⟨bw, 0, none⟩) 1 1, prefV 167837696 16] w fun e w' => e = .returned (.tuple #[.agg rangeC, .bool true]) ∧ Below w.heap.size w w' := by
  have CC := Lib.hid (fun W => covers_yes 167772160 8 167837696 16 pref_a pref_b (by omega) pref_in W)
  have k0 : Blk (((w.alloc (.cells (prefCells 167837696 16) 46)).alloc (.cells rangeZ 114)).alloc (.cells rangeZ 114)) w.heap.size 46 (prefCells 167837696 16) := ((Blk.new _ _ _).alloc _).alloc _
  have k1 : Blk (((w.alloc (.cells (prefCells 167837696 16) 46)).alloc (.cells rangeZ 114)).alloc (.cells rangeZ 114)) (w.heap.size + 1) 114 rangeZ := Blk.alloc (heap_alloc2_new w _ _) _
  have k2 : Blk (((w.alloc (.cells (prefCells 167837696 16) 46)).alloc (.cells rangeZ 114)).alloc (.cells rangeZ 114)) (w.heap.size + 1 + 1) 114 rangeZ := Blk.new_ _ (by simp)
  have kB : Below w.heap.size w (((w.alloc (.cells (prefCells 167837696 16) 46)).alloc (.cells rangeZ 114)).alloc (.cells rangeZ 114)) := (((Below.refl _ _).alloc (Nat.le_refl _) _).alloc (by simp) _).alloc (by simp; omega) _
  have kz : ((((w.alloc (.cells (prefCells 167837696 16) 46)).alloc (.cells rangeZ 114)).alloc (.cells rangeZ 114)) : World).heap.size = w.heap.size + 1 + 1 + 1 := by simp
  go_enter Try.func59, Try.ntmps59
  go_wp2_with fail
  generalize (((w.alloc (.cells (prefCells 167837696 16) 46)).alloc (.cells rangeZ 114)).alloc (.cells rangeZ 114)) = w0 at k0 k1 k2 kB kz ⊢
  go_loopg [7, 13] 1 (fun m f i wr => ∃ k : Nat, k ≤ 1 ∧ m = 1 - k ∧ f = .bool (k == 1) ∧ i = .int .i64 k ∧ Blk wr w.heap.size 46 (prefCells 167837696 16) ∧ Blk wr (w.heap.size + 1) 114 rangeZ ∧ Blk wr (w.heap.size + 1 + 1) 114 (if k = 1 then rangeC else rangeZ) ∧ Below w.heap.size w wr)
  case atStart => exact ⟨0, by omega, rfl, rfl, rfl, k0, k1, k2, kB⟩
  case round =>
    clear k0 k1 k2 kB kz
    obtain ⟨k, hk, rfl, rfl, rfl, k0, k1, k2, hB⟩ := hrel
    obtain ⟨w1, rfl⟩ : ∃ x : World, x = wr := ⟨_, rfl⟩
    rcases (show k = 0 ∨ k = 1 by omega) with rfl | rfl
    · have e0 := (hB.cell (p := ⟨bw, 0, none⟩) hl).trans h0
      have e1 := (hB.cell (p := ⟨bw, 1, none⟩) hl).trans h1
      have e2 := (hB.cell (p := ⟨bw, 2, none⟩) hl).trans h2
      have lt2 := k2.lt
      go_upto_region 5 with fail
      have j0 := k0.alloc (.cells rangeC 114)
      have j1 := k1.alloc (.cells rangeC 114)
      have j2 := k2.alloc (.cells rangeC 114)
      have jr := Blk.new w1 114 rangeC
      have hB1 := hB.alloc hB.size (.cells rangeC 114)
      clear e0 e1 e2 hB k0 k1 k2 h0 h1 h2
      generalize w1.alloc (.cells rangeC 114) = w2 at j0 j1 j2 jr hB1 ⊢
      generalize w1.heap.size = br at jr lt2 ⊢
      have p0 := j0.cell 0
      have p1 := j0.cell 1
      have q0 := jr.cell 0
      have q1 := jr.cell 1
      simp only [List.getElem?_toArray, List.getElem?_cons_zero, List.getElem?_cons_succ] at p0 p1 q0 q1
      replace j0 := Lib.hid j0
      replace j1 := Lib.hid j1
      replace j2 := Lib.hid j2
      replace jr := Lib.hid jr
      go_wp2_with (go_at_call 84; refine Calls.mono (CC.out _) ?_; rintro e w3 ⟨rfl, hB3⟩; have r3 := Blk.call hB3 jr.out; have s3 := Blk.call hB3 j2.out; have r30 := r3.cell 0; have r31 := r3.cell 1; have r32 := r3.cell 2; have s30 := s3.cell 0; have s31 := s3.cell 1; have s32 := s3.cell 2; have f30 := s3.free 0; have f31 := s3.free 1; have f32 := s3.free 2; simp only [if_neg (show ¬ (0 : Nat) = 1 by omega), List.getElem?_toArray, List.getElem?_cons_zero, List.getElem?_cons_succ] at r30 r31 r32 s30 s31 s32; clear r3; replace s3 := Lib.hid s3)
      go_roundg (1 - 1)
      case measure => omega
      case rel =>
        refine ⟨1, by omega, rfl, rfl, rfl, ?_, ?_, ?_, ?_⟩
        · exact (((Blk.call hB3 j0.out).far (by show w.heap.size ≠ w.heap.size + 1 + 1; omega) _).far (by show w.heap.size ≠ w.heap.size + 1 + 1; omega) _).far (by show w.heap.size ≠ w.heap.size + 1 + 1; omega) _
        · exact (((Blk.call hB3 j1.out).far (by show w.heap.size + 1 ≠ w.heap.size + 1 + 1; omega) _).far (by show w.heap.size + 1 ≠ w.heap.size + 1 + 1; omega) _).far (by show w.heap.size + 1 ≠ w.heap.size + 1 + 1; omega) _
        · exact ((s3.out.set_ 0 _).set_ 1 _).set_ 2 _
        · exact (((below_call hB1 hB3 (Nat.le_refl _)).setCell (by show w.heap.size ≤ w.heap.size + 1 + 1; omega) _).setCell (by show w.heap.size ≤ w.heap.size + 1 + 1; omega) _).setCell (by show w.heap.size ≤ w.heap.size + 1 + 1; omega) _
    · have s0 := k2.cell 0
      have s1 := k2.cell 1
      have s2 := k2.cell 2
      have t0 := k1.cell 0
      have t1 := k1.cell 1
      have t2 := k1.cell 2
      have f0 := k1.free 0
      have f1 := k1.free 1
      have f2 := k1.free 2
      simp only [if_true, List.getElem?_toArray, List.getElem?_cons_zero, List.getElem?_cons_succ] at s0 s1 s2 t0 t1 t2
      have K := ((k1.set_ 0 (.int .u32 167772160)).set_ 1 (.int .u8 8)).set_ 2 (.bool false)
      replace k1 := Lib.hid k1
      replace K := Lib.hid K
      go_wp2
      refine bodyPost_ret (results_cell_tmp_row rfl _ _ (w.heap.size + 1) 114 rangeC (0, 0) _ rfl K.out Try.underlying114 rfl (by kernel_rfl)) rfl ?_
      exact ⟨rfl, ((hB.setCell (by show w.heap.size ≤ w.heap.size + 1; omega) _).setCell (by show w.heap.size ≤ w.heap.size + 1; omega) _).setCell (by show w.heap.size ≤ w.heap.size + 1; omega) _⟩
end Go.Proofs.Ytdilbcmnfpmijaa
