/- Small functions that layer 23's known run reaches: cmp.Compare and cmp.Or at int, prefix's Make, Check, Has, Covers and Compare. No premise beyond the ones written. -/
import Derived.Test.YtdilbcmnfpmijaaOriJ
import Derived.Test.YtdilbcmnfpmijaaLib2
namespace Go.Proofs.Ytdilbcmnfpmijaa
open Go.RowKit Go.Lo

theorem isNaNi_any (a : Int) (w : World) : Calls Try.prog 99 #[.int .i64 a] w fun e w' => e = .returned (.bool false) ∧ w' = w := by
  go_enter Try.func99, Try.ntmps99
  go_wp2
  go_ret
  exact ⟨by simp, rfl⟩

theorem compare_gt (a b : Int) (h : b < a) (w : World) : Calls Try.prog 83 #[.int .i64 a, .int .i64 b] w fun e w' => e = .returned (.int .i64 1) ∧ w' = w := by
  have h1 : ¬ a < b := by omega
  go_enter Try.func83, Try.ntmps83
  go_wp2_with (go_at_call 99; refine Calls.mono (isNaNi_any _ _) ?_; rintro e w1 ⟨rfl, rfl⟩)
  go_ret
  exact ⟨rfl, rfl⟩

abbrev prefV (a b : Int) : Value := .agg #[.int .u32 a, .int .u8 b]
abbrev prefCells (a b : Int) : Array Value := #[.int .u32 a, .int .u8 b]
/-- a prefix with no bits behind its bits -/
def IsPref (a b : Int) : Prop := 0 ≤ b ∧ b ≤ 32 ∧ bits BinOp.and IntKind.u32 a (maskI b) = a

theorem make_any (a b : Int) (hb : 0 ≤ b ∧ b ≤ 32) (w : World) : Calls Try.prog 106 #[.int .u32 a, .int .u8 b] w fun e w' => e = .returned (.tuple #[prefV (bits BinOp.and IntKind.u32 a (maskI b)) b, .int .i64 0]) ∧ Below w.heap.size w w' := by
  have h1 : b ≤ 32 := hb.2
  have h2 : ¬ 32 < b := by omega
  go_enter Try.func106, Try.ntmps106
  go_wp2_with (go_at_call 36; refine Calls.mono (mask_any _ ⟨by omega, by omega⟩ _) ?_; rintro e w1 ⟨rfl, rfl⟩)
  refine bodyPost_ret (results_cell_tmp_row rfl _ _ w.heap.size 46 (prefCells (bits BinOp.and IntKind.u32 a (maskI b)) b) (0, 0) _ rfl (Blk.new _ _ _) Try.underlying46 rfl (by kernel_rfl)) rfl ?_
  exact ⟨rfl, (Below.refl _ _).alloc (Nat.le_refl _) _⟩

theorem neq_pref (a b : Int) (w : World) : (binOp .neq 46 (prefV a b) (prefV a b)).run Try.prog w = .ok (.bool false) w := by
  rw [run_neq_struct, run_equalIn_agg _ _ _ _ _ (by kernel_rfl) (by kernel_rfl)]
  go_simp

theorem check_ok (a b : Int) (h : IsPref a b) (w : World) : Calls Try.prog 100 #[prefV a b] w fun e w' => e = .returned (.int .i64 0) ∧ Below w.heap.size w w' := by
  have hB0 : Below w.heap.size w (w.alloc (.cells (prefCells a b) 46)) := (Below.refl _ _).alloc (Nat.le_refl _) _
  have C0 := (Blk.new w 46 (prefCells a b)).cell 0
  have C1 := (Blk.new w 46 (prefCells a b)).cell 1
  simp only [List.getElem?_toArray, List.getElem?_cons_zero, List.getElem?_cons_succ] at C0 C1
  have hE := fun W => neq_pref a b W
  have CM := fun W => make_any a b ⟨h.1, h.2.1⟩ W
  rw [h.2.2] at CM
  replace CM := Lib.hid CM
  go_enter Try.func100, Try.ntmps100
  go_upto_region 2 with (go_at_call 106; refine Calls.mono (CM.out _) ?_; rintro e w1 ⟨rfl, hB1⟩; have D0 := (hB1.cell (p := ⟨w.heap.size, 0, none⟩) (by simp)).trans C0; have D1 := (hB1.cell (p := ⟨w.heap.size, 1, none⟩) (by simp)).trans C1; have hz := hB1.size; simp at hz)
  have hB2 : Below w.heap.size w (w1.alloc (.cells (prefCells a b) 46)) := below_alloc (below_call hB0 hB1 (by simp)) (by omega) _
  have F0 := (Blk.new w1 46 (prefCells a b)).cell 0
  have F1 := (Blk.new w1 46 (prefCells a b)).cell 1
  have E0 := (World.cell?_alloc_lt w1 (.cells (prefCells a b) 46) ⟨w.heap.size, 0, none⟩ (show w.heap.size < w1.heap.size by omega)).trans D0
  have E1 := (World.cell?_alloc_lt w1 (.cells (prefCells a b) 46) ⟨w.heap.size, 1, none⟩ (show w.heap.size < w1.heap.size by omega)).trans D1
  simp only [List.getElem?_toArray, List.getElem?_cons_zero, List.getElem?_cons_succ] at F0 F1
  generalize (w1.alloc (.cells (prefCells a b) 46)) = w2 at hB2 F0 F1 E0 E1 ⊢
  clear C0 C1 D0 D1
  go_wp2
  go_ret
  exact ⟨rfl, hB2⟩

theorem has_yes (a b x : Int) (h : IsPref a b) (hx : bits BinOp.and IntKind.u32 x (maskI b) = a) (w : World) : Calls Try.prog 101 #[prefV a b, .int .u32 x] w fun e w' => e = .returned (.bool true) ∧ Below w.heap.size w w' := by
  have C0 := (Blk.new w 46 (prefCells a b)).cell 0
  have C1 := (Blk.new w 46 (prefCells a b)).cell 1
  simp only [List.getElem?_toArray, List.getElem?_cons_zero, List.getElem?_cons_succ] at C0 C1
  have hB0 : Below w.heap.size w (w.alloc (.cells (prefCells a b) 46)) := (Below.refl _ _).alloc (Nat.le_refl _) _
  have hz : (w.alloc (.cells (prefCells a b) 46)).heap.size = w.heap.size + 1 := by simp
  have CC := Lib.hid (fun W => check_ok a b h W)
  have hb := h.1
  have hb2 := h.2.1
  clear h
  go_enter Try.func101, Try.ntmps101
  go_upto_region 1 with fail
  generalize (w.alloc (.cells (prefCells a b) 46)) = w1 at C0 C1 hB0 hz ⊢
  have b0 : ∀ W, Below (w.heap.size + 1) w1 W → W.cell? ⟨w.heap.size, 0, none⟩ = some (.int .u32 a) := fun W h => (h.cell (p := ⟨w.heap.size, 0, none⟩) (by show w.heap.size < w.heap.size + 1; omega)).trans C0
  have b1 : ∀ W, Below (w.heap.size + 1) w1 W → W.cell? ⟨w.heap.size, 1, none⟩ = some (.int .u8 b) := fun W h => (h.cell (p := ⟨w.heap.size, 1, none⟩) (by show w.heap.size < w.heap.size + 1; omega)).trans C1
  go_region_held3 (fun W => Below (w.heap.size + 1) w1 W) (first | assumption | exact (Below.refl _ _).drew | exact Below.refl _ _ | fail)
    (first
      | (go_at_call 100; refine Calls.mono (CC.out _) ?_; rintro e w2 ⟨rfl, hB2⟩; have hS2 : Below (w.heap.size + 1) w1 w2 := below_call (Below.refl _ _).drew hB2 (by omega))
      | (go_at_call 36; refine Calls.mono (mask_any _ ⟨by omega, by omega⟩ _) ?_; rintro e w3 ⟨rfl, rfl⟩)
      | fail)
  go_wp2
  go_ret
  exact ⟨rfl, hB0.trans (hS2.mono (by omega))⟩

theorem covers_yes (a b c d : Int) (h : IsPref a b) (h' : IsPref c d) (hbd : b ≤ d) (hx : bits BinOp.and IntKind.u32 c (maskI b) = a) (w : World) : Calls Try.prog 84 #[prefV a b, prefV c d] w fun e w' => e = .returned (.bool true) ∧ Below w.heap.size w w' := by
  have P := ((Blk.new w 46 (prefCells a b)).alloc (.cells (prefCells c d) 46))
  have Q := heap_alloc2_new w (.cells (prefCells a b) 46) (.cells (prefCells c d) 46)
  have C0 := P.cell 0
  have C1 := P.cell 1
  have D0 := Blk.cell (t := 46) (cs := prefCells c d) Q 0
  have D1 := Blk.cell (t := 46) (cs := prefCells c d) Q 1
  simp only [List.getElem?_toArray, List.getElem?_cons_zero, List.getElem?_cons_succ] at C0 C1 D0 D1
  have hB0 : Below w.heap.size w ((w.alloc (.cells (prefCells a b) 46)).alloc (.cells (prefCells c d) 46)) := ((Below.refl _ _).alloc (Nat.le_refl _) _).alloc (by simp) _
  have hz : ((w.alloc (.cells (prefCells a b) 46)).alloc (.cells (prefCells c d) 46)).heap.size = w.heap.size + 2 := by simp
  have CC := Lib.hid (fun W => check_ok c d h' W)
  have CH := Lib.hid (fun W => has_yes a b c h hx W)
  clear h h' P Q
  go_enter Try.func84, Try.ntmps84
  go_upto_region 1 with fail
  generalize ((w.alloc (.cells (prefCells a b) 46)).alloc (.cells (prefCells c d) 46)) = w1 at C0 C1 D0 D1 hB0 hz ⊢
  go_wp2_with (first
    | (go_at_call 100; refine Calls.mono (CC.out _) ?_; rintro e w2 ⟨rfl, hB2⟩; have C0' := (hB2.cell (p := ⟨w.heap.size, 0, none⟩) (show w.heap.size < w1.heap.size by omega)).trans C0; have C1' := (hB2.cell (p := ⟨w.heap.size, 1, none⟩) (show w.heap.size < w1.heap.size by omega)).trans C1; have D0' := (hB2.cell (p := ⟨w.heap.size + 1, 0, none⟩) (show w.heap.size + 1 < w1.heap.size by omega)).trans D0; have D1' := (hB2.cell (p := ⟨w.heap.size + 1, 1, none⟩) (show w.heap.size + 1 < w1.heap.size by omega)).trans D1)
    | (go_at_call 101; refine Calls.mono (CH.out _) ?_; rintro e w3 ⟨rfl, hB3⟩)
    | fail)
  go_ret
  exact ⟨rfl, below_call (below_call hB0 hB2 (Nat.le_refl _)) hB3 (Nat.le_refl _)⟩

theorem pcompare_gt (a b d : Int) (h : d < b) (w : World) : Calls Try.prog 82 #[prefV a b, prefV a d] w fun e w' => e = .returned (.int .i64 1) ∧ Below w.heap.size w w' := by
  have P := ((Blk.new w 46 (prefCells a b)).alloc (.cells (prefCells a d) 46))
  have Q := heap_alloc2_new w (.cells (prefCells a b) 46) (.cells (prefCells a d) 46)
  have C0 := P.cell 0
  have C1 := P.cell 1
  have D0 := Blk.cell (t := 46) (cs := prefCells a d) Q 0
  have D1 := Blk.cell (t := 46) (cs := prefCells a d) Q 1
  simp only [List.getElem?_toArray, List.getElem?_cons_zero, List.getElem?_cons_succ] at C0 C1 D0 D1
  have hB0 : Below w.heap.size w ((w.alloc (.cells (prefCells a b) 46)).alloc (.cells (prefCells a d) 46)) := ((Below.refl _ _).alloc (Nat.le_refl _) _).alloc (by simp) _
  have hne : (b == d) = false := beq_false_of_ne (by omega)
  have hE : ∀ W, (binOp .eql 46 (prefV a b) (prefV a d)).run Try.prog W = .ok (.bool false) W := by
    intro W
    rw [run_eql_struct, run_equalIn_agg _ _ _ _ _ (by kernel_rfl) (by kernel_rfl)]
    go_simp
  have h1 : ¬ b < d := by omega
  clear P Q
  go_enter Try.func82, Try.ntmps82
  go_upto_region 1 with fail
  generalize ((w.alloc (.cells (prefCells a b) 46)).alloc (.cells (prefCells a d) 46)) = w1 at C0 C1 D0 D1 hB0 ⊢
  go_wp2
  go_ret
  exact ⟨rfl, hB0⟩

/-- the first that is not zero, of two -/
theorem or_first (w : World) (b : Nat) (x : Int) (c : Nat) (hb : w.cell? ⟨b, 0, none⟩ = some (.int .i64 x)) (hx : (x == 0) = false) : Calls Try.prog 81 #[.slice (some ⟨b, 0, none⟩) 2 c] w fun e w' => e = .returned (.int .i64 x) ∧ w' = w := by
  have hx' : ¬ x = 0 := by simpa using hx
  go_enter Try.func81, Try.ntmps81
  go_wp2
  go_loopg [5, 8] 2 (fun m v i wr => m = 2 ∧ i = .int .i64 0 ∧ wr = w)
  case atStart => exact ⟨rfl, rfl, rfl⟩
  case round =>
    obtain ⟨rfl, rfl, rfl⟩ := hrel
    go_wp2
    go_ret
    exact ⟨rfl, rfl⟩
end Go.Proofs.Ytdilbcmnfpmijaa
