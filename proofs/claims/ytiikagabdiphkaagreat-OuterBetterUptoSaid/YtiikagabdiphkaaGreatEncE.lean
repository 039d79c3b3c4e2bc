/- The document's masks, and which bodies may be: lodestarref02.Mask, Bits, lodestarref06.Known, alone, May, size, at the types 3 and 5. Conditions: the ones written. -/
import Derived.Test.YtiikagabdiphkaaGreatEncB
namespace Go.Proofs.YtiikagabdiphkaaGreat
open Go.RowKit Go.Lo

/-- the mask of so many bits -/
def maskR : Nat → Int
  | 0 => 0
  | k + 1 => bits BinOp.or IntKind.u32 (maskR k) (2 ^ (31 - k) % 4294967296)

theorem maskR_succ (k : Nat) : maskR (k + 1) = bits BinOp.or IntKind.u32 (maskR k) (2 ^ (31 - k) % 4294967296) := rfl

set_option maxRecDepth 100000 in
set_option maxHeartbeats 1000000 in
theorem rmask_any (n : Nat) (hn : n ≤ 32) (w : World) : Calls Tryz.prog 118 #[.int .u8 n] w fun x w' => x = .returned (.int .u32 (maskR n)) ∧ w' = w := by
  have hd : decide ((n : Int) ≤ 32) = true := decide_eq_true (by omega)
  go_enter Tryz.func118, Tryz.ntmps118
  go_wp2
  go_loopg [3, 4] n (fun m v i wr => ∃ j : Nat, j ≤ n ∧ m = n - j ∧ v = .int .u32 (maskR j) ∧ i = .int .u8 (j : Int) ∧ wr = w)
  case atStart => exact ⟨0, by omega, rfl, rfl, rfl, rfl⟩
  case round =>
    obtain ⟨j, hj, hm, rfl, rfl, rfl⟩ := hrel
    by_cases hjn : j < n
    · have hd2 : decide ((j : Int) < n) = true := decide_eq_true (by omega)
      have hm2 := maskR_succ j
      have hp : (2 : Int) ^ (31 - (j : Int)).toNat = 2 ^ (31 - j) := by congr 1; omega
      go_wp2
      go_roundg (n - (j + 1))
      case measure => omega
      case rel => exact ⟨j + 1, by omega, rfl, rfl, by simp, rfl⟩
    · have hd2 : decide ((j : Int) < n) = false := decide_eq_false (by omega)
      obtain rfl : j = n := by omega
      go_wp2
      go_ret
      exact ⟨rfl, rfl⟩

/-- how many bits a mask has -/
def MaskOf (m : Int) (n : Nat) : Prop := n ≤ 32 ∧ maskR n = m ∧ ∀ k, k < n → maskR k ≠ m

set_option maxRecDepth 100000 in
set_option maxHeartbeats 1000000 in
theorem rbits_any (m : Int) (n : Nat) (hn : MaskOf m n) (w : World) : Calls Tryz.prog 69 #[.int .u32 m] w fun x w' => x = .returned (.tuple #[.int .u8 n, .bool true]) ∧ w' = w := by
  obtain ⟨h1, h2, h3⟩ := hn
  replace h3 := Lib.hid h3
  replace h2 := Lib.hid h2
  go_enter Tryz.func69, Tryz.ntmps69
  go_wp2
  go_loopg [4] n (fun mm i wr => ∃ j : Nat, j ≤ n ∧ mm = n - j ∧ i = .int .u8 (j : Int) ∧ wr = w)
  case atStart => exact ⟨0, by omega, rfl, rfl, rfl⟩
  case round =>
    obtain ⟨j, hj, hm, rfl, rfl⟩ := hrel
    have C := Lib.hid (rmask_any j (by omega) wr)
    have hd2 : decide ((j : Int) ≤ 32) = true := decide_eq_true (by omega)
    by_cases hjn : j < n
    · have e1 : (maskR j == m) = false := beq_eq_false_iff_ne.2 (h3.out j hjn)
      go_wp2_with (go_at_call 118; refine Calls.mono C.out ?_; rintro x w1 ⟨rfl, rfl⟩)
      go_roundg (n - (j + 1))
      case measure => omega
      case rel => exact ⟨j + 1, by omega, rfl, by simp, rfl⟩
    · obtain rfl : j = n := by omega
      have e1 : (maskR j == m) = true := beq_iff_eq.2 h2.out
      go_wp2_with (go_at_call 118; refine Calls.mono C.out ?_; rintro x w1 ⟨rfl, rfl⟩)
      refine bodyPost_ret (results_tmp2 rfl _ _ _) rfl ?_
      exact ⟨rfl, rfl⟩

theorem maskOf16 : MaskOf 4294901760 16 := ⟨by omega, by decide, by decide⟩
theorem maskOf8 : MaskOf 4278190080 8 := ⟨by omega, by decide, by decide⟩

theorem known3 (w : World) : Calls Tryz.prog 77 #[.int .u8 3] w fun x w' => x = .returned (.bool true) ∧ w' = w := by
  go_enter Tryz.func77, Tryz.ntmps77
  go_wp2
  go_ret
  exact ⟨rfl, rfl⟩
theorem known5 (w : World) : Calls Tryz.prog 77 #[.int .u8 5] w fun x w' => x = .returned (.bool true) ∧ w' = w := by
  go_enter Tryz.func77, Tryz.ntmps77
  go_wp2
  go_ret
  exact ⟨rfl, rfl⟩

/-- a body with numbers alone -/
abbrev numC (m k : Int) (t2 : Bool) (fw tg : Int) : Array Value := #[.int .u8 0, .slice none 0 0, .int .u32 m, .slice none 0 0, .int .u32 k, .bool t2, .int .u32 fw, .int .u32 tg, .slice none 0 0]

set_option maxRecDepth 100000 in
theorem alone3 (m k : Int) (w : World) : Calls Tryz.prog 127 #[.int .u8 3, .agg (numC m k false 0 0)] w fun x w' => x = .returned (.bool true) ∧ Below w.heap.size w w' := by
  have hB : Below w.heap.size w (w.alloc (.cells (numC m k false 0 0) 93)) := (Below.refl _ _).alloc (Nat.le_refl _) _
  go_enter Tryz.func127, Tryz.ntmps127
  go_wp2
  go_ret
  exact ⟨rfl, hB⟩
set_option maxRecDepth 100000 in
theorem alone5 (m k : Int) (t2 : Bool) (fw tg : Int) (w : World) : Calls Tryz.prog 127 #[.int .u8 5, .agg (numC m k t2 fw tg)] w fun x w' => x = .returned (.bool true) ∧ Below w.heap.size w w' := by
  have hB : Below w.heap.size w (w.alloc (.cells (numC m k t2 fw tg) 93)) := (Below.refl _ _).alloc (Nat.le_refl _) _
  go_enter Tryz.func127, Tryz.ntmps127
  go_wp2
  go_ret
  exact ⟨rfl, hB⟩

theorem size3 (m k : Int) (t2 : Bool) (fw tg : Int) (w : World) : Calls Tryz.prog 134 #[.int .u8 3, .agg (numC m k t2 fw tg)] w fun x w' => x = .returned (.int .i64 8) ∧ Below w.heap.size w w' := by
  have hB : Below w.heap.size w (w.alloc (.cells (numC m k t2 fw tg) 93)) := (Below.refl _ _).alloc (Nat.le_refl _) _
  go_enter Tryz.func134, Tryz.ntmps134
  go_wp2
  go_ret
  exact ⟨rfl, hB⟩
theorem size5 (m k : Int) (t2 : Bool) (fw tg : Int) (w : World) : Calls Tryz.prog 134 #[.int .u8 5, .agg (numC m k t2 fw tg)] w fun x w' => x = .returned (.int .i64 16) ∧ Below w.heap.size w w' := by
  have hB : Below w.heap.size w (w.alloc (.cells (numC m k t2 fw tg) 93)) := (Below.refl _ _).alloc (Nat.le_refl _) _
  go_enter Tryz.func134, Tryz.ntmps134
  go_wp2
  go_ret
  exact ⟨rfl, hB⟩
end Go.Proofs.YtiikagabdiphkaaGreat
