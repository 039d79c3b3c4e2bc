/- The document's Fletcher sum: lodestarref03.Sums, Fletcher. Conditions: the bytes lie in memory, and there are sixteen or more. -/
import Derived.Test.YtiikagabdiphkaaGreatEncB
namespace Go.Proofs.YtiikagabdiphkaaGreat
open Go.RowKit Go.Lo

/-- the two sums of the first k bytes, without the two from at_ on -/
def sumsTo (b : List Int) (at_ : Nat) : Nat → Int × Int
  | 0 => (0, 0)
  | k + 1 => if k = at_ ∨ k = at_ + 1 then sumsTo b at_ k
    else (((sumsTo b at_ k).1 + b.getD k 0) % 255, ((sumsTo b at_ k).2 + ((b.length : Int) - k) % 255 * b.getD k 0) % 255)

theorem sumsTo_range (b : List Int) (at_ k : Nat) : 0 ≤ (sumsTo b at_ k).1 ∧ (sumsTo b at_ k).1 < 255 ∧ 0 ≤ (sumsTo b at_ k).2 ∧ (sumsTo b at_ k).2 < 255 := by
  induction k with
  | zero => exact ⟨by simp [sumsTo], by simp [sumsTo], by simp [sumsTo], by simp [sumsTo]⟩
  | succ k ih =>
    unfold sumsTo
    split
    · exact ih
    · simp only
      omega

set_option maxRecDepth 100000 in
set_option maxHeartbeats 1000000 in
theorem sums_any (B : Nat) (bv : Value) (b : List Int) (at_ : Nat) (w : World) (hb : Sl w B 1 bv b.length (b.map u8c)) (hn : b.length ≤ 1099511627776) (ha : at_ ≤ 1099511627776) (hl8 : ∀ x ∈ b, 0 ≤ x ∧ x < 256) :
    Calls Tryz.prog 99 #[bv, .int .i64 at_] w fun x w' => x = .returned (.tuple #[.int .i64 (sumsTo b at_ b.length).1, .int .i64 (sumsTo b at_ b.length).2]) ∧ w' = w := by
  obtain ⟨-, A, c, rfl, hc, -, hat⟩ := hb
  go_enter Tryz.func99, Tryz.ntmps99
  go_wp2
  go_loopg [6, 7, 8] b.length (fun m c0 c1 i wr => ∃ j : Nat, j ≤ b.length ∧ m = b.length - j ∧ c0 = .int .i64 (sumsTo b at_ j).1 ∧ c1 = .int .i64 (sumsTo b at_ j).2 ∧ i = .int .i64 (j : Int) ∧ wr = w)
  case atStart =>
    exact ⟨0, Nat.zero_le _, rfl, rfl, rfl, rfl, rfl⟩
  case round =>
    obtain ⟨j, hj, hm, rfl, rfl, rfl, rfl⟩ := hrel
    have hr := sumsTo_range b at_ j
    by_cases hjn : j < b.length
    · obtain ⟨g, off, rfl, hg, hcell⟩ := hat (by omega)
      have cj := hcell j (u8c (b[j])) (by simp [hjn])
      rw [show u8c b[j] = .int .u8 b[j] from rfl] at cj
      have h8 := hl8 b[j] (List.getElem_mem hjn)
      have hs : sumsTo b at_ (j + 1) = if j = at_ ∨ j = at_ + 1 then sumsTo b at_ j else (((sumsTo b at_ j).1 + b[j]) % 255, ((sumsTo b at_ j).2 + ((b.length : Int) - j) % 255 * b[j]) % 255) := by
        conv => lhs; unfold sumsTo
        simp only [List.getD_eq_getElem?_getD, List.getElem?_eq_getElem hjn, Option.getD_some]
      have hq0 : 0 ≤ ((b.length : Int) - j) % 255 ∧ ((b.length : Int) - j) % 255 < 255 := by omega
      have hmul : 0 ≤ ((b.length : Int) - j) % 255 * b[j] ∧ ((b.length : Int) - j) % 255 * b[j] ≤ 254 * 255 := ⟨Int.mul_nonneg hq0.1 h8.1, by
        have h1 := Int.mul_le_mul_of_nonneg_right (show ((b.length : Int) - j) % 255 ≤ 254 by omega) h8.1
        have h2 := Int.mul_le_mul_of_nonneg_left (show b[j] ≤ 255 by omega) (show (0:Int) ≤ 254 by omega)
        omega⟩
      by_cases h1 : j = at_
      · rw [if_pos (.inl h1)] at hs
        have e1 : ((j : Int) == (at_ : Int)) = true := by simp [h1]
        have hs0 := Lib.hid hs
        have h10 := Lib.hid h1
        clear hs h1 hcell hat
        go_wp2
        go_roundg (b.length - (j + 1))
        case measure => omega
        case rel => exact ⟨j + 1, by omega, rfl, by rw [hs0.out], by rw [hs0.out], by simp, rfl⟩
      · have e1 : ((j : Int) == (at_ : Int)) = false := by simp; omega
        by_cases h2 : j = at_ + 1
        · rw [if_pos (.inr h2)] at hs
          have e2 : ((j : Int) == (at_ : Int) + 1) = true := by simp; omega
          have hs0 := Lib.hid hs
          have h10 := Lib.hid h1
          have h20 := Lib.hid h2
          clear hs h1 h2 hcell hat
          go_wp2
          go_roundg (b.length - (j + 1))
          case measure => omega
          case rel => exact ⟨j + 1, by omega, rfl, by rw [hs0.out], by rw [hs0.out], by simp, rfl⟩
        · rw [if_neg (by omega)] at hs
          have e2 : ((j : Int) == (at_ : Int) + 1) = false := by simp; omega
          have hs0 := Lib.hid hs
          have h10 := Lib.hid h1
          have h20 := Lib.hid h2
          clear hs h1 h2 hcell hat
          generalize b[j] = x at *
          go_wp2
          go_roundg (b.length - (j + 1))
          case measure => omega
          case rel => exact ⟨j + 1, by omega, rfl, by rw [hs0.out], by rw [hs0.out], by simp, rfl⟩
    · obtain rfl : j = b.length := by omega
      go_wp2
      refine bodyPost_ret (results_tmp2 rfl _ _ _) rfl ?_
      exact ⟨rfl, rfl⟩

/-- does the pair x, y make both sums nought? -/
def hitP (c : Int × Int) (n x y : Int) : Prop := (c.1 + x + y) % 255 = 0 ∧ (c.2 + n * x + (n + 254) % 255 * y) % 255 = 0

theorem mul255 {a b : Int} (ha : 0 ≤ a ∧ a < 255) (hb : 0 ≤ b ∧ b ≤ 255) : 0 ≤ a * b ∧ a * b ≤ 64770 := ⟨Int.mul_nonneg ha.1 hb.1, by
  have h1 := Int.mul_le_mul_of_nonneg_right (show a ≤ 254 by omega) hb.1
  have h2 := Int.mul_le_mul_of_nonneg_left (show b ≤ 255 by omega) (show (0:Int) ≤ 254 by omega)
  omega⟩

/-- what Fletcher says -/
def FlR (c : Int × Int) (n r : Int) : Prop :=
  (∃ x y : Int, 1 ≤ x ∧ x ≤ 255 ∧ 1 ≤ y ∧ y ≤ 255 ∧ hitP c n x y ∧ r = 256 * x + y) ∨ (r = 0 ∧ ∀ x y : Int, 1 ≤ x → x ≤ 255 → 1 ≤ y → y ≤ 255 → ¬ hitP c n x y)

set_option maxRecDepth 100000 in
set_option maxHeartbeats 1000000 in
theorem fletcher_any (B : Nat) (bv : Value) (b : List Int) (w : World) (hb : Sl w B 1 bv b.length (b.map u8c)) (hn : b.length ≤ 1099511627776) (h16 : 16 ≤ b.length) (hl8 : ∀ x ∈ b, 0 ≤ x ∧ x < 256) :
    Calls Tryz.prog 57 #[bv, .int .i64 14] w fun x w' => ∃ r, x = .returned (.tuple #[.int .u16 r, .int .i64 0]) ∧ FlR (sumsTo b 14 b.length) (((b.length : Int) - 14) % 255) r ∧ w' = w := by
  have C := Lib.hid (sums_any B bv b 14 w hb hn (by omega) hl8)
  have hr := sumsTo_range b 14 b.length
  have hq : ∃ n : Int, n = ((b.length : Int) - 14) % 255 := ⟨_, rfl⟩
  obtain ⟨n, hq⟩ := hq
  rw [← hq]
  have hnr : 0 ≤ n ∧ n < 255 := by omega
  have hq2 : ((b.length : Int) - 14) % 255 = n := hq.symm
  have hm1 : 0 ≤ (n + 254) % 255 ∧ (n + 254) % 255 < 255 := by omega
  clear hq
  obtain ⟨-, A, c, rfl, hc, -, -⟩ := hb
  go_enter Tryz.func57, Tryz.ntmps57
  generalize sumsTo b 14 b.length = cc at *
  go_wp2_with (go_at_call 99; refine Calls.mono C.out ?_; rintro x w1 ⟨rfl, rfl⟩)
  go_loopg [9, 10] 255 (fun m x y wr => ∃ j : Nat, j ≤ 255 ∧ m = 255 - j ∧ x = .int .i64 ((j : Int) + 1) ∧ (∀ x y : Int, 1 ≤ x → x ≤ j → 1 ≤ y → y ≤ 255 → ¬ hitP cc n x y) ∧ wr = w1)
  case atStart => exact ⟨0, by omega, rfl, rfl, fun x y h1 h2 => by omega, rfl⟩
  case round =>
    obtain ⟨j, hj, hm, rfl, hno, rfl⟩ := hrel
    have hnoh := Lib.hid hno
    clear hno
    by_cases hj5 : j < 255
    · have hm2 := mul255 hnr (b := (j : Int) + 1) (by omega)
      go_wp2
      go_loopg [10] 255 (fun m y wr2 => ∃ k : Nat, k ≤ 255 ∧ m = 255 - k ∧ y = .int .i64 ((k : Int) + 1) ∧ (∀ y : Int, 1 ≤ y → y ≤ k → ¬ hitP cc n ((j : Int) + 1) y) ∧ wr2 = wr)
      case atStart => exact ⟨0, by omega, rfl, rfl, fun y h1 h2 => by omega, rfl⟩
      case round =>
        obtain ⟨k, hk, hmk, rfl, hnk, rfl⟩ := hrel
        have hnkh := Lib.hid hnk
        clear hnk
        by_cases hk5 : k < 255
        · have hm3 := mul255 hm1 (b := (k : Int) + 1) (by omega)
          by_cases ha : (cc.1 + ((j : Int) + 1) + ((k : Int) + 1)) % 255 = 0
          · by_cases hb : (cc.2 + n * ((j : Int) + 1) + (n + 254) % 255 * ((k : Int) + 1)) % 255 = 0
            · have e1 := beq_iff_eq.2 ha
              have e2 := beq_iff_eq.2 hb
              have hh : hitP cc n ((j : Int) + 1) ((k : Int) + 1) := ⟨ha, hb⟩
              clear ha hb
              go_wp2
              refine bodyPost_ret (results_tmp2 rfl _ _ _) rfl ?_
              exact ⟨_, rfl, .inl ⟨(j : Int) + 1, (k : Int) + 1, by omega, by omega, by omega, by omega, hh, rfl⟩, rfl⟩
            · have e1 := beq_iff_eq.2 ha
              have e2 := beq_eq_false_iff_ne.2 hb
              have hh : ¬ hitP cc n ((j : Int) + 1) ((k : Int) + 1) := fun h => hb h.2
              clear ha hb
              go_wp2
              go_roundg (255 - (k + 1))
              case measure => omega
              case rel =>
                refine ⟨k + 1, by omega, rfl, by simp, fun y h1 h2 => ?_, rfl⟩
                by_cases hy : y = (k : Int) + 1
                · subst hy; exact hh
                · exact hnkh.out y h1 (by omega)
          · have e1 := beq_eq_false_iff_ne.2 ha
            have hh : ¬ hitP cc n ((j : Int) + 1) ((k : Int) + 1) := fun h => ha h.1
            clear ha
            go_wp2
            go_roundg (255 - (k + 1))
            case measure => omega
            case rel =>
              refine ⟨k + 1, by omega, rfl, by simp, fun y h1 h2 => ?_, rfl⟩
              by_cases hy : y = (k : Int) + 1
              · subst hy; exact hh
              · exact hnkh.out y h1 (by omega)
        · obtain rfl : k = 255 := by omega
          go_wp2
          go_roundg (255 - (j + 1))
          case measure => omega
          case rel =>
            refine ⟨j + 1, by omega, rfl, by simp, fun x y h1 h2 h3 h4 => ?_, rfl⟩
            by_cases hx : x = (j : Int) + 1
            · subst hx; exact hnkh.out y h3 (by omega)
            · exact hnoh.out x y h1 (by omega) h3 h4
    · obtain rfl : j = 255 := by omega
      go_wp2
      refine bodyPost_ret (results_tmp2 rfl _ _ _) rfl ?_
      exact ⟨_, rfl, .inr ⟨rfl, fun x y h1 h2 h3 h4 => hnoh.out x y h1 (by omega) h3 h4⟩, rfl⟩
end Go.Proofs.YtiikagabdiphkaaGreat
