/- slices.insertionSortOrdered at uint32. Conditions: the row is the call's own block, of fewer than 2^40 cells. -/
import Derived.Test.YtdilbcmnfpmijaaSrtA
namespace Go.Proofs.Ytdilbcmnfpmijaa
open Go.RowKit Go.Lo

/-- what a call on the row leaves -/
def RowPost (w : World) (g : Nat) (rest : List Value) (d : Array Int) (e : Ending) (w' : World) : Prop := e = .returned (.tuple #[]) ∧ RowU w g rest d w'

set_option maxRecDepth 100000 in
set_option maxHeartbeats 1000000 in
theorem ins32_any (g n cap : Nat) (rest : List Value) (d : Array Int) (a b : Nat) (w : World) (h : RowU w g rest d w) (hd : d.size = n) (hab : a ≤ b) (hb : b ≤ n) (hn : n ≤ 1099511627776) :
    Calls Try.prog 69 #[.slice (some ⟨g, 0, none⟩) n cap, .int .i64 a, .int .i64 b] w (RowPost w g rest (Sort.insertionSort Sort.ltInt d a b)) := by
  go_enter Try.func69, Try.ntmps69
  go_wp2_with fail
  go_loopg [6] (b - (a + 1)) (fun m v wr => ∃ (i : Nat) (d1 : Array Int), a + 1 ≤ i ∧ m = b - i ∧ v = .int .i64 i ∧ d1.size = n ∧ Sort.insOuter Sort.ltInt a b i d1 = Sort.insertionSort Sort.ltInt d a b ∧ RowU w g rest d1 wr)
  case atStart => exact ⟨a + 1, d, Nat.le_refl _, by omega, by go_num, hd, rfl, h⟩
  case round =>
    obtain ⟨i, d1, hi, rfl, rfl, hd1, he, hr⟩ := hrel
    obtain ⟨w1, rfl⟩ : ∃ x : World, x = wr := ⟨_, rfl⟩
    by_cases hib : i < b
    · have he' : Sort.insOuter Sort.ltInt a b (i + 1) (Sort.insInner Sort.ltInt a i d1) = Sort.insertionSort Sort.ltInt d a b := by
        rw [← he]
        conv => rhs; unfold Sort.insOuter
        rw [if_pos hib]
      replace he' := Lib.hid he'
      replace hr := Lib.hid hr
      clear he h
      go_wp2_with fail
      go_loopg [7] i (fun m v wr => ∃ (j : Nat) (d2 : Array Int), j ≤ i ∧ m = j ∧ v = .int .i64 j ∧ d2.size = n ∧ Sort.insInner Sort.ltInt a j d2 = Sort.insInner Sort.ltInt a i d1 ∧ RowU w g rest d2 wr)
      case atStart => exact ⟨i, d1, Nat.le_refl _, rfl, rfl, hd1, rfl, hr.out⟩
      case round =>
        obtain ⟨j, d2, hj, hmj, rfl, hd2, he2, hr2⟩ := hrel
        obtain ⟨w2, rfl⟩ : ∃ x : World, x = wr := ⟨_, rfl⟩
        replace hmj := Lib.hid hmj
        by_cases hja : a < j
        · obtain ⟨k, rfl⟩ : ∃ k, j = k + 1 := ⟨j - 1, by omega⟩
          have dja : decide ((a : Int) < (k : Int) + 1) = true := decide_eq_true (by omega)
          have i1 : (k : Int) + 1 < (n : Int) := by omega
          have i2 : (0 : Int) ≤ (k : Int) + 1 := by omega
          have i3 : (k : Int) < (n : Int) := by omega
          have iw : IntKind.i64.wrap (k : Int) = (k : Int) := IntWalk.i64_in _ (by omega)
          have c1 := hr2.cell (i := k + 1) (by omega)
          have c0 := hr2.cell (i := k) (by omega)
          have f1 := hr2.free (k + 1)
          have f0 := hr2.free k
          have hsw := hr2.swp (i := k + 1) (j := k) (by omega) (by omega)
          have hsz := Sort.size_swp d2 (k + 1) k
          cases hlt : Sort.ltInt d2[k + 1]! d2[k]! with
          | true =>
            have he3 : Sort.insInner Sort.ltInt a k (Sort.swp d2 (k + 1) k) = Sort.insInner Sort.ltInt a i d1 := by
              rw [← he2]
              conv => rhs; unfold Sort.insInner
              rw [if_pos (by simp [hlt]; omega)]
            replace he3 := Lib.hid he3
            replace hsw := Lib.hid hsw
            replace hsz := Lib.hid hsz
            replace hlt := Lib.hid hlt
            clear he2 hr2
            generalize d2[k + 1]! = x1 at *
            generalize d2[k]! = x0 at *
            go_wp2_with fail
            go_still_tail 13, (by kernel_rfl)
            go_wp2_with (go_at_call 75; refine Calls.mono (less32_any _ _ _) ?_; rintro e w3 ⟨rfl, rfl⟩; rw [hlt.out])
            go_region
            go_wp2
            go_roundg k
            case measure => have := hmj.out; omega
            case rel => exact ⟨k, Sort.swp d2 (k + 1) k, by omega, rfl, by go_num, by rw [hsz.out]; exact hd2, he3.out, hsw.out.drew.drew⟩
          | false =>
            have he3 : d2 = Sort.insInner Sort.ltInt a i d1 := by
              rw [← he2]
              unfold Sort.insInner
              rw [if_neg (by simp [hlt])]
            replace he3 := Lib.hid he3
            replace hr2 := Lib.hid hr2
            replace hlt := Lib.hid hlt
            clear he2 hsw hsz
            generalize d2[k + 1]! = x1 at *
            generalize d2[k]! = x0 at *
            go_wp2_with fail
            go_still_tail 13, (by kernel_rfl)
            go_wp2_with (go_at_call 75; refine Calls.mono (less32_any _ _ _) ?_; rintro e w3 ⟨rfl, rfl⟩; rw [hlt.out])
            go_roundg (b - (i + 1))
            case measure => omega
            case rel => exact ⟨i + 1, d2, by omega, rfl, by go_num, hd2, by rw [← he'.out, ← he3.out], hr2.out.drew⟩
        · have dja : decide ((a : Int) < (j : Int)) = false := decide_eq_false (by omega)
          have he3 : d2 = Sort.insInner Sort.ltInt a i d1 := by
            rw [← he2]
            cases j with
            | zero => rfl
            | succ k =>
              unfold Sort.insInner
              rw [if_neg (by simp; omega)]
          replace he3 := Lib.hid he3
          replace hr2 := Lib.hid hr2
          clear he2
          go_wp2_with fail
          go_quiet (fail)
          go_wp2_with fail
          go_roundg (b - (i + 1))
          case measure => omega
          case rel => exact ⟨i + 1, d2, by omega, rfl, by go_num, hd2, by rw [← he'.out, ← he3.out], hr2.out.drewN nq⟩
    · have he' : d1 = Sort.insertionSort Sort.ltInt d a b := by
        rw [← he]
        unfold Sort.insOuter
        rw [if_neg hib]
      subst he'
      go_wp2
      go_end0
      exact ⟨rfl, hr⟩
end Go.Proofs.Ytdilbcmnfpmijaa
