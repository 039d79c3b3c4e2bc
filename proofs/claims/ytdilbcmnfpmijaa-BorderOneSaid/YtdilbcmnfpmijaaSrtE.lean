/- slices.siftDownOrdered, heapSortOrdered at uint32. Conditions: the row is the call's own block, of fewer than 2^40 cells. -/
import Derived.Test.YtdilbcmnfpmijaaSrtD
import Derived.BigRegion
namespace Go.Proofs.Ytdilbcmnfpmijaa
open Go.RowKit Go.Lo

set_option maxRecDepth 100000 in
set_option maxHeartbeats 2000000 in
theorem sift32_any (g n cap : Nat) (rest : List Value) (d : Array Int) (lo hi first : Nat) (w : World) (h : RowU w g rest d w) (hd : d.size = n) (hlo : lo ≤ n) (hb : first + hi ≤ n) (hn : n ≤ 1099511627776) :
    Calls Try.prog 85 #[.slice (some ⟨g, 0, none⟩) n cap, .int .i64 lo, .int .i64 hi, .int .i64 first] w (RowPost w g rest (Sort.siftDown Sort.ltInt hi first lo d)) := by
  go_enter Try.func85, Try.ntmps85
  go_wp2_with fail
  go_loopg [8] (hi - lo) (fun m v wr => ∃ (r : Nat) (d1 : Array Int), r ≤ n ∧ m = hi - r ∧ v = .int .i64 r ∧ d1.size = n ∧ Sort.siftDown Sort.ltInt hi first r d1 = Sort.siftDown Sort.ltInt hi first lo d ∧ RowU w g rest d1 wr)
  case atStart => exact ⟨lo, d, hlo, rfl, rfl, hd, rfl, h⟩
  case round =>
    obtain ⟨r, d1, hr, rfl, rfl, hd1, he, hR⟩ := hrel
    obtain ⟨w1, rfl⟩ : ∃ x : World, x = wr := ⟨_, rfl⟩
    clear h
    by_cases hch : hi ≤ 2 * r + 1
    · have he' : d1 = Sort.siftDown Sort.ltInt hi first lo d := by
        rw [← he]
        unfold Sort.siftDown
        rw [dif_pos (by omega)]
      have j1 : (hi : Int) ≤ 2 * (r : Int) + 1 := by omega
      replace he' := Lib.hid he'
      replace hR := Lib.hid hR
      clear he
      go_wp2_with fail
      go_end0
      exact ⟨rfl, by rw [← he'.out]; exact hR.out⟩
    · have j1 : ¬ (hi : Int) ≤ 2 * (r : Int) + 1 := by omega
      have hex : Sort.siftDown Sort.ltInt hi first r d1 =
          if 2 * r + 1 + 1 < hi && Sort.ltInt d1[first + (2 * r + 1)]! d1[first + (2 * r + 2)]! then
            if !Sort.ltInt d1[first + r]! d1[first + (2 * r + 2)]! then d1 else if 2 * r + 2 < hi then Sort.siftDown Sort.ltInt hi first (2 * r + 2) (Sort.swp d1 (first + r) (first + (2 * r + 2))) else d1
          else if !Sort.ltInt d1[first + r]! d1[first + (2 * r + 1)]! then d1 else Sort.siftDown Sort.ltInt hi first (2 * r + 1) (Sort.swp d1 (first + r) (first + (2 * r + 1))) := by
        conv => lhs; unfold Sort.siftDown
        rw [dif_neg (by omega)]
        rfl
      obtain ⟨x0, hx0⟩ : ∃ x, x = d1[first + r]! := ⟨_, rfl⟩
      obtain ⟨x1, hx1⟩ : ∃ x, x = d1[first + (2 * r + 1)]! := ⟨_, rfl⟩
      obtain ⟨x2, hx2⟩ : ∃ x, x = d1[first + (2 * r + 2)]! := ⟨_, rfl⟩
      rw [← hx0, ← hx1, ← hx2] at hex
      rw [hex] at he
      clear hex
      replace hx0 := Lib.hid hx0
      replace hx1 := Lib.hid hx1
      replace hx2 := Lib.hid hx2
      have wA : IntKind.i64.wrap (2 * (r : Int) + 1 + 1) = 2 * (r : Int) + 1 + 1 := IntWalk.i64_in _ (by omega)
      have wB : IntKind.i64.wrap ((first : Int) + (2 * (r : Int) + 1)) = (first : Int) + (2 * (r : Int) + 1) := IntWalk.i64_in _ (by omega)
      have wC : IntKind.i64.wrap ((first : Int) + (2 * (r : Int) + 1) + 1) = (first : Int) + (2 * (r : Int) + 1) + 1 := IntWalk.i64_in _ (by omega)
      have wE : IntKind.i64.wrap ((first : Int) + (2 * (r : Int) + 1 + 1)) = (first : Int) + (2 * (r : Int) + 1 + 1) := IntWalk.i64_in _ (by omega)
      have wD : IntKind.i64.wrap ((first : Int) + (r : Int)) = (first : Int) + (r : Int) := IntWalk.i64_in _ (by omega)
      have z1 : (0 : Int) ≤ (first : Int) + (2 * (r : Int) + 1) := by omega
      have z2 : (0 : Int) ≤ (first : Int) + (2 * (r : Int) + 1) + 1 := by omega
      have z3 : (0 : Int) ≤ (first : Int) + (2 * (r : Int) + 1 + 1) := by omega
      have z0 : (0 : Int) ≤ (first : Int) + (r : Int) := by omega
      have t1 : ((first : Int) + (2 * (r : Int) + 1)).toNat = first + (2 * r + 1) := by omega
      have t2 : ((first : Int) + (2 * (r : Int) + 1) + 1).toNat = first + (2 * r + 2) := by omega
      have t3 : ((first : Int) + (2 * (r : Int) + 1 + 1)).toNat = first + (2 * r + 2) := by omega
      have t0 : ((first : Int) + (r : Int)).toNat = first + r := by omega
      by_cases hc2 : 2 * r + 1 + 1 < hi
      · have i2 : 2 * (r : Int) + 1 + 1 < (hi : Int) := by omega
        have di : decide (2 * (r : Int) + 1 + 1 < (hi : Int)) = true := decide_eq_true i2
        have k2 : (first : Int) + (2 * (r : Int) + 1) + 1 < (n : Int) := by omega
        have k3 : (first : Int) + (2 * (r : Int) + 1 + 1) < (n : Int) := by omega
        have k1 : (first : Int) + (2 * (r : Int) + 1) < (n : Int) := by omega
        have k0 : (first : Int) + (r : Int) < (n : Int) := by omega
        rcases hl1 : Sort.ltInt x1 x2 with _ | _
        · rcases hl2 : Sort.ltInt x0 x1 with _ | _
          · have he' : d1 = Sort.siftDown Sort.ltInt hi first lo d := by
              rw [← he, if_neg (by simp [hl1]), if_pos (by simp [hl2])]
            have c1 := hR.cell (i := first + (2 * r + 1)) (by omega)
            have c2 := hR.cell (i := first + (2 * r + 2)) (by omega)
            rw [← hx1.out] at c1
            rw [← hx2.out] at c2
            replace hl1 := Lib.hid hl1
            replace he' := Lib.hid he'
            replace hR := Lib.hid hR
            replace hl2 := Lib.hid hl2
            clear he
            go_wp2_with fail
            go_still_tail 18, (by kernel_rfl)
            go_upto_region 5 with (go_at_call 75; refine Calls.mono (less32_any _ _ _) ?_; rintro e w3 ⟨rfl, rfl⟩; rw [hl1.out])
            clear c1 c2
            replace hR := Lib.hid (hR.out.drew)
            generalize w1.drew = w2 at *
            have c0 := hR.out.cell (i := first + r) (by omega)
            have cc := hR.out.cell (i := first + (2 * r + 1)) (by omega)
            rw [← hx0.out] at c0
            rw [← hx1.out] at cc
            go_still_tail 12, (by kernel_rfl)
            go_wp2_with (go_at_call 75; refine Calls.mono (less32_any _ _ _) ?_; rintro e w3 ⟨rfl, rfl⟩; rw [hl2.out])
            go_end0
            exact ⟨rfl, by rw [← he'.out]; exact hR.out.drew⟩
          · have he' : Sort.siftDown Sort.ltInt hi first (2 * r + 1) (Sort.swp d1 (first + r) (first + (2 * r + 1))) = Sort.siftDown Sort.ltInt hi first lo d := by
              rw [← he, if_neg (by simp [hl1]), if_neg (by simp [hl2])]
            have hsz := Sort.size_swp d1 (first + r) (first + (2 * r + 1))
            have hne : first + r ≠ first + (2 * r + 1) := by omega
            replace hsz := Lib.hid hsz
            have c1 := hR.cell (i := first + (2 * r + 1)) (by omega)
            have c2 := hR.cell (i := first + (2 * r + 2)) (by omega)
            rw [← hx1.out] at c1
            rw [← hx2.out] at c2
            replace hl1 := Lib.hid hl1
            replace he' := Lib.hid he'
            replace hR := Lib.hid hR
            replace hl2 := Lib.hid hl2
            clear he
            go_wp2_with fail
            go_still_tail 18, (by kernel_rfl)
            go_upto_region 5 with (go_at_call 75; refine Calls.mono (less32_any _ _ _) ?_; rintro e w3 ⟨rfl, rfl⟩; rw [hl1.out])
            clear c1 c2
            replace hR := Lib.hid (hR.out.drew)
            generalize w1.drew = w2 at *
            have c0 := hR.out.cell (i := first + r) (by omega)
            have cc := hR.out.cell (i := first + (2 * r + 1)) (by omega)
            rw [← hx0.out] at c0
            rw [← hx1.out] at cc
            have hsw := hR.out.swp (i := first + r) (j := first + (2 * r + 1)) (by omega) (by omega)
            rw [← hx0.out, ← hx1.out] at hsw
            replace hsw := Lib.hid hsw
            have g0 := hR.out.free (first + r)
            have g1 := hR.out.free (first + (2 * r + 1))
            go_still_tail 12, (by kernel_rfl)
            go_upto_region 6 with (go_at_call 75; refine Calls.mono (less32_any _ _ _) ?_; rintro e w3 ⟨rfl, rfl⟩; rw [hl2.out])
            go_region
            go_wp2
            go_roundg (hi - (2 * r + 1))
            case measure => omega
            case rel => exact ⟨2 * r + 1, Sort.swp d1 (first + r) (first + (2 * r + 1)), by omega, rfl, by go_num, by rw [hsz.out]; exact hd1, he'.out, hsw.out.drew.drew⟩
        · rcases hl2 : Sort.ltInt x0 x2 with _ | _
          · have he' : d1 = Sort.siftDown Sort.ltInt hi first lo d := by
              rw [← he, if_pos (by simp [hl1]; omega), if_pos (by simp [hl2])]
            have c1 := hR.cell (i := first + (2 * r + 1)) (by omega)
            have c2 := hR.cell (i := first + (2 * r + 2)) (by omega)
            rw [← hx1.out] at c1
            rw [← hx2.out] at c2
            replace hl1 := Lib.hid hl1
            replace he' := Lib.hid he'
            replace hR := Lib.hid hR
            replace hl2 := Lib.hid hl2
            clear he
            go_wp2_with fail
            go_still_tail 18, (by kernel_rfl)
            go_upto_region 5 with (go_at_call 75; refine Calls.mono (less32_any _ _ _) ?_; rintro e w3 ⟨rfl, rfl⟩; rw [hl1.out])
            clear c1 c2
            replace hR := Lib.hid (hR.out.drew)
            generalize w1.drew = w2 at *
            have c0 := hR.out.cell (i := first + r) (by omega)
            have cc := hR.out.cell (i := first + (2 * r + 2)) (by omega)
            rw [← hx0.out] at c0
            rw [← hx2.out] at cc
            go_still_tail 12, (by kernel_rfl)
            go_wp2_with (go_at_call 75; refine Calls.mono (less32_any _ _ _) ?_; rintro e w3 ⟨rfl, rfl⟩; rw [hl2.out])
            go_end0
            exact ⟨rfl, by rw [← he'.out]; exact hR.out.drew⟩
          · have he' : Sort.siftDown Sort.ltInt hi first (2 * r + 2) (Sort.swp d1 (first + r) (first + (2 * r + 2))) = Sort.siftDown Sort.ltInt hi first lo d := by
              rw [← he, if_pos (by simp [hl1]; omega), if_neg (by simp [hl2]), if_pos (by omega)]
            have hsz := Sort.size_swp d1 (first + r) (first + (2 * r + 2))
            have hne : first + r ≠ first + (2 * r + 2) := by omega
            replace hsz := Lib.hid hsz
            have c1 := hR.cell (i := first + (2 * r + 1)) (by omega)
            have c2 := hR.cell (i := first + (2 * r + 2)) (by omega)
            rw [← hx1.out] at c1
            rw [← hx2.out] at c2
            replace hl1 := Lib.hid hl1
            replace he' := Lib.hid he'
            replace hR := Lib.hid hR
            replace hl2 := Lib.hid hl2
            clear he
            go_wp2_with fail
            go_still_tail 18, (by kernel_rfl)
            go_upto_region 5 with (go_at_call 75; refine Calls.mono (less32_any _ _ _) ?_; rintro e w3 ⟨rfl, rfl⟩; rw [hl1.out])
            clear c1 c2
            replace hR := Lib.hid (hR.out.drew)
            generalize w1.drew = w2 at *
            have c0 := hR.out.cell (i := first + r) (by omega)
            have cc := hR.out.cell (i := first + (2 * r + 2)) (by omega)
            rw [← hx0.out] at c0
            rw [← hx2.out] at cc
            have hsw := hR.out.swp (i := first + r) (j := first + (2 * r + 2)) (by omega) (by omega)
            rw [← hx0.out, ← hx2.out] at hsw
            replace hsw := Lib.hid hsw
            have g0 := hR.out.free (first + r)
            have g1 := hR.out.free (first + (2 * r + 2))
            go_still_tail 12, (by kernel_rfl)
            go_upto_region 6 with (go_at_call 75; refine Calls.mono (less32_any _ _ _) ?_; rintro e w3 ⟨rfl, rfl⟩; rw [hl2.out])
            go_region
            go_wp2
            go_roundg (hi - (2 * r + 2))
            case measure => omega
            case rel => exact ⟨2 * r + 2, Sort.swp d1 (first + r) (first + (2 * r + 2)), by omega, rfl, by go_num, by rw [hsz.out]; exact hd1, he'.out, hsw.out.drew.drew⟩
      · have i2 : ¬ 2 * (r : Int) + 1 + 1 < (hi : Int) := by omega
        have di : decide (2 * (r : Int) + 1 + 1 < (hi : Int)) = false := decide_eq_false i2
        have k1 : (first : Int) + (2 * (r : Int) + 1) < (n : Int) := by omega
        have k0 : (first : Int) + (r : Int) < (n : Int) := by omega
        rcases hl2 : Sort.ltInt x0 x1 with _ | _
        · have he' : d1 = Sort.siftDown Sort.ltInt hi first lo d := by
            rw [← he, if_neg (by simp; omega), if_pos (by simp [hl2])]
          replace he' := Lib.hid he'
          replace hR := Lib.hid hR
          replace hl2 := Lib.hid hl2
          clear he
          go_wp2_with fail
          go_quiet (fail)
          go_wp2_with fail
          replace hR := Lib.hid (hR.out.drewN nq)
          generalize (w1.drewN nq) = w2 at *
          have c0 := hR.out.cell (i := first + r) (by omega)
          have cc := hR.out.cell (i := first + (2 * r + 1)) (by omega)
          rw [← hx0.out] at c0
          rw [← hx1.out] at cc
          go_still_tail 12, (by kernel_rfl)
          go_wp2_with (go_at_call 75; refine Calls.mono (less32_any _ _ _) ?_; rintro e w3 ⟨rfl, rfl⟩; rw [hl2.out])
          go_end0
          exact ⟨rfl, by rw [← he'.out]; exact hR.out.drew⟩
        · have he' : Sort.siftDown Sort.ltInt hi first (2 * r + 1) (Sort.swp d1 (first + r) (first + (2 * r + 1))) = Sort.siftDown Sort.ltInt hi first lo d := by
            rw [← he, if_neg (by simp; omega), if_neg (by simp [hl2])]
          have hsz := Sort.size_swp d1 (first + r) (first + (2 * r + 1))
          have hne : first + r ≠ first + (2 * r + 1) := by omega
          replace hsz := Lib.hid hsz
          replace he' := Lib.hid he'
          replace hR := Lib.hid hR
          replace hl2 := Lib.hid hl2
          clear he
          go_wp2_with fail
          go_quiet (fail)
          go_wp2_with fail
          replace hR := Lib.hid (hR.out.drewN nq)
          generalize (w1.drewN nq) = w2 at *
          have c0 := hR.out.cell (i := first + r) (by omega)
          have cc := hR.out.cell (i := first + (2 * r + 1)) (by omega)
          rw [← hx0.out] at c0
          rw [← hx1.out] at cc
          have hsw := hR.out.swp (i := first + r) (j := first + (2 * r + 1)) (by omega) (by omega)
          rw [← hx0.out, ← hx1.out] at hsw
          replace hsw := Lib.hid hsw
          have g0 := hR.out.free (first + r)
          have g1 := hR.out.free (first + (2 * r + 1))
          go_still_tail 12, (by kernel_rfl)
          go_upto_region 6 with (go_at_call 75; refine Calls.mono (less32_any _ _ _) ?_; rintro e w3 ⟨rfl, rfl⟩; rw [hl2.out])
          go_region
          go_wp2
          go_roundg (hi - (2 * r + 1))
          case measure => omega
          case rel => exact ⟨2 * r + 1, Sort.swp d1 (first + r) (first + (2 * r + 1)), by omega, rfl, by go_num, by rw [hsz.out]; exact hd1, he'.out, hsw.out.drew.drew⟩
end Go.Proofs.Ytdilbcmnfpmijaa
