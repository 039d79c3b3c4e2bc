/- slices.partialInsertionSortOrdered at uint32. Conditions: the row is the call's own block, of fewer than 2^40 cells. -/
import Derived.Test.YtdilbcmnfpmijaaSrtF
namespace Go.Proofs.Ytdilbcmnfpmijaa
open Go.RowKit Go.Lo

theorem size_shiftDown (j : Nat) : ∀ d : Array Int, (Sort.shiftDown Sort.ltInt j d).size = d.size := by
  induction j with
  | zero => intro d; rfl
  | succ j ih =>
    intro d
    unfold Sort.shiftDown
    split
    · rfl
    · rw [ih, Sort.size_swp]
theorem size_shiftUp (b : Nat) : ∀ (f j : Nat) (d : Array Int), b - j ≤ f → (Sort.shiftUp Sort.ltInt b j d).size = d.size := by
  intro f
  induction f with
  | zero =>
    intro j d hf
    unfold Sort.shiftUp
    rw [if_neg (by omega)]
  | succ f ih =>
    intro j d hf
    unfold Sort.shiftUp
    split
    · split
      · rfl
      · rw [ih _ _ (by omega), Sort.size_swp]
    · rfl

set_option maxRecDepth 100000 in
set_option maxHeartbeats 4000000 in
theorem pins32_any (g n cap : Nat) (rest : List Value) (d : Array Int) (a b : Nat) (w : World) (h : RowU w g rest d w) (hd : d.size = n) (hab : a < b) (hb : b ≤ n) (hn : n ≤ 1099511627776) :
    Calls Try.prog 74 #[.slice (some ⟨g, 0, none⟩) n cap, .int .i64 a, .int .i64 b] w fun e w' =>
      e = .returned (.bool (Sort.partialInsertionSort Sort.ltInt d a b).2) ∧ RowU w g rest (Sort.partialInsertionSort Sort.ltInt d a b).1 w' := by
  obtain ⟨R, hRR⟩ : ∃ R, R = Sort.partialInsertionSort Sort.ltInt d a b := ⟨_, rfl⟩
  rw [← hRR]
  unfold Sort.partialInsertionSort at hRR
  replace hRR := Lib.hid hRR
  go_enter Try.func74, Try.ntmps74
  go_wp2_with fail
  go_loopg [7, 8] 5 (fun m v u wr => ∃ (s i0 : Nat) (D : Array Int), s ≤ 5 ∧ s = m ∧ a < i0 ∧ i0 ≤ b ∧ v = .int .i64 i0 ∧ u = .int .i64 (5 - (s : Int)) ∧ D.size = n ∧ R = Sort.partialIns Sort.ltInt a b s i0 D ∧ RowU w g rest D wr)
  case atStart => exact ⟨5, a + 1, d, by omega, rfl, by omega, by omega, by go_num, rfl, hd, hRR.out, h⟩
  case round =>
    clear h hRR
    obtain ⟨s, i0, D, hs5, hsm, hai, hib, rfl, rfl, hD, hRl, hR⟩ := hrel
    obtain ⟨w1, rfl⟩ : ∃ x : World, x = wr := ⟨_, rfl⟩
    cases s with
    | zero =>
      have hRe : R = (D, false) := hRl
      replace hRe := Lib.hid hRe
      replace hR := Lib.hid hR
      clear hRl
      go_wp2_with fail
      go_ret
      rw [hRe.out]
      exact ⟨rfl, hR.out⟩
    | succ s =>
      rw [Sort.partialIns_succ] at hRl
      replace hRl := Lib.hid hRl
      replace hR := Lib.hid hR
      replace hsm := Lib.hid hsm
      have s5 : (5 : Int) - ((s + 1 : Nat) : Int) < 5 := by omega
      have s6 : (5 : Int) - ((s : Int) + 1) < 5 := by omega
      have s7 : decide ((5 : Int) - ((s : Int) + 1) < 5) = true := decide_eq_true s6
      go_wp2_with fail
      go_loopg [7] (b - i0) (fun m v wr => ∃ i1 : Nat, (i0 ≤ i1 ∧ i1 ≤ b) ∧ m = b - i1 ∧ v = .int .i64 i1 ∧ Sort.scanSorted Sort.ltInt D b i1 = Sort.scanSorted Sort.ltInt D b i0 ∧ RowU w g rest D wr)
      case atStart => exact ⟨i0, by omega, rfl, rfl, rfl, hR.out⟩
      case round =>
        clear hR
        obtain ⟨i1, hv, hm, rfl, hs, hR⟩ := hrel
        obtain ⟨w2, rfl⟩ : ∃ x : World, x = wr := ⟨_, rfl⟩
        replace hm := Lib.hid hm
        replace hs := Lib.hid hs
        replace hR := Lib.hid hR
        go_upto_region 5 with fail
        go_cut [32] (fun v wx => v = .bool (decide (i1 < b) && !Sort.ltInt D[i1]! D[i1 - 1]!) ∧ RowU w g rest D wx)
        case first =>
          by_cases hg : i1 < b
          · have dg : decide ((i1 : Int) < (b : Int)) = true := decide_eq_true (by omega)
            have dg' : decide (i1 < b) = true := decide_eq_true hg
            have iw1 : IntKind.i64.wrap ((i1 : Int) - 1) = (i1 : Int) - 1 := IntWalk.i64_in _ (by omega)
            have im : (0 : Int) ≤ (i1 : Int) - 1 := by omega
            have ip1 : (1 : Int) ≤ (i1 : Int) := by omega
            have ip2 : 1 ≤ i1 := by omega
            have im2 : (i1 : Int) - 1 < (n : Int) := by omega
            have im3 : (i1 : Int) < (n : Int) := by omega
            have tn : ((i1 : Int) - 1).toNat = i1 - 1 := by omega
            have c1 := hR.out.cell (i := i1) (by omega)
            have c0 := hR.out.cell (i := i1 - 1) (by omega)
            obtain ⟨x, hx⟩ : ∃ x, x = D[i1]! := ⟨_, rfl⟩
            obtain ⟨y, hy⟩ : ∃ y, y = D[i1 - 1]! := ⟨_, rfl⟩
            rw [← hx] at c1
            rw [← hy] at c0
            replace hx := Lib.hid hx
            replace hy := Lib.hid hy
            go_still_tail 13, (by kernel_rfl)
            go_wp2_with (go_at_call 75; refine Calls.mono (less32_any _ _ _) ?_; rintro e w3 ⟨rfl, rfl⟩)
            go_meet
            case rel => exact ⟨by rw [← hx.out, ← hy.out]; simp [hg], hR.out.drew⟩
          · have dg : decide ((i1 : Int) < (b : Int)) = false := decide_eq_false (by omega)
            have dg' : decide (i1 < b) = false := decide_eq_false hg
            go_quiet (fail)
            go_wp2_with fail
            go_meet
            case rel => exact ⟨by simp [hg], hR.out.drewN nq⟩
        case rest =>
          obtain ⟨rfl, hR2⟩ := hcut
          clear hR
          have hR := Lib.hid hR2
          clear hR2
          cases hc : (decide (i1 < b) && !Sort.ltInt D[i1]! D[i1 - 1]!) with
          | true =>
            have hb' : i1 < b := by
              simp only [Bool.and_eq_true, decide_eq_true_eq] at hc
              exact hc.1
            have hs2 : Sort.scanSorted Sort.ltInt D b (i1 + 1) = Sort.scanSorted Sort.ltInt D b i0 := by
              rw [← hs.out]
              conv => rhs; unfold Sort.scanSorted
              rw [if_pos hc]
            replace hs2 := Lib.hid hs2
            clear hc
            go_wp2_with fail
            go_roundg (b - (i1 + 1))
            case measure => have := hm.out; omega
            case rel => exact ⟨i1 + 1, by omega, rfl, by go_num, hs2.out, hR.out⟩
          | false =>
            have hfin : i1 = Sort.scanSorted Sort.ltInt D b i0 := by
              rw [← hs.out]
              unfold Sort.scanSorted
              rw [if_neg (fun h' => Bool.false_ne_true (hc.symm.trans h'))]
            replace hRl := hRl.out
            simp only [← hfin] at hRl
            obtain ⟨hv1, hv2⟩ := hv
            clear hc hm hs hfin
            by_cases hib2 : i1 = b
            · rw [if_pos hib2] at hRl
              have q1 : ((i1 : Int) == (b : Int)) = true := by simp; omega
              subst hib2
              replace hRl := Lib.hid hRl
              go_wp2_with fail
              go_ret
              rw [hRl.out]
              exact ⟨rfl, hR.out⟩
            · rw [if_neg hib2] at hRl
              have q1 : ((i1 : Int) == (b : Int)) = false := by simp; omega
              have q1' : ¬ (i1 : Int) = (b : Int) := by omega
              by_cases h50 : b - a < 50
              · rw [if_pos h50] at hRl
                have q2 : (b : Int) - (a : Int) < 50 := by omega
                replace hRl := Lib.hid hRl
                go_wp2_with fail
                go_ret
                rw [hRl.out]
                exact ⟨rfl, hR.out⟩
              · rw [if_neg h50] at hRl
                have q2 : ¬ (b : Int) - (a : Int) < 50 := by omega
                replace hRl := Lib.hid hRl
                have hin : i1 < n := by omega
                have h := hR.out
                have iw1 : IntKind.i64.wrap ((i1 : Int) - 1) = (i1 : Int) - 1 := IntWalk.i64_in _ (by omega)
                have im : (0 : Int) ≤ (i1 : Int) - 1 := by omega
                have im2 : (i1 : Int) - 1 < (n : Int) := by omega
                have im3 : (i1 : Int) < (n : Int) := by omega
                have tn : ((i1 : Int) - 1).toNat = i1 - 1 := by omega
                go_upto_region 11 with fail
                have c0 := h.cell (i := i1) (by omega)
                have c1 := h.cell (i := i1 - 1) (by omega)
                have f0 := h.free (i1)
                have f1 := h.free (i1 - 1)
                have hsw := h.swp (i := i1) (j := i1 - 1) (by omega) (by omega)
                have hcs := (h.set (i := i1) (by omega) D[i1 - 1]!).cell (i := i1 - 1) (by simp; omega)
                have hsz := Sort.size_swp D (i1) (i1 - 1)
                generalize (D.setIfInBounds (i1) D[i1 - 1]!)[i1 - 1]! = yy at hcs
                generalize D[i1]! = xx0 at *
                generalize D[i1 - 1]! = xx1 at *
                replace hsw := Lib.hid hsw
                replace hsz := Lib.hid hsz
                clear h
                go_region
                replace hsz := hsz.out.trans hD
                have hR := Lib.hid hsw.out.drew
                replace hRl := hRl.out
                generalize ((wc.setCell ⟨g, i1, none⟩ (.int .u32 xx1)).setCell ⟨g, i1 - 1, none⟩ (.int .u32 xx0)).drew = w4 at *
                generalize Sort.swp D i1 (i1 - 1) = D2 at *
                replace hRl := Lib.hid hRl
                clear hsw hcs c0 c1 f0 f1
                have hz3 : (Sort.fixDown Sort.ltInt a i1 D2).size = n := by
                  unfold Sort.fixDown
                  split
                  · rw [size_shiftDown]; exact hsz
                  · exact hsz
                have hz4 : (Sort.fixUp Sort.ltInt b i1 (Sort.fixDown Sort.ltInt a i1 D2)).size = n := by
                  unfold Sort.fixUp
                  split
                  · rw [size_shiftUp b b _ _ (by omega)]; exact hz3
                  · exact hz3
                go_upto_if 61 with fail
                go_cut [9] (fun _ wx => RowU w g rest (Sort.fixDown Sort.ltInt a i1 D2) wx)
                case first =>
                  by_cases h2 : i1 - a ≥ 2
                  · have hfd : Sort.fixDown Sort.ltInt a i1 D2 = Sort.shiftDown Sort.ltInt (i1 - 1) D2 := if_pos h2
                    have q3 : (2 : Int) ≤ (i1 : Int) - (a : Int) := by omega
                    replace hfd := Lib.hid hfd
                    go_wp2_with fail
                    go_loopg [9] (i1 - 1) (fun m v wr => ∃ (j : Nat) (E : Array Int), j ≤ i1 - 1 ∧ j = m ∧ v = .int .i64 j ∧ E.size = n ∧ Sort.shiftDown Sort.ltInt j E = Sort.shiftDown Sort.ltInt (i1 - 1) D2 ∧ RowU w g rest E wr)
                    case atStart => exact ⟨i1 - 1, D2, Nat.le_refl _, rfl, congrArg (Value.int .i64) (by omega), hsz, rfl, hR.out⟩
                    case round =>
                      clear hR
                      obtain ⟨j, E, hj, hjm, rfl, hE, hse, hR⟩ := hrel
                      obtain ⟨w5, rfl⟩ : ∃ x : World, x = wr := ⟨_, rfl⟩
                      replace hjm := Lib.hid hjm
                      cases j with
                      | zero =>
                        have hse' : E = Sort.shiftDown Sort.ltInt (i1 - 1) D2 := hse
                        replace hse' := Lib.hid hse'
                        clear hse
                        replace hR := Lib.hid hR
                        go_wp2_with fail
                        go_meet
                        case rel => rw [hfd.out, ← hse'.out]; exact hR.out
                      | succ k =>
                        have c1 := hR.cell (i := k + 1) (by omega)
                        have c0 := hR.cell (i := k) (by omega)
                        have f1 := hR.free (k + 1)
                        have f0 := hR.free k
                        have hsw := hR.swp (i := k + 1) (j := k) (by omega) (by omega)
                        have hsz2 := (Sort.size_swp E (k + 1) k).trans hE
                        have k1 : (k : Int) + 1 < (n : Int) := by omega
                        have k2 : (0 : Int) ≤ (k : Int) + 1 := by omega
                        have k3 : (k : Int) < (n : Int) := by omega
                        have iw : IntKind.i64.wrap (k : Int) = (k : Int) := IntWalk.i64_in _ (by omega)
                        rcases hlt : Sort.ltInt E[k + 1]! E[k]! with _ | _
                        · have hse' : E = Sort.shiftDown Sort.ltInt (i1 - 1) D2 := by
                            rw [← hse]
                            unfold Sort.shiftDown
                            rw [if_pos (by simp [hlt])]
                          replace hse' := Lib.hid hse'
                          replace hlt := Lib.hid hlt
                          replace hR := Lib.hid hR
                          clear hse hsw hsz2
                          generalize E[k + 1]! = x1 at *
                          generalize E[k]! = x0 at *
                          go_wp2_with fail
                          go_still_tail 9, (by kernel_rfl)
                          go_wp2_with (go_at_call 75; refine Calls.mono (less32_any _ _ _) ?_; rintro e w6 ⟨rfl, rfl⟩; rw [hlt.out])
                          go_meet
                          case rel => rw [hfd.out, ← hse'.out]; exact hR.out.drew
                        · have hse' : Sort.shiftDown Sort.ltInt k (Sort.swp E (k + 1) k) = Sort.shiftDown Sort.ltInt (i1 - 1) D2 := by
                            rw [← hse]
                            conv => rhs; unfold Sort.shiftDown
                            rw [if_neg (by simp [hlt])]
                          replace hse' := Lib.hid hse'
                          replace hlt := Lib.hid hlt
                          replace hsw := Lib.hid hsw
                          replace hsz2 := Lib.hid hsz2
                          clear hse hR
                          generalize E[k + 1]! = x1 at *
                          generalize E[k]! = x0 at *
                          go_wp2_with fail
                          go_still_tail 9, (by kernel_rfl)
                          go_upto_region 17 with (go_at_call 75; refine Calls.mono (less32_any _ _ _) ?_; rintro e w6 ⟨rfl, rfl⟩; rw [hlt.out])
                          go_region
                          go_wp2_with fail
                          go_roundg k
                          case measure => have := hjm.out; omega
                          case rel => exact ⟨k, Sort.swp E (k + 1) k, by omega, rfl, by go_num, hsz2.out, hse'.out, hsw.out.drew.drew⟩
                  · have hfd : Sort.fixDown Sort.ltInt a i1 D2 = D2 := if_neg h2
                    have q3 : ¬ (2 : Int) ≤ (i1 : Int) - (a : Int) := by omega
                    replace hfd := Lib.hid hfd
                    go_wp2_with fail
                    go_meet
                    case rel => rw [hfd.out]; exact hR.out
                case rest =>
                  clear hR
                  have hR := Lib.hid hcut
                  clear hcut
                  replace hRl := hRl.out
                  generalize Sort.fixDown Sort.ltInt a i1 D2 = D3 at *
                  replace hRl := Lib.hid hRl
                  go_upto_if 98 with fail
                  by_cases h2 : b - i1 ≥ 2
                  · have hfd : Sort.fixUp Sort.ltInt b i1 D3 = Sort.shiftUp Sort.ltInt b (i1 + 1) D3 := if_pos h2
                    have q3 : (2 : Int) ≤ (b : Int) - (i1 : Int) := by omega
                    replace hfd := Lib.hid hfd
                    go_wp2_with fail
                    go_loopg [10] (b - (i1 + 1)) (fun m v wr => ∃ (j : Nat) (E : Array Int), i1 + 1 ≤ j ∧ j ≤ b ∧ m = b - j ∧ v = .int .i64 j ∧ E.size = n ∧ Sort.shiftUp Sort.ltInt b j E = Sort.shiftUp Sort.ltInt b (i1 + 1) D3 ∧ RowU w g rest E wr)
                    case atStart => exact ⟨i1 + 1, D3, Nat.le_refl _, by omega, rfl, by go_num, hz3, rfl, hR.out⟩
                    case round =>
                      clear hR
                      obtain ⟨j, E, hj, hjb, hjm, rfl, hE, hse, hR⟩ := hrel
                      obtain ⟨w5, rfl⟩ : ∃ x : World, x = wr := ⟨_, rfl⟩
                      replace hjm := Lib.hid hjm
                      by_cases hjl : j < b
                      · have c1 := hR.cell (i := j) (by omega)
                        have c0 := hR.cell (i := j - 1) (by omega)
                        have f1 := hR.free j
                        have f0 := hR.free (j - 1)
                        have hsw := hR.swp (i := j) (j := j - 1) (by omega) (by omega)
                        have hsz2 := (Sort.size_swp E j (j - 1)).trans hE
                        have k1 : (j : Int) < (n : Int) := by omega
                        have k2 : (1 : Int) ≤ (j : Int) := by omega
                        have k3 : (j : Int) - 1 < (n : Int) := by omega
                        have k4 : 1 ≤ j := by omega
                        have k5 : (0 : Int) ≤ (j : Int) - 1 := by omega
                        have k6 : ((j : Int) - 1).toNat = j - 1 := by omega
                        have k7 : (j : Int) < (b : Int) := by omega
                        have hne : j ≠ j - 1 := by omega
                        have iw : IntKind.i64.wrap ((j : Int) - 1) = (j : Int) - 1 := IntWalk.i64_in _ (by omega)
                        rcases hlt : Sort.ltInt E[j]! E[j - 1]! with _ | _
                        · have hse' : E = Sort.shiftUp Sort.ltInt b (i1 + 1) D3 := by
                            rw [← hse]
                            unfold Sort.shiftUp
                            rw [if_pos hjl, if_pos (by simp [hlt])]
                          replace hse' := Lib.hid hse'
                          replace hlt := Lib.hid hlt
                          replace hR := Lib.hid hR
                          clear hse hsw hsz2
                          generalize E[j]! = x1 at *
                          generalize E[j - 1]! = x0 at *
                          go_wp2_with fail
                          go_still_tail 9, (by kernel_rfl)
                          go_wp2_with (go_at_call 75; refine Calls.mono (less32_any _ _ _) ?_; rintro e w6 ⟨rfl, rfl⟩; rw [hlt.out])
                          go_roundg s
                          case measure => have := hsm.out; omega
                          case rel => exact ⟨s, i1, Sort.fixUp Sort.ltInt b i1 D3, by omega, rfl, by omega, by omega, rfl, congrArg (Value.int .i64) (by omega), hz4, hRl.out, by rw [hfd.out, ← hse'.out]; exact hR.out.drew⟩
                        · have hse' : Sort.shiftUp Sort.ltInt b (j + 1) (Sort.swp E j (j - 1)) = Sort.shiftUp Sort.ltInt b (i1 + 1) D3 := by
                            rw [← hse]
                            conv => rhs; unfold Sort.shiftUp
                            rw [if_pos hjl, if_neg (by simp [hlt])]
                          replace hse' := Lib.hid hse'
                          replace hlt := Lib.hid hlt
                          replace hsw := Lib.hid hsw
                          replace hsz2 := Lib.hid hsz2
                          clear hse hR
                          generalize E[j]! = x1 at *
                          generalize E[j - 1]! = x0 at *
                          go_wp2_with fail
                          go_still_tail 9, (by kernel_rfl)
                          go_upto_region 23 with (go_at_call 75; refine Calls.mono (less32_any _ _ _) ?_; rintro e w6 ⟨rfl, rfl⟩; rw [hlt.out])
                          go_region
                          go_wp2_with fail
                          go_roundg (b - (j + 1))
                          case measure => have := hjm.out; omega
                          case rel => exact ⟨j + 1, Sort.swp E j (j - 1), by omega, by omega, rfl, by go_num, hsz2.out, hse'.out, hsw.out.drew.drew⟩
                      · have hse' : E = Sort.shiftUp Sort.ltInt b (i1 + 1) D3 := by
                          rw [← hse]
                          unfold Sort.shiftUp
                          rw [if_neg hjl]
                        have k7 : ¬ (j : Int) < (b : Int) := by omega
                        replace hse' := Lib.hid hse'
                        clear hse
                        replace hR := Lib.hid hR
                        go_wp2_with fail
                        go_roundg s
                        case measure => have := hsm.out; omega
                        case rel => exact ⟨s, i1, Sort.fixUp Sort.ltInt b i1 D3, by omega, rfl, by omega, by omega, rfl, congrArg (Value.int .i64) (by omega), hz4, hRl.out, by rw [hfd.out, ← hse'.out]; exact hR.out⟩
                  · have hfd : Sort.fixUp Sort.ltInt b i1 D3 = D3 := if_neg h2
                    have q3 : ¬ (2 : Int) ≤ (b : Int) - (i1 : Int) := by omega
                    replace hfd := Lib.hid hfd
                    go_wp2_with fail
                    go_roundg s
                    case measure => have := hsm.out; omega
                    case rel => exact ⟨s, i1, Sort.fixUp Sort.ltInt b i1 D3, by omega, rfl, by omega, by omega, rfl, congrArg (Value.int .i64) (by omega), hz4, hRl.out, by rw [hfd.out]; exact hR.out⟩
end Go.Proofs.Ytdilbcmnfpmijaa
