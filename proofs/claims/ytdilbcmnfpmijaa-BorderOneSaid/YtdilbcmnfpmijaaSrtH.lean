/- slices.partitionEqualOrdered at uint32. Conditions: the row is the call's own block, of fewer than 2^40 cells. -/
import Derived.Test.YtdilbcmnfpmijaaSrtF
namespace Go.Proofs.Ytdilbcmnfpmijaa
open Go.RowKit Go.Lo

theorem partEqLoop_eq (D : Array Int) (a I J i j : Nat) (hi : i = Sort.scanUp (fun x => !Sort.ltInt D[a]! x) D J I) (hj : j = Sort.scanDown (fun x => Sort.ltInt D[a]! x) D i J) :
    Sort.partEqLoop Sort.ltInt a I J D = if i > j then (i, D) else if (j - 1) + 1 - (i + 1) < J + 1 - I then Sort.partEqLoop Sort.ltInt a (i + 1) (j - 1) (Sort.swp D i j) else (i, D) := by
  subst hi hj
  conv => lhs; unfold Sort.partEqLoop
  rfl

set_option maxRecDepth 100000 in
set_option maxHeartbeats 4000000 in
theorem parteq32_any (g n cap : Nat) (rest : List Value) (d : Array Int) (a b pivot : Nat) (w : World) (h : RowU w g rest d w) (hd : d.size = n) (hap : a ≤ pivot) (hpb : pivot < b) (hb : b ≤ n) (hn : n ≤ 1099511627776) :
    Calls Try.prog 76 #[.slice (some ⟨g, 0, none⟩) n cap, .int .i64 a, .int .i64 b, .int .i64 pivot] w fun e w' =>
      e = .returned (.int .i64 (Sort.partitionEqual Sort.ltInt d a b pivot).1) ∧ RowU w g rest (Sort.partitionEqual Sort.ltInt d a b pivot).2 w' := by
  obtain ⟨R, hRR⟩ : ∃ R, R = Sort.partitionEqual Sort.ltInt d a b pivot := ⟨_, rfl⟩
  rw [← hRR]
  unfold Sort.partitionEqual at hRR
  have eJ : (b : Int) - 1 = ((b - 1 : Nat) : Int) := by omega
  have ia : (a : Int) < (n : Int) := by omega
  have ip : (pivot : Int) < (n : Int) := by omega
  replace hRR := Lib.hid hRR
  replace eJ := Lib.hid eJ
  go_enter Try.func76, Try.ntmps76
  go_upto_region 1 with fail
  have c0 := h.cell (i := a) (by omega)
  have c1 := h.cell (i := pivot) (by omega)
  have f0 := h.free (a)
  have f1 := h.free (pivot)
  have hsw := h.swp (i := a) (j := pivot) (by omega) (by omega)
  have hcs := (h.set (i := a) (by omega) d[pivot]!).cell (i := pivot) (by simp; omega)
  have hsz := Sort.size_swp d (a) (pivot)
  generalize (d.setIfInBounds (a) d[pivot]!)[pivot]! = yy at hcs
  generalize d[a]! = xx0 at *
  generalize d[pivot]! = xx1 at *
  replace hsw := Lib.hid hsw
  replace hsz := Lib.hid hsz
  clear h
  go_region
  replace hsz := hsz.out.trans hd
  have hR := hsw.out.drew
  generalize ((w.setCell ⟨g, a, none⟩ (.int .u32 xx1)).setCell ⟨g, pivot, none⟩ (.int .u32 xx0)).drew = w1 at *
  clear hsw hcs c0 c1 f0 f1
  replace hRR := hRR.out
  generalize Sort.swp d a pivot = D at *
  replace hRR := Lib.hid hRR
  replace hR := Lib.hid hR
  go_wp2_with fail
  go_loopg [9, 10] ((b - 1) + 1 - (a + 1)) (fun m v u wr => ∃ (i0 j0 : Nat) (E : Array Int), a < i0 ∧ i0 ≤ n ∧ j0 < n ∧ m = j0 + 1 - i0 ∧ v = .int .i64 i0 ∧ u = .int .i64 j0 ∧ E.size = n ∧ R = Sort.partEqLoop Sort.ltInt a i0 j0 E ∧ RowU w g rest E wr)
  case atStart => exact ⟨a + 1, b - 1, D, by omega, by omega, by omega, rfl, by go_num, congrArg (Value.int .i64) eJ.out, hsz, hRR.out, hR.out⟩
  case round =>
    clear hR hRR hsz
    obtain ⟨i0, j0, E, hai, hin0, hjn0, hm0, rfl, rfl, hE, hRl, hR⟩ := hrel
    obtain ⟨w5, rfl⟩ : ∃ x : World, x = wr := ⟨_, rfl⟩
    replace hm0 := Lib.hid hm0
    replace hRl := Lib.hid hRl
    replace hR := Lib.hid hR
    go_wp2_with fail
    go_loopg [9] (j0 + 1 - i0) (fun m v wr => ∃ i1 : Nat, (i0 ≤ i1 ∧ i1 ≤ n) ∧ m = j0 + 1 - i1 ∧ v = .int .i64 i1 ∧ Sort.scanUp (fun x => !Sort.ltInt E[a]! x) E j0 i1 = Sort.scanUp (fun x => !Sort.ltInt E[a]! x) E j0 i0 ∧ RowU w g rest E wr)
    case atStart => exact ⟨i0, by omega, rfl, by first | rfl | go_num, rfl, hR.out⟩
    case round =>
      clear hR
      obtain ⟨i1, hv, hm, rfl, hs, hR⟩ := hrel
      obtain ⟨w2, rfl⟩ : ∃ x : World, x = wr := ⟨_, rfl⟩
      replace hm := Lib.hid hm
      replace hs := Lib.hid hs
      replace hR := Lib.hid hR
      go_upto_region 3 with fail
      go_cut [43] (fun v wx => v = .bool (decide (i1 ≤ j0) && !Sort.ltInt E[a]! E[i1]!) ∧ RowU w g rest E wx)
      case first =>
        by_cases hg : i1 ≤ j0
        · have dg : decide (((i1 : Nat) : Int) ≤ ((j0 : Nat) : Int)) = true := decide_eq_true (by omega)
          have dg' : decide (i1 ≤ j0) = true := decide_eq_true hg
          have c1 := hR.out.cell (i := i1) (by omega)
          have c0 := hR.out.cell (i := a) (by omega)
          have i1' : (i1 : Int) < (n : Int) := by omega
          have i0' : (a : Int) < (n : Int) := by omega
          obtain ⟨x, hx⟩ : ∃ x, x = E[i1]! := ⟨_, rfl⟩
          obtain ⟨y, hy⟩ : ∃ y, y = E[a]! := ⟨_, rfl⟩
          rw [← hx] at c1
          rw [← hy] at c0
          replace hx := Lib.hid hx
          replace hy := Lib.hid hy
          go_still_tail 12, (by kernel_rfl)
          go_wp2_with (go_at_call 75; refine Calls.mono (less32_any _ _ _) ?_; rintro e w3 ⟨rfl, rfl⟩)
          go_meet
          case rel => exact ⟨by rw [← hx.out, ← hy.out]; simp [hg], hR.out.drew⟩
        · have dg : decide (((i1 : Nat) : Int) ≤ ((j0 : Nat) : Int)) = false := decide_eq_false (by omega)
          have dg' : decide (i1 ≤ j0) = false := decide_eq_false hg
          go_quiet (fail)
          go_wp2_with fail
          go_meet
          case rel => exact ⟨by simp [hg], hR.out.drewN nq⟩
      case rest =>
        obtain ⟨rfl, hR2⟩ := hcut
        clear hR
        have hR := Lib.hid hR2
        clear hR2
        cases hc : (decide (i1 ≤ j0) && !Sort.ltInt E[a]! E[i1]!) with
        | true =>
          have hb' : i1 ≤ j0 := by
            simp only [Bool.and_eq_true, decide_eq_true_eq] at hc
            exact hc.1
          have hs2 : Sort.scanUp (fun x => !Sort.ltInt E[a]! x) E j0 (i1 + 1) = Sort.scanUp (fun x => !Sort.ltInt E[a]! x) E j0 i0 := by
            rw [← hs.out]
            conv => rhs; unfold Sort.scanUp
            rw [if_pos hc]
          replace hs2 := Lib.hid hs2
          clear hc
          go_wp2_with fail
          go_roundg (j0 + 1 - (i1 + 1))
          case measure => have := hm.out; omega
          case rel => exact ⟨i1 + 1, by omega, rfl, by go_num, hs2.out, hR.out⟩
        | false =>
          have hfin : i1 = Sort.scanUp (fun x => !Sort.ltInt E[a]! x) E j0 i0 := by
            rw [← hs.out]
            unfold Sort.scanUp
            rw [if_neg (fun h' => Bool.false_ne_true (hc.symm.trans h'))]
          clear hc hm hs
          have hi1 := hv.1
          have hi1n := hv.2
          have hup := Lib.hid hfin
          clear hfin hv
          go_wp2_with fail
          go_loopg [10] (j0) (fun m v wr => ∃ j1 : Nat, (j1 ≤ j0) ∧ m = j1 ∧ v = .int .i64 j1 ∧ Sort.scanDown (fun x => Sort.ltInt E[a]! x) E i1 j1 = Sort.scanDown (fun x => Sort.ltInt E[a]! x) E i1 j0 ∧ RowU w g rest E wr)
          case atStart => exact ⟨j0, by omega, rfl, by first | rfl | go_num, rfl, hR.out⟩
          case round =>
            clear hR
            obtain ⟨j1, hv, hm, rfl, hs, hR⟩ := hrel
            obtain ⟨w2, rfl⟩ : ∃ x : World, x = wr := ⟨_, rfl⟩
            replace hm := Lib.hid hm
            replace hs := Lib.hid hs
            replace hR := Lib.hid hR
            go_upto_region 5 with fail
            go_cut [59] (fun v wx => v = .bool (decide (i1 ≤ j1) && Sort.ltInt E[a]! E[j1]!) ∧ RowU w g rest E wx)
            case first =>
              by_cases hg : i1 ≤ j1
              · have dg : decide (((i1 : Nat) : Int) ≤ ((j1 : Nat) : Int)) = true := decide_eq_true (by omega)
                have dg' : decide (i1 ≤ j1) = true := decide_eq_true hg
                have c1 := hR.out.cell (i := j1) (by omega)
                have c0 := hR.out.cell (i := a) (by omega)
                have i1' : (j1 : Int) < (n : Int) := by omega
                have i0' : (a : Int) < (n : Int) := by omega
                obtain ⟨x, hx⟩ : ∃ x, x = E[j1]! := ⟨_, rfl⟩
                obtain ⟨y, hy⟩ : ∃ y, y = E[a]! := ⟨_, rfl⟩
                rw [← hx] at c1
                rw [← hy] at c0
                replace hx := Lib.hid hx
                replace hy := Lib.hid hy
                go_still_tail 12, (by kernel_rfl)
                go_wp2_with (go_at_call 75; refine Calls.mono (less32_any _ _ _) ?_; rintro e w3 ⟨rfl, rfl⟩)
                go_meet
                case rel => exact ⟨by rw [← hx.out, ← hy.out]; simp [hg], hR.out.drew⟩
              · have dg : decide (((i1 : Nat) : Int) ≤ ((j1 : Nat) : Int)) = false := decide_eq_false (by omega)
                have dg' : decide (i1 ≤ j1) = false := decide_eq_false hg
                go_quiet (fail)
                go_wp2_with fail
                go_meet
                case rel => exact ⟨by simp [hg], hR.out.drewN nq⟩
            case rest =>
              obtain ⟨rfl, hR2⟩ := hcut
              clear hR
              have hR := Lib.hid hR2
              clear hR2
              cases hc : (decide (i1 ≤ j1) && Sort.ltInt E[a]! E[j1]!) with
              | true =>
                have hb' : i1 ≤ j1 := by
                  simp only [Bool.and_eq_true, decide_eq_true_eq] at hc
                  exact hc.1
                have hs2 : Sort.scanDown (fun x => Sort.ltInt E[a]! x) E i1 (j1 - 1) = Sort.scanDown (fun x => Sort.ltInt E[a]! x) E i1 j0 := by
                  rw [← hs.out]
                  obtain ⟨k, rfl⟩ : ∃ k, j1 = k + 1 := ⟨j1 - 1, by omega⟩
                  conv => rhs; unfold Sort.scanDown
                  rw [if_pos hc]
                  rfl
                replace hs2 := Lib.hid hs2
                clear hc
                go_wp2_with fail
                go_roundg ((j1 - 1))
                case measure => have := hm.out; omega
                case rel => exact ⟨j1 - 1, by omega, rfl, congrArg (Value.int .i64) (by omega), hs2.out, hR.out⟩
              | false =>
                have hfin : j1 = Sort.scanDown (fun x => Sort.ltInt E[a]! x) E i1 j0 := by
                  rw [← hs.out]
                  cases j1 with
                  | zero => rfl
                  | succ k =>
                    unfold Sort.scanDown
                    rw [if_neg (fun h' => Bool.false_ne_true (hc.symm.trans h'))]
                clear hc hm hs
                have hRe : R = _ := hRl.out.trans (partEqLoop_eq E a i0 j0 i1 j1 hup.out hfin)
                replace hfin := Lib.hid hfin
                clear hup hfin hRl
                have hjn : j1 < n := by omega
                have h := hR.out
                by_cases hij : i1 > j1
                · rw [if_pos hij] at hRe
                  replace hRe := Lib.hid hRe
                  have q1 : (j1 : Int) < (i1 : Int) := by omega
                  clear h
                  go_wp2_with fail
                  go_ret
                  rw [hRe.out]
                  exact ⟨rfl, hR.out⟩
                · rw [if_neg hij, if_pos (by omega)] at hRe
                  have q1 : ¬ (j1 : Int) < (i1 : Int) := by omega
                  replace hRe := Lib.hid hRe
                  go_upto_region 8 with fail
                  have c0 := h.cell (i := i1) (by omega)
                  have c1 := h.cell (i := j1) (by omega)
                  have f0 := h.free (i1)
                  have f1 := h.free (j1)
                  have hsw := h.swp (i := i1) (j := j1) (by omega) (by omega)
                  have hcs := (h.set (i := i1) (by omega) E[j1]!).cell (i := j1) (by simp; omega)
                  have hsz := Sort.size_swp E (i1) (j1)
                  generalize (E.setIfInBounds (i1) E[j1]!)[j1]! = yy at hcs
                  generalize E[i1]! = xx0 at *
                  generalize E[j1]! = xx1 at *
                  replace hsw := Lib.hid hsw
                  replace hsz := Lib.hid hsz
                  clear h
                  go_region
                  go_wp2_with fail
                  go_roundg ((j1 - 1) + 1 - (i1 + 1))
                  case measure => have := hm0.out; omega
                  case rel => exact ⟨i1 + 1, j1 - 1, Sort.swp E i1 j1, by omega, by omega, by omega, rfl, by go_num, congrArg (Value.int .i64) (by omega), hsz.out.trans hE, hRe.out, hsw.out.drew⟩
end Go.Proofs.Ytdilbcmnfpmijaa
