/- slices.choosePivotOrdered at uint32. Conditions: the row is the call's own block, of fewer than 2^40 cells; more than twelve elements. -/
import Derived.Test.YtdilbcmnfpmijaaSrtC
namespace Go.Proofs.Ytdilbcmnfpmijaa
open Go.RowKit Go.Lo

theorem wrap64_in (z : Int) (h : -9223372036854775808 ≤ z ∧ z < 9223372036854775808) : wrap64 z = z := by
  unfold wrap64
  omega
theorem wrap64_nat (x : Nat) (h : x < 4611686018427387904) : wrap64 (x : Int) = (x : Int) := wrap64_in _ (by omega)

def hintC : Sort.Hint → Int
  | .unknown => 0
  | .increasing => 1
  | .decreasing => 2

set_option maxRecDepth 100000 in
set_option maxHeartbeats 1000000 in
theorem choose_any (g n cap : Nat) (rest : List Value) (d : Array Int) (a b : Nat) (w : World) (h : RowU w g rest d w) (hd : d.size = n) (hl : 12 < b - a) (hb : b ≤ n) (hn : n ≤ 1099511627776) :
    Calls Try.prog 72 #[.slice (some ⟨g, 0, none⟩) n cap, .int .i64 a, .int .i64 b] w fun e w' =>
      e = .returned (.tuple #[.int .i64 (Sort.choosePivot Sort.ltInt d a b).1, .int .i64 (hintC (Sort.choosePivot Sort.ltInt d a b).2)]) ∧ RowU w g rest d w' := by
  have hg : g < w.heap.size := h.blk.lt
  have h1 : SwS w g rest d w.heap.size 0 (w.alloc (.cells #[.int .i64 0] 3)) := ⟨h.alloc _, Blk.new _ _ _⟩
  obtain ⟨l, hle⟩ : ∃ l, l = b - a := ⟨_, rfl⟩
  obtain ⟨q, hq⟩ : ∃ q, q = l / 4 := ⟨_, rfl⟩
  have el : (b : Int) - (a : Int) = (l : Int) := by omega
  have ew : IntKind.i64.wrap (l : Int) = (l : Int) := IntWalk.i64_in _ (by omega)
  have eq4 : Int.tdiv (l : Int) 4 = (q : Int) := by rw [hq, Int.tdiv_eq_ediv_of_nonneg (by omega)]; omega
  have ei : Sort.choosePivot Sort.ltInt d a b = (let r := (if l ≥ 50 then
        let ri := Sort.medianAdjacent Sort.ltInt d (a + q * 1) 0
        let rj := Sort.medianAdjacent Sort.ltInt d (a + q * 2) ri.2
        let rk := Sort.medianAdjacent Sort.ltInt d (a + q * 3) rj.2
        Sort.median Sort.ltInt d ri.1 rj.1 rk.1 rk.2
      else Sort.median Sort.ltInt d (a + q * 1) (a + q * 2) (a + q * 3) 0); (r.1, if r.2 = 0 then Sort.Hint.increasing else if r.2 = 12 then .decreasing else .unknown)) := by
    unfold Sort.choosePivot
    simp only
    rw [← hle, ← hq, if_pos (show l ≥ 8 by omega)]
  rw [ei]
  clear ei
  obtain ⟨x1, hx1⟩ : ∃ x, x = a + q * 1 := ⟨_, rfl⟩
  obtain ⟨x2, hx2⟩ : ∃ x, x = a + q * 2 := ⟨_, rfl⟩
  obtain ⟨x3, hx3⟩ : ∃ x, x = a + q * 3 := ⟨_, rfl⟩
  rw [← hx1, ← hx2, ← hx3]
  have lx : a ≤ x1 ∧ x1 + 1 < n ∧ x2 + 1 < n ∧ x3 + 1 < n ∧ (50 ≤ l → 1 ≤ x1 ∧ 1 ≤ x2 ∧ 1 ≤ x3) := by omega
  have s1 : (a : Int) + (q : Int) = (x1 : Int) := by omega
  have s2 : (a : Int) + (q : Int) * 2 = (x2 : Int) := by omega
  have s3 : (a : Int) + (q : Int) * 3 = (x3 : Int) := by omega
  have bx1 : x1 < 4611686018427387904 := by omega
  have bx2 : x2 < 4611686018427387904 := by omega
  have bx3 : x3 < 4611686018427387904 := by omega
  have bq0 : q < 4611686018427387904 := by omega
  have bq2 : -9223372036854775808 ≤ (q : Int) * 2 ∧ (q : Int) * 2 < 9223372036854775808 := by omega
  have bq3 : -9223372036854775808 ≤ (q : Int) * 3 ∧ (q : Int) * 3 < 9223372036854775808 := by omega
  have p0 : wrap64 (q : Int) = (q : Int) := wrap64_nat q bq0
  have p1 : wrap64 ((a : Int) + (q : Int)) = (x1 : Int) := by rw [s1]; exact wrap64_nat x1 bx1
  have p22 : wrap64 ((q : Int) * 2) = (q : Int) * 2 := wrap64_in _ bq2
  have p2 : wrap64 ((a : Int) + (q : Int) * 2) = (x2 : Int) := by rw [s2]; exact wrap64_nat x2 bx2
  have p33 : wrap64 ((q : Int) * 3) = (q : Int) * 3 := wrap64_in _ bq3
  have p3 : wrap64 ((a : Int) + (q : Int) * 3) = (x3 : Int) := by rw [s3]; exact wrap64_nat x3 bx3
  clear s1 s2 s3 bx1 bx2 bx3 bq0 bq2 bq3
  clear hx1 hx2 hx3 hq
  by_cases h50 : 50 ≤ l
  · rw [if_pos h50]
    obtain ⟨_, b1, b2, b3, b4⟩ := lx
    obtain ⟨b5, b6, b7⟩ := b4 h50
    have i1 : (50 : Int) ≤ (l : Int) := by clear p0 p1 p2 p3 p22 p33; omega
    have i2 : (8 : Int) ≤ (l : Int) := by clear p0 p1 p2 p3 p22 p33; omega
    replace p0 := Lib.hid p0
    replace p1 := Lib.hid p1
    replace p2 := Lib.hid p2
    replace p3 := Lib.hid p3
    replace p22 := Lib.hid p22
    replace p33 := Lib.hid p33
    obtain ⟨r1, hr1⟩ : ∃ r, r = Sort.medianAdjacent Sort.ltInt d x1 0 := ⟨_, rfl⟩
    obtain ⟨r2, hr2⟩ : ∃ r, r = Sort.medianAdjacent Sort.ltInt d x2 r1.2 := ⟨_, rfl⟩
    obtain ⟨r3, hr3⟩ : ∃ r, r = Sort.medianAdjacent Sort.ltInt d x3 r2.2 := ⟨_, rfl⟩
    obtain ⟨R, hR⟩ : ∃ r, r = Sort.median Sort.ltInt d r1.1 r2.1 r3.1 r3.2 := ⟨_, rfl⟩
    have hm : (let ri := Sort.medianAdjacent Sort.ltInt d x1 0
        let rj := Sort.medianAdjacent Sort.ltInt d x2 ri.2
        let rk := Sort.medianAdjacent Sort.ltInt d x3 rj.2
        Sort.median Sort.ltInt d ri.1 rj.1 rk.1 rk.2) = R := by rw [hR, hr3, hr2, hr1]
    rw [hm]
    have l1 := median_in (d := d) (a := x1 - 1) (b := x1) (c := x1 + 1) (s := 0) (n := n) (by omega) (by omega) (by omega)
    have e1 : Sort.medianAdjacent Sort.ltInt d x1 0 = Sort.median Sort.ltInt d (x1 - 1) x1 (x1 + 1) 0 := rfl
    rw [← e1, ← hr1] at l1
    have l2 := median_in (d := d) (a := x2 - 1) (b := x2) (c := x2 + 1) (s := r1.2) (n := n) (by omega) (by omega) (by omega)
    have e2 : Sort.medianAdjacent Sort.ltInt d x2 r1.2 = Sort.median Sort.ltInt d (x2 - 1) x2 (x2 + 1) r1.2 := rfl
    rw [← e2, ← hr2] at l2
    have l3 := median_in (d := d) (a := x3 - 1) (b := x3) (c := x3 + 1) (s := r2.2) (n := n) (by omega) (by omega) (by omega)
    have e3 : Sort.medianAdjacent Sort.ltInt d x3 r2.2 = Sort.median Sort.ltInt d (x3 - 1) x3 (x3 + 1) r2.2 := rfl
    rw [← e3, ← hr3] at l3
    have C1 := medadj_any w g n cap rest d w.heap.size 0 x1 _ h1 hg (Nat.le_refl _) hd b5 b1 hn (by omega)
    rw [← hr1] at C1
    have C2 := fun w1 h => medadj_any w g n cap rest d w.heap.size r1.2 x2 w1 h hg (Nat.le_refl _) hd b6 b2 hn (by omega)
    rw [← hr2] at C2
    have C3 := fun w1 h => medadj_any w g n cap rest d w.heap.size r2.2 x3 w1 h hg (Nat.le_refl _) hd b7 b3 hn (by omega)
    rw [← hr3] at C3
    have C4 := fun w1 h => median_any w g n cap rest d w.heap.size r3.2 r1.1 r2.1 r3.1 w1 h hg (Nat.le_refl _) hd l1.1 l2.1 l3.1 hn (by omega)
    rw [← hR] at C4
    replace C1 := Lib.hid C1
    replace C2 := Lib.hid C2
    replace C3 := Lib.hid C3
    replace C4 := Lib.hid C4
    clear hr1 hr2 hr3 hR hm hle h h1 e1 e2 e3 l1 l2 l3
    obtain ⟨r11, r12⟩ := r1
    obtain ⟨r21, r22⟩ := r2
    obtain ⟨r31, r32⟩ := r3
    replace p0 := p0.out
    replace p1 := p1.out
    replace p2 := p2.out
    replace p3 := p3.out
    replace p22 := p22.out
    replace p33 := p33.out
    go_enter Try.func72, Try.ntmps72
    go_upto_region 9 with (go_at_call 88; refine Calls.mono C1.out ?_; rintro e w1 ⟨rfl, h1⟩)
    clear p0 p1 p2 p3 p22 p33
    go_upto_region 10 with (go_at_call 88; refine Calls.mono (C2.out w1 h1) ?_; rintro e w2 ⟨rfl, h2⟩)
    go_upto_region 11 with (go_at_call 88; refine Calls.mono (C3.out w2 h2) ?_; rintro e w3 ⟨rfl, h3⟩)
    go_upto_region 12 with (go_at_call 89; refine Calls.mono (C4.out w3 h3) ?_; rintro e w4 ⟨rfl, h4⟩)
    clear C1 C2 C3 C4
    obtain ⟨m1, m2⟩ := R
    have s0 := h4.cnt.cell 0
    simp only [List.getElem?_toArray, List.getElem?_cons_zero] at s0
    have hrow := Lib.hid h4.row
    clear h4
    by_cases h0 : m2 = 0
    · subst h0
      go_wp2_with fail
      refine bodyPost_ret (results_tmp2 rfl _ _ _) rfl ?_
      exact ⟨rfl, hrow.out⟩
    · by_cases h12 : m2 = 12
      · subst h12
        go_wp2_with fail
        refine bodyPost_ret (results_tmp2 rfl _ _ _) rfl ?_
        exact ⟨rfl, hrow.out⟩
      · have n0 : ((m2 : Int) == 0) = false := by simpa using h0
        have n12 : ((m2 : Int) == 12) = false := by simp; omega
        go_wp2_with fail
        refine bodyPost_ret (results_tmp2 rfl _ _ _) rfl ?_
        exact ⟨by simp [hintC], hrow.out⟩
  · rw [if_neg h50]
    obtain ⟨_, b1, b2, b3, _⟩ := lx
    have i1 : ¬ (50 : Int) ≤ (l : Int) := by clear p0 p1 p2 p3 p22 p33; omega
    have i2 : (8 : Int) ≤ (l : Int) := by clear p0 p1 p2 p3 p22 p33; omega
    obtain ⟨R, hR⟩ : ∃ r, r = Sort.median Sort.ltInt d x1 x2 x3 0 := ⟨_, rfl⟩
    have C := median_any w g n cap rest d w.heap.size 0 x1 x2 x3 _ h1 hg (Nat.le_refl _) hd (by clear p0 p1 p2 p3 p22 p33; omega) (by clear p0 p1 p2 p3 p22 p33; omega) (by clear p0 p1 p2 p3 p22 p33; omega) hn (by omega)
    rw [← hR] at C
    rw [← hR]
    replace C := Lib.hid C
    clear hR hle h h1
    go_enter Try.func72, Try.ntmps72
    go_upto_region 12 with (go_at_call 89; refine Calls.mono C.out ?_; rintro e w1 ⟨rfl, h2⟩)
    clear p0 p1 p2 p3 p22 p33 C
    obtain ⟨m1, m2⟩ := R
    have s0 := h2.cnt.cell 0
    simp only [List.getElem?_toArray, List.getElem?_cons_zero] at s0
    have hrow := Lib.hid h2.row
    clear h2
    by_cases h0 : m2 = 0
    · subst h0
      go_wp2_with fail
      refine bodyPost_ret (results_tmp2 rfl _ _ _) rfl ?_
      exact ⟨rfl, hrow.out⟩
    · by_cases h12 : m2 = 12
      · subst h12
        go_wp2_with fail
        refine bodyPost_ret (results_tmp2 rfl _ _ _) rfl ?_
        exact ⟨rfl, hrow.out⟩
      · have n0 : ((m2 : Int) == 0) = false := by simpa using h0
        have n12 : ((m2 : Int) == 12) = false := by simp; omega
        go_wp2_with fail
        refine bodyPost_ret (results_tmp2 rfl _ _ _) rfl ?_
        exact ⟨by simp [hintC], hrow.out⟩
end Go.Proofs.Ytdilbcmnfpmijaa
