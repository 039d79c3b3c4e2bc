/- slices.reverseRangeOrdered, order2Ordered, medianOrdered, medianAdjacentOrdered at uint32. Conditions: the row is the call's own block, of fewer than 2^40 cells. -/
import Derived.Test.YtdilbcmnfpmijaaSrtB
namespace Go.Proofs.Ytdilbcmnfpmijaa
open Go.RowKit Go.Lo

set_option maxRecDepth 100000 in
set_option maxHeartbeats 1000000 in
theorem rev32_any (g n cap : Nat) (rest : List Value) (d : Array Int) (a b : Nat) (w : World) (h : RowU w g rest d w) (hd : d.size = n) (hb1 : 1 ≤ b) (hb : b ≤ n) (hn : n ≤ 1099511627776) :
    Calls Try.prog 73 #[.slice (some ⟨g, 0, none⟩) n cap, .int .i64 a, .int .i64 b] w (RowPost w g rest (Sort.reverseRange d a b)) := by
  have e1 : ((b : Int) - 1) = ((b - 1 : Nat) : Int) := by omega
  have e2 : IntKind.i64.wrap ((b : Int) - 1) = ((b - 1 : Nat) : Int) := by rw [e1]; exact IntWalk.i64_in _ (by omega)
  go_enter Try.func73, Try.ntmps73
  go_wp2_with fail
  clear e2
  go_loopg [6, 7] (b - 1 - a) (fun m v u wr => ∃ (i j : Nat) (d1 : Array Int), a ≤ i ∧ j ≤ b - 1 ∧ m = j - i ∧ v = .int .i64 i ∧ u = .int .i64 j ∧ d1.size = n ∧ Sort.reverseLoop i j d1 = Sort.reverseRange d a b ∧ RowU w g rest d1 wr)
  case atStart => exact ⟨a, b - 1, d, Nat.le_refl _, Nat.le_refl _, rfl, rfl, rfl, hd, rfl, h⟩
  case round =>
    obtain ⟨i, j, d1, hi, hj, hm, rfl, rfl, hd1, he, hr⟩ := hrel
    obtain ⟨w1, rfl⟩ : ∃ x : World, x = wr := ⟨_, rfl⟩
    replace hm := Lib.hid hm
    clear h e1
    by_cases hij : i < j
    · have he' : Sort.reverseLoop (i + 1) (j - 1) (Sort.swp d1 i j) = Sort.reverseRange d a b := by
        rw [← he]
        conv => rhs; unfold Sort.reverseLoop
        rw [if_pos hij]
      have c1 := hr.cell (i := i) (by omega)
      have c0 := hr.cell (i := j) (by omega)
      have f1 := hr.free i
      have f0 := hr.free j
      have hsw := hr.swp (i := i) (j := j) (by omega) (by omega)
      have hsz := Sort.size_swp d1 i j
      have i1 : (i : Int) < (n : Int) := by omega
      have i2 : (j : Int) < (n : Int) := by omega
      have i3 : (i : Int) < (j : Int) := by omega
      have hne : i ≠ j := by omega
      have ej : ((j : Int) - 1) = ((j - 1 : Nat) : Int) := by omega
      replace he' := Lib.hid he'
      replace hsw := Lib.hid hsw
      replace hsz := Lib.hid hsz
      replace ej := Lib.hid ej
      clear he hr
      generalize d1[i]! = x1 at *
      generalize d1[j]! = x0 at *
      go_wp2_with fail
      go_region
      go_wp2
      go_roundg (j - 1 - (i + 1))
      case measure => have := hm.out; omega
      case rel => exact ⟨i + 1, j - 1, Sort.swp d1 i j, by omega, by omega, rfl, by go_num, by rw [← ej.out], by rw [hsz.out]; exact hd1, he'.out, hsw.out.drew⟩
    · have he' : d1 = Sort.reverseRange d a b := by
        rw [← he]
        unfold Sort.reverseLoop
        rw [if_neg hij]
      have i3 : ¬ (i : Int) < (j : Int) := by omega
      subst he'
      go_wp2
      go_end0
      exact ⟨rfl, hr⟩

/-- the pivot's looks: nothing turns but the count of swaps -/
structure SwS (w0 : World) (g : Nat) (rest : List Value) (d : Array Int) (sb s : Nat) (w : World) : Prop where
  row : RowU w0 g rest d w
  cnt : Blk w sb 3 #[.int .i64 s]
theorem SwS.drew {w0 w : World} {g sb s : Nat} {rest : List Value} {d : Array Int} (h : SwS w0 g rest d sb s w) : SwS w0 g rest d sb s w.drew := ⟨h.row.drew, h.cnt⟩

set_option maxRecDepth 100000 in
theorem order2_any (w0 : World) (g n cap : Nat) (rest : List Value) (d : Array Int) (sb s a b : Nat) (w : World) (h : SwS w0 g rest d sb s w) (hg : g < w0.heap.size) (hsb : w0.heap.size ≤ sb) (hd : d.size = n) (ha : a < n) (hb : b < n) (_hn : n ≤ 1099511627776) (hs : s ≤ 1000) :
    Calls Try.prog 102 #[.slice (some ⟨g, 0, none⟩) n cap, .int .i64 a, .int .i64 b, .pointer (some ⟨sb, 0, none⟩)] w fun e w' =>
      e = .returned (.tuple #[.int .i64 (Sort.order2 Sort.ltInt d a b s).1, .int .i64 (Sort.order2 Sort.ltInt d a b s).2.1]) ∧ SwS w0 g rest d sb (Sort.order2 Sort.ltInt d a b s).2.2 w' := by
  have c1 := h.row.cell (i := a) (by omega)
  have c0 := h.row.cell (i := b) (by omega)
  have s0 := h.cnt.cell 0
  have t0 := h.cnt.free 0
  simp only [List.getElem?_toArray, List.getElem?_cons_zero] at s0
  have i1 : (a : Int) < (n : Int) := by omega
  have i2 : (b : Int) < (n : Int) := by omega
  have hfar := h.row.drew.far (p := ⟨sb, 0, none⟩) hsb hg (.int .i64 ((s : Int) + 1))
  have hset := h.cnt.set_ 0 (.int .i64 ((s : Int) + 1))
  cases hlt : Sort.ltInt d[b]! d[a]! with
  | true =>
    rw [show Sort.order2 Sort.ltInt d a b s = (b, a, s + 1) by unfold Sort.order2; rw [if_pos hlt]]
    replace h := Lib.hid h
    replace hfar := Lib.hid hfar
    replace hset := Lib.hid hset
    replace hlt := Lib.hid hlt
    generalize d[b]! = x1 at *
    generalize d[a]! = x0 at *
    go_enter Try.func102, Try.ntmps102
    go_wp2_with fail
    go_still_tail 8, (by kernel_rfl)
    go_wp2_with (go_at_call 75; refine Calls.mono (less32_any _ _ _) ?_; rintro e w3 ⟨rfl, rfl⟩; rw [hlt.out])
    refine bodyPost_ret (results_tmp2 rfl _ _ _) rfl ?_
    exact ⟨rfl, ⟨hfar.out, hset.out⟩⟩
  | false =>
    rw [show Sort.order2 Sort.ltInt d a b s = (a, b, s) by unfold Sort.order2; rw [if_neg (by simp [hlt])]]
    replace h := Lib.hid h
    replace hlt := Lib.hid hlt
    clear hfar hset
    generalize d[b]! = x1 at *
    generalize d[a]! = x0 at *
    go_enter Try.func102, Try.ntmps102
    go_wp2_with fail
    go_still_tail 8, (by kernel_rfl)
    go_wp2_with (go_at_call 75; refine Calls.mono (less32_any _ _ _) ?_; rintro e w3 ⟨rfl, rfl⟩; rw [hlt.out])
    refine bodyPost_ret (results_tmp2 rfl _ _ _) rfl ?_
    exact ⟨rfl, h.out.drew⟩

theorem order2_in {d : Array Int} {a b s n : Nat} (ha : a < n) (hb : b < n) : (Sort.order2 Sort.ltInt d a b s).1 < n ∧ (Sort.order2 Sort.ltInt d a b s).2.1 < n ∧ (Sort.order2 Sort.ltInt d a b s).2.2 ≤ s + 1 := by
  unfold Sort.order2
  split <;> simp <;> omega

set_option maxRecDepth 100000 in
theorem median_any (w0 : World) (g n cap : Nat) (rest : List Value) (d : Array Int) (sb s a b c : Nat) (w : World) (h : SwS w0 g rest d sb s w) (hg : g < w0.heap.size) (hsb : w0.heap.size ≤ sb) (hd : d.size = n) (ha : a < n) (hb : b < n) (hc : c < n) (hn : n ≤ 1099511627776) (hs : s ≤ 900) :
    Calls Try.prog 89 #[.slice (some ⟨g, 0, none⟩) n cap, .int .i64 a, .int .i64 b, .int .i64 c, .pointer (some ⟨sb, 0, none⟩)] w fun e w' =>
      e = .returned (.int .i64 (Sort.median Sort.ltInt d a b c s).1) ∧ SwS w0 g rest d sb (Sort.median Sort.ltInt d a b c s).2 w' := by
  obtain ⟨r1, hr1⟩ : ∃ r, r = Sort.order2 Sort.ltInt d a b s := ⟨_, rfl⟩
  obtain ⟨r2, hr2⟩ : ∃ r, r = Sort.order2 Sort.ltInt d r1.2.1 c r1.2.2 := ⟨_, rfl⟩
  obtain ⟨r3, hr3⟩ : ∃ r, r = Sort.order2 Sort.ltInt d r1.1 r2.1 r2.2.2 := ⟨_, rfl⟩
  have hm : Sort.median Sort.ltInt d a b c s = (r3.2.1, r3.2.2) := by
    rw [hr3, hr2, hr1]
    rfl
  rw [hm]
  obtain ⟨l1, l2, l3⟩ := order2_in (d := d) (s := s) ha hb
  rw [← hr1] at l1 l2 l3
  obtain ⟨m1, m2, m3⟩ := order2_in (d := d) (s := r1.2.2) l2 hc
  rw [← hr2] at m1 m2 m3
  have C1 := order2_any w0 g n cap rest d sb s a b w h hg hsb hd ha hb hn (by omega)
  rw [← hr1] at C1
  have C2 := fun w h => order2_any w0 g n cap rest d sb r1.2.2 r1.2.1 c w h hg hsb hd l2 hc hn (by omega)
  rw [← hr2] at C2
  have C3 := fun w h => order2_any w0 g n cap rest d sb r2.2.2 r1.1 r2.1 w h hg hsb hd l1 m1 hn (by omega)
  rw [← hr3] at C3
  replace C1 := Lib.hid C1
  replace C2 := Lib.hid C2
  replace C3 := Lib.hid C3
  clear hr1 hr2 hr3 hm h
  obtain ⟨r11, r12, r13⟩ := r1
  obtain ⟨r21, r22, r23⟩ := r2
  obtain ⟨r31, r32, r33⟩ := r3
  go_enter Try.func89, Try.ntmps89
  go_upto_region 2 with (go_at_call 102; refine Calls.mono C1.out ?_; rintro e w1 ⟨rfl, h1⟩)
  go_upto_region 3 with (go_at_call 102; refine Calls.mono (C2.out w1 h1) ?_; rintro e w2 ⟨rfl, h2⟩)
  go_wp2_with (go_at_call 102; refine Calls.mono (C3.out w2 h2) ?_; rintro e w3 ⟨rfl, h3⟩)
  go_ret
  exact ⟨rfl, h3⟩

theorem median_in {d : Array Int} {a b c s n : Nat} (ha : a < n) (hb : b < n) (hc : c < n) : (Sort.median Sort.ltInt d a b c s).1 < n ∧ (Sort.median Sort.ltInt d a b c s).2 ≤ s + 3 := by
  unfold Sort.median
  obtain ⟨l1, l2, l3⟩ := order2_in (d := d) (s := s) ha hb
  obtain ⟨m1, m2, m3⟩ := order2_in (d := d) (s := (Sort.order2 Sort.ltInt d a b s).2.2) l2 hc
  obtain ⟨n1, n2, n3⟩ := order2_in (d := d) (s := (Sort.order2 Sort.ltInt d (Sort.order2 Sort.ltInt d a b s).2.1 c (Sort.order2 Sort.ltInt d a b s).2.2).2.2) l1 m1
  exact ⟨n2, by simp only; omega⟩

set_option maxRecDepth 100000 in
theorem medadj_any (w0 : World) (g n cap : Nat) (rest : List Value) (d : Array Int) (sb s a : Nat) (w : World) (h : SwS w0 g rest d sb s w) (hg : g < w0.heap.size) (hsb : w0.heap.size ≤ sb) (hd : d.size = n) (ha : 1 ≤ a) (hb : a + 1 < n) (hn : n ≤ 1099511627776) (hs : s ≤ 900) :
    Calls Try.prog 88 #[.slice (some ⟨g, 0, none⟩) n cap, .int .i64 a, .pointer (some ⟨sb, 0, none⟩)] w fun e w' =>
      e = .returned (.int .i64 (Sort.medianAdjacent Sort.ltInt d a s).1) ∧ SwS w0 g rest d sb (Sort.medianAdjacent Sort.ltInt d a s).2 w' := by
  have C := median_any w0 g n cap rest d sb s (a - 1) a (a + 1) w h hg hsb hd (by omega) (by omega) hb hn hs
  rw [show ((a - 1 : Nat) : Int) = (a : Int) - 1 by omega, show ((a + 1 : Nat) : Int) = (a : Int) + 1 by omega] at C
  replace C := Lib.hid C
  have iw : IntKind.i64.wrap ((a : Int) - 1) = (a : Int) - 1 := IntWalk.i64_in _ (by omega)
  go_enter Try.func88, Try.ntmps88
  go_wp2_with (go_at_call 89; refine Calls.mono C.out ?_; rintro e w1 ⟨rfl, h1⟩)
  go_ret
  exact ⟨rfl, h1⟩
end Go.Proofs.Ytdilbcmnfpmijaa
