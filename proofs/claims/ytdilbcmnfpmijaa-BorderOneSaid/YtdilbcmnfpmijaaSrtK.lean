/- slices.breakPatternsOrdered at uint32. Conditions: the row is the call's own block, of fewer than 2^40 cells; more than twelve elements. -/
import Derived.Test.YtdilbcmnfpmijaaSrtJ
namespace Go.Proofs.Ytdilbcmnfpmijaa
open Go.RowKit Go.Lo

/-- the generator's state and the row behind k of the three steps -/
def brk (a l : Nat) (st : UInt64 × Array Int) (idx : Nat) : Nat → UInt64 × Array Int
  | 0 => st
  | k + 1 => Sort.breakStep a l (1 <<< Sort.bitsLen l) (brk a l st idx k) (idx + k)
theorem brk_size (a l : Nat) (st : UInt64 × Array Int) (idx k : Nat) : (brk a l st idx k).2.size = st.2.size := by
  induction k with
  | zero => rfl
  | succ k ih =>
    unfold brk Sort.breakStep
    simp only
    rw [Sort.size_swp, ih]
theorem brk_eq (d : Array Int) (a b l : Nat) (hl : l = b - a) (h8 : 12 < l) : Sort.breakPatterns d a b = (brk a l (UInt64.ofNat l, d) (a + l / 4 * 2 - 1) 3).2 := by
  subst hl
  unfold Sort.breakPatterns
  simp only
  rw [if_pos (by omega)]
  rfl
theorem pow_bits (l : Nat) (h : 0 < l) : 1 <<< Sort.bitsLen l ≤ 2 * l ∧ 1 ≤ 1 <<< Sort.bitsLen l := by
  rw [Nat.one_shiftLeft]
  refine ⟨?_, Nat.one_le_two_pow⟩
  have hb : ¬ Sort.bitsLen l ≤ 0 := fun hc => by have := (Sort.bitsLen_le_iff l 0).1 hc; omega
  have h1 : ¬ Sort.bitsLen l ≤ Sort.bitsLen l - 1 := by omega
  have h2 : ¬ l < 2 ^ (Sort.bitsLen l - 1) := fun hc => h1 ((Sort.bitsLen_le_iff l _).2 hc)
  obtain ⟨k, hk⟩ : ∃ k, Sort.bitsLen l = k + 1 := ⟨Sort.bitsLen l - 1, by omega⟩
  rw [hk] at h2 ⊢
  rw [Nat.pow_succ]
  simp at h2
  omega

set_option maxRecDepth 100000 in
set_option maxHeartbeats 4000000 in
theorem brk32_any (g n cap : Nat) (rest : List Value) (d : Array Int) (a b : Nat) (w : World) (h : RowU w g rest d w) (hd : d.size = n) (hl : 12 < b - a) (hb : b ≤ n) (hn : n ≤ 1099511627776) :
    Calls Try.prog 71 #[.slice (some ⟨g, 0, none⟩) n cap, .int .i64 a, .int .i64 b] w (RowPost w g rest (Sort.breakPatterns d a b)) := by
  have hg : g < w.heap.size := h.blk.lt
  obtain ⟨l, hle⟩ : ∃ l, l = b - a := ⟨_, rfl⟩
  obtain ⟨T, hT⟩ : ∃ T, T = Sort.breakPatterns d a b := ⟨_, rfl⟩
  rw [← hT]
  rw [brk_eq d a b l hle (by omega)] at hT
  obtain ⟨q, hq⟩ : ∃ q, q = l / 4 := ⟨_, rfl⟩
  rw [← hq] at hT
  obtain ⟨x0, hx0⟩ : ∃ x, x = a + q * 2 - 1 := ⟨_, rfl⟩
  rw [← hx0] at hT
  obtain ⟨m, hm⟩ : ∃ m, m = 1 <<< Sort.bitsLen l := ⟨_, rfl⟩
  obtain ⟨hm1, hm2⟩ := pow_bits l (by omega)
  rw [← hm] at hm1 hm2
  have el : (b : Int) - (a : Int) = (l : Int) := by omega
  have ew : IntKind.i64.wrap (l : Int) = (l : Int) := IntWalk.i64_in _ (by omega)
  have eu : IntKind.u64.wrap (l : Int) = (l : Int) := by rw [IntKind.wrap_u64]; omega
  have eq4 : Int.tdiv (l : Int) 4 = (q : Int) := by rw [hq, Int.tdiv_eq_ediv_of_nonneg (by omega)]; omega
  have h8 : (8 : Int) ≤ (l : Int) := by omega
  have s1 : (a : Int) + (q : Int) * 2 - 1 = (x0 : Int) := by omega
  have bx : x0 + 3 ≤ n ∧ a ≤ x0 ∧ x0 + 2 < b ∧ a + q * 2 = x0 + 1 := by omega
  have al : a + l = b := by omega
  have NP := npot_any l (by omega)
  rw [← hm] at NP
  have hk1 : Blk (w.alloc (.cells #[.int .u64 l] 180)) w.heap.size 180 #[.int .u64 l] := Blk.new _ _ _
  have hr1 := h.alloc (.cells #[.int .u64 l] 180)
  have hl12 : 12 < l := by omega
  have hln : l ≤ n := by omega
  clear hle hq hx0 hl h
  replace hT := Lib.hid hT
  replace NP := Lib.hid NP
  replace hm := Lib.hid hm
  go_enter Try.func71, Try.ntmps71
  go_upto_region 4 with (go_at_call 86; refine Calls.mono (NP.out _) ?_; rintro e w1 ⟨rfl, rfl⟩)
  generalize (w.alloc (.cells #[.int .u64 l] 180)) = w1 at *
  go_wp2_with fail
  go_loopg [9] 3 (fun mm v wr => ∃ (k X : Nat) (D : Array Int), k ≤ 3 ∧ mm = 3 - k ∧ v = .int .i64 ((x0 + k : Nat) : Int) ∧ (brk a l (UInt64.ofNat l, d) x0 k).1.toNat = X ∧ (brk a l (UInt64.ofNat l, d) x0 k).2 = D ∧ RowU w g rest D wr ∧ Blk wr w.heap.size 180 #[.int .u64 X])
  case atStart => exact ⟨0, l, d, by omega, rfl, congrArg (Value.int .i64) (by omega), (by show (UInt64.ofNat l).toNat = l; simp; omega), rfl, hr1, hk1⟩
  case round =>
    clear hr1 hk1 s1
    obtain ⟨k, X, D, hk3, hmm, rfl, hX, hD, hR, hK⟩ := hrel
    obtain ⟨w2, rfl⟩ : ∃ x : World, x = wr := ⟨_, rfl⟩
    replace hmm := Lib.hid hmm
    have hDn : D.size = n := by rw [← hD, brk_size]; exact hd
    by_cases hk : k < 3
    · have hXl : X < 18446744073709551616 := by rw [← hX]; exact UInt64.toNat_lt _
      obtain ⟨Y, hY⟩ : ∃ Y, Y = Sort.xorNextN X := ⟨_, rfl⟩
      have hYl : Y < 18446744073709551616 := by rw [hY]; exact Sort.xorNextN_lt X hXl
      obtain ⟨o, ho⟩ : ∃ o, o = Y &&& (m - 1) := ⟨_, rfl⟩
      have hol : o ≤ m - 1 := by rw [ho]; exact Nat.and_le_right
      have eo1 : IntKind.u64.wrap ((m : Int) - 1) = ((m - 1 : Nat) : Int) := by rw [IntKind.wrap_u64]; omega
      have eo2 : bits .and .u64 (Y : Int) ((m - 1 : Nat) : Int) = (o : Int) := by rw [bits_and_u64_nat _ _ hYl (by omega), ho]
      have eo3 : IntKind.i64.wrap (o : Int) = (o : Int) := IntWalk.i64_in _ (by omega)
      obtain ⟨o2, ho2⟩ : ∃ o2, o2 = if o ≥ l then o - l else o := ⟨_, rfl⟩
      have hstep : brk a l (UInt64.ofNat l, d) x0 (k + 1) = (Sort.xorNext (brk a l (UInt64.ofNat l, d) x0 k).1, Sort.swp D (x0 + k) (a + o2)) := by
        conv => lhs; unfold brk Sort.breakStep
        simp only
        rw [Sort.xorNext_toNat, hX, ← hY, ← hm.out, ← ho, ← ho2, hD]
      have hXn : (brk a l (UInt64.ofNat l, d) x0 (k + 1)).1.toNat = Y := by
        rw [hstep]
        show (Sort.xorNext _).toNat = Y
        rw [Sort.xorNext_toNat, hX, hY]
      have hDn2 : (brk a l (UInt64.ofNat l, d) x0 (k + 1)).2 = Sort.swp D (x0 + k) (a + o2) := by rw [hstep]
      have NX := next32_any w.heap.size X hXl w2 hK
      rw [← hY] at NX
      have hR3 := (hR.far (p := ⟨w.heap.size, 0, none⟩) (Nat.le_refl _) hg (.int .u64 (Y : Int))).drewN 3
      have hK3 : Blk ((w2.setCell ⟨w.heap.size, 0, none⟩ (.int .u64 (Y : Int))).drewN 3) w.heap.size 180 #[.int .u64 Y] := hK.set_ 0 _
      have dc : ((x0 + k : Nat) : Int) ≤ (a : Int) + (q : Int) * 2 + 1 := by omega
      have dc2 : (x0 : Int) + (k : Int) ≤ (a : Int) + (q : Int) * 2 + 1 := by omega
      have hi1 : x0 + k < n := by omega
      replace NX := Lib.hid NX
      replace hXn := Lib.hid hXn
      replace hDn2 := Lib.hid hDn2
      replace hR3 := Lib.hid hR3
      replace hK3 := Lib.hid hK3
      clear hstep hX hD hR hK hY ho eo3
      have eo3 : IntKind.i64.wrap (o : Int) = (o : Int) := IntWalk.i64_in _ (by omega)
      go_upto_region 8 with (go_at_call 87; refine Calls.mono NX.out ?_; rintro e w3 ⟨rfl, rfl⟩)
      clear dc dc2 eo1 eo2 NX
      generalize ((w2.setCell ⟨w.heap.size, 0, none⟩ (.int .u64 (Y : Int))).drewN 3) = w4 at *
      by_cases hge : o ≥ l
      · rw [if_pos hge] at ho2
        have g1 : (l : Int) ≤ (o : Int) := by omega
        have g2 : (o : Int) - (l : Int) = (o2 : Int) := by omega
        have h2l : o2 < l := by omega
        clear ho2
        have h := hR3.out
        have wA : IntKind.i64.wrap ((a : Int) + (o2 : Int)) = (a : Int) + (o2 : Int) := IntWalk.i64_in _ (by omega)
        have z1 : (0 : Int) ≤ (a : Int) + (o2 : Int) := by omega
        have z2 : (a : Int) + (o2 : Int) < (n : Int) := by omega
        have z3 : ((a : Int) + (o2 : Int)).toNat = a + o2 := by omega
        have z4 : (x0 : Int) + (k : Int) < (n : Int) := by omega
        have z5 : (0 : Int) ≤ (x0 : Int) + (k : Int) := by omega
        have z6 : ((x0 : Int) + (k : Int)).toNat = x0 + k := by omega
        go_upto_region 10 with fail
        have c0 := h.cell (i := x0 + k) (by omega)
        have c1 := h.cell (i := a + o2) (by omega)
        have f0 := h.free (x0 + k)
        have f1 := h.free (a + o2)
        have hsw := h.swp (i := x0 + k) (j := a + o2) (by omega) (by omega)
        have hcs := (h.set (i := x0 + k) (by omega) D[a + o2]!).cell (i := a + o2) (by simp; omega)
        have hsz := Sort.size_swp D (x0 + k) (a + o2)
        generalize (D.setIfInBounds (x0 + k) D[a + o2]!)[a + o2]! = yy at hcs
        generalize D[x0 + k]! = xx0 at *
        generalize D[a + o2]! = xx1 at *
        replace hsw := Lib.hid hsw
        replace hsz := Lib.hid hsz
        clear h
        go_region
        have hK5 := ((hK3.out.far (p := ⟨g, x0 + k, none⟩) (by show w.heap.size ≠ g; omega) (.int .u32 xx1)).far (p := ⟨g, a + o2, none⟩) (by show w.heap.size ≠ g; omega) (.int .u32 xx0))
        replace hK5 := Lib.hid hK5
        go_wp2_with fail
        go_roundg (3 - (k + 1))
        case measure => have := hmm.out; omega
        case rel => exact ⟨k + 1, Y, Sort.swp D (x0 + k) (a + o2), by omega, rfl, congrArg (Value.int .i64) (by omega), hXn.out, hDn2.out, hsw.out.drew, hK5.out⟩
      · rw [if_neg hge] at ho2
        have g1 : ¬ (l : Int) ≤ (o : Int) := by omega
        subst ho2
        have h2l : o2 < l := by omega
        have h := hR3.out
        have wA : IntKind.i64.wrap ((a : Int) + (o2 : Int)) = (a : Int) + (o2 : Int) := IntWalk.i64_in _ (by omega)
        have z1 : (0 : Int) ≤ (a : Int) + (o2 : Int) := by omega
        have z2 : (a : Int) + (o2 : Int) < (n : Int) := by omega
        have z3 : ((a : Int) + (o2 : Int)).toNat = a + o2 := by omega
        have z4 : (x0 : Int) + (k : Int) < (n : Int) := by omega
        have z5 : (0 : Int) ≤ (x0 : Int) + (k : Int) := by omega
        have z6 : ((x0 : Int) + (k : Int)).toNat = x0 + k := by omega
        go_upto_region 10 with fail
        have c0 := h.cell (i := x0 + k) (by omega)
        have c1 := h.cell (i := a + o2) (by omega)
        have f0 := h.free (x0 + k)
        have f1 := h.free (a + o2)
        have hsw := h.swp (i := x0 + k) (j := a + o2) (by omega) (by omega)
        have hcs := (h.set (i := x0 + k) (by omega) D[a + o2]!).cell (i := a + o2) (by simp; omega)
        have hsz := Sort.size_swp D (x0 + k) (a + o2)
        generalize (D.setIfInBounds (x0 + k) D[a + o2]!)[a + o2]! = yy at hcs
        generalize D[x0 + k]! = xx0 at *
        generalize D[a + o2]! = xx1 at *
        replace hsw := Lib.hid hsw
        replace hsz := Lib.hid hsz
        clear h
        go_region
        have hK5 := ((hK3.out.far (p := ⟨g, x0 + k, none⟩) (by show w.heap.size ≠ g; omega) (.int .u32 xx1)).far (p := ⟨g, a + o2, none⟩) (by show w.heap.size ≠ g; omega) (.int .u32 xx0))
        replace hK5 := Lib.hid hK5
        go_wp2_with fail
        go_roundg (3 - (k + 1))
        case measure => have := hmm.out; omega
        case rel => exact ⟨k + 1, Y, Sort.swp D (x0 + k) (a + o2), by omega, rfl, congrArg (Value.int .i64) (by omega), hXn.out, hDn2.out, hsw.out.drew, hK5.out⟩
    · obtain rfl : k = 3 := by omega
      have dc : ¬ ((x0 + 3 : Nat) : Int) ≤ (a : Int) + (q : Int) * 2 + 1 := by omega
      have dc2 : ¬ (x0 : Int) + 3 ≤ (a : Int) + (q : Int) * 2 + 1 := by omega
      have hTD : T = D := hT.out.trans hD
      clear hD hX
      subst hTD
      go_wp2_with fail
      go_end0
      exact ⟨rfl, hR⟩
end Go.Proofs.Ytdilbcmnfpmijaa
