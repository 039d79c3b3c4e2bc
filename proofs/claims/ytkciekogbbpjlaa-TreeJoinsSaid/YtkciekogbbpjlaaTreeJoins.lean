/- lodestarlaw17's TreeJoins: the walk. -/
import Derived.Test.YtkciekogbbpjlaaTreeI
import Derived.Test.YtkciekogbbpjlaaTreeJ
namespace Go.Proofs.Ytkciekogbbpjlaa
open Go.RowKit Go.Lo

theorem Sorted.nil_ : Sorted [] := List.Pairwise.nil
theorem puts_comm (a b : List Hop) : puts (puts [] b) a = puts (puts [] a) b := by
  refine ((Sorted.nil_.puts b).puts a).ext ((Sorted.nil_.puts a).puts b) fun x => ?_
  rw [mem_puts, mem_puts, mem_puts, mem_puts]
  constructor <;> (rintro ((h | h) | h)) <;> simp_all
theorem puts_self (j : List Hop) (hj : Sorted j) : puts (puts [] j) j = j := by
  refine ((Sorted.nil_.puts j).puts j).ext hj fun x => ?_
  rw [mem_puts, mem_puts]
  simp

set_option maxRecDepth 100000 in
set_option maxHeartbeats 4000000 in
theorem joins_any (a b : List Hop) (av bv : Value) (w : World) (ha : Sl w w.heap.size 3 av a.length (a.flatMap hopCells)) (hb : Sl w w.heap.size 3 bv b.length (b.flatMap hopCells))
    (hsum : a.length + b.length < 2 ^ 62) :
    Calls Try.prog 6 #[av, bv] w fun e w' => e = .returned (.bool true) ∧ Below w.heap.size w w' := by
  have ha0 := ha
  have hb0 := hb
  obtain ⟨_, A, ca, rfl, hca, hcma, _⟩ := ha
  obtain ⟨_, A', cb, rfl, hcb, hcmb, _⟩ := hb
  unfold maxLen at hcma hcmb
  by_cases hbig : 400 < a.length + b.length
  · go_enter Try.func6, Try.ntmps6
    go_wp2_with fail
    refine Calls.mono (works17_any _) ?_
    rintro e w14 ⟨rfl, hB14⟩
    go_wp2_with fail
    go_ret
    exact ⟨rfl, hB14⟩
  · have hsj := (Sorted.nil_.puts a).puts b
    have hjl := puts_length (puts [] a) b
    have hjl0 := puts_length [] a
    simp only [List.length_nil, Nat.zero_add] at hjl0
    have hq1 := puts_comm a b
    have hq2 := puts_self _ hsj
    generalize hj : puts (puts [] a) b = j at *
    have Hj := Lib.hid hj
    have Hq1 := Lib.hid hq1
    have Hq2 := Lib.hid hq2
    clear hj hq1 hq2 hsj
    go_enter Try.func6, Try.ntmps6
    go_wp2_with fail
    refine Calls.mono (lawhops_any a _ _ ha0 (by omega)) ?_
    rintro e w1 ⟨x, rfl, hx, hB1⟩
    go_wp2_with fail
    refine Calls.mono (lawhops_any b _ _ ((hb0.below hB1).more hB1.size) (by omega)) ?_
    rintro e w2 ⟨y, rfl, hy, hB2⟩
    have hB2' := hB1.trans (hB2.mono hB1.size)
    have hx2 := Sl.of_own (own_below hx hB2)
    go_wp2_with fail
    refine Calls.mono (join_any a b _ _ _ hx2 (Sl.of_own hy) (by omega)) ?_
    rintro e w3 ⟨jv, rfl, hjv, hB3⟩
    rw [Hj.out] at hjv
    have hB3' := hB2'.trans (hB3.mono hB2'.size)
    go_wp2_with fail
    refine Calls.mono (refjoin_any a b _ _ _ ((ha0.below hB3').more hB3'.size) ((hb0.below hB3').more hB3'.size) (by omega)) ?_
    rintro e w4 ⟨r1, rfl, hr1, hB4⟩
    rw [Hj.out] at hr1
    have hB4' := hB3'.trans (hB4.mono hB3'.size)
    go_wp2_with fail
    refine Calls.mono (eqhops_any j j _ _ _ (((Sl.of_own hjv).below hB4).more hB4.size) hr1 (by omega) (by omega)) ?_
    rintro e w5 ⟨rfl, hB5⟩
    rw [decide_eq_true rfl]
    have hB5' := hB4'.trans (hB5.mono hB4'.size)
    have hB25 : Below w2.heap.size w2 w5 := hB3.trans ((hB4.mono hB3.size).trans (hB5.mono (Nat.le_trans hB3.size hB4.size)))
    go_wp2_with fail
    refine Calls.mono (join_any b a _ _ _ (((Sl.of_own hy).below hB25).more hB25.size) ((hx2.below hB25).more hB25.size) (by omega)) ?_
    rintro e w6 ⟨j2, rfl, hj2, hB6⟩
    rw [Hq1.out] at hj2
    have hB6' := hB5'.trans (hB6.mono hB5'.size)
    go_wp2_with fail
    refine Calls.mono (refjoin_any a b _ _ _ ((ha0.below hB6').more hB6'.size) ((hb0.below hB6').more hB6'.size) (by omega)) ?_
    rintro e w7 ⟨r2, rfl, hr2, hB7⟩
    rw [Hj.out] at hr2
    have hB7' := hB6'.trans (hB7.mono hB6'.size)
    go_wp2_with fail
    refine Calls.mono (eqhops_any j j _ _ _ (((Sl.of_own hj2).below hB7).more hB7.size) hr2 (by omega) (by omega)) ?_
    rintro e w8 ⟨rfl, hB8⟩
    rw [decide_eq_true rfl]
    have hB8' := hB7'.trans (hB8.mono hB7'.size)
    have hB58 : Below w5.heap.size w5 w8 := hB6.trans ((hB7.mono hB6.size).trans (hB8.mono (Nat.le_trans hB6.size hB7.size)))
    have hB38 : Below w3.heap.size w3 w8 := hB4.trans ((hB5.mono hB4.size).trans (hB58.mono (Nat.le_trans hB4.size hB5.size)))
    have hjv8 := ((Sl.of_own hjv).below hB38).more hB38.size
    go_wp2_with fail
    refine Calls.mono (join_any j j _ _ _ hjv8 hjv8 (by omega)) ?_
    rintro e w9 ⟨j3, rfl, hj3, hB9⟩
    rw [Hq2.out] at hj3
    have hB9' := hB8'.trans (hB9.mono hB8'.size)
    go_wp2_with fail
    refine Calls.mono (refjoin_any a b _ _ _ ((ha0.below hB9').more hB9'.size) ((hb0.below hB9').more hB9'.size) (by omega)) ?_
    rintro e w10 ⟨r3, rfl, hr3, hB10⟩
    rw [Hj.out] at hr3
    have hB10' := hB9'.trans (hB10.mono hB9'.size)
    go_wp2_with fail
    refine Calls.mono (eqhops_any j j _ _ _ (((Sl.of_own hj3).below hB10).more hB10.size) hr3 (by omega) (by omega)) ?_
    rintro e w11 ⟨rfl, hB11⟩
    rw [decide_eq_true rfl]
    have hB11' := hB10'.trans (hB11.mono hB10'.size)
    have hB8_11 : Below w8.heap.size w8 w11 := hB9.trans ((hB10.mono hB9.size).trans (hB11.mono (Nat.le_trans hB9.size hB10.size)))
    have hB2_11 : Below w2.heap.size w2 w11 := hB25.trans ((hB58.mono hB25.size).trans (hB8_11.mono (Nat.le_trans hB25.size hB58.size)))
    go_wp2_with fail
    refine Calls.mono (eqhops_any a a _ _ _ ((hx2.below hB2_11).more hB2_11.size) ((ha0.below hB11').more hB11'.size) (by omega) (by omega)) ?_
    rintro e w12 ⟨rfl, hB12⟩
    rw [decide_eq_true rfl]
    have hB12' := hB11'.trans (hB12.mono hB11'.size)
    have hB2_12 := hB2_11.trans (hB12.mono hB2_11.size)
    go_wp2_with fail
    refine Calls.mono (eqhops_any b b _ _ _ (((Sl.of_own hy).below hB2_12).more hB2_12.size) ((hb0.below hB12').more hB12'.size) (by omega) (by omega)) ?_
    rintro e w13 ⟨rfl, hB13⟩
    rw [decide_eq_true rfl]
    have hB13' := hB12'.trans (hB13.mono hB12'.size)
    go_wp2_with fail
    refine Calls.mono (works17_any _) ?_
    rintro e w14 ⟨rfl, hB14⟩
    go_wp2_with fail
    go_ret
    exact ⟨rfl, hB13'.trans (hB14.mono hB13'.size)⟩

end Go.Proofs.Ytkciekogbbpjlaa
