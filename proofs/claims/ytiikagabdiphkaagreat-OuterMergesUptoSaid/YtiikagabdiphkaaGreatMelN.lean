/- OuterMerges' walk: the merge is the document's, and the arguments stand as they were. Conditions: the ways and their hops lie in memory. -/
import Derived.Test.YtiikagabdiphkaaGreatArgO
import Derived.Test.YtiikagabdiphkaaGreatMrfN
import Derived.Test.YtiikagabdiphkaaGreatEqsO
import Derived.Test.YtiikagabdiphkaaGreatMrfP
namespace Go.Proofs.YtiikagabdiphkaaGreat
open Go.RowKit Go.Lo

theorem WaysIn.ofImp {w0 W : World} {xs : List WayY} {v : Value} (h : ImpR w0 xs v W) : WaysIn W W.heap.size v (gOf xs) (xs.map (·.1)) := h.ways
theorem WaysIn.ofRImp {w0 W : World} {xs : List WayY} {v : Value} (h : RImp w0 xs v W) : WaysIn W W.heap.size v (gOf xs) (xs.map (·.1)) := by
  refine ⟨?_, by simp [gOf], fun k hk hk2 => ?_⟩
  · have := Sl.of_own h.own
    rw [List.length_map, List.flatMap_map]
    exact this
  · have hk3 : k < xs.length := by simpa using hk
    have := h.hops xs[k] (List.getElem_mem hk3)
    simp only [List.getElem_map, gOf]
    exact Sl.of_own this

set_option maxRecDepth 100000 in
set_option maxHeartbeats 8000000 in
theorem outerMerges_any (RA RB : List WayG) (la lb : List WayV) (av bv : Value) (w : World) (hA : WaysIn w w.heap.size av RA la) (hAo : ArgW RA) (hla : la.length ≤ 2000000) (hBb : WaysIn w w.heap.size bv RB lb) (hBo : ArgW RB) (hlb : lb.length ≤ 2000000) :
    Calls Tryz.prog 11 #[av, bv] w fun e w' => e = .returned (.bool true) ∧ Below w.heap.size w w' := by
  obtain ⟨-, aA, ac, rfl, -⟩ := id hA.sl
  obtain ⟨-, bA, bc, rfl, -⟩ := id hBb.sl
  have hmix : (Tryz.prog).follows .mixedOrders = true := by kernel_rfl
  have CA := Lib.hid (big20_any la _ w.heap.size w hA.sl (Nat.le_refl _) (by omega) (hA.bigo hAo))
  have CB := Lib.hid (fun (W : World) (h : Below w.heap.size w W) => big20_any lb _ w.heap.size W (hBb.below h).sl h.size (by omega) ((hBb.below h).bigo hBo))
  go_enter Tryz.func11, Tryz.ntmps11
  go_upto_region 1 with fail
  go_cut [12] (fun v wx => ∃ q : Bool, v = .bool q ∧ (q = false → (la.length ≤ 60 ∧ ∀ x ∈ la, x.len ≤ 400) ∧ lb.length ≤ 60 ∧ ∀ x ∈ lb, x.len ≤ 400) ∧ Below w.heap.size w wx)
  case first =>
    go_wp2_with (first
      | (go_at_call 35; (have _q := hB2); refine Calls.mono (CB.out _ hB2) ?_; rintro e w3 ⟨q3, rfl, hq3, hB3⟩)
      | (go_at_call 35; refine Calls.mono CA.out ?_; rintro e w2 ⟨q2, rfl, hq2, hB2⟩; cases q2)
      | fail)
    · go_meet
      case rel => exact ⟨q3, rfl, fun h => ⟨hq2 (by first | rfl | trivial), hq3 h⟩, hB2.trans (hB3.mono hB2.size)⟩
    · go_meet
      case rel => exact ⟨true, rfl, fun h => (by cases h), hB2⟩
  case rest =>
    obtain ⟨q, rfl, hq, hBc⟩ := hcut
    cases q
    · obtain ⟨⟨ha60, ha4⟩, hb60, hb4⟩ := hq rfl
      have hA4 := hA.le4 ha4
      have hB4' := hBb.le4 hb4
      have hlA := hA.len
      have hlB := hBb.len
      have hAN := hopsN_le hA4
      have hBN := hopsN_le hB4'
      have hsum : hopsN RA + hopsN RB ≤ 100000 := by
        have h1 : 400 * RA.length ≤ 24000 := by omega
        have h2 : 400 * RB.length ≤ 24000 := by omega
        omega
      have hEk : ∀ g ∈ RA ++ RB, InO (keyO g.1) := fun g hg => by
        rcases List.mem_append.1 hg with hg | hg
        · exact ⟨(hAo g hg).2, (hAo g hg).1.2.1⟩
        · exact ⟨(hBo g hg).2, (hBo g hg).1.2.1⟩
      have CWA := Lib.hid (fun (W : World) (h : Below wc.heap.size wc W) => ways20_any w.heap.size _ RA la W (hA.below (hBc.trans (h.mono hBc.size))) (Nat.le_trans hBc.size h.size) (fun r hr => (hAo r hr).1.2.2) hla)
      have CWB := Lib.hid (fun (W : World) (h : Below wc.heap.size wc W) => ways20_any w.heap.size _ RB lb W (hBb.below (hBc.trans (h.mono hBc.size))) (Nat.le_trans hBc.size h.size) (fun r hr => (hBo r hr).1.2.2) hlb)
      have CM := Lib.hid (fun (W : World) (xs ys : List WayY) (A1 : Option Addr) (c1 : Nat) (A2 : Option Addr) (c2 : Nat) (hx : WaysIn W W.heap.size (.slice A1 xs.length c1) RA (xs.map (·.1))) (hy : WaysIn W W.heap.size (.slice A2 ys.length c2) RB (ys.map (·.1))) => by
        have h1 := hx.len
        have h2 := hy.len
        have C := merge_any W.heap.size RA RB (xs.map (·.1)) (ys.map (·.1)) (.slice A1 xs.length c1) (.slice A2 ys.length c2) W hx hy (Nat.le_refl _) hEk (by omega) (by omega)
        exact Calls.mono C fun e w' h => MerW.of h)
      have CR := Lib.hid (fun (W : World) (h : Below wc.heap.size wc W) => rmerge_any w.heap.size RA RB la lb _ _ W (hA.below (hBc.trans (h.mono hBc.size))) (hBb.below (hBc.trans (h.mono hBc.size))) (Nat.le_trans hBc.size h.size) hsum (by omega))
      have hEsum : ∀ g ∈ insAll (RA.filter elig ++ RB.filter elig), g.2.length ≤ 2000000 := fun g hg => by
        have h1 := hopsN_mem hg
        have h2 := insAll_sum (RA.filter elig ++ RB.filter elig)
        have h3 := hopsN_filter elig RA
        have h4 := hopsN_filter elig RB
        rw [hopsN_append] at h2
        omega
      have hElen : (insAll (RA.filter elig ++ RB.filter elig)).length ≤ 2000000 := by
        have h1 := insAll_len (RA.filter elig ++ RB.filter elig)
        have h2 := List.length_filter_le elig RA
        have h3 := List.length_filter_le elig RB
        rw [List.length_append] at h1
        omega
      have CQ := Lib.hid (fun (W : World) (ms rs : List WayY) (v1 v2 : Value) (hm : WaysIn W W.heap.size v1 (gOf ms) (ms.map (·.1))) (hr : WaysIn W W.heap.size v2 (gOf rs) (rs.map (·.1))) (h1 : gOf ms = insAll (RA.filter elig ++ RB.filter elig)) (h2 : gOf rs = insAll (RA.filter elig ++ RB.filter elig)) => by
        rw [h1] at hm
        rw [h2] at hr
        exact eqWays20_any W.heap.size _ _ _ v1 v2 W hm hr (Nat.le_refl _) hEsum hElen)
      have CEA := Lib.hid (fun (W : World) (h : Below w.heap.size w W) (xs : List WayY) (v1 : Value) (hx : WaysIn W W.heap.size v1 RA (xs.map (·.1))) => eqWays20_any W.heap.size RA _ la v1 _ W hx ((hA.below h).moreO h.size) (Nat.le_refl _) (fun r hr => (hAo r hr).1.2.2) (by omega))
      have CEB := Lib.hid (fun (W : World) (h : Below w.heap.size w W) (xs : List WayY) (v1 : Value) (hx : WaysIn W W.heap.size v1 RB (xs.map (·.1))) => eqWays20_any W.heap.size RB _ lb v1 _ W hx ((hBb.below h).moreO h.size) (Nat.le_refl _) (fun r hr => (hBo r hr).1.2.2) (by omega))
      clear CA CB hq hAN hBN hA4 hB4' ha4 hb4 hAo hBo hEsum hElen hEk
      replace hA := Lib.hid hA
      replace hBb := Lib.hid hBb
      replace hlA := Lib.hid hlA
      replace hlB := Lib.hid hlB
      have hz := hBc.size
      go_upto_region 4 with (first
        | (go_at_call 40; (have _q := hI1); refine Calls.mono (CWB.out _ hI1.below) ?_; rintro e w2 ⟨v2, xs2, rfl, hg2, hI2⟩)
        | (go_at_call 40; refine Calls.mono (CWA.out _ (Below.refl _ _)) ?_; rintro e w1 ⟨v1, xs1, rfl, hg1, hI1⟩)
        | fail)
      have hB2 : Below wc.heap.size wc w2 := hI1.below.trans (hI2.below.mono hI1.below.size)
      have hw1 := ((hI1.ways).below hI2.below).moreO hI2.below.size
      rw [hg1] at hw1
      have hw2 := hI2.ways
      rw [hg2] at hw2
      obtain ⟨-, A1, c1, rfl, -⟩ := id (Sl.of_own hI1.own)
      obtain ⟨-, A2, c2, rfl, -⟩ := id (Sl.of_own hI2.own)
      clear hI1 hI2 hg1 hg2 CWA CWB
      replace hw1 := Lib.hid hw1
      replace hw2 := Lib.hid hw2
      have hz2 := hB2.size
      go_wp2_with (first
        | (go_at_call 41; (have hBx6 := hBx5.trans (hB6.mono hBx5.size)); (have hBd6 := hBd5.trans (hB6.mono hBd5.size)); refine Calls.mono (CEB.out w6 (hBc.trans (hBx6.mono hz)) xs2 _ ((hw2.out.below hBd6).moreO hBd6.size)) ?_; rintro e w7 ⟨rfl, hB7⟩)
        | (go_at_call 41; (have hBx5 := hBx4.trans (hB5.mono hBx4.size)); (have hBd5 := hBd4.trans (hB5.mono hBd4.size)); refine Calls.mono (CEA.out w5 (hBc.trans (hBx5.mono hz)) xs1 _ ((hw1.out.below hBd5).moreO hBd5.size)) ?_; rintro e w6 ⟨rfl, hB6⟩)
        | (go_at_call 41; refine Calls.mono (CQ.out w4 ms rs _ _ (MerW.call hI4.below hM.out).ways (WaysIn.ofRImp hI4) (merged_is hM.out.perm hM.out.rises) hgr) ?_; rintro e w5 ⟨rfl, hB5⟩)
        | (go_at_call 43; refine Calls.mono (CR.out w3 hBx3) ?_; rintro e w4 ⟨v4, rs, rfl, hgr, hI4⟩; have hBx4 := hBx3.trans (hI4.below.mono hBx3.size); have hBd4 := hB3.trans (hI4.below.mono hB3.size))
        | (go_at_call 42; refine Calls.mono (CM.out w2 xs1 xs2 A1 c1 A2 c2 hw1.out hw2.out) ?_; rintro e w3 ⟨v3, ms, rfl, hM, hB3⟩; replace hM := Lib.hid hM; have hBx3 := hB2.trans (hB3.mono hz2))
        | (go_at_call 36; refine Calls.mono (works20_any _) ?_; rintro e w8 ⟨rfl, hB8⟩)
        | fail)
      have hBx7 := hBx6.trans (hB7.mono hBx6.size)
      have hBx8 := hBx7.trans (hB8.mono hBx7.size)
      go_ret
      exact ⟨rfl, hBc.trans (hBx8.mono hz)⟩
    · go_wp2_with (go_at_call 36; refine Calls.mono (works20_any _) ?_; rintro e w3 ⟨rfl, hB3⟩)
      go_ret
      exact ⟨rfl, hBc.trans (hB3.mono hBc.size)⟩
end Go.Proofs.YtiikagabdiphkaaGreat
