/- OuterBest's walk: nothing better than what is left was there, each prefix is there once, merging again changes nothing. Conditions: the ways and their hops lie in memory. -/
import Derived.Test.YtiikagabdiphkaaGreatBesP
import Derived.Test.YtiikagabdiphkaaGreatWysO
import Derived.Test.YtiikagabdiphkaaGreatBigO
import Derived.Test.YtiikagabdiphkaaGreatMv
import Derived.Test.YtiikagabdiphkaaGreatRegV
namespace Go.Proofs.YtiikagabdiphkaaGreat
open Go.RowKit Go.Lo

/-- what is known of an argument's ways -/
def ArgW (R : List WayG) : Prop := ∀ r ∈ R, ((0 ≤ r.1.cost ∧ r.1.cost < 4294967296) ∧ (0 ≤ r.1.bits ∧ r.1.bits < 256) ∧ r.2.length ≤ 2000000) ∧ 0 ≤ r.1.addr ∧ r.1.addr < 4294967296
theorem WaysIn.moreO {w : World} {B B' : Nat} {lv : Value} {R : List WayG} {l : List WayV} (h : WaysIn w B lv R l) (hB : B ≤ B') : WaysIn w B' lv R l := ⟨h.sl.more hB, h.map, fun k h1 h2 => (h.hops k h1 h2).more hB⟩
theorem WaysIn.bigo {w : World} {B : Nat} {lv : Value} {R : List WayG} {l : List WayV} (h : WaysIn w B lv R l) (hR : ArgW R) : ∀ x ∈ l, (0 ≤ x.n.bits ∧ x.n.bits < 256) ∧ ∃ hops : List Hop, hops.length ≤ 2000000 ∧ Sl w B 3 (.slice x.A x.len x.cap) hops.length (hops.flatMap hopCells) := fun x hx => by
  obtain ⟨k, hk, rfl⟩ := List.mem_iff_getElem.1 hx
  have hk2 : k < R.length := by rw [← h.len]; exact hk
  have h1 := (hR _ (List.getElem_mem hk2)).1
  rw [h.n k hk hk2]
  exact ⟨h1.2.1, R[k].2, h1.2.2, h.hops k hk hk2⟩
theorem WaysIn.le4 {w : World} {B : Nat} {lv : Value} {R : List WayG} {l : List WayV} (hq : WaysIn w B lv R l) (h4 : ∀ x ∈ l, x.len ≤ 400) : ∀ r ∈ R, r.2.length ≤ 400 := fun r hr => by
  obtain ⟨j, hj, rfl⟩ := List.mem_iff_getElem.1 hr
  have hj2 : j < l.length := by rw [hq.len]; exact hj
  have h3 := h4 _ (List.getElem_mem hj2)
  rw [sl_len (hq.hops j hj2 hj)] at h3
  exact h3
theorem hopsN_le {l : List WayG} {m : Nat} (h : ∀ g ∈ l, g.2.length ≤ m) : hopsN l ≤ m * l.length := by
  unfold hopsN
  induction l with
  | nil => simp
  | cons x r ih =>
    have h1 := ih fun g hg => h g (List.mem_cons_of_mem _ hg)
    have h2 := h x List.mem_cons_self
    simp only [List.map_cons, List.sum_cons, List.length_cons, Nat.mul_add, Nat.mul_one]
    omega
theorem neq_preO (a b : Int) (w : World) : (binOp .neq 35 (.agg #[.int .u32 a, .int .u8 b]) (.agg #[.int .u32 a, .int .u8 b])).run Tryz.prog w = .ok (.bool false) w := by
  rw [run_neq_struct, run_equalIn_agg _ _ _ _ _ (by kernel_rfl) (by kernel_rfl)]
  go_simp
theorem eql_preO (a b c d : Int) (w : World) : (binOp .eql 35 (.agg #[.int .u32 a, .int .u8 b]) (.agg #[.int .u32 c, .int .u8 d])).run Tryz.prog w = .ok (.bool (decide (a = c) && decide (b = d))) w := by
  rw [run_eql_struct, run_equalIn_agg _ _ _ _ _ (by kernel_rfl) (by kernel_rfl)]
  go_simp
  by_cases h1 : a = c <;> by_cases h2 : b = d <;> simp [h1, h2]

/-- does a row hold a prefix? -/
def seenK (l : List WayY) (k : K2) : Bool := l.any fun x => keyO x.1.n == k

/-- merged ways, as they stay -/
structure MerW (E : List WayG) (v : Value) (ms : List WayY) (W : World) : Prop where
  own : ∃ base, W.ownsRow base 38 10 v ms.length (ms.flatMap yL)
  hops : ∀ x ∈ ms, HopsAt x W
  perm : (gOf ms).Perm (mergeP E)
  rises : RisesO (gOf ms)
theorem MerW.call {E : List WayG} {v : Value} {ms : List WayY} {W W' : World} (hB : Below W.heap.size W W') (h : MerW E v ms W) : MerW E v ms W' := by
  obtain ⟨base, h1⟩ := h.own
  exact ⟨⟨base, own_below h1 hB⟩, fun x hx => HopsAt.call (h.hops x hx) hB, h.perm, h.rises⟩
theorem MerW.of {E : List WayG} {w w' : World} {e : Ending} (h : ∃ w0, Below w.heap.size w w0 ∧ BestPost E w0 e w') : ∃ v ms, e = .returned v ∧ MerW E v ms w' ∧ Below w.heap.size w w' := by
  obtain ⟨w0, h0, v, ms, rfl, h1, h2, h3, h4, h5⟩ := h
  exact ⟨v, ms, rfl, ⟨⟨_, h1⟩, fun x hx => (h2 x hx).at_ h5.size, h3, rises_of h4⟩, h0.trans (h5.mono h0.size)⟩
theorem MerW.ways {E : List WayG} {v : Value} {ms : List WayY} {W : World} (h : MerW E v ms W) : WaysIn W W.heap.size v (gOf ms) (ms.map (·.1)) := by
  obtain ⟨base, h1⟩ := h.own
  refine ⟨?_, by simp [gOf], fun k hk hk2 => ?_⟩
  · have := Sl.of_own h1
    rw [List.length_map, List.flatMap_map]
    exact this
  · have hk3 : k < ms.length := by simpa using hk
    have := h.hops ms[k] (List.getElem_mem hk3)
    simp only [List.getElem_map, gOf]
    exact this

set_option maxRecDepth 100000 in
set_option maxHeartbeats 16000000 in
theorem outerBest_any (RA RB : List WayG) (la lb : List WayV) (av bv : Value) (w : World) (hA : WaysIn w w.heap.size av RA la) (hAo : ArgW RA) (hla : la.length ≤ 2000000) (hBb : WaysIn w w.heap.size bv RB lb) (hBo : ArgW RB) (hlb : lb.length ≤ 2000000) :
    Calls Tryz.prog 12 #[av, bv] w fun e w' => e = .returned (.bool true) ∧ Below w.heap.size w w' := by
  obtain ⟨-, aA, ac, rfl, -⟩ := id hA.sl
  obtain ⟨-, bA, bc, rfl, -⟩ := id hBb.sl
  have hmix : (Tryz.prog).follows .mixedOrders = true := by kernel_rfl
  have CA := Lib.hid (big20_any la _ w.heap.size w hA.sl (Nat.le_refl _) (by omega) (hA.bigo hAo))
  have CB := Lib.hid (fun (W : World) (h : Below w.heap.size w W) => big20_any lb _ w.heap.size W (hBb.below h).sl h.size (by omega) ((hBb.below h).bigo hBo))
  go_enter Tryz.func12, Tryz.ntmps12
  go_upto_region 1 with fail
  go_cut [17] (fun v wx => ∃ q : Bool, v = .bool q ∧ (q = false → (la.length ≤ 60 ∧ ∀ x ∈ la, x.len ≤ 400) ∧ lb.length ≤ 60 ∧ ∀ x ∈ lb, x.len ≤ 400) ∧ Below w.heap.size w wx)
  case first =>
    go_wp2_with (first
      | (go_at_call 35; (have _q := hB2); refine Calls.mono (CB.out _ hB2) ?_; rintro e w3 ⟨q3, rfl, hq3, hB3⟩)
      | (go_at_call 35; refine Calls.mono CA.out ?_; rintro e w2 ⟨q2, rfl, hq2, hB2⟩; cases q2)
      | fail)
    · go_meet
      case rel => exact ⟨q3, rfl, fun h => ⟨hq2 (by first | rfl | trivial), hq3 h⟩, hB2.trans (hB3.mono hB2.size)⟩
    · go_meet
      case rel => exact ⟨true, rfl, fun h => (by cases h), hB2⟩
  case rest =>
    obtain ⟨q, rfl, hq, hBc⟩ := hcut
    cases q
    · obtain ⟨⟨ha60, ha4⟩, hb60, hb4⟩ := hq rfl
      have hA4 := hA.le4 ha4
      have hB4' := hBb.le4 hb4
      have hlA := hA.len
      have hlB := hBb.len
      have hAN := hopsN_le hA4
      have hBN := hopsN_le hB4'
      have hsum : hopsN RA + hopsN RB ≤ 100000 := by
        have h1 : 400 * RA.length ≤ 24000 := by omega
        have h2 : 400 * RB.length ≤ 24000 := by omega
        omega
      have hEk : ∀ g ∈ RA ++ RB, InO (keyO g.1) := fun g hg => by
        rcases List.mem_append.1 hg with hg | hg
        · exact ⟨(hAo g hg).2, (hAo g hg).1.2.1⟩
        · exact ⟨(hBo g hg).2, (hBo g hg).1.2.1⟩
      have CWA := Lib.hid (fun (W : World) (h : Below wc.heap.size wc W) => ways20_any w.heap.size _ RA la W (hA.below (hBc.trans (h.mono hBc.size))) (Nat.le_trans hBc.size h.size) (fun r hr => (hAo r hr).1.2.2) hla)
      have CWB := Lib.hid (fun (W : World) (h : Below wc.heap.size wc W) => ways20_any w.heap.size _ RB lb W (hBb.below (hBc.trans (h.mono hBc.size))) (Nat.le_trans hBc.size h.size) (fun r hr => (hBo r hr).1.2.2) hlb)
      have CM := Lib.hid (fun (W : World) (xs ys : List WayY) (A1 : Option Addr) (c1 : Nat) (A2 : Option Addr) (c2 : Nat) (hx : WaysIn W W.heap.size (.slice A1 xs.length c1) RA (xs.map (·.1))) (hy : WaysIn W W.heap.size (.slice A2 ys.length c2) RB (ys.map (·.1))) => by
        have h1 := hx.len
        have h2 := hy.len
        have C := merge_any W.heap.size RA RB (xs.map (·.1)) (ys.map (·.1)) (.slice A1 xs.length c1) (.slice A2 ys.length c2) W hx hy (Nat.le_refl _) hEk (by omega) (by omega)
        exact Calls.mono C fun e w' h => MerW.of h)
      obtain ⟨E, hE⟩ : ∃ E, E = RA.filter elig ++ RB.filter elig := ⟨_, rfl⟩
      have hEm : ∀ e ∈ E, elig e = true ∧ e ∈ RA ++ RB := fun e he => by
        rw [hE] at he
        rcases List.mem_append.1 he with he | he
        · exact ⟨(List.mem_filter.1 he).2, List.mem_append_left _ (List.mem_filter.1 he).1⟩
        · exact ⟨(List.mem_filter.1 he).2, List.mem_append_right _ (List.mem_filter.1 he).1⟩
      have hEall : ∀ e ∈ RA ++ RB, elig e = true → e ∈ E := fun e he hel => by
        rw [hE]
        rcases List.mem_append.1 he with he | he
        · exact List.mem_append_left _ (List.mem_filter.2 ⟨he, hel⟩)
        · exact List.mem_append_right _ (List.mem_filter.2 ⟨he, hel⟩)
      have hEl : E.length ≤ 120 := by
        have h1 := List.length_filter_le elig RA
        have h2 := List.length_filter_le elig RB
        rw [hE, List.length_append]
        omega
      have hEs : hopsN E ≤ 100000 := by
        have h1 := hopsN_filter elig RA
        have h2 := hopsN_filter elig RB
        rw [hE, hopsN_append]
        omega
      rw [← hE] at CM
      have CM2 := Lib.hid (fun (W : World) (ms : List WayY) (A1 : Option Addr) (c1 : Nat) (hm : MerW E (.slice A1 ms.length c1) ms W) => by
        have hok := merged_ok E
        have hk2 : ∀ g ∈ gOf ms, ∃ e ∈ E, g.1 = e.1 := fun g hg => hok.from_ g (hm.perm.mem_iff.1 hg)
        have hel : (gOf ms).filter elig = gOf ms := List.filter_eq_self.2 fun g hg => by
          obtain ⟨e, he, h1⟩ := hk2 g hg
          rw [elig_eq h1]
          exact (hEm e he).1
        have h1 : hopsN (gOf ms) ≤ 100000 := by
          rw [hopsN_perm hm.perm]
          exact Nat.le_trans (mergeP_sum E) hEs
        have h2 : ms.length ≤ 120 := by
          have h3 := hm.perm.length_eq
          have h4 := mergeP_len E
          simp only [gOf, List.length_map] at h3
          omega
        have hno : WaysIn W W.heap.size (.slice none ([] : List WayV).length 0) [] [] := ⟨Sl.nil _ _ _, rfl, fun k h => absurd h (by simp)⟩
        have C := merge_any W.heap.size (gOf ms) [] (ms.map (·.1)) [] (.slice A1 ms.length c1) (.slice none 0 0) W hm.ways hno (Nat.le_refl _) (fun g hg => by
          rw [List.append_nil] at hg
          obtain ⟨e, he, h5⟩ := hk2 g hg
          rw [h5]
          exact hEk e (hEm e he).2) (by simp only [hopsN, List.map_nil, List.sum_nil] at h1 ⊢; omega) (by rw [List.length_map, List.length_nil]; omega)
        rw [hel, List.filter_nil, List.append_nil] at C
        have hC := Calls.mono C fun e w' h => MerW.of h
        have hnd : (keysO (gOf ms)).Nodup := (hm.perm.map fun o : WayG => keyO o.1).nodup_iff.2 hok.once
        exact Calls.mono hC fun e w' h => (by
          obtain ⟨v, ys, rfl, hM, hB⟩ := h
          have hp := hM.perm
          rw [mergeP_id _ hnd] at hp
          exact ⟨v, ys, rfl, rises_eq hp hnd hM.rises hm.rises, hM.own, hB⟩ : ∃ v ys, e = .returned v ∧ gOf ys = gOf ms ∧ (∃ base, w'.ownsRow base 38 10 v ys.length (ys.flatMap yL)) ∧ Below W.heap.size W w'))
      replace hEk := Lib.hid hEk
      replace hEm := Lib.hid hEm
      replace hEall := Lib.hid hEall
      clear CA CB hq hE hAN hBN hA4 hB4' ha4 hb4 hAo hBo
      replace hA := Lib.hid hA
      replace hBb := Lib.hid hBb
      replace hlA := Lib.hid hlA
      replace hlB := Lib.hid hlB
      go_upto_region 4 with (first | (go_at_call 40; refine Calls.mono (CWA.out _ (Below.refl _ _)) ?_; rintro e w1 ⟨v1, xs1, rfl, hg1, hI1⟩) | fail)
      have hn1 := Lib.hid (show xs1.length = RA.length by rw [← hg1]; simp [gOf])
      have hz1 := hI1.below.size
      go_upto_region 5 with (first
        | (go_at_call 40; refine Calls.mono (CWB.out _ hI1.below) ?_; rintro e w2 ⟨v2, xs2, rfl, hg2, hI2⟩; have ho1 := own_below hI1.own hI2.below; have hz2 := hI2.below.size; have hn2 := Lib.hid (show xs2.length = RB.length from (by rw [← hg2]; simp [gOf])))
        | (at_builtin; refine wpList_append rfl (.tmp 21) (.tmp 23) 30 rfl wc.heap.size wayT v1 xs1.length (xs1.flatMap yL) rfl ho1 w2.heap.size v2 xs2.length (xs2.flatMap yL) rfl (Sl.of_own hI2.own) (fun u hu => by obtain ⟨y, hy, hu2⟩ := List.mem_flatMap.1 hu; exact yE.one y u hu2) (by have := hlA.out; have := hlB.out; simp only [maxLen]; rw [hn1.out, hn2.out]; omega) (by have := hlA.out; have := hlB.out; rw [hn1.out, hn2.out]; omega) (by omega) ?_; intro v3 w3 ho3 hg3 hob3)
        | fail)
      have hB2c : Below wc.heap.size wc w2 := hI1.below.trans (hI2.below.mono hz1)
      have hB3 : Below wc.heap.size wc w3 := hB2c.trans (below_of_grown hg3 hB2c.size fun g hg => (ho1.lt g hg).1)
      obtain ⟨al, hal⟩ : ∃ al, al = xs1 ++ xs2 := ⟨_, rfl⟩
      have halo : w3.ownsRow wc.heap.size 38 10 v3 al.length (al.flatMap yL) := by
        rw [hal, List.length_append, List.flatMap_append]
        exact ho3
      have hga : gOf al = RA ++ RB := by
        rw [hal, ← hg1, ← hg2]
        simp [gOf]
      obtain ⟨-, lA, lc, rfl, -⟩ := id (Sl.of_own halo)
      clear ho3 hg3 hob3 ho1 hI1 hI2 hB2c hg1 hg2 hal hz1 hz2 hn1 hn2
      replace hga := Lib.hid hga
      replace halo := Lib.hid halo
      have hz3 := hB3.size
      go_upto_region 6 with (first
        | (go_at_call 40; (have _q := hI4); refine Calls.mono (CWB.out _ hB4) ?_; rintro e w5 ⟨v5, xs5, rfl, hg5, hI5⟩; obtain ⟨-, A5, c5, rfl, -⟩ := id (Sl.of_own hI5.own); have hw4 := hI4.out.ways; rw [hg4.out] at hw4; have hx4 := Lib.hid ((hw4.below hI5.below).moreO hI5.below.size); have hw5 := hI5.ways; rw [hg5] at hw5; replace hw5 := Lib.hid hw5; clear hw4 hg5; replace hI5 := Lib.hid hI5.below)
        | (go_at_call 40; refine Calls.mono (CWA.out _ hB3) ?_; rintro e w4 ⟨v4, xs4, rfl, hg4, hI4⟩; have hB4 := hB3.trans (hI4.below.mono hz3); obtain ⟨-, A4, c4, rfl, -⟩ := id (Sl.of_own hI4.own); replace hI4 := Lib.hid hI4; replace hg4 := Lib.hid hg4)
        | (go_at_call 42; refine Calls.mono (CM.out w5 xs4 xs5 _ _ _ _ hx4.out hw5.out) ?_; rintro e w6 ⟨v6, ms, rfl, hM, hB6⟩; obtain ⟨base6, ho6⟩ := id hM.own; obtain ⟨-, A6, c6, rfl, -⟩ := id (Sl.of_own ho6))
        | fail)
      have hB56 : Below wc.heap.size wc w6 := (hB4.trans (hI5.out.mono hB4.size)).trans (hB6.mono (hB4.trans (hI5.out.mono hB4.size)).size)
      have hB36 : Below w3.heap.size w3 w6 := (hI4.out.below.trans (hI5.out.mono hI4.out.below.size)).trans (hB6.mono (hI4.out.below.trans (hI5.out.mono hI4.out.below.size)).size)
      have halo6 := own_below halo.out hB36
      clear hx4 hw5 hI4 hI5 hg4 hB4 hB6 hB3 hz3 halo CWA CWB CM ho6
      replace halo6 := Lib.hid halo6
      replace hM := Lib.hid hM
      go_upto_region 7 with (first | (go_at_call 42; refine Calls.mono (CM2.out w6 ms A6 c6 hM.out) ?_; rintro e w7 ⟨v7, ys, rfl, hyx, ⟨base7, ho7⟩, hB7⟩) | fail)
      have hla7 := Lib.hid (Sl.of_own (own_below halo6.out hB7))
      have hlm7 : Hid (Sl w7 w7.heap.size 10 (.slice A6 ms.length c6) ms.length (ms.flatMap yL)) := by
        obtain ⟨b6, ho6⟩ := hM.out.own
        exact Lib.hid (Sl.of_own (own_below ho6 hB7))
      obtain ⟨-, A7, c7, rfl, -⟩ := id (Sl.of_own ho7)
      have hly7 := Lib.hid (Sl.of_own ho7)
      have hBw7 : Below w.heap.size w w7 := hBc.trans ((hB56.trans (hB7.mono hB56.size)).mono hBc.size)
      have hlen : ys.length = ms.length := by
        have := congrArg List.length hyx
        simpa [gOf] using this
      have hne : ((ys.length : Int) != (ms.length : Int)) = false := by rw [hlen]; simp
      have hnn : ∀ k (h1 : k < ys.length) (h2 : k < ms.length), ys[k].1.n = ms[k].1.n := fun k h1 h2 => by
        have := congrArg (fun z => z[k]?) hyx
        simp [gOf, h1, h2] at this
        exact this.1
      have hok := merged_ok E
      have hnd : (keysO (gOf ms)).Nodup := (hM.out.perm.map fun o : WayG => keyO o.1).nodup_iff.2 hok.once
      have hgm : ∀ k (h : k < ms.length), ∃ h2 : k < (gOf ms).length, (gOf ms)[k] = (ms[k].1.n, ms[k].2) := fun k h => ⟨by simpa [gOf] using h, by simp [gOf]⟩
      have hup : ∀ i (hi : i + 1 < ms.length), ms[i].1.n.addr < ms[i + 1].1.n.addr ∨ (ms[i].1.n.addr = ms[i + 1].1.n.addr ∧ ms[i].1.n.bits < ms[i + 1].1.n.bits) := fun i hi => by
        obtain ⟨h1, e1⟩ := hgm i (by omega)
        obtain ⟨h2, e2⟩ := hgm (i + 1) hi
        have := rises_lt hnd hM.out.rises (Nat.lt_succ_self i) h1 h2
        rw [e1, e2] at this
        exact this
      have hbest : ∀ e ∈ al, elig (e.1.n, e.2) = true → (∃ k, ∃ hk : k < ms.length, keyO ms[k].1.n = keyO e.1.n) ∧ ∀ k (hk : k < ms.length), keyO ms[k].1.n = keyO e.1.n → 0 ≤ betterP e.1.n ms[k].1.n := fun e he hel => by
        have h1 : (e.1.n, e.2) ∈ RA ++ RB := by rw [← hga.out]; exact List.mem_map.2 ⟨e, he, rfl⟩
        have h2 := hEall.out _ h1 hel
        refine ⟨?_, fun k hk hkk => ?_⟩
        · obtain ⟨x, hx, hxk⟩ := hok.all _ h2
          obtain ⟨y, hy, rfl⟩ := List.mem_map.1 (hM.out.perm.mem_iff.2 hx)
          obtain ⟨k, hk, rfl⟩ := List.mem_iff_getElem.1 hy
          exact ⟨k, hk, hxk⟩
        · exact hok.best _ h2 (ms[k].1.n, ms[k].2) (hM.out.perm.mem_iff.1 (List.mem_map.2 ⟨ms[k], List.getElem_mem hk, rfl⟩)) hkk
      have hmn : ms.length ≤ 120 := by
        have h3 := hM.out.perm.length_eq
        have h4 := mergeP_len E
        simp only [gOf, List.length_map] at h3
        omega
      have haln : al.length ≤ 120 := by
        have h3 := congrArg List.length hga.out
        have h4 := hlA.out
        have h5 := hlB.out
        simp only [gOf, List.length_map, List.length_append] at h3
        omega
      clear CM2 hok hnd hgm hM hyx ho7 halo6 hB56 hB36 hB7 hEm hEall hEk hA hBb hga
      replace hup := Lib.hid hup
      replace hbest := Lib.hid hbest
      replace hnn := Lib.hid hnn
      replace hlen := Lib.hid hlen
      replace hBw7 := Lib.hid hBw7
      go_wp2_with fail
      go_loopg [8] ms.length (fun c iv wx => ∃ k : Nat, k ≤ ms.length ∧ c = ms.length - k ∧ iv = .int .i64 k ∧ Below w7.heap.size w7 wx)
      case atStart => exact ⟨0, Nat.zero_le _, rfl, rfl, Below.refl _ _⟩
      case round =>
        obtain ⟨k, hk, rfl, rfl, hBr⟩ := hrel
        obtain ⟨w8, rfl⟩ : ∃ x : World, x = wr := ⟨_, rfl⟩
        have hz8 := hBr.size
        by_cases hkm : k < ms.length
        · obtain ⟨bm, om, rfl, hbm, hrm⟩ := Sl.row yE.len hlm7.out hkm
          have hkx : k < ys.length := by rw [hlen.out]; exact hkm
          obtain ⟨bg, og, rfl, hbg, hrg⟩ := Sl.row yE.len hly7.out hkx
          have hnk := hnn.out k hkx hkm
          have ik : (k : Int) < (ms.length : Int) := by omega
          have iky : (k : Int) < (ys.length : Int) := by omega
          obtain ⟨x, hx⟩ : ∃ x, x = ms[k] := ⟨_, rfl⟩
          obtain ⟨y, hy⟩ : ∃ y, y = ys[k] := ⟨_, rfl⟩
          rw [← hx, ← hy] at hnk
          rw [← hx] at hrm
          rw [← hy] at hrg
          clear hy
          replace hx := Lib.hid hx
          obtain ⟨⟨⟨x0, x1, x2, x3, x4, x5, x6, x7, x8⟩, xA, xn, xc⟩, xh⟩ := x
          obtain ⟨⟨yn1, yA, yn, yc⟩, yh⟩ := y
          simp only at hnk
          subst hnk
          have gm := Lib.hid (fun (W : World) (h : Below w7.heap.size w7 W) (q : Nat) (u : Value) (hu : (yL ((⟨⟨x0, x1, x2, x3, x4, x5, x6, x7, x8⟩, xA, xn, xc⟩, xh) : WayY))[q]? = some u) => (h.cell (p := ⟨bm, om + k * 10 + q, none⟩) hbm).trans (hrm q u hu))
          have gg := Lib.hid (fun (W : World) (h : Below w7.heap.size w7 W) (q : Nat) (u : Value) (hu : (yL ((⟨⟨x0, x1, x2, x3, x4, x5, x6, x7, x8⟩, yA, yn, yc⟩, yh) : WayY))[q]? = some u) => (h.cell (p := ⟨bg, og + k * 10 + q, none⟩) hbg).trans (hrg q u hu))
          clear hrm hrg
          have CBt : ∀ W, Calls Tryz.prog 38 #[.agg #[.int .u32 x0, .int .u8 x1, .int .u32 x2, .int .u8 x3, .int .u8 x4, .int .u32 x5, .int .u32 x6, .int .u32 x7, .int .u32 x8, .slice yA yn yc], .agg #[.int .u32 x0, .int .u8 x1, .int .u32 x2, .int .u8 x3, .int .u8 x4, .int .u32 x5, .int .u32 x6, .int .u32 x7, .int .u32 x8, .slice xA xn xc]] W fun e w' => e = .returned (.int .i64 0) ∧ Below W.heap.size W w' := fun W => by
            have := better_any ⟨x0, x1, x2, x3, x4, x5, x6, x7, x8⟩ ⟨x0, x1, x2, x3, x4, x5, x6, x7, x8⟩ (.slice yA yn yc) (.slice xA xn xc) W
            rw [betterP_self] at this
            exact this
          replace CBt := Lib.hid CBt
          have neqO := fun W => neq_preO x0 x1 W
          by_cases hk0 : k = 0
          · have hkz : ¬ (0 : Int) < (k : Int) := by omega
            have hkz2 : ¬ 0 < k := by omega
            have hkz3 : decide (0 < k) = false := decide_eq_false hkz2
            clear hup hk0
            go_upto_region 12 with fail
            try dsimp only [List.append]
            refine wp_region_vals [some 43, some 44, some 45, some 46, some 47, some 48, some 49, some 50, some 51, some 52, some 53, some 54, some 55, some 56, some 57, some 58, some 59, some 60, some 61, some 62, some 63, some 64, some 65, some 66, some 67, some 68, some 69, some 70, some 71, some 72, some 73, some 74, some 75, some 76, some 77, some 78, some 79, some 80, some 81, some 82, some 83, some 84, some 85, some 86, some 87, some 88, some 89, some 90, some 91, some 92, some 93, some 94, some 95, some 96, some 97, some 98, some 99, some 100, some 101, some 102, some 103, some 104, some 105, some 106, some 107, some 108, some 109, some 110, some 111, some 112, some 113, some 114, some 115, some 116, some 117, some 118] (fun W => Below w8.heap.size w8 W) (fun W W' => Below W.heap.size W W') id (ValV [.int .i64 k, .bool false, .bool false, undef, undef, undef, undef, undef, undef, undef, undef, undef, undef, undef, undef, undef, undef, undef, undef, undef, undef, undef, undef, undef, undef, undef, undef, undef, undef, undef, undef, undef, undef, undef, undef, undef, undef, undef, undef, undef, undef, undef, undef, undef, undef, undef, undef, undef, undef, undef, .bool false, .bool false, .slice (some ⟨bg, og, none⟩) ys.length c7, .int .i64 k, .pointer (some ⟨bg, og + k * 10, none⟩), .agg #[.int .u32 x0, .int .u8 x1, .int .u32 x2, .int .u8 x3, .int .u8 x4, .int .u32 x5, .int .u32 x6, .int .u32 x7, .int .u32 x8, .slice yA yn yc], .slice (some ⟨bm, om, none⟩) ms.length c6, .int .i64 k, .pointer (some ⟨bm, om + k * 10, none⟩), .agg #[.int .u32 x0, .int .u8 x1, .int .u32 x2, .int .u8 x3, .int .u8 x4, .int .u32 x5, .int .u32 x6, .int .u32 x7, .int .u32 x8, .slice xA xn xc], .int .i64 0, .bool false, .bool false, .bool false, .slice (some ⟨bg, og, none⟩) ys.length c7, .int .i64 k, .pointer (some ⟨bg, og + k * 10, none⟩), .pointer (some ⟨bg, og + k * 10, none⟩), .agg #[.int .u32 x0, .int .u8 x1], .slice (some ⟨bm, om, none⟩) ms.length c6, .int .i64 k, .pointer (some ⟨bm, om + k * 10, none⟩), .pointer (some ⟨bm, om + k * 10, none⟩), .agg #[.int .u32 x0, .int .u8 x1], .bool false, .bool false]) hmix (by kernel_rfl) rfl (by decide) (by kernel_rfl) (fun _ _ _ _ _ _ h => h) (Below.refl _ _).drew ?_ ?_
            · intro t w' a' hI ha j' hlt' hd
              simp only [putFrom, Act.put, Nat.reduceAdd, List.setIfInBounds_toArray, List.set_cons_zero, List.set_cons_succ] at ha
              subst ha
              replace hlt' : j' < 76 := hlt'
              have hzw := hI.size
              have hJ := hBr.trans (hI.mono hz8)
              rcases (show j' = 0 ∨ j' = 1 ∨ j' = 2 ∨ j' = 3 ∨ j' = 4 ∨ j' = 5 ∨ j' = 6 ∨ j' = 7 ∨ j' = 8 ∨ j' = 9 ∨ j' = 10 ∨ j' = 11 ∨ j' = 12 ∨ j' = 13 ∨ j' = 14 ∨ j' = 15 ∨ j' = 16 ∨ j' = 17 ∨ j' = 18 ∨ j' = 19 ∨ j' = 20 ∨ j' = 21 ∨ j' = 22 ∨ j' = 23 ∨ j' = 24 ∨ j' = 25 ∨ j' = 26 ∨ j' = 27 ∨ j' = 28 ∨ j' = 29 ∨ j' = 30 ∨ j' = 31 ∨ j' = 32 ∨ j' = 33 ∨ j' = 34 ∨ j' = 35 ∨ j' = 36 ∨ j' = 37 ∨ j' = 38 ∨ j' = 39 ∨ j' = 40 ∨ j' = 41 ∨ j' = 42 ∨ j' = 43 ∨ j' = 44 ∨ j' = 45 ∨ j' = 46 ∨ j' = 47 ∨ j' = 48 ∨ j' = 49 ∨ j' = 50 ∨ j' = 51 ∨ j' = 52 ∨ j' = 53 ∨ j' = 54 ∨ j' = 55 ∨ j' = 56 ∨ j' = 57 ∨ j' = 58 ∨ j' = 59 ∨ j' = 60 ∨ j' = 61 ∨ j' = 62 ∨ j' = 63 ∨ j' = 64 ∨ j' = 65 ∨ j' = 66 ∨ j' = 67 ∨ j' = 68 ∨ j' = 69 ∨ j' = 70 ∨ j' = 71 ∨ j' = 72 ∨ j' = 73 ∨ j' = 74 ∨ j' = 75 by omega) with rfl | rfl | rfl | rfl | rfl | rfl | rfl | rfl | rfl | rfl | rfl | rfl | rfl | rfl | rfl | rfl | rfl | rfl | rfl | rfl | rfl | rfl | rfl | rfl | rfl | rfl | rfl | rfl | rfl | rfl | rfl | rfl | rfl | rfl | rfl | rfl | rfl | rfl | rfl | rfl | rfl | rfl | rfl | rfl | rfl | rfl | rfl | rfl | rfl | rfl | rfl | rfl | rfl | rfl | rfl | rfl | rfl | rfl | rfl | rfl | rfl | rfl | rfl | rfl | rfl | rfl | rfl | rfl | rfl | rfl | rfl | rfl | rfl | rfl | rfl | rfl
              · refine wpOp_step rfl (fun K' hK => ?_)
                replace hK := Lib.hid hK
                go_wp2
                exact hK.out _ _ ⟨_, (by simp only [Act.put, List.getElem?_cons_zero, Option.getD_some, List.setIfInBounds_toArray, List.set_cons_zero, List.set_cons_succ]), hI, Below.refl _ _, rfl⟩
              · have d0 : t 0 = .int .i64 k := (Option.some.inj (hd 0 (by kernel_rfl))).symm
                rw [d0]
                refine wpOp_step rfl (fun K' hK => ?_)
                replace hK := Lib.hid hK
                go_wp2
                exact hK.out _ _ ⟨_, (by simp only [Act.put, List.getElem?_cons_zero, List.getElem?_cons_succ, Option.getD_some, List.setIfInBounds_toArray, List.set_cons_zero, List.set_cons_succ]), hI, Below.refl _ _, rfl⟩
              · have d1 : t 1 = .bool false := (Option.some.inj (hd 1 (by kernel_rfl))).symm
                rw [d1]
                refine wpOp_step rfl (fun K' hK => ?_)
                replace hK := Lib.hid hK
                go_wp2
                exact hK.out _ _ ⟨_, (by simp only [Act.put, List.getElem?_cons_zero, List.getElem?_cons_succ, Option.getD_some, List.setIfInBounds_toArray, List.set_cons_zero, List.set_cons_succ]), hI, Below.refl _ _, rfl⟩
              · have d2 : t 2 = .bool false := (Option.some.inj (hd 2 (by kernel_rfl))).symm
                rw [d2]
                refine wpOp_step rfl (fun K' hK => ?_)
                replace hK := Lib.hid hK
                go_wp2
                exact hK.out _ _ ⟨_, (by simp only [Act.put, List.getElem?_cons_zero, List.getElem?_cons_succ, Option.getD_some, List.setIfInBounds_toArray, List.set_cons_zero, List.set_cons_succ]), hI, Below.refl _ _, rfl⟩
              · have d2 : t 2 = .bool false := (Option.some.inj (hd 2 (by kernel_rfl))).symm
                rw [d2]
                refine wpOp_step rfl (fun K' hK => ?_)
                replace hK := Lib.hid hK
                go_wp2
                exact hK.out _ _ ⟨_, (by simp only [Act.put, List.getElem?_cons_zero, List.getElem?_cons_succ, Option.getD_some, List.setIfInBounds_toArray, List.set_cons_zero, List.set_cons_succ]), hI, Below.refl _ _, rfl⟩
              · have d2 : t 2 = .bool false := (Option.some.inj (hd 2 (by kernel_rfl))).symm
                rw [d2]
                refine wpOp_step rfl (fun K' hK => ?_)
                replace hK := Lib.hid hK
                go_wp2
                exact hK.out _ _ ⟨_, (by simp only [Act.put, List.getElem?_cons_zero, List.getElem?_cons_succ, Option.getD_some, List.setIfInBounds_toArray, List.set_cons_zero, List.set_cons_succ]), hI, Below.refl _ _, rfl⟩
              · have d2 : t 2 = .bool false := (Option.some.inj (hd 2 (by kernel_rfl))).symm
                rw [d2]
                refine wpOp_step rfl (fun K' hK => ?_)
                replace hK := Lib.hid hK
                go_wp2
                exact hK.out _ _ ⟨_, (by simp only [Act.put, List.getElem?_cons_zero, List.getElem?_cons_succ, Option.getD_some, List.setIfInBounds_toArray, List.set_cons_zero, List.set_cons_succ]), hI, Below.refl _ _, rfl⟩
              · have d2 : t 2 = .bool false := (Option.some.inj (hd 2 (by kernel_rfl))).symm
                rw [d2]
                refine wpOp_step rfl (fun K' hK => ?_)
                replace hK := Lib.hid hK
                go_wp2
                exact hK.out _ _ ⟨_, (by simp only [Act.put, List.getElem?_cons_zero, List.getElem?_cons_succ, Option.getD_some, List.setIfInBounds_toArray, List.set_cons_zero, List.set_cons_succ]), hI, Below.refl _ _, rfl⟩
              · have d2 : t 2 = .bool false := (Option.some.inj (hd 2 (by kernel_rfl))).symm
                rw [d2]
                refine wpOp_step rfl (fun K' hK => ?_)
                replace hK := Lib.hid hK
                go_wp2
                exact hK.out _ _ ⟨_, (by simp only [Act.put, List.getElem?_cons_zero, List.getElem?_cons_succ, Option.getD_some, List.setIfInBounds_toArray, List.set_cons_zero, List.set_cons_succ]), hI, Below.refl _ _, rfl⟩
              · have d2 : t 2 = .bool false := (Option.some.inj (hd 2 (by kernel_rfl))).symm
                rw [d2]
                refine wpOp_step rfl (fun K' hK => ?_)
                replace hK := Lib.hid hK
                go_wp2
                exact hK.out _ _ ⟨_, (by simp only [Act.put, List.getElem?_cons_zero, List.getElem?_cons_succ, Option.getD_some, List.setIfInBounds_toArray, List.set_cons_zero, List.set_cons_succ]), hI, Below.refl _ _, rfl⟩
              · have d2 : t 2 = .bool false := (Option.some.inj (hd 2 (by kernel_rfl))).symm
                rw [d2]
                refine wpOp_step rfl (fun K' hK => ?_)
                replace hK := Lib.hid hK
                go_wp2
                exact hK.out _ _ ⟨_, (by simp only [Act.put, List.getElem?_cons_zero, List.getElem?_cons_succ, Option.getD_some, List.setIfInBounds_toArray, List.set_cons_zero, List.set_cons_succ]), hI, Below.refl _ _, rfl⟩
              · have d2 : t 2 = .bool false := (Option.some.inj (hd 2 (by kernel_rfl))).symm
                rw [d2]
                refine wpOp_step rfl (fun K' hK => ?_)
                replace hK := Lib.hid hK
                go_wp2
                exact hK.out _ _ ⟨_, (by simp only [Act.put, List.getElem?_cons_zero, List.getElem?_cons_succ, Option.getD_some, List.setIfInBounds_toArray, List.set_cons_zero, List.set_cons_succ]), hI, Below.refl _ _, rfl⟩
              · have d2 : t 2 = .bool false := (Option.some.inj (hd 2 (by kernel_rfl))).symm
                rw [d2]
                refine wpOp_step rfl (fun K' hK => ?_)
                replace hK := Lib.hid hK
                go_wp2
                exact hK.out _ _ ⟨_, (by simp only [Act.put, List.getElem?_cons_zero, List.getElem?_cons_succ, Option.getD_some, List.setIfInBounds_toArray, List.set_cons_zero, List.set_cons_succ]), hI, Below.refl _ _, rfl⟩
              · have d2 : t 2 = .bool false := (Option.some.inj (hd 2 (by kernel_rfl))).symm
                rw [d2]
                refine wpOp_step rfl (fun K' hK => ?_)
                replace hK := Lib.hid hK
                go_wp2
                exact hK.out _ _ ⟨_, (by simp only [Act.put, List.getElem?_cons_zero, List.getElem?_cons_succ, Option.getD_some, List.setIfInBounds_toArray, List.set_cons_zero, List.set_cons_succ]), hI, Below.refl _ _, rfl⟩
              · have d2 : t 2 = .bool false := (Option.some.inj (hd 2 (by kernel_rfl))).symm
                rw [d2]
                refine wpOp_step rfl (fun K' hK => ?_)
                replace hK := Lib.hid hK
                go_wp2
                exact hK.out _ _ ⟨_, (by simp only [Act.put, List.getElem?_cons_zero, List.getElem?_cons_succ, Option.getD_some, List.setIfInBounds_toArray, List.set_cons_zero, List.set_cons_succ]), hI, Below.refl _ _, rfl⟩
              · have d2 : t 2 = .bool false := (Option.some.inj (hd 2 (by kernel_rfl))).symm
                rw [d2]
                refine wpOp_step rfl (fun K' hK => ?_)
                replace hK := Lib.hid hK
                go_wp2
                exact hK.out _ _ ⟨_, (by simp only [Act.put, List.getElem?_cons_zero, List.getElem?_cons_succ, Option.getD_some, List.setIfInBounds_toArray, List.set_cons_zero, List.set_cons_succ]), hI, Below.refl _ _, rfl⟩
              · have d2 : t 2 = .bool false := (Option.some.inj (hd 2 (by kernel_rfl))).symm
                rw [d2]
                refine wpOp_step rfl (fun K' hK => ?_)
                replace hK := Lib.hid hK
                go_wp2
                exact hK.out _ _ ⟨_, (by simp only [Act.put, List.getElem?_cons_zero, List.getElem?_cons_succ, Option.getD_some, List.setIfInBounds_toArray, List.set_cons_zero, List.set_cons_succ]), hI, Below.refl _ _, rfl⟩
              · have d2 : t 2 = .bool false := (Option.some.inj (hd 2 (by kernel_rfl))).symm
                rw [d2]
                refine wpOp_step rfl (fun K' hK => ?_)
                replace hK := Lib.hid hK
                go_wp2
                exact hK.out _ _ ⟨_, (by simp only [Act.put, List.getElem?_cons_zero, List.getElem?_cons_succ, Option.getD_some, List.setIfInBounds_toArray, List.set_cons_zero, List.set_cons_succ]), hI, Below.refl _ _, rfl⟩
              · have d17 : t 17 = undef := (Option.some.inj (hd 17 (by kernel_rfl))).symm
                rw [d17]
                refine wpOp_step rfl (fun K' hK => ?_)
                replace hK := Lib.hid hK
                go_wp2
                exact hK.out _ _ ⟨_, (by simp only [Act.put, List.getElem?_cons_zero, List.getElem?_cons_succ, Option.getD_some, List.setIfInBounds_toArray, List.set_cons_zero, List.set_cons_succ]), hI, Below.refl _ _, rfl⟩
              · have d17 : t 17 = undef := (Option.some.inj (hd 17 (by kernel_rfl))).symm
                rw [d17]
                refine wpOp_step rfl (fun K' hK => ?_)
                replace hK := Lib.hid hK
                go_wp2
                exact hK.out _ _ ⟨_, (by simp only [Act.put, List.getElem?_cons_zero, List.getElem?_cons_succ, Option.getD_some, List.setIfInBounds_toArray, List.set_cons_zero, List.set_cons_succ]), hI, Below.refl _ _, rfl⟩
              · have d17 : t 17 = undef := (Option.some.inj (hd 17 (by kernel_rfl))).symm
                rw [d17]
                refine wpOp_step rfl (fun K' hK => ?_)
                replace hK := Lib.hid hK
                go_wp2
                exact hK.out _ _ ⟨_, (by simp only [Act.put, List.getElem?_cons_zero, List.getElem?_cons_succ, Option.getD_some, List.setIfInBounds_toArray, List.set_cons_zero, List.set_cons_succ]), hI, Below.refl _ _, rfl⟩
              · have d17 : t 17 = undef := (Option.some.inj (hd 17 (by kernel_rfl))).symm
                rw [d17]
                refine wpOp_step rfl (fun K' hK => ?_)
                replace hK := Lib.hid hK
                go_wp2
                exact hK.out _ _ ⟨_, (by simp only [Act.put, List.getElem?_cons_zero, List.getElem?_cons_succ, Option.getD_some, List.setIfInBounds_toArray, List.set_cons_zero, List.set_cons_succ]), hI, Below.refl _ _, rfl⟩
              · have d17 : t 17 = undef := (Option.some.inj (hd 17 (by kernel_rfl))).symm
                rw [d17]
                refine wpOp_step rfl (fun K' hK => ?_)
                replace hK := Lib.hid hK
                go_wp2
                exact hK.out _ _ ⟨_, (by simp only [Act.put, List.getElem?_cons_zero, List.getElem?_cons_succ, Option.getD_some, List.setIfInBounds_toArray, List.set_cons_zero, List.set_cons_succ]), hI, Below.refl _ _, rfl⟩
              · have d17 : t 17 = undef := (Option.some.inj (hd 17 (by kernel_rfl))).symm
                rw [d17]
                refine wpOp_step rfl (fun K' hK => ?_)
                replace hK := Lib.hid hK
                go_wp2
                exact hK.out _ _ ⟨_, (by simp only [Act.put, List.getElem?_cons_zero, List.getElem?_cons_succ, Option.getD_some, List.setIfInBounds_toArray, List.set_cons_zero, List.set_cons_succ]), hI, Below.refl _ _, rfl⟩
              · have d17 : t 17 = undef := (Option.some.inj (hd 17 (by kernel_rfl))).symm
                rw [d17]
                refine wpOp_step rfl (fun K' hK => ?_)
                replace hK := Lib.hid hK
                go_wp2
                exact hK.out _ _ ⟨_, (by simp only [Act.put, List.getElem?_cons_zero, List.getElem?_cons_succ, Option.getD_some, List.setIfInBounds_toArray, List.set_cons_zero, List.set_cons_succ]), hI, Below.refl _ _, rfl⟩
              · have d17 : t 17 = undef := (Option.some.inj (hd 17 (by kernel_rfl))).symm
                rw [d17]
                refine wpOp_step rfl (fun K' hK => ?_)
                replace hK := Lib.hid hK
                go_wp2
                exact hK.out _ _ ⟨_, (by simp only [Act.put, List.getElem?_cons_zero, List.getElem?_cons_succ, Option.getD_some, List.setIfInBounds_toArray, List.set_cons_zero, List.set_cons_succ]), hI, Below.refl _ _, rfl⟩
              · have d17 : t 17 = undef := (Option.some.inj (hd 17 (by kernel_rfl))).symm
                rw [d17]
                refine wpOp_step rfl (fun K' hK => ?_)
                replace hK := Lib.hid hK
                go_wp2
                exact hK.out _ _ ⟨_, (by simp only [Act.put, List.getElem?_cons_zero, List.getElem?_cons_succ, Option.getD_some, List.setIfInBounds_toArray, List.set_cons_zero, List.set_cons_succ]), hI, Below.refl _ _, rfl⟩
              · have d17 : t 17 = undef := (Option.some.inj (hd 17 (by kernel_rfl))).symm
                rw [d17]
                refine wpOp_step rfl (fun K' hK => ?_)
                replace hK := Lib.hid hK
                go_wp2
                exact hK.out _ _ ⟨_, (by simp only [Act.put, List.getElem?_cons_zero, List.getElem?_cons_succ, Option.getD_some, List.setIfInBounds_toArray, List.set_cons_zero, List.set_cons_succ]), hI, Below.refl _ _, rfl⟩
              · have d17 : t 17 = undef := (Option.some.inj (hd 17 (by kernel_rfl))).symm
                rw [d17]
                refine wpOp_step rfl (fun K' hK => ?_)
                replace hK := Lib.hid hK
                go_wp2
                exact hK.out _ _ ⟨_, (by simp only [Act.put, List.getElem?_cons_zero, List.getElem?_cons_succ, Option.getD_some, List.setIfInBounds_toArray, List.set_cons_zero, List.set_cons_succ]), hI, Below.refl _ _, rfl⟩
              · have d17 : t 17 = undef := (Option.some.inj (hd 17 (by kernel_rfl))).symm
                rw [d17]
                refine wpOp_step rfl (fun K' hK => ?_)
                replace hK := Lib.hid hK
                go_wp2
                exact hK.out _ _ ⟨_, (by simp only [Act.put, List.getElem?_cons_zero, List.getElem?_cons_succ, Option.getD_some, List.setIfInBounds_toArray, List.set_cons_zero, List.set_cons_succ]), hI, Below.refl _ _, rfl⟩
              · have d17 : t 17 = undef := (Option.some.inj (hd 17 (by kernel_rfl))).symm
                rw [d17]
                refine wpOp_step rfl (fun K' hK => ?_)
                replace hK := Lib.hid hK
                go_wp2
                exact hK.out _ _ ⟨_, (by simp only [Act.put, List.getElem?_cons_zero, List.getElem?_cons_succ, Option.getD_some, List.setIfInBounds_toArray, List.set_cons_zero, List.set_cons_succ]), hI, Below.refl _ _, rfl⟩
              · have d17 : t 17 = undef := (Option.some.inj (hd 17 (by kernel_rfl))).symm
                rw [d17]
                refine wpOp_step rfl (fun K' hK => ?_)
                replace hK := Lib.hid hK
                go_wp2
                exact hK.out _ _ ⟨_, (by simp only [Act.put, List.getElem?_cons_zero, List.getElem?_cons_succ, Option.getD_some, List.setIfInBounds_toArray, List.set_cons_zero, List.set_cons_succ]), hI, Below.refl _ _, rfl⟩
              · have d17 : t 17 = undef := (Option.some.inj (hd 17 (by kernel_rfl))).symm
                rw [d17]
                refine wpOp_step rfl (fun K' hK => ?_)
                replace hK := Lib.hid hK
                go_wp2
                exact hK.out _ _ ⟨_, (by simp only [Act.put, List.getElem?_cons_zero, List.getElem?_cons_succ, Option.getD_some, List.setIfInBounds_toArray, List.set_cons_zero, List.set_cons_succ]), hI, Below.refl _ _, rfl⟩
              · have d32 : t 32 = undef := (Option.some.inj (hd 32 (by kernel_rfl))).symm
                rw [d32]
                refine wpOp_step rfl (fun K' hK => ?_)
                replace hK := Lib.hid hK
                go_wp2
                exact hK.out _ _ ⟨_, (by simp only [Act.put, List.getElem?_cons_zero, List.getElem?_cons_succ, Option.getD_some, List.setIfInBounds_toArray, List.set_cons_zero, List.set_cons_succ]), hI, Below.refl _ _, rfl⟩
              · have d32 : t 32 = undef := (Option.some.inj (hd 32 (by kernel_rfl))).symm
                rw [d32]
                refine wpOp_step rfl (fun K' hK => ?_)
                replace hK := Lib.hid hK
                go_wp2
                exact hK.out _ _ ⟨_, (by simp only [Act.put, List.getElem?_cons_zero, List.getElem?_cons_succ, Option.getD_some, List.setIfInBounds_toArray, List.set_cons_zero, List.set_cons_succ]), hI, Below.refl _ _, rfl⟩
              · have d32 : t 32 = undef := (Option.some.inj (hd 32 (by kernel_rfl))).symm
                rw [d32]
                refine wpOp_step rfl (fun K' hK => ?_)
                replace hK := Lib.hid hK
                go_wp2
                exact hK.out _ _ ⟨_, (by simp only [Act.put, List.getElem?_cons_zero, List.getElem?_cons_succ, Option.getD_some, List.setIfInBounds_toArray, List.set_cons_zero, List.set_cons_succ]), hI, Below.refl _ _, rfl⟩
              · have d32 : t 32 = undef := (Option.some.inj (hd 32 (by kernel_rfl))).symm
                rw [d32]
                refine wpOp_step rfl (fun K' hK => ?_)
                replace hK := Lib.hid hK
                go_wp2
                exact hK.out _ _ ⟨_, (by simp only [Act.put, List.getElem?_cons_zero, List.getElem?_cons_succ, Option.getD_some, List.setIfInBounds_toArray, List.set_cons_zero, List.set_cons_succ]), hI, Below.refl _ _, rfl⟩
              · have d32 : t 32 = undef := (Option.some.inj (hd 32 (by kernel_rfl))).symm
                rw [d32]
                refine wpOp_step rfl (fun K' hK => ?_)
                replace hK := Lib.hid hK
                go_wp2
                exact hK.out _ _ ⟨_, (by simp only [Act.put, List.getElem?_cons_zero, List.getElem?_cons_succ, Option.getD_some, List.setIfInBounds_toArray, List.set_cons_zero, List.set_cons_succ]), hI, Below.refl _ _, rfl⟩
              · have d32 : t 32 = undef := (Option.some.inj (hd 32 (by kernel_rfl))).symm
                rw [d32]
                refine wpOp_step rfl (fun K' hK => ?_)
                replace hK := Lib.hid hK
                go_wp2
                exact hK.out _ _ ⟨_, (by simp only [Act.put, List.getElem?_cons_zero, List.getElem?_cons_succ, Option.getD_some, List.setIfInBounds_toArray, List.set_cons_zero, List.set_cons_succ]), hI, Below.refl _ _, rfl⟩
              · have d32 : t 32 = undef := (Option.some.inj (hd 32 (by kernel_rfl))).symm
                rw [d32]
                refine wpOp_step rfl (fun K' hK => ?_)
                replace hK := Lib.hid hK
                go_wp2
                exact hK.out _ _ ⟨_, (by simp only [Act.put, List.getElem?_cons_zero, List.getElem?_cons_succ, Option.getD_some, List.setIfInBounds_toArray, List.set_cons_zero, List.set_cons_succ]), hI, Below.refl _ _, rfl⟩
              · have d32 : t 32 = undef := (Option.some.inj (hd 32 (by kernel_rfl))).symm
                rw [d32]
                refine wpOp_step rfl (fun K' hK => ?_)
                replace hK := Lib.hid hK
                go_wp2
                exact hK.out _ _ ⟨_, (by simp only [Act.put, List.getElem?_cons_zero, List.getElem?_cons_succ, Option.getD_some, List.setIfInBounds_toArray, List.set_cons_zero, List.set_cons_succ]), hI, Below.refl _ _, rfl⟩
              · have d32 : t 32 = undef := (Option.some.inj (hd 32 (by kernel_rfl))).symm
                rw [d32]
                refine wpOp_step rfl (fun K' hK => ?_)
                replace hK := Lib.hid hK
                go_wp2
                exact hK.out _ _ ⟨_, (by simp only [Act.put, List.getElem?_cons_zero, List.getElem?_cons_succ, Option.getD_some, List.setIfInBounds_toArray, List.set_cons_zero, List.set_cons_succ]), hI, Below.refl _ _, rfl⟩
              · have d32 : t 32 = undef := (Option.some.inj (hd 32 (by kernel_rfl))).symm
                rw [d32]
                refine wpOp_step rfl (fun K' hK => ?_)
                replace hK := Lib.hid hK
                go_wp2
                exact hK.out _ _ ⟨_, (by simp only [Act.put, List.getElem?_cons_zero, List.getElem?_cons_succ, Option.getD_some, List.setIfInBounds_toArray, List.set_cons_zero, List.set_cons_succ]), hI, Below.refl _ _, rfl⟩
              · have d32 : t 32 = undef := (Option.some.inj (hd 32 (by kernel_rfl))).symm
                rw [d32]
                refine wpOp_step rfl (fun K' hK => ?_)
                replace hK := Lib.hid hK
                go_wp2
                exact hK.out _ _ ⟨_, (by simp only [Act.put, List.getElem?_cons_zero, List.getElem?_cons_succ, Option.getD_some, List.setIfInBounds_toArray, List.set_cons_zero, List.set_cons_succ]), hI, Below.refl _ _, rfl⟩
              · have d32 : t 32 = undef := (Option.some.inj (hd 32 (by kernel_rfl))).symm
                rw [d32]
                refine wpOp_step rfl (fun K' hK => ?_)
                replace hK := Lib.hid hK
                go_wp2
                exact hK.out _ _ ⟨_, (by simp only [Act.put, List.getElem?_cons_zero, List.getElem?_cons_succ, Option.getD_some, List.setIfInBounds_toArray, List.set_cons_zero, List.set_cons_succ]), hI, Below.refl _ _, rfl⟩
              · have d32 : t 32 = undef := (Option.some.inj (hd 32 (by kernel_rfl))).symm
                rw [d32]
                refine wpOp_step rfl (fun K' hK => ?_)
                replace hK := Lib.hid hK
                go_wp2
                exact hK.out _ _ ⟨_, (by simp only [Act.put, List.getElem?_cons_zero, List.getElem?_cons_succ, Option.getD_some, List.setIfInBounds_toArray, List.set_cons_zero, List.set_cons_succ]), hI, Below.refl _ _, rfl⟩
              · have d32 : t 32 = undef := (Option.some.inj (hd 32 (by kernel_rfl))).symm
                rw [d32]
                refine wpOp_step rfl (fun K' hK => ?_)
                replace hK := Lib.hid hK
                go_wp2
                exact hK.out _ _ ⟨_, (by simp only [Act.put, List.getElem?_cons_zero, List.getElem?_cons_succ, Option.getD_some, List.setIfInBounds_toArray, List.set_cons_zero, List.set_cons_succ]), hI, Below.refl _ _, rfl⟩
              · have d17 : t 17 = undef := (Option.some.inj (hd 17 (by kernel_rfl))).symm
                rw [d17]
                refine wpOp_step rfl (fun K' hK => ?_)
                replace hK := Lib.hid hK
                go_wp2
                exact hK.out _ _ ⟨_, (by simp only [Act.put, List.getElem?_cons_zero, List.getElem?_cons_succ, Option.getD_some, List.setIfInBounds_toArray, List.set_cons_zero, List.set_cons_succ]), hI, Below.refl _ _, rfl⟩
              · have d2 : t 2 = .bool false := (Option.some.inj (hd 2 (by kernel_rfl))).symm
                rw [d2]
                refine wpOp_step rfl (fun K' hK => ?_)
                replace hK := Lib.hid hK
                go_wp2
                exact hK.out _ _ ⟨_, (by simp only [Act.put, List.getElem?_cons_zero, List.getElem?_cons_succ, Option.getD_some, List.setIfInBounds_toArray, List.set_cons_zero, List.set_cons_succ]), hI, Below.refl _ _, rfl⟩
              · have d2 : t 2 = .bool false := (Option.some.inj (hd 2 (by kernel_rfl))).symm
                rw [d2]
                refine wpOp_step rfl (fun K' hK => ?_)
                replace hK := Lib.hid hK
                go_wp2
                exact hK.out _ _ ⟨_, (by simp only [Act.put, List.getElem?_cons_zero, List.getElem?_cons_succ, Option.getD_some, List.setIfInBounds_toArray, List.set_cons_zero, List.set_cons_succ]), hI, Below.refl _ _, rfl⟩
              · have d2 : t 2 = .bool false := (Option.some.inj (hd 2 (by kernel_rfl))).symm
                rw [d2]
                have d49 : t 49 = undef := (Option.some.inj (hd 49 (by kernel_rfl))).symm
                rw [d49]
                refine wpOp_step rfl (fun K' hK => ?_)
                replace hK := Lib.hid hK
                go_wp2
                exact hK.out _ _ ⟨_, (by simp only [Act.put, List.getElem?_cons_zero, List.getElem?_cons_succ, Option.getD_some, List.setIfInBounds_toArray, List.set_cons_zero, List.set_cons_succ]), hI, Below.refl _ _, rfl⟩
              · have d50 : t 50 = .bool false := (Option.some.inj (hd 50 (by kernel_rfl))).symm
                rw [d50]
                refine wpOp_step rfl (fun K' hK => ?_)
                replace hK := Lib.hid hK
                go_wp2
                exact hK.out _ _ ⟨_, (by simp only [Act.put, List.getElem?_cons_zero, List.getElem?_cons_succ, Option.getD_some, List.setIfInBounds_toArray, List.set_cons_zero, List.set_cons_succ]), hI, Below.refl _ _, rfl⟩
              · have d51 : t 51 = .bool false := (Option.some.inj (hd 51 (by kernel_rfl))).symm
                rw [d51]
                refine wpOp_step rfl (fun K' hK => ?_)
                replace hK := Lib.hid hK
                go_wp2
                exact hK.out _ _ ⟨_, (by simp only [Act.put, List.getElem?_cons_zero, List.getElem?_cons_succ, Option.getD_some, List.setIfInBounds_toArray, List.set_cons_zero, List.set_cons_succ]), hI, Below.refl _ _, rfl⟩
              · have d51 : t 51 = .bool false := (Option.some.inj (hd 51 (by kernel_rfl))).symm
                rw [d51]
                refine wpOp_step rfl (fun K' hK => ?_)
                replace hK := Lib.hid hK
                go_wp2
                exact hK.out _ _ ⟨_, (by simp only [Act.put, List.getElem?_cons_zero, List.getElem?_cons_succ, Option.getD_some, List.setIfInBounds_toArray, List.set_cons_zero, List.set_cons_succ]), hI, Below.refl _ _, rfl⟩
              · have d52 : t 52 = .slice (some ⟨bg, og, none⟩) ys.length c7 := (Option.some.inj (hd 52 (by kernel_rfl))).symm
                rw [d52]
                have d53 : t 53 = .int .i64 k := (Option.some.inj (hd 53 (by kernel_rfl))).symm
                rw [d53]
                have d51 : t 51 = .bool false := (Option.some.inj (hd 51 (by kernel_rfl))).symm
                rw [d51]
                refine wpOp_step rfl (fun K' hK => ?_)
                replace hK := Lib.hid hK
                go_wp2
                exact hK.out _ _ ⟨_, (by simp only [Act.put, List.getElem?_cons_zero, List.getElem?_cons_succ, Option.getD_some, List.setIfInBounds_toArray, List.set_cons_zero, List.set_cons_succ]), hI, Below.refl _ _, rfl⟩
              · have d54 : t 54 = .pointer (some ⟨bg, og + k * 10, none⟩) := (Option.some.inj (hd 54 (by kernel_rfl))).symm
                rw [d54]
                have d51 : t 51 = .bool false := (Option.some.inj (hd 51 (by kernel_rfl))).symm
                rw [d51]
                have f0 : w'.cell? ⟨bg, og + k * 10, none⟩ = some (.int .u32 x0) := gg.out w' hJ 0 _ rfl
                have f1 : w'.cell? ⟨bg, og + k * 10 + 1, none⟩ = some (.int .u8 x1) := gg.out w' hJ 1 _ rfl
                have f2 : w'.cell? ⟨bg, og + k * 10 + 2, none⟩ = some (.int .u32 x2) := gg.out w' hJ 2 _ rfl
                have f3 : w'.cell? ⟨bg, og + k * 10 + 3, none⟩ = some (.int .u8 x3) := gg.out w' hJ 3 _ rfl
                have f4 : w'.cell? ⟨bg, og + k * 10 + 4, none⟩ = some (.int .u8 x4) := gg.out w' hJ 4 _ rfl
                have f5 : w'.cell? ⟨bg, og + k * 10 + 5, none⟩ = some (.int .u32 x5) := gg.out w' hJ 5 _ rfl
                have f6 : w'.cell? ⟨bg, og + k * 10 + 6, none⟩ = some (.int .u32 x6) := gg.out w' hJ 6 _ rfl
                have f7 : w'.cell? ⟨bg, og + k * 10 + 7, none⟩ = some (.int .u32 x7) := gg.out w' hJ 7 _ rfl
                have f8 : w'.cell? ⟨bg, og + k * 10 + 8, none⟩ = some (.int .u32 x8) := gg.out w' hJ 8 _ rfl
                have f9 : w'.cell? ⟨bg, og + k * 10 + 9, none⟩ = some (.slice yA yn yc) := gg.out w' hJ 9 _ rfl
                refine wpOp_step rfl (fun K' hK => ?_)
                replace hK := Lib.hid hK
                go_wp2
                exact hK.out _ _ ⟨_, (by simp only [Act.put, List.getElem?_cons_zero, List.getElem?_cons_succ, Option.getD_some, List.setIfInBounds_toArray, List.set_cons_zero, List.set_cons_succ]), hI, Below.refl _ _, rfl⟩
              · have d51 : t 51 = .bool false := (Option.some.inj (hd 51 (by kernel_rfl))).symm
                rw [d51]
                refine wpOp_step rfl (fun K' hK => ?_)
                replace hK := Lib.hid hK
                go_wp2
                exact hK.out _ _ ⟨_, (by simp only [Act.put, List.getElem?_cons_zero, List.getElem?_cons_succ, Option.getD_some, List.setIfInBounds_toArray, List.set_cons_zero, List.set_cons_succ]), hI, Below.refl _ _, rfl⟩
              · have d51 : t 51 = .bool false := (Option.some.inj (hd 51 (by kernel_rfl))).symm
                rw [d51]
                refine wpOp_step rfl (fun K' hK => ?_)
                replace hK := Lib.hid hK
                go_wp2
                exact hK.out _ _ ⟨_, (by simp only [Act.put, List.getElem?_cons_zero, List.getElem?_cons_succ, Option.getD_some, List.setIfInBounds_toArray, List.set_cons_zero, List.set_cons_succ]), hI, Below.refl _ _, rfl⟩
              · have d56 : t 56 = .slice (some ⟨bm, om, none⟩) ms.length c6 := (Option.some.inj (hd 56 (by kernel_rfl))).symm
                rw [d56]
                have d57 : t 57 = .int .i64 k := (Option.some.inj (hd 57 (by kernel_rfl))).symm
                rw [d57]
                have d51 : t 51 = .bool false := (Option.some.inj (hd 51 (by kernel_rfl))).symm
                rw [d51]
                refine wpOp_step rfl (fun K' hK => ?_)
                replace hK := Lib.hid hK
                go_wp2
                exact hK.out _ _ ⟨_, (by simp only [Act.put, List.getElem?_cons_zero, List.getElem?_cons_succ, Option.getD_some, List.setIfInBounds_toArray, List.set_cons_zero, List.set_cons_succ]), hI, Below.refl _ _, rfl⟩
              · have d58 : t 58 = .pointer (some ⟨bm, om + k * 10, none⟩) := (Option.some.inj (hd 58 (by kernel_rfl))).symm
                rw [d58]
                have d51 : t 51 = .bool false := (Option.some.inj (hd 51 (by kernel_rfl))).symm
                rw [d51]
                have f0 : w'.cell? ⟨bm, om + k * 10, none⟩ = some (.int .u32 x0) := gm.out w' hJ 0 _ rfl
                have f1 : w'.cell? ⟨bm, om + k * 10 + 1, none⟩ = some (.int .u8 x1) := gm.out w' hJ 1 _ rfl
                have f2 : w'.cell? ⟨bm, om + k * 10 + 2, none⟩ = some (.int .u32 x2) := gm.out w' hJ 2 _ rfl
                have f3 : w'.cell? ⟨bm, om + k * 10 + 3, none⟩ = some (.int .u8 x3) := gm.out w' hJ 3 _ rfl
                have f4 : w'.cell? ⟨bm, om + k * 10 + 4, none⟩ = some (.int .u8 x4) := gm.out w' hJ 4 _ rfl
                have f5 : w'.cell? ⟨bm, om + k * 10 + 5, none⟩ = some (.int .u32 x5) := gm.out w' hJ 5 _ rfl
                have f6 : w'.cell? ⟨bm, om + k * 10 + 6, none⟩ = some (.int .u32 x6) := gm.out w' hJ 6 _ rfl
                have f7 : w'.cell? ⟨bm, om + k * 10 + 7, none⟩ = some (.int .u32 x7) := gm.out w' hJ 7 _ rfl
                have f8 : w'.cell? ⟨bm, om + k * 10 + 8, none⟩ = some (.int .u32 x8) := gm.out w' hJ 8 _ rfl
                have f9 : w'.cell? ⟨bm, om + k * 10 + 9, none⟩ = some (.slice xA xn xc) := gm.out w' hJ 9 _ rfl
                refine wpOp_step rfl (fun K' hK => ?_)
                replace hK := Lib.hid hK
                go_wp2
                exact hK.out _ _ ⟨_, (by simp only [Act.put, List.getElem?_cons_zero, List.getElem?_cons_succ, Option.getD_some, List.setIfInBounds_toArray, List.set_cons_zero, List.set_cons_succ]), hI, Below.refl _ _, rfl⟩
              · have d55 : t 55 = .agg #[.int .u32 x0, .int .u8 x1, .int .u32 x2, .int .u8 x3, .int .u8 x4, .int .u32 x5, .int .u32 x6, .int .u32 x7, .int .u32 x8, .slice yA yn yc] := (Option.some.inj (hd 55 (by kernel_rfl))).symm
                rw [d55]
                have d59 : t 59 = .agg #[.int .u32 x0, .int .u8 x1, .int .u32 x2, .int .u8 x3, .int .u8 x4, .int .u32 x5, .int .u32 x6, .int .u32 x7, .int .u32 x8, .slice xA xn xc] := (Option.some.inj (hd 59 (by kernel_rfl))).symm
                rw [d59]
                have d51 : t 51 = .bool false := (Option.some.inj (hd 51 (by kernel_rfl))).symm
                rw [d51]
                have CC := Lib.hid (CBt.out w')
                refine wpOp_step rfl (fun K' hK => ?_)
                replace hK := Lib.hid hK
                go_wp2_with (go_at_call 38; refine Calls.mono CC.out ?_; rintro e w4 ⟨rfl, hB4⟩)
                exact hK.out _ _ ⟨_, (by simp only [Act.put, List.getElem?_cons_zero, List.getElem?_cons_succ, Option.getD_some, List.setIfInBounds_toArray, List.set_cons_zero, List.set_cons_succ]), hI.trans (hB4.mono hzw), hB4, rfl⟩
              · have d60 : t 60 = .int .i64 0 := (Option.some.inj (hd 60 (by kernel_rfl))).symm
                rw [d60]
                have d51 : t 51 = .bool false := (Option.some.inj (hd 51 (by kernel_rfl))).symm
                rw [d51]
                refine wpOp_step rfl (fun K' hK => ?_)
                replace hK := Lib.hid hK
                go_wp2
                exact hK.out _ _ ⟨_, (by simp only [Act.put, List.getElem?_cons_zero, List.getElem?_cons_succ, Option.getD_some, List.setIfInBounds_toArray, List.set_cons_zero, List.set_cons_succ]), hI, Below.refl _ _, rfl⟩
              · have d51 : t 51 = .bool false := (Option.some.inj (hd 51 (by kernel_rfl))).symm
                rw [d51]
                have d61 : t 61 = .bool false := (Option.some.inj (hd 61 (by kernel_rfl))).symm
                rw [d61]
                refine wpOp_step rfl (fun K' hK => ?_)
                replace hK := Lib.hid hK
                go_wp2
                exact hK.out _ _ ⟨_, (by simp only [Act.put, List.getElem?_cons_zero, List.getElem?_cons_succ, Option.getD_some, List.setIfInBounds_toArray, List.set_cons_zero, List.set_cons_succ]), hI, Below.refl _ _, rfl⟩
              · have d62 : t 62 = .bool false := (Option.some.inj (hd 62 (by kernel_rfl))).symm
                rw [d62]
                refine wpOp_step rfl (fun K' hK => ?_)
                replace hK := Lib.hid hK
                go_wp2
                exact hK.out _ _ ⟨_, (by simp only [Act.put, List.getElem?_cons_zero, List.getElem?_cons_succ, Option.getD_some, List.setIfInBounds_toArray, List.set_cons_zero, List.set_cons_succ]), hI, Below.refl _ _, rfl⟩
              · have d63 : t 63 = .bool false := (Option.some.inj (hd 63 (by kernel_rfl))).symm
                rw [d63]
                refine wpOp_step rfl (fun K' hK => ?_)
                replace hK := Lib.hid hK
                go_wp2
                exact hK.out _ _ ⟨_, (by simp only [Act.put, List.getElem?_cons_zero, List.getElem?_cons_succ, Option.getD_some, List.setIfInBounds_toArray, List.set_cons_zero, List.set_cons_succ]), hI, Below.refl _ _, rfl⟩
              · have d63 : t 63 = .bool false := (Option.some.inj (hd 63 (by kernel_rfl))).symm
                rw [d63]
                refine wpOp_step rfl (fun K' hK => ?_)
                replace hK := Lib.hid hK
                go_wp2
                exact hK.out _ _ ⟨_, (by simp only [Act.put, List.getElem?_cons_zero, List.getElem?_cons_succ, Option.getD_some, List.setIfInBounds_toArray, List.set_cons_zero, List.set_cons_succ]), hI, Below.refl _ _, rfl⟩
              · have d64 : t 64 = .slice (some ⟨bg, og, none⟩) ys.length c7 := (Option.some.inj (hd 64 (by kernel_rfl))).symm
                rw [d64]
                have d65 : t 65 = .int .i64 k := (Option.some.inj (hd 65 (by kernel_rfl))).symm
                rw [d65]
                have d63 : t 63 = .bool false := (Option.some.inj (hd 63 (by kernel_rfl))).symm
                rw [d63]
                refine wpOp_step rfl (fun K' hK => ?_)
                replace hK := Lib.hid hK
                go_wp2
                exact hK.out _ _ ⟨_, (by simp only [Act.put, List.getElem?_cons_zero, List.getElem?_cons_succ, Option.getD_some, List.setIfInBounds_toArray, List.set_cons_zero, List.set_cons_succ]), hI, Below.refl _ _, rfl⟩
              · have d66 : t 66 = .pointer (some ⟨bg, og + k * 10, none⟩) := (Option.some.inj (hd 66 (by kernel_rfl))).symm
                rw [d66]
                have d63 : t 63 = .bool false := (Option.some.inj (hd 63 (by kernel_rfl))).symm
                rw [d63]
                refine wpOp_step rfl (fun K' hK => ?_)
                replace hK := Lib.hid hK
                go_wp2
                exact hK.out _ _ ⟨_, (by simp only [Act.put, List.getElem?_cons_zero, List.getElem?_cons_succ, Option.getD_some, List.setIfInBounds_toArray, List.set_cons_zero, List.set_cons_succ]), hI, Below.refl _ _, rfl⟩
              · have d67 : t 67 = .pointer (some ⟨bg, og + k * 10, none⟩) := (Option.some.inj (hd 67 (by kernel_rfl))).symm
                rw [d67]
                have d63 : t 63 = .bool false := (Option.some.inj (hd 63 (by kernel_rfl))).symm
                rw [d63]
                have f0 : w'.cell? ⟨bg, og + k * 10, none⟩ = some (.int .u32 x0) := gg.out w' hJ 0 _ rfl
                have f1 : w'.cell? ⟨bg, og + k * 10 + 1, none⟩ = some (.int .u8 x1) := gg.out w' hJ 1 _ rfl
                refine wpOp_step rfl (fun K' hK => ?_)
                replace hK := Lib.hid hK
                go_wp2
                exact hK.out _ _ ⟨_, (by simp only [Act.put, List.getElem?_cons_zero, List.getElem?_cons_succ, Option.getD_some, List.setIfInBounds_toArray, List.set_cons_zero, List.set_cons_succ]), hI, Below.refl _ _, rfl⟩
              · have d63 : t 63 = .bool false := (Option.some.inj (hd 63 (by kernel_rfl))).symm
                rw [d63]
                refine wpOp_step rfl (fun K' hK => ?_)
                replace hK := Lib.hid hK
                go_wp2
                exact hK.out _ _ ⟨_, (by simp only [Act.put, List.getElem?_cons_zero, List.getElem?_cons_succ, Option.getD_some, List.setIfInBounds_toArray, List.set_cons_zero, List.set_cons_succ]), hI, Below.refl _ _, rfl⟩
              · have d63 : t 63 = .bool false := (Option.some.inj (hd 63 (by kernel_rfl))).symm
                rw [d63]
                refine wpOp_step rfl (fun K' hK => ?_)
                replace hK := Lib.hid hK
                go_wp2
                exact hK.out _ _ ⟨_, (by simp only [Act.put, List.getElem?_cons_zero, List.getElem?_cons_succ, Option.getD_some, List.setIfInBounds_toArray, List.set_cons_zero, List.set_cons_succ]), hI, Below.refl _ _, rfl⟩
              · have d69 : t 69 = .slice (some ⟨bm, om, none⟩) ms.length c6 := (Option.some.inj (hd 69 (by kernel_rfl))).symm
                rw [d69]
                have d70 : t 70 = .int .i64 k := (Option.some.inj (hd 70 (by kernel_rfl))).symm
                rw [d70]
                have d63 : t 63 = .bool false := (Option.some.inj (hd 63 (by kernel_rfl))).symm
                rw [d63]
                refine wpOp_step rfl (fun K' hK => ?_)
                replace hK := Lib.hid hK
                go_wp2
                exact hK.out _ _ ⟨_, (by simp only [Act.put, List.getElem?_cons_zero, List.getElem?_cons_succ, Option.getD_some, List.setIfInBounds_toArray, List.set_cons_zero, List.set_cons_succ]), hI, Below.refl _ _, rfl⟩
              · have d71 : t 71 = .pointer (some ⟨bm, om + k * 10, none⟩) := (Option.some.inj (hd 71 (by kernel_rfl))).symm
                rw [d71]
                have d63 : t 63 = .bool false := (Option.some.inj (hd 63 (by kernel_rfl))).symm
                rw [d63]
                refine wpOp_step rfl (fun K' hK => ?_)
                replace hK := Lib.hid hK
                go_wp2
                exact hK.out _ _ ⟨_, (by simp only [Act.put, List.getElem?_cons_zero, List.getElem?_cons_succ, Option.getD_some, List.setIfInBounds_toArray, List.set_cons_zero, List.set_cons_succ]), hI, Below.refl _ _, rfl⟩
              · have d72 : t 72 = .pointer (some ⟨bm, om + k * 10, none⟩) := (Option.some.inj (hd 72 (by kernel_rfl))).symm
                rw [d72]
                have d63 : t 63 = .bool false := (Option.some.inj (hd 63 (by kernel_rfl))).symm
                rw [d63]
                have f0 : w'.cell? ⟨bm, om + k * 10, none⟩ = some (.int .u32 x0) := gm.out w' hJ 0 _ rfl
                have f1 : w'.cell? ⟨bm, om + k * 10 + 1, none⟩ = some (.int .u8 x1) := gm.out w' hJ 1 _ rfl
                refine wpOp_step rfl (fun K' hK => ?_)
                replace hK := Lib.hid hK
                go_wp2
                exact hK.out _ _ ⟨_, (by simp only [Act.put, List.getElem?_cons_zero, List.getElem?_cons_succ, Option.getD_some, List.setIfInBounds_toArray, List.set_cons_zero, List.set_cons_succ]), hI, Below.refl _ _, rfl⟩
              · have d68 : t 68 = .agg #[.int .u32 x0, .int .u8 x1] := (Option.some.inj (hd 68 (by kernel_rfl))).symm
                rw [d68]
                have d73 : t 73 = .agg #[.int .u32 x0, .int .u8 x1] := (Option.some.inj (hd 73 (by kernel_rfl))).symm
                rw [d73]
                have d63 : t 63 = .bool false := (Option.some.inj (hd 63 (by kernel_rfl))).symm
                rw [d63]
                refine wpOp_step rfl (fun K' hK => ?_)
                replace hK := Lib.hid hK
                go_wp2
                exact hK.out _ _ ⟨_, (by simp only [Act.put, List.getElem?_cons_zero, List.getElem?_cons_succ, Option.getD_some, List.setIfInBounds_toArray, List.set_cons_zero, List.set_cons_succ]), hI, Below.refl _ _, rfl⟩
              · have d63 : t 63 = .bool false := (Option.some.inj (hd 63 (by kernel_rfl))).symm
                rw [d63]
                have d74 : t 74 = .bool false := (Option.some.inj (hd 74 (by kernel_rfl))).symm
                rw [d74]
                refine wpOp_step rfl (fun K' hK => ?_)
                replace hK := Lib.hid hK
                go_wp2
                exact hK.out _ _ ⟨_, (by simp only [Act.put, List.getElem?_cons_zero, List.getElem?_cons_succ, Option.getD_some, List.setIfInBounds_toArray, List.set_cons_zero, List.set_cons_succ]), hI, Below.refl _ _, rfl⟩
            · intro t w' a' hI ha hv
              simp only [putFrom, Act.put, Nat.reduceAdd, List.setIfInBounds_toArray, List.set_cons_zero, List.set_cons_succ] at ha
              subst ha
              have dl : t 75 = .bool false := (Option.some.inj (hv 75 (by decide))).symm
              rw [dl]
              clear hv dl
              go_wp2_with fail
              go_roundg (ms.length - (k + 1))
              case measure => omega
              case rel => exact ⟨k + 1, by omega, rfl, by go_num, hBr.trans (hI.mono hz8)⟩
          · obtain ⟨j, rfl⟩ : ∃ j, k = j + 1 := ⟨k - 1, by omega⟩
            obtain ⟨bp, op, hAp, hbp, hrp⟩ := Sl.row yE.len hlm7.out (show j < ms.length by omega)
            simp only [Option.some.injEq, Addr.mk.injEq, and_true] at hAp
            obtain ⟨rfl, rfl⟩ := hAp
            have hlt := hup.out j hkm
            rw [← hx.out] at hlt
            obtain ⟨p, hp⟩ : ∃ p, p = ms[j] := ⟨_, rfl⟩
            rw [← hp] at hrp hlt
            clear hp
            obtain ⟨⟨⟨p0, p1, p2, p3, p4, p5, p6, p7, p8⟩, pA, pn, pc⟩, ph⟩ := p
            dsimp only at hlt
            have gp := Lib.hid (fun (W : World) (h : Below w7.heap.size w7 W) (q : Nat) (u : Value) (hu : (yL ((⟨⟨p0, p1, p2, p3, p4, p5, p6, p7, p8⟩, pA, pn, pc⟩, ph) : WayY))[q]? = some u) => (h.cell (p := ⟨bm, om + j * 10 + q, none⟩) hbm).trans (hrp q u hu))
            clear hrp
            have e1 : (((j + 1 : Nat) : Int)) = (j : Int) + 1 := rfl
            rw [e1]
            rw [e1] at ik iky
            clear e1
            have i0 : (0 : Int) < (j : Int) + 1 := by omega
            have i1 : (0 : Int) ≤ (j : Int) + 1 := by omega
            have i2 : (j : Int) < (ms.length : Int) := by omega
            have iwj : IntKind.i64.wrap (j : Int) = (j : Int) := IntWalk.i64_in _ (by omega)
            by_cases hlt0 : p0 < x0
            · clear hlt
              go_upto_region 12 with fail
              try dsimp only [List.append]
              refine wp_region_vals [some 43, some 44, some 45, some 46, some 47, some 48, some 49, some 50, some 51, some 52, some 53, some 54, some 55, some 56, some 57, some 58, some 59, some 60, some 61, some 62, some 63, some 64, some 65, some 66, some 67, some 68, some 69, some 70, some 71, some 72, some 73, some 74, some 75, some 76, some 77, some 78, some 79, some 80, some 81, some 82, some 83, some 84, some 85, some 86, some 87, some 88, some 89, some 90, some 91, some 92, some 93, some 94, some 95, some 96, some 97, some 98, some 99, some 100, some 101, some 102, some 103, some 104, some 105, some 106, some 107, some 108, some 109, some 110, some 111, some 112, some 113, some 114, some 115, some 116, some 117, some 118] (fun W => Below w8.heap.size w8 W) (fun W W' => Below W.heap.size W W') id (ValV [.int .i64 ((j : Int) + 1), .bool true, .bool true, .slice (some ⟨bm, om, none⟩) ms.length c6, .int .i64 ((j : Int) + 1), .int .i64 j, .pointer (some ⟨bm, om + j * 10, none⟩), .pointer (some ⟨bm, om + j * 10, none⟩), .pointer (some ⟨bm, om + j * 10, none⟩), .int .u32 p0, .slice (some ⟨bm, om, none⟩) ms.length c6, .int .i64 ((j : Int) + 1), .pointer (some ⟨bm, om + (j + 1) * 10, none⟩), .pointer (some ⟨bm, om + (j + 1) * 10, none⟩), .pointer (some ⟨bm, om + (j + 1) * 10, none⟩), .int .u32 x0, .bool true, .bool true, undef, undef, undef, undef, undef, undef, undef, undef, undef, undef, undef, undef, undef, undef, undef, undef, undef, undef, undef, undef, undef, undef, undef, undef, undef, undef, undef, undef, undef, undef, .bool true, .bool false, .bool false, .bool false, .slice (some ⟨bg, og, none⟩) ys.length c7, .int .i64 ((j : Int) + 1), .pointer (some ⟨bg, og + (j + 1) * 10, none⟩), .agg #[.int .u32 x0, .int .u8 x1, .int .u32 x2, .int .u8 x3, .int .u8 x4, .int .u32 x5, .int .u32 x6, .int .u32 x7, .int .u32 x8, .slice yA yn yc], .slice (some ⟨bm, om, none⟩) ms.length c6, .int .i64 ((j : Int) + 1), .pointer (some ⟨bm, om + (j + 1) * 10, none⟩), .agg #[.int .u32 x0, .int .u8 x1, .int .u32 x2, .int .u8 x3, .int .u8 x4, .int .u32 x5, .int .u32 x6, .int .u32 x7, .int .u32 x8, .slice xA xn xc], .int .i64 0, .bool false, .bool false, .bool false, .slice (some ⟨bg, og, none⟩) ys.length c7, .int .i64 ((j : Int) + 1), .pointer (some ⟨bg, og + (j + 1) * 10, none⟩), .pointer (some ⟨bg, og + (j + 1) * 10, none⟩), .agg #[.int .u32 x0, .int .u8 x1], .slice (some ⟨bm, om, none⟩) ms.length c6, .int .i64 ((j : Int) + 1), .pointer (some ⟨bm, om + (j + 1) * 10, none⟩), .pointer (some ⟨bm, om + (j + 1) * 10, none⟩), .agg #[.int .u32 x0, .int .u8 x1], .bool false, .bool false]) hmix (by kernel_rfl) rfl (by decide) (by kernel_rfl) (fun _ _ _ _ _ _ h => h) (Below.refl _ _).drew ?_ ?_
              · intro t w' a' hI ha j' hlt' hd
                simp only [putFrom, Act.put, Nat.reduceAdd, List.setIfInBounds_toArray, List.set_cons_zero, List.set_cons_succ] at ha
                subst ha
                replace hlt' : j' < 76 := hlt'
                have hzw := hI.size
                have hJ := hBr.trans (hI.mono hz8)
                rcases (show j' = 0 ∨ j' = 1 ∨ j' = 2 ∨ j' = 3 ∨ j' = 4 ∨ j' = 5 ∨ j' = 6 ∨ j' = 7 ∨ j' = 8 ∨ j' = 9 ∨ j' = 10 ∨ j' = 11 ∨ j' = 12 ∨ j' = 13 ∨ j' = 14 ∨ j' = 15 ∨ j' = 16 ∨ j' = 17 ∨ j' = 18 ∨ j' = 19 ∨ j' = 20 ∨ j' = 21 ∨ j' = 22 ∨ j' = 23 ∨ j' = 24 ∨ j' = 25 ∨ j' = 26 ∨ j' = 27 ∨ j' = 28 ∨ j' = 29 ∨ j' = 30 ∨ j' = 31 ∨ j' = 32 ∨ j' = 33 ∨ j' = 34 ∨ j' = 35 ∨ j' = 36 ∨ j' = 37 ∨ j' = 38 ∨ j' = 39 ∨ j' = 40 ∨ j' = 41 ∨ j' = 42 ∨ j' = 43 ∨ j' = 44 ∨ j' = 45 ∨ j' = 46 ∨ j' = 47 ∨ j' = 48 ∨ j' = 49 ∨ j' = 50 ∨ j' = 51 ∨ j' = 52 ∨ j' = 53 ∨ j' = 54 ∨ j' = 55 ∨ j' = 56 ∨ j' = 57 ∨ j' = 58 ∨ j' = 59 ∨ j' = 60 ∨ j' = 61 ∨ j' = 62 ∨ j' = 63 ∨ j' = 64 ∨ j' = 65 ∨ j' = 66 ∨ j' = 67 ∨ j' = 68 ∨ j' = 69 ∨ j' = 70 ∨ j' = 71 ∨ j' = 72 ∨ j' = 73 ∨ j' = 74 ∨ j' = 75 by omega) with rfl | rfl | rfl | rfl | rfl | rfl | rfl | rfl | rfl | rfl | rfl | rfl | rfl | rfl | rfl | rfl | rfl | rfl | rfl | rfl | rfl | rfl | rfl | rfl | rfl | rfl | rfl | rfl | rfl | rfl | rfl | rfl | rfl | rfl | rfl | rfl | rfl | rfl | rfl | rfl | rfl | rfl | rfl | rfl | rfl | rfl | rfl | rfl | rfl | rfl | rfl | rfl | rfl | rfl | rfl | rfl | rfl | rfl | rfl | rfl | rfl | rfl | rfl | rfl | rfl | rfl | rfl | rfl | rfl | rfl | rfl | rfl | rfl | rfl | rfl | rfl
                · refine wpOp_step rfl (fun K' hK => ?_)
                  replace hK := Lib.hid hK
                  go_wp2
                  exact hK.out _ _ ⟨_, (by simp only [Act.put, List.getElem?_cons_zero, Option.getD_some, List.setIfInBounds_toArray, List.set_cons_zero, List.set_cons_succ]), hI, Below.refl _ _, rfl⟩
                · have d0 : t 0 = .int .i64 ((j : Int) + 1) := (Option.some.inj (hd 0 (by kernel_rfl))).symm
                  rw [d0]
                  refine wpOp_step rfl (fun K' hK => ?_)
                  replace hK := Lib.hid hK
                  go_wp2
                  exact hK.out _ _ ⟨_, (by simp only [Act.put, List.getElem?_cons_zero, List.getElem?_cons_succ, Option.getD_some, List.setIfInBounds_toArray, List.set_cons_zero, List.set_cons_succ]), hI, Below.refl _ _, rfl⟩
                · have d1 : t 1 = .bool true := (Option.some.inj (hd 1 (by kernel_rfl))).symm
                  rw [d1]
                  refine wpOp_step rfl (fun K' hK => ?_)
                  replace hK := Lib.hid hK
                  go_wp2
                  exact hK.out _ _ ⟨_, (by simp only [Act.put, List.getElem?_cons_zero, List.getElem?_cons_succ, Option.getD_some, List.setIfInBounds_toArray, List.set_cons_zero, List.set_cons_succ]), hI, Below.refl _ _, rfl⟩
                · have d2 : t 2 = .bool true := (Option.some.inj (hd 2 (by kernel_rfl))).symm
                  rw [d2]
                  refine wpOp_step rfl (fun K' hK => ?_)
                  replace hK := Lib.hid hK
                  go_wp2
                  exact hK.out _ _ ⟨_, (by simp only [Act.put, List.getElem?_cons_zero, List.getElem?_cons_succ, Option.getD_some, List.setIfInBounds_toArray, List.set_cons_zero, List.set_cons_succ]), hI, Below.refl _ _, rfl⟩
                · have d2 : t 2 = .bool true := (Option.some.inj (hd 2 (by kernel_rfl))).symm
                  rw [d2]
                  refine wpOp_step rfl (fun K' hK => ?_)
                  replace hK := Lib.hid hK
                  go_wp2
                  exact hK.out _ _ ⟨_, (by simp only [Act.put, List.getElem?_cons_zero, List.getElem?_cons_succ, Option.getD_some, List.setIfInBounds_toArray, List.set_cons_zero, List.set_cons_succ]), hI, Below.refl _ _, rfl⟩
                · have d4 : t 4 = .int .i64 ((j : Int) + 1) := (Option.some.inj (hd 4 (by kernel_rfl))).symm
                  rw [d4]
                  have d2 : t 2 = .bool true := (Option.some.inj (hd 2 (by kernel_rfl))).symm
                  rw [d2]
                  refine wpOp_step rfl (fun K' hK => ?_)
                  replace hK := Lib.hid hK
                  go_wp2
                  exact hK.out _ _ ⟨_, (by simp only [Act.put, List.getElem?_cons_zero, List.getElem?_cons_succ, Option.getD_some, List.setIfInBounds_toArray, List.set_cons_zero, List.set_cons_succ]), hI, Below.refl _ _, rfl⟩
                · have d3 : t 3 = .slice (some ⟨bm, om, none⟩) ms.length c6 := (Option.some.inj (hd 3 (by kernel_rfl))).symm
                  rw [d3]
                  have d5 : t 5 = .int .i64 j := (Option.some.inj (hd 5 (by kernel_rfl))).symm
                  rw [d5]
                  have d2 : t 2 = .bool true := (Option.some.inj (hd 2 (by kernel_rfl))).symm
                  rw [d2]
                  refine wpOp_step rfl (fun K' hK => ?_)
                  replace hK := Lib.hid hK
                  go_wp2
                  exact hK.out _ _ ⟨_, (by simp only [Act.put, List.getElem?_cons_zero, List.getElem?_cons_succ, Option.getD_some, List.setIfInBounds_toArray, List.set_cons_zero, List.set_cons_succ]), hI, Below.refl _ _, rfl⟩
                · have d6 : t 6 = .pointer (some ⟨bm, om + j * 10, none⟩) := (Option.some.inj (hd 6 (by kernel_rfl))).symm
                  rw [d6]
                  have d2 : t 2 = .bool true := (Option.some.inj (hd 2 (by kernel_rfl))).symm
                  rw [d2]
                  refine wpOp_step rfl (fun K' hK => ?_)
                  replace hK := Lib.hid hK
                  go_wp2
                  exact hK.out _ _ ⟨_, (by simp only [Act.put, List.getElem?_cons_zero, List.getElem?_cons_succ, Option.getD_some, List.setIfInBounds_toArray, List.set_cons_zero, List.set_cons_succ]), hI, Below.refl _ _, rfl⟩
                · have d7 : t 7 = .pointer (some ⟨bm, om + j * 10, none⟩) := (Option.some.inj (hd 7 (by kernel_rfl))).symm
                  rw [d7]
                  have d2 : t 2 = .bool true := (Option.some.inj (hd 2 (by kernel_rfl))).symm
                  rw [d2]
                  refine wpOp_step rfl (fun K' hK => ?_)
                  replace hK := Lib.hid hK
                  go_wp2
                  exact hK.out _ _ ⟨_, (by simp only [Act.put, List.getElem?_cons_zero, List.getElem?_cons_succ, Option.getD_some, List.setIfInBounds_toArray, List.set_cons_zero, List.set_cons_succ]), hI, Below.refl _ _, rfl⟩
                · have d8 : t 8 = .pointer (some ⟨bm, om + j * 10, none⟩) := (Option.some.inj (hd 8 (by kernel_rfl))).symm
                  rw [d8]
                  have d2 : t 2 = .bool true := (Option.some.inj (hd 2 (by kernel_rfl))).symm
                  rw [d2]
                  have f0 : w'.cell? ⟨bm, om + j * 10, none⟩ = some (.int .u32 p0) := gp.out w' hJ 0 _ rfl
                  refine wpOp_step rfl (fun K' hK => ?_)
                  replace hK := Lib.hid hK
                  go_wp2
                  exact hK.out _ _ ⟨_, (by simp only [Act.put, List.getElem?_cons_zero, List.getElem?_cons_succ, Option.getD_some, List.setIfInBounds_toArray, List.set_cons_zero, List.set_cons_succ]), hI, Below.refl _ _, rfl⟩
                · have d2 : t 2 = .bool true := (Option.some.inj (hd 2 (by kernel_rfl))).symm
                  rw [d2]
                  refine wpOp_step rfl (fun K' hK => ?_)
                  replace hK := Lib.hid hK
                  go_wp2
                  exact hK.out _ _ ⟨_, (by simp only [Act.put, List.getElem?_cons_zero, List.getElem?_cons_succ, Option.getD_some, List.setIfInBounds_toArray, List.set_cons_zero, List.set_cons_succ]), hI, Below.refl _ _, rfl⟩
                · have d2 : t 2 = .bool true := (Option.some.inj (hd 2 (by kernel_rfl))).symm
                  rw [d2]
                  refine wpOp_step rfl (fun K' hK => ?_)
                  replace hK := Lib.hid hK
                  go_wp2
                  exact hK.out _ _ ⟨_, (by simp only [Act.put, List.getElem?_cons_zero, List.getElem?_cons_succ, Option.getD_some, List.setIfInBounds_toArray, List.set_cons_zero, List.set_cons_succ]), hI, Below.refl _ _, rfl⟩
                · have d10 : t 10 = .slice (some ⟨bm, om, none⟩) ms.length c6 := (Option.some.inj (hd 10 (by kernel_rfl))).symm
                  rw [d10]
                  have d11 : t 11 = .int .i64 ((j : Int) + 1) := (Option.some.inj (hd 11 (by kernel_rfl))).symm
                  rw [d11]
                  have d2 : t 2 = .bool true := (Option.some.inj (hd 2 (by kernel_rfl))).symm
                  rw [d2]
                  refine wpOp_step rfl (fun K' hK => ?_)
                  replace hK := Lib.hid hK
                  go_wp2
                  exact hK.out _ _ ⟨_, (by simp only [Act.put, List.getElem?_cons_zero, List.getElem?_cons_succ, Option.getD_some, List.setIfInBounds_toArray, List.set_cons_zero, List.set_cons_succ]), hI, Below.refl _ _, rfl⟩
                · have d12 : t 12 = .pointer (some ⟨bm, om + (j + 1) * 10, none⟩) := (Option.some.inj (hd 12 (by kernel_rfl))).symm
                  rw [d12]
                  have d2 : t 2 = .bool true := (Option.some.inj (hd 2 (by kernel_rfl))).symm
                  rw [d2]
                  refine wpOp_step rfl (fun K' hK => ?_)
                  replace hK := Lib.hid hK
                  go_wp2
                  exact hK.out _ _ ⟨_, (by simp only [Act.put, List.getElem?_cons_zero, List.getElem?_cons_succ, Option.getD_some, List.setIfInBounds_toArray, List.set_cons_zero, List.set_cons_succ]), hI, Below.refl _ _, rfl⟩
                · have d13 : t 13 = .pointer (some ⟨bm, om + (j + 1) * 10, none⟩) := (Option.some.inj (hd 13 (by kernel_rfl))).symm
                  rw [d13]
                  have d2 : t 2 = .bool true := (Option.some.inj (hd 2 (by kernel_rfl))).symm
                  rw [d2]
                  refine wpOp_step rfl (fun K' hK => ?_)
                  replace hK := Lib.hid hK
                  go_wp2
                  exact hK.out _ _ ⟨_, (by simp only [Act.put, List.getElem?_cons_zero, List.getElem?_cons_succ, Option.getD_some, List.setIfInBounds_toArray, List.set_cons_zero, List.set_cons_succ]), hI, Below.refl _ _, rfl⟩
                · have d14 : t 14 = .pointer (some ⟨bm, om + (j + 1) * 10, none⟩) := (Option.some.inj (hd 14 (by kernel_rfl))).symm
                  rw [d14]
                  have d2 : t 2 = .bool true := (Option.some.inj (hd 2 (by kernel_rfl))).symm
                  rw [d2]
                  have f0 : w'.cell? ⟨bm, om + (j + 1) * 10, none⟩ = some (.int .u32 x0) := gm.out w' hJ 0 _ rfl
                  refine wpOp_step rfl (fun K' hK => ?_)
                  replace hK := Lib.hid hK
                  go_wp2
                  exact hK.out _ _ ⟨_, (by simp only [Act.put, List.getElem?_cons_zero, List.getElem?_cons_succ, Option.getD_some, List.setIfInBounds_toArray, List.set_cons_zero, List.set_cons_succ]), hI, Below.refl _ _, rfl⟩
                · have d9 : t 9 = .int .u32 p0 := (Option.some.inj (hd 9 (by kernel_rfl))).symm
                  rw [d9]
                  have d15 : t 15 = .int .u32 x0 := (Option.some.inj (hd 15 (by kernel_rfl))).symm
                  rw [d15]
                  have d2 : t 2 = .bool true := (Option.some.inj (hd 2 (by kernel_rfl))).symm
                  rw [d2]
                  refine wpOp_step rfl (fun K' hK => ?_)
                  replace hK := Lib.hid hK
                  go_wp2
                  exact hK.out _ _ ⟨_, (by simp only [Act.put, List.getElem?_cons_zero, List.getElem?_cons_succ, Option.getD_some, List.setIfInBounds_toArray, List.set_cons_zero, List.set_cons_succ]), hI, Below.refl _ _, rfl⟩
                · have d16 : t 16 = .bool true := (Option.some.inj (hd 16 (by kernel_rfl))).symm
                  rw [d16]
                  have d2 : t 2 = .bool true := (Option.some.inj (hd 2 (by kernel_rfl))).symm
                  rw [d2]
                  refine wpOp_step rfl (fun K' hK => ?_)
                  replace hK := Lib.hid hK
                  go_wp2
                  exact hK.out _ _ ⟨_, (by simp only [Act.put, List.getElem?_cons_zero, List.getElem?_cons_succ, Option.getD_some, List.setIfInBounds_toArray, List.set_cons_zero, List.set_cons_succ]), hI, Below.refl _ _, rfl⟩
                · have d17 : t 17 = .bool true := (Option.some.inj (hd 17 (by kernel_rfl))).symm
                  rw [d17]
                  refine wpOp_step rfl (fun K' hK => ?_)
                  replace hK := Lib.hid hK
                  go_wp2
                  exact hK.out _ _ ⟨_, (by simp only [Act.put, List.getElem?_cons_zero, List.getElem?_cons_succ, Option.getD_some, List.setIfInBounds_toArray, List.set_cons_zero, List.set_cons_succ]), hI, Below.refl _ _, rfl⟩
                · have d17 : t 17 = .bool true := (Option.some.inj (hd 17 (by kernel_rfl))).symm
                  rw [d17]
                  refine wpOp_step rfl (fun K' hK => ?_)
                  replace hK := Lib.hid hK
                  go_wp2
                  exact hK.out _ _ ⟨_, (by simp only [Act.put, List.getElem?_cons_zero, List.getElem?_cons_succ, Option.getD_some, List.setIfInBounds_toArray, List.set_cons_zero, List.set_cons_succ]), hI, Below.refl _ _, rfl⟩
                · have d17 : t 17 = .bool true := (Option.some.inj (hd 17 (by kernel_rfl))).symm
                  rw [d17]
                  refine wpOp_step rfl (fun K' hK => ?_)
                  replace hK := Lib.hid hK
                  go_wp2
                  exact hK.out _ _ ⟨_, (by simp only [Act.put, List.getElem?_cons_zero, List.getElem?_cons_succ, Option.getD_some, List.setIfInBounds_toArray, List.set_cons_zero, List.set_cons_succ]), hI, Below.refl _ _, rfl⟩
                · have d17 : t 17 = .bool true := (Option.some.inj (hd 17 (by kernel_rfl))).symm
                  rw [d17]
                  refine wpOp_step rfl (fun K' hK => ?_)
                  replace hK := Lib.hid hK
                  go_wp2
                  exact hK.out _ _ ⟨_, (by simp only [Act.put, List.getElem?_cons_zero, List.getElem?_cons_succ, Option.getD_some, List.setIfInBounds_toArray, List.set_cons_zero, List.set_cons_succ]), hI, Below.refl _ _, rfl⟩
                · have d17 : t 17 = .bool true := (Option.some.inj (hd 17 (by kernel_rfl))).symm
                  rw [d17]
                  refine wpOp_step rfl (fun K' hK => ?_)
                  replace hK := Lib.hid hK
                  go_wp2
                  exact hK.out _ _ ⟨_, (by simp only [Act.put, List.getElem?_cons_zero, List.getElem?_cons_succ, Option.getD_some, List.setIfInBounds_toArray, List.set_cons_zero, List.set_cons_succ]), hI, Below.refl _ _, rfl⟩
                · have d17 : t 17 = .bool true := (Option.some.inj (hd 17 (by kernel_rfl))).symm
                  rw [d17]
                  refine wpOp_step rfl (fun K' hK => ?_)
                  replace hK := Lib.hid hK
                  go_wp2
                  exact hK.out _ _ ⟨_, (by simp only [Act.put, List.getElem?_cons_zero, List.getElem?_cons_succ, Option.getD_some, List.setIfInBounds_toArray, List.set_cons_zero, List.set_cons_succ]), hI, Below.refl _ _, rfl⟩
                · have d17 : t 17 = .bool true := (Option.some.inj (hd 17 (by kernel_rfl))).symm
                  rw [d17]
                  refine wpOp_step rfl (fun K' hK => ?_)
                  replace hK := Lib.hid hK
                  go_wp2
                  exact hK.out _ _ ⟨_, (by simp only [Act.put, List.getElem?_cons_zero, List.getElem?_cons_succ, Option.getD_some, List.setIfInBounds_toArray, List.set_cons_zero, List.set_cons_succ]), hI, Below.refl _ _, rfl⟩
                · have d17 : t 17 = .bool true := (Option.some.inj (hd 17 (by kernel_rfl))).symm
                  rw [d17]
                  refine wpOp_step rfl (fun K' hK => ?_)
                  replace hK := Lib.hid hK
                  go_wp2
                  exact hK.out _ _ ⟨_, (by simp only [Act.put, List.getElem?_cons_zero, List.getElem?_cons_succ, Option.getD_some, List.setIfInBounds_toArray, List.set_cons_zero, List.set_cons_succ]), hI, Below.refl _ _, rfl⟩
                · have d17 : t 17 = .bool true := (Option.some.inj (hd 17 (by kernel_rfl))).symm
                  rw [d17]
                  refine wpOp_step rfl (fun K' hK => ?_)
                  replace hK := Lib.hid hK
                  go_wp2
                  exact hK.out _ _ ⟨_, (by simp only [Act.put, List.getElem?_cons_zero, List.getElem?_cons_succ, Option.getD_some, List.setIfInBounds_toArray, List.set_cons_zero, List.set_cons_succ]), hI, Below.refl _ _, rfl⟩
                · have d17 : t 17 = .bool true := (Option.some.inj (hd 17 (by kernel_rfl))).symm
                  rw [d17]
                  refine wpOp_step rfl (fun K' hK => ?_)
                  replace hK := Lib.hid hK
                  go_wp2
                  exact hK.out _ _ ⟨_, (by simp only [Act.put, List.getElem?_cons_zero, List.getElem?_cons_succ, Option.getD_some, List.setIfInBounds_toArray, List.set_cons_zero, List.set_cons_succ]), hI, Below.refl _ _, rfl⟩
                · have d17 : t 17 = .bool true := (Option.some.inj (hd 17 (by kernel_rfl))).symm
                  rw [d17]
                  refine wpOp_step rfl (fun K' hK => ?_)
                  replace hK := Lib.hid hK
                  go_wp2
                  exact hK.out _ _ ⟨_, (by simp only [Act.put, List.getElem?_cons_zero, List.getElem?_cons_succ, Option.getD_some, List.setIfInBounds_toArray, List.set_cons_zero, List.set_cons_succ]), hI, Below.refl _ _, rfl⟩
                · have d17 : t 17 = .bool true := (Option.some.inj (hd 17 (by kernel_rfl))).symm
                  rw [d17]
                  refine wpOp_step rfl (fun K' hK => ?_)
                  replace hK := Lib.hid hK
                  go_wp2
                  exact hK.out _ _ ⟨_, (by simp only [Act.put, List.getElem?_cons_zero, List.getElem?_cons_succ, Option.getD_some, List.setIfInBounds_toArray, List.set_cons_zero, List.set_cons_succ]), hI, Below.refl _ _, rfl⟩
                · have d17 : t 17 = .bool true := (Option.some.inj (hd 17 (by kernel_rfl))).symm
                  rw [d17]
                  refine wpOp_step rfl (fun K' hK => ?_)
                  replace hK := Lib.hid hK
                  go_wp2
                  exact hK.out _ _ ⟨_, (by simp only [Act.put, List.getElem?_cons_zero, List.getElem?_cons_succ, Option.getD_some, List.setIfInBounds_toArray, List.set_cons_zero, List.set_cons_succ]), hI, Below.refl _ _, rfl⟩
                · have d17 : t 17 = .bool true := (Option.some.inj (hd 17 (by kernel_rfl))).symm
                  rw [d17]
                  refine wpOp_step rfl (fun K' hK => ?_)
                  replace hK := Lib.hid hK
                  go_wp2
                  exact hK.out _ _ ⟨_, (by simp only [Act.put, List.getElem?_cons_zero, List.getElem?_cons_succ, Option.getD_some, List.setIfInBounds_toArray, List.set_cons_zero, List.set_cons_succ]), hI, Below.refl _ _, rfl⟩
                · have d17 : t 17 = .bool true := (Option.some.inj (hd 17 (by kernel_rfl))).symm
                  rw [d17]
                  refine wpOp_step rfl (fun K' hK => ?_)
                  replace hK := Lib.hid hK
                  go_wp2
                  exact hK.out _ _ ⟨_, (by simp only [Act.put, List.getElem?_cons_zero, List.getElem?_cons_succ, Option.getD_some, List.setIfInBounds_toArray, List.set_cons_zero, List.set_cons_succ]), hI, Below.refl _ _, rfl⟩
                · have d32 : t 32 = undef := (Option.some.inj (hd 32 (by kernel_rfl))).symm
                  rw [d32]
                  refine wpOp_step rfl (fun K' hK => ?_)
                  replace hK := Lib.hid hK
                  go_wp2
                  exact hK.out _ _ ⟨_, (by simp only [Act.put, List.getElem?_cons_zero, List.getElem?_cons_succ, Option.getD_some, List.setIfInBounds_toArray, List.set_cons_zero, List.set_cons_succ]), hI, Below.refl _ _, rfl⟩
                · have d32 : t 32 = undef := (Option.some.inj (hd 32 (by kernel_rfl))).symm
                  rw [d32]
                  refine wpOp_step rfl (fun K' hK => ?_)
                  replace hK := Lib.hid hK
                  go_wp2
                  exact hK.out _ _ ⟨_, (by simp only [Act.put, List.getElem?_cons_zero, List.getElem?_cons_succ, Option.getD_some, List.setIfInBounds_toArray, List.set_cons_zero, List.set_cons_succ]), hI, Below.refl _ _, rfl⟩
                · have d32 : t 32 = undef := (Option.some.inj (hd 32 (by kernel_rfl))).symm
                  rw [d32]
                  refine wpOp_step rfl (fun K' hK => ?_)
                  replace hK := Lib.hid hK
                  go_wp2
                  exact hK.out _ _ ⟨_, (by simp only [Act.put, List.getElem?_cons_zero, List.getElem?_cons_succ, Option.getD_some, List.setIfInBounds_toArray, List.set_cons_zero, List.set_cons_succ]), hI, Below.refl _ _, rfl⟩
                · have d32 : t 32 = undef := (Option.some.inj (hd 32 (by kernel_rfl))).symm
                  rw [d32]
                  refine wpOp_step rfl (fun K' hK => ?_)
                  replace hK := Lib.hid hK
                  go_wp2
                  exact hK.out _ _ ⟨_, (by simp only [Act.put, List.getElem?_cons_zero, List.getElem?_cons_succ, Option.getD_some, List.setIfInBounds_toArray, List.set_cons_zero, List.set_cons_succ]), hI, Below.refl _ _, rfl⟩
                · have d32 : t 32 = undef := (Option.some.inj (hd 32 (by kernel_rfl))).symm
                  rw [d32]
                  refine wpOp_step rfl (fun K' hK => ?_)
                  replace hK := Lib.hid hK
                  go_wp2
                  exact hK.out _ _ ⟨_, (by simp only [Act.put, List.getElem?_cons_zero, List.getElem?_cons_succ, Option.getD_some, List.setIfInBounds_toArray, List.set_cons_zero, List.set_cons_succ]), hI, Below.refl _ _, rfl⟩
                · have d32 : t 32 = undef := (Option.some.inj (hd 32 (by kernel_rfl))).symm
                  rw [d32]
                  refine wpOp_step rfl (fun K' hK => ?_)
                  replace hK := Lib.hid hK
                  go_wp2
                  exact hK.out _ _ ⟨_, (by simp only [Act.put, List.getElem?_cons_zero, List.getElem?_cons_succ, Option.getD_some, List.setIfInBounds_toArray, List.set_cons_zero, List.set_cons_succ]), hI, Below.refl _ _, rfl⟩
                · have d32 : t 32 = undef := (Option.some.inj (hd 32 (by kernel_rfl))).symm
                  rw [d32]
                  refine wpOp_step rfl (fun K' hK => ?_)
                  replace hK := Lib.hid hK
                  go_wp2
                  exact hK.out _ _ ⟨_, (by simp only [Act.put, List.getElem?_cons_zero, List.getElem?_cons_succ, Option.getD_some, List.setIfInBounds_toArray, List.set_cons_zero, List.set_cons_succ]), hI, Below.refl _ _, rfl⟩
                · have d32 : t 32 = undef := (Option.some.inj (hd 32 (by kernel_rfl))).symm
                  rw [d32]
                  refine wpOp_step rfl (fun K' hK => ?_)
                  replace hK := Lib.hid hK
                  go_wp2
                  exact hK.out _ _ ⟨_, (by simp only [Act.put, List.getElem?_cons_zero, List.getElem?_cons_succ, Option.getD_some, List.setIfInBounds_toArray, List.set_cons_zero, List.set_cons_succ]), hI, Below.refl _ _, rfl⟩
                · have d32 : t 32 = undef := (Option.some.inj (hd 32 (by kernel_rfl))).symm
                  rw [d32]
                  refine wpOp_step rfl (fun K' hK => ?_)
                  replace hK := Lib.hid hK
                  go_wp2
                  exact hK.out _ _ ⟨_, (by simp only [Act.put, List.getElem?_cons_zero, List.getElem?_cons_succ, Option.getD_some, List.setIfInBounds_toArray, List.set_cons_zero, List.set_cons_succ]), hI, Below.refl _ _, rfl⟩
                · have d32 : t 32 = undef := (Option.some.inj (hd 32 (by kernel_rfl))).symm
                  rw [d32]
                  refine wpOp_step rfl (fun K' hK => ?_)
                  replace hK := Lib.hid hK
                  go_wp2
                  exact hK.out _ _ ⟨_, (by simp only [Act.put, List.getElem?_cons_zero, List.getElem?_cons_succ, Option.getD_some, List.setIfInBounds_toArray, List.set_cons_zero, List.set_cons_succ]), hI, Below.refl _ _, rfl⟩
                · have d32 : t 32 = undef := (Option.some.inj (hd 32 (by kernel_rfl))).symm
                  rw [d32]
                  refine wpOp_step rfl (fun K' hK => ?_)
                  replace hK := Lib.hid hK
                  go_wp2
                  exact hK.out _ _ ⟨_, (by simp only [Act.put, List.getElem?_cons_zero, List.getElem?_cons_succ, Option.getD_some, List.setIfInBounds_toArray, List.set_cons_zero, List.set_cons_succ]), hI, Below.refl _ _, rfl⟩
                · have d32 : t 32 = undef := (Option.some.inj (hd 32 (by kernel_rfl))).symm
                  rw [d32]
                  refine wpOp_step rfl (fun K' hK => ?_)
                  replace hK := Lib.hid hK
                  go_wp2
                  exact hK.out _ _ ⟨_, (by simp only [Act.put, List.getElem?_cons_zero, List.getElem?_cons_succ, Option.getD_some, List.setIfInBounds_toArray, List.set_cons_zero, List.set_cons_succ]), hI, Below.refl _ _, rfl⟩
                · have d32 : t 32 = undef := (Option.some.inj (hd 32 (by kernel_rfl))).symm
                  rw [d32]
                  refine wpOp_step rfl (fun K' hK => ?_)
                  replace hK := Lib.hid hK
                  go_wp2
                  exact hK.out _ _ ⟨_, (by simp only [Act.put, List.getElem?_cons_zero, List.getElem?_cons_succ, Option.getD_some, List.setIfInBounds_toArray, List.set_cons_zero, List.set_cons_succ]), hI, Below.refl _ _, rfl⟩
                · have d32 : t 32 = undef := (Option.some.inj (hd 32 (by kernel_rfl))).symm
                  rw [d32]
                  refine wpOp_step rfl (fun K' hK => ?_)
                  replace hK := Lib.hid hK
                  go_wp2
                  exact hK.out _ _ ⟨_, (by simp only [Act.put, List.getElem?_cons_zero, List.getElem?_cons_succ, Option.getD_some, List.setIfInBounds_toArray, List.set_cons_zero, List.set_cons_succ]), hI, Below.refl _ _, rfl⟩
                · have d17 : t 17 = .bool true := (Option.some.inj (hd 17 (by kernel_rfl))).symm
                  rw [d17]
                  refine wpOp_step rfl (fun K' hK => ?_)
                  replace hK := Lib.hid hK
                  go_wp2
                  exact hK.out _ _ ⟨_, (by simp only [Act.put, List.getElem?_cons_zero, List.getElem?_cons_succ, Option.getD_some, List.setIfInBounds_toArray, List.set_cons_zero, List.set_cons_succ]), hI, Below.refl _ _, rfl⟩
                · have d17 : t 17 = .bool true := (Option.some.inj (hd 17 (by kernel_rfl))).symm
                  rw [d17]
                  have d47 : t 47 = undef := (Option.some.inj (hd 47 (by kernel_rfl))).symm
                  rw [d47]
                  have d2 : t 2 = .bool true := (Option.some.inj (hd 2 (by kernel_rfl))).symm
                  rw [d2]
                  refine wpOp_step rfl (fun K' hK => ?_)
                  replace hK := Lib.hid hK
                  go_wp2
                  exact hK.out _ _ ⟨_, (by simp only [Act.put, List.getElem?_cons_zero, List.getElem?_cons_succ, Option.getD_some, List.setIfInBounds_toArray, List.set_cons_zero, List.set_cons_succ]), hI, Below.refl _ _, rfl⟩
                · have d48 : t 48 = .bool true := (Option.some.inj (hd 48 (by kernel_rfl))).symm
                  rw [d48]
                  have d2 : t 2 = .bool true := (Option.some.inj (hd 2 (by kernel_rfl))).symm
                  rw [d2]
                  refine wpOp_step rfl (fun K' hK => ?_)
                  replace hK := Lib.hid hK
                  go_wp2
                  exact hK.out _ _ ⟨_, (by simp only [Act.put, List.getElem?_cons_zero, List.getElem?_cons_succ, Option.getD_some, List.setIfInBounds_toArray, List.set_cons_zero, List.set_cons_succ]), hI, Below.refl _ _, rfl⟩
                · have d2 : t 2 = .bool true := (Option.some.inj (hd 2 (by kernel_rfl))).symm
                  rw [d2]
                  have d49 : t 49 = .bool false := (Option.some.inj (hd 49 (by kernel_rfl))).symm
                  rw [d49]
                  refine wpOp_step rfl (fun K' hK => ?_)
                  replace hK := Lib.hid hK
                  go_wp2
                  exact hK.out _ _ ⟨_, (by simp only [Act.put, List.getElem?_cons_zero, List.getElem?_cons_succ, Option.getD_some, List.setIfInBounds_toArray, List.set_cons_zero, List.set_cons_succ]), hI, Below.refl _ _, rfl⟩
                · have d50 : t 50 = .bool false := (Option.some.inj (hd 50 (by kernel_rfl))).symm
                  rw [d50]
                  refine wpOp_step rfl (fun K' hK => ?_)
                  replace hK := Lib.hid hK
                  go_wp2
                  exact hK.out _ _ ⟨_, (by simp only [Act.put, List.getElem?_cons_zero, List.getElem?_cons_succ, Option.getD_some, List.setIfInBounds_toArray, List.set_cons_zero, List.set_cons_succ]), hI, Below.refl _ _, rfl⟩
                · have d51 : t 51 = .bool false := (Option.some.inj (hd 51 (by kernel_rfl))).symm
                  rw [d51]
                  refine wpOp_step rfl (fun K' hK => ?_)
                  replace hK := Lib.hid hK
                  go_wp2
                  exact hK.out _ _ ⟨_, (by simp only [Act.put, List.getElem?_cons_zero, List.getElem?_cons_succ, Option.getD_some, List.setIfInBounds_toArray, List.set_cons_zero, List.set_cons_succ]), hI, Below.refl _ _, rfl⟩
                · have d51 : t 51 = .bool false := (Option.some.inj (hd 51 (by kernel_rfl))).symm
                  rw [d51]
                  refine wpOp_step rfl (fun K' hK => ?_)
                  replace hK := Lib.hid hK
                  go_wp2
                  exact hK.out _ _ ⟨_, (by simp only [Act.put, List.getElem?_cons_zero, List.getElem?_cons_succ, Option.getD_some, List.setIfInBounds_toArray, List.set_cons_zero, List.set_cons_succ]), hI, Below.refl _ _, rfl⟩
                · have d52 : t 52 = .slice (some ⟨bg, og, none⟩) ys.length c7 := (Option.some.inj (hd 52 (by kernel_rfl))).symm
                  rw [d52]
                  have d53 : t 53 = .int .i64 ((j : Int) + 1) := (Option.some.inj (hd 53 (by kernel_rfl))).symm
                  rw [d53]
                  have d51 : t 51 = .bool false := (Option.some.inj (hd 51 (by kernel_rfl))).symm
                  rw [d51]
                  refine wpOp_step rfl (fun K' hK => ?_)
                  replace hK := Lib.hid hK
                  go_wp2
                  exact hK.out _ _ ⟨_, (by simp only [Act.put, List.getElem?_cons_zero, List.getElem?_cons_succ, Option.getD_some, List.setIfInBounds_toArray, List.set_cons_zero, List.set_cons_succ]), hI, Below.refl _ _, rfl⟩
                · have d54 : t 54 = .pointer (some ⟨bg, og + (j + 1) * 10, none⟩) := (Option.some.inj (hd 54 (by kernel_rfl))).symm
                  rw [d54]
                  have d51 : t 51 = .bool false := (Option.some.inj (hd 51 (by kernel_rfl))).symm
                  rw [d51]
                  have f0 : w'.cell? ⟨bg, og + (j + 1) * 10, none⟩ = some (.int .u32 x0) := gg.out w' hJ 0 _ rfl
                  have f1 : w'.cell? ⟨bg, og + (j + 1) * 10 + 1, none⟩ = some (.int .u8 x1) := gg.out w' hJ 1 _ rfl
                  have f2 : w'.cell? ⟨bg, og + (j + 1) * 10 + 2, none⟩ = some (.int .u32 x2) := gg.out w' hJ 2 _ rfl
                  have f3 : w'.cell? ⟨bg, og + (j + 1) * 10 + 3, none⟩ = some (.int .u8 x3) := gg.out w' hJ 3 _ rfl
                  have f4 : w'.cell? ⟨bg, og + (j + 1) * 10 + 4, none⟩ = some (.int .u8 x4) := gg.out w' hJ 4 _ rfl
                  have f5 : w'.cell? ⟨bg, og + (j + 1) * 10 + 5, none⟩ = some (.int .u32 x5) := gg.out w' hJ 5 _ rfl
                  have f6 : w'.cell? ⟨bg, og + (j + 1) * 10 + 6, none⟩ = some (.int .u32 x6) := gg.out w' hJ 6 _ rfl
                  have f7 : w'.cell? ⟨bg, og + (j + 1) * 10 + 7, none⟩ = some (.int .u32 x7) := gg.out w' hJ 7 _ rfl
                  have f8 : w'.cell? ⟨bg, og + (j + 1) * 10 + 8, none⟩ = some (.int .u32 x8) := gg.out w' hJ 8 _ rfl
                  have f9 : w'.cell? ⟨bg, og + (j + 1) * 10 + 9, none⟩ = some (.slice yA yn yc) := gg.out w' hJ 9 _ rfl
                  refine wpOp_step rfl (fun K' hK => ?_)
                  replace hK := Lib.hid hK
                  go_wp2
                  exact hK.out _ _ ⟨_, (by simp only [Act.put, List.getElem?_cons_zero, List.getElem?_cons_succ, Option.getD_some, List.setIfInBounds_toArray, List.set_cons_zero, List.set_cons_succ]), hI, Below.refl _ _, rfl⟩
                · have d51 : t 51 = .bool false := (Option.some.inj (hd 51 (by kernel_rfl))).symm
                  rw [d51]
                  refine wpOp_step rfl (fun K' hK => ?_)
                  replace hK := Lib.hid hK
                  go_wp2
                  exact hK.out _ _ ⟨_, (by simp only [Act.put, List.getElem?_cons_zero, List.getElem?_cons_succ, Option.getD_some, List.setIfInBounds_toArray, List.set_cons_zero, List.set_cons_succ]), hI, Below.refl _ _, rfl⟩
                · have d51 : t 51 = .bool false := (Option.some.inj (hd 51 (by kernel_rfl))).symm
                  rw [d51]
                  refine wpOp_step rfl (fun K' hK => ?_)
                  replace hK := Lib.hid hK
                  go_wp2
                  exact hK.out _ _ ⟨_, (by simp only [Act.put, List.getElem?_cons_zero, List.getElem?_cons_succ, Option.getD_some, List.setIfInBounds_toArray, List.set_cons_zero, List.set_cons_succ]), hI, Below.refl _ _, rfl⟩
                · have d56 : t 56 = .slice (some ⟨bm, om, none⟩) ms.length c6 := (Option.some.inj (hd 56 (by kernel_rfl))).symm
                  rw [d56]
                  have d57 : t 57 = .int .i64 ((j : Int) + 1) := (Option.some.inj (hd 57 (by kernel_rfl))).symm
                  rw [d57]
                  have d51 : t 51 = .bool false := (Option.some.inj (hd 51 (by kernel_rfl))).symm
                  rw [d51]
                  refine wpOp_step rfl (fun K' hK => ?_)
                  replace hK := Lib.hid hK
                  go_wp2
                  exact hK.out _ _ ⟨_, (by simp only [Act.put, List.getElem?_cons_zero, List.getElem?_cons_succ, Option.getD_some, List.setIfInBounds_toArray, List.set_cons_zero, List.set_cons_succ]), hI, Below.refl _ _, rfl⟩
                · have d58 : t 58 = .pointer (some ⟨bm, om + (j + 1) * 10, none⟩) := (Option.some.inj (hd 58 (by kernel_rfl))).symm
                  rw [d58]
                  have d51 : t 51 = .bool false := (Option.some.inj (hd 51 (by kernel_rfl))).symm
                  rw [d51]
                  have f0 : w'.cell? ⟨bm, om + (j + 1) * 10, none⟩ = some (.int .u32 x0) := gm.out w' hJ 0 _ rfl
                  have f1 : w'.cell? ⟨bm, om + (j + 1) * 10 + 1, none⟩ = some (.int .u8 x1) := gm.out w' hJ 1 _ rfl
                  have f2 : w'.cell? ⟨bm, om + (j + 1) * 10 + 2, none⟩ = some (.int .u32 x2) := gm.out w' hJ 2 _ rfl
                  have f3 : w'.cell? ⟨bm, om + (j + 1) * 10 + 3, none⟩ = some (.int .u8 x3) := gm.out w' hJ 3 _ rfl
                  have f4 : w'.cell? ⟨bm, om + (j + 1) * 10 + 4, none⟩ = some (.int .u8 x4) := gm.out w' hJ 4 _ rfl
                  have f5 : w'.cell? ⟨bm, om + (j + 1) * 10 + 5, none⟩ = some (.int .u32 x5) := gm.out w' hJ 5 _ rfl
                  have f6 : w'.cell? ⟨bm, om + (j + 1) * 10 + 6, none⟩ = some (.int .u32 x6) := gm.out w' hJ 6 _ rfl
                  have f7 : w'.cell? ⟨bm, om + (j + 1) * 10 + 7, none⟩ = some (.int .u32 x7) := gm.out w' hJ 7 _ rfl
                  have f8 : w'.cell? ⟨bm, om + (j + 1) * 10 + 8, none⟩ = some (.int .u32 x8) := gm.out w' hJ 8 _ rfl
                  have f9 : w'.cell? ⟨bm, om + (j + 1) * 10 + 9, none⟩ = some (.slice xA xn xc) := gm.out w' hJ 9 _ rfl
                  refine wpOp_step rfl (fun K' hK => ?_)
                  replace hK := Lib.hid hK
                  go_wp2
                  exact hK.out _ _ ⟨_, (by simp only [Act.put, List.getElem?_cons_zero, List.getElem?_cons_succ, Option.getD_some, List.setIfInBounds_toArray, List.set_cons_zero, List.set_cons_succ]), hI, Below.refl _ _, rfl⟩
                · have d55 : t 55 = .agg #[.int .u32 x0, .int .u8 x1, .int .u32 x2, .int .u8 x3, .int .u8 x4, .int .u32 x5, .int .u32 x6, .int .u32 x7, .int .u32 x8, .slice yA yn yc] := (Option.some.inj (hd 55 (by kernel_rfl))).symm
                  rw [d55]
                  have d59 : t 59 = .agg #[.int .u32 x0, .int .u8 x1, .int .u32 x2, .int .u8 x3, .int .u8 x4, .int .u32 x5, .int .u32 x6, .int .u32 x7, .int .u32 x8, .slice xA xn xc] := (Option.some.inj (hd 59 (by kernel_rfl))).symm
                  rw [d59]
                  have d51 : t 51 = .bool false := (Option.some.inj (hd 51 (by kernel_rfl))).symm
                  rw [d51]
                  have CC := Lib.hid (CBt.out w')
                  refine wpOp_step rfl (fun K' hK => ?_)
                  replace hK := Lib.hid hK
                  go_wp2_with (go_at_call 38; refine Calls.mono CC.out ?_; rintro e w4 ⟨rfl, hB4⟩)
                  exact hK.out _ _ ⟨_, (by simp only [Act.put, List.getElem?_cons_zero, List.getElem?_cons_succ, Option.getD_some, List.setIfInBounds_toArray, List.set_cons_zero, List.set_cons_succ]), hI.trans (hB4.mono hzw), hB4, rfl⟩
                · have d60 : t 60 = .int .i64 0 := (Option.some.inj (hd 60 (by kernel_rfl))).symm
                  rw [d60]
                  have d51 : t 51 = .bool false := (Option.some.inj (hd 51 (by kernel_rfl))).symm
                  rw [d51]
                  refine wpOp_step rfl (fun K' hK => ?_)
                  replace hK := Lib.hid hK
                  go_wp2
                  exact hK.out _ _ ⟨_, (by simp only [Act.put, List.getElem?_cons_zero, List.getElem?_cons_succ, Option.getD_some, List.setIfInBounds_toArray, List.set_cons_zero, List.set_cons_succ]), hI, Below.refl _ _, rfl⟩
                · have d51 : t 51 = .bool false := (Option.some.inj (hd 51 (by kernel_rfl))).symm
                  rw [d51]
                  have d61 : t 61 = .bool false := (Option.some.inj (hd 61 (by kernel_rfl))).symm
                  rw [d61]
                  refine wpOp_step rfl (fun K' hK => ?_)
                  replace hK := Lib.hid hK
                  go_wp2
                  exact hK.out _ _ ⟨_, (by simp only [Act.put, List.getElem?_cons_zero, List.getElem?_cons_succ, Option.getD_some, List.setIfInBounds_toArray, List.set_cons_zero, List.set_cons_succ]), hI, Below.refl _ _, rfl⟩
                · have d62 : t 62 = .bool false := (Option.some.inj (hd 62 (by kernel_rfl))).symm
                  rw [d62]
                  refine wpOp_step rfl (fun K' hK => ?_)
                  replace hK := Lib.hid hK
                  go_wp2
                  exact hK.out _ _ ⟨_, (by simp only [Act.put, List.getElem?_cons_zero, List.getElem?_cons_succ, Option.getD_some, List.setIfInBounds_toArray, List.set_cons_zero, List.set_cons_succ]), hI, Below.refl _ _, rfl⟩
                · have d63 : t 63 = .bool false := (Option.some.inj (hd 63 (by kernel_rfl))).symm
                  rw [d63]
                  refine wpOp_step rfl (fun K' hK => ?_)
                  replace hK := Lib.hid hK
                  go_wp2
                  exact hK.out _ _ ⟨_, (by simp only [Act.put, List.getElem?_cons_zero, List.getElem?_cons_succ, Option.getD_some, List.setIfInBounds_toArray, List.set_cons_zero, List.set_cons_succ]), hI, Below.refl _ _, rfl⟩
                · have d63 : t 63 = .bool false := (Option.some.inj (hd 63 (by kernel_rfl))).symm
                  rw [d63]
                  refine wpOp_step rfl (fun K' hK => ?_)
                  replace hK := Lib.hid hK
                  go_wp2
                  exact hK.out _ _ ⟨_, (by simp only [Act.put, List.getElem?_cons_zero, List.getElem?_cons_succ, Option.getD_some, List.setIfInBounds_toArray, List.set_cons_zero, List.set_cons_succ]), hI, Below.refl _ _, rfl⟩
                · have d64 : t 64 = .slice (some ⟨bg, og, none⟩) ys.length c7 := (Option.some.inj (hd 64 (by kernel_rfl))).symm
                  rw [d64]
                  have d65 : t 65 = .int .i64 ((j : Int) + 1) := (Option.some.inj (hd 65 (by kernel_rfl))).symm
                  rw [d65]
                  have d63 : t 63 = .bool false := (Option.some.inj (hd 63 (by kernel_rfl))).symm
                  rw [d63]
                  refine wpOp_step rfl (fun K' hK => ?_)
                  replace hK := Lib.hid hK
                  go_wp2
                  exact hK.out _ _ ⟨_, (by simp only [Act.put, List.getElem?_cons_zero, List.getElem?_cons_succ, Option.getD_some, List.setIfInBounds_toArray, List.set_cons_zero, List.set_cons_succ]), hI, Below.refl _ _, rfl⟩
                · have d66 : t 66 = .pointer (some ⟨bg, og + (j + 1) * 10, none⟩) := (Option.some.inj (hd 66 (by kernel_rfl))).symm
                  rw [d66]
                  have d63 : t 63 = .bool false := (Option.some.inj (hd 63 (by kernel_rfl))).symm
                  rw [d63]
                  refine wpOp_step rfl (fun K' hK => ?_)
                  replace hK := Lib.hid hK
                  go_wp2
                  exact hK.out _ _ ⟨_, (by simp only [Act.put, List.getElem?_cons_zero, List.getElem?_cons_succ, Option.getD_some, List.setIfInBounds_toArray, List.set_cons_zero, List.set_cons_succ]), hI, Below.refl _ _, rfl⟩
                · have d67 : t 67 = .pointer (some ⟨bg, og + (j + 1) * 10, none⟩) := (Option.some.inj (hd 67 (by kernel_rfl))).symm
                  rw [d67]
                  have d63 : t 63 = .bool false := (Option.some.inj (hd 63 (by kernel_rfl))).symm
                  rw [d63]
                  have f0 : w'.cell? ⟨bg, og + (j + 1) * 10, none⟩ = some (.int .u32 x0) := gg.out w' hJ 0 _ rfl
                  have f1 : w'.cell? ⟨bg, og + (j + 1) * 10 + 1, none⟩ = some (.int .u8 x1) := gg.out w' hJ 1 _ rfl
                  refine wpOp_step rfl (fun K' hK => ?_)
                  replace hK := Lib.hid hK
                  go_wp2
                  exact hK.out _ _ ⟨_, (by simp only [Act.put, List.getElem?_cons_zero, List.getElem?_cons_succ, Option.getD_some, List.setIfInBounds_toArray, List.set_cons_zero, List.set_cons_succ]), hI, Below.refl _ _, rfl⟩
                · have d63 : t 63 = .bool false := (Option.some.inj (hd 63 (by kernel_rfl))).symm
                  rw [d63]
                  refine wpOp_step rfl (fun K' hK => ?_)
                  replace hK := Lib.hid hK
                  go_wp2
                  exact hK.out _ _ ⟨_, (by simp only [Act.put, List.getElem?_cons_zero, List.getElem?_cons_succ, Option.getD_some, List.setIfInBounds_toArray, List.set_cons_zero, List.set_cons_succ]), hI, Below.refl _ _, rfl⟩
                · have d63 : t 63 = .bool false := (Option.some.inj (hd 63 (by kernel_rfl))).symm
                  rw [d63]
                  refine wpOp_step rfl (fun K' hK => ?_)
                  replace hK := Lib.hid hK
                  go_wp2
                  exact hK.out _ _ ⟨_, (by simp only [Act.put, List.getElem?_cons_zero, List.getElem?_cons_succ, Option.getD_some, List.setIfInBounds_toArray, List.set_cons_zero, List.set_cons_succ]), hI, Below.refl _ _, rfl⟩
                · have d69 : t 69 = .slice (some ⟨bm, om, none⟩) ms.length c6 := (Option.some.inj (hd 69 (by kernel_rfl))).symm
                  rw [d69]
                  have d70 : t 70 = .int .i64 ((j : Int) + 1) := (Option.some.inj (hd 70 (by kernel_rfl))).symm
                  rw [d70]
                  have d63 : t 63 = .bool false := (Option.some.inj (hd 63 (by kernel_rfl))).symm
                  rw [d63]
                  refine wpOp_step rfl (fun K' hK => ?_)
                  replace hK := Lib.hid hK
                  go_wp2
                  exact hK.out _ _ ⟨_, (by simp only [Act.put, List.getElem?_cons_zero, List.getElem?_cons_succ, Option.getD_some, List.setIfInBounds_toArray, List.set_cons_zero, List.set_cons_succ]), hI, Below.refl _ _, rfl⟩
                · have d71 : t 71 = .pointer (some ⟨bm, om + (j + 1) * 10, none⟩) := (Option.some.inj (hd 71 (by kernel_rfl))).symm
                  rw [d71]
                  have d63 : t 63 = .bool false := (Option.some.inj (hd 63 (by kernel_rfl))).symm
                  rw [d63]
                  refine wpOp_step rfl (fun K' hK => ?_)
                  replace hK := Lib.hid hK
                  go_wp2
                  exact hK.out _ _ ⟨_, (by simp only [Act.put, List.getElem?_cons_zero, List.getElem?_cons_succ, Option.getD_some, List.setIfInBounds_toArray, List.set_cons_zero, List.set_cons_succ]), hI, Below.refl _ _, rfl⟩
                · have d72 : t 72 = .pointer (some ⟨bm, om + (j + 1) * 10, none⟩) := (Option.some.inj (hd 72 (by kernel_rfl))).symm
                  rw [d72]
                  have d63 : t 63 = .bool false := (Option.some.inj (hd 63 (by kernel_rfl))).symm
                  rw [d63]
                  have f0 : w'.cell? ⟨bm, om + (j + 1) * 10, none⟩ = some (.int .u32 x0) := gm.out w' hJ 0 _ rfl
                  have f1 : w'.cell? ⟨bm, om + (j + 1) * 10 + 1, none⟩ = some (.int .u8 x1) := gm.out w' hJ 1 _ rfl
                  refine wpOp_step rfl (fun K' hK => ?_)
                  replace hK := Lib.hid hK
                  go_wp2
                  exact hK.out _ _ ⟨_, (by simp only [Act.put, List.getElem?_cons_zero, List.getElem?_cons_succ, Option.getD_some, List.setIfInBounds_toArray, List.set_cons_zero, List.set_cons_succ]), hI, Below.refl _ _, rfl⟩
                · have d68 : t 68 = .agg #[.int .u32 x0, .int .u8 x1] := (Option.some.inj (hd 68 (by kernel_rfl))).symm
                  rw [d68]
                  have d73 : t 73 = .agg #[.int .u32 x0, .int .u8 x1] := (Option.some.inj (hd 73 (by kernel_rfl))).symm
                  rw [d73]
                  have d63 : t 63 = .bool false := (Option.some.inj (hd 63 (by kernel_rfl))).symm
                  rw [d63]
                  refine wpOp_step rfl (fun K' hK => ?_)
                  replace hK := Lib.hid hK
                  go_wp2
                  exact hK.out _ _ ⟨_, (by simp only [Act.put, List.getElem?_cons_zero, List.getElem?_cons_succ, Option.getD_some, List.setIfInBounds_toArray, List.set_cons_zero, List.set_cons_succ]), hI, Below.refl _ _, rfl⟩
                · have d63 : t 63 = .bool false := (Option.some.inj (hd 63 (by kernel_rfl))).symm
                  rw [d63]
                  have d74 : t 74 = .bool false := (Option.some.inj (hd 74 (by kernel_rfl))).symm
                  rw [d74]
                  refine wpOp_step rfl (fun K' hK => ?_)
                  replace hK := Lib.hid hK
                  go_wp2
                  exact hK.out _ _ ⟨_, (by simp only [Act.put, List.getElem?_cons_zero, List.getElem?_cons_succ, Option.getD_some, List.setIfInBounds_toArray, List.set_cons_zero, List.set_cons_succ]), hI, Below.refl _ _, rfl⟩
              · intro t w' a' hI ha hv
                simp only [putFrom, Act.put, Nat.reduceAdd, List.setIfInBounds_toArray, List.set_cons_zero, List.set_cons_succ] at ha
                subst ha
                have dl : t 75 = .bool false := (Option.some.inj (hv 75 (by decide))).symm
                rw [dl]
                clear hv dl
                go_wp2_with fail
                go_roundg (ms.length - (j + 1 + 1))
                case measure => omega
                case rel => exact ⟨j + 1 + 1, by omega, rfl, by go_num, hBr.trans (hI.mono hz8)⟩
            · obtain ⟨rfl, hlt1⟩ : p0 = x0 ∧ p1 < x1 := by omega
              have hnx : ¬ p0 < p0 := by omega
              clear hlt hlt0
              go_upto_region 12 with fail
              try dsimp only [List.append]
              refine wp_region_vals [some 43, some 44, some 45, some 46, some 47, some 48, some 49, some 50, some 51, some 52, some 53, some 54, some 55, some 56, some 57, some 58, some 59, some 60, some 61, some 62, some 63, some 64, some 65, some 66, some 67, some 68, some 69, some 70, some 71, some 72, some 73, some 74, some 75, some 76, some 77, some 78, some 79, some 80, some 81, some 82, some 83, some 84, some 85, some 86, some 87, some 88, some 89, some 90, some 91, some 92, some 93, some 94, some 95, some 96, some 97, some 98, some 99, some 100, some 101, some 102, some 103, some 104, some 105, some 106, some 107, some 108, some 109, some 110, some 111, some 112, some 113, some 114, some 115, some 116, some 117, some 118] (fun W => Below w8.heap.size w8 W) (fun W W' => Below W.heap.size W W') id (ValV [.int .i64 ((j : Int) + 1), .bool true, .bool true, .slice (some ⟨bm, om, none⟩) ms.length c6, .int .i64 ((j : Int) + 1), .int .i64 j, .pointer (some ⟨bm, om + j * 10, none⟩), .pointer (some ⟨bm, om + j * 10, none⟩), .pointer (some ⟨bm, om + j * 10, none⟩), .int .u32 p0, .slice (some ⟨bm, om, none⟩) ms.length c6, .int .i64 ((j : Int) + 1), .pointer (some ⟨bm, om + (j + 1) * 10, none⟩), .pointer (some ⟨bm, om + (j + 1) * 10, none⟩), .pointer (some ⟨bm, om + (j + 1) * 10, none⟩), .int .u32 p0, .bool false, .bool false, .slice (some ⟨bm, om, none⟩) ms.length c6, .int .i64 ((j : Int) + 1), .int .i64 j, .pointer (some ⟨bm, om + j * 10, none⟩), .pointer (some ⟨bm, om + j * 10, none⟩), .pointer (some ⟨bm, om + j * 10, none⟩), .int .u32 p0, .slice (some ⟨bm, om, none⟩) ms.length c6, .int .i64 ((j : Int) + 1), .pointer (some ⟨bm, om + (j + 1) * 10, none⟩), .pointer (some ⟨bm, om + (j + 1) * 10, none⟩), .pointer (some ⟨bm, om + (j + 1) * 10, none⟩), .int .u32 p0, .bool true, .bool true, .slice (some ⟨bm, om, none⟩) ms.length c6, .int .i64 ((j : Int) + 1), .int .i64 j, .pointer (some ⟨bm, om + j * 10, none⟩), .pointer (some ⟨bm, om + j * 10, none⟩), .pointer (some ⟨bm, om + j * 10 + 1, none⟩), .int .u8 p1, .slice (some ⟨bm, om, none⟩) ms.length c6, .int .i64 ((j : Int) + 1), .pointer (some ⟨bm, om + (j + 1) * 10, none⟩), .pointer (some ⟨bm, om + (j + 1) * 10, none⟩), .pointer (some ⟨bm, om + (j + 1) * 10 + 1, none⟩), .int .u8 x1, .bool true, .bool true, .bool true, .bool false, .bool false, .bool false, .slice (some ⟨bg, og, none⟩) ys.length c7, .int .i64 ((j : Int) + 1), .pointer (some ⟨bg, og + (j + 1) * 10, none⟩), .agg #[.int .u32 p0, .int .u8 x1, .int .u32 x2, .int .u8 x3, .int .u8 x4, .int .u32 x5, .int .u32 x6, .int .u32 x7, .int .u32 x8, .slice yA yn yc], .slice (some ⟨bm, om, none⟩) ms.length c6, .int .i64 ((j : Int) + 1), .pointer (some ⟨bm, om + (j + 1) * 10, none⟩), .agg #[.int .u32 p0, .int .u8 x1, .int .u32 x2, .int .u8 x3, .int .u8 x4, .int .u32 x5, .int .u32 x6, .int .u32 x7, .int .u32 x8, .slice xA xn xc], .int .i64 0, .bool false, .bool false, .bool false, .slice (some ⟨bg, og, none⟩) ys.length c7, .int .i64 ((j : Int) + 1), .pointer (some ⟨bg, og + (j + 1) * 10, none⟩), .pointer (some ⟨bg, og + (j + 1) * 10, none⟩), .agg #[.int .u32 p0, .int .u8 x1], .slice (some ⟨bm, om, none⟩) ms.length c6, .int .i64 ((j : Int) + 1), .pointer (some ⟨bm, om + (j + 1) * 10, none⟩), .pointer (some ⟨bm, om + (j + 1) * 10, none⟩), .agg #[.int .u32 p0, .int .u8 x1], .bool false, .bool false]) hmix (by kernel_rfl) rfl (by decide) (by kernel_rfl) (fun _ _ _ _ _ _ h => h) (Below.refl _ _).drew ?_ ?_
              · intro t w' a' hI ha j' hlt' hd
                simp only [putFrom, Act.put, Nat.reduceAdd, List.setIfInBounds_toArray, List.set_cons_zero, List.set_cons_succ] at ha
                subst ha
                replace hlt' : j' < 76 := hlt'
                have hzw := hI.size
                have hJ := hBr.trans (hI.mono hz8)
                rcases (show j' = 0 ∨ j' = 1 ∨ j' = 2 ∨ j' = 3 ∨ j' = 4 ∨ j' = 5 ∨ j' = 6 ∨ j' = 7 ∨ j' = 8 ∨ j' = 9 ∨ j' = 10 ∨ j' = 11 ∨ j' = 12 ∨ j' = 13 ∨ j' = 14 ∨ j' = 15 ∨ j' = 16 ∨ j' = 17 ∨ j' = 18 ∨ j' = 19 ∨ j' = 20 ∨ j' = 21 ∨ j' = 22 ∨ j' = 23 ∨ j' = 24 ∨ j' = 25 ∨ j' = 26 ∨ j' = 27 ∨ j' = 28 ∨ j' = 29 ∨ j' = 30 ∨ j' = 31 ∨ j' = 32 ∨ j' = 33 ∨ j' = 34 ∨ j' = 35 ∨ j' = 36 ∨ j' = 37 ∨ j' = 38 ∨ j' = 39 ∨ j' = 40 ∨ j' = 41 ∨ j' = 42 ∨ j' = 43 ∨ j' = 44 ∨ j' = 45 ∨ j' = 46 ∨ j' = 47 ∨ j' = 48 ∨ j' = 49 ∨ j' = 50 ∨ j' = 51 ∨ j' = 52 ∨ j' = 53 ∨ j' = 54 ∨ j' = 55 ∨ j' = 56 ∨ j' = 57 ∨ j' = 58 ∨ j' = 59 ∨ j' = 60 ∨ j' = 61 ∨ j' = 62 ∨ j' = 63 ∨ j' = 64 ∨ j' = 65 ∨ j' = 66 ∨ j' = 67 ∨ j' = 68 ∨ j' = 69 ∨ j' = 70 ∨ j' = 71 ∨ j' = 72 ∨ j' = 73 ∨ j' = 74 ∨ j' = 75 by omega) with rfl | rfl | rfl | rfl | rfl | rfl | rfl | rfl | rfl | rfl | rfl | rfl | rfl | rfl | rfl | rfl | rfl | rfl | rfl | rfl | rfl | rfl | rfl | rfl | rfl | rfl | rfl | rfl | rfl | rfl | rfl | rfl | rfl | rfl | rfl | rfl | rfl | rfl | rfl | rfl | rfl | rfl | rfl | rfl | rfl | rfl | rfl | rfl | rfl | rfl | rfl | rfl | rfl | rfl | rfl | rfl | rfl | rfl | rfl | rfl | rfl | rfl | rfl | rfl | rfl | rfl | rfl | rfl | rfl | rfl | rfl | rfl | rfl | rfl | rfl | rfl
                · refine wpOp_step rfl (fun K' hK => ?_)
                  replace hK := Lib.hid hK
                  go_wp2
                  exact hK.out _ _ ⟨_, (by simp only [Act.put, List.getElem?_cons_zero, Option.getD_some, List.setIfInBounds_toArray, List.set_cons_zero, List.set_cons_succ]), hI, Below.refl _ _, rfl⟩
                · have d0 : t 0 = .int .i64 ((j : Int) + 1) := (Option.some.inj (hd 0 (by kernel_rfl))).symm
                  rw [d0]
                  refine wpOp_step rfl (fun K' hK => ?_)
                  replace hK := Lib.hid hK
                  go_wp2
                  exact hK.out _ _ ⟨_, (by simp only [Act.put, List.getElem?_cons_zero, List.getElem?_cons_succ, Option.getD_some, List.setIfInBounds_toArray, List.set_cons_zero, List.set_cons_succ]), hI, Below.refl _ _, rfl⟩
                · have d1 : t 1 = .bool true := (Option.some.inj (hd 1 (by kernel_rfl))).symm
                  rw [d1]
                  refine wpOp_step rfl (fun K' hK => ?_)
                  replace hK := Lib.hid hK
                  go_wp2
                  exact hK.out _ _ ⟨_, (by simp only [Act.put, List.getElem?_cons_zero, List.getElem?_cons_succ, Option.getD_some, List.setIfInBounds_toArray, List.set_cons_zero, List.set_cons_succ]), hI, Below.refl _ _, rfl⟩
                · have d2 : t 2 = .bool true := (Option.some.inj (hd 2 (by kernel_rfl))).symm
                  rw [d2]
                  refine wpOp_step rfl (fun K' hK => ?_)
                  replace hK := Lib.hid hK
                  go_wp2
                  exact hK.out _ _ ⟨_, (by simp only [Act.put, List.getElem?_cons_zero, List.getElem?_cons_succ, Option.getD_some, List.setIfInBounds_toArray, List.set_cons_zero, List.set_cons_succ]), hI, Below.refl _ _, rfl⟩
                · have d2 : t 2 = .bool true := (Option.some.inj (hd 2 (by kernel_rfl))).symm
                  rw [d2]
                  refine wpOp_step rfl (fun K' hK => ?_)
                  replace hK := Lib.hid hK
                  go_wp2
                  exact hK.out _ _ ⟨_, (by simp only [Act.put, List.getElem?_cons_zero, List.getElem?_cons_succ, Option.getD_some, List.setIfInBounds_toArray, List.set_cons_zero, List.set_cons_succ]), hI, Below.refl _ _, rfl⟩
                · have d4 : t 4 = .int .i64 ((j : Int) + 1) := (Option.some.inj (hd 4 (by kernel_rfl))).symm
                  rw [d4]
                  have d2 : t 2 = .bool true := (Option.some.inj (hd 2 (by kernel_rfl))).symm
                  rw [d2]
                  refine wpOp_step rfl (fun K' hK => ?_)
                  replace hK := Lib.hid hK
                  go_wp2
                  exact hK.out _ _ ⟨_, (by simp only [Act.put, List.getElem?_cons_zero, List.getElem?_cons_succ, Option.getD_some, List.setIfInBounds_toArray, List.set_cons_zero, List.set_cons_succ]), hI, Below.refl _ _, rfl⟩
                · have d3 : t 3 = .slice (some ⟨bm, om, none⟩) ms.length c6 := (Option.some.inj (hd 3 (by kernel_rfl))).symm
                  rw [d3]
                  have d5 : t 5 = .int .i64 j := (Option.some.inj (hd 5 (by kernel_rfl))).symm
                  rw [d5]
                  have d2 : t 2 = .bool true := (Option.some.inj (hd 2 (by kernel_rfl))).symm
                  rw [d2]
                  refine wpOp_step rfl (fun K' hK => ?_)
                  replace hK := Lib.hid hK
                  go_wp2
                  exact hK.out _ _ ⟨_, (by simp only [Act.put, List.getElem?_cons_zero, List.getElem?_cons_succ, Option.getD_some, List.setIfInBounds_toArray, List.set_cons_zero, List.set_cons_succ]), hI, Below.refl _ _, rfl⟩
                · have d6 : t 6 = .pointer (some ⟨bm, om + j * 10, none⟩) := (Option.some.inj (hd 6 (by kernel_rfl))).symm
                  rw [d6]
                  have d2 : t 2 = .bool true := (Option.some.inj (hd 2 (by kernel_rfl))).symm
                  rw [d2]
                  refine wpOp_step rfl (fun K' hK => ?_)
                  replace hK := Lib.hid hK
                  go_wp2
                  exact hK.out _ _ ⟨_, (by simp only [Act.put, List.getElem?_cons_zero, List.getElem?_cons_succ, Option.getD_some, List.setIfInBounds_toArray, List.set_cons_zero, List.set_cons_succ]), hI, Below.refl _ _, rfl⟩
                · have d7 : t 7 = .pointer (some ⟨bm, om + j * 10, none⟩) := (Option.some.inj (hd 7 (by kernel_rfl))).symm
                  rw [d7]
                  have d2 : t 2 = .bool true := (Option.some.inj (hd 2 (by kernel_rfl))).symm
                  rw [d2]
                  refine wpOp_step rfl (fun K' hK => ?_)
                  replace hK := Lib.hid hK
                  go_wp2
                  exact hK.out _ _ ⟨_, (by simp only [Act.put, List.getElem?_cons_zero, List.getElem?_cons_succ, Option.getD_some, List.setIfInBounds_toArray, List.set_cons_zero, List.set_cons_succ]), hI, Below.refl _ _, rfl⟩
                · have d8 : t 8 = .pointer (some ⟨bm, om + j * 10, none⟩) := (Option.some.inj (hd 8 (by kernel_rfl))).symm
                  rw [d8]
                  have d2 : t 2 = .bool true := (Option.some.inj (hd 2 (by kernel_rfl))).symm
                  rw [d2]
                  have f0 : w'.cell? ⟨bm, om + j * 10, none⟩ = some (.int .u32 p0) := gp.out w' hJ 0 _ rfl
                  refine wpOp_step rfl (fun K' hK => ?_)
                  replace hK := Lib.hid hK
                  go_wp2
                  exact hK.out _ _ ⟨_, (by simp only [Act.put, List.getElem?_cons_zero, List.getElem?_cons_succ, Option.getD_some, List.setIfInBounds_toArray, List.set_cons_zero, List.set_cons_succ]), hI, Below.refl _ _, rfl⟩
                · have d2 : t 2 = .bool true := (Option.some.inj (hd 2 (by kernel_rfl))).symm
                  rw [d2]
                  refine wpOp_step rfl (fun K' hK => ?_)
                  replace hK := Lib.hid hK
                  go_wp2
                  exact hK.out _ _ ⟨_, (by simp only [Act.put, List.getElem?_cons_zero, List.getElem?_cons_succ, Option.getD_some, List.setIfInBounds_toArray, List.set_cons_zero, List.set_cons_succ]), hI, Below.refl _ _, rfl⟩
                · have d2 : t 2 = .bool true := (Option.some.inj (hd 2 (by kernel_rfl))).symm
                  rw [d2]
                  refine wpOp_step rfl (fun K' hK => ?_)
                  replace hK := Lib.hid hK
                  go_wp2
                  exact hK.out _ _ ⟨_, (by simp only [Act.put, List.getElem?_cons_zero, List.getElem?_cons_succ, Option.getD_some, List.setIfInBounds_toArray, List.set_cons_zero, List.set_cons_succ]), hI, Below.refl _ _, rfl⟩
                · have d10 : t 10 = .slice (some ⟨bm, om, none⟩) ms.length c6 := (Option.some.inj (hd 10 (by kernel_rfl))).symm
                  rw [d10]
                  have d11 : t 11 = .int .i64 ((j : Int) + 1) := (Option.some.inj (hd 11 (by kernel_rfl))).symm
                  rw [d11]
                  have d2 : t 2 = .bool true := (Option.some.inj (hd 2 (by kernel_rfl))).symm
                  rw [d2]
                  refine wpOp_step rfl (fun K' hK => ?_)
                  replace hK := Lib.hid hK
                  go_wp2
                  exact hK.out _ _ ⟨_, (by simp only [Act.put, List.getElem?_cons_zero, List.getElem?_cons_succ, Option.getD_some, List.setIfInBounds_toArray, List.set_cons_zero, List.set_cons_succ]), hI, Below.refl _ _, rfl⟩
                · have d12 : t 12 = .pointer (some ⟨bm, om + (j + 1) * 10, none⟩) := (Option.some.inj (hd 12 (by kernel_rfl))).symm
                  rw [d12]
                  have d2 : t 2 = .bool true := (Option.some.inj (hd 2 (by kernel_rfl))).symm
                  rw [d2]
                  refine wpOp_step rfl (fun K' hK => ?_)
                  replace hK := Lib.hid hK
                  go_wp2
                  exact hK.out _ _ ⟨_, (by simp only [Act.put, List.getElem?_cons_zero, List.getElem?_cons_succ, Option.getD_some, List.setIfInBounds_toArray, List.set_cons_zero, List.set_cons_succ]), hI, Below.refl _ _, rfl⟩
                · have d13 : t 13 = .pointer (some ⟨bm, om + (j + 1) * 10, none⟩) := (Option.some.inj (hd 13 (by kernel_rfl))).symm
                  rw [d13]
                  have d2 : t 2 = .bool true := (Option.some.inj (hd 2 (by kernel_rfl))).symm
                  rw [d2]
                  refine wpOp_step rfl (fun K' hK => ?_)
                  replace hK := Lib.hid hK
                  go_wp2
                  exact hK.out _ _ ⟨_, (by simp only [Act.put, List.getElem?_cons_zero, List.getElem?_cons_succ, Option.getD_some, List.setIfInBounds_toArray, List.set_cons_zero, List.set_cons_succ]), hI, Below.refl _ _, rfl⟩
                · have d14 : t 14 = .pointer (some ⟨bm, om + (j + 1) * 10, none⟩) := (Option.some.inj (hd 14 (by kernel_rfl))).symm
                  rw [d14]
                  have d2 : t 2 = .bool true := (Option.some.inj (hd 2 (by kernel_rfl))).symm
                  rw [d2]
                  have f0 : w'.cell? ⟨bm, om + (j + 1) * 10, none⟩ = some (.int .u32 p0) := gm.out w' hJ 0 _ rfl
                  refine wpOp_step rfl (fun K' hK => ?_)
                  replace hK := Lib.hid hK
                  go_wp2
                  exact hK.out _ _ ⟨_, (by simp only [Act.put, List.getElem?_cons_zero, List.getElem?_cons_succ, Option.getD_some, List.setIfInBounds_toArray, List.set_cons_zero, List.set_cons_succ]), hI, Below.refl _ _, rfl⟩
                · have d9 : t 9 = .int .u32 p0 := (Option.some.inj (hd 9 (by kernel_rfl))).symm
                  rw [d9]
                  have d15 : t 15 = .int .u32 p0 := (Option.some.inj (hd 15 (by kernel_rfl))).symm
                  rw [d15]
                  have d2 : t 2 = .bool true := (Option.some.inj (hd 2 (by kernel_rfl))).symm
                  rw [d2]
                  refine wpOp_step rfl (fun K' hK => ?_)
                  replace hK := Lib.hid hK
                  go_wp2
                  exact hK.out _ _ ⟨_, (by simp only [Act.put, List.getElem?_cons_zero, List.getElem?_cons_succ, Option.getD_some, List.setIfInBounds_toArray, List.set_cons_zero, List.set_cons_succ]), hI, Below.refl _ _, rfl⟩
                · have d16 : t 16 = .bool false := (Option.some.inj (hd 16 (by kernel_rfl))).symm
                  rw [d16]
                  have d2 : t 2 = .bool true := (Option.some.inj (hd 2 (by kernel_rfl))).symm
                  rw [d2]
                  refine wpOp_step rfl (fun K' hK => ?_)
                  replace hK := Lib.hid hK
                  go_wp2
                  exact hK.out _ _ ⟨_, (by simp only [Act.put, List.getElem?_cons_zero, List.getElem?_cons_succ, Option.getD_some, List.setIfInBounds_toArray, List.set_cons_zero, List.set_cons_succ]), hI, Below.refl _ _, rfl⟩
                · have d17 : t 17 = .bool false := (Option.some.inj (hd 17 (by kernel_rfl))).symm
                  rw [d17]
                  refine wpOp_step rfl (fun K' hK => ?_)
                  replace hK := Lib.hid hK
                  go_wp2
                  exact hK.out _ _ ⟨_, (by simp only [Act.put, List.getElem?_cons_zero, List.getElem?_cons_succ, Option.getD_some, List.setIfInBounds_toArray, List.set_cons_zero, List.set_cons_succ]), hI, Below.refl _ _, rfl⟩
                · have d17 : t 17 = .bool false := (Option.some.inj (hd 17 (by kernel_rfl))).symm
                  rw [d17]
                  refine wpOp_step rfl (fun K' hK => ?_)
                  replace hK := Lib.hid hK
                  go_wp2
                  exact hK.out _ _ ⟨_, (by simp only [Act.put, List.getElem?_cons_zero, List.getElem?_cons_succ, Option.getD_some, List.setIfInBounds_toArray, List.set_cons_zero, List.set_cons_succ]), hI, Below.refl _ _, rfl⟩
                · have d19 : t 19 = .int .i64 ((j : Int) + 1) := (Option.some.inj (hd 19 (by kernel_rfl))).symm
                  rw [d19]
                  have d17 : t 17 = .bool false := (Option.some.inj (hd 17 (by kernel_rfl))).symm
                  rw [d17]
                  refine wpOp_step rfl (fun K' hK => ?_)
                  replace hK := Lib.hid hK
                  go_wp2
                  exact hK.out _ _ ⟨_, (by simp only [Act.put, List.getElem?_cons_zero, List.getElem?_cons_succ, Option.getD_some, List.setIfInBounds_toArray, List.set_cons_zero, List.set_cons_succ]), hI, Below.refl _ _, rfl⟩
                · have d18 : t 18 = .slice (some ⟨bm, om, none⟩) ms.length c6 := (Option.some.inj (hd 18 (by kernel_rfl))).symm
                  rw [d18]
                  have d20 : t 20 = .int .i64 j := (Option.some.inj (hd 20 (by kernel_rfl))).symm
                  rw [d20]
                  have d17 : t 17 = .bool false := (Option.some.inj (hd 17 (by kernel_rfl))).symm
                  rw [d17]
                  refine wpOp_step rfl (fun K' hK => ?_)
                  replace hK := Lib.hid hK
                  go_wp2
                  exact hK.out _ _ ⟨_, (by simp only [Act.put, List.getElem?_cons_zero, List.getElem?_cons_succ, Option.getD_some, List.setIfInBounds_toArray, List.set_cons_zero, List.set_cons_succ]), hI, Below.refl _ _, rfl⟩
                · have d21 : t 21 = .pointer (some ⟨bm, om + j * 10, none⟩) := (Option.some.inj (hd 21 (by kernel_rfl))).symm
                  rw [d21]
                  have d17 : t 17 = .bool false := (Option.some.inj (hd 17 (by kernel_rfl))).symm
                  rw [d17]
                  refine wpOp_step rfl (fun K' hK => ?_)
                  replace hK := Lib.hid hK
                  go_wp2
                  exact hK.out _ _ ⟨_, (by simp only [Act.put, List.getElem?_cons_zero, List.getElem?_cons_succ, Option.getD_some, List.setIfInBounds_toArray, List.set_cons_zero, List.set_cons_succ]), hI, Below.refl _ _, rfl⟩
                · have d22 : t 22 = .pointer (some ⟨bm, om + j * 10, none⟩) := (Option.some.inj (hd 22 (by kernel_rfl))).symm
                  rw [d22]
                  have d17 : t 17 = .bool false := (Option.some.inj (hd 17 (by kernel_rfl))).symm
                  rw [d17]
                  refine wpOp_step rfl (fun K' hK => ?_)
                  replace hK := Lib.hid hK
                  go_wp2
                  exact hK.out _ _ ⟨_, (by simp only [Act.put, List.getElem?_cons_zero, List.getElem?_cons_succ, Option.getD_some, List.setIfInBounds_toArray, List.set_cons_zero, List.set_cons_succ]), hI, Below.refl _ _, rfl⟩
                · have d23 : t 23 = .pointer (some ⟨bm, om + j * 10, none⟩) := (Option.some.inj (hd 23 (by kernel_rfl))).symm
                  rw [d23]
                  have d17 : t 17 = .bool false := (Option.some.inj (hd 17 (by kernel_rfl))).symm
                  rw [d17]
                  have f0 : w'.cell? ⟨bm, om + j * 10, none⟩ = some (.int .u32 p0) := gp.out w' hJ 0 _ rfl
                  refine wpOp_step rfl (fun K' hK => ?_)
                  replace hK := Lib.hid hK
                  go_wp2
                  exact hK.out _ _ ⟨_, (by simp only [Act.put, List.getElem?_cons_zero, List.getElem?_cons_succ, Option.getD_some, List.setIfInBounds_toArray, List.set_cons_zero, List.set_cons_succ]), hI, Below.refl _ _, rfl⟩
                · have d17 : t 17 = .bool false := (Option.some.inj (hd 17 (by kernel_rfl))).symm
                  rw [d17]
                  refine wpOp_step rfl (fun K' hK => ?_)
                  replace hK := Lib.hid hK
                  go_wp2
                  exact hK.out _ _ ⟨_, (by simp only [Act.put, List.getElem?_cons_zero, List.getElem?_cons_succ, Option.getD_some, List.setIfInBounds_toArray, List.set_cons_zero, List.set_cons_succ]), hI, Below.refl _ _, rfl⟩
                · have d17 : t 17 = .bool false := (Option.some.inj (hd 17 (by kernel_rfl))).symm
                  rw [d17]
                  refine wpOp_step rfl (fun K' hK => ?_)
                  replace hK := Lib.hid hK
                  go_wp2
                  exact hK.out _ _ ⟨_, (by simp only [Act.put, List.getElem?_cons_zero, List.getElem?_cons_succ, Option.getD_some, List.setIfInBounds_toArray, List.set_cons_zero, List.set_cons_succ]), hI, Below.refl _ _, rfl⟩
                · have d25 : t 25 = .slice (some ⟨bm, om, none⟩) ms.length c6 := (Option.some.inj (hd 25 (by kernel_rfl))).symm
                  rw [d25]
                  have d26 : t 26 = .int .i64 ((j : Int) + 1) := (Option.some.inj (hd 26 (by kernel_rfl))).symm
                  rw [d26]
                  have d17 : t 17 = .bool false := (Option.some.inj (hd 17 (by kernel_rfl))).symm
                  rw [d17]
                  refine wpOp_step rfl (fun K' hK => ?_)
                  replace hK := Lib.hid hK
                  go_wp2
                  exact hK.out _ _ ⟨_, (by simp only [Act.put, List.getElem?_cons_zero, List.getElem?_cons_succ, Option.getD_some, List.setIfInBounds_toArray, List.set_cons_zero, List.set_cons_succ]), hI, Below.refl _ _, rfl⟩
                · have d27 : t 27 = .pointer (some ⟨bm, om + (j + 1) * 10, none⟩) := (Option.some.inj (hd 27 (by kernel_rfl))).symm
                  rw [d27]
                  have d17 : t 17 = .bool false := (Option.some.inj (hd 17 (by kernel_rfl))).symm
                  rw [d17]
                  refine wpOp_step rfl (fun K' hK => ?_)
                  replace hK := Lib.hid hK
                  go_wp2
                  exact hK.out _ _ ⟨_, (by simp only [Act.put, List.getElem?_cons_zero, List.getElem?_cons_succ, Option.getD_some, List.setIfInBounds_toArray, List.set_cons_zero, List.set_cons_succ]), hI, Below.refl _ _, rfl⟩
                · have d28 : t 28 = .pointer (some ⟨bm, om + (j + 1) * 10, none⟩) := (Option.some.inj (hd 28 (by kernel_rfl))).symm
                  rw [d28]
                  have d17 : t 17 = .bool false := (Option.some.inj (hd 17 (by kernel_rfl))).symm
                  rw [d17]
                  refine wpOp_step rfl (fun K' hK => ?_)
                  replace hK := Lib.hid hK
                  go_wp2
                  exact hK.out _ _ ⟨_, (by simp only [Act.put, List.getElem?_cons_zero, List.getElem?_cons_succ, Option.getD_some, List.setIfInBounds_toArray, List.set_cons_zero, List.set_cons_succ]), hI, Below.refl _ _, rfl⟩
                · have d29 : t 29 = .pointer (some ⟨bm, om + (j + 1) * 10, none⟩) := (Option.some.inj (hd 29 (by kernel_rfl))).symm
                  rw [d29]
                  have d17 : t 17 = .bool false := (Option.some.inj (hd 17 (by kernel_rfl))).symm
                  rw [d17]
                  have f0 : w'.cell? ⟨bm, om + (j + 1) * 10, none⟩ = some (.int .u32 p0) := gm.out w' hJ 0 _ rfl
                  refine wpOp_step rfl (fun K' hK => ?_)
                  replace hK := Lib.hid hK
                  go_wp2
                  exact hK.out _ _ ⟨_, (by simp only [Act.put, List.getElem?_cons_zero, List.getElem?_cons_succ, Option.getD_some, List.setIfInBounds_toArray, List.set_cons_zero, List.set_cons_succ]), hI, Below.refl _ _, rfl⟩
                · have d24 : t 24 = .int .u32 p0 := (Option.some.inj (hd 24 (by kernel_rfl))).symm
                  rw [d24]
                  have d30 : t 30 = .int .u32 p0 := (Option.some.inj (hd 30 (by kernel_rfl))).symm
                  rw [d30]
                  have d17 : t 17 = .bool false := (Option.some.inj (hd 17 (by kernel_rfl))).symm
                  rw [d17]
                  refine wpOp_step rfl (fun K' hK => ?_)
                  replace hK := Lib.hid hK
                  go_wp2
                  exact hK.out _ _ ⟨_, (by simp only [Act.put, List.getElem?_cons_zero, List.getElem?_cons_succ, Option.getD_some, List.setIfInBounds_toArray, List.set_cons_zero, List.set_cons_succ]), hI, Below.refl _ _, rfl⟩
                · have d31 : t 31 = .bool true := (Option.some.inj (hd 31 (by kernel_rfl))).symm
                  rw [d31]
                  have d17 : t 17 = .bool false := (Option.some.inj (hd 17 (by kernel_rfl))).symm
                  rw [d17]
                  refine wpOp_step rfl (fun K' hK => ?_)
                  replace hK := Lib.hid hK
                  go_wp2
                  exact hK.out _ _ ⟨_, (by simp only [Act.put, List.getElem?_cons_zero, List.getElem?_cons_succ, Option.getD_some, List.setIfInBounds_toArray, List.set_cons_zero, List.set_cons_succ]), hI, Below.refl _ _, rfl⟩
                · have d32 : t 32 = .bool true := (Option.some.inj (hd 32 (by kernel_rfl))).symm
                  rw [d32]
                  refine wpOp_step rfl (fun K' hK => ?_)
                  replace hK := Lib.hid hK
                  go_wp2
                  exact hK.out _ _ ⟨_, (by simp only [Act.put, List.getElem?_cons_zero, List.getElem?_cons_succ, Option.getD_some, List.setIfInBounds_toArray, List.set_cons_zero, List.set_cons_succ]), hI, Below.refl _ _, rfl⟩
                · have d32 : t 32 = .bool true := (Option.some.inj (hd 32 (by kernel_rfl))).symm
                  rw [d32]
                  refine wpOp_step rfl (fun K' hK => ?_)
                  replace hK := Lib.hid hK
                  go_wp2
                  exact hK.out _ _ ⟨_, (by simp only [Act.put, List.getElem?_cons_zero, List.getElem?_cons_succ, Option.getD_some, List.setIfInBounds_toArray, List.set_cons_zero, List.set_cons_succ]), hI, Below.refl _ _, rfl⟩
                · have d34 : t 34 = .int .i64 ((j : Int) + 1) := (Option.some.inj (hd 34 (by kernel_rfl))).symm
                  rw [d34]
                  have d32 : t 32 = .bool true := (Option.some.inj (hd 32 (by kernel_rfl))).symm
                  rw [d32]
                  refine wpOp_step rfl (fun K' hK => ?_)
                  replace hK := Lib.hid hK
                  go_wp2
                  exact hK.out _ _ ⟨_, (by simp only [Act.put, List.getElem?_cons_zero, List.getElem?_cons_succ, Option.getD_some, List.setIfInBounds_toArray, List.set_cons_zero, List.set_cons_succ]), hI, Below.refl _ _, rfl⟩
                · have d33 : t 33 = .slice (some ⟨bm, om, none⟩) ms.length c6 := (Option.some.inj (hd 33 (by kernel_rfl))).symm
                  rw [d33]
                  have d35 : t 35 = .int .i64 j := (Option.some.inj (hd 35 (by kernel_rfl))).symm
                  rw [d35]
                  have d32 : t 32 = .bool true := (Option.some.inj (hd 32 (by kernel_rfl))).symm
                  rw [d32]
                  refine wpOp_step rfl (fun K' hK => ?_)
                  replace hK := Lib.hid hK
                  go_wp2
                  exact hK.out _ _ ⟨_, (by simp only [Act.put, List.getElem?_cons_zero, List.getElem?_cons_succ, Option.getD_some, List.setIfInBounds_toArray, List.set_cons_zero, List.set_cons_succ]), hI, Below.refl _ _, rfl⟩
                · have d36 : t 36 = .pointer (some ⟨bm, om + j * 10, none⟩) := (Option.some.inj (hd 36 (by kernel_rfl))).symm
                  rw [d36]
                  have d32 : t 32 = .bool true := (Option.some.inj (hd 32 (by kernel_rfl))).symm
                  rw [d32]
                  refine wpOp_step rfl (fun K' hK => ?_)
                  replace hK := Lib.hid hK
                  go_wp2
                  exact hK.out _ _ ⟨_, (by simp only [Act.put, List.getElem?_cons_zero, List.getElem?_cons_succ, Option.getD_some, List.setIfInBounds_toArray, List.set_cons_zero, List.set_cons_succ]), hI, Below.refl _ _, rfl⟩
                · have d37 : t 37 = .pointer (some ⟨bm, om + j * 10, none⟩) := (Option.some.inj (hd 37 (by kernel_rfl))).symm
                  rw [d37]
                  have d32 : t 32 = .bool true := (Option.some.inj (hd 32 (by kernel_rfl))).symm
                  rw [d32]
                  refine wpOp_step rfl (fun K' hK => ?_)
                  replace hK := Lib.hid hK
                  go_wp2
                  exact hK.out _ _ ⟨_, (by simp only [Act.put, List.getElem?_cons_zero, List.getElem?_cons_succ, Option.getD_some, List.setIfInBounds_toArray, List.set_cons_zero, List.set_cons_succ]), hI, Below.refl _ _, rfl⟩
                · have d38 : t 38 = .pointer (some ⟨bm, om + j * 10 + 1, none⟩) := (Option.some.inj (hd 38 (by kernel_rfl))).symm
                  rw [d38]
                  have d32 : t 32 = .bool true := (Option.some.inj (hd 32 (by kernel_rfl))).symm
                  rw [d32]
                  have f0 : w'.cell? ⟨bm, om + j * 10 + 1, none⟩ = some (.int .u8 p1) := gp.out w' hJ 1 _ rfl
                  refine wpOp_step rfl (fun K' hK => ?_)
                  replace hK := Lib.hid hK
                  go_wp2
                  exact hK.out _ _ ⟨_, (by simp only [Act.put, List.getElem?_cons_zero, List.getElem?_cons_succ, Option.getD_some, List.setIfInBounds_toArray, List.set_cons_zero, List.set_cons_succ]), hI, Below.refl _ _, rfl⟩
                · have d32 : t 32 = .bool true := (Option.some.inj (hd 32 (by kernel_rfl))).symm
                  rw [d32]
                  refine wpOp_step rfl (fun K' hK => ?_)
                  replace hK := Lib.hid hK
                  go_wp2
                  exact hK.out _ _ ⟨_, (by simp only [Act.put, List.getElem?_cons_zero, List.getElem?_cons_succ, Option.getD_some, List.setIfInBounds_toArray, List.set_cons_zero, List.set_cons_succ]), hI, Below.refl _ _, rfl⟩
                · have d32 : t 32 = .bool true := (Option.some.inj (hd 32 (by kernel_rfl))).symm
                  rw [d32]
                  refine wpOp_step rfl (fun K' hK => ?_)
                  replace hK := Lib.hid hK
                  go_wp2
                  exact hK.out _ _ ⟨_, (by simp only [Act.put, List.getElem?_cons_zero, List.getElem?_cons_succ, Option.getD_some, List.setIfInBounds_toArray, List.set_cons_zero, List.set_cons_succ]), hI, Below.refl _ _, rfl⟩
                · have d40 : t 40 = .slice (some ⟨bm, om, none⟩) ms.length c6 := (Option.some.inj (hd 40 (by kernel_rfl))).symm
                  rw [d40]
                  have d41 : t 41 = .int .i64 ((j : Int) + 1) := (Option.some.inj (hd 41 (by kernel_rfl))).symm
                  rw [d41]
                  have d32 : t 32 = .bool true := (Option.some.inj (hd 32 (by kernel_rfl))).symm
                  rw [d32]
                  refine wpOp_step rfl (fun K' hK => ?_)
                  replace hK := Lib.hid hK
                  go_wp2
                  exact hK.out _ _ ⟨_, (by simp only [Act.put, List.getElem?_cons_zero, List.getElem?_cons_succ, Option.getD_some, List.setIfInBounds_toArray, List.set_cons_zero, List.set_cons_succ]), hI, Below.refl _ _, rfl⟩
                · have d42 : t 42 = .pointer (some ⟨bm, om + (j + 1) * 10, none⟩) := (Option.some.inj (hd 42 (by kernel_rfl))).symm
                  rw [d42]
                  have d32 : t 32 = .bool true := (Option.some.inj (hd 32 (by kernel_rfl))).symm
                  rw [d32]
                  refine wpOp_step rfl (fun K' hK => ?_)
                  replace hK := Lib.hid hK
                  go_wp2
                  exact hK.out _ _ ⟨_, (by simp only [Act.put, List.getElem?_cons_zero, List.getElem?_cons_succ, Option.getD_some, List.setIfInBounds_toArray, List.set_cons_zero, List.set_cons_succ]), hI, Below.refl _ _, rfl⟩
                · have d43 : t 43 = .pointer (some ⟨bm, om + (j + 1) * 10, none⟩) := (Option.some.inj (hd 43 (by kernel_rfl))).symm
                  rw [d43]
                  have d32 : t 32 = .bool true := (Option.some.inj (hd 32 (by kernel_rfl))).symm
                  rw [d32]
                  refine wpOp_step rfl (fun K' hK => ?_)
                  replace hK := Lib.hid hK
                  go_wp2
                  exact hK.out _ _ ⟨_, (by simp only [Act.put, List.getElem?_cons_zero, List.getElem?_cons_succ, Option.getD_some, List.setIfInBounds_toArray, List.set_cons_zero, List.set_cons_succ]), hI, Below.refl _ _, rfl⟩
                · have d44 : t 44 = .pointer (some ⟨bm, om + (j + 1) * 10 + 1, none⟩) := (Option.some.inj (hd 44 (by kernel_rfl))).symm
                  rw [d44]
                  have d32 : t 32 = .bool true := (Option.some.inj (hd 32 (by kernel_rfl))).symm
                  rw [d32]
                  have f0 : w'.cell? ⟨bm, om + (j + 1) * 10 + 1, none⟩ = some (.int .u8 x1) := gm.out w' hJ 1 _ rfl
                  refine wpOp_step rfl (fun K' hK => ?_)
                  replace hK := Lib.hid hK
                  go_wp2
                  exact hK.out _ _ ⟨_, (by simp only [Act.put, List.getElem?_cons_zero, List.getElem?_cons_succ, Option.getD_some, List.setIfInBounds_toArray, List.set_cons_zero, List.set_cons_succ]), hI, Below.refl _ _, rfl⟩
                · have d39 : t 39 = .int .u8 p1 := (Option.some.inj (hd 39 (by kernel_rfl))).symm
                  rw [d39]
                  have d45 : t 45 = .int .u8 x1 := (Option.some.inj (hd 45 (by kernel_rfl))).symm
                  rw [d45]
                  have d32 : t 32 = .bool true := (Option.some.inj (hd 32 (by kernel_rfl))).symm
                  rw [d32]
                  refine wpOp_step rfl (fun K' hK => ?_)
                  replace hK := Lib.hid hK
                  go_wp2
                  exact hK.out _ _ ⟨_, (by simp only [Act.put, List.getElem?_cons_zero, List.getElem?_cons_succ, Option.getD_some, List.setIfInBounds_toArray, List.set_cons_zero, List.set_cons_succ]), hI, Below.refl _ _, rfl⟩
                · have d32 : t 32 = .bool true := (Option.some.inj (hd 32 (by kernel_rfl))).symm
                  rw [d32]
                  have d46 : t 46 = .bool true := (Option.some.inj (hd 46 (by kernel_rfl))).symm
                  rw [d46]
                  have d17 : t 17 = .bool false := (Option.some.inj (hd 17 (by kernel_rfl))).symm
                  rw [d17]
                  refine wpOp_step rfl (fun K' hK => ?_)
                  replace hK := Lib.hid hK
                  go_wp2
                  exact hK.out _ _ ⟨_, (by simp only [Act.put, List.getElem?_cons_zero, List.getElem?_cons_succ, Option.getD_some, List.setIfInBounds_toArray, List.set_cons_zero, List.set_cons_succ]), hI, Below.refl _ _, rfl⟩
                · have d17 : t 17 = .bool false := (Option.some.inj (hd 17 (by kernel_rfl))).symm
                  rw [d17]
                  have d47 : t 47 = .bool true := (Option.some.inj (hd 47 (by kernel_rfl))).symm
                  rw [d47]
                  have d2 : t 2 = .bool true := (Option.some.inj (hd 2 (by kernel_rfl))).symm
                  rw [d2]
                  refine wpOp_step rfl (fun K' hK => ?_)
                  replace hK := Lib.hid hK
                  go_wp2
                  exact hK.out _ _ ⟨_, (by simp only [Act.put, List.getElem?_cons_zero, List.getElem?_cons_succ, Option.getD_some, List.setIfInBounds_toArray, List.set_cons_zero, List.set_cons_succ]), hI, Below.refl _ _, rfl⟩
                · have d48 : t 48 = .bool true := (Option.some.inj (hd 48 (by kernel_rfl))).symm
                  rw [d48]
                  have d2 : t 2 = .bool true := (Option.some.inj (hd 2 (by kernel_rfl))).symm
                  rw [d2]
                  refine wpOp_step rfl (fun K' hK => ?_)
                  replace hK := Lib.hid hK
                  go_wp2
                  exact hK.out _ _ ⟨_, (by simp only [Act.put, List.getElem?_cons_zero, List.getElem?_cons_succ, Option.getD_some, List.setIfInBounds_toArray, List.set_cons_zero, List.set_cons_succ]), hI, Below.refl _ _, rfl⟩
                · have d2 : t 2 = .bool true := (Option.some.inj (hd 2 (by kernel_rfl))).symm
                  rw [d2]
                  have d49 : t 49 = .bool false := (Option.some.inj (hd 49 (by kernel_rfl))).symm
                  rw [d49]
                  refine wpOp_step rfl (fun K' hK => ?_)
                  replace hK := Lib.hid hK
                  go_wp2
                  exact hK.out _ _ ⟨_, (by simp only [Act.put, List.getElem?_cons_zero, List.getElem?_cons_succ, Option.getD_some, List.setIfInBounds_toArray, List.set_cons_zero, List.set_cons_succ]), hI, Below.refl _ _, rfl⟩
                · have d50 : t 50 = .bool false := (Option.some.inj (hd 50 (by kernel_rfl))).symm
                  rw [d50]
                  refine wpOp_step rfl (fun K' hK => ?_)
                  replace hK := Lib.hid hK
                  go_wp2
                  exact hK.out _ _ ⟨_, (by simp only [Act.put, List.getElem?_cons_zero, List.getElem?_cons_succ, Option.getD_some, List.setIfInBounds_toArray, List.set_cons_zero, List.set_cons_succ]), hI, Below.refl _ _, rfl⟩
                · have d51 : t 51 = .bool false := (Option.some.inj (hd 51 (by kernel_rfl))).symm
                  rw [d51]
                  refine wpOp_step rfl (fun K' hK => ?_)
                  replace hK := Lib.hid hK
                  go_wp2
                  exact hK.out _ _ ⟨_, (by simp only [Act.put, List.getElem?_cons_zero, List.getElem?_cons_succ, Option.getD_some, List.setIfInBounds_toArray, List.set_cons_zero, List.set_cons_succ]), hI, Below.refl _ _, rfl⟩
                · have d51 : t 51 = .bool false := (Option.some.inj (hd 51 (by kernel_rfl))).symm
                  rw [d51]
                  refine wpOp_step rfl (fun K' hK => ?_)
                  replace hK := Lib.hid hK
                  go_wp2
                  exact hK.out _ _ ⟨_, (by simp only [Act.put, List.getElem?_cons_zero, List.getElem?_cons_succ, Option.getD_some, List.setIfInBounds_toArray, List.set_cons_zero, List.set_cons_succ]), hI, Below.refl _ _, rfl⟩
                · have d52 : t 52 = .slice (some ⟨bg, og, none⟩) ys.length c7 := (Option.some.inj (hd 52 (by kernel_rfl))).symm
                  rw [d52]
                  have d53 : t 53 = .int .i64 ((j : Int) + 1) := (Option.some.inj (hd 53 (by kernel_rfl))).symm
                  rw [d53]
                  have d51 : t 51 = .bool false := (Option.some.inj (hd 51 (by kernel_rfl))).symm
                  rw [d51]
                  refine wpOp_step rfl (fun K' hK => ?_)
                  replace hK := Lib.hid hK
                  go_wp2
                  exact hK.out _ _ ⟨_, (by simp only [Act.put, List.getElem?_cons_zero, List.getElem?_cons_succ, Option.getD_some, List.setIfInBounds_toArray, List.set_cons_zero, List.set_cons_succ]), hI, Below.refl _ _, rfl⟩
                · have d54 : t 54 = .pointer (some ⟨bg, og + (j + 1) * 10, none⟩) := (Option.some.inj (hd 54 (by kernel_rfl))).symm
                  rw [d54]
                  have d51 : t 51 = .bool false := (Option.some.inj (hd 51 (by kernel_rfl))).symm
                  rw [d51]
                  have f0 : w'.cell? ⟨bg, og + (j + 1) * 10, none⟩ = some (.int .u32 p0) := gg.out w' hJ 0 _ rfl
                  have f1 : w'.cell? ⟨bg, og + (j + 1) * 10 + 1, none⟩ = some (.int .u8 x1) := gg.out w' hJ 1 _ rfl
                  have f2 : w'.cell? ⟨bg, og + (j + 1) * 10 + 2, none⟩ = some (.int .u32 x2) := gg.out w' hJ 2 _ rfl
                  have f3 : w'.cell? ⟨bg, og + (j + 1) * 10 + 3, none⟩ = some (.int .u8 x3) := gg.out w' hJ 3 _ rfl
                  have f4 : w'.cell? ⟨bg, og + (j + 1) * 10 + 4, none⟩ = some (.int .u8 x4) := gg.out w' hJ 4 _ rfl
                  have f5 : w'.cell? ⟨bg, og + (j + 1) * 10 + 5, none⟩ = some (.int .u32 x5) := gg.out w' hJ 5 _ rfl
                  have f6 : w'.cell? ⟨bg, og + (j + 1) * 10 + 6, none⟩ = some (.int .u32 x6) := gg.out w' hJ 6 _ rfl
                  have f7 : w'.cell? ⟨bg, og + (j + 1) * 10 + 7, none⟩ = some (.int .u32 x7) := gg.out w' hJ 7 _ rfl
                  have f8 : w'.cell? ⟨bg, og + (j + 1) * 10 + 8, none⟩ = some (.int .u32 x8) := gg.out w' hJ 8 _ rfl
                  have f9 : w'.cell? ⟨bg, og + (j + 1) * 10 + 9, none⟩ = some (.slice yA yn yc) := gg.out w' hJ 9 _ rfl
                  refine wpOp_step rfl (fun K' hK => ?_)
                  replace hK := Lib.hid hK
                  go_wp2
                  exact hK.out _ _ ⟨_, (by simp only [Act.put, List.getElem?_cons_zero, List.getElem?_cons_succ, Option.getD_some, List.setIfInBounds_toArray, List.set_cons_zero, List.set_cons_succ]), hI, Below.refl _ _, rfl⟩
                · have d51 : t 51 = .bool false := (Option.some.inj (hd 51 (by kernel_rfl))).symm
                  rw [d51]
                  refine wpOp_step rfl (fun K' hK => ?_)
                  replace hK := Lib.hid hK
                  go_wp2
                  exact hK.out _ _ ⟨_, (by simp only [Act.put, List.getElem?_cons_zero, List.getElem?_cons_succ, Option.getD_some, List.setIfInBounds_toArray, List.set_cons_zero, List.set_cons_succ]), hI, Below.refl _ _, rfl⟩
                · have d51 : t 51 = .bool false := (Option.some.inj (hd 51 (by kernel_rfl))).symm
                  rw [d51]
                  refine wpOp_step rfl (fun K' hK => ?_)
                  replace hK := Lib.hid hK
                  go_wp2
                  exact hK.out _ _ ⟨_, (by simp only [Act.put, List.getElem?_cons_zero, List.getElem?_cons_succ, Option.getD_some, List.setIfInBounds_toArray, List.set_cons_zero, List.set_cons_succ]), hI, Below.refl _ _, rfl⟩
                · have d56 : t 56 = .slice (some ⟨bm, om, none⟩) ms.length c6 := (Option.some.inj (hd 56 (by kernel_rfl))).symm
                  rw [d56]
                  have d57 : t 57 = .int .i64 ((j : Int) + 1) := (Option.some.inj (hd 57 (by kernel_rfl))).symm
                  rw [d57]
                  have d51 : t 51 = .bool false := (Option.some.inj (hd 51 (by kernel_rfl))).symm
                  rw [d51]
                  refine wpOp_step rfl (fun K' hK => ?_)
                  replace hK := Lib.hid hK
                  go_wp2
                  exact hK.out _ _ ⟨_, (by simp only [Act.put, List.getElem?_cons_zero, List.getElem?_cons_succ, Option.getD_some, List.setIfInBounds_toArray, List.set_cons_zero, List.set_cons_succ]), hI, Below.refl _ _, rfl⟩
                · have d58 : t 58 = .pointer (some ⟨bm, om + (j + 1) * 10, none⟩) := (Option.some.inj (hd 58 (by kernel_rfl))).symm
                  rw [d58]
                  have d51 : t 51 = .bool false := (Option.some.inj (hd 51 (by kernel_rfl))).symm
                  rw [d51]
                  have f0 : w'.cell? ⟨bm, om + (j + 1) * 10, none⟩ = some (.int .u32 p0) := gm.out w' hJ 0 _ rfl
                  have f1 : w'.cell? ⟨bm, om + (j + 1) * 10 + 1, none⟩ = some (.int .u8 x1) := gm.out w' hJ 1 _ rfl
                  have f2 : w'.cell? ⟨bm, om + (j + 1) * 10 + 2, none⟩ = some (.int .u32 x2) := gm.out w' hJ 2 _ rfl
                  have f3 : w'.cell? ⟨bm, om + (j + 1) * 10 + 3, none⟩ = some (.int .u8 x3) := gm.out w' hJ 3 _ rfl
                  have f4 : w'.cell? ⟨bm, om + (j + 1) * 10 + 4, none⟩ = some (.int .u8 x4) := gm.out w' hJ 4 _ rfl
                  have f5 : w'.cell? ⟨bm, om + (j + 1) * 10 + 5, none⟩ = some (.int .u32 x5) := gm.out w' hJ 5 _ rfl
                  have f6 : w'.cell? ⟨bm, om + (j + 1) * 10 + 6, none⟩ = some (.int .u32 x6) := gm.out w' hJ 6 _ rfl
                  have f7 : w'.cell? ⟨bm, om + (j + 1) * 10 + 7, none⟩ = some (.int .u32 x7) := gm.out w' hJ 7 _ rfl
                  have f8 : w'.cell? ⟨bm, om + (j + 1) * 10 + 8, none⟩ = some (.int .u32 x8) := gm.out w' hJ 8 _ rfl
                  have f9 : w'.cell? ⟨bm, om + (j + 1) * 10 + 9, none⟩ = some (.slice xA xn xc) := gm.out w' hJ 9 _ rfl
                  refine wpOp_step rfl (fun K' hK => ?_)
                  replace hK := Lib.hid hK
                  go_wp2
                  exact hK.out _ _ ⟨_, (by simp only [Act.put, List.getElem?_cons_zero, List.getElem?_cons_succ, Option.getD_some, List.setIfInBounds_toArray, List.set_cons_zero, List.set_cons_succ]), hI, Below.refl _ _, rfl⟩
                · have d55 : t 55 = .agg #[.int .u32 p0, .int .u8 x1, .int .u32 x2, .int .u8 x3, .int .u8 x4, .int .u32 x5, .int .u32 x6, .int .u32 x7, .int .u32 x8, .slice yA yn yc] := (Option.some.inj (hd 55 (by kernel_rfl))).symm
                  rw [d55]
                  have d59 : t 59 = .agg #[.int .u32 p0, .int .u8 x1, .int .u32 x2, .int .u8 x3, .int .u8 x4, .int .u32 x5, .int .u32 x6, .int .u32 x7, .int .u32 x8, .slice xA xn xc] := (Option.some.inj (hd 59 (by kernel_rfl))).symm
                  rw [d59]
                  have d51 : t 51 = .bool false := (Option.some.inj (hd 51 (by kernel_rfl))).symm
                  rw [d51]
                  have CC := Lib.hid (CBt.out w')
                  refine wpOp_step rfl (fun K' hK => ?_)
                  replace hK := Lib.hid hK
                  go_wp2_with (go_at_call 38; refine Calls.mono CC.out ?_; rintro e w4 ⟨rfl, hB4⟩)
                  exact hK.out _ _ ⟨_, (by simp only [Act.put, List.getElem?_cons_zero, List.getElem?_cons_succ, Option.getD_some, List.setIfInBounds_toArray, List.set_cons_zero, List.set_cons_succ]), hI.trans (hB4.mono hzw), hB4, rfl⟩
                · have d60 : t 60 = .int .i64 0 := (Option.some.inj (hd 60 (by kernel_rfl))).symm
                  rw [d60]
                  have d51 : t 51 = .bool false := (Option.some.inj (hd 51 (by kernel_rfl))).symm
                  rw [d51]
                  refine wpOp_step rfl (fun K' hK => ?_)
                  replace hK := Lib.hid hK
                  go_wp2
                  exact hK.out _ _ ⟨_, (by simp only [Act.put, List.getElem?_cons_zero, List.getElem?_cons_succ, Option.getD_some, List.setIfInBounds_toArray, List.set_cons_zero, List.set_cons_succ]), hI, Below.refl _ _, rfl⟩
                · have d51 : t 51 = .bool false := (Option.some.inj (hd 51 (by kernel_rfl))).symm
                  rw [d51]
                  have d61 : t 61 = .bool false := (Option.some.inj (hd 61 (by kernel_rfl))).symm
                  rw [d61]
                  refine wpOp_step rfl (fun K' hK => ?_)
                  replace hK := Lib.hid hK
                  go_wp2
                  exact hK.out _ _ ⟨_, (by simp only [Act.put, List.getElem?_cons_zero, List.getElem?_cons_succ, Option.getD_some, List.setIfInBounds_toArray, List.set_cons_zero, List.set_cons_succ]), hI, Below.refl _ _, rfl⟩
                · have d62 : t 62 = .bool false := (Option.some.inj (hd 62 (by kernel_rfl))).symm
                  rw [d62]
                  refine wpOp_step rfl (fun K' hK => ?_)
                  replace hK := Lib.hid hK
                  go_wp2
                  exact hK.out _ _ ⟨_, (by simp only [Act.put, List.getElem?_cons_zero, List.getElem?_cons_succ, Option.getD_some, List.setIfInBounds_toArray, List.set_cons_zero, List.set_cons_succ]), hI, Below.refl _ _, rfl⟩
                · have d63 : t 63 = .bool false := (Option.some.inj (hd 63 (by kernel_rfl))).symm
                  rw [d63]
                  refine wpOp_step rfl (fun K' hK => ?_)
                  replace hK := Lib.hid hK
                  go_wp2
                  exact hK.out _ _ ⟨_, (by simp only [Act.put, List.getElem?_cons_zero, List.getElem?_cons_succ, Option.getD_some, List.setIfInBounds_toArray, List.set_cons_zero, List.set_cons_succ]), hI, Below.refl _ _, rfl⟩
                · have d63 : t 63 = .bool false := (Option.some.inj (hd 63 (by kernel_rfl))).symm
                  rw [d63]
                  refine wpOp_step rfl (fun K' hK => ?_)
                  replace hK := Lib.hid hK
                  go_wp2
                  exact hK.out _ _ ⟨_, (by simp only [Act.put, List.getElem?_cons_zero, List.getElem?_cons_succ, Option.getD_some, List.setIfInBounds_toArray, List.set_cons_zero, List.set_cons_succ]), hI, Below.refl _ _, rfl⟩
                · have d64 : t 64 = .slice (some ⟨bg, og, none⟩) ys.length c7 := (Option.some.inj (hd 64 (by kernel_rfl))).symm
                  rw [d64]
                  have d65 : t 65 = .int .i64 ((j : Int) + 1) := (Option.some.inj (hd 65 (by kernel_rfl))).symm
                  rw [d65]
                  have d63 : t 63 = .bool false := (Option.some.inj (hd 63 (by kernel_rfl))).symm
                  rw [d63]
                  refine wpOp_step rfl (fun K' hK => ?_)
                  replace hK := Lib.hid hK
                  go_wp2
                  exact hK.out _ _ ⟨_, (by simp only [Act.put, List.getElem?_cons_zero, List.getElem?_cons_succ, Option.getD_some, List.setIfInBounds_toArray, List.set_cons_zero, List.set_cons_succ]), hI, Below.refl _ _, rfl⟩
                · have d66 : t 66 = .pointer (some ⟨bg, og + (j + 1) * 10, none⟩) := (Option.some.inj (hd 66 (by kernel_rfl))).symm
                  rw [d66]
                  have d63 : t 63 = .bool false := (Option.some.inj (hd 63 (by kernel_rfl))).symm
                  rw [d63]
                  refine wpOp_step rfl (fun K' hK => ?_)
                  replace hK := Lib.hid hK
                  go_wp2
                  exact hK.out _ _ ⟨_, (by simp only [Act.put, List.getElem?_cons_zero, List.getElem?_cons_succ, Option.getD_some, List.setIfInBounds_toArray, List.set_cons_zero, List.set_cons_succ]), hI, Below.refl _ _, rfl⟩
                · have d67 : t 67 = .pointer (some ⟨bg, og + (j + 1) * 10, none⟩) := (Option.some.inj (hd 67 (by kernel_rfl))).symm
                  rw [d67]
                  have d63 : t 63 = .bool false := (Option.some.inj (hd 63 (by kernel_rfl))).symm
                  rw [d63]
                  have f0 : w'.cell? ⟨bg, og + (j + 1) * 10, none⟩ = some (.int .u32 p0) := gg.out w' hJ 0 _ rfl
                  have f1 : w'.cell? ⟨bg, og + (j + 1) * 10 + 1, none⟩ = some (.int .u8 x1) := gg.out w' hJ 1 _ rfl
                  refine wpOp_step rfl (fun K' hK => ?_)
                  replace hK := Lib.hid hK
                  go_wp2
                  exact hK.out _ _ ⟨_, (by simp only [Act.put, List.getElem?_cons_zero, List.getElem?_cons_succ, Option.getD_some, List.setIfInBounds_toArray, List.set_cons_zero, List.set_cons_succ]), hI, Below.refl _ _, rfl⟩
                · have d63 : t 63 = .bool false := (Option.some.inj (hd 63 (by kernel_rfl))).symm
                  rw [d63]
                  refine wpOp_step rfl (fun K' hK => ?_)
                  replace hK := Lib.hid hK
                  go_wp2
                  exact hK.out _ _ ⟨_, (by simp only [Act.put, List.getElem?_cons_zero, List.getElem?_cons_succ, Option.getD_some, List.setIfInBounds_toArray, List.set_cons_zero, List.set_cons_succ]), hI, Below.refl _ _, rfl⟩
                · have d63 : t 63 = .bool false := (Option.some.inj (hd 63 (by kernel_rfl))).symm
                  rw [d63]
                  refine wpOp_step rfl (fun K' hK => ?_)
                  replace hK := Lib.hid hK
                  go_wp2
                  exact hK.out _ _ ⟨_, (by simp only [Act.put, List.getElem?_cons_zero, List.getElem?_cons_succ, Option.getD_some, List.setIfInBounds_toArray, List.set_cons_zero, List.set_cons_succ]), hI, Below.refl _ _, rfl⟩
                · have d69 : t 69 = .slice (some ⟨bm, om, none⟩) ms.length c6 := (Option.some.inj (hd 69 (by kernel_rfl))).symm
                  rw [d69]
                  have d70 : t 70 = .int .i64 ((j : Int) + 1) := (Option.some.inj (hd 70 (by kernel_rfl))).symm
                  rw [d70]
                  have d63 : t 63 = .bool false := (Option.some.inj (hd 63 (by kernel_rfl))).symm
                  rw [d63]
                  refine wpOp_step rfl (fun K' hK => ?_)
                  replace hK := Lib.hid hK
                  go_wp2
                  exact hK.out _ _ ⟨_, (by simp only [Act.put, List.getElem?_cons_zero, List.getElem?_cons_succ, Option.getD_some, List.setIfInBounds_toArray, List.set_cons_zero, List.set_cons_succ]), hI, Below.refl _ _, rfl⟩
                · have d71 : t 71 = .pointer (some ⟨bm, om + (j + 1) * 10, none⟩) := (Option.some.inj (hd 71 (by kernel_rfl))).symm
                  rw [d71]
                  have d63 : t 63 = .bool false := (Option.some.inj (hd 63 (by kernel_rfl))).symm
                  rw [d63]
                  refine wpOp_step rfl (fun K' hK => ?_)
                  replace hK := Lib.hid hK
                  go_wp2
                  exact hK.out _ _ ⟨_, (by simp only [Act.put, List.getElem?_cons_zero, List.getElem?_cons_succ, Option.getD_some, List.setIfInBounds_toArray, List.set_cons_zero, List.set_cons_succ]), hI, Below.refl _ _, rfl⟩
                · have d72 : t 72 = .pointer (some ⟨bm, om + (j + 1) * 10, none⟩) := (Option.some.inj (hd 72 (by kernel_rfl))).symm
                  rw [d72]
                  have d63 : t 63 = .bool false := (Option.some.inj (hd 63 (by kernel_rfl))).symm
                  rw [d63]
                  have f0 : w'.cell? ⟨bm, om + (j + 1) * 10, none⟩ = some (.int .u32 p0) := gm.out w' hJ 0 _ rfl
                  have f1 : w'.cell? ⟨bm, om + (j + 1) * 10 + 1, none⟩ = some (.int .u8 x1) := gm.out w' hJ 1 _ rfl
                  refine wpOp_step rfl (fun K' hK => ?_)
                  replace hK := Lib.hid hK
                  go_wp2
                  exact hK.out _ _ ⟨_, (by simp only [Act.put, List.getElem?_cons_zero, List.getElem?_cons_succ, Option.getD_some, List.setIfInBounds_toArray, List.set_cons_zero, List.set_cons_succ]), hI, Below.refl _ _, rfl⟩
                · have d68 : t 68 = .agg #[.int .u32 p0, .int .u8 x1] := (Option.some.inj (hd 68 (by kernel_rfl))).symm
                  rw [d68]
                  have d73 : t 73 = .agg #[.int .u32 p0, .int .u8 x1] := (Option.some.inj (hd 73 (by kernel_rfl))).symm
                  rw [d73]
                  have d63 : t 63 = .bool false := (Option.some.inj (hd 63 (by kernel_rfl))).symm
                  rw [d63]
                  refine wpOp_step rfl (fun K' hK => ?_)
                  replace hK := Lib.hid hK
                  go_wp2
                  exact hK.out _ _ ⟨_, (by simp only [Act.put, List.getElem?_cons_zero, List.getElem?_cons_succ, Option.getD_some, List.setIfInBounds_toArray, List.set_cons_zero, List.set_cons_succ]), hI, Below.refl _ _, rfl⟩
                · have d63 : t 63 = .bool false := (Option.some.inj (hd 63 (by kernel_rfl))).symm
                  rw [d63]
                  have d74 : t 74 = .bool false := (Option.some.inj (hd 74 (by kernel_rfl))).symm
                  rw [d74]
                  refine wpOp_step rfl (fun K' hK => ?_)
                  replace hK := Lib.hid hK
                  go_wp2
                  exact hK.out _ _ ⟨_, (by simp only [Act.put, List.getElem?_cons_zero, List.getElem?_cons_succ, Option.getD_some, List.setIfInBounds_toArray, List.set_cons_zero, List.set_cons_succ]), hI, Below.refl _ _, rfl⟩
              · intro t w' a' hI ha hv
                simp only [putFrom, Act.put, Nat.reduceAdd, List.setIfInBounds_toArray, List.set_cons_zero, List.set_cons_succ] at ha
                subst ha
                have dl : t 75 = .bool false := (Option.some.inj (hv 75 (by decide))).symm
                rw [dl]
                clear hv dl
                go_wp2_with fail
                go_roundg (ms.length - (j + 1 + 1))
                case measure => omega
                case rel => exact ⟨j + 1 + 1, by omega, rfl, by go_num, hBr.trans (hI.mono hz8)⟩
        · obtain rfl : k = ms.length := by omega
          have ik : ¬ (ms.length : Int) < (ms.length : Int) := by omega
          go_wp2_with fail
          go_loopg [9] al.length (fun c iv wx => ∃ k : Nat, k ≤ al.length ∧ c = al.length - k ∧ iv = .int .i64 k ∧ Below w7.heap.size w7 wx)
          case atStart => exact ⟨0, Nat.zero_le _, rfl, rfl, hBr⟩
          case round =>
            clear hBr hz8
            obtain ⟨k, hk, rfl, rfl, hBr⟩ := hrel
            obtain ⟨w9, rfl⟩ : ∃ x : World, x = wr := ⟨_, rfl⟩
            have hz9 := hBr.size
            by_cases hkl : k < al.length
            · obtain ⟨ba, oa, rfl, hba, hra⟩ := Sl.row yE.len hla7.out hkl
              have hbe := hbest.out _ (List.getElem_mem hkl)
              have ik2 : (k : Int) < (al.length : Int) := by omega
              obtain ⟨e, he⟩ : ∃ e, e = al[k] := ⟨_, rfl⟩
              rw [← he] at hra hbe
              clear he
              obtain ⟨⟨⟨e0, e1, e2, e3, e4, e5, e6, e7, e8⟩, eA, en, ec⟩, eh⟩ := e
              dsimp only at hbe
              replace hbe := Lib.hid hbe
              have ga := Lib.hid (fun (W : World) (h : Below w7.heap.size w7 W) (q : Nat) (u : Value) (hu : (yL ((⟨⟨e0, e1, e2, e3, e4, e5, e6, e7, e8⟩, eA, en, ec⟩, eh) : WayY))[q]? = some u) => (h.cell (p := ⟨ba, oa + k * 10 + q, none⟩) hba).trans (hra q u hu))
              clear hra
              have f0 : w9.cell? ⟨ba, oa + k * 10, none⟩ = some (.int .u32 e0) := ga.out w9 hBr 0 _ rfl
              have f1 : w9.cell? ⟨ba, oa + k * 10 + 1, none⟩ = some (.int .u8 e1) := ga.out w9 hBr 1 _ rfl
              have f2 : w9.cell? ⟨ba, oa + k * 10 + 2, none⟩ = some (.int .u32 e2) := ga.out w9 hBr 2 _ rfl
              go_upto_region 17 with fail
              go_cut [139] (fun v wx => v = .bool (!(elig (⟨e0, e1, e2, e3, e4, e5, e6, e7, e8⟩, eh))) ∧ wx = w9)
              case first =>
                have heqz := fun W => eql_preO e0 e1 0 0 W
                have hel : elig (⟨e0, e1, e2, e3, e4, e5, e6, e7, e8⟩, eh) = (!(decide (e0 = 0) && decide (e1 = 0)) || decide (e2 = 0)) := rfl
                generalize elig (⟨e0, e1, e2, e3, e4, e5, e6, e7, e8⟩, eh) = el at *
                generalize (decide (e0 = 0) && decide (e1 = 0)) = z at heqz hel
                replace hel := Lib.hid hel
                cases z
                · go_wp2_with fail
                  go_meet
                  case rel => exact ⟨by rw [hel.out]; simp, rfl⟩
                · by_cases he2 : e2 = 0
                  · subst he2
                    go_wp2_with fail
                    go_meet
                    case rel => exact ⟨by rw [hel.out]; simp, rfl⟩
                  · have he2' : (e2 != 0) = true := by simp [he2]
                    go_wp2_with fail
                    go_meet
                    case rel => exact ⟨by rw [hel.out]; simp [he2], rfl⟩
              case rest =>
                obtain ⟨rfl, rfl⟩ := hcut
                clear f0 f1 f2
                cases hel : elig (⟨e0, e1, e2, e3, e4, e5, e6, e7, e8⟩, eh) with
                | false =>
                  go_wp2_with fail
                  go_roundg (al.length - (k + 1))
                  case measure => omega
                  case rel => exact ⟨k + 1, by omega, rfl, by go_num, hBr⟩
                | true =>
                  obtain ⟨hex, hge⟩ := hbe.out hel
                  clear hbe hel
                  rw [show (!true) = false from rfl]
                  have hseen : seenK ms (e0, e1) = true := by
                    obtain ⟨q, hq, hqk⟩ := hex
                    unfold seenK
                    rw [List.any_eq_true]
                    exact ⟨ms[q], List.getElem_mem hq, beq_iff_eq.2 hqk⟩
                  clear hex
                  replace hge := Lib.hid hge
                  replace hseen := Lib.hid hseen
                  go_wp2_with fail
                  go_loopg [10, 11] ms.length (fun c fv qv wx => ∃ q : Nat, q ≤ ms.length ∧ c = ms.length - q ∧ fv = .bool (seenK (ms.take q) (e0, e1)) ∧ qv = .int .i64 q ∧ Below w7.heap.size w7 wx)
                  case atStart => exact ⟨0, Nat.zero_le _, rfl, rfl, rfl, hBr⟩
                  case round =>
                    clear hBr hz9
                    obtain ⟨q, hq, rfl, rfl, rfl, hBr⟩ := hrel
                    obtain ⟨w10, rfl⟩ : ∃ x : World, x = wr := ⟨_, rfl⟩
                    have hz10 := hBr.size
                    by_cases hqm : q < ms.length
                    · obtain ⟨bm, om, rfl, hbm, hrm⟩ := Sl.row yE.len hlm7.out hqm
                      have hsn : seenK (ms.take (q + 1)) (e0, e1) = (seenK (ms.take q) (e0, e1) || keyO ms[q].1.n == (e0, e1)) := by
                        rw [List.take_succ_eq_append_getElem hqm]
                        unfold seenK
                        rw [List.any_append]
                        simp only [List.any_cons, List.any_nil, Bool.or_false]
                      have hgq := hge.out q hqm
                      have iq : (q : Int) < (ms.length : Int) := by omega
                      obtain ⟨x, hx⟩ : ∃ x, x = ms[q] := ⟨_, rfl⟩
                      rw [← hx] at hrm hsn hgq
                      clear hx
                      obtain ⟨⟨⟨x0, x1, x2, x3, x4, x5, x6, x7, x8⟩, xA, xn, xc⟩, xh⟩ := x
                      dsimp only at hsn hgq
                      replace hsn := Lib.hid hsn
                      have gm := Lib.hid (fun (W : World) (h : Below w7.heap.size w7 W) (q' : Nat) (u : Value) (hu : (yL ((⟨⟨x0, x1, x2, x3, x4, x5, x6, x7, x8⟩, xA, xn, xc⟩, xh) : WayY))[q']? = some u) => (h.cell (p := ⟨bm, om + q * 10 + q', none⟩) hbm).trans (hrm q' u hu))
                      clear hrm
                      have f0 : w10.cell? ⟨ba, oa + k * 10, none⟩ = some (.int .u32 e0) := ga.out w10 hBr 0 _ rfl
                      have f1 : w10.cell? ⟨ba, oa + k * 10 + 1, none⟩ = some (.int .u8 e1) := ga.out w10 hBr 1 _ rfl
                      have f2 : w10.cell? ⟨bm, om + q * 10, none⟩ = some (.int .u32 x0) := gm.out w10 hBr 0 _ rfl
                      have f3 : w10.cell? ⟨bm, om + q * 10 + 1, none⟩ = some (.int .u8 x1) := gm.out w10 hBr 1 _ rfl
                      have heq := fun W => eql_preO x0 x1 e0 e1 W
                      by_cases hke : x0 = e0 ∧ x1 = e1
                      · obtain ⟨rfl, rfl⟩ := hke
                        replace hgq := hgq rfl
                        have hdd : (decide (x0 = x0) && decide (x1 = x1)) = true := by simp
                        rw [hdd] at heq
                        clear hdd
                        go_upto_region 22 with fail
                        go_quiet (fail)
                        clear f0 f1 f2 f3 heq
                        have hBq := below_drewN hBr nq
                        have hz11 := hBq.size
                        obtain ⟨z, hz⟩ : ∃ z, z = betterP ⟨x0, x1, e2, e3, e4, e5, e6, e7, e8⟩ ⟨x0, x1, x2, x3, x4, x5, x6, x7, x8⟩ := ⟨_, rfl⟩
                        have CBt : ∀ W, Calls Tryz.prog 38 #[.agg #[.int .u32 x0, .int .u8 x1, .int .u32 e2, .int .u8 e3, .int .u8 e4, .int .u32 e5, .int .u32 e6, .int .u32 e7, .int .u32 e8, .slice eA en ec], .agg #[.int .u32 x0, .int .u8 x1, .int .u32 x2, .int .u8 x3, .int .u8 x4, .int .u32 x5, .int .u32 x6, .int .u32 x7, .int .u32 x8, .slice xA xn xc]] W fun e w' => e = .returned (.int .i64 z) ∧ Below W.heap.size W w' := fun W => by
                          have := better_any ⟨x0, x1, e2, e3, e4, e5, e6, e7, e8⟩ ⟨x0, x1, x2, x3, x4, x5, x6, x7, x8⟩ (.slice eA en ec) (.slice xA xn xc) W
                          rw [← hz] at this
                          exact this
                        rw [← hz] at hgq
                        clear hz
                        replace CBt := Lib.hid CBt
                        generalize w10.drewN nq = w11 at *
                        go_upto_region 23 with fail
                        refine wp_region_vals [some 157, some 158, some 159, some 160, some 161, some 162, some 163, some 164, some 165, some 166, some 10] (fun W => Below w11.heap.size w11 W) (fun W W' => Below W.heap.size W W') id (ValV [.slice (some ⟨ba, oa, none⟩) al.length lc, .int .i64 k, .pointer (some ⟨ba, oa + k * 10, none⟩), .agg #[.int .u32 x0, .int .u8 x1, .int .u32 e2, .int .u8 e3, .int .u8 e4, .int .u32 e5, .int .u32 e6, .int .u32 e7, .int .u32 e8, .slice eA en ec], .slice (some ⟨bm, om, none⟩) ms.length c6, .int .i64 q, .pointer (some ⟨bm, om + q * 10, none⟩), .agg #[.int .u32 x0, .int .u8 x1, .int .u32 x2, .int .u8 x3, .int .u8 x4, .int .u32 x5, .int .u32 x6, .int .u32 x7, .int .u32 x8, .slice xA xn xc], .int .i64 z, .bool true, .bool true]) hmix (by kernel_rfl) rfl (by decide) (by kernel_rfl) (fun _ _ _ _ _ _ h => h) (Below.refl _ _).drew ?_ ?_
                        · intro t w' a' hI ha j' hlt' hd
                          simp only [putFrom, Act.put, Nat.reduceAdd, List.setIfInBounds_toArray, List.set_cons_zero, List.set_cons_succ] at ha
                          subst ha
                          replace hlt' : j' < 11 := hlt'
                          have hzw := hI.size
                          have hJ := hBq.trans (hI.mono hz11)
                          rcases (show j' = 0 ∨ j' = 1 ∨ j' = 2 ∨ j' = 3 ∨ j' = 4 ∨ j' = 5 ∨ j' = 6 ∨ j' = 7 ∨ j' = 8 ∨ j' = 9 ∨ j' = 10 by omega) with rfl | rfl | rfl | rfl | rfl | rfl | rfl | rfl | rfl | rfl | rfl
                          · refine wpOp_step rfl (fun K' hK => ?_)
                            replace hK := Lib.hid hK
                            go_wp2
                            exact hK.out _ _ ⟨_, (by simp only [Act.put, List.getElem?_cons_zero, Option.getD_some, List.setIfInBounds_toArray, List.set_cons_zero, List.set_cons_succ]), hI, Below.refl _ _, rfl⟩
                          · refine wpOp_step rfl (fun K' hK => ?_)
                            replace hK := Lib.hid hK
                            go_wp2
                            exact hK.out _ _ ⟨_, (by simp only [Act.put, List.getElem?_cons_zero, List.getElem?_cons_succ, Option.getD_some, List.setIfInBounds_toArray, List.set_cons_zero, List.set_cons_succ]), hI, Below.refl _ _, rfl⟩
                          · have d0 : t 0 = .slice (some ⟨ba, oa, none⟩) al.length lc := (Option.some.inj (hd 0 (by kernel_rfl))).symm
                            rw [d0]
                            have d1 : t 1 = .int .i64 k := (Option.some.inj (hd 1 (by kernel_rfl))).symm
                            rw [d1]
                            refine wpOp_step rfl (fun K' hK => ?_)
                            replace hK := Lib.hid hK
                            go_wp2
                            exact hK.out _ _ ⟨_, (by simp only [Act.put, List.getElem?_cons_zero, List.getElem?_cons_succ, Option.getD_some, List.setIfInBounds_toArray, List.set_cons_zero, List.set_cons_succ]), hI, Below.refl _ _, rfl⟩
                          · have d2 : t 2 = .pointer (some ⟨ba, oa + k * 10, none⟩) := (Option.some.inj (hd 2 (by kernel_rfl))).symm
                            rw [d2]
                            have g0 : w'.cell? ⟨ba, oa + k * 10, none⟩ = some (.int .u32 x0) := ga.out w' hJ 0 _ rfl
                            have g1 : w'.cell? ⟨ba, oa + k * 10 + 1, none⟩ = some (.int .u8 x1) := ga.out w' hJ 1 _ rfl
                            have g2 : w'.cell? ⟨ba, oa + k * 10 + 2, none⟩ = some (.int .u32 e2) := ga.out w' hJ 2 _ rfl
                            have g3 : w'.cell? ⟨ba, oa + k * 10 + 3, none⟩ = some (.int .u8 e3) := ga.out w' hJ 3 _ rfl
                            have g4 : w'.cell? ⟨ba, oa + k * 10 + 4, none⟩ = some (.int .u8 e4) := ga.out w' hJ 4 _ rfl
                            have g5 : w'.cell? ⟨ba, oa + k * 10 + 5, none⟩ = some (.int .u32 e5) := ga.out w' hJ 5 _ rfl
                            have g6 : w'.cell? ⟨ba, oa + k * 10 + 6, none⟩ = some (.int .u32 e6) := ga.out w' hJ 6 _ rfl
                            have g7 : w'.cell? ⟨ba, oa + k * 10 + 7, none⟩ = some (.int .u32 e7) := ga.out w' hJ 7 _ rfl
                            have g8 : w'.cell? ⟨ba, oa + k * 10 + 8, none⟩ = some (.int .u32 e8) := ga.out w' hJ 8 _ rfl
                            have g9 : w'.cell? ⟨ba, oa + k * 10 + 9, none⟩ = some (.slice eA en ec) := ga.out w' hJ 9 _ rfl
                            refine wpOp_step rfl (fun K' hK => ?_)
                            replace hK := Lib.hid hK
                            go_wp2
                            exact hK.out _ _ ⟨_, (by simp only [Act.put, List.getElem?_cons_zero, List.getElem?_cons_succ, Option.getD_some, List.setIfInBounds_toArray, List.set_cons_zero, List.set_cons_succ]), hI, Below.refl _ _, rfl⟩
                          · refine wpOp_step rfl (fun K' hK => ?_)
                            replace hK := Lib.hid hK
                            go_wp2
                            exact hK.out _ _ ⟨_, (by simp only [Act.put, List.getElem?_cons_zero, List.getElem?_cons_succ, Option.getD_some, List.setIfInBounds_toArray, List.set_cons_zero, List.set_cons_succ]), hI, Below.refl _ _, rfl⟩
                          · refine wpOp_step rfl (fun K' hK => ?_)
                            replace hK := Lib.hid hK
                            go_wp2
                            exact hK.out _ _ ⟨_, (by simp only [Act.put, List.getElem?_cons_zero, List.getElem?_cons_succ, Option.getD_some, List.setIfInBounds_toArray, List.set_cons_zero, List.set_cons_succ]), hI, Below.refl _ _, rfl⟩
                          · have d4 : t 4 = .slice (some ⟨bm, om, none⟩) ms.length c6 := (Option.some.inj (hd 4 (by kernel_rfl))).symm
                            rw [d4]
                            have d5 : t 5 = .int .i64 q := (Option.some.inj (hd 5 (by kernel_rfl))).symm
                            rw [d5]
                            refine wpOp_step rfl (fun K' hK => ?_)
                            replace hK := Lib.hid hK
                            go_wp2
                            exact hK.out _ _ ⟨_, (by simp only [Act.put, List.getElem?_cons_zero, List.getElem?_cons_succ, Option.getD_some, List.setIfInBounds_toArray, List.set_cons_zero, List.set_cons_succ]), hI, Below.refl _ _, rfl⟩
                          · have d6 : t 6 = .pointer (some ⟨bm, om + q * 10, none⟩) := (Option.some.inj (hd 6 (by kernel_rfl))).symm
                            rw [d6]
                            have g0 : w'.cell? ⟨bm, om + q * 10, none⟩ = some (.int .u32 x0) := gm.out w' hJ 0 _ rfl
                            have g1 : w'.cell? ⟨bm, om + q * 10 + 1, none⟩ = some (.int .u8 x1) := gm.out w' hJ 1 _ rfl
                            have g2 : w'.cell? ⟨bm, om + q * 10 + 2, none⟩ = some (.int .u32 x2) := gm.out w' hJ 2 _ rfl
                            have g3 : w'.cell? ⟨bm, om + q * 10 + 3, none⟩ = some (.int .u8 x3) := gm.out w' hJ 3 _ rfl
                            have g4 : w'.cell? ⟨bm, om + q * 10 + 4, none⟩ = some (.int .u8 x4) := gm.out w' hJ 4 _ rfl
                            have g5 : w'.cell? ⟨bm, om + q * 10 + 5, none⟩ = some (.int .u32 x5) := gm.out w' hJ 5 _ rfl
                            have g6 : w'.cell? ⟨bm, om + q * 10 + 6, none⟩ = some (.int .u32 x6) := gm.out w' hJ 6 _ rfl
                            have g7 : w'.cell? ⟨bm, om + q * 10 + 7, none⟩ = some (.int .u32 x7) := gm.out w' hJ 7 _ rfl
                            have g8 : w'.cell? ⟨bm, om + q * 10 + 8, none⟩ = some (.int .u32 x8) := gm.out w' hJ 8 _ rfl
                            have g9 : w'.cell? ⟨bm, om + q * 10 + 9, none⟩ = some (.slice xA xn xc) := gm.out w' hJ 9 _ rfl
                            refine wpOp_step rfl (fun K' hK => ?_)
                            replace hK := Lib.hid hK
                            go_wp2
                            exact hK.out _ _ ⟨_, (by simp only [Act.put, List.getElem?_cons_zero, List.getElem?_cons_succ, Option.getD_some, List.setIfInBounds_toArray, List.set_cons_zero, List.set_cons_succ]), hI, Below.refl _ _, rfl⟩
                          · have d3 : t 3 = .agg #[.int .u32 x0, .int .u8 x1, .int .u32 e2, .int .u8 e3, .int .u8 e4, .int .u32 e5, .int .u32 e6, .int .u32 e7, .int .u32 e8, .slice eA en ec] := (Option.some.inj (hd 3 (by kernel_rfl))).symm
                            rw [d3]
                            have d7 : t 7 = .agg #[.int .u32 x0, .int .u8 x1, .int .u32 x2, .int .u8 x3, .int .u8 x4, .int .u32 x5, .int .u32 x6, .int .u32 x7, .int .u32 x8, .slice xA xn xc] := (Option.some.inj (hd 7 (by kernel_rfl))).symm
                            rw [d7]
                            have CC := Lib.hid (CBt.out w')
                            refine wpOp_step rfl (fun K' hK => ?_)
                            replace hK := Lib.hid hK
                            go_wp2_with (go_at_call 38; refine Calls.mono CC.out ?_; rintro e w4 ⟨rfl, hB4⟩)
                            exact hK.out _ _ ⟨_, (by simp only [Act.put, List.getElem?_cons_zero, List.getElem?_cons_succ, Option.getD_some, List.setIfInBounds_toArray, List.set_cons_zero, List.set_cons_succ]), hI.trans (hB4.mono hzw), hB4, rfl⟩
                          · have d8 : t 8 = .int .i64 z := (Option.some.inj (hd 8 (by kernel_rfl))).symm
                            rw [d8]
                            refine wpOp_step rfl (fun K' hK => ?_)
                            replace hK := Lib.hid hK
                            go_wp2
                            exact hK.out _ _ ⟨_, (by simp only [Act.put, List.getElem?_cons_zero, List.getElem?_cons_succ, Option.getD_some, List.setIfInBounds_toArray, List.set_cons_zero, List.set_cons_succ]), hI, Below.refl _ _, rfl⟩
                          · have d9 : t 9 = .bool true := (Option.some.inj (hd 9 (by kernel_rfl))).symm
                            rw [d9]
                            refine wpOp_step rfl (fun K' hK => ?_)
                            replace hK := Lib.hid hK
                            go_wp2
                            exact hK.out _ _ ⟨_, (by simp only [Act.put, List.getElem?_cons_zero, List.getElem?_cons_succ, Option.getD_some, List.setIfInBounds_toArray, List.set_cons_zero, List.set_cons_succ]), hI, Below.refl _ _, rfl⟩
                        · intro t w' a' hI ha hv
                          simp only [putFrom, Act.put, Nat.reduceAdd, List.setIfInBounds_toArray, List.set_cons_zero, List.set_cons_succ] at ha
                          subst ha
                          have dl : t 10 = .bool true := (Option.some.inj (hv 10 (by decide))).symm
                          rw [dl]
                          clear hv dl
                          go_wp2_with fail
                          go_roundg (ms.length - (q + 1))
                          case measure => omega
                          case rel => exact ⟨q + 1, by omega, rfl, by rw [hsn.out]; simp [keyO], by go_num, hBq.trans (hI.mono hz11)⟩
                      · have hdd : (decide (x0 = e0) && decide (x1 = e1)) = false := by
                          cases h : (decide (x0 = e0) && decide (x1 = e1)) with
                          | false => rfl
                          | true =>
                            simp only [Bool.and_eq_true, decide_eq_true_eq] at h
                            exact absurd h hke
                        rw [hdd] at heq
                        have hkk : (keyO (⟨x0, x1, x2, x3, x4, x5, x6, x7, x8⟩ : WayN) == (e0, e1)) = false := by
                          rw [beq_eq_false_iff_ne]
                          intro h
                          simp only [keyO, Prod.mk.injEq] at h
                          exact hke h
                        replace hkk := Lib.hid hkk
                        clear hdd hke hgq
                        go_upto_region 22 with fail
                        go_quiet (fail)
                        go_wp2_with fail
                        go_roundg (ms.length - (q + 1))
                        case measure => omega
                        case rel => exact ⟨q + 1, by omega, rfl, by rw [hsn.out, hkk.out]; simp, by go_num, below_drewN hBr nq⟩
                    · obtain rfl : q = ms.length := by omega
                      have iq : ¬ (ms.length : Int) < (ms.length : Int) := by omega
                      rw [List.take_length, hseen.out]
                      go_wp2_with fail
                      go_roundg (al.length - (k + 1))
                      case measure => omega
                      case rel => exact ⟨k + 1, by omega, rfl, by go_num, hBr⟩
            · obtain rfl : k = al.length := by omega
              have ikl : ¬ (al.length : Int) < (al.length : Int) := by omega
              have hBe : Below w.heap.size w w9 := hBw7.out.trans (hBr.mono hBw7.out.size)
              go_wp2_with (go_at_call 36; refine Calls.mono (works20_any _) ?_; rintro e w10 ⟨rfl, hB10⟩)
              go_ret
              exact ⟨rfl, hBe.trans (hB10.mono hBe.size)⟩
    · go_wp2_with (go_at_call 36; refine Calls.mono (works20_any _) ?_; rintro e w3 ⟨rfl, hB3⟩)
      go_ret
      exact ⟨rfl, hBc.trans (hB3.mono hBc.size)⟩
end Go.Proofs.YtiikagabdiphkaaGreat
