/- lodestarlaw17's TreeLeast: the walk. Conditions: the graph lies in memory, its sizes are below 2^40. -/
import Derived.Test.YtdilbcmnfpmijaaTreeJ
import Derived.Test.YtdilbcmnfpmijaaTreeM
import Derived.Test.YtdilbcmnfpmijaaLeastQ
namespace Go.Proofs.Ytdilbcmnfpmijaa
open Go.RowKit Go.Lo

theorem boolT : ElT Try.prog 60 4 1 1 := ⟨by kernel_rfl, by
  obtain ⟨i, hi, h1, h2, h3⟩ := info_parts (show (Try.prog.info? 4).map (fun i => (i.zero, i.size, i.bytes)) = some (some (.bool false), 1, 1) by kernel_rfl)
  exact ⟨i, _, hi, h1, h2, h3, rfl⟩, by omega⟩

def TrueAns (w : World) (e : Ending) (w' : World) : Prop := e = .returned (.bool true) ∧ Below w.heap.size w w'

/-- the marks as they lie in memory -/
def MarkRel (g : List GNode) (c : List Int) (w3 : World) (gb i q : Nat) (wr : World) : Prop :=
  ∃ b : List Bool, Blk wr gb 4 (b.map Value.bool).toArray ∧ Marks g c b i q ∧ Below gb w3 wr

theorem flat_one (l : List Bool) : (l.flatMap fun b => [Value.bool b]) = l.map Value.bool := by
  induction l with
  | nil => rfl
  | cons a l ih => rw [List.flatMap_cons, ih]; rfl
theorem hAt_map {rs : List ReachRow} {i : Nat} (h : i < rs.length) : hAt (rs.map ReachRow.hops) i = rs[i].hops := by simp [hAt, h]
/-- what a row of the answer reads as, as long as nothing old is written -/
theorem found_cells {w4 : World} {base : Nat} {v4 : Value} {rs : List ReachRow} {c : List Int} (hout : OutAt w4 base v4 rs) (hmap : rs.map (fun r => (r.is, r.cost)) = c.map fun x => if x < far then (true, x) else (false, 0)) (hn : 0 < rs.length) :
    ∃ g cap, v4 = .slice (some ⟨g, 0, none⟩) rs.length cap ∧ g < w4.heap.size ∧ ∀ i (hi : i < rs.length) (W : World), Below w4.heap.size w4 W → W.cell? ⟨g, i * 3, none⟩ = some (.bool (decide (at_ c i < far))) ∧
      (at_ c i < far → W.cell? ⟨g, i * 3 + 1, none⟩ = some (.int .u32 (at_ c i))) ∧ ∃ A n, W.cell? ⟨g, i * 3 + 2, none⟩ = some (.slice A rs[i].hops.length n) := by
  obtain ⟨g, cap, rfl, _, _, hg, _, _⟩ := own_row reachCells_len hout.row hn
  refine ⟨g, cap, rfl, hg, fun i hi W hW => ?_⟩
  obtain ⟨g', cap', hv, _, _, _, _, hro⟩ := own_row reachCells_len hout.row hi
  simp only [Value.slice.injEq, Option.some.injEq, Addr.mk.injEq, and_true, true_and] at hv
  obtain ⟨rfl, rfl⟩ := hv
  obtain ⟨f1, f2⟩ := found_at hmap hi
  obtain ⟨_, A, n, hv, _⟩ := Sl.of_own (hout.hop rs[i] (List.getElem_mem hi))
  have h0 := hro 0 _ rfl
  have h1 := hro 1 _ rfl
  have h2 := hro 2 _ rfl
  rw [f1] at h0
  rw [f2] at h1
  rw [hv] at h2
  refine ⟨(hW.cell (p := ⟨g, i * 3, none⟩) hg).trans h0, fun hf => ?_, A, n, (hW.cell (p := ⟨g, i * 3 + 2, none⟩) hg).trans h2⟩
  rw [if_pos hf] at h1
  exact (hW.cell (p := ⟨g, i * 3 + 1, none⟩) hg).trans h1

set_option maxRecDepth 100000 in
set_option maxHeartbeats 4000000 in
theorem least_any (rows : List NodeRow) (gv : Value) (root : Int) (w : World) (hg : GraphAt w w.heap.size gv rows) (hok : okG (nodesOf rows)) (hn : rows.length ≤ 2 ^ 40) (hs : edgesN rows ≤ 2 ^ 40) :
    Calls Try.prog 4 #[gv, .int .i64 root] w (TrueAns w) := by
  have hgs := hg.sl
  obtain ⟨_, A, c, rfl, _, _, _⟩ := hgs
  go_enter Try.func4, Try.ntmps4
  go_wp2_with fail
  refine Calls.mono (heavy_any rows _ w hg hn hs) ?_
  rintro e w1 ⟨rfl, hB1⟩
  by_cases hh : 40 < rows.length ∨ 200 < edgesN rows
  · rw [decide_eq_true hh]
    clear hh
    go_wp2_with fail
    refine Calls.mono (works17_any _) ?_
    rintro e w2 ⟨rfl, hB2⟩
    go_wp2_with fail
    go_ret
    exact ⟨rfl, hB1.trans (hB2.mono hB1.size)⟩
  rw [decide_eq_false hh]
  by_cases hr0 : root < 0
  · go_wp2_with fail
    refine Calls.mono (works17_any _) ?_
    rintro e w2 ⟨rfl, hB2⟩
    go_wp2_with fail
    go_ret
    exact ⟨rfl, hB1.trans (hB2.mono hB1.size)⟩
  by_cases hr1 : (rows.length : Int) ≤ root
  · go_wp2_with fail
    refine Calls.mono (works17_any _) ?_
    rintro e w2 ⟨rfl, hB2⟩
    go_wp2_with fail
    go_ret
    exact ⟨rfl, hB1.trans (hB2.mono hB1.size)⟩
  obtain ⟨r, rfl⟩ : ∃ r : Nat, root = r := ⟨root.toNat, by omega⟩
  have hr : r < rows.length := by omega
  have hd0 : decide ((r : Int) < 0) = false := decide_eq_false hr0
  have hd1 : decide ((rows.length : Int) ≤ (r : Int)) = false := decide_eq_false hr1
  have hh1 : rows.length ≤ 40 := by omega
  have hh2 : edgesN rows ≤ 200 := by omega
  clear hh hr0 hr1 hn hs
  go_wp2_with fail
  go_loopg [5] rows.length (fun m i wr => ∃ k : Nat, k ≤ rows.length ∧ m = rows.length - k ∧ i = .int .i64 k ∧ GoodTo rows k ∧ Below w.heap.size w wr)
  case atStart => exact ⟨0, Nat.zero_le _, rfl, rfl, GoodTo.start _, hB1⟩
  case round =>
    obtain ⟨k, hk, rfl, rfl, hgd, hbk⟩ := hrel
    obtain ⟨w2, rfl⟩ : ∃ x : World, x = wr := ⟨_, rfl⟩
    clear hd0 hd1
    by_cases hkl : k < rows.length
    · have hg2 := hg.below hbk
      obtain ⟨bg, og, rfl, hbg, hrow⟩ := Sl.row nodeCells_len hg2.sl hkl
      have h0 := hrow 0 _ rfl
      have h1 := hrow 1 _ rfl
      have h5 := hrow 5 _ rfl
      simp only [Nat.add_zero] at h0
      obtain ⟨_, A5, c5, he5, _⟩ := hg2.edges _ (List.getElem_mem hkl)
      have hed := hg2.edges _ (List.getElem_mem hkl)
      have hel := edgesN_mem (List.getElem_mem hkl)
      obtain ⟨x, hx⟩ : ∃ x, x = rows[k] := ⟨_, rfl⟩
      rw [← hx] at h0 h1 h5 he5 hed hel
      rw [he5] at h5 hed
      have Hx := Lib.hid hx
      have Hg := Lib.hid hg
      have Hgd := Lib.hid hgd
      have hzw := hbk.size
      clear hx hg hgd hrow he5 hg2
      by_cases hnz : x.node.network = false ∧ x.node.id = 0
      · have hb1 := hnz.1
        have hb2 := hnz.2
        rw [hb1] at h0
        rw [hb2] at h1
        clear hnz hb1 hb2
        go_wp2_with fail
        refine Calls.mono (works17_any _) ?_
        rintro e w3 ⟨rfl, hB3⟩
        go_wp2_with fail
        go_ret
        exact ⟨rfl, hbk.trans (hB3.mono hbk.size)⟩
      have hcont : (x.node.network = true) ∨ (x.node.network = false ∧ (x.node.id == 0) = false) := by
        cases hb : x.node.network with
        | true => exact .inl rfl
        | false => exact .inr ⟨rfl, beq_eq_false_iff_ne.2 fun h => hnz ⟨hb, h⟩⟩
      have Hnz : x.node.network = false → x.node.id ≠ 0 := fun h1 h2 => hnz ⟨h1, h2⟩
      clear hnz
      rcases hcont with hb | ⟨hb, hidb⟩
      all_goals
        rw [hb] at h0
        clear hb
        go_wp2_with fail
        go_loopg [6] x.node.edges.length (fun m j wr => ∃ q : Nat, q ≤ x.node.edges.length ∧ m = x.node.edges.length - q ∧ j = .int .i64 q ∧ (∀ e ∈ x.node.edges.take q, 0 ≤ e.to ∧ e.to < (rows.length : Int) ∧ e.cost < 65536) ∧ Below w2.heap.size w2 wr)
        case atStart => exact ⟨0, Nat.zero_le _, rfl, rfl, by simp, Below.refl _ _⟩
        case round =>
          obtain ⟨q, hq, rfl, rfl, hall, hB23⟩ := hrel
          obtain ⟨w3, rfl⟩ : ∃ x : World, x = wr := ⟨_, rfl⟩
          have Hall := Lib.hid hall
          have j5 := (hB23.cell (p := ⟨bg, og + k * 7 + 5, none⟩) (show bg < _ by omega)).trans h5
          have hbk3 := hbk.trans (hB23.mono hzw)
          clear hall h0 h1 h5
          by_cases hql : q < x.node.edges.length
          · obtain ⟨be, oe, rfl, hbe, hrowe⟩ := Sl.row edgeCells_len (hed.below (hB23.mono hzw)) hql
            have e0 := hrowe 0 _ rfl
            have e1 := hrowe 1 _ rfl
            simp only [Nat.add_zero] at e0
            clear hrowe
            generalize hE : x.node.edges[q] = E at *
            have HE := Lib.hid hE
            clear hE
            by_cases ht0 : E.to < 0
            · have db := decide_eq_true ht0
              clear ht0
              go_wp2_with fail
              refine Calls.mono (works17_any _) ?_
              rintro e w4 ⟨rfl, hB4⟩
              go_wp2_with fail
              go_ret
              exact ⟨rfl, hbk3.trans (hB4.mono hbk3.size)⟩
            by_cases ht1 : (rows.length : Int) ≤ E.to
            · have db := decide_eq_true ht1
              have da := decide_eq_false ht0
              clear ht1 ht0
              go_wp2_with fail
              refine Calls.mono (works17_any _) ?_
              rintro e w4 ⟨rfl, hB4⟩
              go_wp2_with fail
              go_ret
              exact ⟨rfl, hbk3.trans (hB4.mono hbk3.size)⟩
            by_cases ht2 : 65536 ≤ E.cost
            · have db := decide_eq_false ht1
              have da := decide_eq_false ht0
              have dc := decide_eq_true ht2
              clear ht1 ht0 ht2
              go_wp2_with fail
              refine Calls.mono (works17_any _) ?_
              rintro e w4 ⟨rfl, hB4⟩
              go_wp2_with fail
              go_ret
              exact ⟨rfl, hbk3.trans (hB4.mono hbk3.size)⟩
            · have db := decide_eq_false ht1
              have da := decide_eq_false ht0
              have dc := decide_eq_false ht2
              have Ht : 0 ≤ E.to ∧ E.to < (rows.length : Int) ∧ E.cost < 65536 := by omega
              have Ht := Lib.hid Ht
              clear ht1 ht0 ht2
              go_wp2_with fail
              go_roundg (x.node.edges.length - (q + 1))
              case measure => omega
              case rel =>
                refine ⟨q + 1, by omega, rfl, by go_num, ?_, hB23⟩
                rw [List.take_succ_eq_append_getElem hql, HE.out]
                intro e he
                rcases List.mem_append.1 he with he | he
                · exact Hall.out e he
                · rw [List.mem_singleton] at he
                  subst he
                  exact Ht.out
          · obtain rfl : q = x.node.edges.length := by omega
            have Hq := Hall.out
            rw [List.take_length] at Hq
            have Hq := Lib.hid Hq
            go_wp2_with fail
            go_roundg (rows.length - (k + 1))
            case measure => omega
            case rel => exact ⟨k + 1, by omega, rfl, by go_num, Hgd.out.step hkl (by rw [← Hx.out]; exact ⟨Hnz, Hq.out⟩), hbk3⟩
    · obtain rfl : k = rows.length := by omega
      have hgood : ∀ x ∈ rows, GoodN rows x := fun x hx => by
        obtain ⟨j, hj, rfl⟩ := List.mem_iff_getElem.1 hx
        exact hgd j hj hj
      replace hgood := Lib.hid hgood
      clear hgd
      go_wp2_with fail
      refine Calls.mono (given_any rows _ w2 ((hg.below hbk).more hbk.size) (by omega) (by omega)) ?_
      rintro e w3 ⟨v3, rs3, rfl, hcp, hnd, hB3⟩
      have hnd' : nodesOf rs3 = nodesOf rows := hnd
      have hl3 : rs3.length = rows.length := by have := congrArg List.length hnd; simpa using this
      have hg3 := hcp.graph
      have hB23 := hB3
      obtain ⟨_, A3, c3, rfl, _⟩ := hg3.sl
      rw [hl3] at hg3
      go_wp2_with fail
      refine Calls.mono (from_any rs3 _ r w3 hg3 (by rw [hnd']; exact hok) (by omega) (by omega) ?_) ?_
      · rw [hnd', esOf_rows hr, hl3]
        have := edgesN_mem (List.getElem_mem hr)
        exact Nat.le_trans (Nat.mul_le_mul (show _ ≤ 200 by omega) (show _ ≤ 41 by omega)) (by omega)
      rintro e w4 hpost
      have hnz3 : NoZero rs3 := fun y hy hy1 => by
        have : y.node ∈ rows.map NodeRow.node := by rw [← hnd]; exact List.mem_map_of_mem hy
        obtain ⟨z, hz, hzy⟩ := List.mem_map.1 this
        rw [← hzy]
        exact (hgood.out z hz).1 (by rw [hzy]; exact hy1)
      obtain ⟨v4, rs, cs, rfl, hout, hB4, hcost, hhops, hmap⟩ : FromRes w3 rs3 r e w4 := hpost.elim (·.2) (fun h => absurd hnz3 h.1)
      rw [hnd'] at hcost hhops
      have hrl : rs.length = rows.length := by have := hhops.len; simpa [nodesOf] using this
      have hbw : Below w.heap.size w w4 := hbk.trans ((hB23.trans (hB4.mono hB23.size)).mono hbk.size)
      obtain ⟨g4, cap4, rfl, hg4, hcells⟩ := found_cells hout hmap (by omega)
      have hroot : rs[r].hops.length = 0 := by
        have := hhops.root_
        rw [hAt_map (by omega)] at this
        rw [this]; rfl
      have hsome : ∀ i (hi : i < rows.length), at_ cs i < far → i ≠ r → ¬ rs[i].hops.length = 0 := fun i hi hf hir h0 => by
        have := hhops.some_ hcost hok (by simpa [nodesOf] using hr) (by simpa [nodesOf] using hi) hf hir
        rw [hAt_map (by omega)] at this
        exact this (List.length_eq_zero_iff.1 h0)
      replace hsome := Lib.hid hsome
      have hc0 := hcells r (by omega) w4 (Below.refl _ _)
      rw [hcost.root0, hroot] at hc0
      obtain ⟨hc0, hc1, Ah, ch, hc2⟩ := hc0
      replace hc1 := hc1 (by decide)
      rw [show decide ((0 : Int) < far) = true by rfl] at hc0
      rw [hrl]
      replace hcost := Lib.hid hcost
      replace hcells := Lib.hid hcells
      replace hok := Lib.hid hok
      replace hg := Lib.hid hg
      clear hpost hout hmap hhops hroot hcp hnd hnd' hg3 hB3 hB23 hB4 hnz3 hbk hB1
      have hnb : ((rows.length : Int) != (rows.length : Int)) = false := by simp
      go_wp2_with (at_make; refine wpList_make rfl (.tmp 129) (.tmp 129) 60 rfl w4.heap.size boolT (fun b : Bool => [.bool b]) (fun _ => rfl) false (by kernel_rfl) .i64 .i64 _ _ rows.length rfl rfl rfl rfl (by omega) (by simp only [maxLen]; omega) (Nat.le_refl _) ?_; intro w5 hown5 hgr5)
      have hblk5 : Blk w5 w4.heap.size 4 ((List.replicate rows.length false).map Value.bool).toArray := by
        have := blk_of_own hown5
        rwa [flat_one] at this
      have hB5 : Below w4.heap.size w4 w5 := below_of_grown hgr5 (Nat.le_refl _) (by simp)
      clear hown5 hgr5 hc0 hc1 hc2 hnb
      have hnl : (nodesOf rows).length = rows.length := nodesOf_len rows
      have hM : ∀ i, ∀ e ∈ esOf (nodesOf rows) i, e.cost ≤ ((65535 : Nat) : Int) := fun i e he => by
        have hi := esOf_lt he
        rw [hnl] at hi
        rw [esOf_rows hi] at he
        have := ((hgood.out _ (List.getElem_mem hi)).2 e he).2.2
        omega
      replace hM := Lib.hid hM
      go_loopg [9] rows.length (fun m i wr => ∃ k : Nat, k ≤ rows.length ∧ m = rows.length - k ∧ i = .int .i64 k ∧ MarkRel (nodesOf rows) cs w5 w4.heap.size k 0 wr)
      case atStart => exact ⟨0, Nat.zero_le _, rfl, rfl, _, hblk5, by rw [← hnl]; exact Marks.start _ _, Below.refl _ _⟩
      case round =>
        obtain ⟨i, hi, rfl, rfl, hrel⟩ := hrel
        obtain ⟨w6, rfl⟩ : ∃ x : World, x = wr := ⟨_, rfl⟩
        by_cases hil : i < rows.length
        · have hg0 := hg.out
          obtain ⟨bg, og, rfl, hbg, hrow⟩ := Sl.row nodeCells_len hg0.sl hil
          have h5 := hrow 5 _ rfl
          obtain ⟨_, A5, c5, he5, _⟩ := hg0.edges _ (List.getElem_mem hil)
          have hed := hg0.edges _ (List.getElem_mem hil)
          have hel := edgesN_mem (List.getElem_mem hil)
          have hgx := (hgood.out _ (List.getElem_mem hil)).2
          have hes := esOf_rows hil
          obtain ⟨es, hx⟩ : ∃ es, es = rows[i].node.edges := ⟨_, rfl⟩
          rw [← hx] at he5 hed hel hgx hes
          rw [he5] at h5 hed
          replace hgx := Lib.hid hgx
          replace hes := Lib.hid hes
          replace hed := Lib.hid hed
          clear hg0 hrow he5 hx
          go_wp2_with fail
          go_loopg [10] es.length (fun m j wr => ∃ q : Nat, q ≤ es.length ∧ m = es.length - q ∧ j = .int .i64 q ∧ MarkRel (nodesOf rows) cs w5 w4.heap.size i q wr)
          case atStart => exact ⟨0, Nat.zero_le _, rfl, rfl, hrel⟩
          case round =>
            obtain ⟨q, hq, rfl, rfl, b, hblk, hmk, hB57⟩ := hrel
            obtain ⟨w7, rfl⟩ : ∃ x : World, x = wr := ⟨_, rfl⟩
            have hB7 : Below w4.heap.size w4 w7 := hB5.trans hB57
            have hBw7 := hbw.trans (hB7.mono hbw.size)
            have j5 := (hBw7.cell (p := ⟨bg, og + i * 7 + 5, none⟩) hbg).trans h5
            obtain ⟨ci0, ci1, _⟩ := hcells.out i (by omega) w7 hB7
            replace hmk := Lib.hid hmk
            clear h5
            by_cases hql : q < es.length
            · by_cases hf : at_ cs i < far
              · rw [decide_eq_true hf] at ci0
                replace ci1 := ci1 hf
                obtain ⟨be, oe, rfl, hbe, hrowe⟩ := Sl.row edgeCells_len (hed.out.below hBw7) hql
                have e0 := hrowe 0 _ rfl
                have e1 := hrowe 1 _ rfl
                have e2 := hrowe 2 _ rfl
                have e3 := hrowe 3 _ rfl
                simp only [Nat.add_zero] at e0
                have hmem : es[q] ∈ esOf (nodesOf rows) i := by rw [hes.out]; exact List.getElem_mem hql
                have hgE := hgx.out _ (List.getElem_mem hql)
                have hcE := esOf_cost hok.out hmem
                obtain ⟨t, ht⟩ : ∃ t : Nat, es[q].to = t := ⟨es[q].to.toNat, by omega⟩
                rw [ht] at e0
                have htl : t < rows.length := by omega
                have hslack := hcost.out.slack i (by rw [hcost.out.len, hnl]; exact hil) hf _ hmem t ht (by rw [hcost.out.len, hnl]; exact htl)
                have hbnd := hcost.out.bound hok.out (by rw [hnl]; exact hr) (M := 65535) hM.out (by rw [hnl]; exact hil) hf
                have hxi := (hcost.out.rng i (by rw [hcost.out.len, hnl]; exact hil)).1
                have hxt := (hcost.out.rng t (by rw [hcost.out.len, hnl]; exact htl)).1
                have hn40 : (65535 : Int) * ((nodesOf rows).length : Int) ≤ 65535 * 40 := by rw [hnl]; omega
                have htf : at_ cs t < far := by
                  unfold far
                  omega
                obtain ⟨ct0, ct1, _⟩ := hcells.out t (by rw [hrl]; exact htl) w7 hB7
                rw [decide_eq_true htf] at ct0
                replace ct1 := ct1 htf
                have hbt : t < b.length := by rw [hmk.out.1, hnl]; exact htl
                have hb0 := hblk.cell t
                rw [marks_get hbt] at hb0
                have hb1 := hblk.free t
                have hlt7 := hblk.lt
                have hwr : IntKind.u32.wrap (at_ cs i + es[q].cost) = at_ cs i + es[q].cost := IntWalk.u32_in _ (by omega)
                have hgt : decide (at_ cs i + es[q].cost < at_ cs t) = false := decide_eq_false (by omega)
                have hstep := fun x => hmk.out.step (q := q) (j := t) (x := x) (by rw [hes.out]; exact hql) (by simp only [hes.out]; exact ht) (by rw [hnl]; exact htl)
                simp only [hes.out] at hstep
                replace hblk := Lib.hid hblk
                replace hstep := Lib.hid hstep
                replace ht := Lib.hid ht
                have hz4 : g4 < w7.heap.size := by have := hB7.size; omega
                have hzb : bg < w7.heap.size := by have := hBw7.size; omega
                have hze : be < w7.heap.size := by have := hBw7.size; omega
                clear hf hrowe hmem hgE hslack hbnd hxi hxt hn40 htf hcE
                go_wp2_with fail
                go_quiet (fail)
                go_wp2_with fail
                have hBE : Below w7.heap.size w7 ((w7.alloc (.cells #[.int .i64 t, .int .u32 es[q].cost, .int .u32 es[q].data, .bool es[q].virt] 52)).drewN nq) := below_drewN ((Below.refl _ _).alloc (Nat.le_refl _) _) nq
                have n0 : ((w7.alloc (.cells #[.int .i64 t, .int .u32 es[q].cost, .int .u32 es[q].data, .bool es[q].virt] 52)).drewN nq).cell? ⟨w7.heap.size, 0, none⟩ = some (.int .i64 t) := (World.cell?_alloc_at _ _ _ _ rfl).trans rfl
                have n1 : ((w7.alloc (.cells #[.int .i64 t, .int .u32 es[q].cost, .int .u32 es[q].data, .bool es[q].virt] 52)).drewN nq).cell? ⟨w7.heap.size, 1, none⟩ = some (.int .u32 es[q].cost) := (World.cell?_alloc_at _ _ _ _ rfl).trans rfl
                have hblk8 : Blk ((w7.alloc (.cells #[.int .i64 t, .int .u32 es[q].cost, .int .u32 es[q].data, .bool es[q].virt] 52)).drewN nq) w4.heap.size 4 (b.map Value.bool).toArray := hblk.out.alloc _
                generalize ((w7.alloc (.cells #[.int .i64 t, .int .u32 es[q].cost, .int .u32 es[q].data, .bool es[q].virt] 52)).drewN nq) = w8 at *
                have ct8 := (hBE.cell (p := ⟨g4, t * 3 + 1, none⟩) hz4).trans ct1
                have ci8 := (hBE.cell (p := ⟨g4, i * 3 + 1, none⟩) hz4).trans ci1
                have hb8 := (hBE.cell (p := ⟨w4.heap.size, t, none⟩) hlt7).trans hb0
                have hf8 := hblk8.free t
                have hB58 : Below w4.heap.size w5 w8 := hB57.trans (hBE.mono hB7.size)
                replace hblk8 := Lib.hid hblk8
                clear hgt ct0 ct1 ci0 ci1 hb0 hb1 hBE j5 e0 e1 e2 e3 hblk
                have hbe : ∃ bt, b[t] = bt := ⟨_, rfl⟩
                obtain ⟨bt, hbe⟩ := hbe
                rw [hbe] at hb8
                replace hbe := Lib.hid hbe
                generalize hxi : at_ cs i = xi at *
                generalize hxt : at_ cs t = xt at *
                generalize hce : es[q].cost = ce at *
                replace hxi := Lib.hid hxi
                replace hxt := Lib.hid hxt
                replace hce := Lib.hid hce
                cases bt
                · by_cases heq : xt = xi + ce
                  · have hq1 : (xt == xi + ce) = true := beq_iff_eq.2 heq
                    clear heq
                    go_region
                    go_wp2_with fail
                    go_roundg (es.length - (q + 1))
                    case measure => omega
                    case rel => exact ⟨q + 1, by omega, rfl, by go_num, b.set t true, by rw [← marks_set]; exact hblk8.out.set_ t _, hstep.out true (fun _ => rfl) (fun _ => rfl), (Below.setCell hB58 (p := ⟨w4.heap.size, t, none⟩) (Nat.le_refl _) _).drew⟩
                  · have hq1 : (xt == xi + ce) = false := beq_eq_false_iff_ne.2 heq
                    replace heq := Lib.hid heq
                    go_region
                    go_wp2_with fail
                    go_roundg (es.length - (q + 1))
                    case measure => omega
                    case rel => exact ⟨q + 1, by omega, rfl, by go_num, b.set t false, by rw [← marks_set]; exact hblk8.out.set_ t _, hstep.out false (fun h => absurd h heq.out) (fun h => by rw [List.getElem?_eq_getElem hbt, hbe.out] at h; cases h), (Below.setCell hB58 (p := ⟨w4.heap.size, t, none⟩) (Nat.le_refl _) _).drew⟩
                · go_region
                  go_wp2_with fail
                  go_roundg (es.length - (q + 1))
                  case measure => omega
                  case rel => exact ⟨q + 1, by omega, rfl, by go_num, b.set t true, by rw [← marks_set]; exact hblk8.out.set_ t _, hstep.out true (fun _ => rfl) (fun _ => rfl), (Below.setCell hB58 (p := ⟨w4.heap.size, t, none⟩) (Nat.le_refl _) _).drew⟩
              · rw [decide_eq_false hf] at ci0
                clear ci1
                go_wp2_with fail
                go_roundg (rows.length - (i + 1))
                case measure => omega
                case rel => exact ⟨i + 1, by omega, rfl, by go_num, b, hblk, hmk.out.skip (by omega), hB57⟩
            · obtain rfl : q = es.length := by omega
              clear ci0 ci1
              go_wp2_with fail
              go_roundg (rows.length - (i + 1))
              case measure => omega
              case rel => exact ⟨i + 1, by omega, rfl, by go_num, b, hblk, Marks.next (by rw [hes.out]; exact hmk.out), hB57⟩
        · obtain rfl : i = rows.length := by omega
          obtain ⟨b, hblk, hmk, hB57⟩ := hrel
          have hB7 : Below w4.heap.size w4 w6 := hB5.trans hB57
          have hBw7 := hbw.trans (hB7.mono hbw.size)
          have hall : ∀ i, i < rows.length → at_ cs i < far → i ≠ r → b[i]? = some true := fun i hi hf hir =>
            (by rw [hnl]; exact hmk : Marks (nodesOf rows) cs b (nodesOf rows).length 0).all hcost.out hok.out (by rw [hnl]; exact hr) (by rw [hnl]; exact hi) hf hir
          replace hall := Lib.hid hall
          clear hmk hblk5
          go_wp2_with fail
          go_loopg [12] rows.length (fun m i wr => ∃ k : Nat, k ≤ rows.length ∧ m = rows.length - k ∧ i = .int .i64 k ∧ Below w6.heap.size w6 wr)
          case atStart => exact ⟨0, Nat.zero_le _, rfl, rfl, Below.refl _ _⟩
          case round =>
            obtain ⟨i, hi, rfl, rfl, hB78⟩ := hrel
            obtain ⟨w8, rfl⟩ : ∃ x : World, x = wr := ⟨_, rfl⟩
            have hB8 : Below w4.heap.size w4 w8 := hB7.trans (hB78.mono hB7.size)
            by_cases hil : i < rows.length
            · obtain ⟨ci0, _, A2, c2, ci2⟩ := hcells.out i (by omega) w8 hB8
              have hbi := (hB78.cell (p := ⟨w4.heap.size, i, none⟩) hblk.lt).trans (hblk.cell i)
              by_cases hf : at_ cs i < far
              · rw [decide_eq_true hf] at ci0
                by_cases hir : i = r
                · have hb : ((i : Int) != (r : Int)) = false := by rw [hir]; simp
                  have hb2 : (i != r) = false := by rw [hir]; simp
                  clear hf hir hbi ci2
                  go_wp2_with fail
                  go_roundg (rows.length - (i + 1))
                  case measure => omega
                  case rel => exact ⟨i + 1, by omega, rfl, by go_num, hB78⟩
                · have hb : ((i : Int) != (r : Int)) = true := bne_iff_ne.2 (fun h => hir (Int.ofNat.inj h))
                  have hb2 : (i != r) = true := bne_iff_ne.2 hir
                  have hbi1 : (b.map Value.bool).toArray[i]? = some (.bool true) := by simp [hall.out i hil hf hir]
                  rw [hbi1] at hbi
                  have hl0 := hsome.out i hil hf hir
                  have hl1 : ((rs[i].hops.length : Int) == 0) = false := beq_eq_false_iff_ne.2 (by omega)
                  have hl2 : (rs[i].hops.length == 0) = false := beq_eq_false_iff_ne.2 hl0
                  clear hf hir hl0 hbi1
                  go_wp2_with fail
                  go_roundg (rows.length - (i + 1))
                  case measure => omega
                  case rel => exact ⟨i + 1, by omega, rfl, by go_num, hB78⟩
              · rw [decide_eq_false hf] at ci0
                clear hf hbi ci2
                go_wp2_with fail
                go_roundg (rows.length - (i + 1))
                case measure => omega
                case rel => exact ⟨i + 1, by omega, rfl, by go_num, hB78⟩
            · obtain rfl : i = rows.length := by omega
              go_wp2_with fail
              refine Calls.mono (works17_any _) ?_
              rintro e w9 ⟨rfl, hB9⟩
              go_wp2_with fail
              go_ret
              exact ⟨rfl, (hbw.trans (hB8.mono hbw.size)).trans (hB9.mono (hbw.trans (hB8.mono hbw.size)).size)⟩
end Go.Proofs.Ytdilbcmnfpmijaa
