/- lodestarlaw17's TreeSteps: the walk. Conditions: the graph lies in memory, its sizes are below 2^40. -/
import Derived.Test.YtdilbcmnfpmijaaTreeJ
import Derived.Test.YtdilbcmnfpmijaaTreeM
import Derived.Test.YtdilbcmnfpmijaaTreeO
namespace Go.Proofs.Ytdilbcmnfpmijaa
open Go.RowKit Go.Lo

theorem sl_max {w : World} {B s n : Nat} {v : Value} {xs : List Value} (h : Sl w B s v n xs) : n ≤ 9223372036854775807 := by
  obtain ⟨_, _, _, _, h1, h2, _⟩ := h
  exact Nat.le_trans h1 h2

def StepsAns (w : World) (e : Ending) (w' : World) : Prop := e = .returned (.bool true) ∧ Below w.heap.size w w'

set_option maxRecDepth 100000 in
set_option maxHeartbeats 8000000 in
theorem steps_any (rows : List NodeRow) (gv : Value) (root : Int) (w : World) (hg : GraphAt w w.heap.size gv rows) (hok : okG (nodesOf rows)) (hn : rows.length ≤ 2 ^ 40) (hs : edgesN rows ≤ 2 ^ 40) :
    Calls Try.prog 5 #[gv, .int .i64 root] w (StepsAns w) := by
  have hgs := hg.sl
  obtain ⟨_, A, c, rfl, _, _, _⟩ := hgs
  go_enter Try.func5, Try.ntmps5
  go_wp2_with fail
  refine Calls.mono (heavy_any rows _ w hg hn hs) ?_
  rintro e w1 ⟨rfl, hB1⟩
  by_cases hh : 40 < rows.length ∨ 200 < edgesN rows
  · rw [decide_eq_true hh]
    clear hh
    go_wp2_with fail
    refine Calls.mono (works17_any _) ?_
    rintro e w2 ⟨rfl, hB2⟩
    go_wp2_with fail
    go_ret
    exact ⟨rfl, hB1.trans (hB2.mono hB1.size)⟩
  rw [decide_eq_false hh]
  by_cases hr0 : root < 0
  · go_wp2_with fail
    refine Calls.mono (works17_any _) ?_
    rintro e w2 ⟨rfl, hB2⟩
    go_wp2_with fail
    go_ret
    exact ⟨rfl, hB1.trans (hB2.mono hB1.size)⟩
  by_cases hr1 : (rows.length : Int) ≤ root
  · go_wp2_with fail
    refine Calls.mono (works17_any _) ?_
    rintro e w2 ⟨rfl, hB2⟩
    go_wp2_with fail
    go_ret
    exact ⟨rfl, hB1.trans (hB2.mono hB1.size)⟩
  obtain ⟨r, rfl⟩ : ∃ r : Nat, root = r := ⟨root.toNat, by omega⟩
  have hr : r < rows.length := by omega
  have hd0 : decide ((r : Int) < 0) = false := decide_eq_false hr0
  have hd1 : decide ((rows.length : Int) ≤ (r : Int)) = false := decide_eq_false hr1
  have hd2 : decide (rows.length ≤ r) = false := decide_eq_false (by omega)
  have hh1 : rows.length ≤ 40 := by omega
  have hh2 : edgesN rows ≤ 200 := by omega
  clear hh hr0 hr1 hn hs
  go_wp2_with fail
  go_loopg [5] rows.length (fun m i wr => ∃ k : Nat, k ≤ rows.length ∧ m = rows.length - k ∧ i = .int .i64 k ∧ GoodSTo rows k ∧ Below w.heap.size w wr)
  case atStart => exact ⟨0, Nat.zero_le _, rfl, rfl, GoodSTo.start _, hB1⟩
  case round =>
    obtain ⟨k, hk, rfl, rfl, hgd, hbk⟩ := hrel
    obtain ⟨w2, rfl⟩ : ∃ x : World, x = wr := ⟨_, rfl⟩
    clear hd0 hd1 hd2
    by_cases hkl : k < rows.length
    · have hg2 := hg.below hbk
      obtain ⟨bg, og, rfl, hbg, hrow⟩ := Sl.row nodeCells_len hg2.sl hkl
      have h0 := hrow 0 _ rfl
      have h1 := hrow 1 _ rfl
      have h5 := hrow 5 _ rfl
      simp only [Nat.add_zero] at h0
      obtain ⟨_, A5, c5, he5, _⟩ := hg2.edges _ (List.getElem_mem hkl)
      have hed := hg2.edges _ (List.getElem_mem hkl)
      have hel := edgesN_mem (List.getElem_mem hkl)
      obtain ⟨x, hx⟩ : ∃ x, x = rows[k] := ⟨_, rfl⟩
      rw [← hx] at h0 h1 h5 he5 hed hel
      rw [he5] at h5 hed
      replace hx := Lib.hid hx
      replace hg := Lib.hid hg
      replace hgd := Lib.hid hgd
      replace hed := Lib.hid hed
      replace hg2 := Lib.hid (hg2.more hbk.size)
      have hzw := hbk.size
      clear hrow he5
      by_cases hnet : x.node.network = true
      · rw [hnet] at h0
        clear hnet
        go_wp2_with fail
        refine Calls.mono (works17_any _) ?_
        rintro e w3 ⟨rfl, hB3⟩
        go_wp2_with fail
        go_ret
        exact ⟨rfl, hbk.trans (hB3.mono hbk.size)⟩
      replace hnet : x.node.network = false := by simpa using hnet
      rw [hnet] at h0
      replace hnet := Lib.hid hnet
      by_cases hid : x.node.id = 0
      · rw [hid] at h1
        clear hid
        go_wp2_with fail
        refine Calls.mono (works17_any _) ?_
        rintro e w3 ⟨rfl, hB3⟩
        go_wp2_with fail
        go_ret
        exact ⟨rfl, hbk.trans (hB3.mono hbk.size)⟩
      have hidb : (x.node.id == 0) = false := beq_eq_false_iff_ne.2 hid
      replace hid := Lib.hid hid
      go_wp2_with fail
      refine Calls.mono (find_any rows _ false x.node.id w2 hg2.out (by omega)) ?_
      rintro e w3 hp
      obtain ⟨z, rfl, hB3, hz⟩ := find_at hp k
      clear hp hidb
      have hbk3 := hbk.trans (hB3.mono hzw)
      have hzw3 := hbk3.size
      by_cases hzk : z = (k : Int)
      · have hfirst := Lib.hid (hz rfl hzk)
        subst hzk
        have hnb : ((k : Int) != (k : Int)) = false := by simp
        have h53 := (hB3.cell (p := ⟨bg, og + k * 7 + 5, none⟩) (show bg < _ by omega)).trans h5
        clear hz h0 h1 h5
        go_wp2_with fail
        go_loopg [6] x.node.edges.length (fun m j wr => ∃ q : Nat, q ≤ x.node.edges.length ∧ m = x.node.edges.length - q ∧ j = .int .i64 q ∧ (∀ e ∈ x.node.edges.take q, 0 ≤ e.to ∧ e.to < (rows.length : Int) ∧ e.to ≠ (k : Int) ∧ 1 ≤ e.cost ∧ e.cost ≤ 65536) ∧ Below w3.heap.size w3 wr)
        case atStart => exact ⟨0, Nat.zero_le _, rfl, rfl, by simp, Below.refl _ _⟩
        case round =>
          obtain ⟨q, hq, rfl, rfl, hall, hB34⟩ := hrel
          obtain ⟨w4, rfl⟩ : ∃ x : World, x = wr := ⟨_, rfl⟩
          replace hall := Lib.hid hall
          have hz4 := hB34.size
          have j5 := (hB34.cell (p := ⟨bg, og + k * 7 + 5, none⟩) (show bg < _ by omega)).trans h53
          have hbk4 := hbk3.trans (hB34.mono hzw3)
          clear h53 hnb
          by_cases hql : q < x.node.edges.length
          · obtain ⟨be, oe, rfl, hbe, hrowe⟩ := Sl.row edgeCells_len ((hed.out.below (hB3.mono hzw)).below (hB34.mono hzw3)) hql
            have e0 := hrowe 0 _ rfl
            have e1 := hrowe 1 _ rfl
            have e2 := hrowe 2 _ rfl
            have e3 := hrowe 3 _ rfl
            simp only [Nat.add_zero] at e0
            clear hrowe
            generalize hE : x.node.edges[q] = E at *
            replace hE := Lib.hid hE
            by_cases ht0 : E.to < 0
            · have db := decide_eq_true ht0
              clear ht0
              go_wp2_with fail
              refine Calls.mono (works17_any _) ?_
              rintro e w5 ⟨rfl, hB5⟩
              go_wp2_with fail
              go_ret
              exact ⟨rfl, (hbk4.alloc (by omega) _).trans (hB5.mono (by simp; omega))⟩
            have da := decide_eq_false ht0
            by_cases ht1 : (rows.length : Int) ≤ E.to
            · have db := decide_eq_true ht1
              clear ht1 ht0
              go_wp2_with fail
              refine Calls.mono (works17_any _) ?_
              rintro e w5 ⟨rfl, hB5⟩
              go_wp2_with fail
              go_ret
              exact ⟨rfl, (hbk4.alloc (by omega) _).trans (hB5.mono (by simp; omega))⟩
            have db := decide_eq_false ht1
            by_cases ht2 : E.to = (k : Int)
            · have dc : (E.to == (k : Int)) = true := beq_iff_eq.2 ht2
              clear ht0 ht1 ht2
              go_wp2_with fail
              refine Calls.mono (works17_any _) ?_
              rintro e w5 ⟨rfl, hB5⟩
              go_wp2_with fail
              go_ret
              exact ⟨rfl, (hbk4.alloc (by omega) _).trans (hB5.mono (by simp; omega))⟩
            have dc : (E.to == (k : Int)) = false := beq_eq_false_iff_ne.2 ht2
            by_cases ht3 : E.cost < 1
            · have dd := decide_eq_true ht3
              clear ht0 ht1 ht2 ht3
              go_wp2_with fail
              refine Calls.mono (works17_any _) ?_
              rintro e w5 ⟨rfl, hB5⟩
              go_wp2_with fail
              go_ret
              exact ⟨rfl, (hbk4.alloc (by omega) _).trans (hB5.mono (by simp; omega))⟩
            have dd := decide_eq_false ht3
            by_cases ht4 : 65536 < E.cost
            · have de := decide_eq_true ht4
              clear ht0 ht1 ht2 ht3 ht4
              go_wp2_with fail
              refine Calls.mono (works17_any _) ?_
              rintro e w5 ⟨rfl, hB5⟩
              go_wp2_with fail
              go_ret
              exact ⟨rfl, (hbk4.alloc (by omega) _).trans (hB5.mono (by simp; omega))⟩
            have de := decide_eq_false ht4
            have Ht : 0 ≤ E.to ∧ E.to < (rows.length : Int) ∧ E.to ≠ (k : Int) ∧ 1 ≤ E.cost ∧ E.cost ≤ 65536 := by omega
            replace Ht := Lib.hid Ht
            clear ht0 ht1 ht2 ht3 ht4
            go_wp2_with fail
            go_roundg (x.node.edges.length - (q + 1))
            case measure => omega
            case rel =>
              refine ⟨q + 1, by omega, rfl, by go_num, ?_, hB34.alloc hz4 _⟩
              rw [List.take_succ_eq_append_getElem hql, hE.out]
              intro e he
              rcases List.mem_append.1 he with he | he
              · exact hall.out e he
              · rw [List.mem_singleton] at he
                subst he
                exact Ht.out
          · obtain rfl : q = x.node.edges.length := by omega
            have hq2 := hall.out
            rw [List.take_length] at hq2
            replace hq2 := Lib.hid hq2
            go_wp2_with fail
            go_roundg (rows.length - (k + 1))
            case measure => omega
            case rel => exact ⟨k + 1, by omega, rfl, by go_num, hgd.out.step hkl (by rw [← hx.out]; exact ⟨hnet.out, hid.out, hfirst.out, hq2.out⟩), hbk4⟩
      · have hnb : (z != (k : Int)) = true := bne_iff_ne.2 hzk
        clear hz hzk
        go_wp2_with fail
        refine Calls.mono (works17_any _) ?_
        rintro e w4 ⟨rfl, hB4⟩
        go_wp2_with fail
        go_ret
        exact ⟨rfl, hbk3.trans (hB4.mono hzw3)⟩
    · obtain rfl : k = rows.length := by omega
      have hgood := Lib.hid hgd
      clear hgd
      go_wp2_with fail
      refine Calls.mono (given_any rows _ w2 ((hg.below hbk).more hbk.size) (by omega) (by omega)) ?_
      rintro e w3 ⟨v3, rs3, rfl, hcp, hnd, hB3⟩
      have hnd' : nodesOf rs3 = nodesOf rows := hnd
      have hl3 : rs3.length = rows.length := by have := congrArg List.length hnd; simpa using this
      have hg3 := hcp.graph
      have hB23 := hB3
      have hU : (esOf (nodesOf rows) r).length * (rows.length + 1) ≤ 400000 := by
        rw [esOf_rows hr]
        have := edgesN_mem (List.getElem_mem hr)
        exact Nat.le_trans (Nat.mul_le_mul (show _ ≤ 200 by omega) (show _ ≤ 41 by omega)) (by omega)
      replace hU := Lib.hid hU
      obtain ⟨_, A3, c3, rfl, _⟩ := hg3.sl
      rw [hl3] at hg3
      go_wp2_with fail
      refine Calls.mono (from_any rs3 _ r w3 hg3 (by rw [hnd']; exact hok) (by omega) (by omega) (by rw [hnd', hl3]; exact hU.out)) ?_
      rintro e w4 hpost
      have hnz3 : NoZero rs3 := goodS_zero hgood.out hnd
      obtain ⟨v4, rs, cs, rfl, hout, hB4, hcost, hhops, hmap⟩ : FromRes w3 rs3 r e w4 := hpost.elim (·.2) (fun h => absurd hnz3 h.1)
      rw [hnd'] at hcost hhops
      have hrl : rs.length = rows.length := by have := hhops.len; simpa [nodesOf] using this
      have hbw : Below w.heap.size w w4 := hbk.trans ((hB23.trans (hB4.mono hB23.size)).mono hbk.size)
      obtain ⟨g4, cap4, rfl, hg4, hcells⟩ := found_rows hout hmap (by omega)
      rw [hrl]
      have hnl : (nodesOf rows).length = rows.length := nodesOf_len rows
      have hM : ∀ i, ∀ e ∈ esOf (nodesOf rows) i, e.cost ≤ ((65536 : Nat) : Int) := fun i e he => by
        have hi := esOf_lt he
        rw [hnl] at hi
        rw [esOf_rows hi] at he
        have := ((hgood.out i hi hi).2.2.2 e he).2.2.2.2
        omega
      have hsteps : ∀ i h, HopOf (nodesOf rows) r cs i h → _ := fun i h hh => Hops.steps hcost hok (by rw [hnl]; exact hr) (goodS_net hgood.out) (i := i) (h := h) hh
      have hmem : ∀ i (hi : i < rs.length) (q : Nat) (hq : q < rs[i].hops.length), HopOf (nodesOf rows) r cs i rs[i].hops[q] := fun i hi q hq => (hhops.mem i _).1 (by rw [hAt_map2 hi]; exact List.getElem_mem hq)
      replace hM := Lib.hid hM
      replace hsteps := Lib.hid hsteps
      replace hmem := Lib.hid hmem
      replace hcost := Lib.hid hcost
      replace hcells := Lib.hid hcells
      replace hok := Lib.hid hok
      replace hg := Lib.hid hg
      have hnb : ((rows.length : Int) != (rows.length : Int)) = false := by simp
      have hsz := hbw.size
      clear hpost hout hmap hhops hcp hnd hnd' hg3 hB3 hB23 hB4 hnz3 hbk hB1
      go_wp2_with fail
      go_loopg [9] rows.length (fun m i wr => ∃ k : Nat, k ≤ rows.length ∧ m = rows.length - k ∧ i = .int .i64 k ∧ Below w4.heap.size w4 wr)
      case atStart => exact ⟨0, Nat.zero_le _, rfl, rfl, Below.refl _ _⟩
      case round =>
        obtain ⟨i, hi, rfl, rfl, hB45⟩ := hrel
        obtain ⟨w5, rfl⟩ : ∃ x : World, x = wr := ⟨_, rfl⟩
        by_cases hil : i < rows.length
        · have hirs : i < rs.length := by rw [hrl]; exact hil
          go_wp2_with fail
          go_loopg [10] rs[i].hops.length (fun m j wr => ∃ q : Nat, q ≤ rs[i].hops.length ∧ m = rs[i].hops.length - q ∧ j = .int .i64 q ∧ Below w4.heap.size w4 wr)
          case atStart => exact ⟨0, Nat.zero_le _, rfl, rfl, hB45⟩
          case round =>
            obtain ⟨q, hq, rfl, rfl, hB46⟩ := hrel
            obtain ⟨w6, rfl⟩ : ∃ x : World, x = wr := ⟨_, rfl⟩
            have hbw6 := hbw.trans (hB46.mono hsz)
            have hz6 := hB46.size
            obtain ⟨ci0, ci1, A2, c2, ci2, hsl⟩ := hcells.out i hirs w6 hB46
            have hlm := sl_max hsl
            by_cases hql : q < rs[i].hops.length
            · have hHop := hmem.out i hirs q hql
              obtain ⟨_, hf, _⟩ := hHop.not_root
              obtain ⟨E0, hE0, ht0, ht1, hE1, hE2⟩ := hsteps.out i _ hHop
              obtain ⟨bh, oh, rfl, hbh, hrowh⟩ := Sl.row hopCells_len hsl hql
              have f0 := hrowh 0 _ rfl
              have f1 := hrowh 1 _ rfl
              have f2 := hrowh 2 _ rfl
              obtain ⟨t, ht⟩ : ∃ t : Nat, E0.to = t := ⟨E0.to.toNat, by omega⟩
              have htt : E0.to.toNat = t := by omega
              have htl : t < rows.length := by rw [hnl] at ht1; omega
              rw [hE1, htt, idAt_rows htl] at f0 f1 f2
              rw [htt] at hE2
              simp only [Nat.add_zero] at f0
              obtain ⟨idt, hidt⟩ : ∃ x, rows[t].node.id = x := ⟨_, rfl⟩
              rw [hidt] at f1
              replace hidt := Lib.hid hidt
              replace hE0 := Lib.hid hE0
              replace hE2 := Lib.hid hE2
              replace ht := Lib.hid ht
              replace hf := Lib.hid hf
              replace hE1 := Lib.hid hE1
              clear hrowh hHop ht0 ht1 htt hsl ci0 ci1
              go_wp2_with fail
              have hBW : Below w6.heap.size w6 (w6.alloc (.cells #[.int .u32 E0.data, .int .u32 idt, .bool E0.virt] 64)) := (Below.refl _ _).alloc (Nat.le_refl _) _
              have m0 : (w6.alloc (.cells #[.int .u32 E0.data, .int .u32 idt, .bool E0.virt] 64)).cell? ⟨w6.heap.size, 0, none⟩ = some (.int .u32 E0.data) := (World.cell?_alloc_at _ _ _ _ rfl).trans rfl
              have m2 : (w6.alloc (.cells #[.int .u32 E0.data, .int .u32 idt, .bool E0.virt] 64)).cell? ⟨w6.heap.size, 2, none⟩ = some (.bool E0.virt) := (World.cell?_alloc_at _ _ _ _ rfl).trans rfl
              have hzW : w6.heap.size < (w6.alloc (.cells #[.int .u32 E0.data, .int .u32 idt, .bool E0.virt] 64)).heap.size := by simp
              generalize (w6.alloc (.cells #[.int .u32 E0.data, .int .u32 idt, .bool E0.virt] 64)) = ww at *
              have hB4W : Below w4.heap.size w4 ww := hB46.trans (hBW.mono hz6)
              have hbW := hbw.trans (hB4W.mono hsz)
              have hgW := (hg.out.below hbW).more hbW.size
              clear f0 f1 f2 ci2
              refine Calls.mono (find_any rows _ false idt ww hgW (by omega)) ?_
              rintro e w7 hp
              obtain ⟨rfl, hB7⟩ := find_to hgood.out htl hidt.out hp
              have hd : decide ((t : Int) < 0) = false := decide_eq_false (by omega)
              have hbw7 := hbW.trans (hB7.mono hbW.size)
              have hg7 := (hg.out.below hbw7).more hbw7.size
              clear hp hgW
              go_wp2_with fail
              refine Calls.mono (given_any rows _ w7 hg7 (by omega) (by omega)) ?_
              rintro e w8 ⟨v8, rs8, rfl, hcp8, hnd8, hB8⟩
              have hnd8' : nodesOf rs8 = nodesOf rows := hnd8
              have hl8 : rs8.length = rows.length := by have := congrArg List.length hnd8; simpa using this
              have hg8 := hcp8.graph
              have hU8 : (esOf (nodesOf rows) t).length * (rows.length + 1) ≤ 400000 := by
                rw [esOf_rows htl]
                have := edgesN_mem (List.getElem_mem htl)
                exact Nat.le_trans (Nat.mul_le_mul (show _ ≤ 200 by omega) (show _ ≤ 41 by omega)) (by omega)
              replace hU8 := Lib.hid hU8
              have hBB8 := hB8
              obtain ⟨_, A8, c8, rfl, _⟩ := hg8.sl
              rw [hl8] at hg8
              clear hg7 hd
              go_wp2_with fail
              refine Calls.mono (from_any rs8 _ t w8 hg8 (by rw [hnd8']; exact hok.out) (by omega) (by omega) (by rw [hnd8', hl8]; exact hU8.out)) ?_
              rintro e w9 hpost
              have hnz8 : NoZero rs8 := goodS_zero hgood.out hnd8
              obtain ⟨v9, rs9, cs9, rfl, hout9, hB9, hcost9, hhops9, hmap9⟩ : FromRes w8 rs8 t e w9 := hpost.elim (·.2) (fun h => absurd hnz8 h.1)
              rw [hnd8'] at hcost9 hhops9
              have hrl9 : rs9.length = rows.length := by have := hhops9.len; simpa [nodesOf] using this
              have hBW9 : Below ww.heap.size ww w9 := hB7.trans ((hBB8.trans (hB9.mono hBB8.size)).mono hB7.size)
              have hB49 : Below w4.heap.size w4 w9 := hB4W.trans (hBW9.mono hB4W.size)
              obtain ⟨g9, cap9, rfl, hg9, hcells9⟩ := found_rows hout9 hmap9 (by omega)
              rw [hrl9]
              obtain ⟨hf9, hsum⟩ := hE2.out cs9 hcost9
              have hb9 := hcost9.bound hok.out (by rw [hnl]; exact htl) (M := 65536) hM.out (i := i) (by rw [hnl]; exact hil) hf9
              have hx9 := (hcost9.rng i (by rw [hcost9.len, hnl]; exact hil)).1
              have hn40 : (65536 : Int) * ((nodesOf rows).length : Int) ≤ 65536 * 40 := by rw [hnl]; omega
              have hx40 : at_ cs9 i ≤ 65536 * 40 := Int.le_trans hb9 hn40
              have hni : i < rs9.length := by rw [hrl9]; exact hil
              have k0 := (hcells9 i hni w9 (Below.refl _ _)).1
              rw [decide_eq_true hf9] at k0
              replace hcells9 := Lib.hid hcells9
              replace hf9 := Lib.hid hf9
              replace hsum := Lib.hid hsum
              have hm0 := (hBW9.cell (p := ⟨w6.heap.size, 0, none⟩) hzW).trans m0
              have hm2 := (hBW9.cell (p := ⟨w6.heap.size, 2, none⟩) hzW).trans m2
              have hz69 : w6.heap.size < w9.heap.size := by have := hBW9.size; omega
              obtain ⟨p0, hp0, hpe⟩ := List.mem_iff_getElem.1 hE0.out
              have hes := esOf_rows hr
              have hpl : p0 < rows[r].node.edges.length := by rw [← hes]; exact hp0
              replace hpe : rows[r].node.edges[p0]? = some E0 := by rw [← hes, List.getElem?_eq_getElem hp0, hpe]
              have hgr := hg.out
              have hedr := hgr.edges _ (List.getElem_mem hr)
              obtain ⟨bg, og, rfl, hbg, hrow⟩ := Sl.row nodeCells_len hgr.sl hr
              have h5 := hrow 5 _ rfl
              obtain ⟨_, A5, c5, he5, _⟩ := hgr.edges _ (List.getElem_mem hr)
              have hgx := (hgood.out r hr hr).2.2.2
              have hok5 : ∀ e ∈ rows[r].node.edges, 0 ≤ e.cost ∧ e.cost ≤ 65536 := fun e he => by have := hgx e he; omega
              have hel := edgesN_mem (List.getElem_mem hr)
              obtain ⟨es, hx⟩ : ∃ es, es = rows[r].node.edges := ⟨_, rfl⟩
              rw [← hx] at he5 hedr hok5 hpl hel hpe
              rw [he5] at h5 hedr
              replace hok5 := Lib.hid hok5
              replace hedr := Lib.hid hedr
              replace hpe := Lib.hid hpe
              clear hpost hout9 hmap9 hhops9 hcost9 hb9 hn40 hcp8 hnd8 hnd8' hg8 hnz8 hB8 hBB8 hB9 hB7 hBW9 m0 m2 hrow he5 hgx hes hp0 hgr hx hbW hbw7
              have hbw9 := hbw.trans (hB49.mono hsz)
              go_wp2_with fail
              go_loopg [14, 15] es.length (fun m fits j wr => ∃ (p : Nat) (b : Bool), p ≤ es.length ∧ m = es.length - p ∧ fits = .bool b ∧ j = .int .i64 p ∧ (p0 < p → b = true) ∧ Below w9.heap.size w9 wr)
              case atStart => exact ⟨0, false, Nat.zero_le _, rfl, rfl, rfl, fun h => absurd h (by omega), Below.refl _ _⟩
              case round =>
                obtain ⟨p, b, hp, rfl, rfl, rfl, hb, hB910⟩ := hrel
                obtain ⟨w10, rfl⟩ : ∃ x : World, x = wr := ⟨_, rfl⟩
                have hB410 : Below w4.heap.size w4 w10 := hB49.trans (hB910.mono hB49.size)
                have hbw10 := hbw.trans (hB410.mono hsz)
                have j5 := (hbw10.cell (p := ⟨bg, og + r * 7 + 5, none⟩) hbg).trans h5
                replace hb := Lib.hid hb
                clear h5 k0
                by_cases hpl2 : p < es.length
                · obtain ⟨be, oe, rfl, hbe, hrowe⟩ := Sl.row edgeCells_len (hedr.out.below hbw10) hpl2
                  have e0 := hrowe 0 _ rfl
                  have e1 := hrowe 1 _ rfl
                  have e2 := hrowe 2 _ rfl
                  have e3 := hrowe 3 _ rfl
                  simp only [Nat.add_zero] at e0
                  have hcE := hok5.out _ (List.getElem_mem hpl2)
                  have n0 := (hB910.cell (p := ⟨w6.heap.size, 0, none⟩) hz69).trans hm0
                  have n2 := (hB910.cell (p := ⟨w6.heap.size, 2, none⟩) hz69).trans hm2
                  obtain ⟨_, r1, _⟩ := hcells.out i hirs w10 hB410
                  replace r1 := r1 hf.out
                  obtain ⟨_, s1, _⟩ := hcells9.out i hni w10 hB910
                  replace s1 := s1 hf9.out
                  obtain ⟨E, hE⟩ : ∃ E, E = es[p] := ⟨_, rfl⟩
                  rw [← hE] at e0 e1 e2 e3 hcE
                  replace hE := Lib.hid hE
                  have hwr : IntKind.u32.wrap (E.cost + at_ cs9 i) = E.cost + at_ cs9 i := IntWalk.u32_in _ (by omega)
                  have hzb : bg < w10.heap.size := by have := hbw10.size; omega
                  have hze : be < w10.heap.size := by have := hbw10.size; omega
                  have hz6' : w6.heap.size < w10.heap.size := by have := hB910.size; omega
                  have hz4 : g4 < w10.heap.size := by have := hB410.size; omega
                  have hz9 : g9 < w10.heap.size := by have := hB910.size; omega
                  clear hrowe hm0 hm2
                  have key : p0 = p → E.to = (t : Int) ∧ E.data = E0.data ∧ E.virt = E0.virt ∧ E.cost + at_ cs9 i = at_ cs i := fun h => by
                    have h1 := hpe.out
                    rw [h, List.getElem?_eq_getElem hpl2] at h1
                    have h2 : E = E0 := by rw [hE.out]; exact Option.some.inj h1
                    rw [h2]
                    exact ⟨ht.out, rfl, rfl, hsum.out⟩
                  have noFit : ¬ (E.to = (t : Int) ∧ E.data = E0.data ∧ E.virt = E0.virt ∧ E.cost + at_ cs9 i = at_ cs i) → b = false → ¬ p0 < p + 1 := fun hne hbf h => by
                    rcases Nat.lt_succ_iff_lt_or_eq.1 h with h1 | h1
                    · rw [hb.out h1] at hbf; cases hbf
                    · exact hne (key h1)
                  replace noFit := Lib.hid noFit
                  clear key
                  go_wp2_with fail
                  cases b with
                  | true =>
                    go_quiet (fail)
                    go_wp2_with fail
                    go_roundg (es.length - (p + 1))
                    case measure => omega
                    case rel => exact ⟨p + 1, true, by omega, rfl, rfl, by go_num, fun _ => rfl, below_drewN (hB910.alloc hB910.size _) nq⟩
                  | false =>
                    by_cases q1 : E.to = (t : Int)
                    · have b1 : (E.to == (t : Int)) = true := beq_iff_eq.2 q1
                      replace q1 := Lib.hid q1
                      by_cases q2 : E.data = E0.data
                      · have b2 : (E.data == E0.data) = true := beq_iff_eq.2 q2
                        replace q2 := Lib.hid q2
                        by_cases q3 : E.virt = E0.virt
                        · have b3 : (E.virt == E0.virt) = true := beq_iff_eq.2 q3
                          replace q3 := Lib.hid q3
                          by_cases q4 : E.cost + at_ cs9 i = at_ cs i
                          · have b4 : (E.cost + at_ cs9 i == at_ cs i) = true := beq_iff_eq.2 q4
                            replace q4 := Lib.hid q4
                            go_quiet (fail)
                            go_wp2_with fail
                            go_roundg (es.length - (p + 1))
                            case measure => omega
                            case rel => exact ⟨p + 1, true, by omega, rfl, rfl, by go_num, fun _ => rfl, below_drewN (hB910.alloc hB910.size _) nq⟩
                          · have b4 : (E.cost + at_ cs9 i == at_ cs i) = false := beq_eq_false_iff_ne.2 q4
                            replace q4 := Lib.hid q4
                            go_quiet (fail)
                            go_wp2_with fail
                            go_roundg (es.length - (p + 1))
                            case measure => omega
                            case rel => exact ⟨p + 1, false, by omega, rfl, rfl, by go_num, fun h => absurd h (noFit.out (fun k => q4.out k.2.2.2) (by trivial)), below_drewN (hB910.alloc hB910.size _) nq⟩
                        · have b3 : (E.virt == E0.virt) = false := beq_eq_false_iff_ne.2 q3
                          replace q3 := Lib.hid q3
                          go_quiet (fail)
                          go_wp2_with fail
                          go_roundg (es.length - (p + 1))
                          case measure => omega
                          case rel => exact ⟨p + 1, false, by omega, rfl, rfl, by go_num, fun h => absurd h (noFit.out (fun k => q3.out k.2.2.1) (by trivial)), below_drewN (hB910.alloc hB910.size _) nq⟩
                      · have b2 : (E.data == E0.data) = false := beq_eq_false_iff_ne.2 q2
                        replace q2 := Lib.hid q2
                        go_quiet (fail)
                        go_wp2_with fail
                        go_roundg (es.length - (p + 1))
                        case measure => omega
                        case rel => exact ⟨p + 1, false, by omega, rfl, rfl, by go_num, fun h => absurd h (noFit.out (fun k => q2.out k.2.1) (by trivial)), below_drewN (hB910.alloc hB910.size _) nq⟩
                    · have b1 : (E.to == (t : Int)) = false := beq_eq_false_iff_ne.2 q1
                      replace q1 := Lib.hid q1
                      go_quiet (fail)
                      go_wp2_with fail
                      go_roundg (es.length - (p + 1))
                      case measure => omega
                      case rel => exact ⟨p + 1, false, by omega, rfl, rfl, by go_num, fun h => absurd h (noFit.out (fun k => q1.out k.1) (by trivial)), below_drewN (hB910.alloc hB910.size _) nq⟩
                · obtain rfl : p = es.length := by omega
                  obtain rfl : b = true := hb.out hpl
                  go_wp2_with fail
                  go_roundg (rs[i].hops.length - (q + 1))
                  case measure => omega
                  case rel => exact ⟨q + 1, by omega, rfl, by go_num, hB410⟩
            · obtain rfl : q = rs[i].hops.length := by omega
              clear ci0 ci1 hsl
              go_wp2_with fail
              go_roundg (rows.length - (i + 1))
              case measure => omega
              case rel => exact ⟨i + 1, by omega, rfl, by go_num, hB46⟩
        · obtain rfl : i = rows.length := by omega
          have hbw5 := hbw.trans (hB45.mono hsz)
          go_wp2_with fail
          refine Calls.mono (works17_any _) ?_
          rintro e w9 ⟨rfl, hB9⟩
          go_wp2_with fail
          go_ret
          exact ⟨rfl, hbw5.trans (hB9.mono hbw5.size)⟩
end Go.Proofs.Ytdilbcmnfpmijaa
