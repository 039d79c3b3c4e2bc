/- tree's walk.spread: the hops, from node to node, till nothing changes. -/
import Derived.Test.YtdilbcmnfpmijaaTreeE
namespace Go.Proofs.Ytdilbcmnfpmijaa
open Go.RowKit Go.Lo

theorem intT : ElT Try.prog 129 3 1 8 := ⟨by kernel_rfl, by
  obtain ⟨i, hi, h1, h2, h3⟩ := info_parts (show (Try.prog.info? 3).map (fun i => (i.zero, i.size, i.bytes)) = some (some (.int .i64 0), 1, 8) by kernel_rfl)
  exact ⟨i, _, hi, h1, h2, h3, rfl⟩, by omega⟩
def ints (l : List Nat) : List Value := l.map fun (i : Nat) => .int .i64 (i : Int)
theorem own_ne {w : World} {b1 b2 e1 e2 s1 s2 n1 n2 k : Nat} {v1 v2 : Value} {x1 x2 : List Value} (h1 : w.ownsRow b1 e1 s1 v1 n1 x1) (h2 : w.ownsRow b2 e2 s2 v2 n2 x2) (hne : e1 ≠ e2) (h : v1.ownBlock = some k) : v2.ownBlock ≠ some k := by
  rcases h1.2 with ⟨rfl, _⟩ | ⟨g1, c1, cur1, rfl, _, hg1, _⟩
  · cases h
  · rcases h2.2 with ⟨rfl, _⟩ | ⟨g2, c2, cur2, rfl, _, hg2, _⟩
    · simp [Value.ownBlock]
    · intro h3
      injection h with h
      injection h3 with h3
      have e : g1 = g2 := h.trans h3.symm
      rw [e, hg2] at hg1
      injection hg1 with hg1
      injection hg1 with _ ht
      exact hne ht.symm

theorem run_tail {P : Program} {t e : TypeId} {s bytes : Nat} (E : ElT P t e s bytes) (A : Option Addr) (n cap : Nat) (_hc : n + 1 ≤ cap) (W : World) :
    (Instr.sliceAt t (.slice A (n + 1) cap) (some (.int .i64 1)) none none).run P W = .ok (.slice (if cap = 1 then A else A.map (·.add (1 * s))) n (cap - 1)) W := by
  obtain ⟨i, z, hi, hz, hsz, hby, hzs⟩ := E.info
  have he : P.elem t = e := by simp [Program.elem, E.sl]
  have hu : P.underlying t = some (.slice (P.elem t)) := by rw [he]; exact E.sl
  rw [run_sliceAt_slice W t _ _ _ _ hu, run_slice_l W t A (n + 1) cap hu .i64 1 (by omega) (by omega), he]
  simp [sizeOf, typeInfo, hi, hsz, sliced]
/-- 'v[1:]' of a row that may have been cut already -/
theorem tail_ex {P : Program} {t e : TypeId} {s bytes : Nat} (E : ElT P t e s bytes) {w : World} {base n : Nat} {v : Value} {x xs : List Value} (h : OwnO w base e s v (n + 1) (x ++ xs)) (hx : x.length = s) :
    ∃ v2, (∀ W, (Instr.sliceAt t v (some (.int .i64 1)) none none).run P W = .ok v2 W) ∧ OwnO w base e s v2 n xs ∧ v2.ownBlock = v.ownBlock := by
  have h' := h
  obtain ⟨_, A, cap, rfl, hc, _, hA, hcell⟩ := h'
  refine ⟨_, run_tail E A n cap hc, OwnO.tail h hx, ?_⟩
  cases A with
  | none => have := hA rfl; omega
  | some ad =>
    obtain ⟨g, off, cur, rfl, _⟩ := hcell ad rfl
    split
    · rfl
    · simp [Value.ownBlock, addr_add]
theorem graph_keep {w w' : World} {B : Nat} {v : Value} {rows : List NodeRow} (h : GraphAt w B v rows) (hk : ∀ p : Addr, p.block < B → w'.cell? p = w.cell? p) : GraphAt w' B v rows :=
  ⟨h.sl.keep hk, fun r hr => (h.edges r hr).keep hk, h.svs⟩

/-- what holds at the head of spread's outer loop -/
def SRel (rows : List NodeRow) (root base : Nat) (w : World) (ov : Value) (c : List Int) (ics : List (Bool × Int)) (cur : Option (Nat × Nat)) (m : Nat) (tv : Value) (wr : World) : Prop :=
  ∃ todo rs, SInv (nodesOf rows) root c todo (rs.map ReachRow.hops) cur ∧ rs.map (fun r => (r.is, r.cost)) = ics ∧
    2 * (rows.length * ((esOf (nodesOf rows) root).length * (rows.length + 1)) - sumH (rs.map ReachRow.hops)) + todo.length ≤ m ∧ todo.length ≤ 1 + sumH (rs.map ReachRow.hops) ∧
    OwnO wr w.heap.size 3 1 tv todo.length (ints todo) ∧ OutAt wr base ov rs ∧ w.grownBy wr ov.ownBlock

theorem SRel.keep {rows : List NodeRow} {root base : Nat} {w : World} {ov : Value} {c : List Int} {ics : List (Bool × Int)} {cur : Option (Nat × Nat)} {m : Nat} {tv : Value} {wr wr' : World}
    (h : SRel rows root base w ov c ics cur m tv wr) (hb : Below wr.heap.size wr wr') : SRel rows root base w ov c ics cur m tv wr' := by
  obtain ⟨todo, rs, h1, h2, h3, h4, h5, h6, h7⟩ := h
  exact ⟨todo, rs, h1, h2, h3, h4, h5.keep fun k hk _ _ => hb.block k hk, h6.same fun k hk => hb.block k hk, grown_trans h7 (grown_of_below hb _)⟩

theorem own_mono {w : World} {base base' : Nat} {e : TypeId} {s : Nat} {v : Value} {n : Nat} {xs : List Value} (h : w.ownsRow base e s v n xs) (hb : base' ≤ base) : w.ownsRow base' e s v n xs :=
  ⟨h.1, h.2.imp id fun ⟨g, cap, cur, h1, h2, h3⟩ => ⟨g, cap, cur, h1, Nat.le_trans hb h2, h3⟩⟩
theorem own_apart {w1 w2 : World} {b1 e1 s1 n1 e2 s2 n2 : Nat} {v1 v2 : Value} {x1 x2 : List Value} (h1 : w1.ownsRow b1 e1 s1 v1 n1 x1) (h2 : w2.ownsRow w1.heap.size e2 s2 v2 n2 x2) : v2.ownBlock = none ∨ v2.ownBlock ≠ v1.ownBlock := by
  cases h : v2.ownBlock with
  | none => exact .inl rfl
  | some q =>
    refine .inr fun h3 => ?_
    have := (h2.lt q h).1
    have := (h1.lt q h3.symm).2
    omega
theorem own_apart2 {w2 : World} {b2 e2 s2 n2 : Nat} {v1 v2 : Value} {x2 : List Value} (h2 : w2.ownsRow b2 e2 s2 v2 n2 x2) (h1 : v1.ownBlock = none ∨ v1.ownBlock = some w2.heap.size) : v2.ownBlock = none ∨ v2.ownBlock ≠ v1.ownBlock := by
  cases h : v2.ownBlock with
  | none => exact .inl rfl
  | some q =>
    refine .inr fun h3 => ?_
    have := (h2.lt q h).2
    rcases h1 with h1 | h1 <;> rw [← h3] at h1
    · cases h1
    · injection h1 with h1; omega
theorem hAt_rows {rs : List ReachRow} {t : Nat} (h : t < rs.length) : hAt (rs.map ReachRow.hops) t = rs[t].hops := by simp [hAt, h]
theorem step_len (g : List GNode) (root i : Nat) (e : GEdge) (l : List Hop) : (stepHops g root i e l).length ≤ l.length + 1 := by
  unfold stepHops
  split <;> simp

theorem graph_edge {w : World} {B : Nat} {v : Value} {rows : List NodeRow} (h : GraphAt w B v rows) {i k n c : Nat} {A : Option Addr} {es : List GEdge} (hi : i < rows.length) (hev : rows[i].ev = .slice A n c) (hes : rows[i].node.edges = es) (hk : k < es.length) :
    ∃ be oe, A = some ⟨be, oe, none⟩ ∧ be < B ∧ ∀ j u, (edgeCells es[k])[j]? = some u → w.cell? ⟨be, oe + k * 4 + j, none⟩ = some u := by
  subst hes
  have h1 := h.edges _ (List.getElem_mem hi)
  rw [hev] at h1
  have h2 := h1
  obtain ⟨_, A', c', hv, _⟩ := h2
  simp only [Value.slice.injEq] at hv
  obtain ⟨rfl, rfl, rfl⟩ := hv
  exact Sl.row edgeCells_len h1 hk

set_option maxRecDepth 100000 in
set_option maxHeartbeats 16000000 in
theorem spread_any (rows : List NodeRow) (B base wb : Nat) (gv cv ov : Value) (root : Nat) (c : List Int) (rs0 : List ReachRow) (w : World)
    (hw : Blk w wb 97 #[gv, .int .i64 root, cv, ov]) (hg : GraphAt w B gv rows) (hBb : B ≤ base) (hbw : base ≤ w.heap.size) (hok : okG (nodesOf rows)) (hr : root < rows.length) (hn : rows.length ≤ 250)
    (hU : (esOf (nodesOf rows) root).length * (rows.length + 1) ≤ 400000)
    (hc : w.ownsRow base 98 1 cv c.length (u64s c)) (hcl : c.length = rows.length) (hcr : ∀ i, i < c.length → 0 ≤ at_ c i ∧ at_ c i ≤ far) (hwo : ov.ownBlock ≠ some wb)
    (ho : OutAt w base ov rs0) (hrs : rs0.length = rows.length) (hh0 : rs0.map ReachRow.hops = List.replicate rows.length []) :
    Calls Try.prog 30 #[.pointer (some ⟨wb, 0, none⟩)] w
      fun e w' => e = .returned (.tuple #[]) ∧ ∃ rs, Hops (nodesOf rows) root c (rs.map ReachRow.hops) ∧ rs.map (fun r => (r.is, r.cost)) = rs0.map (fun r => (r.is, r.cost)) ∧ OutAt w' base ov rs ∧ w.grownBy w' ov.ownBlock := by
  have hwl := hw.lt
  have hw1 : w.cell? ⟨wb, 1, none⟩ = some (.int .i64 root) := hw.cell 1
  obtain ⟨gc, cc, rfl, hcb, hcg⟩ := hc.form (by omega)
  have Hcr := Lib.hid hcr
  clear hcr
  go_enter Try.func30, Try.ntmps30
  go_wp2_with fail
  have hN : ∀ i, (esOf (nodesOf rows) i).length = (esOf (nodesOf rows) i).length := fun _ => rfl
  clear hN
  go_loopg [2] (2 * (rows.length * ((esOf (nodesOf rows) root).length * (rows.length + 1))) + 1) (fun m tv wr => SRel rows root base w ov c (rs0.map fun r => (r.is, r.cost)) none m tv wr ∧ w.heap.size < wr.heap.size)
  case atStart =>
    refine ⟨⟨[root], rs0, ?_, rfl, ?_, ?_, ?_, ?_, ?_⟩, by simp⟩
    · rw [hh0]
      have := SInv.start (g := nodesOf rows) (c := c) (root := root) (by rw [nodesOf_len]; exact hr)
      rw [nodesOf_len] at this; exact this
    · simp; omega
    · simp
    · exact OwnO.of_own (World.ownsRow_lit (base := w.heap.size) (e := 3) (size := 1) w #[.int .i64 root] 1 (Nat.le_refl _) (by simp [maxLen]) rfl)
    · exact ho.same fun k hk => Below.heap_alloc _ _ _ hk
    · exact grown_alloc (grown_refl _ _) _
  case round =>
    obtain ⟨⟨todo, rs, hinv, hics, hm, htl, hto, hoa, hgr⟩, hz⟩ := hrel
    obtain ⟨w1, rfl⟩ : ∃ x : World, x = wr := ⟨_, rfl⟩
    cases todo with
    | nil =>
      obtain ⟨_, A, cap, rfl, _⟩ := hto
      go_wp2
      go_end0
      exact ⟨rfl, rs, hinv.hops (by rw [nodesOf_len]; exact hr), hics, hoa, hgr⟩
    | cons t0 rest =>
      have hto' : OwnO w1 w.heap.size 3 1 u2 (rest.length + 1) ([.int .i64 (t0 : Int)] ++ ints rest) := hto
      obtain ⟨tv2, hsl, hto2, hob2⟩ := tail_ex intT hto' rfl
      obtain ⟨g2, o2, cap2, rfl, hc2, _, hbg2, hg2, hcell2⟩ := hto'.at_ (by omega)
      have ht0 := hcell2 0 _ rfl
      have htin := hinv.tod t0 (List.mem_cons_self ..)
      have hlt : t0 < rows.length := by have := htin.1; rw [nodesOf_len] at this; exact this
      simp only [Nat.add_zero] at ht0
      clear hcell2 hto hto'
      have hvl := ho.row.lt
      have hwb1 := hw.same (hgr.block wb hwl hwo.symm)
      have hg1 : GraphAt w1 B gv rows := graph_keep hg fun p hp => hgr.cell_far p (by omega) (fun e => by have := (hvl p.block e.symm).1; omega)
      have hcw1 := own_same hc (fun k hk => hgr.block k (hc.lt k hk).2 (fun e => own_ne hc ho.row (by decide) hk e.symm))
      have hgv := hg1.sl
      obtain ⟨_, Ag, cg, rfl, _, _, _⟩ := hgv
      obtain ⟨bg, og, rfl, hbg, hrow⟩ := Sl.row nodeCells_len hg1.sl hlt
      have hev := hrow 5 _ rfl
      obtain ⟨hel, A3, c3, he3, hec3, hcm3, hat3⟩ := hg1.edges _ (List.getElem_mem hlt)
      rw [he3] at hev
      have He3 := Lib.hid he3
      have hd0 : w1.cell? ⟨wb, 0, none⟩ = some (.slice (some ⟨bg, og, none⟩) rows.length cg) := hwb1.cell 0
      have hesl : rows[t0].node.edges.length ≤ 9223372036854775807 := by unfold maxLen at hcm3; omega
      clear hrow he3
      generalize hes : rows[t0].node.edges = es at *
      have Hes := Lib.hid hes
      clear hes
      go_wp2_with fail
      clear hsl ht0 hev hd0
      have hEs : esOf (nodesOf rows) t0 = es := by rw [esOf_rows hlt, Hes.out]
      have hrel1 : SRel rows root base w ov c (rs0.map fun r => (r.is, r.cost)) (some (t0, 0)) (2 * (rows.length * ((esOf (nodesOf rows) root).length * (rows.length + 1)) - sumH (rs.map ReachRow.hops)) + rest.length) tv2 w1 :=
        ⟨rest, rs, hinv.begin, hics, Nat.le_refl _, by simp at htl; omega, hto2, hoa, hgr⟩
      have hmm : 2 * (rows.length * ((esOf (nodesOf rows) root).length * (rows.length + 1)) - sumH (rs.map ReachRow.hops)) + rest.length < gk := by simp at hm; omega
      generalize 2 * (rows.length * ((esOf (nodesOf rows) root).length * (rows.length + 1)) - sumH (rs.map ReachRow.hops)) + rest.length = M at *
      have Hes2 := Lib.hid hEs
      clear hEs hinv hics hm htl hto2 hoa hgr hg1 hcw1 hwb1 htin hob2
      go_loopg [2, 29] es.length (fun m tv kk wr => ∃ k : Nat, k ≤ es.length ∧ m = es.length - k ∧ kk = .int .i64 k ∧ SRel rows root base w ov c (rs0.map fun r => (r.is, r.cost)) (some (t0, k)) M tv wr ∧ w.heap.size < wr.heap.size ∧ w1.heap.size ≤ wr.heap.size)
      case atStart => exact ⟨0, Nat.zero_le _, rfl, rfl, hrel1, hz, Nat.le_refl _⟩
      case round =>
        clear hrel1 hrs hh0
        obtain ⟨k, hk, rfl, rfl, ⟨todo, rs, hinv, hics, hm, htl, hto, hoa, hgr⟩, hz4, hz41⟩ := hrel
        obtain ⟨w4, rfl⟩ : ∃ x : World, x = wr := ⟨_, rfl⟩
        by_cases hkE : k < es.length
        · have hwb4 := hw.same (hgr.block wb hwl hwo.symm)
          have hg4 : GraphAt w4 B (.slice (some ⟨bg, og, none⟩) rows.length cg) rows := graph_keep hg fun p hp => hgr.cell_far p (by omega) (fun e => by have := (hvl p.block e.symm).1; omega)
          have hcw4 := own_same hc (fun k hk => hgr.block k (hc.lt k hk).2 (fun e => own_ne hc ho.row (by decide) hk e.symm))
          obtain ⟨be, oe, rfl, hbe, hee⟩ := graph_edge hg4 hlt He3.out Hes.out hkE
          have he0 := hee 0 _ rfl
          have he1 := hee 1 _ rfl
          have he2 := hee 2 _ rfl
          have he3 := hee 3 _ rfl
          simp only [Nat.add_zero] at he0
          have hek : ∃ e, es[k] = e := ⟨_, rfl⟩
          obtain ⟨⟨eto, ecost, edata, evirt⟩, hek⟩ := hek
          have hcost : 0 ≤ ecost ∧ ecost ≤ 4294967295 := by
            have := esOf_cost hok (i := t0) (e := es[k]) (by rw [Hes2.out]; exact List.getElem_mem hkE)
            rw [hek] at this; exact this
          obtain ⟨hc0', hc1'⟩ := hcost
          rw [hek] at he0 he1 he2 he3
          simp only at he0 he1 he2 he3
          have hek2 : (esOf (nodesOf rows) t0)[k]'(by rw [Hes2.out]; exact hkE) = ⟨eto, ecost, edata, evirt⟩ := by
            have e1 : (esOf (nodesOf rows) t0)[k]'(by rw [Hes2.out]; exact hkE) = es[k] := by congr 1 <;> first | exact Hes2.out | rfl
            rw [e1, hek]
          have Hek := Lib.hid hek2
          have hq1 : wb < w4.heap.size := by omega
          have hq2 : be < w4.heap.size := by omega
          clear hee hek hek2
          have hd0 : w4.cell? ⟨wb, 0, none⟩ = some (.slice (some ⟨bg, og, none⟩) rows.length cg) := hwb4.cell 0
          have hd1 : w4.cell? ⟨wb, 1, none⟩ = some (.int .i64 root) := hwb4.cell 1
          have hd2 : w4.cell? ⟨wb, 2, none⟩ = some (.slice (some ⟨gc, 0, none⟩) c.length cc) := hwb4.cell 2
          have hd3 : w4.cell? ⟨wb, 3, none⟩ = some ov := hwb4.cell 3
          have hgc4 : gc < w4.heap.size := by omega
          have hct0 := hcw4.cellAt t0 (by omega)
          rw [u64s_get (by omega)] at hct0
          have hr0 := Hcr.out t0 (by omega)
          obtain ⟨hr00, hr01⟩ := hr0
          have hr02 : at_ c t0 ≤ 4294967296 := hr01
          have hskip : ∀ W, Below w4.heap.size w4 W → ¬ Tight (nodesOf rows) root c t0 ⟨eto, ecost, edata, evirt⟩ → SRel rows root base w ov c (rs0.map fun r => (r.is, r.cost)) (some (t0, k + 1)) M u2 W ∧ w.heap.size < W.heap.size ∧ w1.heap.size ≤ W.heap.size := fun W hW hnt =>
            ⟨SRel.keep ⟨todo, rs, hinv.skip (by rw [Hes2.out]; exact hkE) (fun ht => absurd (by rw [Hek.out] at ht; exact ht) hnt), hics, hm, htl, hto, hoa, hgr⟩ hW, by have := hW.size; omega, by have := hW.size; omega⟩
          have Hskip := Lib.hid hskip
          have Hinv := Lib.hid hinv
          have Hics := Lib.hid hics
          have Htl := Lib.hid htl
          have Hg4 := Lib.hid hg4
          clear hskip hinv hics htl hg4 hr01
          by_cases h1 : 0 ≤ eto
          · obtain ⟨t, rfl⟩ := Int.eq_ofNat_of_zero_le h1
            have hn1 : decide ((t : Int) < 0) = false := decide_eq_false (by omega)
            by_cases h2 : t < rows.length
            · have hn2 : decide ((rows.length : Int) ≤ (t : Int)) = false := decide_eq_false (by omega)
              have hn3 : decide (rows.length ≤ t) = false := decide_eq_false (by omega)
              have hct := hcw4.cellAt t (by omega)
              rw [u64s_get (by omega)] at hct
              by_cases h3 : t = root
              · have hb3 : ((t : Int) == (root : Int)) = true := beq_iff_eq.2 (by rw [h3])
                have H3 := Lib.hid h3
                clear h3
                go_wp2_with fail
                go_quiet (fail)
                go_wp2_with fail
                go_roundg (es.length - (k + 1))
                case measure => omega
                case rel => exact ⟨k + 1, by omega, rfl, by go_num, Hskip.out _ (below_drewN ((Below.refl _ _).alloc (Nat.le_refl _) _) _) (fun ht => ht.2.2.1 (by rw [H3.out]))⟩
              · have hb3 : ((t : Int) == (root : Int)) = false := beq_eq_false_iff_ne.2 fun h => h3 (Int.ofNat.inj h)
                by_cases h4 : at_ c t0 + ecost = at_ c t
                · have hb4 : (at_ c t0 + ecost != at_ c t) = false := by rw [h4]; simp
                  have H4 := Lib.hid h4
                  clear h4
                  by_cases h5 : at_ c t < far
                  · have h5' : decide ((4294967296 : Int) ≤ at_ c t) = false := decide_eq_false (by unfold far at h5; omega)
                    have H5 := Lib.hid h5
                    clear h5
                    have htl : t < rs.length := by
                      have := Hinv.out.len
                      rw [List.length_map, nodesOf_len] at this; omega
                    have ht0l : t0 < rs.length := by
                      have := Hinv.out.len
                      rw [List.length_map, nodesOf_len] at this; omega
                    obtain ⟨go, co, rfl, hco, hbgo, hgo, hgf, hro⟩ := own_row reachCells_len hoa.row htl
                    have hrv := hro 2 _ rfl
                    have hhop := hoa.hop _ (List.getElem_mem htl)
                    have hsm := Hinv.out.small
                    have hl1 : rs[t].hops.length ≤ 400000 := by
                      have := hsm t
                      rw [hAt_rows htl, nodesOf_len] at this; omega
                    have hl0 : rs[t0].hops.length ≤ 400000 := by
                      have := hsm t0
                      rw [hAt_rows ht0l, nodesOf_len] at this; omega
                    clear hsm
                    go_wp2_with fail
                    go_quiet (fail)
                    go_wp2_with fail
                    have hBx : Below w4.heap.size w4 ((w4.alloc (.cells #[.int .i64 t, .int .u32 ecost, .int .u32 edata, .bool evirt] 88)).drewN nq) := below_drewN ((Below.refl _ _).alloc (Nat.le_refl _) _) nq
                    have hbx : Blk ((w4.alloc (.cells #[.int .i64 t, .int .u32 ecost, .int .u32 edata, .bool evirt] 88)).drewN nq) w4.heap.size 88 #[.int .i64 t, .int .u32 ecost, .int .u32 edata, .bool evirt] := Blk.new _ _ _
                    generalize (w4.alloc (.cells #[.int .i64 t, .int .u32 ecost, .int .u32 edata, .bool evirt] 88)).drewN nq = w7 at *
                    have hz7 : w4.heap.size < w7.heap.size := hbx.lt
                    have hB0 : Below w4.heap.size w4 w7 := hBx
                    have hwb7 := hwb4.below hBx hq1
                    have hg7 : GraphAt w7 B (.slice (some ⟨bg, og, none⟩) rows.length cg) rows := Hg4.out.below (hBx.mono (by omega))
                    have hoa7 := hoa.same fun k hk => hBx.block k hk
                    have hhop7 := hoa7.hop _ (List.getElem_mem htl)
                    have hrow7 := own_row reachCells_len hoa7.row htl
                    have hrv7 := (hBx.cell (p := ⟨go, t * 3 + 2, none⟩) hgo).trans hrv
                    have hto7 := hto.keep fun k hk _ _ => hBx.block k hk
                    have hgr7 := grown_trans hgr (grown_of_below hBx _)
                    have hgo7 : go < w7.heap.size := by omega
                    have hwb7l : wb < w7.heap.size := by omega
                    have hS0 : ∀ W, Below w7.heap.size w7 W → W.cell? ⟨wb, 3, none⟩ = some (.slice (some ⟨go, 0, none⟩) rs.length co) := fun W h => (h.cell (p := ⟨wb, 3, none⟩) hwb7l).trans (hwb7.cell 3)
                    have hS1 : ∀ W, Below w7.heap.size w7 W → W.cell? ⟨w4.heap.size, 0, none⟩ = some (.int .i64 t) := fun W h => (h.cell (p := ⟨w4.heap.size, 0, none⟩) hz7).trans (hbx.cell 0)
                    have hS2 : ∀ W, Below w7.heap.size w7 W → W.cell? ⟨w4.heap.size, 1, none⟩ = some (.int .u32 ecost) := fun W h => (h.cell (p := ⟨w4.heap.size, 1, none⟩) hz7).trans (hbx.cell 1)
                    have hS3 : ∀ W, Below w7.heap.size w7 W → W.cell? ⟨w4.heap.size, 2, none⟩ = some (.int .u32 edata) := fun W h => (h.cell (p := ⟨w4.heap.size, 2, none⟩) hz7).trans (hbx.cell 2)
                    have hS4 : ∀ W, Below w7.heap.size w7 W → W.cell? ⟨w4.heap.size, 3, none⟩ = some (.bool evirt) := fun W h => (h.cell (p := ⟨w4.heap.size, 3, none⟩) hz7).trans (hbx.cell 3)
                    have hS5 : ∀ W, Below w7.heap.size w7 W → W.cell? ⟨go, t * 3 + 2, none⟩ = some rs[t].hv := fun W h => (h.cell (p := ⟨go, t * 3 + 2, none⟩) hgo7).trans hrv7
                    have hH : ∀ W, Below w7.heap.size w7 W → Calls Try.prog 45 #[.pointer (some ⟨wb, 0, none⟩), .int .i64 t0, .agg #[.int .i64 t, .int .u32 ecost, .int .u32 edata, .bool evirt]] W
                        fun e w' => ∃ v, e = .returned v ∧ w'.ownsRow W.heap.size 64 3 v (stepHops (nodesOf rows) root t0 ⟨t, ecost, edata, evirt⟩ rs[t0].hops).length ((stepHops (nodesOf rows) root t0 ⟨t, ecost, edata, evirt⟩ rs[t0].hops).flatMap hopCells) ∧ Below W.heap.size W w' := fun W h =>
                      hops_any rows B base wb _ _ _ rs root t0 t ecost edata evirt W (hwb7.below h hwb7l) (hg7.below (h.mono (by omega))) (by have := h.size; omega) h2 hn hlt hr (hoa7.same fun k hk => h.block k hk) (by have := Hinv.out.len; rw [List.length_map, nodesOf_len] at this; exact this) (by omega)
                    have hml := step_len (nodesOf rows) root t0 ⟨t, ecost, edata, evirt⟩ rs[t0].hops
                    generalize hmore : stepHops (nodesOf rows) root t0 ⟨t, ecost, edata, evirt⟩ rs[t0].hops = more at *
                    have Hmore := Lib.hid hmore
                    clear hmore hd0 hd1 hd2 hd3 he0 he1 he2 he3 hct0 hct hrv hro hrow7 hwb4
                    have HH := Lib.hid hH
                    have Hhop := Lib.hid hhop7
                    have Hoa := Lib.hid hoa7
                    have Hto := Lib.hid hto7
                    have Hgr := Lib.hid hgr7
                    clear hH hhop7 hoa7 hto7 hgr7 hoa hto hgr hcw4 hhop
                    go_region_held3 (fun W => Below w7.heap.size w7 W) (first | exact (Below.refl _ _).drew | assumption)
                      (first
                        | (refine step_append rfl (.const (.slice none 0 0)) (.tmp 96) 57 rfl w7.heap.size hopT (.slice none 0 0) 0 [] rfl (World.ownsRow_nil _ _ _ _) w7.heap.size _ _ _ rfl ((Sl.of_own Hhop.out).below (by assumption)) hops_oneCell (by simp only [maxLen]; omega) (by omega) (Below.size (by assumption)) ?_; intro va wa howna hgra hoba; simp only [Nat.zero_add, List.nil_append] at howna; have hBa : Below w7.heap.size w7 wa := Below.trans (by assumption) (below_of_grown hgra (Below.size (by assumption)) (by simp [Value.ownBlock])))
                        | (go_at_call 45; refine Calls.mono (HH.out _ (by assumption)) ?_; rintro e wh ⟨vh, rfl, hownh, hBh⟩; have hBh' : Below w7.heap.size w7 wh := Below.trans (by assumption) (hBh.mono (Below.size (by assumption))))
                        | (go_at_call 31; first
                            | (refine Calls.mono (put_any w7.heap.size va rs[t].hops more vh _ (Below.size (by assumption)) (own_below howna hBh) (Sl.of_own hownh) (fun _ => own_apart howna hownh) (by omega)) ?_; rintro e wp ⟨vp, rfl, hpo, hpg, hpob⟩; have hBp : Below w7.heap.size w7 wp := Below.trans (by assumption) (below_of_grown hpg (Below.size (by assumption)) (fun q hq => (howna.lt q hq).1)))
                            | (refine Calls.mono (put_any w7.heap.size va rs[t].hops more vh _ (Below.size (by assumption)) howna (Sl.of_own (own_below hownh (below_of_grown hgra (Nat.le_refl _) (by simp [Value.ownBlock])))) (fun _ => own_apart2 hownh (by simpa [Value.ownBlock] using hoba)) (by omega)) ?_; rintro e wp ⟨vp, rfl, hpo, hpg, hpob⟩; have hBp : Below w7.heap.size w7 wp := Below.trans (by assumption) (below_of_grown hpg (Below.size (by assumption)) (fun q hq => (howna.lt q hq).1)))))
                    all_goals
                      rw [List.take_length] at hpo
                      have hT0 := hS0 wp hBp
                      have hT1 := hS1 wp hBp
                      have hT5 := hS5 wp hBp
                      obtain ⟨Ah, ch, hhv⟩ := hopValue Hhop.out
                      rw [hhv] at hT5
                      have Hhv := Lib.hid hhv
                      have hnpl := puts_length rs[t].hops more
                      generalize hnp : puts rs[t].hops more = np at *
                      have Hnp := Lib.hid hnp
                      obtain ⟨Ap, cp, rfl⟩ := hopValue hpo
                      clear hhv hnp hS0 hS1 hS2 hS3 hS4 hS5 howna hownh hgra hoba hBa hBh hBh' hpg hpob
                      have hzp : w7.heap.size ≤ wp.heap.size := hBp.size
                      by_cases hlen : np.length = rs[t].hops.length
                      · have hnb : ((np.length : Int) != (rs[t].hops.length : Int)) = false := by rw [hlen]; simp
                        have hnb2 : (np.length != rs[t].hops.length) = false := by rw [hlen]; simp
                        have Hlen := Lib.hid hlen
                        clear hlen
                        go_wp2_with fail
                        go_quiet (fail)
                        go_wp2_with fail
                        go_roundg (es.length - (k + 1))
                        case measure => omega
                        case rel =>
                          have hpo2 := puts_old (l := rs[t].hops) (m := more) (by rw [Hnp.out]; exact Hlen.out)
                          refine ⟨k + 1, by omega, rfl, by go_num, ⟨todo, rs, Hinv.out.skip (by rw [Hes2.out]; exact hkE) (fun _ x hx => ?_), Hics.out, hm, Htl.out, Hto.out.keep (fun k hk _ _ => hBp.block k hk), Hoa.out.same (fun k hk => hBp.block k hk), grown_trans Hgr.out (grown_of_below (below_drewN hBp _) _)⟩, by simp; omega, by simp; omega⟩
                          rw [Hek.out] at hx ⊢
                          rw [hAt_rows ht0l, Hmore.out] at hx
                          show x ∈ hAt (rs.map ReachRow.hops) t
                          rw [hAt_rows htl]
                          exact hpo2.2 x hx
                      · have hnb : ((np.length : Int) != (rs[t].hops.length : Int)) = true := bne_iff_ne.2 (fun h => hlen (Int.ofNat.inj h))
                        have hnb2 : (np.length != rs[t].hops.length) = true := bne_iff_ne.2 hlen
                        have Hlen := Lib.hid hlen
                        clear hlen
                        go_wp2_with fail
                        go_quiet (fail)
                        go_wp2_with fail
                        have hoap := own_below Hoa.out.row hBp
                        have hgf1 := hoap.frozenAt (t * 3 + 2)
                        have hgow : go < w.heap.size := (hvl go rfl).2
                        have hst := (hoap.stored (t * 3 + 2) (.slice Ap np.length cp)).1
                        rw [flat_set1 reachCells_len rs t 2 htl (by omega) (ReachRow.mk rs[t].is rs[t].cost (.slice Ap np.length cp) np) _ rfl] at hst
                        have hto8 : OwnO (wp.setCell ⟨go, t * 3 + 2, none⟩ (.slice Ap np.length cp)) w.heap.size 3 1 u2 todo.length (ints todo) :=
                          Hto.out.keep fun k hk hkb _ => (Below.heap_setCell _ _ _ _ (show k ≠ go by omega)).trans (hBp.block k hk)
                        have hhop8 : ∀ r ∈ rs.set t (ReachRow.mk rs[t].is rs[t].cost (.slice Ap np.length cp) np), (wp.setCell ⟨go, t * 3 + 2, none⟩ (.slice Ap np.length cp)).ownsRow base 64 3 r.hv r.hops.length (r.hops.flatMap hopCells) := fun r hr => by
                          have hmem : r ∈ rs ∨ r = (ReachRow.mk rs[t].is rs[t].cost (.slice Ap np.length cp) np) := List.mem_or_eq_of_mem_set hr
                          rcases hmem with hmem | rfl
                          · have h9 := own_below (Hoa.out.hop r hmem) hBp
                            exact ownsRow_setCell_other (a := ⟨go, t * 3 + 2, none⟩) h9 (own_ne hoap h9 (by decide) rfl) _
                          · have h9 : wp.ownsRow base 64 3 (.slice Ap np.length cp) np.length (np.flatMap hopCells) := own_mono hpo (by omega)
                            exact ownsRow_setCell_other (a := ⟨go, t * 3 + 2, none⟩) h9 (own_ne hoap h9 (by decide) rfl) _
                        have hgr8 : w.grownBy (wp.setCell ⟨go, t * 3 + 2, none⟩ (.slice Ap np.length cp)) (some go) := grown_setCell (p := ⟨go, t * 3 + 2, none⟩) (grown_trans Hgr.out (grown_of_below hBp _)) (.inl rfl) _
                        have htd : todo.length ≤ 200000000 := by
                          have h9 := Hinv.out.sum
                          have h10 := Htl.out
                          rw [nodesOf_len] at h9
                          have h11 : rows.length * ((esOf (nodesOf rows) root).length * (rows.length + 1)) ≤ 250 * 400000 := Nat.mul_le_mul hn hU
                          omega
                        have hbx8 : (wp.setCell ⟨go, t * 3 + 2, none⟩ (.slice Ap np.length cp)).cell? ⟨w4.heap.size, 0, none⟩ = some (.int .i64 t) := by
                          rw [World.cell?_setCell_other _ _ _ _ (by intro e; injection e; omega)]; exact hT1
                        have Hto8 := Lib.hid hto8
                        have Hst8 := Lib.hid hst
                        have Hhop8 := Lib.hid hhop8
                        have Hgr8 := Lib.hid hgr8
                        clear hto8 hst hhop8 hgr8
                        go_region
                        have Hto9 : Hid (OwnO ((wp.drewN (nq + 1)).setCell ⟨go, t * 3 + 2, none⟩ (.slice Ap np.length cp)) w.heap.size 3 1 u2 todo.length (ints todo)) := Hto8
                        have Hrow9 : Hid (((wp.drewN (nq + 1)).setCell ⟨go, t * 3 + 2, none⟩ (.slice Ap np.length cp)).ownsRow base 59 3 (.slice (some ⟨go, 0, none⟩) rs.length co) rs.length ((rs.set t (ReachRow.mk rs[t].is rs[t].cost (.slice Ap np.length cp) np)).flatMap reachCells)) := Hst8
                        have Hhop9 : Hid (∀ r ∈ rs.set t (ReachRow.mk rs[t].is rs[t].cost (.slice Ap np.length cp) np), ((wp.drewN (nq + 1)).setCell ⟨go, t * 3 + 2, none⟩ (.slice Ap np.length cp)).ownsRow base 64 3 r.hv r.hops.length (r.hops.flatMap hopCells)) := Hhop8
                        have Hgr9 : Hid (w.grownBy ((wp.drewN (nq + 1)).setCell ⟨go, t * 3 + 2, none⟩ (.slice Ap np.length cp)) (some go)) := ⟨Hgr8.out.os, Hgr8.out.tape, Hgr8.out.output, Hgr8.out.size, Hgr8.out.block⟩
                        have hbx9 : ((wp.drewN (nq + 1)).setCell ⟨go, t * 3 + 2, none⟩ (.slice Ap np.length cp)).cell? ⟨w4.heap.size, 0, none⟩ = some (.int .i64 t) := hbx8
                        have hz9 : w7.heap.size ≤ ((wp.drewN (nq + 1)).setCell ⟨go, t * 3 + 2, none⟩ (.slice Ap np.length cp)).heap.size := by simpa using hzp
                        clear Hto8 Hst8 Hhop8 Hgr8 hbx8 hgf1
                        generalize (wp.drewN (nq + 1)).setCell ⟨go, t * 3 + 2, none⟩ (.slice Ap np.length cp) = w9 at *
                        go_wp2_with (at_builtin; refine wpList_append_o (v := u2) rfl (.tmp 125) (.tmp 128) 129 rfl intT rfl (Hto9.out.keep (fun k hk _ _ => Below.heap_alloc _ _ _ hk)) _ _ 1 [.int .i64 t] rfl (Sl.lit w9 #[.int .i64 t] 3 (by simp [maxLen]) rfl) (by simp [Value.oneCell']) (by simp only [maxLen]; omega) (by omega) (by simp; omega) ?_; intro vt w10 hto10 hgr10 hob10)
                        go_roundg (es.length - (k + 1))
                        case measure => omega
                        case rel =>
                          have hstep := Hinv.out.step (by rw [Hes2.out]; exact hkE) (by rw [Hek.out]; exact ⟨by simp, by rw [nodesOf_len]; simp; omega, fun h => h3 (Int.ofNat.inj h), H4.out, H5.out⟩) (by
                            rw [Hek.out]
                            show (puts (hAt (rs.map ReachRow.hops) t) (stepHops (nodesOf rows) root t0 ⟨t, ecost, edata, evirt⟩ (hAt (rs.map ReachRow.hops) t0))).length ≠ (hAt (rs.map ReachRow.hops) t).length
                            rw [hAt_rows htl, hAt_rows ht0l, Hmore.out, Hnp.out]; exact Hlen.out)
                          rw [Hek.out] at hstep
                          have hstep : SInv (nodesOf rows) root c (todo ++ [t]) ((rs.map ReachRow.hops).set t (puts (hAt (rs.map ReachRow.hops) t) (stepHops (nodesOf rows) root t0 ⟨t, ecost, edata, evirt⟩ (hAt (rs.map ReachRow.hops) t0)))) (some (t0, k + 1)) := hstep
                          rw [hAt_rows htl, hAt_rows ht0l, Hmore.out, Hnp.out] at hstep
                          have hmap : (rs.set t (ReachRow.mk rs[t].is rs[t].cost (.slice Ap np.length cp) np)).map ReachRow.hops = (rs.map ReachRow.hops).set t np := by rw [List.map_set]
                          have hics' : (rs.set t (ReachRow.mk rs[t].is rs[t].cost (.slice Ap np.length cp) np)).map (fun r => (r.is, r.cost)) = rs0.map fun r => (r.is, r.cost) := by
                            rw [List.map_set, ← Hics.out]
                            have e1 : (rs.map fun r => (r.is, r.cost))[t]'(by simpa using htl) = (rs[t].is, rs[t].cost) := by simp
                            rw [← e1, List.set_getElem_self]
                          have hgrow : (hAt (rs.map ReachRow.hops) t).length < np.length := by
                            rw [hAt_rows htl]
                            have h9 := puts_grow rs[t].hops more
                            rw [Hnp.out] at h9
                            have h10 := Hlen.out
                            omega
                          have hsum := (sumH_set (H := rs.map ReachRow.hops) (t := t) (l := np) (by simpa using htl) hgrow).1
                          have hsumN := hstep.sum
                          rw [nodesOf_len] at hsumN
                          rw [← hmap] at hstep hsum hsumN
                          have hne10 : ∀ k, base ≤ k → k < w9.heap.size → some k ≠ u2.ownBlock → w10.heap[k]? = w9.heap[k]? := fun k _ hk hne => (hgr10.block k (by simp; omega) hne).trans (Below.heap_alloc _ _ _ hk)
                          have htw := Htl.out
                          have hm1 : 2 * (rows.length * ((esOf (nodesOf rows) root).length * (rows.length + 1)) - sumH ((rs.set t (ReachRow.mk rs[t].is rs[t].cost (.slice Ap np.length cp) np)).map ReachRow.hops)) + (todo.length + 1) ≤ M := by
                            generalize rows.length * ((esOf (nodesOf rows) root).length * (rows.length + 1)) = N at hm hsumN ⊢
                            omega
                          have hm2 : todo.length + 1 ≤ 1 + sumH ((rs.set t (ReachRow.mk rs[t].is rs[t].cost (.slice Ap np.length cp) np)).map ReachRow.hops) := by
                            clear hm hm1 hsumN
                            omega
                          refine ⟨k + 1, by omega, rfl, by go_num, ⟨todo ++ [t], _, hstep, hics', by simpa only [List.length_append, List.length_singleton] using hm1, by simpa only [List.length_append, List.length_singleton] using hm2, ?_, ⟨?_, fun r hr => ?_⟩, ?_⟩, by have := hgr10.size; simp at this; omega, by have := hgr10.size; simp at this; omega⟩
                          · have e1 : ints (todo ++ [t]) = ints todo ++ [.int .i64 (t : Int)] := by simp [ints]
                            rw [e1, List.length_append]
                            exact hto10
                          · rw [List.length_set]
                            exact own_same Hrow9.out fun k hk => hne10 k (Hrow9.out.lt k hk).1 (Hrow9.out.lt k hk).2 (Hto9.out.ne_ Hrow9.out (by decide) hk)
                          · have h9 := Hhop9.out r hr
                            exact own_same h9 fun k hk => hne10 k (h9.lt k hk).1 (h9.lt k hk).2 (Hto9.out.ne_ h9 (by decide) hk)
                          · refine grown_step (grown_alloc Hgr9.out _) hgr10 ?_
                            cases hu : u2.ownBlock with
                            | none => exact .inr (.inl rfl)
                            | some q => exact .inr (.inr ⟨q, rfl, (Hto9.out.lt q hu).1⟩)
                  · have h5' : decide ((4294967296 : Int) ≤ at_ c t) = true := decide_eq_true (by unfold far at h5; omega)
                    have H5 := Lib.hid h5
                    clear h5
                    go_wp2_with fail
                    go_quiet (fail)
                    go_wp2_with fail
                    go_roundg (es.length - (k + 1))
                    case measure => omega
                    case rel => exact ⟨k + 1, by omega, rfl, by go_num, Hskip.out _ (below_drewN ((Below.refl _ _).alloc (Nat.le_refl _) _) _) (fun ht => absurd ht.2.2.2.2 (Int.not_lt.2 H5.out))⟩
                · have hb4 : (at_ c t0 + ecost != at_ c t) = true := bne_iff_ne.2 h4
                  have H4 := Lib.hid h4
                  clear h4
                  go_wp2_with fail
                  go_quiet (fail)
                  go_wp2_with fail
                  go_roundg (es.length - (k + 1))
                  case measure => omega
                  case rel => exact ⟨k + 1, by omega, rfl, by go_num, Hskip.out _ (below_drewN ((Below.refl _ _).alloc (Nat.le_refl _) _) _) (fun ht => H4.out ht.2.2.2.1)⟩
            · have hn2 : decide ((rows.length : Int) ≤ (t : Int)) = true := decide_eq_true (by omega)
              have hn3 : decide (rows.length ≤ t) = true := decide_eq_true (by omega)
              go_wp2_with fail
              go_quiet (fail)
              go_wp2_with fail
              go_roundg (es.length - (k + 1))
              case measure => omega
              case rel => exact ⟨k + 1, by omega, rfl, by go_num, Hskip.out _ (below_drewN ((Below.refl _ _).alloc (Nat.le_refl _) _) _) (fun ht => by have := ht.2.1; rw [nodesOf_len] at this; simp at this; omega)⟩
          · have h1' : eto < 0 := by omega
            have H1 := Lib.hid h1
            clear h1
            go_wp2_with fail
            go_quiet (fail)
            go_wp2_with fail
            go_roundg (es.length - (k + 1))
            case measure => omega
            case rel => exact ⟨k + 1, by omega, rfl, by go_num, Hskip.out _ (below_drewN ((Below.refl _ _).alloc (Nat.le_refl _) _) _) (fun ht => absurd ht.1 (Int.not_le.2 H1.out))⟩
        · obtain rfl : k = es.length := by omega
          go_wp2_with fail
          go_roundg M
          case measure => omega
          case rel =>
            rw [← Hes2.out] at hinv
            exact ⟨⟨todo, rs, hinv.finish, hics, hm, htl, hto, hoa, hgr⟩, hz4⟩
end Go.Proofs.Ytdilbcmnfpmijaa
