/- tree's walk.hops: the hops that go on by an edge. -/
import Derived.Test.YtdilbcmnfpmijaaTreeD
import Derived.Test.YtdilbcmnfpmijaaOwnO
import Derived.Test.YtdilbcmnfpmijaaSpread
namespace Go.Proofs.Ytdilbcmnfpmijaa
open Go.RowKit Go.Lo

structure ReachRow where
  is : Bool
  cost : Int
  hv : Value
  hops : List Hop
def reachCells (r : ReachRow) : List Value := [.bool r.is, .int .u32 r.cost, r.hv]
theorem reachCells_len (r : ReachRow) : (reachCells r).length = 3 := rfl
/-- what has been found so far, as it lies in memory -/
structure OutAt (w : World) (base : Nat) (v : Value) (rs : List ReachRow) : Prop where
  row : w.ownsRow base 59 3 v rs.length (rs.flatMap reachCells)
  hop : ∀ r ∈ rs, w.ownsRow base 64 3 r.hv r.hops.length (r.hops.flatMap hopCells)
theorem hopValue {w : World} {base : Nat} {v : Value} {n : Nat} {xs : List Value} {e : TypeId} {s : Nat} (h : w.ownsRow base e s v n xs) : ∃ A c, v = .slice A n c := by
  obtain ⟨_, A, c, h, _⟩ := Sl.of_own h
  exact ⟨A, c, h⟩
theorem OutAt.same {w w' : World} {base : Nat} {v : Value} {rs : List ReachRow} (h : OutAt w base v rs) (hb : ∀ k, k < w.heap.size → w'.heap[k]? = w.heap[k]?) : OutAt w' base v rs :=
  ⟨own_same h.row fun k hk => hb k (h.row.lt k hk).2, fun r hr => own_same (h.hop r hr) fun k hk => hb k ((h.hop r hr).lt k hk).2⟩

theorem netAt_rows {rows : List NodeRow} {i : Nat} (h : i < rows.length) : netAt (nodesOf rows) i = rows[i].node.network := by simp [netAt, nodesOf, h]
theorem idAt_rows {rows : List NodeRow} {i : Nat} (h : i < rows.length) : idAt (nodesOf rows) i = rows[i].node.id := by simp [idAt, nodesOf, h]

set_option maxRecDepth 100000 in
set_option maxHeartbeats 1000000 in
theorem hops_first (rows : List NodeRow) (B wb : Nat) (gv cv ov : Value) (root t : Nat) (cost data : Int) (virt : Bool) (w : World)
    (hw : Blk w wb 97 #[gv, .int .i64 root, cv, ov]) (hg : GraphAt w B gv rows) (hB : B ≤ w.heap.size) (ht : t < rows.length) (_hn : rows.length ≤ 250) (_hrl : root < rows.length) :
    Calls Try.prog 45 #[.pointer (some ⟨wb, 0, none⟩), .int .i64 root, .agg #[.int .i64 t, .int .u32 cost, .int .u32 data, .bool virt]] w
      fun e w' => ∃ v, e = .returned v ∧ w'.ownsRow w.heap.size 64 3 v 1 ([first_ (nodesOf rows) ⟨t, cost, data, virt⟩].flatMap hopCells) ∧ Below w.heap.size w w' := by
  have hwl := hw.lt
  have hw0 := hw.cell 0
  have hw1 := hw.cell 1
  have hgs := hg.sl
  obtain ⟨_, A, c, rfl, _, _, _⟩ := hgs
  obtain ⟨bg, og, rfl, hbg, hrow⟩ := Sl.row nodeCells_len hg.sl ht
  have hbl : bg < w.heap.size := by omega
  have h0 := hrow 0 _ rfl
  have h1 := hrow 1 _ rfl
  have h2 := hrow 2 _ rfl
  have h3 := hrow 3 _ rfl
  have h4 := hrow 4 _ rfl
  have h5 := hrow 5 _ rfl
  have h6 := hrow 6 _ rfl
  simp only [Nat.add_zero] at h0
  obtain ⟨_, A5, c5, he5, _⟩ := hg.edges _ (List.getElem_mem ht)
  obtain ⟨A6, n6, c6, he6⟩ := hg.svs _ (List.getElem_mem ht)
  rw [he5] at h5
  rw [he6] at h6
  have He5 := Lib.hid he5
  have He6 := Lib.hid he6
  clear hrow he5 he6
  go_enter Try.func45, Try.ntmps45
  go_wp2
  go_region
  go_wp2
  all_goals go_ret
  all_goals refine ⟨_, rfl, ?_, ?_⟩
  · have hl := World.ownsRow_lit (base := w.heap.size) (e := 64) (size := 3) (((w.alloc (Obj.cells #[.int .i64 t, .int .u32 cost, .int .u32 data, .bool virt] 88)).alloc (Obj.cells #[.bool rows[t].node.network, .int .u32 rows[t].node.id, .int .u32 rows[t].node.netA, .int .u8 rows[t].node.netB, .int .u8 rows[t].node.flags, .slice A5 rows[t].node.edges.length c5, .slice A6 n6 c6] 92)).alloc (Obj.cells #[.int .u32 data, .int .u32 rows[t].node.id, .bool virt] 64)) #[.int .u32 data, .int .u32 rows[t].node.id, .bool virt] 1 (by simp; omega) (by simp [maxLen]) rfl
    have hnet : rows[t].node.network = false := by simpa using ‹(!rows[t].node.network) = true›
    simpa [first_, netAt_rows ht, idAt_rows ht, hopCells, hnet] using hl.drew
  · exact (((((Below.refl _ _).alloc (Nat.le_refl _) _).alloc (by simp) _).alloc (by simp; omega) _).alloc (by simp; omega) _).drew
  · have hl := World.ownsRow_lit (base := w.heap.size) (e := 64) (size := 3) (((w.alloc (Obj.cells #[.int .i64 t, .int .u32 cost, .int .u32 data, .bool virt] 88)).alloc (Obj.cells #[.bool rows[t].node.network, .int .u32 rows[t].node.id, .int .u32 rows[t].node.netA, .int .u8 rows[t].node.netB, .int .u8 rows[t].node.flags, .slice A5 rows[t].node.edges.length c5, .slice A6 n6 c6] 92)).alloc (Obj.cells #[.int .u32 data, .int .u32 0, .bool virt] 64)) #[.int .u32 data, .int .u32 0, .bool virt] 1 (by simp; omega) (by simp [maxLen]) rfl
    have hnet : rows[t].node.network = true := by simpa using ‹(!rows[t].node.network) = false›
    simpa [first_, netAt_rows ht, idAt_rows ht, hopCells, hnet] using hl.drew
  · exact (((((Below.refl _ _).alloc (Nat.le_refl _) _).alloc (by simp) _).alloc (by simp; omega) _).alloc (by simp; omega) _).drew

theorem mix_same {α : Type} (f : α → α) (l : List α) (k : Nat) (hk : k < l.length) (h : f l[k] = l[k]) : mix f l (k + 1) = mix f l k := by
  have h1 := mix_get f l k hk
  rw [← mix_succ f l k hk, h]
  conv => lhs; arg 3; rw [← h1]
  exact List.set_getElem_self _

/-- where the hops of a node are handed on -/
theorem on_len (g : List GNode) (i : Nat) (e : GEdge) (l : List Hop) : (l.map (on_ g i e)).length = l.length := List.length_map ..

set_option maxRecDepth 100000 in
set_option maxHeartbeats 2000000 in
theorem hops_on (rows : List NodeRow) (B base wb : Nat) (gv cv ov : Value) (rs : List ReachRow) (root i t : Nat) (cost data : Int) (virt : Bool) (w : World)
    (hw : Blk w wb 97 #[gv, .int .i64 root, cv, ov]) (hg : GraphAt w B gv rows) (hB : B ≤ w.heap.size) (ht : t < rows.length) (_hn : rows.length ≤ 250) (hi : i < rows.length) (hir : i ≠ root) (_hrl : root < rows.length)
    (ho : OutAt w base ov rs) (hrs : rs.length = rows.length) (hlen : rs[i].hops.length ≤ 500000) :
    Calls Try.prog 45 #[.pointer (some ⟨wb, 0, none⟩), .int .i64 i, .agg #[.int .i64 t, .int .u32 cost, .int .u32 data, .bool virt]] w
      fun e w' => ∃ v, e = .returned v ∧ w'.ownsRow w.heap.size 64 3 v rs[i].hops.length ((rs[i].hops.map (on_ (nodesOf rows) i ⟨t, cost, data, virt⟩)).flatMap hopCells) ∧ Below w.heap.size w w' := by
  have hwl := hw.lt
  have hil : i < rs.length := by omega
  obtain ⟨go, co, rfl, hco, _, hgo, _, hro⟩ := own_row reachCells_len ho.row hil
  have hh := hro 2 _ rfl
  have hhop := ho.hop rs[i] (List.getElem_mem hil)
  have hgs := hg.sl
  obtain ⟨_, A, c, rfl, _, _, _⟩ := hgs
  obtain ⟨bg, og, rfl, hbg, hrow⟩ := Sl.row nodeCells_len hg.sl ht
  have hbl : bg < w.heap.size := by omega
  have h0 := hrow 0 _ rfl
  have h1 := hrow 1 _ rfl
  have h2 := hrow 2 _ rfl
  have h3 := hrow 3 _ rfl
  have h4 := hrow 4 _ rfl
  have h5 := hrow 5 _ rfl
  have h6 := hrow 6 _ rfl
  obtain ⟨bg', og', hbe, _, hrowi⟩ := Sl.row nodeCells_len hg.sl hi
  simp only [Option.some.injEq, Addr.mk.injEq, and_true] at hbe
  obtain ⟨rfl, rfl⟩ := hbe
  have hi0 := hrowi 0 _ rfl
  simp only [Nat.add_zero] at h0 hi0
  obtain ⟨_, A5, c5, he5, _⟩ := hg.edges _ (List.getElem_mem ht)
  obtain ⟨A6, n6, c6, he6⟩ := hg.svs _ (List.getElem_mem ht)
  rw [he5] at h5
  rw [he6] at h6
  have He5 := Lib.hid he5
  have He6 := Lib.hid he6
  clear hrow he5 he6 hrowi hro
  have hw0 : w.cell? ⟨wb, 0, none⟩ = some (.slice (some ⟨bg, og, none⟩) rows.length c) := hw.cell 0
  have hw1 : w.cell? ⟨wb, 1, none⟩ = some (.int .i64 root) := hw.cell 1
  have hw3 : w.cell? ⟨wb, 3, none⟩ = some (.slice (some ⟨go, 0, none⟩) rs.length co) := hw.cell 3
  have hne : ((i : Int) == (root : Int)) = false := beq_eq_false_iff_ne.2 fun h => hir (Int.ofNat.inj h)
  have Hw := Lib.hid hw
  clear hw
  go_enter Try.func45, Try.ntmps45
  go_wp2
  go_region
  go_wp2_with (at_builtin; go_loud (refine wpList_append rfl (.const (.slice none 0 0)) (.tmp 45) 57 rfl w.heap.size hopT (.slice none 0 0) 0 [] rfl (World.ownsRow_nil _ _ _ _) _ _ _ _ rfl ((Sl.of_own hhop).below (by repeat (first | exact Below.refl _ _ | refine Below.drew ?_ | refine Below.alloc ?_ (by simp) _ | refine Below.alloc ?_ (by simp; omega) _))) hops_oneCell (by simp only [maxLen]; omega) (by omega) (by simp; try omega) ?_; intro v1 w1 hown1 hgr1 hob1; simp only [Nat.zero_add, List.nil_append] at hown1; obtain ⟨A1, c1, rfl⟩ := hopValue hown1))
  have hz0 : w.heap.size + 1 < w1.heap.size := by have := hgr1.size; simp at this; omega
  have hbw1 : Below w.heap.size w w1 := by
    refine Below.trans ?_ (below_of_grown hgr1 (by simp; omega) (by simp [Value.ownBlock]))
    repeat (first | exact Below.refl _ _ | refine Below.drew ?_ | refine Below.alloc ?_ (by simp) _ | refine Below.alloc ?_ (by simp; omega) _)
  have hb0 : w1.cell? ⟨w.heap.size + 1, 0, none⟩ = some (.bool rows[t].node.network) := (hgr1.cell_far ⟨w.heap.size + 1, 0, none⟩ (by simp) (by simp [Value.ownBlock])).trans (by go_simp)
  have hb1 : w1.cell? ⟨w.heap.size + 1, 1, none⟩ = some (.int .u32 rows[t].node.id) := (hgr1.cell_far ⟨w.heap.size + 1, 1, none⟩ (by simp) (by simp [Value.ownBlock])).trans (by go_simp)
  have hvb : ∀ q, (Value.slice A1 rs[i].hops.length c1).ownBlock = some q → q = w.heap.size + 2 := fun q hq => by
    rcases hob1 with h | h
    · rw [hq] at h; cases h
    · rw [hq] at h; have := Option.some.inj h; simp at this; omega
  have hvb' := hown1.lt
  clear hgr1 hob1 h0 h1 h2 h3 h4 h5 h6 hh hhop
  generalize hL : rs[i].hops = l at *
  have HL := Lib.hid hL
  clear hL
  generalize hN1 : rows[i].node.network = net1 at *
  generalize hN2 : rows[t].node.network = net2 at *
  generalize hID : rows[t].node.id = idt at *
  have Hon : Hid (∀ h : Hop, on_ (nodesOf rows) i ⟨t, cost, data, virt⟩ h = if net1 && h.2.1 == 0 && !net2 then (h.1, idt, h.2.2) else h) := fun h => by
    unfold on_; simp [netAt_rows hi, netAt_rows ht, idAt_rows ht, hN1, hN2, hID]
  clear hN1 hN2 hID
  go_loopg [49] l.length (fun m kk wr => ∃ k : Nat, k ≤ l.length ∧ m = l.length - k ∧ kk = .int .i64 k ∧ wr.ownsRow w.heap.size 64 3 (.slice A1 l.length c1) l.length ((mix (on_ (nodesOf rows) i ⟨t, cost, data, virt⟩) l k).flatMap hopCells) ∧ w1.grownBy wr (Value.slice A1 l.length c1).ownBlock)
  case atStart => exact ⟨0, Nat.zero_le _, rfl, rfl, by rw [mix_zero]; exact hown1, grown_refl _ _⟩
  case round =>
    obtain ⟨k, hk, rfl, rfl, hok, hgk⟩ := hrel
    by_cases hkl : k < l.length
    · have hm := mix_len (on_ (nodesOf rows) i ⟨t, cost, data, virt⟩) l k
      have hok' := hok
      rw [← hm] at hok'
      obtain ⟨g1, cap1, hv1, _, _, hg1, hfz, hrk⟩ := own_row (k := k) hopCells_len hok' (by rw [hm]; exact hkl)
      simp only [Value.slice.injEq] at hv1
      obtain ⟨rfl, _, rfl⟩ := hv1
      rw [mix_get _ _ _ hkl] at hrk
      have hr1 := hrk 1 _ rfl
      have hf1 := hfz (k * 3 + 1)
      have hg1e : g1 = w.heap.size + 2 := hvb g1 rfl
      have hc0 := (hgk.cell_far ⟨w.heap.size + 1, 0, none⟩ hz0 (by simp [Value.ownBlock]; omega)).trans hb0
      have hc1 := (hgk.cell_far ⟨w.heap.size + 1, 1, none⟩ hz0 (by simp [Value.ownBlock]; omega)).trans hb1
      have hz1 : w.heap.size ≤ w1.heap.size := by omega
      have hcw : ∀ b o, b < w.heap.size → wr.cell? ⟨b, o, none⟩ = w.cell? ⟨b, o, none⟩ := fun b o hb => (hgk.cell_far ⟨b, o, none⟩ (show b < _ by omega) (by simp [Value.ownBlock]; omega)).trans (hbw1.cell (p := ⟨b, o, none⟩) hb)
      have hd0 := (hcw bg (og + i * 7) hbl).trans hi0
      have hd1 := (hcw wb 0 hwl).trans hw0
      have hst := hok.stored (k * 3 + 1) (.int .u32 idt)
      have Hst := Lib.hid hst
      have Hg1e := Lib.hid hg1e
      clear hrk hfz hm hok' hcw hst hw0 hw1 hw3 hi0 hb0 hb1 hg1e
      cases net1
      · go_wp2
        go_roundg (l.length - (k + 1))
        case measure => omega
        case rel => exact ⟨k + 1, by omega, rfl, by go_num, by rw [mix_same _ _ _ hkl (by rw [Hon.out]; rfl)]; exact hok, hgk⟩
      · by_cases hv : l[k].2.1 = 0
        · have hvb0 : (l[k].2.1 == 0) = true := beq_iff_eq.2 hv
          have Hv := Lib.hid hvb0
          clear hvb0 hv
          cases net2
          · have hvb0 := Hv.out
            go_wp2
            go_roundg (l.length - (k + 1))
            case measure => omega
            case rel =>
              refine ⟨k + 1, by omega, rfl, by go_num, ?_, grown_setCell (p := ⟨g1, k * 3 + 1, none⟩) (g := g1) hgk (.inl rfl) _⟩
              have h1 := Hst.out.1
              rw [flat_set1 hopCells_len (mix (on_ (nodesOf rows) i ⟨t, cost, data, virt⟩) l k) k 1 (by rw [mix_len]; exact hkl) (by omega) (l[k].1, idt, l[k].2.2) _ (by rw [mix_get _ _ _ hkl]; rfl)] at h1
              rw [← mix_succ _ _ _ hkl, Hon.out, if_pos (by simp [Hv.out])]
              exact h1
          · have hvb0 := Hv.out
            go_wp2
            go_roundg (l.length - (k + 1))
            case measure => omega
            case rel => exact ⟨k + 1, by omega, rfl, by go_num, by rw [mix_same _ _ _ hkl (by rw [Hon.out]; simp)]; exact hok, hgk⟩
        · have hvb0 : (l[k].2.1 == 0) = false := beq_eq_false_iff_ne.2 hv
          go_wp2
          go_roundg (l.length - (k + 1))
          case measure => omega
          case rel => exact ⟨k + 1, by omega, rfl, by go_num, by rw [mix_same _ _ _ hkl (by rw [Hon.out, hvb0]; simp)]; exact hok, hgk⟩
    · obtain rfl : k = l.length := by omega
      go_wp2
      go_ret
      rw [mix_all] at hok
      exact ⟨.slice A1 l.length c1, rfl, by rw [HL.out]; exact hok, hbw1.trans (below_of_grown hgk (by omega) (fun q hq => by have := hvb q hq; omega))⟩

theorem hops_any (rows : List NodeRow) (B base wb : Nat) (gv cv ov : Value) (rs : List ReachRow) (root i t : Nat) (cost data : Int) (virt : Bool) (w : World)
    (hw : Blk w wb 97 #[gv, .int .i64 root, cv, ov]) (hg : GraphAt w B gv rows) (hB : B ≤ w.heap.size) (ht : t < rows.length) (hn : rows.length ≤ 250) (hi : i < rows.length) (hrl : root < rows.length)
    (ho : OutAt w base ov rs) (hrs : rs.length = rows.length) (hlen : rs[i].hops.length ≤ 500000) :
    Calls Try.prog 45 #[.pointer (some ⟨wb, 0, none⟩), .int .i64 i, .agg #[.int .i64 t, .int .u32 cost, .int .u32 data, .bool virt]] w
      fun e w' => ∃ v, e = .returned v ∧ w'.ownsRow w.heap.size 64 3 v (stepHops (nodesOf rows) root i ⟨t, cost, data, virt⟩ rs[i].hops).length ((stepHops (nodesOf rows) root i ⟨t, cost, data, virt⟩ rs[i].hops).flatMap hopCells) ∧ Below w.heap.size w w' := by
  unfold stepHops
  by_cases hir : i = root
  · subst hir
    rw [if_pos rfl]
    exact hops_first rows B wb gv cv ov i t cost data virt w hw hg hB ht hn hrl
  · rw [if_neg hir, List.length_map]
    exact hops_on rows B base wb gv cv ov rs root i t cost data virt w hw hg hB ht hn hi hir hrl ho hrs hlen

end Go.Proofs.Ytdilbcmnfpmijaa
