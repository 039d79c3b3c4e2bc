/- lodestarlaw17's given: it copies a graph, node by node, edge by edge. Conditions: the graph lies in memory, and its sizes are at most a million. -/
import Derived.Test.YtdilbcmnfpmijaaLib2
import Derived.Test.YtdilbcmnfpmijaaTreeK
namespace Go.Proofs.Ytdilbcmnfpmijaa
open Go.RowKit Go.Lo

theorem edgeT : ElT Try.prog 89 88 4 24 := ⟨by kernel_rfl, by
  obtain ⟨i, hi, h1, h2, h3⟩ := info_parts (show (Try.prog.info? 88).map (fun i => (i.zero, i.size, i.bytes)) = some (some (.agg #[.int .i64 0, .int .u32 0, .int .u32 0, .bool false]), 4, 24) by kernel_rfl)
  exact ⟨i, _, hi, h1, h2, h3, rfl⟩, by omega⟩
theorem nodeT : ElT Try.prog 55 92 7 72 := ⟨by kernel_rfl, by
  obtain ⟨i, hi, h1, h2, h3⟩ := info_parts (show (Try.prog.info? 92).map (fun i => (i.zero, i.size, i.bytes)) = some (some (.agg #[.bool false, .int .u32 0, .int .u32 0, .int .u8 0, .int .u8 0, .slice none 0 0, .slice none 0 0]), 7, 72) by kernel_rfl)
  exact ⟨i, _, hi, h1, h2, h3, rfl⟩, by omega⟩

theorem own_neT {w : World} {base base' : Nat} {e e' : TypeId} {s s' n n' : Nat} {v v' : Value} {xs xs' : List Value} (h : w.ownsRow base e s v n xs) (h' : w.ownsRow base' e' s' v' n' xs') (he : e ≠ e') {k : Nat} (hk : v.ownBlock = some k) : some k ≠ v'.ownBlock := by
  intro hk'
  rcases h.2 with ⟨rfl, _⟩ | ⟨g, _, _, rfl, _, hg, _⟩
  · cases hk
  · injection hk with hk
    subst hk
    rcases h'.2 with ⟨rfl, _⟩ | ⟨g', _, _, rfl, _, hg', _⟩
    · cases hk'
    · injection hk' with hk'
      subst hk'
      rw [hg] at hg'
      injection hg' with hg'
      injection hg' with _ h2
      exact he h2
theorem sl_lit {n s b : Nat} (w : World) (cs : Array Value) (e : TypeId) (hb : w.heap.size = b) (hm : n ≤ maxLen) (hs : cs.size = n * s) : Sl (w.alloc (.cells cs e)) (b + 1) s (.slice (some ⟨b, 0, none⟩) n n) n cs.toList := by
  subst hb
  exact Sl.lit w cs e hm hs
theorem own_base {w : World} {base base' : Nat} {e : TypeId} {s n : Nat} {v : Value} {xs : List Value} (h : w.ownsRow base e s v n xs) (hb : base' ≤ base) : w.ownsRow base' e s v n xs :=
  ⟨h.1, h.2.imp id fun ⟨g, cap, cur, a, b, c⟩ => ⟨g, cap, cur, a, Nat.le_trans hb b, c⟩⟩
/-- the copies so far -/
structure Copied (w : World) (base : Nat) (v : Value) (rs : List NodeRow) : Prop where
  row : w.ownsRow base 92 7 v rs.length (rs.flatMap nodeCells)
  edge : ∀ r ∈ rs, w.ownsRow base 88 4 r.ev r.node.edges.length (r.node.edges.flatMap edgeCells)
  nil_ : ∀ r ∈ rs, r.sv = .slice none 0 0
theorem Copied.same {w w' : World} {base : Nat} {v : Value} {rs : List NodeRow} (h : Copied w base v rs) (hb : ∀ k, k < w.heap.size → w'.heap[k]? = w.heap[k]?) : Copied w' base v rs :=
  ⟨own_same h.row fun k hk => hb k (h.row.lt k hk).2, fun r hr => own_same (h.edge r hr) fun k hk => hb k ((h.edge r hr).lt k hk).2, h.nil_⟩
theorem Copied.graph {w : World} {base : Nat} {v : Value} {rs : List NodeRow} (h : Copied w base v rs) : GraphAt w w.heap.size v rs :=
  ⟨Sl.of_own h.row, fun r hr => Sl.of_own (h.edge r hr), fun r hr => ⟨none, 0, 0, h.nil_ r hr⟩⟩

def GivenPost (w : World) (rows : List NodeRow) (e : Ending) (w' : World) : Prop :=
  ∃ v rs, e = .returned v ∧ Copied w' w.heap.size v rs ∧ rs.map NodeRow.node = rows.map NodeRow.node ∧ Below w.heap.size w w'
def GivenRel (w : World) (rows : List NodeRow) (k : Nat) (v : Value) (wr : World) : Prop :=
  ∃ rs : List NodeRow, Copied wr w.heap.size v rs ∧ rs.map NodeRow.node = (rows.take k).map NodeRow.node ∧ Below w.heap.size w wr
/-- the node's block, and the edges so far -/
def EdgeRel (w1 : World) (g : Nat) (n : GNode) (j : Nat) (wr : World) : Prop :=
  ∃ ev, Blk wr g 92 #[.bool n.network, .int .u32 n.id, .int .u32 n.netA, .int .u8 n.netB, .int .u8 n.flags, ev, .slice none 0 0] ∧
    wr.ownsRow (g + 1) 88 4 ev j ((n.edges.take j).flatMap edgeCells) ∧ Below g w1 wr

set_option maxRecDepth 100000 in
set_option maxHeartbeats 4000000 in
theorem given_any (rows : List NodeRow) (gv : Value) (w : World) (hg : GraphAt w w.heap.size gv rows) (hn : rows.length ≤ 1000000) (hs : edgesN rows ≤ 1000000) :
    Calls Try.prog 17 #[gv] w (GivenPost w rows) := by
  have hgs := hg.sl
  obtain ⟨_, A, c, rfl, _, _, _⟩ := hgs
  go_enter Try.func17, Try.ntmps17
  go_wp2_with fail
  go_loopg [3, 4] rows.length (fun m v i wr => ∃ k : Nat, k ≤ rows.length ∧ m = rows.length - k ∧ i = .int .i64 k ∧ GivenRel w rows k v wr)
  case atStart => exact ⟨0, Nat.zero_le _, rfl, rfl, [], ⟨World.ownsRow_nil _ _ _ _, by simp, by simp⟩, rfl, Below.refl _ _⟩
  case round =>
    obtain ⟨k, hk, rfl, rfl, rs, hcp, hrs, hbk⟩ := hrel
    obtain ⟨w1, rfl⟩ : ∃ x : World, x = wr := ⟨_, rfl⟩
    have hg1 := hg.below hbk
    by_cases hkl : k < rows.length
    · obtain ⟨bg, og, rfl, hbg, hrow⟩ := Sl.row nodeCells_len hg1.sl hkl
      have h0 := hrow 0 _ rfl
      have h1 := hrow 1 _ rfl
      have h2 := hrow 2 _ rfl
      have h3 := hrow 3 _ rfl
      have h4 := hrow 4 _ rfl
      have h5 := hrow 5 _ rfl
      simp only [Nat.add_zero] at h0
      obtain ⟨_, A5, c5, he5, _⟩ := hg1.edges _ (List.getElem_mem hkl)
      rw [he5] at h5
      have hsz := hbk.size
      have hed := hg1.edges _ (List.getElem_mem hkl)
      have hel : rows[k].node.edges.length ≤ 1000000 := Nat.le_trans (edgesN_mem (List.getElem_mem hkl)) hs
      obtain ⟨r, hr⟩ : ∃ r, r = rows[k] := ⟨_, rfl⟩
      rw [← hr] at h0 h1 h2 h3 h4 h5 he5 hed hel
      rw [he5] at hed
      have Hr := Lib.hid hr
      clear hr hg1
      have hbl : bg < w1.heap.size := by omega
      go_wp2_with fail
      go_region
      have hblk := Blk.new w1 92 #[.bool r.node.network, .int .u32 r.node.id, .int .u32 r.node.netA, .int .u8 r.node.netB, .int .u8 r.node.flags, .slice none 0 0, .slice none 0 0]
      have hB12 : Below w1.heap.size w1 (w1.alloc (.cells #[.bool r.node.network, .int .u32 r.node.id, .int .u32 r.node.netA, .int .u8 r.node.netB, .int .u8 r.node.flags, .slice none 0 0, .slice none 0 0] 92)).drew := ((Below.refl _ _).alloc (Nat.le_refl _) _).drew
      have hsz2 : (w1.alloc (.cells #[.bool r.node.network, .int .u32 r.node.id, .int .u32 r.node.netA, .int .u8 r.node.netB, .int .u8 r.node.flags, .slice none 0 0, .slice none 0 0] 92)).drew.heap.size = w1.heap.size + 1 := by simp
      have hblk : Blk (w1.alloc (.cells #[.bool r.node.network, .int .u32 r.node.id, .int .u32 r.node.netA, .int .u8 r.node.netB, .int .u8 r.node.flags, .slice none 0 0, .slice none 0 0] 92)).drew w1.heap.size 92 #[.bool r.node.network, .int .u32 r.node.id, .int .u32 r.node.netA, .int .u8 r.node.netB, .int .u8 r.node.flags, .slice none 0 0, .slice none 0 0] := hblk
      generalize (w1.alloc (.cells #[.bool r.node.network, .int .u32 r.node.id, .int .u32 r.node.netA, .int .u8 r.node.netB, .int .u8 r.node.flags, .slice none 0 0, .slice none 0 0] 92)).drew = w2 at *
      have i5 := (hB12.cell (p := ⟨bg, og + k * 7 + 5, none⟩) hbl).trans h5
      have hed2 := hed.below (hB12.mono hsz)
      clear h0 h1 h2 h3 h4 h5 hed
      go_wp2_with fail
      go_loopg [6] r.node.edges.length (fun m j wr => ∃ q : Nat, q ≤ r.node.edges.length ∧ m = r.node.edges.length - q ∧ j = .int .i64 q ∧ EdgeRel w2 w1.heap.size r.node q wr)
      case atStart => exact ⟨0, Nat.zero_le _, rfl, rfl, .slice none 0 0, hblk, World.ownsRow_nil _ _ _ _, Below.refl _ _⟩
      case round =>
        obtain ⟨q, hq, rfl, rfl, ev, hblk3, hown3, hB23⟩ := hrel
        obtain ⟨w3, rfl⟩ : ∃ x : World, x = wr := ⟨_, rfl⟩
        have j5 := (hB23.cell (p := ⟨bg, og + k * 7 + 5, none⟩) hbl).trans i5
        obtain ⟨_, Ae, ce, rfl, _⟩ := Sl.of_own hown3
        by_cases hql : q < r.node.edges.length
        · obtain ⟨be, oe, rfl, hbe, hrowe⟩ := Sl.row edgeCells_len (hed2.below (hB23.mono hsz)) hql
          have e0 := hrowe 0 _ rfl
          have e1 := hrowe 1 _ rfl
          have e2 := hrowe 2 _ rfl
          have e3 := hrowe 3 _ rfl
          simp only [Nat.add_zero] at e0
          have c5' := hblk3.cell 5
          have f5' := hblk3.free 5
          have hlt3 := hblk3.lt
          have Hb3 := Lib.hid hblk3
          have Ho3 := Lib.hid hown3
          have HB3 := Lib.hid hB23
          have Hed2 := Lib.hid hed2
          have Hcp := Lib.hid hcp
          clear hblk3 hown3 hB23 hed2 hcp
          clear hrowe
          have htake : (r.node.edges.take (q + 1)).flatMap edgeCells = (r.node.edges.take q).flatMap edgeCells ++ edgeCells r.node.edges[q] := by rw [List.take_succ_eq_append_getElem hql, List.flatMap_append]; simp
          have Htake := Lib.hid htake
          clear htake
          go_wp2_with (at_builtin; go_loud (refine wpList_append rfl (.tmp 54) (.tmp 64) 89 rfl (w1.heap.size + 1) edgeT (.slice Ae q ce) q _ rfl ((Ho3.out.alloc _).alloc _) _ _ 1 (edgeCells r.node.edges[q]) rfl (sl_lit (w3.alloc (.cells #[.int .i64 r.node.edges[q].to, .int .u32 r.node.edges[q].cost, .int .u32 r.node.edges[q].data, .bool r.node.edges[q].virt] 52)) #[.int .i64 r.node.edges[q].to, .int .u32 r.node.edges[q].cost, .int .u32 r.node.edges[q].data, .bool r.node.edges[q].virt] 88 (b := w3.heap.size + 1) (by simp) (by simp [maxLen]) rfl) (by simp [edgeCells, Value.oneCell']) (by simp only [maxLen]; omega) (by omega) (by simp; omega) ?_; intro v4 w4 hown4 hgr4 hob4); obtain ⟨_, A4, c4, rfl, _⟩ := Sl.of_own hown4; have hblk4 := ((Hb3.out.alloc _).alloc _).same (hgr4.block w1.heap.size (by simp; omega) (fun e => by have := (Ho3.out.lt _ e.symm).1; omega)); have hB4 := ((HB3.out.alloc (by omega) _).alloc (by simp; omega) _).trans (below_of_grown hgr4 (by simp; omega) (fun g hg => by have := (Ho3.out.lt g hg).1; omega)); have q5 := hblk4.cell 5; have r5 := hblk4.free 5; clear hgr4 hob4 e0 e1 e2 e3 c5' f5' j5)
          go_wp2
          go_roundg (r.node.edges.length - (q + 1))
          case measure => omega
          case rel =>
            refine ⟨q + 1, by omega, rfl, by go_num, .slice A4 (q + 1) c4, hblk4.set_ 5 _, ?_, hB4.setCell (Nat.le_refl _) _⟩
            rw [Htake.out]
            exact own_same hown4 fun k hk => Below.heap_setCell _ _ _ _ (fun e => by have := (hown4.lt k hk).1; rw [e] at this; simp at this; omega)
        · obtain rfl : q = r.node.edges.length := by omega
          rw [List.take_length] at hown3
          have hB13 : Below w1.heap.size w1 w3 := hB12.trans hB23
          have hcp3 := hcp.same hB13.block
          have hlt3 := hblk3.lt
          have hb0 := hblk3.cell 0
          have hb1 := hblk3.cell 1
          have hb2 := hblk3.cell 2
          have hb3 := hblk3.cell 3
          have hb4 := hblk3.cell 4
          have hb5 := hblk3.cell 5
          have hb6 := hblk3.cell 6
          have hrl : rs.length = k := by have := congrArg List.length hrs; simp at this; omega
          have hB3 : Below w.heap.size w w3 := hbk.trans (hB13.mono hsz)
          have Hcp := Lib.hid hcp3
          have Ho3 := Lib.hid hown3
          have Hrs := Lib.hid hrs
          clear hcp hcp3 hown3 hB12 hB23 hB13 hed2 hblk3 hrs
          go_wp2_with (at_builtin; go_loud (refine wpList_append rfl (.tmp 67) (.tmp 69) 55 rfl w.heap.size nodeT u3 rs.length _ rfl (Hcp.out.row.alloc _) _ _ 1 (nodeCells ⟨r.node, .slice Ae r.node.edges.length ce, .slice none 0 0⟩) rfl (Sl.lit w3 #[.bool r.node.network, .int .u32 r.node.id, .int .u32 r.node.netA, .int .u8 r.node.netB, .int .u8 r.node.flags, .slice Ae r.node.edges.length ce, .slice none 0 0] 92 (by simp [maxLen]) rfl) (by simp [nodeCells, Value.oneCell']) (by simp only [maxLen]; omega) (by omega) (by simp; omega) ?_; intro v4 w4 hown4 hgr4 hob4))
          have hB4 := (hB3.alloc (by omega) _).trans (below_of_grown hgr4 (by simp; omega) (fun g hg => (Hcp.out.row.lt g hg).1))
          go_wp2
          go_roundg (rows.length - (k + 1))
          case measure => omega
          case rel =>
            refine ⟨k + 1, by omega, rfl, by go_num, rs ++ [⟨r.node, .slice Ae r.node.edges.length ce, .slice none 0 0⟩], ⟨?_, ?_, ?_⟩, ?_, hB4⟩
            · rw [List.length_append, List.flatMap_append]
              simpa using hown4
            · intro x hx
              have hsame : ∀ (e : Value) (n : Nat) (xs : List Value), w3.ownsRow w.heap.size 88 4 e n xs → w4.ownsRow w.heap.size 88 4 e n xs := fun e n xs ho =>
                own_same (ho.alloc _) fun k hk => hgr4.block k (by have := (ho.lt k hk).2; simp; omega) (own_neT ho Hcp.out.row (by decide) hk)
              rcases List.mem_append.1 hx with hx | hx
              · exact hsame _ _ _ (Hcp.out.edge x hx)
              · rw [List.mem_singleton] at hx
                subst hx
                exact hsame _ _ _ (own_base Ho3.out (by omega))
            · intro x hx
              rcases List.mem_append.1 hx with hx | hx
              · exact Hcp.out.nil_ x hx
              · rw [List.mem_singleton] at hx
                subst hx; rfl
            · rw [List.map_append, Hrs.out, List.take_succ_eq_append_getElem hkl, List.map_append, ← Hr.out]
              rfl
    · obtain rfl : k = rows.length := by omega
      rw [List.take_length] at hrs
      go_wp2
      go_ret
      exact ⟨_, rs, rfl, hcp, hrs, hbk⟩
end Go.Proofs.Ytdilbcmnfpmijaa
