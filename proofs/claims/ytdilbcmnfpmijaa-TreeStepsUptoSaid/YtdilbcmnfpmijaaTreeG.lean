/- tree.From: the costs and the first steps of all shortest ways. -/
import Derived.Test.YtdilbcmnfpmijaaTreeF
namespace Go.Proofs.Ytdilbcmnfpmijaa
open Go.RowKit Go.Lo

theorem reachT : ElT Try.prog 53 59 3 32 := ⟨by kernel_rfl, by
  obtain ⟨i, hi, h1, h2, h3⟩ := info_parts (show (Try.prog.info? 59).map (fun i => (i.zero, i.size, i.bytes)) = some (some (.agg #[.bool false, .int .u32 0, .slice none 0 0]), 3, 32) by kernel_rfl)
  exact ⟨i, _, hi, h1, h2, h3, rfl⟩, by omega⟩

/-- 'make([]T, n)', for every world: laid ahead of a region that draws its order -/
theorem make_ex {P : Program} {t e : TypeId} {size bytes : Nat} (E : ElT P t e size bytes) {α : Type} (f : α → List Value) (hf : ∀ x, (f x).length = size) (x0 : α) (hz : (P.info? e).map (fun i => i.zero.map fun z => z.cells.toList) = some (some (f x0)))
    (n : Nat) (b2 : bytes * n ≤ 281474976710656) (b3 : n ≤ 9223372036854775807) :
    ∃ Z : Array Value, Z.toList = (List.replicate n x0).flatMap f ∧ ∀ W : World, (Instr.makeSlice t (.int .i64 (n : Int)) (.int .i64 (n : Int))).run P W = .ok (.slice (some ⟨W.heap.size, 0, none⟩) n n) (W.alloc (.cells Z e)) := by
  obtain ⟨i, z, hi, hz', hsz, hby, hzs⟩ := E.info
  have hzz : z.cells.toList = f x0 := by simpa [hi, hz'] using hz
  refine ⟨_, made_flat hf x0 n z.cells hzz E.pos, fun W => ?_⟩
  have hb : (i.bytes : Int) * (n : Int) ≤ 281474976710656 := by
    have h : ((i.bytes * n : Nat) : Int) ≤ 281474976710656 := by rw [hby]; omega
    rwa [Int.natCast_mul] at h
  have hr := run_make (P := P) W t e i z E.sl hi hz' .i64 .i64 n n (by omega) (by omega) hb (by omega)
  simp only [Int.toNat_natCast] at hr
  rw [hr, hsz]

theorem flat_splice {α : Type} {f : α → List Value} {s : Nat} (hf : ∀ x, (f x).length = s) (l : List α) (k : Nat) (hk : k < l.length) (x : α) : splice (l.flatMap f) (k * s) (f x) = (l.set k x).flatMap f := by
  unfold splice
  rw [flat_take hf, hf, show k * s + s = (k + 1) * s by rw [Nat.succ_mul], flat_drop hf, List.set_eq_take_append_cons_drop, if_pos hk, List.flatMap_append, List.flatMap_cons]

/-- a node's row as its cost says it -/
def rowOf (x : Int) : ReachRow := if x < far then ReachRow.mk true x (.slice none 0 0) [] else ReachRow.mk false 0 (.slice none 0 0) []
def rowsTo (cs : List Int) (n k : Nat) : List ReachRow := (cs.take k).map rowOf ++ List.replicate (n - k) (ReachRow.mk false 0 (.slice none 0 0) [])
theorem rowsTo_len {cs : List Int} {n k : Nat} (hc : cs.length = n) (hk : k ≤ n) : (rowsTo cs n k).length = n := by simp [rowsTo]; omega
theorem rowsTo_succ {cs : List Int} {n k : Nat} (hc : cs.length = n) (hk : k < n) : (rowsTo cs n k).set k (rowOf (at_ cs k)) = rowsTo cs n (k + 1) := by
  unfold rowsTo
  have e1 : cs.take (k + 1) = cs.take k ++ [at_ cs k] := by
    rw [List.take_succ_eq_append_getElem (by omega)]
    simp [at_, show k < cs.length by omega]
  have hl : ((cs.take k).map rowOf).length = k := by simp; omega
  rw [List.set_append_right _ _ (by omega), hl, Nat.sub_self, show n - k = (n - (k + 1)) + 1 by omega, List.replicate_succ, List.set_cons_zero, e1, List.map_append, List.append_assoc]
  rfl
theorem rowsTo_same {cs : List Int} {n k : Nat} (hc : cs.length = n) (hk : k < n) (h : ¬ at_ cs k < far) : rowsTo cs n (k + 1) = rowsTo cs n k := by
  rw [← rowsTo_succ hc hk]
  have hl : ((cs.take k).map rowOf).length = k := by simp; omega
  have e1 : rowOf (at_ cs k) = ReachRow.mk false 0 (.slice none 0 0) [] := by unfold rowOf; rw [if_neg h]
  rw [e1]
  unfold rowsTo
  rw [List.set_append_right _ _ (by omega), hl, Nat.sub_self, show n - k = (n - (k + 1)) + 1 by omega, List.replicate_succ, List.set_cons_zero]
theorem rowsTo_all {cs : List Int} {n : Nat} (hc : cs.length = n) : rowsTo cs n n = cs.map rowOf := by
  unfold rowsTo; rw [Nat.sub_self, List.take_of_length_le (by omega)]; simp
theorem rowsTo_zero (cs : List Int) (n : Nat) : rowsTo cs n 0 = List.replicate n (ReachRow.mk false 0 (.slice none 0 0) []) := by simp [rowsTo]

theorem hops_rowOf (cs : List Int) : (cs.map rowOf).map ReachRow.hops = List.replicate cs.length [] := by
  induction cs with
  | nil => rfl
  | cons x r ih =>
    simp only [List.map_cons, List.length_cons, List.replicate_succ, ih]
    congr 1
    unfold rowOf; split <;> rfl

/-- no router is 0 -/
def NoZero (rows : List NodeRow) : Prop := ∀ r ∈ rows, r.node.network = false → r.node.id ≠ 0

theorem from_out (A : Option Addr) (n c : Nat) (root : Int) (w : World) (h : root < 0 ∨ (n : Int) ≤ root) :
    Calls Try.prog 16 #[.slice A n c, .int .i64 root] w fun e w' => e = .returned (.slice none 0 0) ∧ w = w' := by
  rcases h with h | h
  · go_enter Try.func16, Try.ntmps16
    go_wp2
    go_ret
    exact ⟨rfl, rfl⟩
  · by_cases h0 : root < 0
    · go_enter Try.func16, Try.ntmps16
      go_wp2
      go_ret
      exact ⟨rfl, rfl⟩
    · go_enter Try.func16, Try.ntmps16
      go_wp2
      go_ret
      exact ⟨rfl, rfl⟩

def FromRes (w : World) (rows : List NodeRow) (root : Nat) (e : Ending) (w' : World) : Prop :=
  ∃ v rs c, e = .returned v ∧ OutAt w' w.heap.size v rs ∧ Below w.heap.size w w' ∧ Costs (nodesOf rows) root c ∧ Hops (nodesOf rows) root c (rs.map ReachRow.hops) ∧
    rs.map (fun r => (r.is, r.cost)) = c.map fun x => if x < far then (true, x) else (false, 0)
def FromPost (w : World) (rows : List NodeRow) (root : Nat) (e : Ending) (w' : World) : Prop :=
  (NoZero rows ∧ FromRes w rows root e w') ∨ (¬ NoZero rows ∧ e = .returned (.slice none 0 0) ∧ Below w.heap.size w w')

set_option maxRecDepth 100000 in
set_option maxHeartbeats 4000000 in
theorem from_any (rows : List NodeRow) (gv : Value) (root : Nat) (w : World) (hg : GraphAt w w.heap.size gv rows) (hok : okG (nodesOf rows)) (hr : root < rows.length) (hn : rows.length ≤ 250)
    (hU : (esOf (nodesOf rows) root).length * (rows.length + 1) ≤ 400000) :
    Calls Try.prog 16 #[gv, .int .i64 root] w (FromPost w rows root) := by
  have hgs := hg.sl
  obtain ⟨_, A, c, rfl, _, _, _⟩ := hgs
  have hn1 : decide ((root : Int) < 0) = false := decide_eq_false (by omega)
  have hn2 : decide ((rows.length : Int) ≤ (root : Int)) = false := decide_eq_false (by omega)
  have hn3 : decide (rows.length ≤ root) = false := decide_eq_false (by omega)
  go_enter Try.func16, Try.ntmps16
  go_wp2_with fail
  clear hn1 hn2 hn3
  go_loopg [20] rows.length (fun m i wr => ∃ k : Nat, k ≤ rows.length ∧ m = rows.length - k ∧ i = .int .i64 k ∧ (∀ j (hj : j < rows.length), j < k → rows[j].node.network = false → rows[j].node.id ≠ 0) ∧ Below w.heap.size w wr)
  case atStart => exact ⟨0, Nat.zero_le _, rfl, rfl, fun _ _ h => absurd h (by omega), Below.refl _ _⟩
  case round =>
    obtain ⟨k, hk, rfl, rfl, hnz, hbk⟩ := hrel
    obtain ⟨w1, rfl⟩ : ∃ x : World, x = wr := ⟨_, rfl⟩
    have Hnz := Lib.hid hnz
    clear hnz
    have hg1 := hg.below hbk
    by_cases hkl : k < rows.length
    · obtain ⟨bg, og, rfl, hbg, hrow⟩ := Sl.row nodeCells_len hg1.sl hkl
      have h0 := hrow 0 _ rfl
      have h1 := hrow 1 _ rfl
      have h2 := hrow 2 _ rfl
      have h3 := hrow 3 _ rfl
      have h4 := hrow 4 _ rfl
      have h5 := hrow 5 _ rfl
      have h6 := hrow 6 _ rfl
      simp only [Nat.add_zero] at h0
      obtain ⟨_, A5, c5, he5, _⟩ := hg1.edges _ (List.getElem_mem hkl)
      obtain ⟨A6, n6, c6, he6⟩ := hg1.svs _ (List.getElem_mem hkl)
      rw [he5] at h5
      rw [he6] at h6
      have Hg := Lib.hid hg
      have hzw : w.heap.size ≤ w1.heap.size := hbk.size
      clear hrow he5 he6 hg1 hg
      generalize hnet : rows[k].node.network = net at *
      generalize hid : rows[k].node.id = ident at *
      have Hnet := Lib.hid hnet
      have Hid' := Lib.hid hid
      clear hnet hid
      cases net
      · by_cases hz : ident = 0
        · have hzb : (ident == 0) = true := beq_iff_eq.2 hz
          have Hz := Lib.hid hz
          clear hz
          go_wp2_with fail
          go_ret
          exact .inr ⟨fun h => h _ (List.getElem_mem hkl) Hnet.out (by rw [Hid'.out]; exact Hz.out), rfl, hbk.alloc (by omega) _⟩
        · have hzb : (ident == 0) = false := beq_eq_false_iff_ne.2 hz
          have Hz := Lib.hid hz
          clear hz
          go_wp2_with fail
          go_roundg (rows.length - (k + 1))
          case measure => omega
          case rel =>
            refine ⟨k + 1, by omega, rfl, by go_num, fun j hj hjk hjn => ?_, hbk.alloc (by omega) _⟩
            by_cases e : j = k
            · subst e; rw [Hid'.out]; exact Hz.out
            · exact Hnz.out j hj (by omega) hjn
      · go_wp2_with fail
        go_roundg (rows.length - (k + 1))
        case measure => omega
        case rel =>
          refine ⟨k + 1, by omega, rfl, by go_num, fun j hj hjk hjn => ?_, hbk.alloc (by omega) _⟩
          by_cases e : j = k
          · subst e; rw [Hnet.out] at hjn; cases hjn
          · exact Hnz.out j hj (by omega) hjn
    · obtain rfl : k = rows.length := by omega
      have hNZ : Hid (NoZero rows) := fun r hr hrn => by
        obtain ⟨j, hj, rfl⟩ := List.mem_iff_getElem.1 hr
        exact Hnz.out j hj hj hrn
      have Hg1 := Lib.hid hg1
      have hzw : w.heap.size ≤ w1.heap.size := hbk.size
      go_wp2_with fail
      clear hg hg1
      have HC : Hid (∀ W, Below w1.heap.size w1 W → Calls Try.prog 29 #[.slice A rows.length c, .int .i64 root] W (CostPost W (nodesOf rows) root)) := fun W hW =>
        costs_any rows _ root W ((Hg1.out.below (hW.mono hzw)).more (by have := hW.size; omega)) hok hr hn
      obtain ⟨Z, hZ, hmk⟩ := make_ex reachT reachCells reachCells_len (ReachRow.mk false 0 (.slice none 0 0) []) (by kernel_rfl) rows.length (by omega) (by omega)
      have HZ := Lib.hid hZ
      clear hZ
      go_region_held3 (fun W => Below w1.heap.size w1 W) (first | exact (Below.refl _ _).drew | assumption | exact Below.alloc (by assumption) (Below.size (by assumption)) _)
        (first
          | (go_at_call 29; refine Calls.mono (HC.out _ (by assumption)) ?_; rintro e wc ⟨cv, cs, rfl, hownc, hcosts, hBc⟩; obtain ⟨Ac, cc, rfl⟩ := hopValue hownc; have hBc' : Below w1.heap.size w1 wc := Below.trans (by assumption) (hBc.mono (Below.size (by assumption)))))
      all_goals
        have hcl : cs.length = rows.length := by rw [hcosts.len, nodesOf_len]
        have hZs : Z.size = rows.length * 3 := by rw [← Array.length_toList, HZ.out, flat_len reachCells_len, List.length_replicate]
        first
          | (have hsz : Below w1.drew.heap.size w1.drew wc := hBc
             have hrow := (World.ownsRow_lit (base := w1.heap.size) (e := 59) (size := 3) wc Z rows.length hBc'.size (by simp only [maxLen]; omega) hZs).alloc (Obj.cells #[.slice A rows.length c, .int .i64 root, .slice Ac cs.length cc, .slice (some ⟨wc.heap.size, 0, none⟩) rows.length rows.length] 97)
             have hblk : Blk ((wc.alloc (Obj.cells Z 59)).alloc (Obj.cells #[.slice A rows.length c, .int .i64 root, .slice Ac cs.length cc, .slice (some ⟨wc.heap.size, 0, none⟩) rows.length rows.length] 97)) (wc.heap.size + 1) 97 #[.slice A rows.length c, .int .i64 root, .slice Ac cs.length cc, .slice (some ⟨wc.heap.size, 0, none⟩) rows.length rows.length] := by
               have := Blk.new (wc.alloc (Obj.cells Z 59)) 97 #[.slice A rows.length c, .int .i64 root, .slice Ac cs.length cc, .slice (some ⟨wc.heap.size, 0, none⟩) rows.length rows.length]
               rwa [World.size_alloc] at this
             have hcost := ((own_mono hownc (Nat.le_refl _)).alloc (Obj.cells Z 59)).alloc (Obj.cells #[.slice A rows.length c, .int .i64 root, .slice Ac cs.length cc, .slice (some ⟨wc.heap.size, 0, none⟩) rows.length rows.length] 97)
             have hB2 : Below w1.heap.size w1 ((wc.alloc (Obj.cells Z 59)).alloc (Obj.cells #[.slice A rows.length c, .int .i64 root, .slice Ac cs.length cc, .slice (some ⟨wc.heap.size, 0, none⟩) rows.length rows.length] 97)) := (hBc'.alloc hBc'.size _).alloc (by have := hBc'.size; simp; omega) _
             have hgw : wc.heap.size ≠ wc.heap.size + 1 := by omega
             have hgo1 : w1.heap.size ≤ wc.heap.size := hBc'.size
             clear hBc hBc' hsz
             generalize (wc.alloc (Obj.cells Z 59)).alloc (Obj.cells #[.slice A rows.length c, .int .i64 root, .slice Ac cs.length cc, .slice (some ⟨wc.heap.size, 0, none⟩) rows.length rows.length] 97) = w2 at *
             generalize hwb : wc.heap.size + 1 = wb at *
             generalize hgo : wc.heap.size = go at *
             clear hwb hgo)
          | (have hsz : (w1.alloc (Obj.cells Z 59)).drew.heap.size = w1.heap.size + 1 := by simp
             rw [hsz] at hBc hownc
             have hrow0 := World.ownsRow_lit (base := w1.heap.size) (e := 59) (size := 3) w1 Z rows.length (Nat.le_refl _) (by simp only [maxLen]; omega) hZs
             have hrow1 := own_same (w' := wc) hrow0 (fun k hk => hBc.block k (by injection hk with hk; rw [← hk]; exact Nat.lt_succ_self _))
             have hrow := hrow1.alloc (Obj.cells #[.slice A rows.length c, .int .i64 root, .slice Ac cs.length cc, .slice (some ⟨w1.heap.size, 0, none⟩) rows.length rows.length] 97)
             have hblk := Blk.new wc 97 #[.slice A rows.length c, .int .i64 root, .slice Ac cs.length cc, .slice (some ⟨w1.heap.size, 0, none⟩) rows.length rows.length]
             have hcost := (own_mono (base' := w1.heap.size) hownc (by omega)).alloc (Obj.cells #[.slice A rows.length c, .int .i64 root, .slice Ac cs.length cc, .slice (some ⟨w1.heap.size, 0, none⟩) rows.length rows.length] 97)
             have hB2 : Below w1.heap.size w1 (wc.alloc (Obj.cells #[.slice A rows.length c, .int .i64 root, .slice Ac cs.length cc, .slice (some ⟨w1.heap.size, 0, none⟩) rows.length rows.length] 97)) := hBc'.alloc hBc'.size _
             have hgw : w1.heap.size ≠ wc.heap.size := by have := hBc.size; simp at this; omega
             have hgo1 : w1.heap.size ≤ w1.heap.size := Nat.le_refl _
             clear hBc hBc' hsz hrow0 hrow1
             generalize wc.alloc (Obj.cells #[.slice A rows.length c, .int .i64 root, .slice Ac cs.length cc, .slice (some ⟨w1.heap.size, 0, none⟩) rows.length rows.length] 97) = w2 at *
             generalize hwb : wc.heap.size = wb at *
             have hgow : ∃ go, w1.heap.size = go := ⟨_, rfl⟩
             clear hwb)
      · rw [HZ.out, ← rowsTo_zero cs] at hrow
        obtain ⟨gc, cc2, hcv, hcb, hcg⟩ := hcost.form (by omega)
        simp only [Value.slice.injEq] at hcv
        obtain ⟨rfl, _, rfl⟩ := hcv
        have hw2c : w2.cell? ⟨wb, 2, none⟩ = some (.slice (some ⟨gc, 0, none⟩) cs.length cc) := hblk.cell 2
        have hgcgo : gc ≠ go := fun h => own_ne hcost hrow (by decide) rfl (by rw [h]; rfl)
        have hwbl := hblk.lt
        have hgol : go < w2.heap.size := (hrow.lt go rfl).2
        have Hhc := Lib.hid hcl
        go_wp2_with fail
        go_loopg [48] cs.length (fun m i wr => ∃ k : Nat, k ≤ cs.length ∧ m = cs.length - k ∧ i = .int .i64 k ∧ wr.ownsRow w1.heap.size 59 3 (.slice (some ⟨go, 0, none⟩) rows.length rows.length) rows.length ((rowsTo cs rows.length k).flatMap reachCells) ∧ w2.grownBy wr (some go))
        case atStart => exact ⟨0, Nat.zero_le _, rfl, rfl, hrow, grown_refl _ _⟩
        case round =>
          obtain ⟨k, hk, rfl, rfl, hok1, hgk⟩ := hrel
          obtain ⟨w3, rfl⟩ : ∃ x : World, x = wr := ⟨_, rfl⟩
          by_cases hkl : k < cs.length
          · have hx := (hgk.cell_far ⟨gc, k, none⟩ hcg (by simpa using hgcgo)).trans ((hcost.cellAt k (by omega)).trans (u64s_get hkl))
            have hd3 := (hgk.cell_far ⟨wb, 3, none⟩ hwbl (by simpa using Ne.symm hgw)).trans (hblk.cell 3)
            have hd3' : w3.cell? ⟨wb, 3, none⟩ = some (.slice (some ⟨go, 0, none⟩) rows.length rows.length) := hd3
            have hrng := hcosts.rng k hkl
            obtain ⟨hr0, hr1⟩ := hrng
            have hkn : k < rows.length := by rw [← Hhc.out]; exact hkl
            have Hr1 := Lib.hid hr1
            clear hd3 hr1 hcl
            by_cases hf : at_ cs k < far
            · have hf' : at_ cs k < 4294967296 := hf
              have Hf := Lib.hid hf
              clear hf
              go_wp2_with (refine wpList_store_own rfl 59 (.tmp 63) (.tmp 62) rfl (k := k * 3) (reachCells (rowOf (at_ cs k))) rfl rfl hok1 (by unfold rowOf; rw [if_pos Hf.out]; rfl) (by rw [reachCells_len]; kernel_rfl) (by unfold rowOf; rw [if_pos Hf.out]; simp [reachCells, Value.oneCell']) (by rw [reachCells_len]; omega) ?_; intro w4 hown4 hgr4)
              go_roundg (cs.length - (k + 1))
              case measure => omega
              case rel =>
                rw [flat_splice reachCells_len _ k (by rw [rowsTo_len Hhc.out (by omega)]; exact hkn), rowsTo_succ Hhc.out hkn] at hown4
                exact ⟨k + 1, by omega, rfl, by go_num, hown4, grown_trans hgk hgr4⟩
            · have hf' : ¬ at_ cs k < 4294967296 := hf
              have Hf := Lib.hid hf
              clear hf
              go_wp2_with fail
              go_roundg (cs.length - (k + 1))
              case measure => omega
              case rel =>
                rw [← rowsTo_same Hhc.out hkn (Int.not_lt.2 Hf.out)] at hok1
                exact ⟨k + 1, by omega, rfl, by go_num, hok1, hgk⟩
          · obtain rfl : k = cs.length := by omega
            rw [Hhc.out, rowsTo_all Hhc.out] at hok1
            have hblk3 := hblk.same (hgk.block wb hwbl (by simpa using Ne.symm hgw))
            have hg3 : GraphAt w3 w.heap.size (.slice A rows.length c) rows := graph_keep Hg1.out fun p hp => (hgk.cell_far p (by have := hB2.size; omega) (by simp; omega)).trans (hB2.cell (by omega))
            have hcost3 := own_same hcost (fun j hj => hgk.block j (hcost.lt j hj).2 (fun e => own_ne hcost hrow (by decide) hj e.symm))
            have hw3z : w1.heap.size ≤ w3.heap.size := Nat.le_trans hB2.size hgk.size
            have hlen : (cs.map rowOf).length = rows.length := by rw [List.length_map]; exact Hhc.out
            have hout3 : OutAt w3 w1.heap.size (.slice (some ⟨go, 0, none⟩) rows.length rows.length) (cs.map rowOf) := by
              refine ⟨by rw [hlen]; exact hok1, fun r hr => ?_⟩
              obtain ⟨x, _, rfl⟩ := List.mem_map.1 hr
              unfold rowOf
              split <;> exact World.ownsRow_nil _ _ _ _
            have hh0 : (cs.map rowOf).map ReachRow.hops = List.replicate rows.length [] := by rw [← Hhc.out]; exact hops_rowOf cs
            have HS : Hid (Calls Try.prog 30 #[.pointer (some ⟨wb, 0, none⟩)] w3 _) := spread_any rows w.heap.size w1.heap.size wb _ _ _ root cs (cs.map rowOf) w3 hblk3 hg3 hzw hw3z hok hr hn hU hcost3 Hhc.out hcosts.rng (by simp [Value.ownBlock]; exact hgw) hout3 hlen hh0
            clear hlen hh0
            go_wp2_with fail
            refine Calls.mono HS.out ?_
            rintro e w5 ⟨rfl, rs, hH, hics, hout5, hgr5⟩
            have hd5 : w5.cell? ⟨wb, 3, none⟩ = some (.slice (some ⟨go, 0, none⟩) rows.length rows.length) := (hgr5.cell_far ⟨wb, 3, none⟩ hblk3.lt (by simp [Value.ownBlock]; exact Ne.symm hgw)).trans (hblk3.cell 3)
            go_wp2_with fail
            go_ret
            refine .inl ⟨hNZ.out, _, rs, cs, rfl, ⟨own_mono hout5.row hzw, fun r hr => own_mono (hout5.hop r hr) hzw⟩, ?_, hcosts, hH, ?_⟩
            · refine hbk.trans ((hB2.mono hzw).trans (Below.trans (below_of_grown hgk (by have := hB2.size; omega) (fun g hg => by injection hg with hg; omega)) (below_of_grown hgr5 (by omega) (fun g hg => by
                have hg' : some go = some g := hg
                injection hg' with hg'; omega))))
            · rw [hics, List.map_map]
              refine List.map_congr_left fun x _ => ?_
              show ((rowOf x).is, (rowOf x).cost) = _
              unfold rowOf
              split <;> rfl
      · rw [HZ.out, ← rowsTo_zero cs] at hrow
        obtain ⟨gc, cc2, hcv, hcb, hcg⟩ := hcost.form (by omega)
        simp only [Value.slice.injEq] at hcv
        obtain ⟨rfl, _, rfl⟩ := hcv
        have hw2c : w2.cell? ⟨wb, 2, none⟩ = some (.slice (some ⟨gc, 0, none⟩) cs.length cc) := hblk.cell 2
        have hgcgo : gc ≠ w1.heap.size := fun h => own_ne hcost hrow (by decide) rfl (by rw [h]; rfl)
        have hwbl := hblk.lt
        have hgol : w1.heap.size < w2.heap.size := (hrow.lt w1.heap.size rfl).2
        have Hhc := Lib.hid hcl
        go_wp2_with fail
        go_loopg [48] cs.length (fun m i wr => ∃ k : Nat, k ≤ cs.length ∧ m = cs.length - k ∧ i = .int .i64 k ∧ wr.ownsRow w1.heap.size 59 3 (.slice (some ⟨w1.heap.size, 0, none⟩) rows.length rows.length) rows.length ((rowsTo cs rows.length k).flatMap reachCells) ∧ w2.grownBy wr (some w1.heap.size))
        case atStart => exact ⟨0, Nat.zero_le _, rfl, rfl, hrow, grown_refl _ _⟩
        case round =>
          obtain ⟨k, hk, rfl, rfl, hok1, hgk⟩ := hrel
          obtain ⟨w3, rfl⟩ : ∃ x : World, x = wr := ⟨_, rfl⟩
          by_cases hkl : k < cs.length
          · have hx := (hgk.cell_far ⟨gc, k, none⟩ hcg (by simpa using hgcgo)).trans ((hcost.cellAt k (by omega)).trans (u64s_get hkl))
            have hd3 := (hgk.cell_far ⟨wb, 3, none⟩ hwbl (by simpa using Ne.symm hgw)).trans (hblk.cell 3)
            have hd3' : w3.cell? ⟨wb, 3, none⟩ = some (.slice (some ⟨w1.heap.size, 0, none⟩) rows.length rows.length) := hd3
            have hrng := hcosts.rng k hkl
            obtain ⟨hr0, hr1⟩ := hrng
            have hkn : k < rows.length := by rw [← Hhc.out]; exact hkl
            have Hr1 := Lib.hid hr1
            clear hd3 hr1 hcl
            by_cases hf : at_ cs k < far
            · have hf' : at_ cs k < 4294967296 := hf
              have Hf := Lib.hid hf
              clear hf
              go_wp2_with (refine wpList_store_own rfl 59 (.tmp 63) (.tmp 62) rfl (k := k * 3) (reachCells (rowOf (at_ cs k))) rfl rfl hok1 (by unfold rowOf; rw [if_pos Hf.out]; rfl) (by rw [reachCells_len]; kernel_rfl) (by unfold rowOf; rw [if_pos Hf.out]; simp [reachCells, Value.oneCell']) (by rw [reachCells_len]; omega) ?_; intro w4 hown4 hgr4)
              go_roundg (cs.length - (k + 1))
              case measure => omega
              case rel =>
                rw [flat_splice reachCells_len _ k (by rw [rowsTo_len Hhc.out (by omega)]; exact hkn), rowsTo_succ Hhc.out hkn] at hown4
                exact ⟨k + 1, by omega, rfl, by go_num, hown4, grown_trans hgk hgr4⟩
            · have hf' : ¬ at_ cs k < 4294967296 := hf
              have Hf := Lib.hid hf
              clear hf
              go_wp2_with fail
              go_roundg (cs.length - (k + 1))
              case measure => omega
              case rel =>
                rw [← rowsTo_same Hhc.out hkn (Int.not_lt.2 Hf.out)] at hok1
                exact ⟨k + 1, by omega, rfl, by go_num, hok1, hgk⟩
          · obtain rfl : k = cs.length := by omega
            rw [Hhc.out, rowsTo_all Hhc.out] at hok1
            have hblk3 := hblk.same (hgk.block wb hwbl (by simpa using Ne.symm hgw))
            have hg3 : GraphAt w3 w.heap.size (.slice A rows.length c) rows := graph_keep Hg1.out fun p hp => (hgk.cell_far p (by have := hB2.size; omega) (by simp; omega)).trans (hB2.cell (by omega))
            have hcost3 := own_same hcost (fun j hj => hgk.block j (hcost.lt j hj).2 (fun e => own_ne hcost hrow (by decide) hj e.symm))
            have hw3z : w1.heap.size ≤ w3.heap.size := Nat.le_trans hB2.size hgk.size
            have hlen : (cs.map rowOf).length = rows.length := by rw [List.length_map]; exact Hhc.out
            have hout3 : OutAt w3 w1.heap.size (.slice (some ⟨w1.heap.size, 0, none⟩) rows.length rows.length) (cs.map rowOf) := by
              refine ⟨by rw [hlen]; exact hok1, fun r hr => ?_⟩
              obtain ⟨x, _, rfl⟩ := List.mem_map.1 hr
              unfold rowOf
              split <;> exact World.ownsRow_nil _ _ _ _
            have hh0 : (cs.map rowOf).map ReachRow.hops = List.replicate rows.length [] := by rw [← Hhc.out]; exact hops_rowOf cs
            have HS : Hid (Calls Try.prog 30 #[.pointer (some ⟨wb, 0, none⟩)] w3 _) := spread_any rows w.heap.size w1.heap.size wb _ _ _ root cs (cs.map rowOf) w3 hblk3 hg3 hzw hw3z hok hr hn hU hcost3 Hhc.out hcosts.rng (by simp [Value.ownBlock]; exact hgw) hout3 hlen hh0
            clear hlen hh0
            go_wp2_with fail
            refine Calls.mono HS.out ?_
            rintro e w5 ⟨rfl, rs, hH, hics, hout5, hgr5⟩
            have hd5 : w5.cell? ⟨wb, 3, none⟩ = some (.slice (some ⟨w1.heap.size, 0, none⟩) rows.length rows.length) := (hgr5.cell_far ⟨wb, 3, none⟩ hblk3.lt (by simp [Value.ownBlock]; exact Ne.symm hgw)).trans (hblk3.cell 3)
            go_wp2_with fail
            go_ret
            refine .inl ⟨hNZ.out, _, rs, cs, rfl, ⟨own_mono hout5.row hzw, fun r hr => own_mono (hout5.hop r hr) hzw⟩, ?_, hcosts, hH, ?_⟩
            · refine hbk.trans ((hB2.mono hzw).trans (Below.trans (below_of_grown hgk (by have := hB2.size; omega) (fun g hg => by injection hg with hg; omega)) (below_of_grown hgr5 (by omega) (fun g hg => by
                have hg' : some w1.heap.size = some g := hg
                injection hg' with hg'; omega))))
            · rw [hics, List.map_map]
              refine List.map_congr_left fun x _ => ?_
              show ((rowOf x).is, (rowOf x).cost) = _
              unfold rowOf
              split <;> rfl

end Go.Proofs.Ytdilbcmnfpmijaa
