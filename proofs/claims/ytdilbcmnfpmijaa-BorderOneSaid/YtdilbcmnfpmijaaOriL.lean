/- lodestarlaw22's view: a view for the program. Conditions: the ports lie in memory, at most 1000. -/
import Derived.Test.YtdilbcmnfpmijaaOriK
namespace Go.Proofs.Ytdilbcmnfpmijaa
open Go.RowKit Go.Lo

theorem own_grown {w w' : World} {b b2 s s2 n n2 : Nat} {e e2 : TypeId} {v v2 : Value} {xs xs2 : List Value} (ho : w.ownsRow b e s v n xs) (h2 : w.ownsRow b2 e2 s2 v2 n2 xs2) (hg : w.grownBy w' v.ownBlock) (hne : e ≠ e2) : w'.ownsRow b2 e2 s2 v2 n2 xs2 := by
  refine own_same h2 fun k hk => hg.block k (h2.lt k hk).2 fun hc => ?_
  rcases h2.2 with h' | ⟨g, cap, cur, rfl, _, hh, _⟩
  · rw [h'.1] at hk
    cases hk
  · obtain rfl : g = k := Option.some.inj hk
    rcases ho.2 with h'' | ⟨g', cap', cur', rfl, _, hh', _⟩
    · rw [h''.1] at hc
      cases hc
    · obtain rfl : g = g' := Option.some.inj hc
      have h4 := hh.symm.trans hh'
      simp only [Option.some.injEq, Obj.cells.injEq] at h4
      exact hne h4.2.1.symm

theorem portT : ElT Try.prog 36 73 10 64 := ⟨by kernel_rfl, by
  obtain ⟨i, hi, h1, h2, h3⟩ := info_parts (show (Try.prog.info? 73).map (fun i => (i.zero, i.size, i.bytes)) = some (some (.agg #[.int .u8 0, .int .u8 0, .int .u32 0, .int .u32 0, .int .u8 0, .int .u16 0, .int .u32 0, .bool false, .slice none 0 0, .int .u32 0]), 10, 64) by kernel_rfl)
  exact ⟨i, _, hi, h1, h2, h3, rfl⟩, by omega⟩

/-- a port without where its neighbours lie -/
def strip (p : OPort) : OPort := { p with fv := .slice none 0 0 }
theorem strip_mem {ps qs : List OPort} (h : qs.map strip = ps.map strip) {q : OPort} (hq : q ∈ qs) : ∃ p ∈ ps, strip q = strip p := by
  have := List.mem_map_of_mem (f := strip) hq
  rw [h] at this
  obtain ⟨p, hp, e⟩ := List.mem_map.1 this
  exact ⟨p, hp, e.symm⟩
theorem routerL_strip (ps : List OPort) (most : Bool) : routerL (ps.map strip) most = routerL ps most := by
  unfold routerL
  rw [List.flatMap_map]
  rfl

/-- a view for the program -/
def ViewPost (w : World) (v : OView) (ps : List OPort) (e : Ending) (w' : World) : Prop :=
  ∃ pv qs, e = .returned (viewVal v pv) ∧ PortsAt w' w'.heap.size pv qs ∧ qs.map strip = ps.map strip ∧ Below w.heap.size w w'

set_option maxRecDepth 100000 in
set_option maxHeartbeats 2000000 in
theorem view22_any (v : OView) (pv : Value) (ps : List OPort) (w : World) (hp : PortsAt w w.heap.size pv ps) (hn : ps.length ≤ 1000) :
    Calls Try.prog 13 #[viewVal v pv] w (ViewPost w v ps) := by
  obtain ⟨router, border, outer, ends, always, most⟩ := v
  have hps := hp.1
  obtain ⟨_, A, c, rfl, _, _, _⟩ := hps
  have k0 : Blk (((w.alloc (.cells #[.int .u32 router, .bool border, .bool outer, .bool ends, .bool always, .bool most, .slice A ps.length c] 25)).alloc (.cells #[.int .u32 0, .bool false, .bool false, .bool false, .bool false, .bool false, .slice none 0 0] 38)).alloc (.cells #[.int .u32 router, .bool border, .bool outer, .bool ends, .bool always, .bool most, .slice none 0 0] 38)) w.heap.size 25 #[.int .u32 router, .bool border, .bool outer, .bool ends, .bool always, .bool most, .slice A ps.length c] := ((Blk.new _ _ _).alloc _).alloc _
  have k1 : Blk (((w.alloc (.cells #[.int .u32 router, .bool border, .bool outer, .bool ends, .bool always, .bool most, .slice A ps.length c] 25)).alloc (.cells #[.int .u32 0, .bool false, .bool false, .bool false, .bool false, .bool false, .slice none 0 0] 38)).alloc (.cells #[.int .u32 router, .bool border, .bool outer, .bool ends, .bool always, .bool most, .slice none 0 0] 38)) (w.heap.size + 1) 38 #[.int .u32 0, .bool false, .bool false, .bool false, .bool false, .bool false, .slice none 0 0] := Blk.alloc (heap_alloc2_new w _ _) _
  have k2 : Blk (((w.alloc (.cells #[.int .u32 router, .bool border, .bool outer, .bool ends, .bool always, .bool most, .slice A ps.length c] 25)).alloc (.cells #[.int .u32 0, .bool false, .bool false, .bool false, .bool false, .bool false, .slice none 0 0] 38)).alloc (.cells #[.int .u32 router, .bool border, .bool outer, .bool ends, .bool always, .bool most, .slice none 0 0] 38)) (w.heap.size + 1 + 1) 38 #[.int .u32 router, .bool border, .bool outer, .bool ends, .bool always, .bool most, .slice none 0 0] := Blk.new_ _ (by simp)
  have kB : Below w.heap.size w (((w.alloc (.cells #[.int .u32 router, .bool border, .bool outer, .bool ends, .bool always, .bool most, .slice A ps.length c] 25)).alloc (.cells #[.int .u32 0, .bool false, .bool false, .bool false, .bool false, .bool false, .slice none 0 0] 38)).alloc (.cells #[.int .u32 router, .bool border, .bool outer, .bool ends, .bool always, .bool most, .slice none 0 0] 38)) := (((Below.refl _ _).alloc (Nat.le_refl _) _).alloc (by simp) _).alloc (by simp; omega) _
  have kz : ((((w.alloc (.cells #[.int .u32 router, .bool border, .bool outer, .bool ends, .bool always, .bool most, .slice A ps.length c] 25)).alloc (.cells #[.int .u32 0, .bool false, .bool false, .bool false, .bool false, .bool false, .slice none 0 0] 38)).alloc (.cells #[.int .u32 router, .bool border, .bool outer, .bool ends, .bool always, .bool most, .slice none 0 0] 38)) : World).heap.size = w.heap.size + 1 + 1 + 1 := by simp
  go_enter Try.func13, Try.ntmps13
  go_wp2_with fail
  generalize (((w.alloc (.cells #[.int .u32 router, .bool border, .bool outer, .bool ends, .bool always, .bool most, .slice A ps.length c] 25)).alloc (.cells #[.int .u32 0, .bool false, .bool false, .bool false, .bool false, .bool false, .slice none 0 0] 38)).alloc (.cells #[.int .u32 router, .bool border, .bool outer, .bool ends, .bool always, .bool most, .slice none 0 0] 38)) = w0 at *
  go_loopg [4] ps.length (fun m i wr => ∃ (k : Nat) (lv : Value) (qs : List OPort), k ≤ ps.length ∧ m = ps.length - k ∧ i = .int .i64 k ∧ Blk wr (w.heap.size + 1 + 1) 38 #[.int .u32 router, .bool border, .bool outer, .bool ends, .bool always, .bool most, lv] ∧ qs.map strip = (ps.take k).map strip ∧ wr.ownsRow w0.heap.size 73 10 lv qs.length (qs.flatMap portCells) ∧ (∀ q ∈ qs, wr.ownsRow w0.heap.size 22 1 q.fv q.full.length (q.full.flatMap u32Cells)) ∧ (∀ b, b < w0.heap.size → b ≠ w.heap.size + 1 + 1 → wr.heap[b]? = w0.heap[b]?) ∧ Below w.heap.size w wr ∧ w0.heap.size ≤ wr.heap.size)
  case atStart => exact ⟨0, .slice none 0 0, [], Nat.zero_le _, rfl, rfl, k2, rfl, World.ownsRow_nil _ _ _ _, (fun _ h => by cases h), fun _ _ _ => rfl, kB, Nat.le_refl _⟩
  case round =>
    obtain ⟨k, lv, qs, hk, rfl, rfl, hT, hms, ho, hqs, hsame, hB, hz⟩ := hrel
    obtain ⟨w2, rfl⟩ : ∃ x : World, x = wr := ⟨_, rfl⟩
    obtain ⟨_, Al, cl, rfl, _⟩ := Sl.of_own ho
    have hX := k0.same (w' := w2) (hsame _ (by omega) (by omega))
    have x6 := hX.cell 6
    have t6 := hT.cell 6
    simp only [List.getElem?_toArray, List.getElem?_cons_zero, List.getElem?_cons_succ] at x6 t6
    have hql : qs.length = k := by
      have := congrArg List.length hms
      rw [List.length_map, List.length_map, List.length_take] at this
      omega
    by_cases hkl : k < ps.length
    · have hpk := hp.2 _ (List.getElem_mem hkl)
      obtain ⟨b, off, rfl, hb, hrow⟩ := Sl.row portCells_len (hp.1.below hB) hkl
      have htk : ps.take (k + 1) = ps.take k ++ [ps[k]] := List.take_succ_eq_append_getElem hkl
      obtain ⟨p, hpe⟩ : ∃ p, p = ps[k] := ⟨_, rfl⟩
      rw [← hpe] at hrow hpk htk
      obtain ⟨hpf, hpn, hpb, hpb', hpkind⟩ := hpk
      have hpv := hpf
      obtain ⟨_, Af, cf, hfv, _⟩ := hpf
      have q0 := hrow 0 _ rfl
      have q1 := hrow 1 _ rfl
      have q2 := hrow 2 _ rfl
      have q3 := hrow 3 _ rfl
      have q4 := hrow 4 _ rfl
      have q5 := hrow 5 _ rfl
      have q6 := hrow 6 _ rfl
      have q7 := hrow 7 _ rfl
      have q8 := hrow 8 _ rfl
      have q9 := hrow 9 _ rfl
      simp only [Nat.add_zero] at q0
      rw [hfv] at q8
      have hpe2 : portVal p = .agg #[.int .u8 p.kind, .int .u8 p.state, .int .u32 p.addr, .int .u32 p.netA, .int .u8 p.netB, .int .u16 p.cost, .int .u32 p.dr, .bool p.withDR, .slice Af p.full.length cf, .int .u32 p.remote] := by unfold portVal; rw [hfv]
      have HG := given22_any p w2.drew ⟨(hpv.below hB.drew).more hB.size, hpn, hpb, hpb'⟩
      rw [hpe2] at HG
      replace HG := Lib.hid HG
      have hlt : w.heap.size + 1 + 1 < w2.heap.size := hT.lt
      have hlt6 : ∀ b : Nat, b = w.heap.size + 1 + 1 → b < w2.heap.size := fun b hb => by omega
      clear hrow hpe hX
      rw [hql] at hT ho t6
      replace hql := Lib.hid hql
      replace hms := Lib.hid hms
      replace hT := Lib.hid hT
      replace hqs := Lib.hid hqs
      replace hsame := Lib.hid hsame
      replace ho := Lib.hid ho
      replace htk := Lib.hid htk
      replace hpv := Lib.hid hpv
      go_wp2_with fail
      go_region_law
        (first
          | (go_simp; go_at_call 23; refine Calls.mono HG.out ?_; rintro e wb ⟨A1, c1, rfl, ho1, hBb⟩; replace hBb : Below w2.heap.size w2 wb := below_of_drew hBb; have HO1 := Lib.hid ho1; clear ho1; have hTb : Blk wb (w.heap.size + 1 + 1) 38 #[.int .u32 router, .bool border, .bool outer, .bool ends, .bool always, .bool most, (.slice Al k cl)] := Blk.call hBb hT.out; have tb6 := hTb.cell 6; simp only [List.getElem?_toArray, List.getElem?_cons_zero, List.getElem?_cons_succ] at tb6; have hltb : w.heap.size + 1 + 1 < wb.heap.size := hTb.lt; replace hTb := Lib.hid hTb; have hob := own_alloc (own_below ho.out hBb) (.cells #[.int .u8 p.kind, .int .u8 p.state, .int .u32 p.addr, .int .u32 p.netA, .int .u8 p.netB, .int .u16 p.cost, .int .u32 p.dr, .bool p.withDR, .slice A1 p.full.length c1, .int .u32 p.remote] 73); replace hob := Lib.hid hob; dsimp only)
          | (refine step_append rfl (.tmp 26) (.tmp 33) 36 rfl w0.heap.size portT (.slice Al k cl) _ _ rfl hob.out _ _ _ _ rfl (Sl.lit wb _ _ (by simp [maxLen]) rfl) (by simp [Value.oneCell']) (by simp only [maxLen]; omega) (by omega) (by have := hBb.size; simp; omega) ?_; intro v3 w3 ho3 hg3 hob3; have hT3 : Blk w3 (w.heap.size + 1 + 1) 38 #[.int .u32 router, .bool border, .bool outer, .bool ends, .bool always, .bool most, (.slice Al k cl)] := (hTb.out.alloc (.cells #[.int .u8 p.kind, .int .u8 p.state, .int .u32 p.addr, .int .u32 p.netA, .int .u8 p.netB, .int .u16 p.cost, .int .u32 p.dr, .bool p.withDR, .slice A1 p.full.length c1, .int .u32 p.remote] 73)).same (hg3.block _ (hTb.out.alloc (.cells #[.int .u8 p.kind, .int .u8 p.state, .int .u32 p.addr, .int .u32 p.netA, .int .u8 p.netB, .int .u16 p.cost, .int .u32 p.dr, .bool p.withDR, .slice A1 p.full.length c1, .int .u32 p.remote] 73)).lt (fun e => by have := (hob.out.lt _ e.symm).1; omega)); have t3c := hT3.cell 6; have f3c := hT3.free 6; replace hg3 := Lib.hid hg3; replace ho3 := Lib.hid ho3; replace hT3 := Lib.hid hT3; obtain ⟨_, A3, c3, rfl, _⟩ := Sl.of_own ho3.out))
      all_goals
        have hqsz := hBb.size
        have hg3z := hg3.out.size
        have hsz1 : (wb.alloc (.cells #[.int .u8 p.kind, .int .u8 p.state, .int .u32 p.addr, .int .u32 p.netA, .int .u8 p.netB, .int .u16 p.cost, .int .u32 p.dr, .bool p.withDR, .slice A1 p.full.length c1, .int .u32 p.remote] 73)).heap.size = wb.heap.size + 1 := by simp
        have B3 : Below w.heap.size w w3 := ((hB.trans (hBb.mono hB.size)).alloc (by have := hB.size; omega) (.cells #[.int .u8 p.kind, .int .u8 p.state, .int .u32 p.addr, .int .u32 p.netA, .int .u8 p.netB, .int .u16 p.cost, .int .u32 p.dr, .bool p.withDR, .slice A1 p.full.length c1, .int .u32 p.remote] 73)).trans (below_of_grown hg3.out (by have := hB.size; omega) (fun g hg => by have h1 := (hob.out.lt g hg).1; have h2 := hB.size; omega))
        go_wp2
        go_roundg (ps.length - (k + 1))
        case measure => omega
        case rel =>
          refine ⟨k + 1, .slice A3 (k + 1) c3, qs ++ [{ p with fv := .slice A1 p.full.length c1 }], by omega, rfl, by go_num, hT3.out.set_ 6 _, ?_, ?_, ?_, ?_, ?_, ?_⟩
          · rw [htk.out, List.map_append, List.map_append, hms.out]
            rfl
          · rw [List.length_append, hql.out, List.flatMap_append]
            exact own_same ho3.out fun g hg => Below.heap_setCell w3 ⟨w.heap.size + 1 + 1, 6, none⟩ _ g (fun e => by have h1 := (ho3.out.lt g hg).1; have h2 : g = w.heap.size + 1 + 1 := e; omega)
          · intro q hq
            have hw : wb.ownsRow w0.heap.size 22 1 q.fv q.full.length (q.full.flatMap u32Cells) := by
              rcases List.mem_append.1 hq with h | h
              · exact own_below (hqs.out q h) hBb
              · obtain rfl := List.mem_singleton.1 h
                exact own_less HO1.out hz
            exact own_put ((Put.refl_ hT3.out).cell_ 6 _) (own_grown hob.out (own_alloc hw (.cells #[.int .u8 p.kind, .int .u8 p.state, .int .u32 p.addr, .int .u32 p.netA, .int .u8 p.netB, .int .u16 p.cost, .int .u32 p.dr, .bool p.withDR, .slice A1 p.full.length c1, .int .u32 p.remote] 73)) hg3.out (by decide)) (by decide)
          · exact fun b hb hne => (Below.heap_setCell w3 ⟨w.heap.size + 1 + 1, 6, none⟩ _ b hne).trans ((hg3.out.block b (by omega) (fun e => by have := (hob.out.lt b e.symm).1; omega)).trans ((Below.heap_alloc wb (.cells #[.int .u8 p.kind, .int .u8 p.state, .int .u32 p.addr, .int .u32 p.netA, .int .u8 p.netB, .int .u16 p.cost, .int .u32 p.dr, .bool p.withDR, .slice A1 p.full.length c1, .int .u32 p.remote] 73) b (by omega)).trans ((hBb.block b (by omega)).trans (hsame.out b hb hne))))
          · exact Below.setCell B3 (p := ⟨w.heap.size + 1 + 1, 6, none⟩) (by show w.heap.size ≤ w.heap.size + 1 + 1; omega) _
          · simp
            omega
    · obtain rfl : k = ps.length := by omega
      rw [List.take_length] at hms
      rw [hql] at ho
      have z0 := hT.cell 0
      have z1 := hT.cell 1
      have z2 := hT.cell 2
      have z3 := hT.cell 3
      have z4 := hT.cell 4
      have z5 := hT.cell 5
      have hR := k1.same (w' := w2) (hsame _ (by omega) (by omega))
      rw [hql] at t6
      have hqs' := Lib.hid hqs
      have ho' := Lib.hid ho
      have hms' := Lib.hid hms
      have hql' := Lib.hid hql
      clear hqs ho hms hql hsame hT hX
      go_wp2_with (refine wpList_store_row rfl 38 (.tmp 2) (.tmp 36) rfl (w.heap.size + 1) #[.int .u32 router, .bool border, .bool outer, .bool ends, .bool always, .bool most, (.slice Al ps.length cl)] rfl rfl 38 _ hR (by kernel_rfl) rfl (by simp [Value.oneCell']) ?_)
      have hset := setRow_heap w2 (w.heap.size + 1) _ #[.int .u32 router, .bool border, .bool outer, .bool ends, .bool always, .bool most, (.slice Al ps.length cl)] 38 (0, 0) hR
      refine bodyPost_ret (results_cell_row rfl _ _ (w.heap.size + 1) 38 #[.int .u32 router, .bool border, .bool outer, .bool ends, .bool always, .bool most, (.slice Al ps.length cl)] (0, 0) _ rfl hset Try.underlying38 rfl (by kernel_rfl)) rfl ?_
      refine ⟨.slice Al ps.length cl, qs, rfl, ⟨?_, fun q hq => ?_⟩, hms'.out, hB.trans ⟨rfl, rfl, rfl, by simp [World.setRow], fun k hk => setRow_other w2 _ k _ (by omega)⟩⟩
      · rw [hql'.out]
        exact Sl.of_own (own_same ho'.out fun k hk => setRow_other w2 _ k _ (by have := (ho'.out.lt k hk).1; omega))
      · obtain ⟨p, hpm, hpe⟩ := strip_mem hms'.out hq
        obtain ⟨_, h1, h2, h3, h4⟩ := hp.2 p hpm
        have e1 : (strip q).full = (strip p).full := congrArg OPort.full hpe
        have e2 : (strip q).netB = (strip p).netB := congrArg OPort.netB hpe
        have e3 : (strip q).kind = (strip p).kind := congrArg OPort.kind hpe
        simp only [strip] at e1 e2 e3
        exact ⟨Sl.of_own (own_same (hqs'.out q hq) fun k hk => setRow_other w2 _ k _ (by have := ((hqs'.out q hq).lt k hk).1; omega)), by rw [e1]; exact h1, by rw [e2]; exact h2, by rw [e2]; exact h3, by rw [e3]; exact h4⟩
end Go.Proofs.Ytdilbcmnfpmijaa
